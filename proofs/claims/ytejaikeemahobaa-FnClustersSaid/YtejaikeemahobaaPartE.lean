/- Texts of the proof: M02, R05, Q06, P04, SymX, SymY, Q08, Q09, V01, SymZ. -/
import Derived.RangeFuncNested
import Derived.Test.YtejaikeemahobaaPartD

/-! Bits of masks; relations as rows of masks; closures. -/
namespace Go.Proofs.Ytejaikeemahobaa
open Go.RowKit Go.Abs

theorem bv_nat (a : Nat) : BitVec.ofInt 64 (a : Int) = BitVec.ofNat 64 a := by simp
theorem toInt_lt {v : BitVec 64} (h : v.toNat < 2 ^ 62) : v.toInt = (v.toNat : Int) := by
  rw [BitVec.toInt_eq_toNat_cond, if_pos (by omega)]
theorem toNat_lt {a : Nat} (h : a < 2 ^ 62) : (BitVec.ofNat 64 a).toNat = a := by
  rw [BitVec.toNat_ofNat, Nat.mod_eq_of_lt (by omega)]
theorem bor_nat {a b : Nat} (ha : a < 2 ^ 62) (hb : b < 2 ^ 62) : bor (a : Int) (b : Int) = ((a ||| b : Nat) : Int) := by
  have h : (BitVec.ofNat 64 a ||| BitVec.ofNat 64 b).toNat = a ||| b := by rw [BitVec.toNat_or, toNat_lt ha, toNat_lt hb]
  rw [bor_bv, bv_nat, bv_nat, toInt_lt (by rw [h]; exact Nat.or_lt_two_pow ha hb), h]
theorem band_nat {a b : Nat} (ha : a < 2 ^ 62) (hb : b < 2 ^ 62) : band (a : Int) (b : Int) = ((a &&& b : Nat) : Int) := by
  have h : (BitVec.ofNat 64 a &&& BitVec.ofNat 64 b).toNat = a &&& b := by rw [BitVec.toNat_and, toNat_lt ha, toNat_lt hb]
  rw [band_bv, bv_nat, bv_nat, toInt_lt (by rw [h]; exact Nat.and_lt_two_pow _ hb), h]
theorem shl_nat {i : Nat} (h : i ≤ 62) : shl64 1 (i : Int) = ((2 ^ i : Nat) : Int) := by
  rw [shl_one _ (by omega) (by omega)]
  simp
theorem shr_nat {m i : Nat} (h : i ≤ 62) : shr64 (m : Int) (i : Int) = ((m / 2 ^ i : Nat) : Int) := by
  unfold shr64
  rw [show min (i : Int).toNat 64 = i by omega]
  rw [show ((2 : Int) ^ i) = ((2 ^ i : Nat) : Int) by simp]
  rw [Int.fdiv_eq_ediv_of_nonneg _ (Int.natCast_nonneg _)]
  rfl

/-- The bits of a mask. -/
def tb (m : Int) (i : Nat) : Bool := m.toNat.testBit i
def InM (n : Nat) (m : Int) : Prop := 0 ≤ m ∧ m.toNat < 2 ^ n
theorem inM_nat {n : Nat} {m : Int} (h : InM n m) : ∃ a : Nat, m = a ∧ a < 2 ^ n := ⟨m.toNat, by have := h.1; omega, h.2⟩
theorem inM_62 {n a : Nat} (hn : n ≤ 61) (h : a < 2 ^ n) : a < 2 ^ 62 := Nat.lt_of_lt_of_le h (Nat.pow_le_pow_right (by decide) (by omega))
theorem inM_bor {n : Nat} {a b : Int} (hn : n ≤ 61) (ha : InM n a) (hb : InM n b) : InM n (bor a b) := by
  obtain ⟨a, rfl, ha'⟩ := inM_nat ha
  obtain ⟨b, rfl, hb'⟩ := inM_nat hb
  rw [bor_nat (inM_62 hn ha') (inM_62 hn hb')]
  exact ⟨by omega, by simpa using Nat.or_lt_two_pow ha' hb'⟩
theorem tb_bor {n : Nat} {a b : Int} (hn : n ≤ 61) (ha : InM n a) (hb : InM n b) (i : Nat) : tb (bor a b) i = (tb a i || tb b i) := by
  obtain ⟨a, rfl, ha'⟩ := inM_nat ha
  obtain ⟨b, rfl, hb'⟩ := inM_nat hb
  rw [bor_nat (inM_62 hn ha') (inM_62 hn hb')]
  simp [tb, Nat.testBit_or]
theorem le_bor {n : Nat} {a b : Int} (hn : n ≤ 61) (ha : InM n a) (hb : InM n b) : a ≤ bor a b := by
  obtain ⟨a, rfl, ha'⟩ := inM_nat ha
  obtain ⟨b, rfl, hb'⟩ := inM_nat hb
  rw [bor_nat (inM_62 hn ha') (inM_62 hn hb')]
  exact Int.ofNat_le.2 Nat.left_le_or
theorem inM_one {n i : Nat} (hn : n ≤ 61) (hi : i < n) : InM n (shl64 1 (i : Int)) := by
  rw [shl_nat (by omega)]
  exact ⟨Int.natCast_nonneg _, by rw [Int.toNat_natCast]; exact Nat.pow_lt_pow_right (by decide) hi⟩
theorem tb_one {i : Nat} (hi : i ≤ 61) (j : Nat) : tb (shl64 1 (i : Int)) j = decide (i = j) := by
  rw [shl_nat (by omega)]
  unfold tb
  rw [Int.toNat_natCast, Nat.testBit_two_pow]
theorem inM_zero (n : Nat) : InM n 0 := ⟨Int.le_refl _, by simpa using Nat.two_pow_pos n⟩
theorem tb_zero (i : Nat) : tb 0 i = false := by simp [tb]
theorem tb_ext {a b : Int} (ha : 0 ≤ a) (hb : 0 ≤ b) (h : ∀ i, tb a i = tb b i) : a = b := by
  have := Nat.eq_of_testBit_eq (x := a.toNat) (y := b.toNat) h
  omega
theorem tb_lt {n : Nat} {m : Int} {i : Nat} (h : InM n m) (hi : tb m i = true) : i < n := by
  rcases Nat.lt_or_ge i n with h1 | h1
  · exact h1
  · have := Nat.testBit_lt_two_pow (Nat.lt_of_lt_of_le h.2 (Nat.pow_le_pow_right (by decide) h1))
    unfold tb at hi
    rw [this] at hi
    cases hi
theorem wrap_inM {n : Nat} {m : Int} (hn : n ≤ 61) (h : InM n m) : IntKind.i64.wrap m = m := by
  obtain ⟨a, rfl, ha⟩ := inM_nat h
  have := inM_62 hn ha
  exact wrap_id (by omega) (by omega)
theorem bnot_sub {n : Nat} {a b : Int} (hn : n ≤ 61) (ha : InM n a) (hb : InM n b) : bnot a b = 0 ↔ ∀ i, tb a i = true → tb b i = true := by
  rw [bnot_zero a b (wrap_inM hn ha)]
  obtain ⟨a, rfl, ha'⟩ := inM_nat ha
  obtain ⟨b, rfl, hb'⟩ := inM_nat hb
  rw [band_nat (inM_62 hn ha') (inM_62 hn hb')]
  simp only [tb, Int.toNat_natCast]
  constructor
  · intro h i hi
    have h1 : a &&& b = a := by omega
    rw [← h1, Nat.testBit_and] at hi
    simp only [Bool.and_eq_true] at hi
    exact hi.2
  · intro h
    congr 1
    apply Nat.eq_of_testBit_eq
    intro i
    rw [Nat.testBit_and]
    cases hi : a.testBit i with
    | false => rfl
    | true => rw [h i hi]; rfl
theorem has_tb {n i : Nat} {m : Int} (hn : n ≤ 61) (h : InM n m) (hi : i ≤ 61) : band (shr64 m (i : Int)) 1 = 1 ↔ tb m i = true := by
  obtain ⟨a, rfl, ha⟩ := inM_nat h
  have h1 : a / 2 ^ i < 2 ^ 62 := Nat.lt_of_le_of_lt (Nat.div_le_self _ _) (inM_62 hn ha)
  rw [shr_nat (by omega), show (1 : Int) = ((1 : Nat) : Int) from rfl, band_nat h1 (by decide), Nat.and_one_is_mod]
  simp only [tb, Int.toNat_natCast, Nat.testBit_eq_decide_div_mod_eq, decide_eq_true_eq]
  omega
theorem full_rng {n : Nat} {m : Int} (hn : n ≤ 61) : InM n m ↔ inR m 0 ((shl64 1 (n : Int)) - 1) = true := by
  rw [inR_iff, shl_nat (by omega)]
  unfold InM
  generalize 2 ^ n = q
  omega

/-- Steps along a relation. -/
def Edge (xs : List Int) (i j : Nat) : Prop := i < xs.length ∧ tb (xs.getD i 0) j = true
inductive Star (E : Nat → Nat → Prop) : Nat → Nat → Prop
  | refl (i : Nat) : Star E i i
  | tail {i j k : Nat} (h : Star E i j) (e : E j k) : Star E i k
theorem Star.trans {E : Nat → Nat → Prop} {i j k : Nat} (h : Star E i j) (h' : Star E j k) : Star E i k := by
  induction h' with
  | refl => exact h
  | tail _ e ih => exact .tail ih e
/-- Paths that pass only through points below b. -/
inductive Pth (E : Nat → Nat → Prop) (b : Nat) : Nat → Nat → Prop
  | edge {i k : Nat} (e : E i k) : Pth E b i k
  | via {i m k : Nat} (h : Pth E b i m) (hm : m < b) (h' : Pth E b m k) : Pth E b i k
theorem Pth.mono {E : Nat → Nat → Prop} {b b' i k : Nat} (hb : b ≤ b') (h : Pth E b i k) : Pth E b' i k := by
  induction h with
  | edge e => exact .edge e
  | via _ hm _ i1 i2 => exact .via i1 (by omega) i2
theorem Pth.zero {E : Nat → Nat → Prop} {i k : Nat} (h : Pth E 0 i k) : E i k := by
  cases h with
  | edge e => exact e
  | via _ hm _ => omega
theorem pth_step {E : Nat → Nat → Prop} {j i k : Nat} : Pth E (j + 1) i k ↔ Pth E j i k ∨ (Pth E j i j ∧ Pth E j j k) := by
  constructor
  · intro h
    induction h with
    | edge e => exact .inl (.edge e)
    | @via i m k _ hm _ i1 i2 =>
      by_cases hmj : m = j
      · subst hmj
        exact .inr ⟨i1.elim id (·.1), i2.elim id (·.2)⟩
      · have hlt : m < j := by omega
        rcases i1 with a | ⟨a, b⟩
        · rcases i2 with c | ⟨c, d⟩
          · exact .inl (.via a hlt c)
          · exact .inr ⟨.via a hlt c, d⟩
        · rcases i2 with c | ⟨c, d⟩
          · exact .inr ⟨a, .via b hlt c⟩
          · exact .inr ⟨a, d⟩
  · rintro (h | ⟨h, h'⟩)
    · exact h.mono (Nat.le_succ _)
    · exact .via (h.mono (Nat.le_succ _)) (Nat.lt_succ_self _) (h'.mono (Nat.le_succ _))
theorem pth_star {E : Nat → Nat → Prop} {n i k : Nat} (hE : ∀ i j, E i j → i < n) : (Pth E n i k ∨ i = k) ↔ Star E i k := by
  constructor
  · rintro (h | rfl)
    · induction h with
      | edge e => exact .tail (.refl _) e
      | via _ _ _ i1 i2 => exact i1.trans i2
    · exact .refl _
  · intro h
    induction h with
    | refl => exact .inr rfl
    | @tail j k _ e ih =>
      rcases ih with h | rfl
      · exact .inl (.via h (hE _ _ e) (.edge e))
      · exact .inl (.edge e)

/-- Rows of masks of n bits. -/
def RelOK (n : Nat) (xs : List Int) : Prop := xs.length = n ∧ ∀ j, j < n → InM n (xs.getD j 0)
theorem getD_set_if {α : Type} (xs : List α) (i j : Nat) (v d : α) (hi : i < xs.length) : (xs.set i v).getD j d = if i = j then v else xs.getD j d := by
  simp only [List.getD_eq_getElem?_getD, List.getElem?_set]
  split
  · rename_i h; subst h; simp [hi]
  · rfl
def wrow (out : List Int) (j i : Nat) : List Int := if band (shr64 (out.getD i 0) (j : Int)) 1 = 1 then out.set i (bor (out.getD i 0) (out.getD j 0)) else out
def win (out : List Int) (j : Nat) : Nat → List Int
  | 0 => out
  | i + 1 => wrow (win out j i) j i
def wout (xs : List Int) : Nat → List Int
  | 0 => xs
  | j + 1 => win (wout xs j) j xs.length
def rout (xs : List Int) : Nat → List Int
  | 0 => xs
  | i + 1 => (rout xs i).set i (bor ((rout xs i).getD i 0) (shl64 1 (i : Int)))
theorem win_ok {n : Nat} {out : List Int} (hn : n ≤ 61) (h : RelOK n out) {j : Nat} (hj : j < n) : ∀ i, i ≤ n → RelOK n (win out j i) ∧ ∀ p, p < n → (∀ k, tb ((win out j i).getD p 0) k = true ↔ tb (out.getD p 0) k = true ∨ (p < i ∧ tb (out.getD p 0) j = true ∧ tb (out.getD j 0) k = true))
  | 0, _ => ⟨h, fun p hp k => by simp [win]⟩
  | i + 1, hi => by
    obtain ⟨h1, h2⟩ := win_ok hn h hj i (by omega)
    have hm := has_tb (i := j) hn (h1.2 i (by omega)) (by omega)
    have hjj : ∀ k, tb ((win out j i).getD j 0) k = true ↔ tb (out.getD j 0) k = true := fun k => by rw [h2 j hj k]; constructor; (rintro (h | ⟨_, _, h⟩) <;> exact h); exact .inl
    simp only [win, wrow]
    split
    · rename_i hc
      have ht := hm.1 hc
      rw [h2 i (by omega)] at ht
      have ht' : tb (out.getD i 0) j = true := by rcases ht with h | ⟨h, _⟩; exact h; omega
      have hI := inM_bor hn (h1.2 i (by omega)) (h1.2 j hj)
      refine ⟨⟨by rw [List.length_set]; exact h1.1, fun p hp => ?_⟩, fun p hp k => ?_⟩
      · rw [getD_set_if _ _ _ _ _ (by rw [h1.1]; omega)]
        split
        · exact hI
        · exact h1.2 p hp
      · rw [getD_set_if _ _ _ _ _ (by rw [h1.1]; omega)]
        split
        · rename_i hip
          subst hip
          rw [tb_bor hn (h1.2 i (by omega)) (h1.2 j hj), Bool.or_eq_true, h2 i hp k, hjj k]
          constructor
          · rintro ((h | ⟨h, _⟩) | h)
            · exact .inl h
            · omega
            · exact .inr ⟨by omega, ht', h⟩
          · rintro (h | ⟨_, _, h⟩)
            · exact .inl (.inl h)
            · exact .inr h
        · rename_i hip
          rw [h2 p hp k]
          constructor
          · rintro (h | ⟨a, b⟩)
            · exact .inl h
            · exact .inr ⟨by omega, b⟩
          · rintro (h | ⟨a, b⟩)
            · exact .inl h
            · exact .inr ⟨by omega, b⟩
    · rename_i hc
      have ht : ¬ tb ((win out j i).getD i 0) j = true := fun h => hc (hm.2 h)
      rw [h2 i (by omega)] at ht
      refine ⟨h1, fun p hp k => ?_⟩
      rw [h2 p hp k]
      constructor
      · rintro (h | ⟨a, b⟩)
        · exact .inl h
        · exact .inr ⟨by omega, b⟩
      · rintro (h | ⟨a, b, c⟩)
        · exact .inl h
        · by_cases hpi : p = i
          · subst hpi; exact absurd (.inl b) ht
          · exact .inr ⟨by omega, b, c⟩
theorem wout_ok {n : Nat} {xs : List Int} (hn : n ≤ 61) (h : RelOK n xs) : ∀ j, j ≤ n → RelOK n (wout xs j) ∧ ∀ p, p < n → ∀ k, tb ((wout xs j).getD p 0) k = true ↔ Pth (Edge xs) j p k
  | 0, _ => ⟨h, fun p hp k => ⟨fun ht => .edge ⟨by rw [h.1]; exact hp, ht⟩, fun ht => ht.zero.2⟩⟩
  | j + 1, hj => by
    obtain ⟨h1, h2⟩ := wout_ok hn h j (by omega)
    obtain ⟨h3, h4⟩ := win_ok hn h1 (j := j) (by omega) xs.length (by rw [h.1]; exact Nat.le_refl _)
    refine ⟨h3, fun p hp k => ?_⟩
    rw [wout, h4 p hp k, h2 p hp k, h2 p hp j, h2 j (by omega) k, pth_step, h.1]
    simp [hp]
theorem rout_ok {n : Nat} {xs : List Int} (hn : n ≤ 61) (h : RelOK n xs) : ∀ i, i ≤ n → RelOK n (rout xs i) ∧ ∀ p, p < n → ∀ k, tb ((rout xs i).getD p 0) k = true ↔ tb (xs.getD p 0) k = true ∨ (p < i ∧ p = k)
  | 0, _ => ⟨h, fun p hp k => by simp [rout]⟩
  | i + 1, hi => by
    obtain ⟨h1, h2⟩ := rout_ok hn h i (by omega)
    have hI := inM_one hn (show i < n by omega)
    simp only [rout]
    refine ⟨⟨by rw [List.length_set]; exact h1.1, fun p hp => ?_⟩, fun p hp k => ?_⟩
    · rw [getD_set_if _ _ _ _ _ (by rw [h1.1]; omega)]
      split
      · exact inM_bor hn (h1.2 i (by omega)) hI
      · exact h1.2 p hp
    · rw [getD_set_if _ _ _ _ _ (by rw [h1.1]; omega)]
      split
      · rename_i hip
        subst hip
        rw [tb_bor hn (h1.2 i (by omega)) hI, Bool.or_eq_true, h2 i hp k, tb_one (by omega), decide_eq_true_iff]
        constructor
        · rintro ((h | ⟨h, _⟩) | h)
          · exact .inl h
          · omega
          · exact .inr ⟨by omega, h⟩
        · rintro (h | ⟨_, h⟩)
          · exact .inl (.inl h)
          · exact .inr h
      · rw [h2 p hp k]
        constructor
        · rintro (h | ⟨a, b⟩)
          · exact .inl h
          · exact .inr ⟨by omega, b⟩
        · rintro (h | ⟨a, b⟩)
          · exact .inl h
          · exact .inr ⟨by omega, b⟩
/-- What is reached from each point. -/
def clo (xs : List Int) : List Int := rout (wout xs xs.length) xs.length
theorem clo_ok {n : Nat} {xs : List Int} (hn : n ≤ 61) (h : RelOK n xs) : RelOK n (clo xs) ∧ ∀ p, p < n → ∀ k, tb ((clo xs).getD p 0) k = true ↔ Star (Edge xs) p k := by
  obtain ⟨h1, h2⟩ := wout_ok hn h n (Nat.le_refl _)
  obtain ⟨h3, h4⟩ := rout_ok hn h1 n (Nat.le_refl _)
  unfold clo
  rw [h.1]
  refine ⟨h3, fun p hp k => ?_⟩
  rw [h4 p hp k, h2 p hp k, ← pth_star (n := n) (fun i j e => by rw [← h.1]; exact e.1)]
  simp [hp]
/-- The image of a mask. -/
def img (xs : List Int) (m : Int) : Nat → Int
  | 0 => 0
  | i + 1 => if band (shr64 m (i : Int)) 1 = 1 then bor (img xs m i) (xs.getD i 0) else img xs m i
theorem img_ok {n : Nat} {xs : List Int} {m : Int} (hn : n ≤ 61) (h : RelOK n xs) (hm : InM n m) : ∀ i, i ≤ n → InM n (img xs m i) ∧ ∀ k, tb (img xs m i) k = true ↔ ∃ j, j < i ∧ tb m j = true ∧ tb (xs.getD j 0) k = true
  | 0, _ => ⟨inM_zero n, fun k => by simp [img, tb_zero]⟩
  | i + 1, hi => by
    obtain ⟨h1, h2⟩ := img_ok hn h hm i (by omega)
    have hb := has_tb (i := i) hn hm (by omega)
    simp only [img]
    split
    · rename_i hc
      refine ⟨inM_bor hn h1 (h.2 i (by omega)), fun k => ?_⟩
      rw [tb_bor hn h1 (h.2 i (by omega)), Bool.or_eq_true, h2 k]
      constructor
      · rintro (⟨j, a, b, c⟩ | hk)
        · exact ⟨j, by omega, b, c⟩
        · exact ⟨i, by omega, hb.1 hc, hk⟩
      · rintro ⟨j, a, b, c⟩
        by_cases hji : j = i
        · subst hji; exact .inr c
        · exact .inl ⟨j, by omega, b, c⟩
    · rename_i hc
      refine ⟨h1, fun k => ?_⟩
      rw [h2 k]
      constructor
      · rintro ⟨j, a, b, c⟩; exact ⟨j, by omega, b, c⟩
      · rintro ⟨j, a, b, c⟩
        by_cases hji : j = i
        · subst hji; exact absurd (hb.2 b) hc
        · exact ⟨j, by omega, b, c⟩
/-- r is what is reached from m. -/
def IsClos (n : Nat) (xs : List Int) (m r : Int) : Prop := InM n r ∧ ∀ k, tb r k = true ↔ ∃ j, tb m j = true ∧ Star (Edge xs) j k
theorem isClos_one {n : Nat} {xs : List Int} (hn : n ≤ 61) (h : RelOK n xs) {p : Nat} (hp : p < n) : IsClos n xs (shl64 1 (p : Int)) ((clo xs).getD p 0) := by
  obtain ⟨h1, h2⟩ := clo_ok hn h
  refine ⟨h1.2 p hp, fun k => ?_⟩
  rw [h2 p hp k]
  constructor
  · intro hs; exact ⟨p, by rw [tb_one (by omega)]; simp, hs⟩
  · rintro ⟨j, hj, hs⟩
    rw [tb_one (by omega), decide_eq_true_iff] at hj
    subst hj
    exact hs
theorem reach_step {n : Nat} {xs : List Int} {m0 m r : Int} (hn : n ≤ 61) (h : RelOK n xs) (hm : InM n m) (hr : IsClos n xs m0 r) (hs : ∀ k, tb m k = true → tb r k = true) : InM n (bor m (img xs m xs.length)) ∧ ∀ k, tb (bor m (img xs m xs.length)) k = true → tb r k = true := by
  obtain ⟨h1, h2⟩ := img_ok hn h hm xs.length (by rw [h.1]; exact Nat.le_refl _)
  refine ⟨inM_bor hn hm h1, fun k hk => ?_⟩
  rw [tb_bor hn hm h1, Bool.or_eq_true, h2 k] at hk
  rcases hk with hk | ⟨j, a, b, c⟩
  · exact hs k hk
  · obtain ⟨q, hq, hq2⟩ := (hr.2 j).1 (hs j b)
    exact (hr.2 k).2 ⟨q, hq, .tail hq2 ⟨a, c⟩⟩
theorem reach_mu {n : Nat} {xs : List Int} {m : Int} (hn : n ≤ 61) (h : RelOK n xs) (hm : InM n m) (hb : ¬ bnot (img xs m xs.length) m = 0) : 2 ^ n - (bor m (img xs m xs.length)).toNat < 2 ^ n - m.toNat := by
  obtain ⟨h1, _⟩ := img_ok hn h hm xs.length (by rw [h.1]; exact Nat.le_refl _)
  have hle := le_bor hn hm h1
  have hI := inM_bor hn hm h1
  have hne : m ≠ bor m (img xs m xs.length) := fun he => hb ((bnot_sub hn h1 hm).2 fun i hi => by
    rw [he, tb_bor hn hm h1, hi, Bool.or_true])
  have := hI.2
  have := hm.1
  omega
theorem reach_fin {n : Nat} {xs : List Int} {m0 m r : Int} (hn : n ≤ 61) (h : RelOK n xs) (hm : InM n m) (hr : IsClos n xs m0 r) (hs : ∀ k, tb m k = true → tb r k = true) (h0 : ∀ k, tb m0 k = true → tb m k = true) (hb : bnot (img xs m xs.length) m = 0) : m = r := by
  obtain ⟨h1, h2⟩ := img_ok hn h hm xs.length (by rw [h.1]; exact Nat.le_refl _)
  have hc := (bnot_sub hn h1 hm).1 hb
  refine tb_ext hm.1 hr.1.1 fun k => ?_
  rw [Bool.eq_iff_iff]
  refine ⟨hs k, fun hk => ?_⟩
  obtain ⟨j, hj, hp⟩ := (hr.2 k).1 hk
  induction hp with
  | refl => exact h0 _ hj
  | @tail j k _ e ih => exact hc k ((h2 k).2 ⟨j, e.1, ih ((hr.2 j).2 ⟨_, hj, by assumption⟩), e.2⟩)

end Go.Proofs.Ytejaikeemahobaa


/-! Frames: which are frames, reachability, roots. -/
namespace Go.Proofs.Ytejaikeemahobaa
open Go.RowKit Go.Abs

def okFr (n : Int) (xs : List Int) : Bool := inR n 0 8 && decide ((xs.length : Int) = n) && !xs.any fun m => !inR m 0 ((shl64 1 n) - 1)
def outR (n m : Int) : Bool := !(inR n 0 30 && inR m 0 ((shl64 1 n) - 1))
/-- Where p holds first. -/
def fidxI (p : Int → Bool) : List Int → Int → Int
  | [], _ => -1
  | x :: l, i => if p x = true then i else fidxI p l (i + 1)
theorem drop_consI (a : List Int) (j : Nat) (h : j < a.length) : a.drop j = a.getD j 0 :: a.drop (j + 1) := by
  rw [List.drop_eq_getElem_cons h, List.getD_eq_getElem?_getD, List.getElem?_eq_getElem h]; rfl
theorem fidxI_hit {p : Int → Bool} {a : List Int} {i : Nat} (h : i < a.length) (hp : p (a.getD i 0) = true) : fidxI p (a.drop i) i = i := by
  rw [drop_consI a i h, fidxI, if_pos hp]
theorem fidxI_miss {p : Int → Bool} {a : List Int} {i : Nat} (h : i < a.length) (hp : p (a.getD i 0) = false) : fidxI p (a.drop i) i = fidxI p (a.drop (i + 1)) ((i + 1 : Nat) : Int) := by
  rw [drop_consI a i h, fidxI, if_neg (by rw [hp]; decide)]
  rfl
theorem fidxI_end {p : Int → Bool} {a : List Int} {i : Nat} (h : a.length ≤ i) : fidxI p (a.drop i) i = -1 := by
  rw [List.drop_eq_nil_of_le h, fidxI]
theorem fidxI_any {p : Int → Bool} : ∀ {a : List Int} {i : Int}, 0 ≤ i → (0 ≤ fidxI p a i ↔ a.any p = true)
  | [], i, h => by simp [fidxI]
  | x :: a, i, h => by
    have ih := fidxI_any (p := p) (a := a) (i := i + 1) (by omega)
    rw [fidxI, List.any_cons]
    by_cases hp : p x = true
    · simp [hp, h]
    · rw [if_neg hp, ih]; simp [hp]
theorem anyI_hit {p : Int → Bool} {a : List Int} {i : Nat} (h : i < a.length) (hp : p (a.getD i 0) = true) : (a.drop i).any p = true := by
  rw [drop_consI a i h, List.any_cons, hp, Bool.true_or]
theorem anyI_miss {p : Int → Bool} {a : List Int} {i : Nat} (h : i < a.length) (hp : p (a.getD i 0) = false) : (a.drop i).any p = (a.drop (i + 1)).any p := by
  rw [drop_consI a i h, List.any_cons, hp, Bool.false_or]
theorem anyI_end {p : Int → Bool} {a : List Int} {i : Nat} (h : a.length ≤ i) : (a.drop i).any p = false := by
  rw [List.drop_eq_nil_of_le h]; rfl
theorem okFr_no {n : Int} {xs : List Int} (h : inR n 0 8 = false) : okFr n xs = false := by simp [okFr, h]
theorem okFr_ne {n : Int} {xs : List Int} (h : ¬ (xs.length : Int) = n) : okFr n xs = false := by simp [okFr, h]
theorem okFr_yes {n : Int} {xs : List Int} (h : inR n 0 8 = true) (h1 : (xs.length : Int) = n) : okFr n xs = !xs.any fun m => !inR m 0 ((shl64 1 n) - 1) := by simp [okFr, h, h1]
theorem okFr_out {n : Int} {xs : List Int} (h : inR n 0 8 = true) (h1 : (xs.length : Int) = n) : (!xs.any (outR xs.length)) = okFr n xs := by
  rw [okFr_yes h h1]
  have h8 := (inR_iff _ _ _).1 h
  have e : outR xs.length = fun m => !inR m 0 ((shl64 1 n) - 1) := by
    funext m
    rw [outR, h1, (inR_iff n 0 30).2 (by omega), Bool.true_and]
  rw [e]
theorem okFr_rel {n : Int} {xs : List Int} (h : okFr n xs = true) : 0 ≤ n ∧ n ≤ 8 ∧ (xs.length : Int) = n ∧ RelOK n.toNat xs := by
  simp only [okFr, Bool.and_eq_true, inR_iff, decide_eq_true_eq, Bool.not_eq_true'] at h
  obtain ⟨⟨⟨h0, h1⟩, h2⟩, h3⟩ := h
  refine ⟨h0, h1, h2, by omega, fun j hj => ?_⟩
  have hg : xs.getD j 0 ∈ xs := by
    rw [List.getD_eq_getElem?_getD, List.getElem?_eq_getElem (by omega), Option.getD_some]
    exact List.getElem_mem _
  have := List.any_eq_false.1 h3 _ hg
  rw [full_rng (by omega), show ((n.toNat : Nat) : Int) = n by omega]
  simpa using this
/-- The points from which all is reached. -/
def rootsTo (ys : List Int) (n : Int) : Nat → Int
  | 0 => 0
  | i + 1 => if ys.getD i 0 = (shl64 1 n) - 1 then bor (rootsTo ys n i) (shl64 1 (i : Int)) else rootsTo ys n i
def rootsI (n : Int) (xs : List Int) : Int := if okFr n xs = true then rootsTo (clo xs) n xs.length else 0
def rootsC (n : Int) (xs : List Int) : Int := if okFr n xs = true then 0 else 1
theorem wout_len (xs : List Int) : ∀ j, (wout xs j).length = xs.length
  | 0 => rfl
  | j + 1 => by rw [wout, win_len, wout_len xs j]
where win_len (out : List Int) (j : Nat) : ∀ i, (win out j i).length = out.length
  | 0 => rfl
  | i + 1 => by
    rw [win, wrow]
    split
    · rw [List.length_set, win_len out j i]
    · exact win_len out j i
theorem win_len (out : List Int) (j i : Nat) : (win out j i).length = out.length := wout_len.win_len out j i
theorem rout_len (xs : List Int) : ∀ j, (rout xs j).length = xs.length
  | 0 => rfl
  | j + 1 => by rw [rout, List.length_set, rout_len xs j]

theorem isMask_c (n : Int) (m : Int) : CallA Try.prog 71 [AI n, AI m] (.bool (!(outR n m))) := by
  have hb : (0 ≤ n ∧ n ≤ 30) → 1 ≤ shl64 1 n ∧ shl64 1 n ≤ 4611686018427387904 := fun h => shl_rng n h.1 (by omega)
  refine CallA.of Try.func71 rfl (by kernel_rfl) ?_
  refine R.go 7 (R.call true (inRange_c n 0 30) (by kernel_rfl) rfl (by kernel_rfl) ?_)
  refine R.go 1 ?_
  refine (Bool.eq_false_or_eq_true (inR n 0 30)).elim (fun c1 => ?_) (fun c1 => ?_)
  · refine R.want (inR n 0 30) true (by kernel_rfl) c1 ?_
    refine R.go 1 (R.want (inR n 0 30) true (by kernel_rfl) c1 ?_)
    refine R.go 1 (R.want (inR n 0 30) true (by kernel_rfl) c1 ?_)
    refine R.shl 1 n (by kernel_rfl) (by first | omega | (simp only [inR_iff, inR_not] at *; omega)) (by kernel_rfl) ?_
    refine R.want (inR n 0 30) true (by kernel_rfl) c1 ?_
    refine R.ar ((shl64 1 n) - 1) (by kernel_rfl) (by first | omega | (simp only [inR_iff, inR_not] at *; omega)) (by first | omega | (simp only [inR_iff, inR_not] at *; omega)) (by kernel_rfl) ?_
    refine R.want (inR n 0 30) true (by kernel_rfl) c1 ?_
    refine R.call true (inRange_c m 0 ((shl64 1 n) - 1)) (by kernel_rfl) rfl (by kernel_rfl) ?_
    refine R.pick (inR n 0 30) true (by kernel_rfl) c1 (by kernel_rfl) ?_
    exact R.go 2 (R.retE (.bool (inR m 0 ((shl64 1 n) - 1))) (by kernel_rfl) (by kernel_rfl) (by first | (apply congrArg AV.bool; simp [outR, *]) | (exfalso; omega)))
  · refine R.skp (inR n 0 30) true (by kernel_rfl) c1 (by kernel_rfl) ?_
    refine R.skp (inR n 0 30) true (by kernel_rfl) c1 (by kernel_rfl) ?_
    refine R.skp (inR n 0 30) true (by kernel_rfl) c1 (by kernel_rfl) ?_
    refine R.skp (inR n 0 30) true (by kernel_rfl) c1 (by kernel_rfl) ?_
    refine R.skp (inR n 0 30) true (by kernel_rfl) c1 (by kernel_rfl) ?_
    refine R.pick (inR n 0 30) false (by kernel_rfl) c1 (by kernel_rfl) ?_
    exact R.go 2 (R.retE (.bool false) (by kernel_rfl) (by kernel_rfl) (by first | (apply congrArg AV.bool; simp [outR, *]) | (exfalso; omega)))

theorem frameAll_c (n : Int) (xs : List Int) (h0 : 0 ≤ n) (h1 : n ≤ 62) : CallA Try.prog 48 [.agg [AI n, LI xs]] (AI ((shl64 1 n) - 1)) := by
  have hb : 1 ≤ shl64 1 n ∧ shl64 1 n ≤ 4611686018427387904 := shl_rng n h0 h1
  refine CallA.of Try.func48 rfl (by kernel_rfl) ?_
  refine R.go 9 (R.shl 1 n (by kernel_rfl) (by omega) (by kernel_rfl) ?_)
  refine R.ar ((shl64 1 n) - 1) (by kernel_rfl) (by omega) (by omega) (by kernel_rfl) ?_
  exact R.go 2 (R.retE (AI ((shl64 1 n) - 1)) (by kernel_rfl) (by kernel_rfl) (by rfl))

theorem isRel1_c (m : Int) (xs : List Int) : CallA Try.prog 173 [AI m, .rptr [LI xs]] (.bool (outR xs.length m)) := by
  refine CallA.of Try.func173 rfl (by kernel_rfl) ?_
  refine R.go 7 (R.call true (size_c xs) (by kernel_rfl) rfl (by kernel_rfl) ?_)
  refine R.go 1 (R.call true (isMask_c xs.length m) (by kernel_rfl) rfl (by kernel_rfl) ?_)
  exact R.go 3 (R.retE (.bool (!(!(outR xs.length m)))) (by kernel_rfl) (by kernel_rfl) (by first | (apply congrArg AV.bool; simp) | (exfalso; omega)))

theorem indexI_c (a : List Int) (xs : List Int) (hl : a.length ≤ 1000000000) : CallA Try.prog 170 [LI a, .fn 173 [.rptr [LI xs]]] (AI (fidxI (outR xs.length) a 0)) := by
  refine CallA.of Try.func170 rfl (by kernel_rfl) ?_
  refine R.go 12 (R.loop (fun (i : Nat) => (⟨(frm 19 [(0, LI a), (1, .fn 173 [.rptr [LI xs]]), (7, AI a.length), (8, AI (i : Int))]), []⟩ : St)) (fun (i : Nat) => (i ≤ a.length) ∧ (fidxI (outR xs.length) a 0 = fidxI (outR xs.length) (a.drop i) i)) (fun (i : Nat) => a.length - i) 0 [0, 1, 7, 8] none (by kernel_rfl) (by kernel_rfl) (by kernel_rfl) ⟨(by omega), (by rfl)⟩ ?_)
  rintro i ⟨h3_1, h3_2⟩ R1 N2
  refine R.go 5 (R.cond ((i : Int) < (a.length : Int)) (by kernel_rfl) (fun c4 => ?_) (fun c4 => ?_))
  · refine R.go 13 (R.idx eI a 0 i (i : Int) (by kernel_rfl) rfl eI_len (by omega) (by kernel_rfl) ?_)
    refine R.go 1 (R.call true (isRel1_c (a.getD i 0) xs) (by kernel_rfl) rfl (by kernel_rfl) ?_)
    refine R.go 1 (R.condB (outR xs.length (a.getD i 0)) (by kernel_rfl) (fun c5 => ?_) (fun c5 => ?_))
    · exact R.go 5 (R.retE (AI (i : Int)) (by kernel_rfl) (by kernel_rfl) (by first | (apply congrArg AI; rw [‹fidxI (outR xs.length) a 0 = _›]; first | exact (fidxI_end (by omega)).symm | exact (fidxI_hit (by omega) (by assumption)).symm) | (exfalso; omega)))
    · refine R.go 3 (R.ar ((i : Int) + 1) (by kernel_rfl) (by omega) (by omega) (by kernel_rfl) ?_)
      exact R.go 2 (R.stop R1 (by kernel_rfl) (N2 (i + 1) [0, 1, 7, 8] none _ (by kernel_rfl) (by kernel_rfl) ⟨(by omega), (by rw [‹fidxI (outR xs.length) a 0 = _›]; exact fidxI_miss (by omega) (by assumption))⟩ (by show (a.length - (i + 1)) < (a.length - i); omega)))
  · exact R.go 5 (R.retE (AI (-1)) (by kernel_rfl) (by kernel_rfl) (by first | (apply congrArg AI; rw [‹fidxI (outR xs.length) a 0 = _›]; first | exact (fidxI_end (by omega)).symm | exact (fidxI_hit (by omega) (by assumption)).symm) | (exfalso; omega)))

theorem containsI_c (a : List Int) (xs : List Int) (hl : a.length ≤ 1000000000) : CallA Try.prog 132 [LI a, .fn 173 [.rptr [LI xs]]] (.bool (a.any (outR xs.length))) := by
  refine CallA.of Try.func132 rfl (by kernel_rfl) ?_
  refine R.go 8 (R.call true (indexI_c a xs hl) (by kernel_rfl) rfl (by kernel_rfl) ?_)
  exact R.go 3 (R.retE (.bool (decide ((fidxI (outR xs.length) a 0) ≥ 0))) (by kernel_rfl) (by kernel_rfl) (by first | (apply congrArg AV.bool; rw [Bool.eq_iff_iff, decide_eq_true_iff]; exact fidxI_any (Int.le_refl 0)) | (exfalso; omega)))

theorem isRelation_c (xs : List Int) (hl : xs.length ≤ 1000000000) : CallA Try.prog 148 [LI xs] (.bool (!(xs.any (outR xs.length)))) := by
  refine CallA.of Try.func148 rfl (by kernel_rfl) ?_
  refine R.go 9 (R.call false (containsI_c xs xs hl) (by kernel_rfl) rfl (by kernel_rfl) ?_)
  exact R.go 3 (R.retE (.bool (!(xs.any (outR xs.length)))) (by kernel_rfl) (by kernel_rfl) (by rfl))

theorem l01Masks_c (n : Int) (xs : List Int) (hl : xs.length ≤ 1000000000) (h0 : 0 ≤ n) (h1 : n ≤ 62) : CallA Try.prog 138 [AI n, LI xs] (.bool (!(xs.any fun m => !inR m 0 ((shl64 1 n) - 1)))) := by
  refine CallA.of Try.func138 rfl (by kernel_rfl) ?_
  refine R.go 10 (R.loop (fun (i : Nat) => (⟨(frm 20 [(0, AI n), (1, LI xs), (5, AI (i : Int))]), []⟩ : St)) (fun (i : Nat) => (i ≤ xs.length) ∧ ((xs.any fun m => !inR m 0 ((shl64 1 n) - 1)) = (xs.drop i).any fun m => !inR m 0 ((shl64 1 n) - 1))) (fun (i : Nat) => xs.length - i) 0 [0, 1, 5] none (by kernel_rfl) (by kernel_rfl) (by kernel_rfl) ⟨(by omega), (by rfl)⟩ ?_)
  rintro i ⟨h3_1, h3_2⟩ R1 N2
  refine R.go 8 (R.cond ((i : Int) < (xs.length : Int)) (by kernel_rfl) (fun c4 => ?_) (fun c4 => ?_))
  · refine R.go 7 (R.idx eI xs 0 i (i : Int) (by kernel_rfl) rfl eI_len (by omega) (by kernel_rfl) ?_)
    refine R.go 2 (R.call true (l01Full_c n h0 h1) (by kernel_rfl) rfl (by kernel_rfl) ?_)
    refine R.call true (l01In_c (xs.getD i 0) 0 ((shl64 1 n) - 1)) (by kernel_rfl) rfl (by kernel_rfl) ?_
    refine R.go 2 (R.condM (inR (xs.getD i 0) 0 ((shl64 1 n) - 1)) (by kernel_rfl) (fun c5 => ?_) (fun c5 => ?_))
    · exact R.go 4 (R.retE (.bool false) (by kernel_rfl) (by kernel_rfl) (by first | (apply congrArg AV.bool; rw [‹(xs.any fun m => !inR m 0 ((shl64 1 n) - 1)) = _›]; first | (rw [anyI_end (by omega)]; rfl) | (rw [anyI_hit (by omega) (by simpa using ‹inR _ _ _ = false›)]; rfl)) | (exfalso; omega)))
    · refine R.go 4 (R.ar ((i : Int) + 1) (by kernel_rfl) (by omega) (by omega) (by kernel_rfl) ?_)
      exact R.go 2 (R.stop R1 (by kernel_rfl) (N2 (i + 1) [0, 1, 5] none _ (by kernel_rfl) (by kernel_rfl) ⟨(by omega), (by rw [‹(xs.any fun m => !inR m 0 ((shl64 1 n) - 1)) = _›]; exact anyI_miss (p := fun m => !inR m 0 ((shl64 1 n) - 1)) (by omega) (by simpa using ‹inR _ _ _ = true›))⟩ (by show (xs.length - (i + 1)) < (xs.length - i); omega)))
  · exact R.go 5 (R.retE (.bool true) (by kernel_rfl) (by kernel_rfl) (by first | (apply congrArg AV.bool; rw [‹(xs.any fun m => !inR m 0 ((shl64 1 n) - 1)) = _›]; first | (rw [anyI_end (by omega)]; rfl) | (rw [anyI_hit (by omega) (by simpa using ‹inR _ _ _ = false›)]; rfl)) | (exfalso; omega)))

theorem l05Is_c (n : Int) (xs : List Int) (hl : xs.length ≤ 1000000000) : CallA Try.prog 87 [.agg [AI n, LI xs]] (.bool (okFr n xs)) := by
  have hn := fun h : inR n 0 8 = true => (inR_iff _ _ _).1 h
  refine CallA.of Try.func87 rfl (by kernel_rfl) ?_
  refine R.go 9 (R.call true (l01In_c n 0 8) (by kernel_rfl) rfl (by kernel_rfl) ?_)
  refine R.go 1 ?_
  refine (Bool.eq_false_or_eq_true (inR n 0 8)).elim (fun c1 => ?_) (fun c1 => ?_)
  · refine R.want (inR n 0 8) true (by kernel_rfl) c1 ?_
    refine R.go 1 (R.want (inR n 0 8) true (by kernel_rfl) c1 ?_)
    refine R.go 1 (R.want (inR n 0 8) true (by kernel_rfl) c1 ?_)
    refine R.go 1 (R.want (inR n 0 8) true (by kernel_rfl) c1 ?_)
    refine R.go 1 (R.want (inR n 0 8) true (by kernel_rfl) c1 ?_)
    refine R.go 1 (R.want (inR n 0 8) true (by kernel_rfl) c1 ?_)
    refine R.go 1 (R.pick (inR n 0 8) true (by kernel_rfl) c1 (by kernel_rfl) ?_)
    refine R.go 1 ?_
    by_cases c2 : (xs.length : Int) = n
    · refine R.want (decide ((xs.length : Int) = n)) true (by kernel_rfl) (dT c2) ?_
      refine R.go 1 (R.want (decide ((xs.length : Int) = n)) true (by kernel_rfl) (dT c2) ?_)
      refine R.go 1 (R.want (decide ((xs.length : Int) = n)) true (by kernel_rfl) (dT c2) ?_)
      refine R.go 1 (R.want (decide ((xs.length : Int) = n)) true (by kernel_rfl) (dT c2) ?_)
      refine R.go 1 (R.want (decide ((xs.length : Int) = n)) true (by kernel_rfl) (dT c2) ?_)
      refine R.call true (l01Masks_c n xs hl (by first | omega | (simp only [inR_iff, inR_not] at *; omega)) (by first | omega | (simp only [inR_iff, inR_not] at *; omega))) (by kernel_rfl) rfl (by kernel_rfl) ?_
      refine R.pick (decide ((xs.length : Int) = n)) true (by kernel_rfl) (dT c2) (by kernel_rfl) ?_
      exact R.go 2 (R.retE (.bool (!(xs.any fun m => !inR m 0 ((shl64 1 n) - 1)))) (by kernel_rfl) (by kernel_rfl) (by first | (apply congrArg AV.bool; first | exact (okFr_no (by assumption)).symm | exact (okFr_ne (by assumption)).symm | exact (okFr_yes (by assumption) (by assumption)).symm) | (exfalso; omega)))
    · refine R.skp (decide ((xs.length : Int) = n)) true (by kernel_rfl) (dF c2) (by kernel_rfl) ?_
      refine R.skp (decide ((xs.length : Int) = n)) true (by kernel_rfl) (dF c2) (by kernel_rfl) ?_
      refine R.skp (decide ((xs.length : Int) = n)) true (by kernel_rfl) (dF c2) (by kernel_rfl) ?_
      refine R.skp (decide ((xs.length : Int) = n)) true (by kernel_rfl) (dF c2) (by kernel_rfl) ?_
      refine R.skp (decide ((xs.length : Int) = n)) true (by kernel_rfl) (dF c2) (by kernel_rfl) ?_
      refine R.pick (decide ((xs.length : Int) = n)) false (by kernel_rfl) (dF c2) (by kernel_rfl) ?_
      exact R.go 2 (R.retE (.bool false) (by kernel_rfl) (by kernel_rfl) (by first | (apply congrArg AV.bool; first | exact (okFr_no (by assumption)).symm | exact (okFr_ne (by assumption)).symm | exact (okFr_yes (by assumption) (by assumption)).symm) | (exfalso; omega)))
  · refine R.skp (inR n 0 8) true (by kernel_rfl) c1 (by kernel_rfl) ?_
    refine R.skp (inR n 0 8) true (by kernel_rfl) c1 (by kernel_rfl) ?_
    refine R.skp (inR n 0 8) true (by kernel_rfl) c1 (by kernel_rfl) ?_
    refine R.skp (inR n 0 8) true (by kernel_rfl) c1 (by kernel_rfl) ?_
    refine R.skp (inR n 0 8) true (by kernel_rfl) c1 (by kernel_rfl) ?_
    refine R.skp (inR n 0 8) true (by kernel_rfl) c1 (by kernel_rfl) ?_
    refine R.pick (inR n 0 8) false (by kernel_rfl) c1 (by kernel_rfl) ?_
    exact R.go 9 (R.retE (.bool false) (by kernel_rfl) (by kernel_rfl) (by first | (apply congrArg AV.bool; first | exact (okFr_no (by assumption)).symm | exact (okFr_ne (by assumption)).symm | exact (okFr_yes (by assumption) (by assumption)).symm) | (exfalso; omega)))

theorem isFrame_c (n : Int) (xs : List Int) (hl : xs.length ≤ 1000000000) : CallA Try.prog 85 [.agg [AI n, LI xs]] (.bool (okFr n xs)) := by
  have hn := fun h : inR n 0 8 = true => (inR_iff _ _ _).1 h
  refine CallA.of Try.func85 rfl (by kernel_rfl) ?_
  refine R.go 9 (R.call true (inRange_c n 0 8) (by kernel_rfl) rfl (by kernel_rfl) ?_)
  refine R.go 1 ?_
  refine (Bool.eq_false_or_eq_true (inR n 0 8)).elim (fun c1 => ?_) (fun c1 => ?_)
  · refine R.want (inR n 0 8) true (by kernel_rfl) c1 ?_
    refine R.go 1 (R.want (inR n 0 8) true (by kernel_rfl) c1 ?_)
    refine R.go 1 (R.want (inR n 0 8) true (by kernel_rfl) c1 ?_)
    refine R.call true (size_c xs) (by kernel_rfl) rfl (by kernel_rfl) ?_
    refine R.want (inR n 0 8) true (by kernel_rfl) c1 ?_
    refine R.go 1 (R.want (inR n 0 8) true (by kernel_rfl) c1 ?_)
    refine R.go 1 (R.want (inR n 0 8) true (by kernel_rfl) c1 ?_)
    refine R.go 1 (R.pick (inR n 0 8) true (by kernel_rfl) c1 (by kernel_rfl) ?_)
    refine R.go 1 ?_
    by_cases c2 : (xs.length : Int) = n
    · refine R.want (decide ((xs.length : Int) = n)) true (by kernel_rfl) (dT c2) ?_
      refine R.go 1 (R.want (decide ((xs.length : Int) = n)) true (by kernel_rfl) (dT c2) ?_)
      refine R.go 1 (R.want (decide ((xs.length : Int) = n)) true (by kernel_rfl) (dT c2) ?_)
      refine R.call true (isRelation_c xs hl) (by kernel_rfl) rfl (by kernel_rfl) ?_
      refine R.pick (decide ((xs.length : Int) = n)) true (by kernel_rfl) (dT c2) (by kernel_rfl) ?_
      exact R.go 2 (R.retE (.bool (!(xs.any (outR xs.length)))) (by kernel_rfl) (by kernel_rfl) (by first | (apply congrArg AV.bool; first | exact (okFr_no (by assumption)).symm | exact (okFr_ne (by assumption)).symm | exact okFr_out (by assumption) (by assumption)) | (exfalso; omega)))
    · refine R.skp (decide ((xs.length : Int) = n)) true (by kernel_rfl) (dF c2) (by kernel_rfl) ?_
      refine R.skp (decide ((xs.length : Int) = n)) true (by kernel_rfl) (dF c2) (by kernel_rfl) ?_
      refine R.skp (decide ((xs.length : Int) = n)) true (by kernel_rfl) (dF c2) (by kernel_rfl) ?_
      refine R.pick (decide ((xs.length : Int) = n)) false (by kernel_rfl) (dF c2) (by kernel_rfl) ?_
      exact R.go 2 (R.retE (.bool false) (by kernel_rfl) (by kernel_rfl) (by first | (apply congrArg AV.bool; first | exact (okFr_no (by assumption)).symm | exact (okFr_ne (by assumption)).symm | exact okFr_out (by assumption) (by assumption)) | (exfalso; omega)))
  · refine R.skp (inR n 0 8) true (by kernel_rfl) c1 (by kernel_rfl) ?_
    refine R.skp (inR n 0 8) true (by kernel_rfl) c1 (by kernel_rfl) ?_
    refine R.skp (inR n 0 8) true (by kernel_rfl) c1 (by kernel_rfl) ?_
    refine R.skp (inR n 0 8) true (by kernel_rfl) c1 (by kernel_rfl) ?_
    refine R.skp (inR n 0 8) true (by kernel_rfl) c1 (by kernel_rfl) ?_
    refine R.skp (inR n 0 8) true (by kernel_rfl) c1 (by kernel_rfl) ?_
    refine R.pick (inR n 0 8) false (by kernel_rfl) c1 (by kernel_rfl) ?_
    exact R.go 7 (R.retE (.bool false) (by kernel_rfl) (by kernel_rfl) (by first | (apply congrArg AV.bool; first | exact (okFr_no (by assumption)).symm | exact (okFr_ne (by assumption)).symm | exact okFr_out (by assumption) (by assumption)) | (exfalso; omega)))

theorem has_c (m : Int) (i : Int) (h0 : 0 ≤ i) : CallA Try.prog 143 [AI m, AI i] (.bool (decide (band (shr64 m i) 1 = 1))) := by
  refine CallA.of Try.func143 rfl (by kernel_rfl) ?_
  refine R.go 8 (R.shr m i (by kernel_rfl) (by omega) (by kernel_rfl) ?_)
  exact R.go 4 (R.retE (.bool (decide ((band (shr64 m i) 1) = 1))) (by kernel_rfl) (by kernel_rfl) (by first | (rfl) | (exfalso; omega)))

theorem l01Bit_c (m : Int) (i : Int) (h0 : 0 ≤ i) (h1 : i ≤ 62) : CallA Try.prog 139 [AI m, AI i] (.bool (decide (band (shr64 m i) 1 = 1))) := by
  refine CallA.of Try.func139 rfl (by kernel_rfl) ?_
  refine R.go 8 (R.cv .u64 i (by kernel_rfl) (u64_id (by omega) (by omega)) (by kernel_rfl) ?_)
  refine R.shr m i (by kernel_rfl) (by omega) (by kernel_rfl) ?_
  exact R.go 4 (R.retE (.bool (decide ((band (shr64 m i) 1) = 1))) (by kernel_rfl) (by kernel_rfl) (by first | (rfl) | (exfalso; omega)))

theorem clone_c (xs : List Int) (hl : xs.length ≤ 1000000000) : CallA Try.prog 144 [LI xs] (ownA eI 2 1 xs) := by
  refine CallA.of Try.func144 rfl (by kernel_rfl) ?_
  refine R.go 8 (R.isNil xs.length (by kernel_rfl) (by kernel_rfl) (fun c1 => ?_) ?_)
  · refine R.go 6 (R.nil 2 2 1 (by kernel_rfl) ?_)
    exact R.retE (ownA eI 2 1 []) (by kernel_rfl) (by kernel_rfl) (by first | (first | rfl | rw [List.eq_nil_of_length_eq_zero (l := xs) (by assumption)]) | (exfalso; omega))
  · refine R.go 7 (R.app eI [] xs 0 2 1 8 (by kernel_rfl) eI_one (by decide) (by first | omega | (simp <;> omega)) (by kernel_rfl) ?_)
    exact R.go 2 (R.retE (ownA eI 2 1 ([] ++ xs)) (by kernel_rfl) (by kernel_rfl) (by first | (first | rfl | rw [List.eq_nil_of_length_eq_zero (l := xs) (by assumption)]) | (exfalso; omega)))

theorem l01Image_c (xs : List Int) (m : Int) (hl : xs.length ≤ 60) : CallA Try.prog 174 [LI xs, AI m] (AI (img xs m xs.length)) := by
  refine CallA.of Try.func174 rfl (by kernel_rfl) ?_
  refine R.go 14 (R.loop ((fun | (i, r) => (⟨(frm 23 [(0, LI xs), (1, AI m), (5, AI r), (6, AI (i : Int))]), []⟩ : St) : Nat × Int → St)) (fun | (i, r) => (i ≤ xs.length) ∧ (r = img xs m i)) (fun | (i, r) => xs.length - i) (0, 0) [0, 1, 5, 6] none (by kernel_rfl) (by kernel_rfl) (by kernel_rfl) ⟨(by omega), (by rfl)⟩ ?_)
  rintro ⟨i, r⟩ ⟨h4_1, h4_2⟩ R1 N2
  refine R.go 8 (R.cond ((i : Int) < (xs.length : Int)) (by kernel_rfl) (fun c5 => ?_) (fun c5 => ?_))
  · refine R.go 7 (R.call true (l01Bit_c m (i : Int) (by omega) (by omega)) (by kernel_rfl) rfl (by kernel_rfl) ?_)
    refine R.go 1 (R.cond (band (shr64 m (i : Int)) 1 = 1) (by kernel_rfl) (fun c6 => ?_) (fun c6 => ?_))
    · refine R.go 4 (R.idx eI xs 0 i (i : Int) (by kernel_rfl) rfl eI_len (by omega) (by kernel_rfl) ?_)
      refine R.go 7 (R.ar ((i : Int) + 1) (by kernel_rfl) (by omega) (by omega) (by kernel_rfl) ?_)
      exact R.go 2 (R.stop R1 (by kernel_rfl) (N2 (i + 1, bor r (xs.getD i 0)) [0, 1, 5, 6] none _ (by kernel_rfl) (by kernel_rfl) ⟨(by omega), (by first | (rw [img, if_pos ‹band (shr64 m (i : Int)) 1 = 1›, ← ‹r = img xs m i›]) | (rw [img, if_neg ‹¬ band (shr64 m (i : Int)) 1 = 1›]; assumption))⟩ (by show (xs.length - (i + 1)) < (xs.length - i); omega)))
    · refine R.go 4 (R.ar ((i : Int) + 1) (by kernel_rfl) (by omega) (by omega) (by kernel_rfl) ?_)
      exact R.go 2 (R.stop R1 (by kernel_rfl) (N2 (i + 1, r) [0, 1, 5, 6] none _ (by kernel_rfl) (by kernel_rfl) ⟨(by omega), (by first | (rw [img, if_pos ‹band (shr64 m (i : Int)) 1 = 1›, ← ‹r = img xs m i›]) | (rw [img, if_neg ‹¬ band (shr64 m (i : Int)) 1 = 1›]; assumption))⟩ (by show (xs.length - (i + 1)) < (xs.length - i); omega)))
  · exact R.go 6 (R.retE (AI r) (by kernel_rfl) (by kernel_rfl) (by first | (rw [‹r = img xs m i›, show i = xs.length by omega]) | (exfalso; omega)))

theorem reflexive_c (xs : List Int) (hl : xs.length ≤ 60) : CallA Try.prog 141 [LI xs] (ownA eI 2 1 (rout xs xs.length)) := by
  refine CallA.of Try.func141 rfl (by kernel_rfl) ?_
  refine R.go 7 (R.call true (clone_c xs (by first | omega | (simp <;> omega))) (by kernel_rfl) rfl (by kernel_rfl) ?_)
  refine R.go 10 (R.loop ((fun | (i, out) => (⟨(frm 22 [(3, .ref 0), (8, AI xs.length), (9, AI (i : Int))]), [rowA eI 2 1 out]⟩ : St) : Nat × (List Int) → St)) (fun | (i, out) => (i ≤ xs.length) ∧ (out = rout xs i)) (fun | (i, out) => xs.length - i) (0, xs) [3, 8, 9] none (by kernel_rfl) (by kernel_rfl) (by kernel_rfl) ⟨(by omega), (by rfl)⟩ ?_)
  rintro ⟨i, out⟩ ⟨h4_1, h4_2⟩ R1 N2
  have hlen : out.length = xs.length := by rw [‹out = rout xs i›]; exact rout_len xs i
  refine R.go 5 (R.cond ((i : Int) < (xs.length : Int)) (by kernel_rfl) (fun c5 => ?_) (fun c5 => ?_))
  · refine R.go 11 (R.idxO 0 1 out.length i (i : Int) (by kernel_rfl) rfl (by omega) (by kernel_rfl) ?_)
    refine R.ldI out i (by kernel_rfl) (by omega) (by kernel_rfl) ?_
    refine R.go 1 (R.shl 1 (i : Int) (by kernel_rfl) (by omega) (by kernel_rfl) ?_)
    refine R.go 1 (R.idxO 0 1 out.length i (i : Int) (by kernel_rfl) rfl (by omega) (by kernel_rfl) ?_)
    refine R.stI 0 2 out i (bor (out.getD i 0) (shl64 1 (i : Int))) (by kernel_rfl) (by omega) (by kernel_rfl) ?_
    refine R.go 3 (R.ar ((i : Int) + 1) (by kernel_rfl) (by omega) (by omega) (by kernel_rfl) ?_)
    exact R.go 2 (R.stop R1 (by kernel_rfl) (N2 (i + 1, out.set i (bor (out.getD i 0) (shl64 1 (i : Int)))) [3, 8, 9] none _ (by kernel_rfl) (by kernel_rfl) ⟨(by omega), (by rw [rout, ← ‹out = rout xs i›])⟩ (by show (xs.length - (i + 1)) < (xs.length - i); omega)))
  · exact R.go 6 (R.retE (ownA eI 2 1 out) (by kernel_rfl) (by kernel_rfl) (by first | (rw [‹out = rout xs i›, show i = xs.length by omega]) | (exfalso; omega)))

theorem transitive_c (xs : List Int) (hl : xs.length ≤ 60) : CallA Try.prog 142 [LI xs] (ownA eI 2 1 (wout xs xs.length)) := by
  refine CallA.of Try.func142 rfl (by kernel_rfl) ?_
  refine R.go 7 (R.call true (clone_c xs (by first | omega | (simp <;> omega))) (by kernel_rfl) rfl (by kernel_rfl) ?_)
  refine R.go 10 (R.loop ((fun | (j, out) => (⟨(frm 37 [(3, .ref 0), (9, AI xs.length), (10, AI (j : Int))]), [rowA eI 2 1 out]⟩ : St) : Nat × (List Int) → St)) (fun | (j, out) => (j ≤ xs.length) ∧ (out = wout xs j)) (fun | (j, out) => xs.length - j) (0, xs) [3, 9, 10] none (by kernel_rfl) (by kernel_rfl) (by kernel_rfl) ⟨(by omega), (by rfl)⟩ ?_)
  rintro ⟨j, out⟩ ⟨h4_1, h4_2⟩ R1 N2
  have hlen : out.length = xs.length := by rw [‹out = wout xs j›]; exact wout_len xs j
  refine R.go 5 (R.cond ((j : Int) < (xs.length : Int)) (by kernel_rfl) (fun c5 => ?_) (fun c5 => ?_))
  · refine R.go 15 (R.loop ((fun | (i, o2) => (⟨(frm 37 [(3, .ref 0), (4, AI (j : Int)), (9, AI xs.length), (10, AI (j : Int)), (14, AI out.length), (15, AI (i : Int))]), [rowA eI 2 1 o2]⟩ : St) : Nat × (List Int) → St)) (fun | (i, o2) => (i ≤ xs.length) ∧ (o2 = win out j i)) (fun | (i, o2) => xs.length - i) (0, out) [3, 4, 9, 10, 14, 15] none (by kernel_rfl) (by kernel_rfl) (by kernel_rfl) ⟨(by omega), (by rfl)⟩ ?_)
    rintro ⟨i, o2⟩ ⟨h9_1, h9_2⟩ R6 N7
    have hlen2 : o2.length = xs.length := by rw [‹o2 = win out j i›, win_len]; exact hlen
    refine R.go 5 (R.cond ((i : Int) < (out.length : Int)) (by kernel_rfl) (fun c10 => ?_) (fun c10 => ?_))
    · refine R.go 12 (R.idxO 0 1 o2.length i (i : Int) (by kernel_rfl) rfl (by omega) (by kernel_rfl) ?_)
      refine R.ldI o2 i (by kernel_rfl) (by omega) (by kernel_rfl) ?_
      refine R.go 1 (R.call true (has_c (o2.getD i 0) (j : Int) (by omega)) (by kernel_rfl) rfl (by kernel_rfl) ?_)
      refine R.go 1 (R.cond (band (shr64 (o2.getD i 0) (j : Int)) 1 = 1) (by kernel_rfl) (fun c11 => ?_) (fun c11 => ?_))
      · refine R.go 3 (R.idxO 0 1 o2.length i (i : Int) (by kernel_rfl) rfl (by omega) (by kernel_rfl) ?_)
        refine R.ldI o2 i (by kernel_rfl) (by omega) (by kernel_rfl) ?_
        refine R.go 2 (R.idxO 0 1 o2.length j (j : Int) (by kernel_rfl) rfl (by omega) (by kernel_rfl) ?_)
        refine R.ldI o2 j (by kernel_rfl) (by omega) (by kernel_rfl) ?_
        refine R.go 1 (R.idxO 0 1 o2.length i (i : Int) (by kernel_rfl) rfl (by omega) (by kernel_rfl) ?_)
        refine R.stI 0 2 o2 i (bor (o2.getD i 0) (o2.getD j 0)) (by kernel_rfl) (by omega) (by kernel_rfl) ?_
        refine R.go 3 (R.ar ((i : Int) + 1) (by kernel_rfl) (by omega) (by omega) (by kernel_rfl) ?_)
        exact R.go 2 (R.stop R6 (by kernel_rfl) (N7 (i + 1, o2.set i (bor (o2.getD i 0) (o2.getD j 0))) [3, 4, 9, 10, 14, 15] none _ (by kernel_rfl) (by kernel_rfl) ⟨(by omega), (by first | (rw [win, wrow, ← ‹o2 = win out j i›, if_pos ‹band (shr64 (o2.getD i 0) (j : Int)) 1 = 1›]) | (rw [win, wrow, ← ‹o2 = win out j i›, if_neg ‹¬ band (shr64 (o2.getD i 0) (j : Int)) 1 = 1›]))⟩ (by show (xs.length - (i + 1)) < (xs.length - i); omega)))
      · refine R.go 3 (R.ar ((i : Int) + 1) (by kernel_rfl) (by omega) (by omega) (by kernel_rfl) ?_)
        exact R.go 2 (R.stop R6 (by kernel_rfl) (N7 (i + 1, o2) [3, 4, 9, 10, 14, 15] none _ (by kernel_rfl) (by kernel_rfl) ⟨(by omega), (by first | (rw [win, wrow, ← ‹o2 = win out j i›, if_pos ‹band (shr64 (o2.getD i 0) (j : Int)) 1 = 1›]) | (rw [win, wrow, ← ‹o2 = win out j i›, if_neg ‹¬ band (shr64 (o2.getD i 0) (j : Int)) 1 = 1›]))⟩ (by show (xs.length - (i + 1)) < (xs.length - i); omega)))
    · refine R.go 3 (R.ar ((j : Int) + 1) (by kernel_rfl) (by omega) (by omega) (by kernel_rfl) ?_)
      exact R.go 2 (R.stop R1 (by kernel_rfl) (N2 (j + 1, o2) [3, 9, 10] none _ (by kernel_rfl) (by kernel_rfl) ⟨(by omega), (by rw [wout, ← ‹out = wout xs j›, ← show i = xs.length by omega]; assumption)⟩ (by show (xs.length - (j + 1)) < (xs.length - j); omega)))
  · exact R.go 6 (R.retE (ownA eI 2 1 out) (by kernel_rfl) (by kernel_rfl) (by first | (rw [‹out = wout xs j›, show j = xs.length by omega]) | (exfalso; omega)))

theorem l01ImageG_c (xs : List Int) (m g : Int) (hg : g = img xs m xs.length) (hl : xs.length ≤ 60) : CallA Try.prog 174 [LI xs, AI m] (AI g) := by rw [hg]; exact l01Image_c xs m hl

theorem reachable_c (n : Int) (xs : List Int) (hl : xs.length ≤ 60) : CallA Try.prog 80 [.agg [AI n, LI xs]] (ownA eI 2 1 (clo xs)) := by
  have hw := wout_len xs xs.length
  refine CallA.of Try.func80 rfl (by kernel_rfl) ?_
  refine R.go 9 (R.call true (transitive_c xs hl).frz (by kernel_rfl) rfl (by kernel_rfl) ?_)
  refine R.call true (reflexive_c (wout xs xs.length) (by first | omega | (simp <;> omega))) (by kernel_rfl) rfl (by kernel_rfl) ?_
  exact R.go 2 (R.retE (ownA eI 2 1 (rout (wout xs xs.length) (wout xs xs.length).length)) (by kernel_rfl) (by kernel_rfl) (by first | (rw [wout_len]; rfl) | (exfalso; omega)))

theorem l05Reach_c (n : Int) (xs : List Int) (m0 : Int) (r : Int) (hr : RelOK n.toNat xs) (h0 : n ≤ 8) (hm : InM n.toNat m0) (hc : IsClos n.toNat xs m0 r) : CallA Try.prog 149 [.agg [AI n, LI xs], AI m0] (AI r) := by
  have hn : n.toNat ≤ 61 := by omega
  have hl := hr.1
  obtain ⟨q, hq⟩ : ∃ q, q = 2 ^ n.toNat := ⟨_, rfl⟩
  refine CallA.of Try.func149 rfl (by kernel_rfl) ?_
  refine R.go 7 (R.loop (fun (m : Int) => (⟨[.top, AI m, .ptr 0 0, .top, .top, .top, .top, .top, .top, .top, .top, .top, .top, .top, .top, .top, .top, .top, .top], [.box 26 [AI n, LI xs]]⟩ : St)) (fun (m : Int) => (InM n.toNat m) ∧ (∀ k, tb m0 k = true → tb m k = true) ∧ (∀ k, tb m k = true → tb r k = true)) (fun (m : Int) => q - m.toNat) m0 [1, 2] none (by kernel_rfl) (by kernel_rfl) (by kernel_rfl) ⟨(by exact hm), (by exact fun k hk => hk), (by exact fun k hk => (hc.2 k).2 ⟨k, hk, .refl k⟩)⟩ ?_)
  rintro m ⟨h3_1, h3_2, h3_3⟩ R1 N2
  obtain ⟨g, hg⟩ : ∃ g, g = img xs m xs.length := ⟨_, rfl⟩
  have h00 : ∀ k, tb m0 k = true → tb m k = true := by assumption
  have hs : ∀ k, tb m k = true → tb r k = true := by assumption
  have hu : ∀ k, tb m k = true → tb (bor m g) k = true := fun k hk => by rw [hg, tb_bor hn ‹InM n.toNat m› (img_ok hn hr ‹InM n.toNat m› xs.length (by omega)).1, hk]; rfl
  refine R.go 6 (R.call true (l01ImageG_c xs m g (by assumption) (by first | omega | (simp <;> omega))) (by kernel_rfl) rfl (by kernel_rfl) ?_)
  refine R.go 4 (R.condN ((bnot g m) = 0) (by kernel_rfl) (fun c4 => ?_) (fun c4 => ?_))
  · refine R.go 7 (R.call true (l01ImageG_c xs m g (by assumption) (by first | omega | (simp <;> omega))) (by kernel_rfl) rfl (by kernel_rfl) ?_)
    exact R.go 4 (R.stop R1 (by kernel_rfl) (N2 (bor m g) [1, 2] none _ (by kernel_rfl) (by kernel_rfl) ⟨(by rw [hg]; exact (reach_step hn hr ‹InM n.toNat m› hc hs).1), (by exact fun k hk => hu k (h00 k hk)), (by rw [hg]; exact (reach_step hn hr ‹InM n.toNat m› hc hs).2)⟩ (by show (q - (bor m g).toNat) < (q - m.toNat); rw [hq, hg]; exact reach_mu hn hr ‹InM n.toNat m› (by rw [← hg]; assumption))))
  · exact R.go 6 (R.retE (AI m) (by kernel_rfl) (by kernel_rfl) (by first | (rw [reach_fin hn hr ‹InM n.toNat m› hc hs h00 (by rw [← hg]; assumption)]) | (exfalso; omega)))

theorem tupR {a b c d : Int} (h : a = c) (h' : b = d) : AV.tup [AI a, AI b] = AV.tup [AI c, AI d] := by rw [h, h']
theorem clo_len (xs : List Int) : (clo xs).length = xs.length := by rw [clo, rout_len, wout_len]

theorem RO_impl (n : Int) (xs : List Int) (hl : xs.length ≤ 1000000000) : CallA Try.prog 39 [.agg [AI n, LI xs]] (.tup [AI (rootsI n xs), AI (rootsC n xs)]) := by
  refine CallA.of Try.func39 rfl (by kernel_rfl) ?_
  refine R.go 10 (R.call true (isFrame_c n xs hl) (by kernel_rfl) rfl (by kernel_rfl) ?_)
  refine R.go 2 (R.condM (okFr n xs) (by kernel_rfl) (fun c1 => ?_) (fun c1 => ?_))
  · exact R.go 5 (R.retE (.tup [AI 0, AI 1]) (by kernel_rfl) (by kernel_rfl) (by first | (refine tupR ?_ ?_ <;> first | (simp [rootsI, rootsC, *]; done) | (rw [rootsI, if_pos ‹okFr n xs = true›, ‹o = rootsTo (clo xs) n i›, show i = xs.length by omega]) | (rw [rootsC, if_pos ‹okFr n xs = true›])) | (exfalso; omega)))
  · have hF := okFr_rel ‹okFr n xs = true›
    have hR : RelOK n.toNat xs := hF.2.2.2
    have h0 : 0 ≤ n ∧ n ≤ 8 ∧ (xs.length : Int) = n := ⟨hF.1, hF.2.1, hF.2.2.1⟩
    have hcl := clo_len xs
    refine R.go 9 (R.call true (reachable_c n xs (by first | omega | (simp <;> omega))).frz (by kernel_rfl) rfl (by kernel_rfl) ?_)
    refine R.go 4 (R.loop ((fun | (i, o) => (⟨[.top, .ptr 0 0, .top, .top, AI o, .top, .top, .top, .top, .top, .top, LI (clo xs), AI ((clo xs).length), AI (i : Int), .top, .top, .top, .top, .top, .top, .top, .top, .top, .top, .top, .top, .top, .top], [.box 26 [AI n, LI xs]]⟩ : St) : Nat × Int → St)) (fun | (i, o) => (i ≤ xs.length) ∧ (o = rootsTo (clo xs) n i)) (fun | (i, o) => xs.length - i) (0, 0) [1, 4, 11, 12, 13] none (by kernel_rfl) (by kernel_rfl) (by kernel_rfl) ⟨(by omega), (by rfl)⟩ ?_)
    rintro ⟨i, o⟩ ⟨h5_1, h5_2⟩ R2 N3
    refine R.go 5 (R.cond ((i : Int) < ((clo xs).length : Int)) (by kernel_rfl) (fun c6 => ?_) (fun c6 => ?_))
    · refine R.go 6 (R.idx eI (clo xs) 0 i (i : Int) (by kernel_rfl) rfl eI_len (by omega) (by kernel_rfl) ?_)
      refine R.go 8 (R.call true (frameAll_c n xs (by omega) (by omega)) (by kernel_rfl) rfl (by kernel_rfl) ?_)
      refine R.go 2 (R.cond (((clo xs).getD i 0) = ((shl64 1 n) - 1)) (by kernel_rfl) (fun c7 => ?_) (fun c7 => ?_))
      · refine R.go 3 (R.shl 1 (i : Int) (by kernel_rfl) (by omega) (by kernel_rfl) ?_)
        refine R.go 5 (R.ar ((i : Int) + 1) (by kernel_rfl) (by omega) (by omega) (by kernel_rfl) ?_)
        exact R.go 2 (R.stop R2 (by kernel_rfl) (N3 (i + 1, bor o (shl64 1 (i : Int))) [1, 4, 11, 12, 13] none _ (by kernel_rfl) (by kernel_rfl) ⟨(by omega), (by first | (rw [rootsTo, if_pos ‹(clo xs).getD i 0 = (shl64 1 n) - 1›, ← ‹o = rootsTo (clo xs) n i›]) | (rw [rootsTo, if_neg ‹¬ (clo xs).getD i 0 = (shl64 1 n) - 1›]; assumption))⟩ (by show (xs.length - (i + 1)) < (xs.length - i); omega)))
      · refine R.go 3 (R.ar ((i : Int) + 1) (by kernel_rfl) (by omega) (by omega) (by kernel_rfl) ?_)
        exact R.go 2 (R.stop R2 (by kernel_rfl) (N3 (i + 1, o) [1, 4, 11, 12, 13] none _ (by kernel_rfl) (by kernel_rfl) ⟨(by omega), (by first | (rw [rootsTo, if_pos ‹(clo xs).getD i 0 = (shl64 1 n) - 1›, ← ‹o = rootsTo (clo xs) n i›]) | (rw [rootsTo, if_neg ‹¬ (clo xs).getD i 0 = (shl64 1 n) - 1›]; assumption))⟩ (by show (xs.length - (i + 1)) < (xs.length - i); omega)))
    · exact R.go 7 (R.retE (.tup [AI o, AI 0]) (by kernel_rfl) (by kernel_rfl) (by first | (refine tupR ?_ ?_ <;> first | (simp [rootsI, rootsC, *]; done) | (rw [rootsI, if_pos ‹okFr n xs = true›, ‹o = rootsTo (clo xs) n i›, show i = xs.length by omega]) | (rw [rootsC, if_pos ‹okFr n xs = true›])) | (exfalso; omega)))

end Go.Proofs.Ytejaikeemahobaa


/-! Models: truth sets of both packages. -/
namespace Go.Proofs.Ytejaikeemahobaa
open Go.RowKit Go.Abs

/-- The words of modal formulas. -/
def mT (n : Int) (k p q : Int) : Int := if k = 2 then band p q else if k = 3 then bor p q else bor (bnot ((shl64 1 n) - 1) p) q
def mU (n : Int) (bx : Int → Int) (k p : Int) : Int := if k = 5 then bx p else bnot ((shl64 1 n) - 1) (bx (bnot ((shl64 1 n) - 1) p))
def bxB (xs : List Int) (m : Int) : Int := boxB xs m xs.length
end Go.Proofs.Ytejaikeemahobaa


/-! Members of masks; variables of lists of formulas; which lists are formulas. -/
namespace Go.Proofs.Ytejaikeemahobaa
open Go.RowKit Go.Abs

/-- The members of a mask below i. -/
def memN (m : Int) : Nat → List Int
  | 0 => []
  | i + 1 => if tb m i = true then memN m i ++ [(i : Int)] else memN m i
def mem (m : Int) : List Int := memN m 62
theorem memN_yes {m : Int} {i : Nat} (h : tb m i = true) : memN m (i + 1) = memN m i ++ [(i : Int)] := by rw [memN, if_pos h]
theorem memN_no {m : Int} {i : Nat} (h : ¬ tb m i = true) : memN m (i + 1) = memN m i := by rw [memN, if_neg h]
theorem memN_mem {m : Int} {v : Int} : ∀ {i : Nat}, v ∈ memN m i ↔ ∃ j : Nat, j < i ∧ tb m j = true ∧ v = (j : Int)
  | 0 => by simp [memN]
  | i + 1 => by
    have ih := memN_mem (m := m) (v := v) (i := i)
    by_cases h : tb m i = true
    · rw [memN_yes h, List.mem_append, ih, List.mem_singleton]
      constructor
      · rintro (⟨j, a, b, c⟩ | h2)
        · exact ⟨j, by omega, b, c⟩
        · exact ⟨i, by omega, h, h2⟩
      · rintro ⟨j, a, b, c⟩
        by_cases hji : j = i
        · subst hji; exact .inr c
        · exact .inl ⟨j, by omega, b, c⟩
    · rw [memN_no h, ih]
      constructor
      · rintro ⟨j, a, b, c⟩; exact ⟨j, by omega, b, c⟩
      · rintro ⟨j, a, b, c⟩
        by_cases hji : j = i
        · subst hji; exact absurd b h
        · exact ⟨j, by omega, b, c⟩
theorem memN_len (m : Int) : ∀ i : Nat, (memN m i).length ≤ i
  | 0 => Nat.le_refl _
  | i + 1 => by
    have ih := memN_len m i
    rw [memN]
    split
    · simp; omega
    · omega
theorem memN_asc (m : Int) : ∀ i : Nat, (memN m i).Pairwise (· < ·)
  | 0 => List.Pairwise.nil
  | i + 1 => by
    have ih := memN_asc m i
    rw [memN]
    split
    · refine List.pairwise_append.2 ⟨ih, List.pairwise_singleton _ _, fun a ha b hb => ?_⟩
      rw [List.mem_singleton] at hb
      obtain ⟨j, h1, _, rfl⟩ := memN_mem.1 ha
      omega
    · exact ih
theorem memN_nodup (m : Int) (i : Nat) : (memN m i).Nodup := (memN_asc m i).imp fun h => by omega
theorem memN_stop {m : Int} {i : Nat} (h : ∀ j, i ≤ j → tb m j = false) : ∀ {k : Nat}, i ≤ k → memN m k = memN m i := by
  intro k hk
  induction k with
  | zero => rw [show i = 0 by omega]
  | succ k ih =>
    by_cases hki : i = k + 1
    · rw [hki]
    · rw [memN_no (by rw [h k (by omega)]; decide), ih (by omega)]
theorem inM61 {m : Int} (h0 : 0 ≤ m) (h1 : m ≤ 2305843009213693951) : InM 61 m := ⟨h0, by
  have : (2 : Nat) ^ 61 = 2305843009213693952 := by decide
  omega⟩
theorem inM_mono {n n' : Nat} {m : Int} (hn : n ≤ n') (h : InM n m) : InM n' m := ⟨h.1, Nat.lt_of_lt_of_le h.2 (Nat.pow_le_pow_right (by decide) hn)⟩
theorem shr_pos {m : Int} (h : InM 61 m) {i : Nat} (hi : i ≤ 62) (hp : shr64 m (i : Int) > 0) : i < 61 := by
  obtain ⟨a, rfl, ha⟩ := inM_nat h
  rw [shr_nat hi] at hp
  have h1 : 0 < a / 2 ^ i := by
    generalize a / 2 ^ i = q at hp ⊢
    omega
  rw [Nat.div_pos_iff] at h1
  have h2 : 2 ^ i < 2 ^ 61 := by omega
  exact (Nat.pow_lt_pow_iff_right (by decide)).1 h2
theorem mem_end {m : Int} (h : InM 61 m) {i : Nat} (hi : i ≤ 61) (hp : ¬ shr64 m (i : Int) > 0) : memN m i = mem m := by
  refine (memN_stop (fun j hj => ?_) (by omega)).symm
  obtain ⟨a, rfl, ha⟩ := inM_nat h
  rw [shr_nat (by omega)] at hp
  have h1 : a < 2 ^ i := by
    have h2 : a / 2 ^ i = 0 := by
      generalize a / 2 ^ i = q at hp ⊢
      omega
    rcases Nat.div_eq_zero_iff.1 h2 with h | h
    · exact absurd h (Nat.ne_of_gt (Nat.two_pow_pos i))
    · exact h
  exact Nat.testBit_lt_two_pow (Nat.lt_of_lt_of_le h1 (Nat.pow_le_pow_right (by decide) hj))
theorem mem_le (m : Int) : (mem m).length ≤ 62 := memN_len m 62

theorem membersOf_c (m : Int) (hm : InM 61 m) : CallA Try.prog 82 [AI m] (ownA eI 2 1 (mem m)) := by
  refine CallA.of Try.func82 rfl (by kernel_rfl) ?_
  refine R.go 14 (R.nil 3 2 1 (by kernel_rfl) ?_)
  refine R.loop ((fun | (i, out) => (⟨(frm 19 [(0, AI m), (3, .ref 0), (4, AI (i : Int))]), [rowA eI 2 1 out]⟩ : St) : Nat × (List Int) → St)) (fun | (i, out) => (i ≤ 61) ∧ (out = memN m i) ∧ (out.length ≤ i)) (fun | (i, out) => 61 - i) (0, []) [0, 3, 4] none (by kernel_rfl) (by kernel_rfl) (by kernel_rfl) ⟨(by omega), (by rfl), (by simp)⟩ ?_
  rintro ⟨i, out⟩ ⟨h4_1, h4_2, h4_3⟩ R1 N2
  refine R.go 5 (R.shr m (i : Int) (by kernel_rfl) (by omega) (by kernel_rfl) ?_)
  refine R.go 2 (R.cond ((shr64 m (i : Int)) > 0) (by kernel_rfl) (fun c5 => ?_) (fun c5 => ?_))
  · refine R.go 7 (R.call true (has_c m (i : Int) (by omega)) (by kernel_rfl) rfl (by kernel_rfl) ?_)
    refine R.go 1 (R.cond (band (shr64 m (i : Int)) 1 = 1) (by kernel_rfl) (fun c6 => ?_) (fun c6 => ?_))
    · refine R.go 4 (R.app eI out [(i : Int)] 0 2 1 8 (by kernel_rfl) eI_one (by decide) (by first | omega | (simp <;> omega)) (by kernel_rfl) ?_)
      refine R.go 5 (R.ar ((i : Int) + 1) (by kernel_rfl) (by omega) (by omega) (by kernel_rfl) ?_)
      exact R.go 2 (R.stop R1 (by kernel_rfl) (N2 (i + 1, out ++ [(i : Int)]) [0, 3, 4] (some [0]) _ (by kernel_rfl) (by kernel_rfl) ⟨(by have := shr_pos hm (by omega) ‹shr64 m (i : Int) > 0›; omega), (by first | (rw [‹out = memN m i›, memN_yes ((has_tb (by decide) hm (by omega)).1 ‹band (shr64 m (i : Int)) 1 = 1›)]) | (rw [‹out = memN m i›, memN_no (fun h => ‹¬ band (shr64 m (i : Int)) 1 = 1› ((has_tb (by decide) hm (by omega)).2 h))])), (by first | omega | (simp <;> omega))⟩ (by show (61 - (i + 1)) < (61 - i); have := shr_pos hm (by omega) ‹shr64 m (i : Int) > 0›; omega)))
    · refine R.go 4 (R.ar ((i : Int) + 1) (by kernel_rfl) (by omega) (by omega) (by kernel_rfl) ?_)
      exact R.go 2 (R.stop R1 (by kernel_rfl) (N2 (i + 1, out) [0, 3, 4] none _ (by kernel_rfl) (by kernel_rfl) ⟨(by have := shr_pos hm (by omega) ‹shr64 m (i : Int) > 0›; omega), (by first | (rw [‹out = memN m i›, memN_yes ((has_tb (by decide) hm (by omega)).1 ‹band (shr64 m (i : Int)) 1 = 1›)]) | (rw [‹out = memN m i›, memN_no (fun h => ‹¬ band (shr64 m (i : Int)) 1 = 1› ((has_tb (by decide) hm (by omega)).2 h))])), (by first | omega | (simp <;> omega))⟩ (by show (61 - (i + 1)) < (61 - i); have := shr_pos hm (by omega) ‹shr64 m (i : Int) > 0›; omega)))
  · exact R.go 6 (R.retE (ownA eI 2 1 out) (by kernel_rfl) (by kernel_rfl) (by first | (rw [‹out = memN m i›, mem_end hm (by omega) (by assumption)]) | (exfalso; omega)))

/-- The variables of the first formulas. -/
def vmT (l : List (List (Int × Int))) : Nat → Int
  | 0 => 0
  | i + 1 => bor (vmT l i) (vmTo (l.getD i []) (l.getD i []).length)
def allF (l : List (List (Int × Int))) : Bool := !l.any fun a => !isF a
end Go.Proofs.Ytejaikeemahobaa


/-! The machine's rules: loops over functions. -/
namespace Go.Abs
open Go.RowKit

/-- A new object that names no block. -/
theorem HRel.extend0 {w w' : World} {Z : Nat → Prop} {B : Nat} {μ : List Value} {hp : List AObj} {u : Value} {o : AObj} (h : HRel w Z B μ hp)
    (hb : Below w.heap.size w w') (hnew : ObjRel w' Z (μ ++ [u]) B u o) (hbl : blk u = none) (hone : u.oneCell' = true) : HRel w' Z B (μ ++ [u]) (hp ++ [o]) := by
  have hold : ∀ (i : Nat) (x : Value), μ[i]? = some x → (μ ++ [u])[i]? = some x := fun i x hx => by
    rw [List.getElem?_append_left (List.getElem?_eq_some_iff.1 hx).1]; exact hx
  have hbk : ∀ (i : Nat) oi ui g, hp[i]? = some oi → oi.alive = true → μ[i]? = some ui → blk ui = some g → g < w.heap.size := fun i oi ui g h1 h2 h3 h4 => ((h.obj i oi ui h1 h3).blk_ge h2 h4).2
  have split : ∀ (i : Nat) oi ui, (hp ++ [o])[i]? = some oi → (μ ++ [u])[i]? = some ui → (hp[i]? = some oi ∧ μ[i]? = some ui) ∨ (i = hp.length ∧ oi = o ∧ ui = u) := by
    intro i oi ui h1 h2
    rcases Nat.lt_trichotomy i hp.length with hi | hi | hi
    · rw [List.getElem?_append_left hi] at h1
      rw [List.getElem?_append_left (by rw [h.len]; exact hi)] at h2
      exact .inl ⟨h1, h2⟩
    · subst hi
      rw [List.getElem?_append_right (Nat.le_refl _)] at h1
      rw [List.getElem?_append_right (by rw [h.len]; exact Nat.le_refl _), h.len] at h2
      simp at h1 h2
      exact .inr ⟨rfl, h1.symm, h2.symm⟩
    · rw [List.getElem?_eq_none (by simp; omega)] at h1
      cases h1
  refine ⟨by simp [h.len], fun i oi ui g h1 ha h2 hg => ?_, fun i x hx => ?_, fun i oi ui h1 h2 => ?_, fun i j oi oj ui uj g hne h1 h2 a1 a2 m1 m2 b1 b2 => ?_⟩
  · rcases split i oi ui h1 h2 with ⟨e1, e2⟩ | ⟨_, rfl, rfl⟩
    · exact h.zone i oi ui g e1 ha e2 hg
    · rw [hbl] at hg; cases hg
  · rcases Nat.lt_or_ge i μ.length with hi | hi
    · rw [List.getElem?_append_left hi] at hx
      exact h.one i x hx
    · rw [List.getElem?_append_right hi] at hx
      have : x = u := by
        rcases Nat.eq_zero_or_pos (i - μ.length) with h0 | h0
        · rw [h0] at hx; simpa using hx.symm
        · rw [List.getElem?_eq_none (by simp; omega)] at hx; cases hx
      subst this
      exact hone
  · rcases split i oi ui h1 h2 with ⟨e1, e2⟩ | ⟨_, rfl, rfl⟩
    · cases ho : oi.alive with
      | true => exact (h.obj i oi ui e1 e2).keep (fun b hb1 _ => hb.block b hb1) hold (fun g hg => hb.block g (hbk i oi ui g e1 ho e2 hg))
      | false => exact (h.obj i oi ui e1 e2).keep_dead (fun b hb1 _ => hb.block b hb1) hold ho
    · exact hnew
  · rcases split i oi ui h1 m1 with ⟨e1, e2⟩ | ⟨_, rfl, rfl⟩ <;> rcases split j oj uj h2 m2 with ⟨e3, e4⟩ | ⟨_, rfl, rfl⟩
    · exact h.sep i j oi oj ui uj g hne e1 e3 a1 a2 e2 e4 b1 b2
    · rw [hbl] at b2; cases b2
    · rw [hbl] at b1; cases b1
    · rw [hbl] at b1; cases b1

/-- The block r, which holds no cells, is turned; the one object that holds no cells is turned with it. -/
theorem HRel.turn {w : World} {Z : Nat → Prop} {B : Nat} {μ : List Value} {hp : List AObj} {i r : Nat} {o o' : Obj} {x' : Inert} (h : HRel w Z B μ hp) (hr : w.heap[r]? = some o) (hn : o.isCells = false)
    (hi : ∀ j x, hp[j]? = some (.inert x) → j = i) (hnew : ∀ u, μ[i]? = some u → InertRel (w.putObj r o') Z B u x') : HRel (w.putObj r o') Z B μ (hp.set i (.inert x')) := by
  have get : ∀ (j : Nat) oj, (hp.set i (.inert x'))[j]? = some oj → (j = i ∧ oj = .inert x') ∨ (hp[j]? = some oj ∧ ∀ x, oj ≠ .inert x) := by
    intro j oj hj
    by_cases hji : j = i
    · subst hji
      rcases Nat.lt_or_ge j hp.length with hlt | hge
      · rw [List.getElem?_set_self hlt] at hj; simp at hj; exact .inl ⟨rfl, hj.symm⟩
      · rw [List.getElem?_eq_none (by simpa using hge)] at hj; cases hj
    · rw [List.getElem?_set_ne (Ne.symm hji)] at hj
      exact .inr ⟨hj, fun x e => hji (hi j x (by rw [hj, e]))⟩
  refine ⟨by simpa using h.len, fun j o u g h1 ha h2 hg => ?_, h.one, fun j oj u h1 h2 => ?_, fun j k oj ok uj uk g hne h1 h2 a1 a2 m1 m2 b1 b2 => ?_⟩
  · rcases get j o h1 with ⟨rfl, rfl⟩ | ⟨h1, _⟩
    · have := (hnew u h2).blk
      rw [this] at hg; cases hg
    · exact h.zone j o u g h1 ha h2 hg
  · rcases get j oj h1 with ⟨rfl, rfl⟩ | ⟨h1, hx⟩
    · exact hnew u h2
    · exact (h.obj j oj u h1 h2).turn hr hn hx
  · rcases get j oj h1 with ⟨rfl, rfl⟩ | ⟨h1, _⟩
    · rw [(hnew uj m1).blk] at b1; cases b1
    · rcases get k ok h2 with ⟨rfl, rfl⟩ | ⟨h2, _⟩
      · rw [(hnew uk m2).blk] at b2; cases b2
      · exact h.sep j k oj ok uj uk g hne h1 h2 a1 a2 m1 m2 b1 b2

theorem oneInert_at {hp : List AObj} (h : oneInert hp = true) {i : Nat} {y : Inert} (hi : hp[i]? = some (.inert y)) : ∀ j x, hp[j]? = some (.inert x) → j = i := fun j x hj => oneInert_sound h j i x y hj hi

/-- How far the loop has come that object i stands for. -/
def lstAt (i : Nat) (hp : List AObj) : Option (Nat × LSt) :=
  match hp[i]? with
  | some (.inert (.lrec D s _ _ _ _)) => if oneInert hp then some (D, s) else none
  | _ => none

theorem lstAt_parts {i D : Nat} {s : LSt} {hp : List AObj} (h : lstAt i hp = some (D, s)) : (∃ us ps asg bd, hp[i]? = some (.inert (.lrec D s us ps asg bd))) ∧ oneInert hp = true := by
  unfold lstAt at h
  split at h
  · rename_i D' s' us ps asg bd hi
    split at h
    · cases h
      exact ⟨⟨us, ps, asg, bd, hi⟩, by assumption⟩
    · cases h
  · cases h

def Inert.to (s : LSt) : Inert → Inert
  | .lrec D _ us ps asg bd => .lrec D s us ps asg bd
  | x => x

def setL (i : Nat) (s : LSt) (hp : List AObj) : List AObj :=
  match hp[i]? with
  | some (.inert x) => hp.set i (.inert (x.to s))
  | _ => hp

def Inert.over : Inert → Inert
  | .lrec D _ _ _ _ _ => .mark D
  | x => x
def setM (i : Nat) (hp : List AObj) : List AObj :=
  match hp[i]? with
  | some (.inert x) => hp.set i (.inert x.over)
  | _ => hp

/-- The record's block is turned, and its object with it. -/
theorem HRel.turnL {w : World} {Z : Nat → Prop} {B D i : Nat} {μ : List Value} {hp : List AObj} {s : LSt} {us : List Value} {ps : Array Tmp} {asg bd : Code} (h : HRel w Z B μ hp) (h1 : oneInert hp = true)
    (hi : hp[i]? = some (.inert (.lrec D s us ps asg bd))) :
    ∃ r : Loop, w.heap[D + 1]? = some (.loop r) ∧ r.state = s.state ∧ r.pending = s.pend ∧ r.tmps = us.toArray ∧ r.params = ps ∧ r.assign = asg ∧ r.body = bd ∧ B ≤ D ∧ w.heap[D]? = some (.deferred (some [])) ∧ μ[i]? = some (.func (.yield (D + 1)) #[] #[]) ∧
      (∀ s' : LSt, HRel (w.putObj (D + 1) (.loop { r with state := s'.state, pending := s'.pend })) Z B μ (setL i s' hp)) ∧
      (∀ o', HRel (w.putObj (D + 1) o') Z B μ (setM i hp)) := by
  have hil : i < μ.length := by rw [h.len]; exact (List.getElem?_eq_some_iff.1 hi).1
  obtain ⟨u, hu⟩ : ∃ u, μ[i]? = some u := ⟨_, List.getElem?_eq_getElem hil⟩
  obtain ⟨fn, rfl, ⟨⟨hB, hz⟩, hD⟩, hz2, hl⟩ := h.obj i _ u hi hu
  refine ⟨_, hl, rfl, rfl, rfl, rfl, rfl, rfl, hB, hD, hu, fun s' => ?_, fun o' => ?_⟩
  · unfold setL
    rw [hi]
    refine h.turn hl rfl (oneInert_at h1 hi) fun u' hu' => ?_
    rw [hu] at hu'
    cases hu'
    exact ⟨fn, rfl, ⟨⟨hB, hz⟩, (World.putObj_heap_other (by omega)).trans hD⟩, hz2, World.putObj_heap_same (Array.getElem?_eq_some_iff.1 hl).1⟩
  · unfold setM
    rw [hi]
    refine h.turn hl rfl (oneInert_at h1 hi) fun u' hu' => ?_
    rw [hu] at hu'
    cases hu'
    exact ⟨rfl, ⟨hB, hz⟩, (World.putObj_heap_other (by omega)).trans hD⟩

/-- The temporaries ps become avs. -/
def setPs : List Tmp → List AV → List AV → List AV
  | p :: ps, v :: vs, fr => setPs ps vs (fr.set p v)
  | _, _, fr => fr

theorem setPs_rel {w : World} {Z : Nat → Prop} {μ : List Value} : ∀ {ps : List Tmp} {avs : List AV} {vs : List Value} {fr : List AV} {tmps : Array Value}, RelL w Z μ avs vs → RelL w Z μ fr tmps.toList → ps.length = avs.length →
    RelL w Z μ (setPs ps avs fr) ((ps.zip vs).foldl (fun t (x : Tmp × Value) => t.setIfInBounds x.1 x.2) tmps).toList
  | [], [], vs, fr, tmps, _, h, _ => by simpa [setPs] using h
  | p :: ps, c :: cs, vs, fr, tmps, hv, h, hl => by
    rw [RelL] at hv
    obtain ⟨x, xs, rfl, h1, h2⟩ := hv
    simp only [setPs, List.zip_cons_cons, List.foldl_cons]
    refine setPs_rel h2 ?_ (by simpa using hl)
    rw [Array.toList_setIfInBounds]
    exact h.set p h1
  | [], _ :: _, _, _, _, _, _, hl => by simp at hl
  | _ :: _, [], _, _, _, _, _, hl => by simp at hl

/-! ### The loop -/
def rfAt (m : M) : Option (FuncId × List AV) :=
  match m.ks with
  | .code (.rangeFunc g _ _ _) :: _ => match ev m.st.fr g with
    | .fn f caps => if noMark m.st.hp then some (f, caps) else none
    | _ => none
  | _ => none

def recM (D : Nat) (us : List Value) (m : M) : AObj :=
  match m.ks with
  | .code (.rangeFunc _ ps asg bd) :: _ => .inert (.lrec D .ready us ps asg bd)
  | _ => .dead

def afterM (j : Option Code) (m : M) (fr : List AV) (hp : List AObj) : M :=
  match m.ks with
  | .code (.rangeFunc _ _ _ _) :: ks => match j with
    | none => ⟨ks, ⟨fr, hp⟩⟩
    | some c => ⟨.code c :: ks, ⟨fr, hp⟩⟩
  | _ => m

/-- Behind the function that was ranged over: its caller goes on, or leaves by the jump of a round. -/
def rangeQ (P : Program) (fn : Func) (m : M) (n D : Nat) (us : List Value) (Q : Exit → St → Prop) : Exit → St → Prop := fun e st' =>
  (e = .normal ∨ e = .ret) ∧ ∃ res fr' s, resIn P fn st' = some res ∧ frameAt n st' = some (us, fr') ∧ lstAt (n + 1) st'.hp = some (D, s) ∧
    (match s with
     | .busy => False
     | s => Runs none P (afterM s.pend m fr' (setM (n + 1) (st'.hp.set n .dead))) Q)

section
variable {P : Program} {m : M} {Q : Exit → St → Prop}

theorem oneInert_dead : ∀ {hp : List AObj} (n : Nat), oneInert hp = true → oneInert (hp.set n .dead) = true
  | [], n, h => by simpa using h
  | o :: hp, 0, h => by
    unfold oneInert at h
    simp only [List.set_cons_zero, oneInert, isInert, Bool.false_eq_true, if_false]
    split at h
    · rename_i ho
      clear ho
      induction hp with
      | nil => rfl
      | cons o hp ih =>
        simp only [List.all_cons, Bool.and_eq_true] at h
        simp only [oneInert]
        rw [if_neg (by simpa using h.1)]
        exact ih h.2
    · exact h
  | o :: hp, n + 1, h => by
    unfold oneInert at h
    simp only [List.set_cons_succ, oneInert]
    split at h
    · rename_i ho
      rw [if_pos ho, List.all_eq_true]
      intro o' ho'
      rcases List.mem_or_eq_of_mem_set ho' with h1 | rfl
      · exact List.all_eq_true.1 h o' h1
      · rfl
    · rename_i ho
      rw [if_neg ho]
      exact oneInert_dead n h

theorem R.range {f : FuncId} {fn : Func} {c : Code} {caps : List AV} (hf : P.funcs[f]? = some fn) (hb : fn.body = some c) (hnm : (fn.name == "runtime.NumGoroutine") = false) (h : rfAt m = some (f, caps))
    (h' : ∀ (D : Nat) (us : List Value), Runs none P ⟨[.code c], ⟨frameOf fn.ntmps (.ref (m.st.hp.length + 1) :: caps), m.st.hp ++ [.frame us m.st.fr] ++ [recM D us m]⟩⟩ (rangeQ P fn m m.st.hp.length D us Q)) : Runs none P m Q := by
  have hen := enters_of hf hnm (by rw [hb]; rfl)
  obtain ⟨ks, ⟨fr, hp⟩⟩ := m
  unfold rfAt at h
  simp only at h
  rw [runs_iff]
  split at h
  · rename_i g ps asg bd ks'
    split at h
    · rename_i f' caps' hg
      split at h
      · rename_i hnmk
        cases h
        simp only [recM] at h'
        simp only [RunsK]
        intro Z0 w0 a w hS
        obtain ⟨μ, F, hFb, hH, hF, hd, hbel⟩ := hS
        have hd0 := hd.none hnmk
        refine wpIn_rangeFunc ?_
        intro fnid _
        have hgv := hg ▸ ev_rel hF g
        simp only [Rel] at hgv
        obtain ⟨cv, hgv, hcr⟩ := hgv
        obtain ⟨rec, hrec⟩ : ∃ rec : Loop, rec = { state := .ready, pending := none, fn := fnid, tmps := a.tmps, params := ps, assign := asg, body := bd, defers := w.heap.size } := ⟨_, rfl⟩
        obtain ⟨W1, hW1⟩ : ∃ W1, (w.alloc (.deferred (some []))).alloc (.loop rec) = W1 := ⟨_, rfl⟩
        have hL1 : W1.heap[w.heap.size + 1]? = some (.loop rec) := by
          rw [← hW1]; have := World.alloc_heap_new (w.alloc (.deferred (some []))) (.loop rec); rwa [World.size_alloc] at this
        have hK1 : W1.heap[w.heap.size]? = some (.deferred (some [])) := by
          rw [← hW1]; exact (Below.heap_alloc _ _ _ (by simp)).trans (World.alloc_heap_new w _)
        have hsz : W1.heap.size = w.heap.size + 2 := by rw [← hW1]; simp
        have hb1 : Below w.heap.size w W1 := by
          rw [← hW1]; exact ((Below.refl _ w).alloc (Nat.le_refl _) _).alloc (by simp) _
        refine ⟨w.heap.size + 1, [{ target := .collected w.heap.size, args := #[] }], W1, { target := .fn (.func f) cv.toArray, args := #[.func (.yield (w.heap.size + 1)) #[] #[]] }, W1, f,
          #[.func (.yield (w.heap.size + 1)) #[] #[]] ++ cv.toArray, W1, ?_, ?_, fun _ _ => trivial, ?_, fun hd => absurd hd (by simp [Fc, Fence.wide]), ?_⟩
        · rw [← hW1, hrec]; exact run_enterLoop_outer _ _ _ _ _
        · simp only [resolve, hgv]
          simp [go_sem]
        · simp [invoke, go_sem, hen _ W1]
        · -- the function that is ranged over
          have hrun := h' w.heap.size a.tmps.toList
          simp only [runs_iff, RunsK] at hrun
          have hFb2 : ∀ b, (F b ∨ b = w.heap.size ∨ b = w.heap.size + 1) → w0.heap.size ≤ b ∧ b < W1.heap.size := fun b hb => by
            have hB := hbel.size
            rcases hb with hb | rfl | rfl
            · have := hFb b hb; omega
            · omega
            · omega
          have hz : ∀ b, b < w.heap.size → ¬ Zone Z0 F w0.heap.size b → ¬ Zone Z0 (fun b => F b ∨ b = w.heap.size ∨ b = w.heap.size + 1) w0.heap.size b := fun b _ hb => zone_more (F' := fun b => b = w.heap.size ∨ b = w.heap.size + 1) b hb
          have hzz : ∀ b, b < w.heap.size → Zone Z0 F w0.heap.size b → Zone Z0 (fun b => F b ∨ b = w.heap.size ∨ b = w.heap.size + 1) w0.heap.size b := fun b hb h => h.elim .inl fun h2 => .inr ⟨h2.1, fun hf => hf.elim h2.2 (fun h3 => by omega)⟩
          have hnz : ∀ b, w.heap.size ≤ b → b ≤ w.heap.size + 1 → ¬ Zone Z0 (fun b => F b ∨ b = w.heap.size ∨ b = w.heap.size + 1) w0.heap.size b := fun b h1 h2 h => by
            have hB := hbel.size
            rcases h with h | h
            · omega
            · exact h.2 (.inr (by omega))
          have hH1 := (hH.weak hz hzz).extend0 (u := .bool false) (o := .frame a.tmps.toList fr) (Below.refl _ _) (RelL.keep (w := w) (fun _ _ _ => rfl) (fun i u hu => append_old i u hu) (hF.weak hz)) rfl rfl
          have hH2 := hH1.extend0 (u := .func (.yield (w.heap.size + 1)) #[] #[]) (o := .inert (.lrec w.heap.size .ready a.tmps.toList ps asg bd)) hb1
            ⟨fnid, rfl, ⟨⟨hbel.size, hnz _ (Nat.le_refl _) (by omega)⟩, hK1⟩, hnz _ (by omega) (Nat.le_refl _), by rw [hL1, hrec]; rfl⟩ rfl rfl
          have hlen := hcr.length
          have hkeep : ∀ {cs : List AV} {vs : List Value}, RelL w (Zone Z0 F w0.heap.size) μ cs vs → RelL W1 (Zone Z0 (fun b => F b ∨ b = w.heap.size ∨ b = w.heap.size + 1) w0.heap.size) (μ ++ [.bool false] ++ [.func (.yield (w.heap.size + 1)) #[] #[]]) cs vs := fun h =>
            RelL.keep (w := w) (fun b hb _ => hb1.block b hb) (fun i u hu => append_old i u (append_old i u hu)) (h.weak hz)
          have hS2 : Sim Z0 w0 ⟨frameOf fn.ntmps (.ref (hp.length + 1) :: caps), hp ++ [.frame a.tmps.toList fr] ++ [.inert (.lrec w.heap.size .ready a.tmps.toList ps asg bd)]⟩
              { tmps := (#[Value.func (.yield (w.heap.size + 1)) #[] #[]] ++ cv.toArray) ++ Array.replicate (fn.ntmps - (#[Value.func (.yield (w.heap.size + 1)) #[] #[]] ++ cv.toArray).size) undef, defers := [] } W1 := by
            refine ⟨_, _, hFb2, hH2, ?_, .inl rfl, hbel.trans (hb1.mono hbel.size)⟩
            have hall : RelL W1 (Zone Z0 (fun b => F b ∨ b = w.heap.size ∨ b = w.heap.size + 1) w0.heap.size) (μ ++ [.bool false] ++ [.func (.yield (w.heap.size + 1)) #[] #[]]) (.ref (hp.length + 1) :: caps) (.func (.yield (w.heap.size + 1)) #[] #[] :: cv) := by
              refine RelL.cons ?_ (hkeep hcr)
              simp only [Rel]
              rw [← hH.len]
              simp
            have e1 : (#[Value.func (.yield (w.heap.size + 1)) #[] #[]] ++ cv.toArray) = (Value.func (.yield (w.heap.size + 1)) #[] #[] :: cv).toArray := by simp
            rw [e1]
            have hl2 := hall.length
            simp only [Array.toList_append, Array.toList_replicate, List.size_toArray, hl2, frameOf]
            refine RelL.append hall ?_
            generalize fn.ntmps - (AV.ref (hp.length + 1) :: caps).length = n
            induction n with
            | zero => exact RelL.nil
            | succ n ih => exact RelL.cons (by simp [Rel]) ih
          refine callsIn_of_wp (F := Fc none) (n := 0 - 1) hf hb trivial (wpIn_mono (hrun Z0 w0 _ W1 hS2) ?_)
          have fin : ∀ (e : Exit) (st' : St) (a' : Act) (w' : World), rangeQ P fn ⟨.code (.rangeFunc g ps asg bd) :: ks', ⟨fr, hp⟩⟩ hp.length w.heap.size a.tmps.toList Q e st' → Sim Z0 w0 st' a' w' → a'.defers = [] ∧ ∃ v, (results fn a'.tmps).run P w' = .ok v w' ∧
              rangePost (Fc none) 0 P (w.heap.size + 1) (fun e a' w' => ∃ st', RunsK none P Q ks' e st' ∧ Sim Z0 w0 st' a' w') { a with defers := [{ target := .collected w.heap.size, args := #[] }] ++ a.defers } (.returned v) w' := by
            rintro e st' a' w' ⟨_, res, fr', s, hres, hfr, hls, hgo⟩ ⟨μ', F', hFb', hH', hF', hd', hbel'⟩
            obtain ⟨x, h1, h2⟩ := resIn_run hH' hF' hres
            obtain ⟨⟨us', ps', asg', bd', hi⟩, hone⟩ := lstAt_parts hls
            refine ⟨hd'.none (resIn_mark hres), x, h1, ?_⟩
            unfold frameAt at hfr
            split at hfr
            · rename_i us2 fr2 hi2
              cases hfr
              have hil : hp.length < μ'.length := by rw [hH'.len]; exact (List.getElem?_eq_some_iff.1 hi2).1
              have hfrr : RelL w' (Zone Z0 F' w0.heap.size) μ' fr' a.tmps.toList := hH'.obj _ _ _ hi2 (List.getElem?_eq_getElem hil)
              have hi3 : (st'.hp.set hp.length .dead)[hp.length + 1]? = some (.inert (.lrec w.heap.size s us' ps' asg' bd')) := by
                rw [List.getElem?_set_ne (by omega)]; exact hi
              obtain ⟨r, hr1, hr2, hr3, _, _, _, _, hBD, hD, hμ, _, hM⟩ := (hH'.bury hp.length).turnL (oneInert_dead _ hone) hi3
              have hend := run_endLoop (P := P) hr1
              have hsim : Sim Z0 w0 ⟨fr', setM (hp.length + 1) (st'.hp.set hp.length .dead)⟩ { a with defers := [{ target := .collected w.heap.size, args := #[] }] ++ a.defers } (w'.putObj (w.heap.size + 1) (.loop { r with state := .exhausted })) := by
                refine ⟨μ', F', fun b hb => by rw [World.putObj_size]; exact hFb' b hb, hM _, hfrr.cells (putObj_cells hr1 rfl), .inr ⟨hp.length + 1, w.heap.size, _, ?_, hμ, by rw [hd0]; rfl⟩, ?_⟩
                · unfold setM
                  rw [hi3]
                  simp only [Inert.over]
                  rw [List.getElem?_set_self]
                  have := (List.getElem?_eq_some_iff.1 hi3).1
                  exact this
                · exact hbel'.grown (grownBy_putObj' w' _ _) hbel'.size (fun k e => by cases e; omega)
              cases s with
              | ready =>
                refine ⟨none, w'.putObj (w.heap.size + 1) (.loop { r with state := .exhausted }), (hend (by rw [hr2]; simp [LSt.state])).trans (congrArg (fun x => Result.ok x _) hr3), ?_⟩
                simp only [runs_iff, afterM, LSt.pend] at hgo
                exact ⟨_, hgo, hsim⟩
              | busy => exact hgo.elim
              | done c =>
                refine ⟨some c, w'.putObj (w.heap.size + 1) (.loop { r with state := .exhausted }), (hend (by rw [hr2]; simp [LSt.state])).trans (congrArg (fun x => Result.ok x _) hr3), ?_⟩
                simp only [runs_iff, afterM, LSt.pend, RunsK] at hgo
                exact hgo Z0 w0 _ _ hsim
            · cases hfr
          rintro e a' w' ⟨st', hq, hS'⟩
          cases e with
          | normal => exact fin _ st' a' w' hq hS'
          | ret => exact fin _ st' a' w' hq hS'
          | exit id => exact absurd hq.1 (by simp)
          | goto l => exact absurd hq.1 (by simp)
          | panic ch => exact absurd hq.1 (by simp)
          | outgrown => exact absurd hq.1 (by simp)
      · cases h
    · cases h
  · cases h

/-! ### Rounds -/
/-- The head calls yield: the record's object, its D, the values us of the caller's frame (by the record, by the frame), the caller's frame with the loop's variables set. -/
def ylAt (m : M) : Option (Nat × Nat × List Value × List Value) :=
  match opM m with
  | some (.call c) => match c.callee with
    | .value f => match ev m.st.fr f with
      | .ref i => match m.st.hp[i]?, m.st.hp[i - 1]? with
        | some (.inert (.lrec D .ready us ps _ _)), some (.frame us' _) => if noMark m.st.hp && oneInert m.st.hp && decide (ps.size = c.args.size) then some (i, D, us, us') else none
        | _, _ => none
      | _ => none
    | _ => none
  | _ => none

def ylF (m : M) : List AV :=
  match opM m with
  | some (.call c) => match c.callee with
    | .value f => match ev m.st.fr f with
      | .ref i => match m.st.hp[i]?, m.st.hp[i - 1]? with
        | some (.inert (.lrec _ _ _ ps _ _)), some (.frame _ fr) => setPs ps.toList (c.args.toList.map (ev m.st.fr)) fr
        | _, _ => []
      | _ => []
    | _ => []
  | _ => []

def ylC (m : M) : Code × Code :=
  match opM m with
  | some (.call c) => match c.callee with
    | .value f => match ev m.st.fr f with
      | .ref i => match m.st.hp[i]? with
        | some (.inert (.lrec _ _ _ _ asg bd)) => (asg, bd)
        | _ => (.skip, .skip)
      | _ => (.skip, .skip)
    | _ => (.skip, .skip)
  | _ => (.skip, .skip)

/-- Behind the assignments to the loop's variables the record is busy and the body runs. -/
def beginQ (l : Nat) (P : Program) (i D : Nat) (bd : Code) (Q : Exit → St → Prop) : Exit → St → Prop := fun e st' =>
  e = .normal ∧ lstAt i st'.hp = some (D, .ready) ∧ Runs (some l) P ⟨[.code bd], ⟨st'.fr, setL i .busy st'.hp⟩⟩ Q

/-- Behind a round yield's caller goes on. -/
def roundQ (P : Program) (m : M) (i D n : Nat) (us : List Value) (Q : Exit → St → Prop) : Exit → St → Prop := fun e st' =>
  ∃ fr', frameAt n st' = some (us, fr') ∧ lstAt i st'.hp = some (D, .busy) ∧
    match e with
    | .normal => Runs none P (backM m fr' (.bool true) (setL i .ready (st'.hp.set n .dead))) Q
    | .ret => Runs none P (backM m fr' (.bool false) (setL i (.done .ret) (st'.hp.set n .dead))) Q
    | .exit id => Runs none P (backM m fr' (.bool false) (setL i (.done (.exit id)) (st'.hp.set n .dead))) Q
    | _ => False

theorem R.yield (i D : Nat) (us : List Value) (h : ylAt m = some (i, D, us, us)) (ho : opsAt m = true)
    (h' : ∀ (l : Nat) (us' : List Value), Runs (some l) P ⟨[.code (ylC m).1], ⟨ylF m, m.st.hp ++ [.frame us' m.st.fr]⟩⟩ (beginQ l P i D (ylC m).2 (roundQ P m i D m.st.hp.length us' Q))) : Runs none P m Q := by
  obtain ⟨ks, ⟨fr, hp⟩⟩ := m
  unfold ylAt at h
  unfold ylF ylC at h'
  unfold opM headOf at h h'
  unfold opsAt at ho
  simp only at h ho h'
  rw [runs_iff]
  split at ho
  · rename_i all o lst fl ks'
    simp only at h h'
    split at h
    · rename_i c hop
      split at hop
      · rename_i hw
        simp only [Option.some.injEq] at hop
        simp only [hw, if_true, hop] at h'
        split at h
        · rename_i fo hcal
          simp only [hcal] at h'
          split at h
          · rename_i i0 hev
            simp only [hev] at h'
            split at h
            · rename_i D0 us0 ps asg bd us1 cfr hi0 hi1
              simp only [hi0, hi1] at h'
              split at h
              · rename_i hc
                simp only [Bool.and_eq_true, decide_eq_true_eq] at hc
                obtain ⟨⟨hnmk, hone⟩, hps⟩ := hc
                simp only [Option.some.injEq, Prod.mk.injEq] at h
                obtain ⟨rfl, rfl, rfl, rfl⟩ := h
                simp only [RunsK]
                intro hW
                have hwant := wantH_true hw hW
                intro Z0 w0 a w hS
                obtain ⟨μ, F, hFb, hH, hF, hd, hbel⟩ := hS
                have hd0 := hd.none hnmk
                refine wpListIn_step fun K hK => ?_
                rw [wanted_rel hF hwant, if_pos rfl]
                have hE : ∀ y, Rel w (Zone Z0 F w0.heap.size) μ (ev fr y) (a.eval y) := fun y => ev_rel hF y
                have hcv := hev ▸ hE fo
                simp only [Rel] at hcv
                obtain ⟨r, hr1, hr2, hr3, hr4, hr5, hr6, hr7, hBD, hD, hμ, hL, _⟩ := hH.turnL hone hi0
                rw [hμ] at hcv
                have hcv : a.eval fo = .func (.yield (D0 + 1)) #[] #[] := (Option.some.inj hcv).symm
                have hargs' : RelL w (Zone Z0 F w0.heap.size) μ (c.args.toList.map (ev fr)) (c.args.toList.map a.eval) := by
                  generalize c.args.toList = l
                  induction l with
                  | nil => exact RelL.nil
                  | cons x l ih => exact RelL.cons (hE x) ih
                have hrun : (execOp a.eval o).run P w = .ok (.round (D0 + 1) r.fn ((ps.zip (c.args.map a.eval)).foldl (fun tmps (x : Tmp × Value) => tmps.setIfInBounds x.1 x.2) us1.toArray) asg bd) w := by
                  have hy := run_yield (P := P) (args := c.args.map a.eval) hr1 (by rw [hr5, Array.size_map]; exact hps.symm)
                  rw [hr4, hr5, hr6, hr7] at hy
                  obtain ⟨callee, cargs, tys⟩ := c
                  simp only at hcal hy
                  subst hcal
                  simp only [execOp, hop, resolve, Deferred.ofValue, hcv, Sem.run_bind, Sem.run_pure, Result.andThen_ok, invoke, Array.empty_append, Array.append_empty]
                  exact hy
                refine wpIn_of_run (fun c' => by rw [hop]; simp) ?_
                rw [hrun, Oper.uponIn_round]
                refine ⟨fun hd => absurd hd (by simp [Fc, Fence.wide]), ?_⟩
                refine roundIn_of_wpIn (F := Fc none) trivial ?_
                have hrun2 := h' (D0 + 1) a.tmps.toList
                simp only [runs_iff, RunsK] at hrun2
                have hil : i0 - 1 < μ.length := by rw [hH.len]; exact (List.getElem?_eq_some_iff.1 hi1).1
                have hcfr : RelL w (Zone Z0 F w0.heap.size) μ cfr us1 := hH.obj _ _ _ hi1 (List.getElem?_eq_getElem hil)
                have hS2 : Sim Z0 w0 ⟨setPs ps.toList (c.args.toList.map (ev fr)) cfr, hp ++ [.frame a.tmps.toList fr]⟩ { tmps := (ps.zip (c.args.map a.eval)).foldl (fun tmps (x : Tmp × Value) => tmps.setIfInBounds x.1 x.2) us1.toArray, defers := [] } w := by
                  refine ⟨μ ++ [.bool false], F, hFb, hH.extend0 (Below.refl _ _) (RelL.keep (w := w) (fun _ _ _ => rfl) (fun i u hu => append_old i u hu) hF) rfl rfl, ?_, .inl rfl, hbel⟩
                  have := setPs_rel (ps := ps.toList) (tmps := us1.toArray) hargs' hcfr (by simpa using hps)
                  refine RelL.keep (w := w) (fun _ _ _ => rfl) (fun i u hu => append_old i u hu) ?_
                  rw [← Array.foldl_toList, Array.toList_zip, Array.toList_map]
                  exact this
                refine wpIn_mono (hrun2 Z0 w0 _ w hS2) ?_
                rintro e a1 w1 ⟨st1, ⟨rfl, hls, hgo⟩, hS1⟩
                obtain ⟨⟨us2, ps2, as2, bd2, hj⟩, hone1⟩ := lstAt_parts hls
                obtain ⟨μ1, F1, hFb1, hH1, hF1, hd1, hbel1⟩ := hS1
                obtain ⟨r1, k1, k2, k3, k4, k5, k6, k7, kB, kD, kμ, kL, _⟩ := hH1.turnL hone1 hj
                refine ⟨_, run_beginRound k1 (by rw [k2]; rfl), ?_⟩
                have hbusy : ({ r1 with state := .busy } : Loop) = { r1 with state := LSt.busy.state, pending := LSt.busy.pend } := by
                  rw [show LSt.busy.pend = r1.pending from k3.symm]; rfl
                have keepD : ∀ {hp' : List AObj} {μ' : List Value} {ds : List Deferred} (s : LSt), Defs μ' hp' ds → noMark hp' = true → Defs μ' (setL i0 s hp') ds := fun s h hn => .inl (h.none hn)
                have hS3 : Sim Z0 w0 ⟨st1.fr, setL i0 .busy st1.hp⟩ a1 (w1.putObj (D0 + 1) (.loop { r1 with state := .busy })) := by
                  refine ⟨μ1, F1, fun b hb => by rw [World.putObj_size]; exact hFb1 b hb, by rw [hbusy]; exact kL .busy, hF1.cells (putObj_cells k1 rfl), ?_, hbel1.grown (grownBy_putObj' w1 _ _) hbel1.size (fun k e => by cases e; omega)⟩
                  rcases hd1 with hd1 | ⟨i', D', u', e1, _, _⟩
                  · exact .inl hd1
                  · exfalso
                    have := oneInert_at hone1 hj _ _ e1
                    subst this
                    rw [hj] at e1
                    cases e1
                simp only [runs_iff, RunsK] at hgo
                refine wpIn_mono (hgo Z0 w0 _ _ hS3) ?_
                have fin : ∀ (s : LSt) (j : Option Code) (b : Bool) (st2 : St) (a2 : Act) (w2 : World) (fr2 : List AV), s.pend = j → s.state = (if j.isNone then LoopState.ready else LoopState.done) → b = j.isNone → frameAt hp.length st2 = some (a.tmps.toList, fr2) → lstAt i0 st2.hp = some (D0, .busy) → Sim Z0 w0 st2 a2 w2 →
                    Runs none P (backM ⟨.ops all (o :: lst) fl :: ks', ⟨fr, hp⟩⟩ fr2 (.bool b) (setL i0 s (st2.hp.set hp.length .dead))) Q → ∃ v w3, (Instr.endRound (D0 + 1) j).run P w2 = .ok v w3 ∧ K (a.put o.dst v) w3 := by
                  rintro s j b st2 a2 w2 fr2 rfl hst rfl hfr hls2 ⟨μ2, F2, hFb2, hH2, hF2, hd2, hbel2⟩ hgo2
                  obtain ⟨⟨us3, ps3, as3, bd3, hj3⟩, hone2⟩ := lstAt_parts hls2
                  unfold frameAt at hfr
                  split at hfr
                  · rename_i us4 fr4 hi4
                    cases hfr
                    have hne : hp.length ≠ i0 := by
                      intro e
                      rw [e, hj3] at hi4
                      cases hi4
                    have hj4 : (st2.hp.set hp.length .dead)[i0]? = some (.inert (.lrec D0 .busy us3 ps3 as3 bd3)) := by
                      rw [List.getElem?_set_ne hne]; exact hj3
                    obtain ⟨r2, q1, q2, q3, _, _, _, _, qB, _, _, qL, _⟩ := (hH2.bury hp.length).turnL (oneInert_dead _ hone2) hj4
                    refine ⟨_, _, run_endRound _ q1, hK _ _ ?_⟩
                    have hil2 : hp.length < μ2.length := by rw [hH2.len]; exact (List.getElem?_eq_some_iff.1 hi4).1
                    have hfrr : RelL w2 (Zone Z0 F2 w0.heap.size) μ2 fr2 a.tmps.toList := hH2.obj _ _ _ hi4 (List.getElem?_eq_getElem hil2)
                    simp only [runs_iff, backM, RunsK] at hgo2
                    refine hgo2 headW_false Z0 w0 _ _ ⟨μ2, F2, fun b hb => by rw [World.putObj_size]; exact hFb2 b hb, ?_, put_rel (hfrr.cells (putObj_cells q1 rfl)) _ (by simp [Rel]), by rw [put_defers']; exact .inl hd0, hbel2.grown (grownBy_putObj' w2 _ _) hbel2.size (fun k e => by cases e; omega)⟩
                    rw [← hst]
                    exact qL s
                  · cases hfr
                rintro e a2 w2 ⟨st2, ⟨fr2, hfr, hls2, hgo2⟩, hS4⟩
                cases e with
                | normal => exact fin .ready none true st2 a2 w2 fr2 rfl rfl rfl hfr hls2 hS4 hgo2
                | ret => exact fin (.done .ret) (some .ret) false st2 a2 w2 fr2 rfl rfl rfl hfr hls2 hS4 hgo2
                | exit id => exact fin (.done (.exit id)) (some (.exit id)) false st2 a2 w2 fr2 rfl rfl rfl hfr hls2 hS4 hgo2
                | goto l => exact hgo2.elim
                | panic ch => exact hgo2.elim
                | outgrown => exact hgo2.elim
              · cases h
            · cases h
          · cases h
        · cases h
      · cases hop
    · cases h
  · cases ho

theorem R.begin {l i D : Nat} {bd : Code} (h : m.ks = []) (hl : lstAt i m.st.hp = some (D, .ready)) (h' : Runs (some l) P ⟨[.code bd], ⟨m.st.fr, setL i .busy m.st.hp⟩⟩ Q) : Runs (some l) P m (beginQ l P i D bd Q) := by
  obtain ⟨ks, st⟩ := m
  simp only at h hl h'
  subst h
  rw [runs_iff]
  exact ⟨rfl, hl, h'⟩

/-- A round ends; the loop goes on. -/
theorem R.round {l i D n : Nat} {m0 : M} {us : List Value} (fr' : List AV) (h : m.ks = []) (hf : frameAt n m.st = some (us, fr')) (hl : lstAt i m.st.hp = some (D, .busy))
    (h' : Runs none P (backM m0 fr' (.bool true) (setL i .ready (m.st.hp.set n .dead))) Q) : Runs (some l) P m (roundQ P m0 i D n us Q) := by
  obtain ⟨ks, st⟩ := m
  simp only at h hl h' hf
  subst h
  rw [runs_iff]
  exact ⟨fr', hf, hl, h'⟩

/-- The function that was ranged over ends, all rounds having gone on. -/
theorem R.over {fn : Func} {n D : Nat} {us : List Value} {m0 : M} (res : AV) (fr' : List AV) (h : (edAt m).isSome = true) (hr : resIn P fn m.st = some res) (hf : frameAt n m.st = some (us, fr')) (hl : lstAt (n + 1) m.st.hp = some (D, .ready))
    (h' : Runs none P (afterM none m0 fr' (setM (n + 1) (m.st.hp.set n .dead))) Q) : Runs none P m (rangeQ P fn m0 n D us Q) :=
  R.fin h ⟨.inl rfl, res, fr', .ready, hr, hf, hl, h'⟩ ⟨.inr rfl, res, fr', .ready, hr, hf, hl, h'⟩

/-- .. a round having left by the jump c. -/
theorem R.left {fn : Func} {n D : Nat} {us : List Value} {m0 : M} (c : Code) (res : AV) (fr' : List AV) (h : (edAt m).isSome = true) (hr : resIn P fn m.st = some res) (hf : frameAt n m.st = some (us, fr')) (hl : lstAt (n + 1) m.st.hp = some (D, .done c))
    (h' : Runs none P (afterM (some c) m0 fr' (setM (n + 1) (m.st.hp.set n .dead))) Q) : Runs none P m (rangeQ P fn m0 n D us Q) :=
  R.fin h ⟨.inl rfl, res, fr', .done c, hr, hf, hl, h'⟩ ⟨.inr rfl, res, fr', .done c, hr, hf, hl, h'⟩

end

end Go.Abs


/-! The machine's rules: boxes that are written no more. -/
namespace Go.Abs
open Go.RowKit

mutual
/-- Object i, a box with the cells ds, is only read from now on. -/
def bxV (i : Nat) (ds : List AV) : AV → AV
  | .ptr j o => if j = i then .rptr (ds.drop o) else .ptr j o
  | .agg cs => .agg (bxL i ds cs)
  | .tup cs => .tup (bxL i ds cs)
  | .fn f cs => .fn f (bxL i ds cs)
  | .ref j => .ref j
  | .lst s n cs => .lst s n cs
  | .clp s n cs => .clp s n cs
  | .rptr cs => .rptr cs
  | .int k n => .int k n
  | .bool b => .bool b
  | .str s => .str s
  | .nil => .nil
  | .own e s n cs => .own e s n cs
  | .top => .top
def bxL (i : Nat) (ds : List AV) : List AV → List AV
  | [] => []
  | c :: cs => bxV i ds c :: bxL i ds cs
end

def AObj.bx (i : Nat) (ds : List AV) : AObj → AObj
  | .box t cs => .box t (bxL i ds cs)
  | .list e s n cs => .list e s n cs
  | .dead => .dead
  | .frame us cs => .frame us (bxL i ds cs)
  | .inert x => .inert x

theorem AObj.bx_alive (i : Nat) (ds : List AV) (o : AObj) : (o.bx i ds).alive = o.alive := by cases o <;> rfl

def bxS (i : Nat) (ds : List AV) (st : St) : St := ⟨bxL i ds st.fr, (st.hp.map (AObj.bx i ds)).set i .dead⟩

theorem RelL.dropN {w : World} {Z : Nat → Prop} {μ : List Value} : ∀ {cs : List AV} {vs : List Value} (k : Nat), RelL w Z μ cs vs → RelL w Z μ (cs.drop k) (vs.drop k)
  | cs, vs, 0, h => by simpa using h
  | [], vs, k + 1, h => by rw [RelL] at h; subst h; simpa using RelL.nil
  | c :: cs, vs, k + 1, h => by
    rw [RelL] at h
    obtain ⟨x, xs, rfl, _, h2⟩ := h
    simpa using RelL.dropN k h2

mutual
theorem Rel.bx {w : World} {Z Z' : Nat → Prop} {μ : List Value} (i : Nat) (ds : List AV) (g : Nat) (xs : List Value) (hz : ∀ b, b < w.heap.size → ¬ Z b → ¬ Z' b) (hu : μ[i]? = some (.pointer (some ⟨g, 0, none⟩))) (hg : ¬ Z' g)
    (hc : ∀ (j : Nat) x, xs[j]? = some x → w.cell? ⟨g, j, none⟩ = some x) (hr : RelL w Z' [] ds xs) : ∀ {c : AV} {v : Value}, Rel w Z μ c v → Rel w Z' μ (bxV i ds c) v
  | .int _ _, _, h => by simpa [Rel, bxV] using h
  | .bool _, _, h => by simpa [Rel, bxV] using h
  | .str _, _, h => by simpa [Rel, bxV] using h
  | .nil, _, h => by simpa [Rel, bxV] using h
  | .top, _, _ => by simp [Rel, bxV]
  | .own _ _ _ _, _, h => by simp [Rel] at h
  | .lst s n cs, v, h => Rel.weak (c := .lst s n cs) hz h
  | .clp s n cs, v, h => Rel.weak (c := .clp s n cs) hz h
  | .rptr cs, v, h => Rel.weak (c := .rptr cs) hz h
  | .ref j, v, h => by simpa [Rel, bxV] using h
  | .ptr j o, v, h => by
    simp only [bxV]
    split
    · rename_i hj
      simp only [Rel] at h ⊢
      obtain ⟨u, g', h1, h2, rfl⟩ := h
      rw [hj, hu] at h1
      cases h1
      simp only [blk, Option.some.injEq] at h2
      subst h2
      refine ⟨⟨g, o, none⟩, xs.drop o, rfl, fun _ => ⟨_, rfl, hg, fun j x hx => ?_⟩, hr.dropN o⟩
      rw [List.getElem?_drop] at hx
      rw [add_lit']
      exact hc _ _ hx
    · simpa [Rel] using h
  | .agg cs, v, h => by
    simp only [Rel, bxV] at h ⊢
    obtain ⟨ys, h1, h2⟩ := h
    exact ⟨ys, h1, RelL.bx i ds g xs hz hu hg hc hr h2⟩
  | .tup cs, v, h => by
    simp only [Rel, bxV] at h ⊢
    obtain ⟨ys, h1, h2⟩ := h
    exact ⟨ys, h1, RelL.bx i ds g xs hz hu hg hc hr h2⟩
  | .fn f cs, v, h => by
    simp only [Rel, bxV] at h ⊢
    obtain ⟨ys, h1, h2⟩ := h
    exact ⟨ys, h1, RelL.bx i ds g xs hz hu hg hc hr h2⟩
theorem RelL.bx {w : World} {Z Z' : Nat → Prop} {μ : List Value} (i : Nat) (ds : List AV) (g : Nat) (xs : List Value) (hz : ∀ b, b < w.heap.size → ¬ Z b → ¬ Z' b) (hu : μ[i]? = some (.pointer (some ⟨g, 0, none⟩))) (hg : ¬ Z' g)
    (hc : ∀ (j : Nat) x, xs[j]? = some x → w.cell? ⟨g, j, none⟩ = some x) (hr : RelL w Z' [] ds xs) : ∀ {cs : List AV} {vs : List Value}, RelL w Z μ cs vs → RelL w Z' μ (bxL i ds cs) vs
  | [], _, h => by simpa [RelL, bxL] using h
  | c :: cs, _, h => by
    simp only [RelL, bxL] at h ⊢
    obtain ⟨x, ys, h1, h2, h3⟩ := h
    exact ⟨x, ys, h1, Rel.bx i ds g xs hz hu hg hc hr h2, RelL.bx i ds g xs hz hu hg hc hr h3⟩
end

theorem Sub.bx (i t : Nat) (ds : List AV) (st : St) (hi : st.hp[i]? = some (.box t ds)) (hl : leafyL ds = true) : Sub st (bxS i ds st) := by
  rintro Z0 w0 a w ⟨μ, F, hFb, hH, hF, hd, hb⟩
  have hil : i < μ.length := by rw [hH.len]; exact (List.getElem?_eq_some_iff.1 hi).1
  obtain ⟨u, hu⟩ : ∃ u, μ[i]? = some u := ⟨_, List.getElem?_eq_getElem hil⟩
  have hO := hH.obj i _ u hi hu
  have hzn := fun g => hH.zone i _ u g hi rfl hu
  obtain ⟨g, xs, rfl, hB, hh, hx⟩ := hO
  have hz : ∀ b, b < w.heap.size → ¬ Zone Z0 F w0.heap.size b → ¬ Zone Z0 (fun b => F b ∨ b = g) w0.heap.size b := fun b _ h => zone_more b h
  have hg : ¬ Zone Z0 (fun b => F b ∨ b = g) w0.heap.size g := fun h => h.elim (fun h => by omega) (fun h => h.2 (.inr rfl))
  have hc : ∀ (j : Nat) x, xs[j]? = some x → w.cell? ⟨g, j, none⟩ = some x := fun j x hx => by
    rw [cell_of_row w _ j _ _ _ hh]; simpa using hx
  have hr : RelL w (Zone Z0 (fun b => F b ∨ b = g) w0.heap.size) [] ds xs := RelL.weak hz (RelL.leafy hl hx)
  refine ⟨μ, fun b => F b ∨ b = g, fun b h => h.elim (hFb b) (fun h => by subst h; exact ⟨hB, (Array.getElem?_eq_some_iff.1 hh).1⟩), ?_, RelL.bx i ds g xs hz hu hg hc hr hF, hd.keep (fun j x hj => ⟨?_, fun u hu => hu⟩), hb⟩
  rotate_left
  · have hne : i ≠ j := by
      rintro rfl
      rw [hi] at hj
      cases hj
    show ((st.hp.map (AObj.bx i ds)).set i .dead)[j]? = _
    rw [List.getElem?_set_ne hne, List.getElem?_map, hj]
    rfl
  have get : ∀ (j : Nat) o, ((st.hp.map (AObj.bx i ds)).set i .dead)[j]? = some o → o = .dead ∨ (j ≠ i ∧ ∃ o', st.hp[j]? = some o' ∧ o = o'.bx i ds) := by
    intro j o ho
    by_cases hj : j = i
    · subst hj
      rw [List.getElem?_set_self (by simpa using (List.getElem?_eq_some_iff.1 hi).1)] at ho
      simp at ho
      exact .inl ho.symm
    · rw [List.getElem?_set_ne (Ne.symm hj), List.getElem?_map, Option.map_eq_some_iff] at ho
      obtain ⟨o', h1, rfl⟩ := ho
      exact .inr ⟨hj, o', h1, rfl⟩
  refine ⟨by simp [bxS, hH.len], fun j o v g' h1 ha h2 hg' => ?_, hH.one, fun j o v h1 h2 => ?_, fun j k oj ok uj uk g' hne h1 h2 a1 a2 m1 m2 b1 b2 => ?_⟩
  · rcases get j o h1 with rfl | ⟨hj, o', ho, rfl⟩
    · cases ha
    · rw [AObj.bx_alive] at ha
      have h3 := hH.zone j o' v g' ho ha h2 hg'
      exact h3.elim .inl (fun h => .inr ⟨h.1, fun hf => hf.elim h.2 (fun h4 => hH.sep i j _ o' _ v g' (Ne.symm hj) hi ho rfl ha hu h2 (by rw [h4]; rfl) hg')⟩)
  · rcases get j o h1 with rfl | ⟨hj, o', ho, rfl⟩
    · trivial
    · have hO := hH.obj j o' v ho h2
      cases o' with
      | box t es => obtain ⟨g', ys, e1, e2, e3, e4⟩ := hO; exact ⟨g', ys, e1, e2, e3, RelL.bx i ds g xs hz hu hg hc hr e4⟩
      | list e s n es => obtain ⟨ys, e1, e2⟩ := hO; exact ⟨ys, e1, e2.weak hz⟩
      | dead => trivial
      | frame us es => exact RelL.bx i ds g xs hz hu hg hc hr hO
      | inert x => exact InertRel.keep (fun b h1 h2 => ⟨rfl, hz b h1 h2⟩) hO
  · rcases get j oj h1 with rfl | ⟨hj, o1, ho1, rfl⟩
    · cases a1
    · rcases get k ok h2 with rfl | ⟨hk, o2, ho2, rfl⟩
      · cases a2
      · rw [AObj.bx_alive] at a1 a2
        exact hH.sep j k o1 o2 uj uk g' hne ho1 ho2 a1 a2 m1 m2 b1 b2

def bxM (i : Nat) (m : M) : M :=
  match m.st.hp[i]? with
  | some (.box _ ds) => if leafyL ds then ⟨m.ks, bxS i ds m.st⟩ else m
  | _ => m

theorem R.bx {rd : Option Nat} {P : Program} {m : M} {Q : Exit → St → Prop} (i : Nat) (h : subOk m = true) (h' : Runs rd P (bxM i m) Q) : Runs rd P m Q := by
  unfold bxM at h'
  split at h'
  · rename_i t ds hi
    split at h'
    · exact R.sub _ h (Sub.bx i t ds m.st hi (by assumption)) h'
    · exact h'
  · exact h'

/-! ### The record of a function's loop over a function -/
end Go.Abs


/-! Valuations on frames; validity. -/
namespace Go.Proofs.Ytejaikeemahobaa
open Go.RowKit Go.Abs

/-- The value of variable j in the valuation N. -/
def vat (n : Int) (vs : List Int) (N : Int) (j : Nat) : Int := if (j : Int) ∈ vs then band (shr64 N (n * ((vs.length : Int) - 1 - (vs.idxOf (j : Int) : Int)))) ((shl64 1 n) - 1) else 0
def vrow (n : Int) (vs : List Int) (N : Int) : List Int := (List.range 6).map (vat n vs N)
/-! From the end on. -/
/-! The first number of which p holds. -/
def fstN (p : Nat → Bool) (t : Nat) : Option Nat := (List.range t).find? p
/-- The truth set of a formula in the model with the number N. -/
def tv (n : Int) (xs vs : List Int) (a : List (Int × Int)) (N : Nat) : Int := gv (mT n) (mU n (bxB xs)) (vrow n vs (N : Int)) a
def badV (n : Int) (xs vs : List Int) (a : List (Int × Int)) (N : Nat) : Bool := !decide (tv n xs vs a N = (shl64 1 n) - 1)
def totN (n : Int) (vs : List Int) : Nat := (shl64 1 (n * (vs.length : Int))).toNat
def fstV (n : Int) (xs vs : List Int) (a : List (Int × Int)) : Option Nat := fstN (badV n xs vs a) (totN n vs)

end Go.Proofs.Ytejaikeemahobaa


/-! Searches on frames: codes, valuations of the reference, first refutations, refuting worlds. -/
namespace Go.Proofs.Ytejaikeemahobaa
open Go.RowKit Go.Abs

def scode (n : Int) (xs : List Int) (l : List (List (Int × Int))) : Int := if okFr n xs = true ∧ allF l = true then (if n * ((mem (vmT l l.length)).length : Int) > 16 then 3 else 0) else 1
def frC (n : Int) (xs : List Int) (a : List (Int × Int)) : Int := if scode n xs [a] = 0 then (if (fstV n xs (mem (vmT [a] [a].length)) a).isSome = true then 0 else 4) else scode n xs [a]
theorem nn_eq {n : Int} (h0 : 0 ≤ n) : ((n.toNat : Nat) : Int) = n := by omega
end Go.Proofs.Ytejaikeemahobaa


/-! Parts and sums of models. -/
namespace Go.Proofs.Ytejaikeemahobaa
open Go.RowKit Go.Abs

theorem mem_lt {N : Nat} {m : Int} (hN : N ≤ 61) (h : InM N m) : ∀ v ∈ mem m, 0 ≤ v ∧ v < (N : Int) := fun v hv => by
  rw [mem, memN_mem] at hv
  obtain ⟨k, _, h2, rfl⟩ := hv
  have := tb_lt h h2
  omega
theorem mem_lt' {N : Nat} {m : Int} (hN : N ≤ 61) (h : InM N m) {t : Nat} (ht : t < (mem m).length) : 0 ≤ (mem m).getD t 0 ∧ (mem m).getD t 0 < (N : Int) := by
  refine mem_lt hN h _ ?_
  rw [List.getD_eq_getElem?_getD, List.getElem?_eq_getElem ht]
  exact List.getElem_mem _
theorem map_take {f : Int → Int} {xs : List Int} {i : Nat} (h : i < xs.length) : (xs.take i).map f ++ [f (xs.getD i 0)] = (xs.take (i + 1)).map f := by
  rw [List.take_succ_eq_append_getElem h, List.map_append, List.getD_eq_getElem?_getD, List.getElem?_eq_getElem h]
  rfl
theorem inM_out {n k : Int} (h0 : 0 ≤ n) (h8 : n ≤ 8) (h : outR n k = false) : InM n.toNat k := by
  have h1 : inR k 0 ((shl64 1 n) - 1) = true := by
    rw [outR, (inR_iff n 0 30).2 (by omega)] at h
    simpa using h
  have h2 := (full_rng (n := n.toNat) (by omega) (m := k)).2
  rw [show ((n.toNat : Nat) : Int) = n by omega] at h2
  exact h2 h1
/-! The members of a mask, in their order. -/
theorem mem_in {N : Nat} {C : Int} (hN : N ≤ 61) (hC : InM N C) {k : Nat} (hk : k < (mem C).length) : (mem C).getD k 0 = (((mem C).getD k 0).toNat : Int) ∧ ((mem C).getD k 0).toNat < N ∧ tb C ((mem C).getD k 0).toNat = true := by
  have hg : (mem C).getD k 0 ∈ mem C := by
    rw [List.getD_eq_getElem?_getD, List.getElem?_eq_getElem hk]
    exact List.getElem_mem _
  obtain ⟨j, _, h2, h3⟩ := memN_mem.1 hg
  have := tb_lt hC h2
  rw [h3]
  exact ⟨by omega, by omega, h2⟩
/-- A set of worlds that sees nothing outside it. -/
def ClosedS (xs : List Int) (C : Int) : Prop := ∀ w u, tb C w = true → tb (xs.getD w 0) u = true → tb C u = true

section
variable {n : Int} {xs X : List Int} {C : Int}
end

end Go.Proofs.Ytejaikeemahobaa


/-! The machine's rules: slices without spare room; ways that meet again. -/
namespace Go.Abs
open Go.RowKit Go.ChangeShapes Go.WideShapes Go.Deep

section
variable {rd : Option Nat} {P : Program} {m : M} {Q : Exit → St → Prop} {α : Type}

/-! ### Rows of slices, all nil at first -/
/-! ### A part of a tuple that may come first -/
def exM (i : Nat) (v : AV) (m : M) : M :=
  match m.ks with
  | .any ops listed n :: ks => match ops[i]? with
    | some o => ⟨.any ops (listed.setIfInBounds i true) (n - 1) :: ks, ⟨putF m.st.fr o.dst v, m.st.hp⟩⟩
    | none => m
  | _ => m

/-! ### Ways that meet again -/
def meetQ (S : St) : Exit → St → Prop := fun e st => e = .normal ∧ st = S
def mtAt (m : M) : Bool :=
  match m.ks with
  | .code _ :: _ => true
  | _ => false

theorem R.meet (S : St) (h : mtAt m = true) (h1 : Runs rd P ⟨m.ks.take 1, m.st⟩ (meetQ S)) (h2 : Runs rd P ⟨m.ks.tail, S⟩ Q) : Runs rd P m Q := by
  obtain ⟨ks, st⟩ := m
  unfold mtAt at h
  simp only [runs_iff] at h h1 h2 ⊢
  split at h
  · rename_i c ks'
    simp only [List.take_succ_cons, List.take_zero, List.tail_cons, RunsK] at h1 h2 ⊢
    refine h1.mono ?_
    rintro e st' ⟨rfl, rfl⟩
    exact h2
  · cases h

end

/-! ### Rows of rows of pairs, handed to a law -/
section
variable {H : Type} {enc : TypeId × Value → H} {P : Program} {w : World} {base : Nat} {spare : Nat → Bool} {held : Bool}

end

end Go.Abs
