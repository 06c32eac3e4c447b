/- Bits of masks; relations as rows of masks; closures. -/
import Derived.Test.YtfkdkhlimdkehaaGreatM01
namespace Go.Proofs.YtfkdkhlimdkehaaGreat
open Go.RowKit Go.Abs

theorem bv_nat (a : Nat) : BitVec.ofInt 64 (a : Int) = BitVec.ofNat 64 a := by simp
theorem toInt_lt {v : BitVec 64} (h : v.toNat < 2 ^ 62) : v.toInt = (v.toNat : Int) := by
  rw [BitVec.toInt_eq_toNat_cond, if_pos (by omega)]
theorem toNat_lt {a : Nat} (h : a < 2 ^ 62) : (BitVec.ofNat 64 a).toNat = a := by
  rw [BitVec.toNat_ofNat, Nat.mod_eq_of_lt (by omega)]
theorem bor_nat {a b : Nat} (ha : a < 2 ^ 62) (hb : b < 2 ^ 62) : bor (a : Int) (b : Int) = ((a ||| b : Nat) : Int) := by
  have h : (BitVec.ofNat 64 a ||| BitVec.ofNat 64 b).toNat = a ||| b := by rw [BitVec.toNat_or, toNat_lt ha, toNat_lt hb]
  rw [bor_bv, bv_nat, bv_nat, toInt_lt (by rw [h]; exact Nat.or_lt_two_pow ha hb), h]
theorem band_nat {a b : Nat} (ha : a < 2 ^ 62) (hb : b < 2 ^ 62) : band (a : Int) (b : Int) = ((a &&& b : Nat) : Int) := by
  have h : (BitVec.ofNat 64 a &&& BitVec.ofNat 64 b).toNat = a &&& b := by rw [BitVec.toNat_and, toNat_lt ha, toNat_lt hb]
  rw [band_bv, bv_nat, bv_nat, toInt_lt (by rw [h]; exact Nat.and_lt_two_pow _ hb), h]
theorem shl_nat {i : Nat} (h : i ≤ 62) : shl64 1 (i : Int) = ((2 ^ i : Nat) : Int) := by
  rw [shl_one _ (by omega) (by omega)]
  simp
theorem shr_nat {m i : Nat} (h : i ≤ 62) : shr64 (m : Int) (i : Int) = ((m / 2 ^ i : Nat) : Int) := by
  unfold shr64
  rw [show min (i : Int).toNat 64 = i by omega]
  rw [show ((2 : Int) ^ i) = ((2 ^ i : Nat) : Int) by simp]
  rw [Int.fdiv_eq_ediv_of_nonneg _ (Int.natCast_nonneg _)]
  rfl

/-- The bits of a mask. -/
def tb (m : Int) (i : Nat) : Bool := m.toNat.testBit i
def InM (n : Nat) (m : Int) : Prop := 0 ≤ m ∧ m.toNat < 2 ^ n
theorem inM_nat {n : Nat} {m : Int} (h : InM n m) : ∃ a : Nat, m = a ∧ a < 2 ^ n := ⟨m.toNat, by have := h.1; omega, h.2⟩
theorem inM_62 {n a : Nat} (hn : n ≤ 61) (h : a < 2 ^ n) : a < 2 ^ 62 := Nat.lt_of_lt_of_le h (Nat.pow_le_pow_right (by decide) (by omega))
theorem inM_bor {n : Nat} {a b : Int} (hn : n ≤ 61) (ha : InM n a) (hb : InM n b) : InM n (bor a b) := by
  obtain ⟨a, rfl, ha'⟩ := inM_nat ha
  obtain ⟨b, rfl, hb'⟩ := inM_nat hb
  rw [bor_nat (inM_62 hn ha') (inM_62 hn hb')]
  exact ⟨by omega, by simpa using Nat.or_lt_two_pow ha' hb'⟩
theorem tb_bor {n : Nat} {a b : Int} (hn : n ≤ 61) (ha : InM n a) (hb : InM n b) (i : Nat) : tb (bor a b) i = (tb a i || tb b i) := by
  obtain ⟨a, rfl, ha'⟩ := inM_nat ha
  obtain ⟨b, rfl, hb'⟩ := inM_nat hb
  rw [bor_nat (inM_62 hn ha') (inM_62 hn hb')]
  simp [tb, Nat.testBit_or]
theorem le_bor {n : Nat} {a b : Int} (hn : n ≤ 61) (ha : InM n a) (hb : InM n b) : a ≤ bor a b := by
  obtain ⟨a, rfl, ha'⟩ := inM_nat ha
  obtain ⟨b, rfl, hb'⟩ := inM_nat hb
  rw [bor_nat (inM_62 hn ha') (inM_62 hn hb')]
  exact Int.ofNat_le.2 Nat.left_le_or
theorem inM_one {n i : Nat} (hn : n ≤ 61) (hi : i < n) : InM n (shl64 1 (i : Int)) := by
  rw [shl_nat (by omega)]
  exact ⟨Int.natCast_nonneg _, by rw [Int.toNat_natCast]; exact Nat.pow_lt_pow_right (by decide) hi⟩
theorem tb_one {i : Nat} (hi : i ≤ 61) (j : Nat) : tb (shl64 1 (i : Int)) j = decide (i = j) := by
  rw [shl_nat (by omega)]
  unfold tb
  rw [Int.toNat_natCast, Nat.testBit_two_pow]
theorem inM_zero (n : Nat) : InM n 0 := ⟨Int.le_refl _, by simpa using Nat.two_pow_pos n⟩
theorem tb_zero (i : Nat) : tb 0 i = false := by simp [tb]
theorem tb_ext {a b : Int} (ha : 0 ≤ a) (hb : 0 ≤ b) (h : ∀ i, tb a i = tb b i) : a = b := by
  have := Nat.eq_of_testBit_eq (x := a.toNat) (y := b.toNat) h
  omega
theorem tb_lt {n : Nat} {m : Int} {i : Nat} (h : InM n m) (hi : tb m i = true) : i < n := by
  rcases Nat.lt_or_ge i n with h1 | h1
  · exact h1
  · have := Nat.testBit_lt_two_pow (Nat.lt_of_lt_of_le h.2 (Nat.pow_le_pow_right (by decide) h1))
    unfold tb at hi
    rw [this] at hi
    cases hi
theorem wrap_inM {n : Nat} {m : Int} (hn : n ≤ 61) (h : InM n m) : IntKind.i64.wrap m = m := by
  obtain ⟨a, rfl, ha⟩ := inM_nat h
  have := inM_62 hn ha
  exact wrap_id (by omega) (by omega)
theorem bnot_sub {n : Nat} {a b : Int} (hn : n ≤ 61) (ha : InM n a) (hb : InM n b) : bnot a b = 0 ↔ ∀ i, tb a i = true → tb b i = true := by
  rw [bnot_zero a b (wrap_inM hn ha)]
  obtain ⟨a, rfl, ha'⟩ := inM_nat ha
  obtain ⟨b, rfl, hb'⟩ := inM_nat hb
  rw [band_nat (inM_62 hn ha') (inM_62 hn hb')]
  simp only [tb, Int.toNat_natCast]
  constructor
  · intro h i hi
    have h1 : a &&& b = a := by omega
    rw [← h1, Nat.testBit_and] at hi
    simp only [Bool.and_eq_true] at hi
    exact hi.2
  · intro h
    congr 1
    apply Nat.eq_of_testBit_eq
    intro i
    rw [Nat.testBit_and]
    cases hi : a.testBit i with
    | false => rfl
    | true => rw [h i hi]; rfl
theorem has_tb {n i : Nat} {m : Int} (hn : n ≤ 61) (h : InM n m) (hi : i ≤ 61) : band (shr64 m (i : Int)) 1 = 1 ↔ tb m i = true := by
  obtain ⟨a, rfl, ha⟩ := inM_nat h
  have h1 : a / 2 ^ i < 2 ^ 62 := Nat.lt_of_le_of_lt (Nat.div_le_self _ _) (inM_62 hn ha)
  rw [shr_nat (by omega), show (1 : Int) = ((1 : Nat) : Int) from rfl, band_nat h1 (by decide), Nat.and_one_is_mod]
  simp only [tb, Int.toNat_natCast, Nat.testBit_eq_decide_div_mod_eq, decide_eq_true_eq]
  omega
theorem full_rng {n : Nat} {m : Int} (hn : n ≤ 61) : InM n m ↔ inR m 0 ((shl64 1 (n : Int)) - 1) = true := by
  rw [inR_iff, shl_nat (by omega)]
  unfold InM
  generalize 2 ^ n = q
  omega

/-- Steps along a relation. -/
def Edge (xs : List Int) (i j : Nat) : Prop := i < xs.length ∧ tb (xs.getD i 0) j = true
inductive Star (E : Nat → Nat → Prop) : Nat → Nat → Prop
  | refl (i : Nat) : Star E i i
  | tail {i j k : Nat} (h : Star E i j) (e : E j k) : Star E i k
theorem Star.trans {E : Nat → Nat → Prop} {i j k : Nat} (h : Star E i j) (h' : Star E j k) : Star E i k := by
  induction h' with
  | refl => exact h
  | tail _ e ih => exact .tail ih e
/-- Paths that pass only through points below b. -/
inductive Pth (E : Nat → Nat → Prop) (b : Nat) : Nat → Nat → Prop
  | edge {i k : Nat} (e : E i k) : Pth E b i k
  | via {i m k : Nat} (h : Pth E b i m) (hm : m < b) (h' : Pth E b m k) : Pth E b i k
theorem Pth.mono {E : Nat → Nat → Prop} {b b' i k : Nat} (hb : b ≤ b') (h : Pth E b i k) : Pth E b' i k := by
  induction h with
  | edge e => exact .edge e
  | via _ hm _ i1 i2 => exact .via i1 (by omega) i2
theorem Pth.zero {E : Nat → Nat → Prop} {i k : Nat} (h : Pth E 0 i k) : E i k := by
  cases h with
  | edge e => exact e
  | via _ hm _ => omega
theorem pth_step {E : Nat → Nat → Prop} {j i k : Nat} : Pth E (j + 1) i k ↔ Pth E j i k ∨ (Pth E j i j ∧ Pth E j j k) := by
  constructor
  · intro h
    induction h with
    | edge e => exact .inl (.edge e)
    | @via i m k _ hm _ i1 i2 =>
      by_cases hmj : m = j
      · subst hmj
        exact .inr ⟨i1.elim id (·.1), i2.elim id (·.2)⟩
      · have hlt : m < j := by omega
        rcases i1 with a | ⟨a, b⟩
        · rcases i2 with c | ⟨c, d⟩
          · exact .inl (.via a hlt c)
          · exact .inr ⟨.via a hlt c, d⟩
        · rcases i2 with c | ⟨c, d⟩
          · exact .inr ⟨a, .via b hlt c⟩
          · exact .inr ⟨a, d⟩
  · rintro (h | ⟨h, h'⟩)
    · exact h.mono (Nat.le_succ _)
    · exact .via (h.mono (Nat.le_succ _)) (Nat.lt_succ_self _) (h'.mono (Nat.le_succ _))
theorem pth_star {E : Nat → Nat → Prop} {n i k : Nat} (hE : ∀ i j, E i j → i < n) : (Pth E n i k ∨ i = k) ↔ Star E i k := by
  constructor
  · rintro (h | rfl)
    · induction h with
      | edge e => exact .tail (.refl _) e
      | via _ _ _ i1 i2 => exact i1.trans i2
    · exact .refl _
  · intro h
    induction h with
    | refl => exact .inr rfl
    | @tail j k _ e ih =>
      rcases ih with h | rfl
      · exact .inl (.via h (hE _ _ e) (.edge e))
      · exact .inl (.edge e)

/-- Rows of masks of n bits. -/
def RelOK (n : Nat) (xs : List Int) : Prop := xs.length = n ∧ ∀ j, j < n → InM n (xs.getD j 0)
theorem getD_set_if {α : Type} (xs : List α) (i j : Nat) (v d : α) (hi : i < xs.length) : (xs.set i v).getD j d = if i = j then v else xs.getD j d := by
  simp only [List.getD_eq_getElem?_getD, List.getElem?_set]
  split
  · rename_i h; subst h; simp [hi]
  · rfl
def wrow (out : List Int) (j i : Nat) : List Int := if band (shr64 (out.getD i 0) (j : Int)) 1 = 1 then out.set i (bor (out.getD i 0) (out.getD j 0)) else out
def win (out : List Int) (j : Nat) : Nat → List Int
  | 0 => out
  | i + 1 => wrow (win out j i) j i
def wout (xs : List Int) : Nat → List Int
  | 0 => xs
  | j + 1 => win (wout xs j) j xs.length
def rout (xs : List Int) : Nat → List Int
  | 0 => xs
  | i + 1 => (rout xs i).set i (bor ((rout xs i).getD i 0) (shl64 1 (i : Int)))
theorem win_ok {n : Nat} {out : List Int} (hn : n ≤ 61) (h : RelOK n out) {j : Nat} (hj : j < n) : ∀ i, i ≤ n → RelOK n (win out j i) ∧ ∀ p, p < n → (∀ k, tb ((win out j i).getD p 0) k = true ↔ tb (out.getD p 0) k = true ∨ (p < i ∧ tb (out.getD p 0) j = true ∧ tb (out.getD j 0) k = true))
  | 0, _ => ⟨h, fun p hp k => by simp [win]⟩
  | i + 1, hi => by
    obtain ⟨h1, h2⟩ := win_ok hn h hj i (by omega)
    have hm := has_tb (i := j) hn (h1.2 i (by omega)) (by omega)
    have hjj : ∀ k, tb ((win out j i).getD j 0) k = true ↔ tb (out.getD j 0) k = true := fun k => by rw [h2 j hj k]; constructor; (rintro (h | ⟨_, _, h⟩) <;> exact h); exact .inl
    simp only [win, wrow]
    split
    · rename_i hc
      have ht := hm.1 hc
      rw [h2 i (by omega)] at ht
      have ht' : tb (out.getD i 0) j = true := by rcases ht with h | ⟨h, _⟩; exact h; omega
      have hI := inM_bor hn (h1.2 i (by omega)) (h1.2 j hj)
      refine ⟨⟨by rw [List.length_set]; exact h1.1, fun p hp => ?_⟩, fun p hp k => ?_⟩
      · rw [getD_set_if _ _ _ _ _ (by rw [h1.1]; omega)]
        split
        · exact hI
        · exact h1.2 p hp
      · rw [getD_set_if _ _ _ _ _ (by rw [h1.1]; omega)]
        split
        · rename_i hip
          subst hip
          rw [tb_bor hn (h1.2 i (by omega)) (h1.2 j hj), Bool.or_eq_true, h2 i hp k, hjj k]
          constructor
          · rintro ((h | ⟨h, _⟩) | h)
            · exact .inl h
            · omega
            · exact .inr ⟨by omega, ht', h⟩
          · rintro (h | ⟨_, _, h⟩)
            · exact .inl (.inl h)
            · exact .inr h
        · rename_i hip
          rw [h2 p hp k]
          constructor
          · rintro (h | ⟨a, b⟩)
            · exact .inl h
            · exact .inr ⟨by omega, b⟩
          · rintro (h | ⟨a, b⟩)
            · exact .inl h
            · exact .inr ⟨by omega, b⟩
    · rename_i hc
      have ht : ¬ tb ((win out j i).getD i 0) j = true := fun h => hc (hm.2 h)
      rw [h2 i (by omega)] at ht
      refine ⟨h1, fun p hp k => ?_⟩
      rw [h2 p hp k]
      constructor
      · rintro (h | ⟨a, b⟩)
        · exact .inl h
        · exact .inr ⟨by omega, b⟩
      · rintro (h | ⟨a, b, c⟩)
        · exact .inl h
        · by_cases hpi : p = i
          · subst hpi; exact absurd (.inl b) ht
          · exact .inr ⟨by omega, b, c⟩
theorem wout_ok {n : Nat} {xs : List Int} (hn : n ≤ 61) (h : RelOK n xs) : ∀ j, j ≤ n → RelOK n (wout xs j) ∧ ∀ p, p < n → ∀ k, tb ((wout xs j).getD p 0) k = true ↔ Pth (Edge xs) j p k
  | 0, _ => ⟨h, fun p hp k => ⟨fun ht => .edge ⟨by rw [h.1]; exact hp, ht⟩, fun ht => ht.zero.2⟩⟩
  | j + 1, hj => by
    obtain ⟨h1, h2⟩ := wout_ok hn h j (by omega)
    obtain ⟨h3, h4⟩ := win_ok hn h1 (j := j) (by omega) xs.length (by rw [h.1]; exact Nat.le_refl _)
    refine ⟨h3, fun p hp k => ?_⟩
    rw [wout, h4 p hp k, h2 p hp k, h2 p hp j, h2 j (by omega) k, pth_step, h.1]
    simp [hp]
theorem rout_ok {n : Nat} {xs : List Int} (hn : n ≤ 61) (h : RelOK n xs) : ∀ i, i ≤ n → RelOK n (rout xs i) ∧ ∀ p, p < n → ∀ k, tb ((rout xs i).getD p 0) k = true ↔ tb (xs.getD p 0) k = true ∨ (p < i ∧ p = k)
  | 0, _ => ⟨h, fun p hp k => by simp [rout]⟩
  | i + 1, hi => by
    obtain ⟨h1, h2⟩ := rout_ok hn h i (by omega)
    have hI := inM_one hn (show i < n by omega)
    simp only [rout]
    refine ⟨⟨by rw [List.length_set]; exact h1.1, fun p hp => ?_⟩, fun p hp k => ?_⟩
    · rw [getD_set_if _ _ _ _ _ (by rw [h1.1]; omega)]
      split
      · exact inM_bor hn (h1.2 i (by omega)) hI
      · exact h1.2 p hp
    · rw [getD_set_if _ _ _ _ _ (by rw [h1.1]; omega)]
      split
      · rename_i hip
        subst hip
        rw [tb_bor hn (h1.2 i (by omega)) hI, Bool.or_eq_true, h2 i hp k, tb_one (by omega), decide_eq_true_iff]
        constructor
        · rintro ((h | ⟨h, _⟩) | h)
          · exact .inl h
          · omega
          · exact .inr ⟨by omega, h⟩
        · rintro (h | ⟨_, h⟩)
          · exact .inl (.inl h)
          · exact .inr h
      · rw [h2 p hp k]
        constructor
        · rintro (h | ⟨a, b⟩)
          · exact .inl h
          · exact .inr ⟨by omega, b⟩
        · rintro (h | ⟨a, b⟩)
          · exact .inl h
          · exact .inr ⟨by omega, b⟩
/-- What is reached from each point. -/
def clo (xs : List Int) : List Int := rout (wout xs xs.length) xs.length
theorem clo_ok {n : Nat} {xs : List Int} (hn : n ≤ 61) (h : RelOK n xs) : RelOK n (clo xs) ∧ ∀ p, p < n → ∀ k, tb ((clo xs).getD p 0) k = true ↔ Star (Edge xs) p k := by
  obtain ⟨h1, h2⟩ := wout_ok hn h n (Nat.le_refl _)
  obtain ⟨h3, h4⟩ := rout_ok hn h1 n (Nat.le_refl _)
  unfold clo
  rw [h.1]
  refine ⟨h3, fun p hp k => ?_⟩
  rw [h4 p hp k, h2 p hp k, ← pth_star (n := n) (fun i j e => by rw [← h.1]; exact e.1)]
  simp [hp]
/-- The image of a mask. -/
def img (xs : List Int) (m : Int) : Nat → Int
  | 0 => 0
  | i + 1 => if band (shr64 m (i : Int)) 1 = 1 then bor (img xs m i) (xs.getD i 0) else img xs m i
theorem img_ok {n : Nat} {xs : List Int} {m : Int} (hn : n ≤ 61) (h : RelOK n xs) (hm : InM n m) : ∀ i, i ≤ n → InM n (img xs m i) ∧ ∀ k, tb (img xs m i) k = true ↔ ∃ j, j < i ∧ tb m j = true ∧ tb (xs.getD j 0) k = true
  | 0, _ => ⟨inM_zero n, fun k => by simp [img, tb_zero]⟩
  | i + 1, hi => by
    obtain ⟨h1, h2⟩ := img_ok hn h hm i (by omega)
    have hb := has_tb (i := i) hn hm (by omega)
    simp only [img]
    split
    · rename_i hc
      refine ⟨inM_bor hn h1 (h.2 i (by omega)), fun k => ?_⟩
      rw [tb_bor hn h1 (h.2 i (by omega)), Bool.or_eq_true, h2 k]
      constructor
      · rintro (⟨j, a, b, c⟩ | hk)
        · exact ⟨j, by omega, b, c⟩
        · exact ⟨i, by omega, hb.1 hc, hk⟩
      · rintro ⟨j, a, b, c⟩
        by_cases hji : j = i
        · subst hji; exact .inr c
        · exact .inl ⟨j, by omega, b, c⟩
    · rename_i hc
      refine ⟨h1, fun k => ?_⟩
      rw [h2 k]
      constructor
      · rintro ⟨j, a, b, c⟩; exact ⟨j, by omega, b, c⟩
      · rintro ⟨j, a, b, c⟩
        by_cases hji : j = i
        · subst hji; exact absurd (hb.2 b) hc
        · exact ⟨j, by omega, b, c⟩
/-- r is what is reached from m. -/
def IsClos (n : Nat) (xs : List Int) (m r : Int) : Prop := InM n r ∧ ∀ k, tb r k = true ↔ ∃ j, tb m j = true ∧ Star (Edge xs) j k
theorem isClos_one {n : Nat} {xs : List Int} (hn : n ≤ 61) (h : RelOK n xs) {p : Nat} (hp : p < n) : IsClos n xs (shl64 1 (p : Int)) ((clo xs).getD p 0) := by
  obtain ⟨h1, h2⟩ := clo_ok hn h
  refine ⟨h1.2 p hp, fun k => ?_⟩
  rw [h2 p hp k]
  constructor
  · intro hs; exact ⟨p, by rw [tb_one (by omega)]; simp, hs⟩
  · rintro ⟨j, hj, hs⟩
    rw [tb_one (by omega), decide_eq_true_iff] at hj
    subst hj
    exact hs
theorem reach_step {n : Nat} {xs : List Int} {m0 m r : Int} (hn : n ≤ 61) (h : RelOK n xs) (hm : InM n m) (hr : IsClos n xs m0 r) (hs : ∀ k, tb m k = true → tb r k = true) : InM n (bor m (img xs m xs.length)) ∧ ∀ k, tb (bor m (img xs m xs.length)) k = true → tb r k = true := by
  obtain ⟨h1, h2⟩ := img_ok hn h hm xs.length (by rw [h.1]; exact Nat.le_refl _)
  refine ⟨inM_bor hn hm h1, fun k hk => ?_⟩
  rw [tb_bor hn hm h1, Bool.or_eq_true, h2 k] at hk
  rcases hk with hk | ⟨j, a, b, c⟩
  · exact hs k hk
  · obtain ⟨q, hq, hq2⟩ := (hr.2 j).1 (hs j b)
    exact (hr.2 k).2 ⟨q, hq, .tail hq2 ⟨a, c⟩⟩
theorem reach_mu {n : Nat} {xs : List Int} {m : Int} (hn : n ≤ 61) (h : RelOK n xs) (hm : InM n m) (hb : ¬ bnot (img xs m xs.length) m = 0) : 2 ^ n - (bor m (img xs m xs.length)).toNat < 2 ^ n - m.toNat := by
  obtain ⟨h1, _⟩ := img_ok hn h hm xs.length (by rw [h.1]; exact Nat.le_refl _)
  have hle := le_bor hn hm h1
  have hI := inM_bor hn hm h1
  have hne : m ≠ bor m (img xs m xs.length) := fun he => hb ((bnot_sub hn h1 hm).2 fun i hi => by
    rw [he, tb_bor hn hm h1, hi, Bool.or_true])
  have := hI.2
  have := hm.1
  omega
theorem reach_fin {n : Nat} {xs : List Int} {m0 m r : Int} (hn : n ≤ 61) (h : RelOK n xs) (hm : InM n m) (hr : IsClos n xs m0 r) (hs : ∀ k, tb m k = true → tb r k = true) (h0 : ∀ k, tb m0 k = true → tb m k = true) (hb : bnot (img xs m xs.length) m = 0) : m = r := by
  obtain ⟨h1, h2⟩ := img_ok hn h hm xs.length (by rw [h.1]; exact Nat.le_refl _)
  have hc := (bnot_sub hn h1 hm).1 hb
  refine tb_ext hm.1 hr.1.1 fun k => ?_
  rw [Bool.eq_iff_iff]
  refine ⟨hs k, fun hk => ?_⟩
  obtain ⟨j, hj, hp⟩ := (hr.2 k).1 hk
  induction hp with
  | refl => exact h0 _ hj
  | @tail j k _ e ih => exact hc k ((h2 k).2 ⟨j, e.1, ih ((hr.2 j).2 ⟨_, hj, by assumption⟩), e.2⟩)

end Go.Proofs.YtfkdkhlimdkehaaGreat
