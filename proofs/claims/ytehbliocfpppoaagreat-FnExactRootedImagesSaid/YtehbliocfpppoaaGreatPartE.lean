/- Texts of the proof: M01, M02, R05, MEM, H03, H04, P05, W01. -/
import Derived.Test.YtehbliocfpppoaaGreatPartD

/-! Sums of bits of masks. -/
namespace Go.Proofs.YtehbliocfpppoaaGreat
open Go.RowKit Go.Abs
theorem wrap_toNat (v : BitVec 64) : IntKind.i64.wrap (v.toNat : Int) = v.toInt := by
 rw [IntKind.wrap_i64, BitVec.toInt_eq_toNat_cond]
 have := v.isLt
 split <;> omega
theorem wrap_toInt (x : Int) : (BitVec.ofInt 64 x).toInt = IntKind.i64.wrap x := by
 rw [IntKind.wrap_i64, BitVec.toInt_ofInt, Int.bmod]
 simp only [Nat.reducePow]
 split <;> omega
theorem band_bv (x y : Int) : band x y = (BitVec.ofInt 64 x &&& BitVec.ofInt 64 y).toInt := wrap_toNat _
theorem bor_bv (x y : Int) : bor x y = (BitVec.ofInt 64 x ||| BitVec.ofInt 64 y).toInt := wrap_toNat _
theorem bnot_bv (x y : Int) : bnot x y = (BitVec.ofInt 64 x &&& ~~~ BitVec.ofInt 64 y).toInt := wrap_toNat _
theorem bnot_zero (x m : Int) (hx : IntKind.i64.wrap x = x) : bnot x m = 0 ↔ band x m = x := by
 rw [bnot_bv, band_bv]
 have e : x = (BitVec.ofInt 64 x).toInt := by rw [wrap_toInt, hx]
 have e0 : (0 : Int) = (0 : BitVec 64).toInt := rfl
 conv => rhs; rhs; rw [e]
 conv => lhs; rhs; rw [e0]
 rw [BitVec.toInt_inj, BitVec.toInt_inj]
 constructor
 ·intro h
  apply BitVec.eq_of_getLsbD_eq
  intro i hi
  have := congrArg (fun v => v.getLsbD i) h
  simp [hi] at this ⊢
  exact this
 ·intro h
  apply BitVec.eq_of_getLsbD_eq
  intro i hi
  have := congrArg (fun v => v.getLsbD i) h
  simp [hi] at this ⊢
  exact this
end Go.Proofs.YtehbliocfpppoaaGreat

/-! Bits of masks; relations as rows of masks; closures. -/
namespace Go.Proofs.YtehbliocfpppoaaGreat
open Go.RowKit Go.Abs
theorem bv_nat (a : Nat) : BitVec.ofInt 64 (a : Int) = BitVec.ofNat 64 a := by simp
theorem toInt_lt {v : BitVec 64} (h : v.toNat < 2 ^ 62) : v.toInt = (v.toNat : Int) := by
 rw [BitVec.toInt_eq_toNat_cond, if_pos (by omega)]
theorem toNat_lt {a : Nat} (h : a < 2 ^ 62) : (BitVec.ofNat 64 a).toNat = a := by
 rw [BitVec.toNat_ofNat, Nat.mod_eq_of_lt (by omega)]
theorem bor_nat {a b : Nat} (ha : a < 2 ^ 62) (hb : b < 2 ^ 62) : bor (a : Int) (b : Int) = ((a ||| b : Nat) : Int) := by
 have h : (BitVec.ofNat 64 a ||| BitVec.ofNat 64 b).toNat = a ||| b := by rw [BitVec.toNat_or, toNat_lt ha, toNat_lt hb]
 rw [bor_bv, bv_nat, bv_nat, toInt_lt (by rw [h]; exact Nat.or_lt_two_pow ha hb), h]
theorem band_nat {a b : Nat} (ha : a < 2 ^ 62) (hb : b < 2 ^ 62) : band (a : Int) (b : Int) = ((a &&& b : Nat) : Int) := by
 have h : (BitVec.ofNat 64 a &&& BitVec.ofNat 64 b).toNat = a &&& b := by rw [BitVec.toNat_and, toNat_lt ha, toNat_lt hb]
 rw [band_bv, bv_nat, bv_nat, toInt_lt (by rw [h]; exact Nat.and_lt_two_pow _ hb), h]
theorem shl_nat {i : Nat} (h : i ≤ 62) : shl64 1 (i : Int) = ((2 ^ i : Nat) : Int) := by
 rw [shl_one _ (by omega) (by omega)]
 simp
theorem shr_nat {m i : Nat} (h : i ≤ 62) : shr64 (m : Int) (i : Int) = ((m / 2 ^ i : Nat) : Int) := by
 unfold shr64
 rw [show min (i : Int).toNat 64 = i by omega]
 rw [show ((2 : Int) ^ i) = ((2 ^ i : Nat) : Int) by simp]
 rw [Int.fdiv_eq_ediv_of_nonneg _ (Int.natCast_nonneg _)]
 rfl
def tb (m : Int) (i : Nat) : Bool := m.toNat.testBit i
def InM (n : Nat) (m : Int) : Prop := 0 ≤ m ∧ m.toNat < 2 ^ n
theorem inM_nat {n : Nat} {m : Int} (h : InM n m) : ∃ a : Nat, m = a ∧ a < 2 ^ n := ⟨m.toNat, by have := h.1; omega, h.2⟩
theorem inM_62 {n a : Nat} (hn : n ≤ 61) (h : a < 2 ^ n) : a < 2 ^ 62 := Nat.lt_of_lt_of_le h (Nat.pow_le_pow_right (by decide) (by omega))
theorem inM_bor {n : Nat} {a b : Int} (hn : n ≤ 61) (ha : InM n a) (hb : InM n b) : InM n (bor a b) := by
 obtain ⟨a, rfl, ha'⟩ := inM_nat ha
 obtain ⟨b, rfl, hb'⟩ := inM_nat hb
 rw [bor_nat (inM_62 hn ha') (inM_62 hn hb')]
 exact ⟨by omega, by simpa using Nat.or_lt_two_pow ha' hb'⟩
theorem tb_bor {n : Nat} {a b : Int} (hn : n ≤ 61) (ha : InM n a) (hb : InM n b) (i : Nat) : tb (bor a b) i = (tb a i || tb b i) := by
 obtain ⟨a, rfl, ha'⟩ := inM_nat ha
 obtain ⟨b, rfl, hb'⟩ := inM_nat hb
 rw [bor_nat (inM_62 hn ha') (inM_62 hn hb')]
 simp [tb, Nat.testBit_or]
theorem inM_one {n i : Nat} (hn : n ≤ 61) (hi : i < n) : InM n (shl64 1 (i : Int)) := by
 rw [shl_nat (by omega)]
 exact ⟨Int.natCast_nonneg _, by rw [Int.toNat_natCast]; exact Nat.pow_lt_pow_right (by decide) hi⟩
theorem tb_one {i : Nat} (hi : i ≤ 61) (j : Nat) : tb (shl64 1 (i : Int)) j = decide (i = j) := by
 rw [shl_nat (by omega)]
 unfold tb
 rw [Int.toNat_natCast, Nat.testBit_two_pow]
theorem inM_zero (n : Nat) : InM n 0 := ⟨Int.le_refl _, by simpa using Nat.two_pow_pos n⟩
theorem tb_zero (i : Nat) : tb 0 i = false := by simp [tb]
theorem tb_ext {a b : Int} (ha : 0 ≤ a) (hb : 0 ≤ b) (h : ∀ i, tb a i = tb b i) : a = b := by
 have := Nat.eq_of_testBit_eq (x := a.toNat) (y := b.toNat) h
 omega
theorem tb_lt {n : Nat} {m : Int} {i : Nat} (h : InM n m) (hi : tb m i = true) : i < n := by
 rcases Nat.lt_or_ge i n with h1 | h1
 ·exact h1
 ·have := Nat.testBit_lt_two_pow (Nat.lt_of_lt_of_le h.2 (Nat.pow_le_pow_right (by decide) h1))
  unfold tb at hi
  rw [this] at hi
  cases hi
theorem wrap_inM {n : Nat} {m : Int} (hn : n ≤ 61) (h : InM n m) : IntKind.i64.wrap m = m := by
 obtain ⟨a, rfl, ha⟩ := inM_nat h
 have := inM_62 hn ha
 exact wrap_id (by omega) (by omega)
theorem bnot_sub {n : Nat} {a b : Int} (hn : n ≤ 61) (ha : InM n a) (hb : InM n b) : bnot a b = 0 ↔ ∀ i, tb a i = true → tb b i = true := by
 rw [bnot_zero a b (wrap_inM hn ha)]
 obtain ⟨a, rfl, ha'⟩ := inM_nat ha
 obtain ⟨b, rfl, hb'⟩ := inM_nat hb
 rw [band_nat (inM_62 hn ha') (inM_62 hn hb')]
 simp only [tb, Int.toNat_natCast]
 constructor
 ·intro h i hi
  have h1 : a &&& b = a := by omega
  rw [← h1, Nat.testBit_and] at hi
  simp only [Bool.and_eq_true] at hi
  exact hi.2
 ·intro h
  congr 1
  apply Nat.eq_of_testBit_eq
  intro i
  rw [Nat.testBit_and]
  cases hi : a.testBit i with
  | false => rfl
  | true => rw [h i hi]; rfl
theorem has_tb {n i : Nat} {m : Int} (hn : n ≤ 61) (h : InM n m) (hi : i ≤ 61) : band (shr64 m (i : Int)) 1 = 1 ↔ tb m i = true := by
 obtain ⟨a, rfl, ha⟩ := inM_nat h
 have h1 : a / 2 ^ i < 2 ^ 62 := Nat.lt_of_le_of_lt (Nat.div_le_self _ _) (inM_62 hn ha)
 rw [shr_nat (by omega), show (1 : Int) = ((1 : Nat) : Int) from rfl, band_nat h1 (by decide), Nat.and_one_is_mod]
 simp only [tb, Int.toNat_natCast, Nat.testBit_eq_decide_div_mod_eq, decide_eq_true_eq]
 omega
theorem full_rng {n : Nat} {m : Int} (hn : n ≤ 61) : InM n m ↔ inR m 0 ((shl64 1 (n : Int)) - 1) = true := by
 rw [inR_iff, shl_nat (by omega)]
 unfold InM
 generalize 2 ^ n = q
 omega
def Edge (xs : List Int) (i j : Nat) : Prop := i < xs.length ∧ tb (xs.getD i 0) j = true
inductive Star (E : Nat → Nat → Prop) : Nat → Nat → Prop
 | refl (i : Nat) : Star E i i
 | tail {i j k : Nat} (h : Star E i j) (e : E j k) : Star E i k
theorem Star.trans {E : Nat → Nat → Prop} {i j k : Nat} (h : Star E i j) (h' : Star E j k) : Star E i k := by
 induction h' with
 | refl => exact h
 | tail _ e ih => exact .tail ih e
inductive Pth (E : Nat → Nat → Prop) (b : Nat) : Nat → Nat → Prop
 | edge {i k : Nat} (e : E i k) : Pth E b i k
 | via {i m k : Nat} (h : Pth E b i m) (hm : m < b) (h' : Pth E b m k) : Pth E b i k
theorem Pth.mono {E : Nat → Nat → Prop} {b b' i k : Nat} (hb : b ≤ b') (h : Pth E b i k) : Pth E b' i k := by
 induction h with
 | edge e => exact .edge e
 | via _ hm _ i1 i2 => exact .via i1 (by omega) i2
theorem Pth.zero {E : Nat → Nat → Prop} {i k : Nat} (h : Pth E 0 i k) : E i k := by
 cases h with
 | edge e => exact e
 | via _ hm _ => omega
theorem pth_step {E : Nat → Nat → Prop} {j i k : Nat} : Pth E (j + 1) i k ↔ Pth E j i k ∨ (Pth E j i j ∧ Pth E j j k) := by
 constructor
 ·intro h
  induction h with
  | edge e => exact .inl (.edge e)
  | @via i m k _ hm _ i1 i2 =>
   by_cases hmj : m = j
   ·subst hmj
    exact .inr ⟨i1.elim id (·.1), i2.elim id (·.2)⟩
   ·have hlt : m < j := by omega
    rcases i1 with a | ⟨a, b⟩
    ·rcases i2 with c | ⟨c, d⟩
     ·exact .inl (.via a hlt c)
     ·exact .inr ⟨.via a hlt c, d⟩
    ·rcases i2 with c | ⟨c, d⟩
     ·exact .inr ⟨a, .via b hlt c⟩
     ·exact .inr ⟨a, d⟩
 ·rintro (h | ⟨h, h'⟩)
  ·exact h.mono (Nat.le_succ _)
  ·exact .via (h.mono (Nat.le_succ _)) (Nat.lt_succ_self _) (h'.mono (Nat.le_succ _))
def RelOK (n : Nat) (xs : List Int) : Prop := xs.length = n ∧ ∀ j, j < n → InM n (xs.getD j 0)
theorem getD_set_if {α : Type} (xs : List α) (i j : Nat) (v d : α) (hi : i < xs.length) : (xs.set i v).getD j d = if i = j then v else xs.getD j d := by
 simp only [List.getD_eq_getElem?_getD, List.getElem?_set]
 split
 ·rename_i h; subst h; simp [hi]
 ·rfl
def wrow (out : List Int) (j i : Nat) : List Int := if band (shr64 (out.getD i 0) (j : Int)) 1 = 1 then out.set i (bor (out.getD i 0) (out.getD j 0)) else out
def win (out : List Int) (j : Nat) : Nat → List Int
 | 0 => out
 | i + 1 => wrow (win out j i) j i
def wout (xs : List Int) : Nat → List Int
 | 0 => xs
 | j + 1 => win (wout xs j) j xs.length
theorem win_ok {n : Nat} {out : List Int} (hn : n ≤ 61) (h : RelOK n out) {j : Nat} (hj : j < n) : ∀ i, i ≤ n → RelOK n (win out j i) ∧ ∀ p, p < n → (∀ k, tb ((win out j i).getD p 0) k = true ↔ tb (out.getD p 0) k = true ∨ (p < i ∧ tb (out.getD p 0) j = true ∧ tb (out.getD j 0) k = true))
 | 0, _ => ⟨h, fun p hp k => by simp [win]⟩
 | i + 1, hi => by
  obtain ⟨h1, h2⟩ := win_ok hn h hj i (by omega)
  have hm := has_tb (i := j) hn (h1.2 i (by omega)) (by omega)
  have hjj : ∀ k, tb ((win out j i).getD j 0) k = true ↔ tb (out.getD j 0) k = true := fun k => by rw [h2 j hj k]; constructor; (rintro (h | ⟨_, _, h⟩) <;> exact h); exact .inl
  simp only [win, wrow]
  split
  ·rename_i hc
   have ht := hm.1 hc
   rw [h2 i (by omega)] at ht
   have ht' : tb (out.getD i 0) j = true := by rcases ht with h | ⟨h, _⟩; exact h; omega
   have hI := inM_bor hn (h1.2 i (by omega)) (h1.2 j hj)
   refine ⟨⟨by rw [List.length_set]; exact h1.1, fun p hp => ?_⟩, fun p hp k => ?_⟩
   ·rw [getD_set_if _ _ _ _ _ (by rw [h1.1]; omega)]
    split
    ·exact hI
    ·exact h1.2 p hp
   ·rw [getD_set_if _ _ _ _ _ (by rw [h1.1]; omega)]
    split
    ·rename_i hip
     subst hip
     rw [tb_bor hn (h1.2 i (by omega)) (h1.2 j hj), Bool.or_eq_true, h2 i hp k, hjj k]
     constructor
     ·rintro ((h | ⟨h, _⟩) | h)
      ·exact .inl h
      ·omega
      ·exact .inr ⟨by omega, ht', h⟩
     ·rintro (h | ⟨_, _, h⟩)
      ·exact .inl (.inl h)
      ·exact .inr h
    ·rename_i hip
     rw [h2 p hp k]
     constructor
     ·rintro (h | ⟨a, b⟩)
      ·exact .inl h
      ·exact .inr ⟨by omega, b⟩
     ·rintro (h | ⟨a, b⟩)
      ·exact .inl h
      ·exact .inr ⟨by omega, b⟩
  ·rename_i hc
   have ht : ¬ tb ((win out j i).getD i 0) j = true := fun h => hc (hm.2 h)
   rw [h2 i (by omega)] at ht
   refine ⟨h1, fun p hp k => ?_⟩
   rw [h2 p hp k]
   constructor
   ·rintro (h | ⟨a, b⟩)
    ·exact .inl h
    ·exact .inr ⟨by omega, b⟩
   ·rintro (h | ⟨a, b, c⟩)
    ·exact .inl h
    ·by_cases hpi : p = i
     ·subst hpi; exact absurd (.inl b) ht
     ·exact .inr ⟨by omega, b, c⟩
theorem wout_ok {n : Nat} {xs : List Int} (hn : n ≤ 61) (h : RelOK n xs) : ∀ j, j ≤ n → RelOK n (wout xs j) ∧ ∀ p, p < n → ∀ k, tb ((wout xs j).getD p 0) k = true ↔ Pth (Edge xs) j p k
 | 0, _ => ⟨h, fun p hp k => ⟨fun ht => .edge ⟨by rw [h.1]; exact hp, ht⟩, fun ht => ht.zero.2⟩⟩
 | j + 1, hj => by
  obtain ⟨h1, h2⟩ := wout_ok hn h j (by omega)
  obtain ⟨h3, h4⟩ := win_ok hn h1 (j := j) (by omega) xs.length (by rw [h.1]; exact Nat.le_refl _)
  refine ⟨h3, fun p hp k => ?_⟩
  rw [wout, h4 p hp k, h2 p hp k, h2 p hp j, h2 j (by omega) k, pth_step, h.1]
  simp [hp]
def img (xs : List Int) (m : Int) : Nat → Int
 | 0 => 0
 | i + 1 => if band (shr64 m (i : Int)) 1 = 1 then bor (img xs m i) (xs.getD i 0) else img xs m i
theorem img_ok {n : Nat} {xs : List Int} {m : Int} (hn : n ≤ 61) (h : RelOK n xs) (hm : InM n m) : ∀ i, i ≤ n → InM n (img xs m i) ∧ ∀ k, tb (img xs m i) k = true ↔ ∃ j, j < i ∧ tb m j = true ∧ tb (xs.getD j 0) k = true
 | 0, _ => ⟨inM_zero n, fun k => by simp [img, tb_zero]⟩
 | i + 1, hi => by
  obtain ⟨h1, h2⟩ := img_ok hn h hm i (by omega)
  have hb := has_tb (i := i) hn hm (by omega)
  simp only [img]
  split
  ·rename_i hc
   refine ⟨inM_bor hn h1 (h.2 i (by omega)), fun k => ?_⟩
   rw [tb_bor hn h1 (h.2 i (by omega)), Bool.or_eq_true, h2 k]
   constructor
   ·rintro (⟨j, a, b, c⟩ | hk)
    ·exact ⟨j, by omega, b, c⟩
    ·exact ⟨i, by omega, hb.1 hc, hk⟩
   ·rintro ⟨j, a, b, c⟩
    by_cases hji : j = i
    ·subst hji; exact .inr c
    ·exact .inl ⟨j, by omega, b, c⟩
  ·rename_i hc
   refine ⟨h1, fun k => ?_⟩
   rw [h2 k]
   constructor
   ·rintro ⟨j, a, b, c⟩; exact ⟨j, by omega, b, c⟩
   ·rintro ⟨j, a, b, c⟩
    by_cases hji : j = i
    ·subst hji; exact absurd (hb.2 b) hc
    ·exact ⟨j, by omega, b, c⟩
end Go.Proofs.YtehbliocfpppoaaGreat

/-! Frames: which are frames, reachability, roots. -/
namespace Go.Proofs.YtehbliocfpppoaaGreat
open Go.RowKit Go.Abs
def okFr (n : Int) (xs : List Int) : Bool := inR n 0 8 && decide ((xs.length : Int) = n) && !xs.any fun m => !inR m 0 ((shl64 1 n) - 1)
def outR (n m : Int) : Bool := !(inR n 0 30 && inR m 0 ((shl64 1 n) - 1))
def fidxI (p : Int → Bool) : List Int → Int → Int
 | [], _ => -1
 | x :: l, i => if p x = true then i else fidxI p l (i + 1)
theorem drop_consI (a : List Int) (j : Nat) (h : j < a.length) : a.drop j = a.getD j 0 :: a.drop (j + 1) := by
 rw [List.drop_eq_getElem_cons h, List.getD_eq_getElem?_getD, List.getElem?_eq_getElem h]; rfl
theorem fidxI_hit {p : Int → Bool} {a : List Int} {i : Nat} (h : i < a.length) (hp : p (a.getD i 0) = true) : fidxI p (a.drop i) i = i := by
 rw [drop_consI a i h, fidxI, if_pos hp]
theorem fidxI_miss {p : Int → Bool} {a : List Int} {i : Nat} (h : i < a.length) (hp : p (a.getD i 0) = false) : fidxI p (a.drop i) i = fidxI p (a.drop (i + 1)) ((i + 1 : Nat) : Int) := by
 rw [drop_consI a i h, fidxI, if_neg (by rw [hp]; decide)]
 rfl
theorem fidxI_end {p : Int → Bool} {a : List Int} {i : Nat} (h : a.length ≤ i) : fidxI p (a.drop i) i = -1 := by
 rw [List.drop_eq_nil_of_le h, fidxI]
theorem fidxI_any {p : Int → Bool} : ∀ {a : List Int} {i : Int}, 0 ≤ i → (0 ≤ fidxI p a i ↔ a.any p = true)
 | [], i, h => by simp [fidxI]
 | x :: a, i, h => by
  have ih := fidxI_any (p := p) (a := a) (i := i + 1) (by omega)
  rw [fidxI, List.any_cons]
  by_cases hp : p x = true
  ·simp [hp, h]
  ·rw [if_neg hp, ih]; simp [hp]
theorem anyI_hit {p : Int → Bool} {a : List Int} {i : Nat} (h : i < a.length) (hp : p (a.getD i 0) = true) : (a.drop i).any p = true := by
 rw [drop_consI a i h, List.any_cons, hp, Bool.true_or]
theorem anyI_miss {p : Int → Bool} {a : List Int} {i : Nat} (h : i < a.length) (hp : p (a.getD i 0) = false) : (a.drop i).any p = (a.drop (i + 1)).any p := by
 rw [drop_consI a i h, List.any_cons, hp, Bool.false_or]
theorem anyI_end {p : Int → Bool} {a : List Int} {i : Nat} (h : a.length ≤ i) : (a.drop i).any p = false := by
 rw [List.drop_eq_nil_of_le h]; rfl
theorem okFr_no {n : Int} {xs : List Int} (h : inR n 0 8 = false) : okFr n xs = false := by simp [okFr, h]
theorem okFr_ne {n : Int} {xs : List Int} (h : ¬ (xs.length : Int) = n) : okFr n xs = false := by simp [okFr, h]
theorem okFr_yes {n : Int} {xs : List Int} (h : inR n 0 8 = true) (h1 : (xs.length : Int) = n) : okFr n xs = !xs.any fun m => !inR m 0 ((shl64 1 n) - 1) := by simp [okFr, h, h1]
theorem okFr_out {n : Int} {xs : List Int} (h : inR n 0 8 = true) (h1 : (xs.length : Int) = n) : (!xs.any (outR xs.length)) = okFr n xs := by
 rw [okFr_yes h h1]
 have h8 := (inR_iff _ _ _).1 h
 have e : outR xs.length = fun m => !inR m 0 ((shl64 1 n) - 1) := by
  funext m
  rw [outR, h1, (inR_iff n 0 30).2 (by omega), Bool.true_and]
 rw [e]
theorem okFr_rel {n : Int} {xs : List Int} (h : okFr n xs = true) : 0 ≤ n ∧ n ≤ 8 ∧ (xs.length : Int) = n ∧ RelOK n.toNat xs := by
 simp only [okFr, Bool.and_eq_true, inR_iff, decide_eq_true_eq, Bool.not_eq_true'] at h
 obtain ⟨⟨⟨h0, h1⟩, h2⟩, h3⟩ := h
 refine ⟨h0, h1, h2, by omega, fun j hj => ?_⟩
 have hg : xs.getD j 0 ∈ xs := by
  rw [List.getD_eq_getElem?_getD, List.getElem?_eq_getElem (by omega), Option.getD_some]
  exact List.getElem_mem _
 have := List.any_eq_false.1 h3 _ hg
 rw [full_rng (by omega), show ((n.toNat : Nat) : Int) = n by omega]
 simpa using this
theorem wout_len (xs : List Int) : ∀ j, (wout xs j).length = xs.length
 | 0 => rfl
 | j + 1 => by rw [wout, win_len, wout_len xs j]
where win_len (out : List Int) (j : Nat) : ∀ i, (win out j i).length = out.length
 | 0 => rfl
 | i + 1 => by
  rw [win, wrow]
  split
  ·rw [List.length_set, win_len out j i]
  ·exact win_len out j i
theorem win_len (out : List Int) (j i : Nat) : (win out j i).length = out.length := wout_len.win_len out j i
theorem isMask_c (n m : Int) : CallA Tryz.prog 148 [AI n, AI m] (.bool (!(outR n m))) := by
 have hb : (0 ≤ n ∧ n ≤ 30) → 1 ≤ shl64 1 n ∧ shl64 1 n ≤ 4611686018427387904 := fun h => shl_rng n h.1 (by omega)
 refine CallA.of Tryz.func148 rfl (by kernel_rfl) (R.go 7 (k20 true (inRange_c n 0 30) (R.go 1 ((Bool.eq_false_or_eq_true (inR n 0 30)).elim (fun c1 => ?_) (fun c1 => ?_)))))
 ·refine k12 true c1 ?_
  iterate 2 refine R.go 1 (k12 true c1 ?_)
  refine R.shl 1 n (by kernel_rfl) (by first | omega | (simp only [inR_iff, inR_not] at *; omega)) (by kernel_rfl) (k12 true c1 (k8 ((shl64 1 n) - 1) ?_ (h0 := by first | omega | (simp only [inR_iff, inR_not] at *; omega)) (h1 := by first | omega | (simp only [inR_iff, inR_not] at *; omega))))
  refine k12 true c1 (k20 true (inRange_c m 0 ((shl64 1 n) - 1)) (k14 true c1 ?_))
  exact R.go 2 (k23 (.bool (inR m 0 ((shl64 1 n) - 1))) (by first | (apply congrArg AV.bool; simp [outR, *]) | (exfalso; omega)))
 iterate 5 refine k13 true c1 ?_
 refine k14 false c1 ?_
 exact R.go 2 (k23 (.bool false) (by first | (apply congrArg AV.bool; simp [outR, *]) | (exfalso; omega)))
theorem isRel1_c (m : Int) (xs : List Int) : CallA Tryz.prog 147 [AI m, .rptr [LI xs]] (.bool (outR xs.length m)) := by
 refine CallA.of Tryz.func147 rfl (by kernel_rfl) (R.go 7 (k20 true (size_c xs) (R.go 1 (k20 true (isMask_c xs.length m) ?_))))
 exact R.go 3 (k23 (.bool (!(!(outR xs.length m)))) (by first | (apply congrArg AV.bool; simp) | (exfalso; omega)))
theorem indexI_c (a xs : List Int) (hl : a.length ≤ 1000000000) : CallA Tryz.prog 190 [LI a, .fn 147 [.rptr [LI xs]]] (AI (fidxI (outR xs.length) a 0)) := by
 refine CallA.of Tryz.func190 rfl (by kernel_rfl) (R.go 12 (k21 (fun (i : Nat) => (⟨(frm 19 [(0, LI a), (1, .fn 147 [.rptr [LI xs]]), (7, AI a.length), (8, AI (i : Int))]), []⟩ : St)) (fun (i : Nat) => (i ≤ a.length) ∧ (fidxI (outR xs.length) a 0 = fidxI (outR xs.length) (a.drop i) i)) (fun (i : Nat) => a.length - i) 0 [0, 1, 7, 8] none ⟨(by omega), (by rfl)⟩ ?_))
 rintro i ⟨h3_1, h3_2⟩ R1 N2
 refine R.go 5 (k9 ((i : Int) < (a.length : Int)) (fun c4 => ?_) (fun c4 => ?_))
 ·refine R.go 13 (k15 eI a 0 i (i : Int) eI_len (R.go 1 (k20 true (isRel1_c (a.getD i 0) xs) (R.go 1 (R.condB (outR xs.length (a.getD i 0)) (by kernel_rfl) (fun c5 => ?_) (fun c5 => ?_))))))
  ·exact R.go 5 (k23 (AI (i : Int)) (by first | (apply congrArg AI; rw [‹fidxI (outR xs.length) a 0 = _›]; first | exact (fidxI_end (by omega)).symm | exact (fidxI_hit (by omega) (by assumption)).symm) | (exfalso; omega)))
  refine R.go 3 (k8 ((i : Int) + 1) ?_)
  exact R.go 2 (k22 R1 (N2 (i + 1) [0, 1, 7, 8] none _ (by kernel_rfl) (by kernel_rfl) ⟨(by omega), (by rw [‹fidxI (outR xs.length) a 0 = _›]; exact fidxI_miss (by omega) (by assumption))⟩ (by show (a.length - (i + 1)) < (a.length - i); omega)))
 exact R.go 5 (k23 (AI (-1)) (by first | (apply congrArg AI; rw [‹fidxI (outR xs.length) a 0 = _›]; first | exact (fidxI_end (by omega)).symm | exact (fidxI_hit (by omega) (by assumption)).symm) | (exfalso; omega)))
theorem containsI_c (a xs : List Int) (hl : a.length ≤ 1000000000) : CallA Tryz.prog 105 [LI a, .fn 147 [.rptr [LI xs]]] (.bool (a.any (outR xs.length))) := by
 refine CallA.of Tryz.func105 rfl (by kernel_rfl) (R.go 8 (k20 true (indexI_c a xs hl) ?_))
 exact R.go 3 (k23 (.bool (decide ((fidxI (outR xs.length) a 0) ≥ 0))) (by first | (apply congrArg AV.bool; rw [Bool.eq_iff_iff, decide_eq_true_iff]; exact fidxI_any (Int.le_refl 0)) | (exfalso; omega)))
theorem isRelation_c (xs : List Int) (hl : xs.length ≤ 1000000000) : CallA Tryz.prog 80 [LI xs] (.bool (!(xs.any (outR xs.length)))) := by
 refine CallA.of Tryz.func80 rfl (by kernel_rfl) (R.go 9 (k20 false (containsI_c xs xs hl) ?_))
 exact R.go 3 (k23 (.bool (!(xs.any (outR xs.length)))) (by rfl))
theorem l01Masks_c (n : Int) (xs : List Int) (hl : xs.length ≤ 1000000000) (h0 : 0 ≤ n) (h1 : n ≤ 62) : CallA Tryz.prog 57 [AI n, LI xs] (.bool (!(xs.any fun m => !inR m 0 ((shl64 1 n) - 1)))) := by
 refine CallA.of Tryz.func57 rfl (by kernel_rfl) (R.go 10 (k21 (fun (i : Nat) => (⟨(frm 20 [(0, AI n), (1, LI xs), (5, AI (i : Int))]), []⟩ : St)) (fun (i : Nat) => (i ≤ xs.length) ∧ ((xs.any fun m => !inR m 0 ((shl64 1 n) - 1)) = (xs.drop i).any fun m => !inR m 0 ((shl64 1 n) - 1))) (fun (i : Nat) => xs.length - i) 0 [0, 1, 5] none ⟨(by omega), (by rfl)⟩ ?_))
 rintro i ⟨h3_1, h3_2⟩ R1 N2
 refine R.go 8 (k9 ((i : Int) < (xs.length : Int)) (fun c4 => ?_) (fun c4 => ?_))
 ·refine R.go 7 (k15 eI xs 0 i (i : Int) eI_len (R.go 2 (k20 true (l01Full_c n h0 h1) (k20 true (l01In_c (xs.getD i 0) 0 ((shl64 1 n) - 1)) (R.go 2 (k25 (inR (xs.getD i 0) 0 ((shl64 1 n) - 1)) (fun c5 => ?_) (fun c5 => ?_)))))))
  ·exact R.go 4 (k23 (.bool false) (by first | (apply congrArg AV.bool; rw [‹(xs.any fun m => !inR m 0 ((shl64 1 n) - 1)) = _›]; first | (rw [anyI_end (by omega)]; rfl) | (rw [anyI_hit (by omega) (by simpa using ‹inR _ _ _ = false›)]; rfl)) | (exfalso; omega)))
  refine R.go 4 (k8 ((i : Int) + 1) ?_)
  exact R.go 2 (k22 R1 (N2 (i + 1) [0, 1, 5] none _ (by kernel_rfl) (by kernel_rfl) ⟨(by omega), (by rw [‹(xs.any fun m => !inR m 0 ((shl64 1 n) - 1)) = _›]; exact anyI_miss (p := fun m => !inR m 0 ((shl64 1 n) - 1)) (by omega) (by simpa using ‹inR _ _ _ = true›))⟩ (by show (xs.length - (i + 1)) < (xs.length - i); omega)))
 exact R.go 5 (k23 (.bool true) (by first | (apply congrArg AV.bool; rw [‹(xs.any fun m => !inR m 0 ((shl64 1 n) - 1)) = _›]; first | (rw [anyI_end (by omega)]; rfl) | (rw [anyI_hit (by omega) (by simpa using ‹inR _ _ _ = false›)]; rfl)) | (exfalso; omega)))
theorem has_c (m i : Int) (h0 : 0 ≤ i) : CallA Tryz.prog 116 [AI m, AI i] (.bool (decide (band (shr64 m i) 1 = 1))) := by
 refine CallA.of Tryz.func116 rfl (by kernel_rfl) (R.go 8 (R.shr m i (by kernel_rfl) (by omega) (by kernel_rfl) ?_))
 exact R.go 4 (k23 (.bool (decide ((band (shr64 m i) 1) = 1))) (by first | (rfl) | (exfalso; omega)))
theorem l01Bit_c (m i : Int) (h0 : 0 ≤ i) (h1 : i ≤ 62) : CallA Tryz.prog 120 [AI m, AI i] (.bool (decide (band (shr64 m i) 1 = 1))) := by
 refine CallA.of Tryz.func120 rfl (by kernel_rfl) (R.go 8 (R.cv .u64 i (by kernel_rfl) (u64_id (by omega) (by omega)) (by kernel_rfl) (R.shr m i (by kernel_rfl) (by omega) (by kernel_rfl) ?_)))
 exact R.go 4 (k23 (.bool (decide ((band (shr64 m i) 1) = 1))) (by first | (rfl) | (exfalso; omega)))
theorem clone_c (xs : List Int) (hl : xs.length ≤ 1000000000) : CallA Tryz.prog 88 [LI xs] (ownA eI 2 1 xs) := by
 refine CallA.of Tryz.func88 rfl (by kernel_rfl) (R.go 8 (R.isNil xs.length (by kernel_rfl) (by kernel_rfl) (fun c1 => ?_) ?_))
 ·refine R.go 6 (R.nil 2 2 1 (by kernel_rfl) ?_)
  exact k23 (ownA eI 2 1 []) (by first | (first | rfl | rw [List.eq_nil_of_length_eq_zero (l := xs) (by assumption)]) | (exfalso; omega))
 refine R.go 7 (k19 eI [] xs 0 2 1 8 eI_one ?_)
 exact R.go 2 (k23 (ownA eI 2 1 ([] ++ xs)) (by first | (first | rfl | rw [List.eq_nil_of_length_eq_zero (l := xs) (by assumption)]) | (exfalso; omega)))
theorem l01Image_c (xs : List Int) (m : Int) (hl : xs.length ≤ 60) : CallA Tryz.prog 136 [LI xs, AI m] (AI (img xs m xs.length)) := by
 refine CallA.of Tryz.func136 rfl (by kernel_rfl) (R.go 14 (k21 ((fun | (i, r) => (⟨(frm 23 [(0, LI xs), (1, AI m), (5, AI r), (6, AI (i : Int))]), []⟩ : St) : Nat × Int → St)) (fun | (i, r) => (i ≤ xs.length) ∧ (r = img xs m i)) (fun | (i, r) => xs.length - i) (0, 0) [0, 1, 5, 6] none ⟨(by omega), (by rfl)⟩ ?_))
 rintro ⟨i, r⟩ ⟨h4_1, h4_2⟩ R1 N2
 refine R.go 8 (k9 ((i : Int) < (xs.length : Int)) (fun c5 => ?_) (fun c5 => ?_))
 ·refine R.go 7 (k20 true (l01Bit_c m (i : Int) (by omega) (by omega)) (R.go 1 (k9 (band (shr64 m (i : Int)) 1 = 1) (fun c6 => ?_) (fun c6 => ?_))))
  ·refine R.go 4 (k15 eI xs 0 i (i : Int) eI_len (R.go 7 (k8 ((i : Int) + 1) ?_)))
   exact R.go 2 (k22 R1 (N2 (i + 1, bor r (xs.getD i 0)) [0, 1, 5, 6] none _ (by kernel_rfl) (by kernel_rfl) ⟨(by omega), (by first | (rw [img, if_pos ‹band (shr64 m (i : Int)) 1 = 1›, ← ‹r = img xs m i›]) | (rw [img, if_neg ‹¬ band (shr64 m (i : Int)) 1 = 1›]; assumption))⟩ (by show (xs.length - (i + 1)) < (xs.length - i); omega)))
  refine R.go 4 (k8 ((i : Int) + 1) ?_)
  exact R.go 2 (k22 R1 (N2 (i + 1, r) [0, 1, 5, 6] none _ (by kernel_rfl) (by kernel_rfl) ⟨(by omega), (by first | (rw [img, if_pos ‹band (shr64 m (i : Int)) 1 = 1›, ← ‹r = img xs m i›]) | (rw [img, if_neg ‹¬ band (shr64 m (i : Int)) 1 = 1›]; assumption))⟩ (by show (xs.length - (i + 1)) < (xs.length - i); omega)))
 exact R.go 6 (k23 (AI r) (by first | (rw [‹r = img xs m i›, show i = xs.length by omega]) | (exfalso; omega)))
theorem transitive_c (xs : List Int) (hl : xs.length ≤ 60) : CallA Tryz.prog 155 [LI xs] (ownA eI 2 1 (wout xs xs.length)) := by
 refine CallA.of Tryz.func155 rfl (by kernel_rfl) (R.go 7 (k20 true (clone_c xs (by first | omega | (simp <;> omega))) (R.go 10 (k21 ((fun | (j, out) => (⟨(frm 37 [(3, .ref 0), (9, AI xs.length), (10, AI (j : Int))]), [rowA eI 2 1 out]⟩ : St) : Nat × (List Int) → St)) (fun | (j, out) => (j ≤ xs.length) ∧ (out = wout xs j)) (fun | (j, out) => xs.length - j) (0, xs) [3, 9, 10] none ⟨(by omega), (by rfl)⟩ ?_))))
 rintro ⟨j, out⟩ ⟨h4_1, h4_2⟩ R1 N2
 have hlen : out.length = xs.length := by rw [‹out = wout xs j›]; exact wout_len xs j
 refine R.go 5 (k9 ((j : Int) < (xs.length : Int)) (fun c5 => ?_) (fun c5 => ?_))
 ·refine R.go 15 (k21 ((fun | (i, o2) => (⟨(frm 37 [(3, .ref 0), (4, AI (j : Int)), (9, AI xs.length), (10, AI (j : Int)), (14, AI out.length), (15, AI (i : Int))]), [rowA eI 2 1 o2]⟩ : St) : Nat × (List Int) → St)) (fun | (i, o2) => (i ≤ xs.length) ∧ (o2 = win out j i)) (fun | (i, o2) => xs.length - i) (0, out) [3, 4, 9, 10, 14, 15] none ⟨(by omega), (by rfl)⟩ ?_)
  rintro ⟨i, o2⟩ ⟨h9_1, h9_2⟩ R6 N7
  have hlen2 : o2.length = xs.length := by rw [‹o2 = win out j i›, win_len]; exact hlen
  refine R.go 5 (k9 ((i : Int) < (out.length : Int)) (fun c10 => ?_) (fun c10 => ?_))
  ·refine R.go 12 (k16 0 1 o2.length i (i : Int) (k17 o2 i (R.go 1 (k20 true (has_c (o2.getD i 0) (j : Int) (by omega)) (R.go 1 (k9 (band (shr64 (o2.getD i 0) (j : Int)) 1 = 1) (fun c11 => ?_) (fun c11 => ?_)))))))
   ·refine R.go 3 (k16 0 1 o2.length i (i : Int) (k17 o2 i (R.go 2 (k16 0 1 o2.length j (j : Int) (k17 o2 j (R.go 1 (k16 0 1 o2.length i (i : Int) (k18 0 2 o2 i (bor (o2.getD i 0) (o2.getD j 0)) (R.go 3 (k8 ((i : Int) + 1) ?_))))))))))
    exact R.go 2 (k22 R6 (N7 (i + 1, o2.set i (bor (o2.getD i 0) (o2.getD j 0))) [3, 4, 9, 10, 14, 15] none _ (by kernel_rfl) (by kernel_rfl) ⟨(by omega), (by first | (rw [win, wrow, ← ‹o2 = win out j i›, if_pos ‹band (shr64 (o2.getD i 0) (j : Int)) 1 = 1›]) | (rw [win, wrow, ← ‹o2 = win out j i›, if_neg ‹¬ band (shr64 (o2.getD i 0) (j : Int)) 1 = 1›]))⟩ (by show (xs.length - (i + 1)) < (xs.length - i); omega)))
   refine R.go 3 (k8 ((i : Int) + 1) ?_)
   exact R.go 2 (k22 R6 (N7 (i + 1, o2) [3, 4, 9, 10, 14, 15] none _ (by kernel_rfl) (by kernel_rfl) ⟨(by omega), (by first | (rw [win, wrow, ← ‹o2 = win out j i›, if_pos ‹band (shr64 (o2.getD i 0) (j : Int)) 1 = 1›]) | (rw [win, wrow, ← ‹o2 = win out j i›, if_neg ‹¬ band (shr64 (o2.getD i 0) (j : Int)) 1 = 1›]))⟩ (by show (xs.length - (i + 1)) < (xs.length - i); omega)))
  refine R.go 3 (k8 ((j : Int) + 1) ?_)
  exact R.go 2 (k22 R1 (N2 (j + 1, o2) [3, 9, 10] none _ (by kernel_rfl) (by kernel_rfl) ⟨(by omega), (by rw [wout, ← ‹out = wout xs j›, ← show i = xs.length by omega]; assumption)⟩ (by show (xs.length - (j + 1)) < (xs.length - j); omega)))
 exact R.go 6 (k23 (ownA eI 2 1 out) (by first | (rw [‹out = wout xs j›, show j = xs.length by omega]) | (exfalso; omega)))
end Go.Proofs.YtehbliocfpppoaaGreat

/-! Members of masks. -/
namespace Go.Proofs.YtehbliocfpppoaaGreat
open Go.RowKit Go.Abs
def memN (m : Int) : Nat → List Int
 | 0 => []
 | i + 1 => if tb m i = true then memN m i ++ [(i : Int)] else memN m i
def mem (m : Int) : List Int := memN m 62
theorem memN_yes {m : Int} {i : Nat} (h : tb m i = true) : memN m (i + 1) = memN m i ++ [(i : Int)] := by rw [memN, if_pos h]
theorem memN_no {m : Int} {i : Nat} (h : ¬ tb m i = true) : memN m (i + 1) = memN m i := by rw [memN, if_neg h]
theorem memN_mem {m : Int} {v : Int} : ∀ {i : Nat}, v ∈ memN m i ↔ ∃ j : Nat, j < i ∧ tb m j = true ∧ v = (j : Int)
 | 0 => by simp [memN]
 | i + 1 => by
  have ih := memN_mem (m := m) (v := v) (i := i)
  by_cases h : tb m i = true
  ·rw [memN_yes h, List.mem_append, ih, List.mem_singleton]
   constructor
   ·rintro (⟨j, a, b, c⟩ | h2)
    ·exact ⟨j, by omega, b, c⟩
    ·exact ⟨i, by omega, h, h2⟩
   ·rintro ⟨j, a, b, c⟩
    by_cases hji : j = i
    ·subst hji; exact .inr c
    ·exact .inl ⟨j, by omega, b, c⟩
  ·rw [memN_no h, ih]
   constructor
   ·rintro ⟨j, a, b, c⟩; exact ⟨j, by omega, b, c⟩
   ·rintro ⟨j, a, b, c⟩
    by_cases hji : j = i
    ·subst hji; exact absurd b h
    ·exact ⟨j, by omega, b, c⟩
theorem memN_len (m : Int) : ∀ i : Nat, (memN m i).length ≤ i
 | 0 => Nat.le_refl _
 | i + 1 => by
  have ih := memN_len m i
  rw [memN]
  split
  ·simp; omega
  ·omega
theorem memN_asc (m : Int) : ∀ i : Nat, (memN m i).Pairwise (· < ·)
 | 0 => List.Pairwise.nil
 | i + 1 => by
  have ih := memN_asc m i
  rw [memN]
  split
  ·refine List.pairwise_append.2 ⟨ih, List.pairwise_singleton _ _, fun a ha b hb => ?_⟩
   rw [List.mem_singleton] at hb
   obtain ⟨j, h1, _, rfl⟩ := memN_mem.1 ha
   omega
  ·exact ih
theorem memN_nodup (m : Int) (i : Nat) : (memN m i).Nodup := (memN_asc m i).imp fun h => by omega
theorem memN_stop {m : Int} {i : Nat} (h : ∀ j, i ≤ j → tb m j = false) : ∀ {k : Nat}, i ≤ k → memN m k = memN m i := by
 intro k hk
 induction k with
 | zero => rw [show i = 0 by omega]
 | succ k ih =>
  by_cases hki : i = k + 1
  ·rw [hki]
  ·rw [memN_no (by rw [h k (by omega)]; decide), ih (by omega)]
theorem inM61 {m : Int} (h0 : 0 ≤ m) (h1 : m ≤ 2305843009213693951) : InM 61 m := ⟨h0, by
 have : (2 : Nat) ^ 61 = 2305843009213693952 := by decide
 omega⟩
theorem inM61_le {m : Int} (h : InM 61 m) : 0 ≤ m ∧ m ≤ 2305843009213693951 := ⟨h.1, by
 have : (2 : Nat) ^ 61 = 2305843009213693952 := by decide
 have := h.2
 omega⟩
theorem inM_mono {n n' : Nat} {m : Int} (hn : n ≤ n') (h : InM n m) : InM n' m := ⟨h.1, Nat.lt_of_lt_of_le h.2 (Nat.pow_le_pow_right (by decide) hn)⟩
theorem shr_rng {m : Int} (h : InM 61 m) {i : Nat} (hi : i ≤ 62) : 0 ≤ shr64 m (i : Int) ∧ shr64 m (i : Int) ≤ m := by
 obtain ⟨a, rfl, ha⟩ := inM_nat h
 rw [shr_nat hi]
 exact ⟨Int.natCast_nonneg _, Int.ofNat_le.2 (Nat.div_le_self a (2 ^ i))⟩
theorem shr_pos {m : Int} (h : InM 61 m) {i : Nat} (hi : i ≤ 62) (hp : shr64 m (i : Int) > 0) : i < 61 := by
 obtain ⟨a, rfl, ha⟩ := inM_nat h
 rw [shr_nat hi] at hp
 have h1 : 0 < a / 2 ^ i := by
  generalize a / 2 ^ i = q at hp ⊢
  omega
 rw [Nat.div_pos_iff] at h1
 have h2 : 2 ^ i < 2 ^ 61 := by omega
 exact (Nat.pow_lt_pow_iff_right (by decide)).1 h2
theorem mem_end {m : Int} (h : InM 61 m) {i : Nat} (hi : i ≤ 61) (hp : ¬ shr64 m (i : Int) > 0) : memN m i = mem m := by
 refine (memN_stop (fun j hj => ?_) (by omega)).symm
 obtain ⟨a, rfl, ha⟩ := inM_nat h
 rw [shr_nat (by omega)] at hp
 have h1 : a < 2 ^ i := by
  have h2 : a / 2 ^ i = 0 := by
   generalize a / 2 ^ i = q at hp ⊢
   omega
  rcases Nat.div_eq_zero_iff.1 h2 with h | h
  ·exact absurd h (Nat.ne_of_gt (Nat.two_pow_pos i))
  ·exact h
 exact Nat.testBit_lt_two_pow (Nat.lt_of_lt_of_le h1 (Nat.pow_le_pow_right (by decide) hj))
theorem shr_half {m : Int} (h : InM 61 m) {i : Nat} (hi : i ≤ 61) : shr64 m (i : Int) / 2 = shr64 m ((i : Int) + 1) := by
 obtain ⟨a, rfl, ha⟩ := inM_nat h
 rw [shr_nat (by omega), show (i : Int) + 1 = ((i + 1 : Nat) : Int) by omega, shr_nat (by omega), Nat.pow_succ, ← Nat.div_div_eq_div_mul]
 omega
theorem shr_odd {m : Int} (h : InM 61 m) {i : Nat} (hi : i ≤ 61) : shr64 m (i : Int) % 2 = 1 ↔ tb m i = true := by
 obtain ⟨a, rfl, ha⟩ := inM_nat h
 rw [shr_nat (by omega)]
 simp only [tb, Int.toNat_natCast, Nat.testBit_eq_decide_div_mod_eq, decide_eq_true_eq]
 omega
theorem shr_0 {m : Int} (h : InM 61 m) : shr64 m ((0 : Nat) : Int) = m := by
 obtain ⟨a, rfl, ha⟩ := inM_nat h
 rw [shr_nat (by omega)]
 simp
theorem mem_le (m : Int) : (mem m).length ≤ 62 := memN_len m 62
theorem membersOf_c (m : Int) (hm : InM 61 m) : CallA Tryz.prog 131 [AI m] (ownA eI 2 1 (mem m)) := by
 refine CallA.of Tryz.func131 rfl (by kernel_rfl) (R.go 14 (R.nil 3 2 1 (by kernel_rfl) (k21 ((fun | (i, out) => (⟨(frm 19 [(0, AI m), (3, .ref 0), (4, AI (i : Int))]), [rowA eI 2 1 out]⟩ : St) : Nat × (List Int) → St)) (fun | (i, out) => (i ≤ 61) ∧ (out = memN m i) ∧ (out.length ≤ i)) (fun | (i, out) => 61 - i) (0, []) [0, 3, 4] none ⟨(by omega), (by rfl), (by simp)⟩ ?_)))
 rintro ⟨i, out⟩ ⟨h4_1, h4_2, h4_3⟩ R1 N2
 refine R.go 5 (R.shr m (i : Int) (by kernel_rfl) (by omega) (by kernel_rfl) (R.go 2 (k9 ((shr64 m (i : Int)) > 0) (fun c5 => ?_) (fun c5 => ?_))))
 ·refine R.go 7 (k20 true (has_c m (i : Int) (by omega)) (R.go 1 (k9 (band (shr64 m (i : Int)) 1 = 1) (fun c6 => ?_) (fun c6 => ?_))))
  ·refine R.go 4 (k19 eI out [(i : Int)] 0 2 1 8 eI_one (R.go 5 (k8 ((i : Int) + 1) ?_)))
   exact R.go 2 (k22 R1 (N2 (i + 1, out ++ [(i : Int)]) [0, 3, 4] (some [0]) _ (by kernel_rfl) (by kernel_rfl) ⟨(by have := shr_pos hm (by omega) ‹shr64 m (i : Int) > 0›; omega), (by first | (rw [‹out = memN m i›, memN_yes ((has_tb (by decide) hm (by omega)).1 ‹band (shr64 m (i : Int)) 1 = 1›)]) | (rw [‹out = memN m i›, memN_no (fun h => ‹¬ band (shr64 m (i : Int)) 1 = 1› ((has_tb (by decide) hm (by omega)).2 h))])), (by first | omega | (simp <;> omega))⟩ (by show (61 - (i + 1)) < (61 - i); have := shr_pos hm (by omega) ‹shr64 m (i : Int) > 0›; omega)))
  refine R.go 4 (k8 ((i : Int) + 1) ?_)
  exact R.go 2 (k22 R1 (N2 (i + 1, out) [0, 3, 4] none _ (by kernel_rfl) (by kernel_rfl) ⟨(by have := shr_pos hm (by omega) ‹shr64 m (i : Int) > 0›; omega), (by first | (rw [‹out = memN m i›, memN_yes ((has_tb (by decide) hm (by omega)).1 ‹band (shr64 m (i : Int)) 1 = 1›)]) | (rw [‹out = memN m i›, memN_no (fun h => ‹¬ band (shr64 m (i : Int)) 1 = 1› ((has_tb (by decide) hm (by omega)).2 h))])), (by first | omega | (simp <;> omega))⟩ (by show (61 - (i + 1)) < (61 - i); have := shr_pos hm (by omega) ‹shr64 m (i : Int) > 0›; omega)))
 exact R.go 6 (k23 (ownA eI 2 1 out) (by first | (rw [‹out = memN m i›, mem_end hm (by omega) (by assumption)]) | (exfalso; omega)))
theorem l01ListM_c (m : Int) (hm : InM 61 m) : CallA Tryz.prog 133 [AI m] (ownA eI 2 1 (mem m)) := by
 have hm2 := inM61_le hm
 refine CallA.of Tryz.func133 rfl (by kernel_rfl) (R.go 15 (k21 ((fun | (i, out, m') => (⟨(frm 20 [(0, AI m'), (3, .ref 0), (4, AI (i : Int))]), [rowA eI 2 1 out]⟩ : St) : Nat × (List Int) × Int → St)) (fun | (i, out, m') => (i ≤ 61) ∧ (out = memN m i) ∧ (out.length ≤ i) ∧ (m' = shr64 m (i : Int))) (fun | (i, out, m') => 61 - i) (0, [], m) [0, 3, 4] none ⟨(by omega), (by rfl), (by simp), (by exact (shr_0 hm).symm)⟩ ?_))
 rintro ⟨i, out, m'⟩ ⟨h4_1, h4_2, h4_3, h4_4⟩ R1 N2
 have hr := shr_rng hm (i := i) (by omega)
 have hm2 := inM61_le hm
 have hp := fun h : m' > 0 => shr_pos hm (i := i) (by omega) (by omega)
 have ho := shr_odd hm (i := i) (by omega)
 have hf := shr_half hm (i := i) (by omega)
 refine R.go 6 (k9 (m' > 0) (fun c5 => ?_) (fun c5 => ?_))
 ·refine R.go 7 (R.rem m' 2 (by kernel_rfl) (by omega) (by omega) (by kernel_rfl) (R.go 2 (k9 ((m' % 2) = 1) (fun c6 => ?_) (fun c6 => ?_))))
  ·refine R.go 4 (k19 eI out [(i : Int)] 0 2 1 8 eI_one (R.go 4 (k8 ((i : Int) + 1) (R.go 5 (R.quo m' 2 (by kernel_rfl) (by omega) (by omega) (by omega) (by kernel_rfl) ?_)))))
   exact R.go 2 (k22 R1 (N2 (i + 1, out ++ [(i : Int)], m' / 2) [0, 3, 4] (some [0]) _ (by kernel_rfl) (by kernel_rfl) ⟨(by have := hp (by assumption); omega), (by first | (rw [‹out = memN m i›, memN_yes (ho.1 (by omega))]) | (rw [‹out = memN m i›, memN_no (fun h => absurd (ho.2 h) (by omega))])), (by first | omega | (simp <;> omega)), (by rw [‹m' = shr64 m (i : Int)›, hf]; rfl)⟩ (by show (61 - (i + 1)) < (61 - i); have := hp (by assumption); omega)))
  refine R.go 3 (k8 ((i : Int) + 1) (R.go 5 (R.quo m' 2 (by kernel_rfl) (by omega) (by omega) (by omega) (by kernel_rfl) ?_)))
  exact R.go 2 (k22 R1 (N2 (i + 1, out, m' / 2) [0, 3, 4] none _ (by kernel_rfl) (by kernel_rfl) ⟨(by have := hp (by assumption); omega), (by first | (rw [‹out = memN m i›, memN_yes (ho.1 (by omega))]) | (rw [‹out = memN m i›, memN_no (fun h => absurd (ho.2 h) (by omega))])), (by first | omega | (simp <;> omega)), (by rw [‹m' = shr64 m (i : Int)›, hf]; rfl)⟩ (by show (61 - (i + 1)) < (61 - i); have := hp (by assumption); omega)))
 exact R.go 6 (k23 (ownA eI 2 1 out) (by first | (rw [‹out = memN m i›, mem_end hm (by omega) (by omega)]) | (exfalso; omega)))
end Go.Proofs.YtehbliocfpppoaaGreat

/-! The harness of the laws. -/
namespace Go.Proofs.YtehbliocfpppoaaGreat
open Go.RowKit Go.Abs
theorem take_step {α : Type} (a b : List α) (d : α) (i : Nat) (ha : i < a.length) (hb : i < b.length) (h : a.take i = b.take i) (e : a.getD i d = b.getD i d) : a.take (i + 1) = b.take (i + 1) := by
 rw [List.take_succ_eq_append_getElem ha, List.take_succ_eq_append_getElem hb, h]
 simp only [List.getD_eq_getElem?_getD, List.getElem?_eq_getElem ha, List.getElem?_eq_getElem hb, Option.getD_some] at e
 rw [e]
theorem take_all {α : Type} {a b : List α} {i : Nat} (ha : a.length ≤ i) (hl : a.length = b.length) (h : a.take i = b.take i) : a = b := by
 rwa [List.take_of_length_le ha, List.take_of_length_le (by omega)] at h
theorem getD_set_eq {α : Type} (xs : List α) (i : Nat) (v d : α) (h : i < xs.length) : (xs.set i v).getD i d = v := by
 rw [getD_set_if _ _ _ _ _ h, if_pos rfl]
theorem szInt64S_c (a : List Int) (k : Int) (hk : (k : Int) ≤ 1048576) (hx : (a.length : Int) ≤ k) : CallA Tryz.prog 24 [LI a, AI k] (AI ((k : Int) - a.length)) := by
 refine CallA.of Tryz.func24 rfl (by kernel_rfl) (R.go 9 (k8 (k - (a.length : Int)) (R.go 8 (k9 ((k - (a.length : Int)) < 0) (fun c1 => ?_) (fun c1 => ?_)))))
 ·exact R.go 4 (k23 (AI (-1)) (by first | (rfl) | (exfalso; omega)))
 exact R.go 6 (k23 (AI (k - (a.length : Int))) (by first | (rfl) | (exfalso; omega)))
theorem szInt64S_no (a : List Int) (k : Int) (hk : (0 : Int) ≤ k ∧ (k : Int) ≤ 1048576) (hx : (k : Int) < a.length) (hl : a.length ≤ 9223372036854775807) : CallA Tryz.prog 24 [LI a, AI k] (AI (-1)) := by
 refine CallA.of Tryz.func24 rfl (by kernel_rfl) (R.go 9 (k8 (k - (a.length : Int)) (R.go 8 (k9 ((k - (a.length : Int)) < 0) (fun c1 => ?_) (fun c1 => ?_)))))
 ·exact R.go 4 (k23 (AI (-1)) (by rfl))
 exact R.go 6 (k23 (AI (k - (a.length : Int))) (by first | (rfl) | (exfalso; omega)))
theorem toInt64S_c (a : List Int) (hl : a.length ≤ 1048576) : CallA Tryz.prog 27 [LI a] (ownA eI 2 1 a) := by
 refine CallA.of Tryz.func27 rfl (by kernel_rfl) (R.go 8 (R.mk eI 0 2 8 a.length a.length (by kernel_rfl) rfl (by decide) (by omega) (by kernel_rfl) (R.go 8 (k21 ((fun | (i, out) => (⟨(frm 22 [(0, LI a), (3, .ref 0), (4, AI (i : Int))]), [rowA eI 2 1 out]⟩ : St) : Nat × (List Int) → St)) (fun | (i, out) => (i ≤ a.length) ∧ (out.length = a.length) ∧ (out.take i = a.take i)) (fun | (i, out) => a.length - i) (0, (List.replicate a.length 0)) [0, 3, 4] none ⟨(by omega), (by simp), (by rfl)⟩ ?_))))
 rintro ⟨i, out⟩ ⟨h4_1, h4_2, h4_3⟩ R1 N2
 refine R.go 8 (k9 ((i : Int) < (a.length : Int)) (fun c5 => ?_) (fun c5 => ?_))
 ·refine R.go 8 (k15 eI a 0 i (i : Int) eI_len (R.go 1 (k16 0 1 out.length i (i : Int) (k18 0 2 out i (a.getD i 0) (R.go 4 (k8 ((i : Int) + 1) ?_))))))
  exact R.go 2 (k22 R1 (N2 (i + 1, out.set i (a.getD i 0)) [0, 3, 4] none _ (by kernel_rfl) (by kernel_rfl) ⟨(by omega), (by simp <;> omega), (by exact take_step _ _ 0 _ (by simp <;> omega) (by omega) (by rw [List.take_set_of_le (by omega)]; assumption) (by rw [getD_set_eq _ _ _ _ (by omega)]))⟩ (by show (a.length - (i + 1)) < (a.length - i); omega)))
 exact R.go 6 (k23 (ownA eI 2 1 out) (by first | (rw [show out = a from take_all (i := i) (by omega) (by omega) (by assumption)]) | (exfalso; omega)))
theorem eqInt64S_c (a b : List Int) (la : a.length ≤ 1000000000) : CallA Tryz.prog 42 [LI a, LI b] (.bool (decide (a = b))) := by
 refine CallA.of Tryz.func42 rfl (by kernel_rfl) (R.go 13 (k10 ((a.length : Int) = (b.length : Int)) (fun c1 => ?_) (fun c1 => ?_)))
 ·exact R.go 4 (k23 (.bool false) (by first | (first | (rw [dF (fun h => by subst h; omega)]) | (rw [dT (take_all (i := i) (by omega) (by omega) (by assumption))])) | (exfalso; omega)))
 refine R.go 7 (k21 (fun (i : Nat) => (⟨(frm 26 [(0, LI a), (1, LI b), (5, AI (i : Int))]), []⟩ : St)) (fun (i : Nat) => (i ≤ a.length) ∧ (a.take i = b.take i)) (fun (i : Nat) => a.length - i) 0 [0, 1, 5] none ⟨(by omega), (by rfl)⟩ ?_)
 rintro i ⟨h4_1, h4_2⟩ R2 N3
 refine R.go 8 (k9 ((i : Int) < (a.length : Int)) (fun c5 => ?_) (fun c5 => ?_))
 ·refine R.go 7 (k15 eI a 0 i (i : Int) eI_len (R.go 3 (k15 eI b 0 i (i : Int) eI_len (R.go 3 (k10 ((a.getD i 0) = (b.getD i 0)) (fun c6 => ?_) (fun c6 => ?_))))))
  ·exact R.go 4 (k23 (.bool false) (by first | (first | (rw [dF (fun h => by subst h; omega)]) | (rw [dT (take_all (i := i) (by omega) (by omega) (by assumption))])) | (exfalso; omega)))
  refine R.go 4 (k8 ((i : Int) + 1) ?_)
  exact R.go 2 (k22 R2 (N3 (i + 1) [0, 1, 5] none _ (by kernel_rfl) (by kernel_rfl) ⟨(by omega), (by exact take_step a b 0 i (by omega) (by omega) (by assumption) (by assumption))⟩ (by show (a.length - (i + 1)) < (a.length - i); omega)))
 exact R.go 5 (k23 (.bool true) (by first | (first | (rw [dF (fun h => by subst h; omega)]) | (rw [dT (take_all (i := i) (by omega) (by omega) (by assumption))])) | (exfalso; omega)))
end Go.Proofs.YtehbliocfpppoaaGreat

/-! The harness: rows marked and held. -/
namespace Go.Proofs.YtehbliocfpppoaaGreat
open Go.RowKit Go.Abs
def marks : Nat → Int → List (Int × Int)
 | 0, _ => []
 | n + 1, k => (k, k + 1) :: marks n (k + 2)
def markC (n : Nat) (k : Int) : List Int := (List.range n).map fun j : Nat => k + (j : Int)
theorem markC_length (n : Nat) (k : Int) : (markC n k).length = n := by simp [markC]
def markI (xs : List Int) (k : Int) (i : Nat) : List Int := markC i k ++ xs.drop i
theorem markI_length (xs : List Int) (k : Int) (i : Nat) (h : i ≤ xs.length) : (markI xs k i).length = xs.length := by simp [markI, markC_length]; omega
theorem markI_set (xs : List Int) (k : Int) (i : Nat) (h : i < xs.length) (v : Int) (hv : v = k + i) : (markI xs k i).set i v = markI xs k (i + 1) := by
 subst hv
 rw [markI, List.set_append_right _ _ (by rw [markC_length]; omega), markC_length, Nat.sub_self, List.drop_eq_getElem_cons h, List.set_cons_zero, markI, markC, markC, List.range_succ, List.map_append]
 simp
theorem markI_all (xs : List Int) (k : Int) (n : Nat) (h : xs.length = n) : markI xs k n = markC n k := by
 subst h
 simp [markI]
theorem markI_zero (xs : List Int) (k : Int) : xs = markI xs k 0 := by simp [markI, markC]
theorem markC_get (n : Nat) (k : Int) (i : Nat) (h : i < n) : (markC n k).getD i 0 = k + i := by
 simp [markC, List.getD_eq_getElem?_getD, List.getElem?_range h]
theorem markC_ne (xs : List Int) (k : Int) (i : Nat) (hi : i < xs.length) (hx : xs = markC xs.length k) : xs.getD i 0 = k + i := by
 have := markC_get xs.length k i hi
 rw [← hx] at this
 exact this
theorem heldInt64S_c (xs : List Int) (k : Int) (lx : xs.length ≤ 1000000000) (hk : 0 ≤ k ∧ k ≤ 1000000) (hx : xs = markC xs.length k) : CallA Tryz.prog 44 [LI xs, AI k] (AI (k + (xs.length : Int))) := by
 refine CallA.of Tryz.func44 rfl (by kernel_rfl) (R.go 10 (k21 ((fun | (i, q) => (⟨(frm 21 [(0, LI xs), (1, AI q), (5, AI (i : Int))]), []⟩ : St) : Nat × Int → St)) (fun | (i, q) => (i ≤ xs.length) ∧ (q = k + (i : Int))) (fun | (i, q) => xs.length - i) (0, k) [0, 1, 5] none ⟨(by omega), (by simp)⟩ ?_))
 rintro ⟨i, q⟩ ⟨h4_1, rfl⟩ R1 N2
 refine R.go 8 (k9 ((i : Int) < (xs.length : Int)) (fun c5 => ?_) (fun c5 => ?_))
 ·have he : xs.getD i 0 = k + (i : Int) := markC_ne xs k i (by omega) hx
  refine R.go 8 (k15 eI xs 0 i (i : Int) eI_len (R.go 4 (k10 ((xs.getD i 0) = (k + (i : Int))) (fun c6 => ?_) (fun c6 => ?_))))
  ·exact R.go 4 (k23 (AI (-1)) (by first | (rw [show i = xs.length by omega]) | (exfalso; omega)))
  refine R.go 3 (k8 ((k + (i : Int)) + 1) (R.go 5 (k8 ((i : Int) + 1) ?_)))
  exact R.go 2 (k22 R1 (N2 (i + 1, (k + (i : Int)) + 1) [0, 1, 5] none _ (by kernel_rfl) (by kernel_rfl) ⟨(by omega), (by omega)⟩ (by show (xs.length - (i + 1)) < (xs.length - i); omega)))
 exact R.go 6 (k23 (AI (k + (i : Int))) (by first | (rw [show i = xs.length by omega]) | (exfalso; omega)))
end Go.Proofs.YtehbliocfpppoaaGreat

/-! Bits of meets, differences and boxes; truth sets stay within the worlds. -/
namespace Go.Proofs.YtehbliocfpppoaaGreat
open Go.RowKit Go.Abs
theorem tb_nat (a i : Nat) : tb (a : Int) i = a.testBit i := rfl
theorem inM_band {n : Nat} {a b : Int} (hn : n ≤ 61) (ha : InM n a) (hb : InM n b) : InM n (band a b) := by
 obtain ⟨a, rfl, ha'⟩ := inM_nat ha
 obtain ⟨b, rfl, hb'⟩ := inM_nat hb
 rw [band_nat (inM_62 hn ha') (inM_62 hn hb')]
 exact ⟨Int.natCast_nonneg _, by rw [Int.toNat_natCast]; exact Nat.and_lt_two_pow _ hb'⟩
theorem tb_band {n : Nat} {a b : Int} (hn : n ≤ 61) (ha : InM n a) (hb : InM n b) (i : Nat) : tb (band a b) i = (tb a i && tb b i) := by
 obtain ⟨a, rfl, ha'⟩ := inM_nat ha
 obtain ⟨b, rfl, hb'⟩ := inM_nat hb
 rw [band_nat (inM_62 hn ha') (inM_62 hn hb'), tb_nat, tb_nat, tb_nat, Nat.testBit_and]
theorem full_nat {n : Nat} (hn : n ≤ 61) : (shl64 1 (n : Int)) - 1 = ((2 ^ n - 1 : Nat) : Int) := by
 rw [shl_nat (by omega)]
 have := Nat.two_pow_pos n
 omega
theorem inM_full {n : Nat} (hn : n ≤ 61) : InM n ((shl64 1 (n : Int)) - 1) := by
 rw [full_nat hn]
 have := Nat.two_pow_pos n
 exact ⟨Int.natCast_nonneg _, by rw [Int.toNat_natCast]; omega⟩
theorem tb_full {n : Nat} (hn : n ≤ 61) (i : Nat) : tb ((shl64 1 (n : Int)) - 1) i = decide (i < n) := by
 rw [full_nat hn, tb_nat, Nat.testBit_two_pow_sub_one]
end Go.Proofs.YtehbliocfpppoaaGreat

/-! Posets: what both packages take for one. -/
namespace Go.Proofs.YtehbliocfpppoaaGreat
open Go.RowKit Go.Abs
theorem rowN_ext {N : Nat} {X Y : List Int} (hx : X.length = N) (hy : Y.length = N) (h : ∀ j : Nat, j < N → X.getD j 0 = Y.getD j 0) : X = Y := by
 apply List.ext_getElem (by omega)
 intro j h1 h2
 have := h j (by omega)
 simpa [List.getD_eq_getElem?_getD, List.getElem?_eq_getElem h1, List.getElem?_eq_getElem h2] using this
def rB (N : Nat) (xs : List Int) : Bool := (List.range N).all fun i => tb (xs.getD i 0) i
def tB (N : Nat) (xs : List Int) : Bool := (List.range N).all fun i => (List.range N).all fun j => (List.range N).all fun k => !(tb (xs.getD i 0) j && tb (xs.getD j 0) k) || tb (xs.getD i 0) k
def AC (xs : List Int) (i j : Nat) : Prop := tb (xs.getD i 0) j = true → tb (xs.getD j 0) i = true → i = j
def aB (N : Nat) (xs : List Int) : Bool := (List.range N).all fun i => (List.range N).all fun j => !(tb (xs.getD i 0) j && tb (xs.getD j 0) i) || decide (i = j)
def okPo (n : Int) (xs : List Int) : Bool := okFr n xs && (rB n.toNat xs && (tB n.toNat xs && aB n.toNat xs))
theorem rB_iff {N : Nat} {xs : List Int} : rB N xs = true ↔ ∀ i : Nat, i < N → tb (xs.getD i 0) i = true := by simp [rB]
theorem tB_iff {N : Nat} {xs : List Int} : tB N xs = true ↔ ∀ i : Nat, i < N → ∀ j : Nat, j < N → ∀ k : Nat, k < N → tb (xs.getD i 0) j = true → tb (xs.getD j 0) k = true → tb (xs.getD i 0) k = true := by
 simp only [tB, List.all_eq_true, List.mem_range]
 constructor
 ·intro h i hi j hj k hk h1 h2
  have := h i hi j hj k hk
  rw [h1, h2] at this
  simpa using this
 ·intro h i hi j hj k hk
  cases h1 : tb (xs.getD i 0) j <;> cases h2 : tb (xs.getD j 0) k <;> simp
  have := h i hi j hj k hk h1 h2
  simpa using this
theorem aB_iff {N : Nat} {xs : List Int} : aB N xs = true ↔ ∀ i : Nat, i < N → ∀ j : Nat, j < N → AC xs i j := by
 simp only [aB, List.all_eq_true, List.mem_range]
 constructor
 ·intro h i hi j hj h1 h2
  have := h i hi j hj
  rw [h1, h2] at this
  simpa using this
 ·intro h i hi j hj
  have := h i hi j hj
  unfold AC at this
  cases h1 : tb (xs.getD i 0) j <;> cases h2 : tb (xs.getD j 0) i <;> simp
  exact this h1 h2
theorem rB_no {N : Nat} {xs : List Int} {i : Nat} (hi : i < N) (h : ¬ tb (xs.getD i 0) i = true) : false = rB N xs := by
 cases e : rB N xs with
 | false => rfl
 | true => exact absurd (rB_iff.1 e i hi) h
theorem aB_no {N : Nat} {xs : List Int} {i j : Nat} (hi : i < N) (hj : j < N) (h1 : tb (xs.getD i 0) j = true) (h2 : tb (xs.getD j 0) i = true) (h : ¬ (i : Int) = (j : Int)) : false = aB N xs := by
 cases e : aB N xs with
 | false => rfl
 | true => exact absurd (aB_iff.1 e i hi j hj h1 h2) (by omega)
theorem bitT {N : Nat} {xs : List Int} (hR : RelOK N xs) (hN : N ≤ 30) {x j : Nat} (hx : x < N) (hj : j ≤ 61) (h : band (shr64 (xs.getD x 0) (j : Int)) 1 = 1) : tb (xs.getD x 0) j = true := (has_tb (n := N) (by omega) (hR.2 x hx) hj).1 h
theorem bitF {N : Nat} {xs : List Int} (hR : RelOK N xs) (hN : N ≤ 30) {x j : Nat} (hx : x < N) (hj : j ≤ 61) (h : ¬ band (shr64 (xs.getD x 0) (j : Int)) 1 = 1) : ¬ tb (xs.getD x 0) j = true := fun e => h ((has_tb (n := N) (by omega) (hR.2 x hx) hj).2 e)
theorem below1 {P : Nat → Prop} {x : Nat} (h : ∀ i : Nat, i < x → P i) (hx : P x) : ∀ i : Nat, i < x + 1 → P i := fun i hi => by
 by_cases e : i = x
 ·rw [e]; exact hx
 ·exact h i (by omega)
def TR (xs : List Int) (i : Nat) : Prop := bnot (img xs (xs.getD i 0) xs.length) (xs.getD i 0) = 0
theorem TR_iff {N : Nat} {xs : List Int} (hR : RelOK N xs) (hN : N ≤ 30) {i : Nat} (hi : i < N) : TR xs i ↔ ∀ j k : Nat, tb (xs.getD i 0) j = true → tb (xs.getD j 0) k = true → tb (xs.getD i 0) k = true := by
 have hl := hR.1
 have h1 := img_ok (n := N) (by omega) hR (hR.2 i hi) xs.length (by omega)
 rw [TR, bnot_sub (n := N) (by omega) h1.1 (hR.2 i hi)]
 constructor
 ·intro h j k a b
  exact h k ((h1.2 k).2 ⟨j, by have := tb_lt (hR.2 i hi) a; omega, a, b⟩)
 ·intro h k a
  obtain ⟨j, _, b, c⟩ := (h1.2 k).1 a
  exact h j k b c
theorem tB_of {N : Nat} {xs : List Int} (hR : RelOK N xs) (hN : N ≤ 30) (h : ∀ i : Nat, i < N → TR xs i) : true = tB N xs := (tB_iff.2 fun i hi j _ k _ a b => (TR_iff hR hN hi).1 (h i hi) j k a b).symm
theorem tB_no {N : Nat} {xs : List Int} (hR : RelOK N xs) (hN : N ≤ 30) {i : Nat} (hi : i < N) (h : ¬ bnot (img xs (xs.getD i 0) xs.length) (xs.getD i 0) = 0) : false = tB N xs := by
 cases e : tB N xs with
 | false => rfl
 | true => exact absurd ((TR_iff hR hN hi).2 fun j k a b => tB_iff.1 e i hi j (tb_lt (hR.2 i hi) a) k (tb_lt (hR.2 j (tb_lt (hR.2 i hi) a)) b) a b) h

theorem trW {N : Nat} {xs : List Int} (hR : RelOK N xs) (hN : N ≤ 30) : decide (wout xs xs.length = xs) = tB N xs := by
 have hl := hR.1
 obtain ⟨w1, w2⟩ := wout_ok (n := N) (by omega) hR N (Nat.le_refl _)
 rw [Bool.eq_iff_iff, decide_eq_true_iff, tB_iff, hl]
 constructor
 ·intro e i hi j hj k hk a b
  have h1 := (w2 i hi k).2 (.via (.edge ⟨by omega, a⟩) hj (.edge ⟨by omega, b⟩))
  rwa [e] at h1
 ·intro h
  refine rowN_ext w1.1 hl fun p hp => tb_ext (w1.2 p hp).1 (hR.2 p hp).1 fun k => ?_
  rw [Bool.eq_iff_iff, w2 p hp]
  constructor
  ·intro hpt
   induction hpt with
   | edge e => exact e.2
   | @via i m k _ hm _ i1 i2 =>
    have a := i1 hp
    have b := i2 hm
    exact h i hp m hm k (tb_lt (hR.2 m hm) b) a b
  ·intro a
   exact .edge ⟨by omega, a⟩

def invJ (ys : List Int) (i : Nat) (L : List Int) : List Int := L.foldl (fun o j => o.set j.toNat (bor (o.getD j.toNat 0) (shl64 1 (i : Int)))) ys
def invA (xs : List Int) : Nat → List Int
 | 0 => List.replicate xs.length 0
 | i + 1 => invJ (invA xs i) i (mem (xs.getD i 0))
theorem invJ_snoc {ys : List Int} {i : Nat} {L : List Int} {t : Nat} (h : t < L.length) : (invJ ys i (L.take t)).set (L.getD t 0).toNat (bor ((invJ ys i (L.take t)).getD (L.getD t 0).toNat 0) (shl64 1 (i : Int))) = invJ ys i (L.take (t + 1)) := by
 rw [List.take_succ_eq_append_getElem h, invJ, invJ, List.foldl_append, List.getD_eq_getElem?_getD (l := L), List.getElem?_eq_getElem h]
 rfl
theorem invJ_len (i : Nat) : ∀ (L : List Int) (ys : List Int), (invJ ys i L).length = ys.length
 | [], _ => rfl
 | j :: L, ys => by
  have := invJ_len i L (ys.set j.toNat (bor (ys.getD j.toNat 0) (shl64 1 (i : Int))))
  rw [List.length_set] at this
  exact this
theorem invA_len (xs : List Int) : ∀ i : Nat, (invA xs i).length = xs.length
 | 0 => by simp [invA]
 | i + 1 => by rw [invA, invJ_len, invA_len xs i]
theorem invJ_ok {N i : Nat} (hN : N ≤ 30) (hi : i < N) : ∀ (L : List Int) (ys : List Int), RelOK N ys → (∀ j ∈ L, 0 ≤ j ∧ j < (N : Int)) → RelOK N (invJ ys i L) ∧ ∀ j : Nat, j < N → ∀ k, tb ((invJ ys i L).getD j 0) k = true ↔ tb (ys.getD j 0) k = true ∨ (k = i ∧ (j : Int) ∈ L)
 | [], ys, h, _ => ⟨h, fun j hj k => by simp [invJ]⟩
 | v :: L, ys, h, hL => by
  have hv := hL v (List.mem_cons_self ..)
  have ho := inM_one (n := N) (by omega) hi
  have hvl : v.toNat < ys.length := by rw [h.1]; omega
  have hb := inM_bor (n := N) (by omega) (h.2 v.toNat (by omega)) ho
  have h2 : RelOK N (ys.set v.toNat (bor (ys.getD v.toNat 0) (shl64 1 (i : Int)))) := ⟨by rw [List.length_set, h.1], fun j hj => by
   rw [getD_set_if _ _ _ _ _ hvl]
   split
   ·exact hb
   ·exact h.2 j hj⟩
  obtain ⟨i1, i2⟩ := invJ_ok hN hi L _ h2 fun j hj => hL j (List.mem_cons_of_mem _ hj)
  refine ⟨i1, fun j hj k => ?_⟩
  have e0 : invJ ys i (v :: L) = invJ (ys.set v.toNat (bor (ys.getD v.toNat 0) (shl64 1 (i : Int)))) i L := rfl
  rw [e0, i2 j hj, getD_set_if _ _ _ _ _ hvl, List.mem_cons]
  split
  ·rename_i e
   rw [tb_bor (n := N) (by omega) (h.2 v.toNat (by omega)) ho, tb_one (by omega), Bool.or_eq_true, decide_eq_true_eq, e]
   have hjv : (j : Int) = v := by omega
   constructor
   ·rintro ((a | a) | ⟨a, b⟩)
    ·exact .inl a
    ·exact .inr ⟨a.symm, .inl hjv⟩
    ·exact .inr ⟨a, .inr b⟩
   ·rintro (a | ⟨a, b | b⟩)
    ·exact .inl (.inl a)
    ·exact .inl (.inr a.symm)
    ·exact .inr ⟨a, b⟩
  ·rename_i e
   have hjv : ¬ (j : Int) = v := by omega
   constructor
   ·rintro (a | ⟨a, b⟩)
    ·exact .inl a
    ·exact .inr ⟨a, .inr b⟩
   ·rintro (a | ⟨a, b | b⟩)
    ·exact .inl a
    ·exact absurd b hjv
    ·exact .inr ⟨a, b⟩
theorem mem_iff {N : Nat} {m : Int} (hN : N ≤ 61) (h : InM N m) {j : Nat} : (j : Int) ∈ mem m ↔ tb m j = true := by
 rw [mem, memN_mem]
 constructor
 ·rintro ⟨k, _, h2, h3⟩
  rw [show j = k by omega]; exact h2
 ·intro hb
  exact ⟨j, by have := tb_lt h hb; omega, hb, rfl⟩
theorem mem_lt {N : Nat} {m : Int} (hN : N ≤ 61) (h : InM N m) : ∀ v ∈ mem m, 0 ≤ v ∧ v < (N : Int) := fun v hv => by
 rw [mem, memN_mem] at hv
 obtain ⟨k, _, h2, rfl⟩ := hv
 have := tb_lt h h2
 omega
theorem mem_lt' {N : Nat} {m : Int} (hN : N ≤ 61) (h : InM N m) {t : Nat} (ht : t < (mem m).length) : 0 ≤ (mem m).getD t 0 ∧ (mem m).getD t 0 < (N : Int) := by
 refine mem_lt hN h _ ?_
 rw [List.getD_eq_getElem?_getD, List.getElem?_eq_getElem ht]
 exact List.getElem_mem _
theorem invA_ok {N : Nat} {xs : List Int} (hR : RelOK N xs) (hN : N ≤ 30) : ∀ i : Nat, i ≤ N → RelOK N (invA xs i) ∧ ∀ j : Nat, j < N → ∀ k, tb ((invA xs i).getD j 0) k = true ↔ k < i ∧ tb (xs.getD k 0) j = true
 | 0, _ => ⟨⟨by simp [invA, hR.1], fun j hj => by
   have : (invA xs 0).getD j 0 = 0 := by
    simp only [invA, List.getD_eq_getElem?_getD, List.getElem?_replicate]
    split <;> rfl
   rw [this]; exact inM_zero _⟩, fun j hj k => by
   have : (invA xs 0).getD j 0 = 0 := by
    simp only [invA, List.getD_eq_getElem?_getD, List.getElem?_replicate]
    split <;> rfl
   rw [this]; simp [tb_zero]⟩
 | i + 1, hi => by
  obtain ⟨h1, h2⟩ := invA_ok hR hN i (by omega)
  have hm := hR.2 i (by omega)
  obtain ⟨g1, g2⟩ := invJ_ok hN (show i < N by omega) (mem (xs.getD i 0)) (invA xs i) h1 (mem_lt (by omega) hm)
  refine ⟨g1, fun j hj k => ?_⟩
  rw [invA, g2 j hj, h2 j hj, mem_iff (by omega) hm]
  constructor
  ·rintro (⟨a, b⟩ | ⟨rfl, b⟩)
   ·exact ⟨by omega, b⟩
   ·exact ⟨by omega, b⟩
  ·rintro ⟨a, b⟩
   by_cases e : k = i
   ·subst e; exact .inr ⟨rfl, b⟩
   ·exact .inl ⟨by omega, b⟩
def AN (xs zs : List Int) (x : Nat) : Prop := bnot (band (xs.getD x 0) (zs.getD x 0)) (shl64 1 (x : Int)) = 0
theorem AN_iff {N : Nat} {xs zs : List Int} (hR : RelOK N xs) (hN : N ≤ 30) (hz : zs = invA xs xs.length) {x : Nat} (hx : x < N) : AN xs zs x ↔ ∀ j : Nat, j < N → AC xs x j := by
 obtain ⟨z1, z2⟩ := invA_ok hR hN N (Nat.le_refl _)
 rw [hR.1] at hz
 subst hz
 have hb := inM_band (n := N) (by omega) (hR.2 x hx) (z1.2 x hx)
 rw [AN, bnot_sub (n := N) (by omega) hb (inM_one (by omega) hx)]
 constructor
 ·intro h j hj a b
  have := h j (by rw [tb_band (n := N) (by omega) (hR.2 x hx) (z1.2 x hx), a, (z2 x hx j).2 ⟨hj, b⟩]; rfl)
  rw [tb_one (by omega)] at this
  exact of_decide_eq_true this
 ·intro h k hk
  rw [tb_band (n := N) (by omega) (hR.2 x hx) (z1.2 x hx), Bool.and_eq_true, z2 x hx] at hk
  rw [tb_one (by omega)]
  exact decide_eq_true (h k hk.2.1 hk.1 hk.2.2)
theorem aB_of {N : Nat} {xs zs : List Int} (hR : RelOK N xs) (hN : N ≤ 30) (hz : zs = invA xs xs.length) (h : ∀ i : Nat, i < N → AN xs zs i) : true = aB N xs := (aB_iff.2 fun i hi j hj => (AN_iff hR hN hz hi).1 (h i hi) j hj).symm
theorem aB_noN {N : Nat} {xs zs : List Int} (hR : RelOK N xs) (hN : N ≤ 30) (hz : zs = invA xs xs.length) {x : Nat} (hx : x < N) (h : ¬ bnot (band (xs.getD x 0) (zs.getD x 0)) (shl64 1 (x : Int)) = 0) : false = aB N xs := by
 cases e : aB N xs with
 | false => rfl
 | true => exact absurd ((AN_iff hR hN hz hx).2 fun j hj => aB_iff.1 e x hx j hj) h
theorem okPo_fr {n : Int} {xs : List Int} (h : okPo n xs = true) : okFr n xs = true := by
 simp only [okPo, Bool.and_eq_true] at h
 exact h.1
theorem okPo_0 {n : Int} {xs : List Int} (h : okFr n xs = false) : false = okPo n xs := by simp [okPo, h]
theorem okPo_1 {n : Int} {xs : List Int} (h : okFr n xs = true) (h1 : rB n.toNat xs = false) : false = okPo n xs := by simp [okPo, h, h1]
theorem okPo_2 {n : Int} {xs : List Int} (h : okFr n xs = true) (h1 : rB n.toNat xs = true) (h2 : tB n.toNat xs = false) : false = okPo n xs := by simp [okPo, h, h1, h2]
theorem okPo_3 {n : Int} {xs : List Int} (h : okFr n xs = true) (h1 : rB n.toNat xs = true) (h2 : tB n.toNat xs = true) : aB n.toNat xs = okPo n xs := by simp [okPo, h, h1, h2]
theorem flagR_c (n : Int) (xs : List Int) (hR : okFr n xs = true) : CallA Tryz.prog 72 [.agg [AI n, LI xs], AI 0] (.bool (rB n.toNat xs)) := by
 have hF := okFr_rel hR
 have hRel : RelOK n.toNat xs := hF.2.2.2
 have hb0 : 0 ≤ n ∧ n ≤ 8 ∧ (xs.length : Int) = n := ⟨hF.1, hF.2.1, hF.2.2.1⟩
 have hN8 : n.toNat ≤ 30 := by omega
 refine CallA.of Tryz.func72 rfl (by kernel_rfl) (R.go 20 (k21 (fun (x : Nat) => (⟨(frm 175 [(1, AI 0), (5, AI n), (6, LI xs), (7, AI (x : Int))]), []⟩ : St)) (fun (x : Nat) => (x ≤ n.toNat) ∧ (∀ i : Nat, i < x → tb (xs.getD i 0) i = true)) (fun (x : Nat) => n.toNat - x) 0 [1, 5, 6, 7] (some []) ⟨(by omega), (by exact fun i hi => absurd hi (by omega))⟩ ?_))
 rintro x ⟨h3_1, h3_2⟩ R1 N2
 refine R.go 7 (k9 ((x : Int) < n) (fun c4 => ?_) (fun c4 => ?_))
 ·refine R.go 19 (k15 eI xs 0 x (x : Int) eI_len (R.go 2 (k20 true (l01Bit_c (xs.getD x 0) (x : Int) (by omega) (by omega)) (R.go 2 (k10 (band (shr64 (xs.getD x 0) (x : Int)) 1 = 1) (fun c5 => ?_) (fun c5 => ?_))))))
  ·exact R.go 4 (k23 (.bool false) (by first | (apply congrArg AV.bool; first | exact rB_no (i := x) (by omega) (bitF hRel hN8 (by omega) (by omega) (by assumption)) | exact (rB_iff.2 fun i hi => (‹∀ i : Nat, i < x → tb (xs.getD i 0) i = true›) i (by omega)).symm) | (exfalso; omega)))
  refine R.go 7 (k21 (fun (y : Nat) => (⟨(frm 175 [(1, AI 0), (5, AI n), (6, LI xs), (7, AI (x : Int)), (8, AI (y : Int))]), []⟩ : St)) (fun (y : Nat) => y ≤ n.toNat) (fun (y : Nat) => n.toNat - y) 0 [1, 5, 6, 7, 8] none (by omega) ?_)
  rintro y h8_1 R6 N7
  refine R.go 7 (k9 ((y : Int) < n) (fun c9 => ?_) (fun c9 => ?_))
  ·refine R.go 8 (k15 eI xs 0 x (x : Int) eI_len (R.go 2 (k20 true (l01Bit_c (xs.getD x 0) (y : Int) (by omega) (by omega)) (R.go 2 (k10 (band (shr64 (xs.getD x 0) (y : Int)) 1 = 1) (fun c10 => ?_) (fun c10 => ?_))))))
   ·refine R.go 3 (k8 ((y : Int) + 1) ?_)
    exact R.go 2 (k22 R6 (N7 (y + 1) [1, 5, 6, 7, 8] none _ (by kernel_rfl) (by kernel_rfl) (by omega) (by show (n.toNat - (y + 1)) < (n.toNat - y); omega)))
   refine R.go 38 (k21 (fun (z : Nat) => (⟨(frm 175 [(1, AI 0), (5, AI n), (6, LI xs), (7, AI (x : Int)), (8, AI (y : Int)), (9, AI (z : Int))]), []⟩ : St)) (fun (z : Nat) => z ≤ n.toNat) (fun (z : Nat) => n.toNat - z) 0 [1, 5, 6, 7, 8, 9] none (by omega) ?_)
   rintro z h13_1 R11 N12
   refine R.go 7 (k9 ((z : Int) < n) (fun c14 => ?_) (fun c14 => ?_))
   ·refine R.go 8 (k15 eI xs 0 x (x : Int) eI_len (R.go 2 (k20 true (l01Bit_c (xs.getD x 0) (z : Int) (by omega) (by omega)) (R.go 2 (k10 (band (shr64 (xs.getD x 0) (z : Int)) 1 = 1) (fun c15 => ?_) (fun c15 => ?_))))))
    ·refine R.go 3 (k8 ((z : Int) + 1) ?_)
     exact R.go 2 (k22 R11 (N12 (z + 1) [1, 5, 6, 7, 8, 9] none _ (by kernel_rfl) (by kernel_rfl) (by omega) (by show (n.toNat - (z + 1)) < (n.toNat - z); omega)))
    refine R.go 45 (k8 ((z : Int) + 1) ?_)
    exact R.go 2 (k22 R11 (N12 (z + 1) [1, 5, 6, 7, 8, 9] none _ (by kernel_rfl) (by kernel_rfl) (by omega) (by show (n.toNat - (z + 1)) < (n.toNat - z); omega)))
   refine R.go 4 (k8 ((y : Int) + 1) ?_)
   exact R.go 2 (k22 R6 (N7 (y + 1) [1, 5, 6, 7, 8] none _ (by kernel_rfl) (by kernel_rfl) (by omega) (by show (n.toNat - (y + 1)) < (n.toNat - y); omega)))
  refine R.go 4 (k8 ((x : Int) + 1) ?_)
  exact R.go 2 (k22 R1 (N2 (x + 1) [1, 5, 6, 7] none _ (by kernel_rfl) (by kernel_rfl) ⟨(by omega), (by exact below1 (by assumption) (bitT hRel hN8 (by omega) (by omega) (by assumption)))⟩ (by show (n.toNat - (x + 1)) < (n.toNat - x); omega)))
 exact R.go 5 (k23 (.bool true) (by first | (apply congrArg AV.bool; first | exact rB_no (i := x) (by omega) (bitF hRel hN8 (by omega) (by omega) (by assumption)) | exact (rB_iff.2 fun i hi => (‹∀ i : Nat, i < x → tb (xs.getD i 0) i = true›) i (by omega)).symm) | (exfalso; omega)))
theorem flagT_c (n : Int) (xs : List Int) (hR : okFr n xs = true) : CallA Tryz.prog 72 [.agg [AI n, LI xs], AI 2] (.bool (tB n.toNat xs)) := by
 have hF := okFr_rel hR
 have hRel : RelOK n.toNat xs := hF.2.2.2
 have hb0 : 0 ≤ n ∧ n ≤ 8 ∧ (xs.length : Int) = n := ⟨hF.1, hF.2.1, hF.2.2.1⟩
 have hN8 : n.toNat ≤ 30 := by omega
 refine CallA.of Tryz.func72 rfl (by kernel_rfl) (R.go 20 (k21 (fun (x : Nat) => (⟨(frm 175 [(1, AI 2), (5, AI n), (6, LI xs), (7, AI (x : Int))]), []⟩ : St)) (fun (x : Nat) => (x ≤ n.toNat) ∧ (∀ i : Nat, i < x → TR xs i)) (fun (x : Nat) => n.toNat - x) 0 [1, 5, 6, 7] (some []) ⟨(by omega), (by exact fun i hi => absurd hi (by omega))⟩ ?_))
 rintro x ⟨h3_1, h3_2⟩ R1 N2
 refine R.go 7 (k9 ((x : Int) < n) (fun c4 => ?_) (fun c4 => ?_))
 ·refine R.go 32 (k15 eI xs 0 x (x : Int) eI_len (R.go 1 (k20 true (l01Image_c xs (xs.getD x 0) (by first | omega | (simp <;> omega))) (R.go 2 (k15 eI xs 0 x (x : Int) eI_len (R.go 4 (k10 ((bnot (img xs (xs.getD x 0) xs.length) (xs.getD x 0)) = 0) (fun c5 => ?_) (fun c5 => ?_))))))))
  ·exact R.go 4 (k23 (.bool false) (by first | (apply congrArg AV.bool; first | exact tB_no hRel hN8 (i := x) (by omega) (by assumption) | exact tB_of hRel hN8 fun i hi => (‹∀ i : Nat, i < x → TR xs i›) i (by omega)) | (exfalso; omega)))
  refine R.go 7 (k21 (fun (y : Nat) => (⟨(frm 175 [(1, AI 2), (5, AI n), (6, LI xs), (7, AI (x : Int)), (8, AI (y : Int))]), []⟩ : St)) (fun (y : Nat) => y ≤ n.toNat) (fun (y : Nat) => n.toNat - y) 0 [1, 5, 6, 7, 8] none (by omega) ?_)
  rintro y h8_1 R6 N7
  refine R.go 7 (k9 ((y : Int) < n) (fun c9 => ?_) (fun c9 => ?_))
  ·refine R.go 8 (k15 eI xs 0 x (x : Int) eI_len (R.go 2 (k20 true (l01Bit_c (xs.getD x 0) (y : Int) (by omega) (by omega)) (R.go 2 (k10 (band (shr64 (xs.getD x 0) (y : Int)) 1 = 1) (fun c10 => ?_) (fun c10 => ?_))))))
   ·refine R.go 3 (k8 ((y : Int) + 1) ?_)
    exact R.go 2 (k22 R6 (N7 (y + 1) [1, 5, 6, 7, 8] none _ (by kernel_rfl) (by kernel_rfl) (by omega) (by show (n.toNat - (y + 1)) < (n.toNat - y); omega)))
   refine R.go 38 (k21 (fun (z : Nat) => (⟨(frm 175 [(1, AI 2), (5, AI n), (6, LI xs), (7, AI (x : Int)), (8, AI (y : Int)), (9, AI (z : Int))]), []⟩ : St)) (fun (z : Nat) => z ≤ n.toNat) (fun (z : Nat) => n.toNat - z) 0 [1, 5, 6, 7, 8, 9] none (by omega) ?_)
   rintro z h13_1 R11 N12
   refine R.go 7 (k9 ((z : Int) < n) (fun c14 => ?_) (fun c14 => ?_))
   ·refine R.go 8 (k15 eI xs 0 x (x : Int) eI_len (R.go 2 (k20 true (l01Bit_c (xs.getD x 0) (z : Int) (by omega) (by omega)) (R.go 2 (k10 (band (shr64 (xs.getD x 0) (z : Int)) 1 = 1) (fun c15 => ?_) (fun c15 => ?_))))))
    ·refine R.go 3 (k8 ((z : Int) + 1) ?_)
     exact R.go 2 (k22 R11 (N12 (z + 1) [1, 5, 6, 7, 8, 9] none _ (by kernel_rfl) (by kernel_rfl) (by omega) (by show (n.toNat - (z + 1)) < (n.toNat - z); omega)))
    refine R.go 45 (k8 ((z : Int) + 1) ?_)
    exact R.go 2 (k22 R11 (N12 (z + 1) [1, 5, 6, 7, 8, 9] none _ (by kernel_rfl) (by kernel_rfl) (by omega) (by show (n.toNat - (z + 1)) < (n.toNat - z); omega)))
   refine R.go 4 (k8 ((y : Int) + 1) ?_)
   exact R.go 2 (k22 R6 (N7 (y + 1) [1, 5, 6, 7, 8] none _ (by kernel_rfl) (by kernel_rfl) (by omega) (by show (n.toNat - (y + 1)) < (n.toNat - y); omega)))
  refine R.go 4 (k8 ((x : Int) + 1) ?_)
  exact R.go 2 (k22 R1 (N2 (x + 1) [1, 5, 6, 7] none _ (by kernel_rfl) (by kernel_rfl) ⟨(by omega), (by exact below1 (by assumption) (show bnot (img xs (xs.getD x 0) xs.length) (xs.getD x 0) = 0 by assumption))⟩ (by show (n.toNat - (x + 1)) < (n.toNat - x); omega)))
 exact R.go 5 (k23 (.bool true) (by first | (apply congrArg AV.bool; first | exact tB_no hRel hN8 (i := x) (by omega) (by assumption) | exact tB_of hRel hN8 fun i hi => (‹∀ i : Nat, i < x → TR xs i›) i (by omega)) | (exfalso; omega)))
theorem flagA_c (n : Int) (xs : List Int) (hR : okFr n xs = true) : CallA Tryz.prog 72 [.agg [AI n, LI xs], AI 8] (.bool (aB n.toNat xs)) := by
 have hF := okFr_rel hR
 have hRel : RelOK n.toNat xs := hF.2.2.2
 have hb0 : 0 ≤ n ∧ n ≤ 8 ∧ (xs.length : Int) = n := ⟨hF.1, hF.2.1, hF.2.2.1⟩
 have hN8 : n.toNat ≤ 30 := by omega
 refine CallA.of Tryz.func72 rfl (by kernel_rfl) (R.go 20 (k21 (fun (x : Nat) => (⟨(frm 175 [(1, AI 8), (5, AI n), (6, LI xs), (7, AI (x : Int))]), []⟩ : St)) (fun (x : Nat) => (x ≤ n.toNat) ∧ (∀ i : Nat, i < x → ∀ j : Nat, j < n.toNat → AC xs i j)) (fun (x : Nat) => n.toNat - x) 0 [1, 5, 6, 7] (some []) ⟨(by omega), (by exact fun i hi => absurd hi (by omega))⟩ ?_))
 rintro x ⟨h3_1, h3_2⟩ R1 N2
 refine R.go 7 (k9 ((x : Int) < n) (fun c4 => ?_) (fun c4 => ?_))
 ·refine R.go 46 (k21 (fun (y : Nat) => (⟨(frm 175 [(1, AI 8), (5, AI n), (6, LI xs), (7, AI (x : Int)), (8, AI (y : Int))]), []⟩ : St)) (fun (y : Nat) => (y ≤ n.toNat) ∧ (∀ j : Nat, j < y → AC xs x j)) (fun (y : Nat) => n.toNat - y) 0 [1, 5, 6, 7, 8] none ⟨(by omega), (by exact fun j hj => absurd hj (by omega))⟩ ?_)
  rintro y ⟨h7_1, h7_2⟩ R5 N6
  refine R.go 7 (k9 ((y : Int) < n) (fun c8 => ?_) (fun c8 => ?_))
  ·refine R.go 8 (k15 eI xs 0 x (x : Int) eI_len (R.go 2 (k20 true (l01Bit_c (xs.getD x 0) (y : Int) (by omega) (by omega)) (R.go 2 (k10 (band (shr64 (xs.getD x 0) (y : Int)) 1 = 1) (fun c9 => ?_) (fun c9 => ?_))))))
   ·refine R.go 3 (k8 ((y : Int) + 1) ?_)
    exact R.go 2 (k22 R5 (N6 (y + 1) [1, 5, 6, 7, 8] none _ (by kernel_rfl) (by kernel_rfl) ⟨(by omega), (by exact below1 (by assumption) (by unfold AC; first | (refine fun a => absurd a (bitF hRel hN8 ?_ ?_ ?_) <;> first | omega | assumption) | (refine fun _ b => absurd b (bitF hRel hN8 ?_ ?_ ?_) <;> first | omega | assumption) | (intro _ _; omega)))⟩ (by show (n.toNat - (y + 1)) < (n.toNat - y); omega)))
   refine R.go 31 ?_
   by_cases c10 : (x : Int) = (y : Int)
   ·refine k13 true (nF c10) ?_
    iterate 5 refine k13 true (nF c10) ?_
    refine k14 false (nF c10) (R.go 9 (k21 (fun (z : Nat) => (⟨(frm 175 [(1, AI 8), (5, AI n), (6, LI xs), (7, AI (x : Int)), (8, AI (y : Int)), (9, AI (z : Int))]), []⟩ : St)) (fun (z : Nat) => z ≤ n.toNat) (fun (z : Nat) => n.toNat - z) 0 [1, 5, 6, 7, 8, 9] none (by omega) ?_))
    rintro z h13_1 R11 N12
    refine R.go 7 (k9 ((z : Int) < n) (fun c14 => ?_) (fun c14 => ?_))
    ·refine R.go 8 (k15 eI xs 0 x (x : Int) eI_len (R.go 2 (k20 true (l01Bit_c (xs.getD x 0) (z : Int) (by omega) (by omega)) (R.go 2 (k10 (band (shr64 (xs.getD x 0) (z : Int)) 1 = 1) (fun c15 => ?_) (fun c15 => ?_))))))
     ·refine R.go 3 (k8 ((z : Int) + 1) ?_)
      exact R.go 2 (k22 R11 (N12 (z + 1) [1, 5, 6, 7, 8, 9] none _ (by kernel_rfl) (by kernel_rfl) (by omega) (by show (n.toNat - (z + 1)) < (n.toNat - z); omega)))
     refine R.go 45 (k8 ((z : Int) + 1) ?_)
     exact R.go 2 (k22 R11 (N12 (z + 1) [1, 5, 6, 7, 8, 9] none _ (by kernel_rfl) (by kernel_rfl) (by omega) (by show (n.toNat - (z + 1)) < (n.toNat - z); omega)))
    refine R.go 4 (k8 ((y : Int) + 1) ?_)
    exact R.go 2 (k22 R5 (N6 (y + 1) [1, 5, 6, 7, 8] none _ (by kernel_rfl) (by kernel_rfl) ⟨(by omega), (by exact below1 (by assumption) (by unfold AC; first | (refine fun a => absurd a (bitF hRel hN8 ?_ ?_ ?_) <;> first | omega | assumption) | (refine fun _ b => absurd b (bitF hRel hN8 ?_ ?_ ?_) <;> first | omega | assumption) | (intro _ _; omega)))⟩ (by show (n.toNat - (y + 1)) < (n.toNat - y); omega)))
   refine k12 true (nT c10) ?_
   iterate 2 refine R.go 1 (k12 true (nT c10) ?_)
   refine k15 eI xs 0 y (y : Int) eI_len (k12 true (nT c10) ?_)
   iterate 2 refine R.go 1 (k12 true (nT c10) ?_)
   refine k20 true (l01Bit_c (xs.getD y 0) (x : Int) (by omega) (by omega)) (k14 true (nT c10) (R.go 1 (k9 (band (shr64 (xs.getD y 0) (x : Int)) 1 = 1) (fun c16 => ?_) (fun c16 => ?_))))
   ·exact R.go 4 (k23 (.bool false) (by first | (apply congrArg AV.bool; first | exact aB_no (i := x) (j := y) (by omega) (by omega) (bitT hRel hN8 (by omega) (by omega) (by assumption)) (bitT hRel hN8 (by omega) (by omega) (by assumption)) (by assumption) | exact (aB_iff.2 fun i hi => (‹∀ i : Nat, i < x → ∀ j : Nat, j < n.toNat → AC xs i j›) i (by omega)).symm) | (exfalso; omega)))
   refine R.go 7 (k21 (fun (z : Nat) => (⟨(frm 175 [(1, AI 8), (5, AI n), (6, LI xs), (7, AI (x : Int)), (8, AI (y : Int)), (9, AI (z : Int))]), []⟩ : St)) (fun (z : Nat) => z ≤ n.toNat) (fun (z : Nat) => n.toNat - z) 0 [1, 5, 6, 7, 8, 9] none (by omega) ?_)
   rintro z h19_1 R17 N18
   refine R.go 7 (k9 ((z : Int) < n) (fun c20 => ?_) (fun c20 => ?_))
   ·refine R.go 8 (k15 eI xs 0 x (x : Int) eI_len (R.go 2 (k20 true (l01Bit_c (xs.getD x 0) (z : Int) (by omega) (by omega)) (R.go 2 (k10 (band (shr64 (xs.getD x 0) (z : Int)) 1 = 1) (fun c21 => ?_) (fun c21 => ?_))))))
    ·refine R.go 3 (k8 ((z : Int) + 1) ?_)
     exact R.go 2 (k22 R17 (N18 (z + 1) [1, 5, 6, 7, 8, 9] none _ (by kernel_rfl) (by kernel_rfl) (by omega) (by show (n.toNat - (z + 1)) < (n.toNat - z); omega)))
    refine R.go 45 (k8 ((z : Int) + 1) ?_)
    exact R.go 2 (k22 R17 (N18 (z + 1) [1, 5, 6, 7, 8, 9] none _ (by kernel_rfl) (by kernel_rfl) (by omega) (by show (n.toNat - (z + 1)) < (n.toNat - z); omega)))
   refine R.go 4 (k8 ((y : Int) + 1) ?_)
   exact R.go 2 (k22 R5 (N6 (y + 1) [1, 5, 6, 7, 8] none _ (by kernel_rfl) (by kernel_rfl) ⟨(by omega), (by exact below1 (by assumption) (by unfold AC; first | (refine fun a => absurd a (bitF hRel hN8 ?_ ?_ ?_) <;> first | omega | assumption) | (refine fun _ b => absurd b (bitF hRel hN8 ?_ ?_ ?_) <;> first | omega | assumption) | (intro _ _; omega)))⟩ (by show (n.toNat - (y + 1)) < (n.toNat - y); omega)))
  refine R.go 4 (k8 ((x : Int) + 1) ?_)
  exact R.go 2 (k22 R1 (N2 (x + 1) [1, 5, 6, 7] none _ (by kernel_rfl) (by kernel_rfl) ⟨(by omega), (by exact below1 (by assumption) (fun j hj => (‹∀ j : Nat, j < y → AC xs x j›) j (by omega)))⟩ (by show (n.toNat - (x + 1)) < (n.toNat - x); omega)))
 exact R.go 5 (k23 (.bool true) (by first | (apply congrArg AV.bool; first | exact aB_no (i := x) (j := y) (by omega) (by omega) (bitT hRel hN8 (by omega) (by omega) (by assumption)) (bitT hRel hN8 (by omega) (by omega) (by assumption)) (by assumption) | exact (aB_iff.2 fun i hi => (‹∀ i : Nat, i < x → ∀ j : Nat, j < n.toNat → AC xs i j›) i (by omega)).symm) | (exfalso; omega)))
theorem sees_c (n : Int) (xs : List Int) (x : Nat) (y : Int) (hx : x < xs.length) (h0 : 0 ≤ y) : CallA Tryz.prog 152 [.agg [AI n, LI xs], AI (x : Int), AI y] (.bool (decide (band (shr64 (xs.getD x 0) y) 1 = 1))) := by
 refine CallA.of Tryz.func152 rfl (by kernel_rfl) (R.go 10 (k15 eI xs 0 x (x : Int) eI_len (R.go 2 (k20 true (has_c (xs.getD x 0) y h0) ?_))))
 exact R.go 2 (k23 (.bool (decide (band (shr64 (xs.getD x 0) y) 1 = 1))) (by rfl))
theorem hasFlag1_c (x : Nat) (n : Int) (xs : List Int) (hx : x < xs.length) : CallA Tryz.prog 151 [AI (x : Int), .rptr [AI n, LI xs]] (.bool (decide (band (shr64 (xs.getD x 0) (x : Int)) 1 = 1))) := by
 refine CallA.of Tryz.func151 rfl (by kernel_rfl) (R.go 9 (k20 true (sees_c n xs x (x : Int) hx (by omega)) ?_))
 exact R.go 2 (k23 (.bool (decide (band (shr64 (xs.getD x 0) (x : Int)) 1 = 1))) (by rfl))
theorem hasFlag7_c (x : Nat) (n : Int) (xs zs : List Int) (hx : x < xs.length) (hz : x < zs.length) : CallA Tryz.prog 161 [AI (x : Int), .rptr [AI n, LI xs], .rptr [LI zs]] (.bool (decide (bnot (band (xs.getD x 0) (zs.getD x 0)) (shl64 1 (x : Int)) = 0))) := by
 refine CallA.of Tryz.func161 rfl (by kernel_rfl) (R.go 9 (k15 eI xs 0 x (x : Int) eI_len (R.go 3 (k15 eI zs 0 x (x : Int) eI_len (R.go 3 (R.shl 1 (x : Int) (by kernel_rfl) (by omega) (by kernel_rfl) (k20 true (within_c (band (xs.getD x 0) (zs.getD x 0)) (shl64 1 (x : Int))) ?_)))))))
 exact R.go 2 (k23 (.bool (decide (bnot (band (xs.getD x 0) (zs.getD x 0)) (shl64 1 (x : Int)) = 0))) (by rfl))
theorem everyR_c (n : Int) (xs : List Int) (hR : okFr n xs = true) : CallA Tryz.prog 150 [.agg [AI n, LI xs], .fn 151 [.rptr [AI n, LI xs]]] (.bool (rB n.toNat xs)) := by
 have hF := okFr_rel hR
 have hRel : RelOK n.toNat xs := hF.2.2.2
 have hb0 : 0 ≤ n ∧ n ≤ 8 ∧ (xs.length : Int) = n := ⟨hF.1, hF.2.1, hF.2.2.1⟩
 have hN8 : n.toNat ≤ 30 := by omega
 refine CallA.of Tryz.func150 rfl (by kernel_rfl) (R.go 13 (k21 (fun (x : Nat) => (⟨(frm 16 [(1, .fn 151 [.rptr [AI n, LI xs]]), (7, AI n), (8, AI (x : Int))]), []⟩ : St)) (fun (x : Nat) => (x ≤ n.toNat) ∧ (∀ i : Nat, i < x → tb (xs.getD i 0) i = true)) (fun (x : Nat) => n.toNat - x) 0 [1, 7, 8] (some []) ⟨(by omega), (by exact fun i hi => absurd hi (by omega))⟩ ?_))
 rintro x ⟨h3_1, h3_2⟩ R1 N2
 refine R.go 5 (k9 ((x : Int) < n) (fun c4 => ?_) (fun c4 => ?_))
 ·refine R.go 12 (k20 true (hasFlag1_c x n xs (by first | omega | (simp <;> omega))) (R.go 2 (k10 (band (shr64 (xs.getD x 0) (x : Int)) 1 = 1) (fun c5 => ?_) (fun c5 => ?_))))
  ·exact R.go 4 (k23 (.bool false) (by first | (apply congrArg AV.bool; first | exact rB_no (i := x) (by omega) (bitF hRel hN8 (by omega) (by omega) (by assumption)) | exact (rB_iff.2 fun i hi => (‹∀ i : Nat, i < x → tb (xs.getD i 0) i = true›) i (by omega)).symm) | (exfalso; omega)))
  refine R.go 3 (k8 ((x : Int) + 1) ?_)
  exact R.go 2 (k22 R1 (N2 (x + 1) [1, 7, 8] none _ (by kernel_rfl) (by kernel_rfl) ⟨(by omega), (by exact below1 (by assumption) (bitT hRel hN8 (by omega) (by omega) (by assumption)))⟩ (by show (n.toNat - (x + 1)) < (n.toNat - x); omega)))
 exact R.go 5 (k23 (.bool true) (by first | (apply congrArg AV.bool; first | exact rB_no (i := x) (by omega) (bitF hRel hN8 (by omega) (by omega) (by assumption)) | exact (rB_iff.2 fun i hi => (‹∀ i : Nat, i < x → tb (xs.getD i 0) i = true›) i (by omega)).symm) | (exfalso; omega)))
theorem everyA_c (n : Int) (xs zs : List Int) (hR : okFr n xs = true) (hz : zs = invA xs xs.length) : CallA Tryz.prog 150 [.agg [AI n, LI xs], .fn 161 [.rptr [AI n, LI xs], .rptr [LI zs]]] (.bool (aB n.toNat xs)) := by
 have hF := okFr_rel hR
 have hRel : RelOK n.toNat xs := hF.2.2.2
 have hb0 : 0 ≤ n ∧ n ≤ 8 ∧ (xs.length : Int) = n := ⟨hF.1, hF.2.1, hF.2.2.1⟩
 have hN8 : n.toNat ≤ 30 := by omega
 have hzl : zs.length = xs.length := by rw [hz]; exact invA_len _ _
 refine CallA.of Tryz.func150 rfl (by kernel_rfl) (R.go 13 (k21 (fun (x : Nat) => (⟨(frm 16 [(1, .fn 161 [.rptr [AI n, LI xs], .rptr [LI zs]]), (7, AI n), (8, AI (x : Int))]), []⟩ : St)) (fun (x : Nat) => (x ≤ n.toNat) ∧ (∀ i : Nat, i < x → AN xs zs i)) (fun (x : Nat) => n.toNat - x) 0 [1, 7, 8] (some []) ⟨(by omega), (by exact fun i hi => absurd hi (by omega))⟩ ?_))
 rintro x ⟨h3_1, h3_2⟩ R1 N2
 refine R.go 5 (k9 ((x : Int) < n) (fun c4 => ?_) (fun c4 => ?_))
 ·refine R.go 12 (k20 true (hasFlag7_c x n xs zs (by first | omega | (simp <;> omega)) (by first | omega | (simp <;> omega))) (R.go 2 (k10 (bnot (band (xs.getD x 0) (zs.getD x 0)) (shl64 1 (x : Int)) = 0) (fun c5 => ?_) (fun c5 => ?_))))
  ·exact R.go 4 (k23 (.bool false) (by first | (apply congrArg AV.bool; first | exact aB_noN hRel hN8 hz (x := x) (by omega) (by assumption) | exact aB_of hRel hN8 hz fun i hi => (‹∀ i : Nat, i < x → AN xs zs i›) i (by omega)) | (exfalso; omega)))
  refine R.go 3 (k8 ((x : Int) + 1) ?_)
  exact R.go 2 (k22 R1 (N2 (x + 1) [1, 7, 8] none _ (by kernel_rfl) (by kernel_rfl) ⟨(by omega), (by exact below1 (by assumption) (show bnot (band (xs.getD x 0) (zs.getD x 0)) (shl64 1 (x : Int)) = 0 by assumption))⟩ (by show (n.toNat - (x + 1)) < (n.toNat - x); omega)))
 exact R.go 5 (k23 (.bool true) (by first | (apply congrArg AV.bool; first | exact aB_noN hRel hN8 hz (x := x) (by omega) (by assumption) | exact aB_of hRel hN8 hz fun i hi => (‹∀ i : Nat, i < x → AN xs zs i›) i (by omega)) | (exfalso; omega)))
theorem inverse_c (n : Int) (xs : List Int) (hR : okFr n xs = true) : CallA Tryz.prog 149 [LI xs] (ownA eI 2 1 (invA xs xs.length)) := by
 have hF := okFr_rel hR
 have hRel : RelOK n.toNat xs := hF.2.2.2
 have hb0 : 0 ≤ n ∧ n ≤ 8 ∧ (xs.length : Int) = n := ⟨hF.1, hF.2.1, hF.2.2.1⟩
 have hN8 : n.toNat ≤ 30 := by omega
 refine CallA.of Tryz.func149 rfl (by kernel_rfl) (R.go 8 (R.mk eI 0 2 8 xs.length xs.length (by kernel_rfl) rfl (by decide) (by omega) (by kernel_rfl) (R.go 10 (k21 ((fun | (i, out) => (⟨(frm 36 [(3, .ref 0), (11, LI xs), (12, AI xs.length), (13, AI (i : Int))]), [rowA eI 2 1 out]⟩ : St) : Nat × (List Int) → St)) (fun | (i, out) => (i ≤ xs.length) ∧ (out = invA xs i)) (fun | (i, out) => xs.length - i) (0, (List.replicate xs.length 0)) [3, 11, 12, 13] none ⟨(by omega), (by rfl)⟩ ?_))))
 rintro ⟨i, out⟩ ⟨h4_1, rfl⟩ R1 N2
 have hol := invA_len xs i
 have hmi := fun h : i < xs.length => hRel.2 i (by omega)
 have hml := mem_le (xs.getD i 0)
 refine R.go 5 (k9 ((i : Int) < (xs.length : Int)) (fun c5 => ?_) (fun c5 => ?_))
 ·refine R.go 6 (k15 eI xs 0 i (i : Int) eI_len ?_)
  have hmm := inM_mono (n' := 61) (by omega) (hmi (by omega))
  refine R.go 7 (k20 true (membersOf_c (xs.getD i 0) (by first | assumption | exact inM61 (by omega) (by omega))).frz (R.go 4 (k21 ((fun | (t, o2) => (⟨(frm 36 [(3, .ref 0), (4, AI (i : Int)), (11, LI xs), (12, AI xs.length), (13, AI (i : Int)), (19, LI (mem (xs.getD i 0))), (20, AI ((mem (xs.getD i 0)).length)), (21, AI (t : Int))]), [rowA eI 2 1 o2]⟩ : St) : Nat × (List Int) → St)) (fun | (t, o2) => (t ≤ (mem (xs.getD i 0)).length) ∧ (o2 = invJ (invA xs i) i ((mem (xs.getD i 0)).take t))) (fun | (t, o2) => (mem (xs.getD i 0)).length - t) (0, (invA xs i)) [3, 4, 11, 12, 13, 19, 20, 21] none ⟨(by omega), (by rfl)⟩ ?_)))
  rintro ⟨t, o2⟩ ⟨h9_1, rfl⟩ R6 N7
  have hol2 : (invJ (invA xs i) i ((mem (xs.getD i 0)).take t)).length = xs.length := by rw [invJ_len, hol]
  refine R.go 5 (k9 ((t : Int) < ((mem (xs.getD i 0)).length : Int)) (fun c10 => ?_) (fun c10 => ?_))
  ·refine R.go 5 (k15 eI (mem (xs.getD i 0)) 0 t (t : Int) eI_len ?_)
   have hjr := mem_lt' (N := n.toNat) (by omega) (hmi (by omega)) (t := t) (by omega)
   refine R.go 6 (k16 0 1 (invJ (invA xs i) i ((mem (xs.getD i 0)).take t)).length ((((mem (xs.getD i 0)).getD t 0)).toNat) ((mem (xs.getD i 0)).getD t 0) ?_ (hji := by omega) (hj := by first | omega | (simp only [List.length_set]; omega) | (simp <;> omega)))
   refine k17 (invJ (invA xs i) i ((mem (xs.getD i 0)).take t)) ((((mem (xs.getD i 0)).getD t 0)).toNat) ?_ (hj := by first | omega | (simp only [List.length_set]; omega) | (simp <;> omega))
   refine R.go 1 (R.shl 1 (i : Int) (by kernel_rfl) (by omega) (by kernel_rfl) (R.go 1 (k16 0 1 (invJ (invA xs i) i ((mem (xs.getD i 0)).take t)).length ((((mem (xs.getD i 0)).getD t 0)).toNat) ((mem (xs.getD i 0)).getD t 0) ?_ (hji := by omega) (hj := by first | omega | (simp only [List.length_set]; omega) | (simp <;> omega)))))
   refine k18 0 2 (invJ (invA xs i) i ((mem (xs.getD i 0)).take t)) ((((mem (xs.getD i 0)).getD t 0)).toNat) (bor ((invJ (invA xs i) i ((mem (xs.getD i 0)).take t)).getD ((((mem (xs.getD i 0)).getD t 0)).toNat) 0) (shl64 1 (i : Int))) ?_ (hj := by first | omega | (simp only [List.length_set]; omega) | (simp <;> omega))
   refine R.go 3 (k8 ((t : Int) + 1) ?_)
   exact R.go 2 (k22 R6 (N7 (t + 1, (invJ (invA xs i) i ((mem (xs.getD i 0)).take t)).set ((((mem (xs.getD i 0)).getD t 0)).toNat) (bor ((invJ (invA xs i) i ((mem (xs.getD i 0)).take t)).getD ((((mem (xs.getD i 0)).getD t 0)).toNat) 0) (shl64 1 (i : Int)))) [3, 4, 11, 12, 13, 19, 20, 21] none _ (by kernel_rfl) (by kernel_rfl) ⟨(by omega), (by exact invJ_snoc (by omega))⟩ (by show ((mem (xs.getD i 0)).length - (t + 1)) < ((mem (xs.getD i 0)).length - t); omega)))
  refine R.go 3 (k8 ((i : Int) + 1) ?_)
  exact R.go 2 (k22 R1 (N2 (i + 1, invJ (invA xs i) i ((mem (xs.getD i 0)).take t)) [3, 11, 12, 13] none _ (by kernel_rfl) (by kernel_rfl) ⟨(by omega), (by rw [invA, List.take_of_length_le (by omega)])⟩ (by show (xs.length - (i + 1)) < (xs.length - i); omega)))
 exact R.go 6 (k23 (ownA eI 2 1 (invA xs i)) (by first | (rw [show i = xs.length by omega]) | (exfalso; omega)))
theorem equalI_c (a b : List Int) (la : a.length ≤ 1000000000) : CallA Tryz.prog 154 [LI a, LI b] (.bool (decide (a = b))) := by
 refine CallA.of Tryz.func154 rfl (by kernel_rfl) (R.go 13 (k10 ((a.length : Int) = (b.length : Int)) (fun c1 => ?_) (fun c1 => ?_)))
 ·exact R.go 4 (k23 (.bool false) (by first | (first | (rw [dF (fun h => by subst h; omega)]) | (rw [dT (take_all (i := i) (by omega) (by omega) (by assumption))])) | (exfalso; omega)))
 refine R.go 9 (k21 (fun (i : Nat) => (⟨(frm 26 [(0, LI a), (1, LI b), (12, AI a.length), (13, AI (i : Int))]), []⟩ : St)) (fun (i : Nat) => (i ≤ a.length) ∧ (a.take i = b.take i)) (fun (i : Nat) => a.length - i) 0 [0, 1, 12, 13] none ⟨(by omega), (by rfl)⟩ ?_)
 rintro i ⟨h4_1, h4_2⟩ R2 N3
 refine R.go 5 (k9 ((i : Int) < (a.length : Int)) (fun c5 => ?_) (fun c5 => ?_))
 ·refine R.go 12 (k15 eI a 0 i (i : Int) eI_len (R.go 3 (k15 eI b 0 i (i : Int) eI_len (R.go 3 (k10 ((a.getD i 0) = (b.getD i 0)) (fun c6 => ?_) (fun c6 => ?_))))))
  ·exact R.go 4 (k23 (.bool false) (by first | (first | (rw [dF (fun h => by subst h; omega)]) | (rw [dT (take_all (i := i) (by omega) (by omega) (by assumption))])) | (exfalso; omega)))
  refine R.go 3 (k8 ((i : Int) + 1) ?_)
  exact R.go 2 (k22 R2 (N3 (i + 1) [0, 1, 12, 13] none _ (by kernel_rfl) (by kernel_rfl) ⟨(by omega), (by exact take_step a b 0 i (by omega) (by omega) (by assumption) (by assumption))⟩ (by show (a.length - (i + 1)) < (a.length - i); omega)))
 exact R.go 5 (k23 (.bool true) (by first | (first | (rw [dF (fun h => by subst h; omega)]) | (rw [dT (take_all (i := i) (by omega) (by omega) (by assumption))])) | (exfalso; omega)))
theorem inverseG_c (n : Int) (xs zs : List Int) (hR : okFr n xs = true) (hz : zs = invA xs xs.length) : CallA Tryz.prog 149 [LI xs] (ownA eI 2 1 zs) := by rw [hz]; exact inverse_c n xs hR
theorem hasFlagR_c (n : Int) (xs : List Int) (hR : okFr n xs = true) : CallA Tryz.prog 81 [.agg [AI n, LI xs], AI 0] (.bool (rB n.toNat xs)) := by
 have hF := okFr_rel hR
 have hRel : RelOK n.toNat xs := hF.2.2.2
 have hb0 : 0 ≤ n ∧ n ≤ 8 ∧ (xs.length : Int) = n := ⟨hF.1, hF.2.1, hF.2.2.1⟩
 have hN8 : n.toNat ≤ 30 := by omega
 obtain ⟨zs, hz⟩ : ∃ zs, zs = invA xs xs.length := ⟨_, rfl⟩
 have hwl := wout_len xs xs.length
 refine CallA.of Tryz.func81 rfl (by kernel_rfl) (R.go 9 (k20 true (inverseG_c n xs zs hR (by assumption)).frz (R.go 19 (k20 false (everyR_c n xs hR) ?_))))
 exact R.go 2 (k23 (.bool (rB n.toNat xs)) (by rfl))
theorem hasFlagT_c (n : Int) (xs : List Int) (hR : okFr n xs = true) : CallA Tryz.prog 81 [.agg [AI n, LI xs], AI 2] (.bool (tB n.toNat xs)) := by
 have hF := okFr_rel hR
 have hRel : RelOK n.toNat xs := hF.2.2.2
 have hb0 : 0 ≤ n ∧ n ≤ 8 ∧ (xs.length : Int) = n := ⟨hF.1, hF.2.1, hF.2.2.1⟩
 have hN8 : n.toNat ≤ 30 := by omega
 obtain ⟨zs, hz⟩ : ∃ zs, zs = invA xs xs.length := ⟨_, rfl⟩
 have hwl := wout_len xs xs.length
 refine CallA.of Tryz.func81 rfl (by kernel_rfl) (R.go 9 (k20 true (inverseG_c n xs zs hR (by assumption)).frz (R.go 31 (k20 true (transitive_c xs (by first | omega | (simp <;> omega))).frz (R.go 2 (k20 true (equalI_c (wout xs xs.length) xs (by first | omega | (simp <;> omega))) ?_))))))
 exact R.go 2 (k23 (.bool (decide ((wout xs xs.length) = xs))) (by first | (apply congrArg AV.bool; exact trW hRel hN8) | (exfalso; omega)))
theorem hasFlagA_c (n : Int) (xs : List Int) (hR : okFr n xs = true) : CallA Tryz.prog 81 [.agg [AI n, LI xs], AI 8] (.bool (aB n.toNat xs)) := by
 have hF := okFr_rel hR
 have hRel : RelOK n.toNat xs := hF.2.2.2
 have hb0 : 0 ≤ n ∧ n ≤ 8 ∧ (xs.length : Int) = n := ⟨hF.1, hF.2.1, hF.2.2.1⟩
 have hN8 : n.toNat ≤ 30 := by omega
 obtain ⟨zs, hz⟩ : ∃ zs, zs = invA xs xs.length := ⟨_, rfl⟩
 have hwl := wout_len xs xs.length
 refine CallA.of Tryz.func81 rfl (by kernel_rfl) (R.go 9 (k20 true (inverseG_c n xs zs hR (by assumption)).frz (R.go 67 (k20 false (everyA_c n xs zs hR (by assumption)) ?_))))
 exact R.go 2 (k23 (.bool (aB n.toNat xs)) (by rfl))
theorem okFr_any {n : Int} {xs : List Int} (h : (xs.any fun m => !inR m 0 ((shl64 1 n) - 1)) = true) : okFr n xs = false := by simp [okFr, h]
theorem okFr_mk {n : Int} {xs : List Int} (h : inR n 0 8 = true) (h1 : (xs.length : Int) = n) (h2 : (xs.any fun m => !inR m 0 ((shl64 1 n) - 1)) = false) : okFr n xs = true := by rw [okFr_yes h h1, h2]; rfl
theorem okFr_rel1 {n : Int} {xs : List Int} (h : inR n 0 8 = true) (h1 : (xs.length : Int) = n) (h2 : xs.any (outR xs.length) = false) : okFr n xs = true := by rw [← okFr_out h h1, h2]; rfl
theorem okFr_rel0 {n : Int} {xs : List Int} (h : inR n 0 8 = true) (h1 : (xs.length : Int) = n) (h2 : xs.any (outR xs.length) = true) : okFr n xs = false := by rw [← okFr_out h h1, h2]; rfl
theorem frameOf_c (xs : List Int) : CallA Tryz.prog 36 [LI xs] (.agg [AI xs.length, LI xs]) := by
 refine CallA.of Tryz.func36 rfl (by kernel_rfl) (R.go 7 (k20 true (size_c xs) ?_))
 exact R.go 4 (k23 (.agg [AI xs.length, LI xs]) (by rfl))
theorem pFrame_c (n : Int) (xs : List Int) (hn : (xs.length : Int) = n) : CallA Tryz.prog 32 [.agg [AI n, LI xs]] (.agg [AI n, LI xs]) := by
 refine CallA.of Tryz.func32 rfl (by kernel_rfl) (R.go 9 (k20 true (frameOf_c xs) ?_))
 exact R.go 2 (k23 (.agg [AI xs.length, LI xs]) (by first | (rw [hn]) | (exfalso; omega)))
set_option maxHeartbeats 1000000 in
theorem isPoset_c (n : Int) (xs : List Int) (hl : xs.length ≤ 1000000000) : CallA Tryz.prog 28 [.agg [AI n, LI xs]] (.bool (okPo n xs)) := by
 have hn := fun h : inR n 0 8 = true => (inR_iff _ _ _).1 h
 refine CallA.of Tryz.func28 rfl (by kernel_rfl) (R.go 10 (k20 true (inRange_c n 0 8) (R.go 2 ((Bool.eq_false_or_eq_true (inR n 0 8)).elim (fun c1 => ?_) (fun c1 => ?_)))))
 ·refine k12 false (bnF c1) ?_
  iterate 2 refine R.go 1 (k12 false (bnF c1) ?_)
  refine k20 true (size_c xs) (k12 false (bnF c1) ?_)
  iterate 2 refine R.go 1 (k12 false (bnF c1) ?_)
  refine R.go 1 (k14 false (bnF c1) (R.go 1 ?_))
  by_cases c2 : (xs.length : Int) = n
  ·refine k12 false (nF c2) ?_
   iterate 2 refine R.go 1 (k12 false (nF c2) ?_)
   refine k20 true (isRelation_c xs hl) (k12 false (nF c2) (R.go 1 (k14 false (nF c2) (R.go 1 (k25 (!(xs.any (outR xs.length))) (fun c3 => ?_) (fun c3 => ?_))))))
   ·exact R.go 4 (k23 (.bool false) (by first | (apply congrArg AV.bool; first | exact okPo_0 (okFr_no (by assumption)) | exact okPo_0 (okFr_ne (by assumption)) | exact okPo_0 (by assumption) | exact okPo_1 hfr (by assumption) | exact okPo_2 hfr (by assumption) (by assumption) | exact okPo_3 hfr (by assumption) (by assumption) | exact okPo_0 (okFr_rel0 (by assumption) (by assumption) (by first | assumption | simpa using (by assumption : (!xs.any (outR xs.length)) = false)))) | (exfalso; omega)))
   have hfr : okFr n xs = true := okFr_rel1 (by assumption) (by assumption) (by first | assumption | simpa using (by assumption : (!xs.any (outR xs.length)) = true))
   refine R.go 4 (k20 true (pFrame_c n xs c2) (R.go 6 (k20 true (hasFlagR_c n xs hfr) (R.go 1 ((Bool.eq_false_or_eq_true (rB n.toNat xs)).elim (fun c4 => ?_) (fun c4 => ?_))))))
   ·refine k12 true c4 (R.go 1 (k12 true c4 (k20 true (hasFlagT_c n xs hfr) (k14 true c4 (R.go 1 ((Bool.eq_false_or_eq_true (tB n.toNat xs)).elim (fun c5 => ?_) (fun c5 => ?_)))))))
    ·refine k12 true c5 (R.go 1 (k12 true c5 (k20 true (hasFlagA_c n xs hfr) (k14 true c5 ?_))))
     exact R.go 2 (k23 (.bool (aB n.toNat xs)) (by first | (apply congrArg AV.bool; first | exact okPo_0 (okFr_no (by assumption)) | exact okPo_0 (okFr_ne (by assumption)) | exact okPo_0 (by assumption) | exact okPo_1 hfr (by assumption) | exact okPo_2 hfr (by assumption) (by assumption) | exact okPo_3 hfr (by assumption) (by assumption) | exact okPo_0 (okFr_rel0 (by assumption) (by assumption) (by first | assumption | simpa using (by assumption : (!xs.any (outR xs.length)) = false)))) | (exfalso; omega)))
    iterate 2 refine k13 true c5 ?_
    refine k14 false c5 ?_
    exact R.go 2 (k23 (.bool false) (by first | (apply congrArg AV.bool; first | exact okPo_0 (okFr_no (by assumption)) | exact okPo_0 (okFr_ne (by assumption)) | exact okPo_0 (by assumption) | exact okPo_1 hfr (by assumption) | exact okPo_2 hfr (by assumption) (by assumption) | exact okPo_3 hfr (by assumption) (by assumption) | exact okPo_0 (okFr_rel0 (by assumption) (by assumption) (by first | assumption | simpa using (by assumption : (!xs.any (outR xs.length)) = false)))) | (exfalso; omega)))
   iterate 2 refine k13 true c4 ?_
   refine k14 false c4 ?_
   exact R.go 6 (k23 (.bool false) (by first | (apply congrArg AV.bool; first | exact okPo_0 (okFr_no (by assumption)) | exact okPo_0 (okFr_ne (by assumption)) | exact okPo_0 (by assumption) | exact okPo_1 hfr (by assumption) | exact okPo_2 hfr (by assumption) (by assumption) | exact okPo_3 hfr (by assumption) (by assumption) | exact okPo_0 (okFr_rel0 (by assumption) (by assumption) (by first | assumption | simpa using (by assumption : (!xs.any (outR xs.length)) = false)))) | (exfalso; omega)))
  iterate 4 refine k13 false (nT c2) ?_
  refine k14 true (nT c2) ?_
  exact R.go 6 (k23 (.bool false) (by first | (apply congrArg AV.bool; first | exact okPo_0 (okFr_no (by assumption)) | exact okPo_0 (okFr_ne (by assumption)) | exact okPo_0 (by assumption) | exact okPo_1 hfr (by assumption) | exact okPo_2 hfr (by assumption) (by assumption) | exact okPo_3 hfr (by assumption) (by assumption) | exact okPo_0 (okFr_rel0 (by assumption) (by assumption) (by first | assumption | simpa using (by assumption : (!xs.any (outR xs.length)) = false)))) | (exfalso; omega)))
 iterate 6 refine k13 false (bnT c1) ?_
 refine k14 true (bnT c1) ?_
 exact R.go 12 (k23 (.bool false) (by first | (apply congrArg AV.bool; first | exact okPo_0 (okFr_no (by assumption)) | exact okPo_0 (okFr_ne (by assumption)) | exact okPo_0 (by assumption) | exact okPo_1 hfr (by assumption) | exact okPo_2 hfr (by assumption) (by assumption) | exact okPo_3 hfr (by assumption) (by assumption) | exact okPo_0 (okFr_rel0 (by assumption) (by assumption) (by first | assumption | simpa using (by assumption : (!xs.any (outR xs.length)) = false)))) | (exfalso; omega)))
set_option maxHeartbeats 1000000 in
theorem l16Is_c (n : Int) (xs : List Int) (hl : xs.length ≤ 1000000000) : CallA Tryz.prog 25 [.agg [AI n, LI xs]] (.bool (okPo n xs)) := by
 have hn := fun h : inR n 0 8 = true => (inR_iff _ _ _).1 h
 refine CallA.of Tryz.func25 rfl (by kernel_rfl) (R.go 10 (k20 true (l01In_c n 0 8) (R.go 2 ((Bool.eq_false_or_eq_true (inR n 0 8)).elim (fun c1 => ?_) (fun c1 => ?_)))))
 ·refine k12 false (bnF c1) ?_
  iterate 5 refine R.go 1 (k12 false (bnF c1) ?_)
  refine R.go 1 (k14 false (bnF c1) (R.go 1 ?_))
  by_cases c2 : (xs.length : Int) = n
  ·refine k12 false (nF c2) ?_
   iterate 4 refine R.go 1 (k12 false (nF c2) ?_)
   refine k20 true (l01Masks_c n xs hl (by first | omega | (simp only [inR_iff, inR_not] at *; omega)) (by first | omega | (simp only [inR_iff, inR_not] at *; omega))) (k12 false (nF c2) (R.go 1 (k14 false (nF c2) (R.go 1 (k25 (!(xs.any fun m => !inR m 0 ((shl64 1 n) - 1))) (fun c3 => ?_) (fun c3 => ?_))))))
   ·exact R.go 4 (k23 (.bool false) (by first | (apply congrArg AV.bool; first | exact okPo_0 (okFr_no (by assumption)) | exact okPo_0 (okFr_ne (by assumption)) | exact okPo_0 (by assumption) | exact okPo_1 hfr (by assumption) | exact okPo_2 hfr (by assumption) (by assumption) | exact okPo_3 hfr (by assumption) (by assumption) | exact okPo_0 (okFr_any (by first | assumption | simpa using (by assumption : (!xs.any fun m => !inR m 0 ((shl64 1 n) - 1)) = false)))) | (exfalso; omega)))
   have hfr : okFr n xs = true := okFr_mk (by assumption) (by assumption) (by first | assumption | simpa using (by assumption : (!xs.any fun m => !inR m 0 ((shl64 1 n) - 1)) = true))
   refine R.go 14 (k20 true (flagR_c n xs hfr) (R.go 1 ((Bool.eq_false_or_eq_true (rB n.toNat xs)).elim (fun c4 => ?_) (fun c4 => ?_))))
   ·refine k12 true c4 (R.go 1 (k12 true c4 (k20 true (flagT_c n xs hfr) (k14 true c4 (R.go 1 ((Bool.eq_false_or_eq_true (tB n.toNat xs)).elim (fun c5 => ?_) (fun c5 => ?_)))))))
    ·refine k12 true c5 (R.go 1 (k12 true c5 (k20 true (flagA_c n xs hfr) (k14 true c5 ?_))))
     exact R.go 2 (k23 (.bool (aB n.toNat xs)) (by first | (apply congrArg AV.bool; first | exact okPo_0 (okFr_no (by assumption)) | exact okPo_0 (okFr_ne (by assumption)) | exact okPo_0 (by assumption) | exact okPo_1 hfr (by assumption) | exact okPo_2 hfr (by assumption) (by assumption) | exact okPo_3 hfr (by assumption) (by assumption) | exact okPo_0 (okFr_any (by first | assumption | simpa using (by assumption : (!xs.any fun m => !inR m 0 ((shl64 1 n) - 1)) = false)))) | (exfalso; omega)))
    iterate 2 refine k13 true c5 ?_
    refine k14 false c5 ?_
    exact R.go 2 (k23 (.bool false) (by first | (apply congrArg AV.bool; first | exact okPo_0 (okFr_no (by assumption)) | exact okPo_0 (okFr_ne (by assumption)) | exact okPo_0 (by assumption) | exact okPo_1 hfr (by assumption) | exact okPo_2 hfr (by assumption) (by assumption) | exact okPo_3 hfr (by assumption) (by assumption) | exact okPo_0 (okFr_any (by first | assumption | simpa using (by assumption : (!xs.any fun m => !inR m 0 ((shl64 1 n) - 1)) = false)))) | (exfalso; omega)))
   iterate 2 refine k13 true c4 ?_
   refine k14 false c4 ?_
   exact R.go 6 (k23 (.bool false) (by first | (apply congrArg AV.bool; first | exact okPo_0 (okFr_no (by assumption)) | exact okPo_0 (okFr_ne (by assumption)) | exact okPo_0 (by assumption) | exact okPo_1 hfr (by assumption) | exact okPo_2 hfr (by assumption) (by assumption) | exact okPo_3 hfr (by assumption) (by assumption) | exact okPo_0 (okFr_any (by first | assumption | simpa using (by assumption : (!xs.any fun m => !inR m 0 ((shl64 1 n) - 1)) = false)))) | (exfalso; omega)))
  iterate 6 refine k13 false (nT c2) ?_
  refine k14 true (nT c2) ?_
  exact R.go 6 (k23 (.bool false) (by first | (apply congrArg AV.bool; first | exact okPo_0 (okFr_no (by assumption)) | exact okPo_0 (okFr_ne (by assumption)) | exact okPo_0 (by assumption) | exact okPo_1 hfr (by assumption) | exact okPo_2 hfr (by assumption) (by assumption) | exact okPo_3 hfr (by assumption) (by assumption) | exact okPo_0 (okFr_any (by first | assumption | simpa using (by assumption : (!xs.any fun m => !inR m 0 ((shl64 1 n) - 1)) = false)))) | (exfalso; omega)))
 iterate 6 refine k13 false (bnT c1) ?_
 refine k14 true (bnT c1) ?_
 exact R.go 14 (k23 (.bool false) (by first | (apply congrArg AV.bool; first | exact okPo_0 (okFr_no (by assumption)) | exact okPo_0 (okFr_ne (by assumption)) | exact okPo_0 (by assumption) | exact okPo_1 hfr (by assumption) | exact okPo_2 hfr (by assumption) (by assumption) | exact okPo_3 hfr (by assumption) (by assumption) | exact okPo_0 (okFr_any (by first | assumption | simpa using (by assumption : (!xs.any fun m => !inR m 0 ((shl64 1 n) - 1)) = false)))) | (exfalso; omega)))
end Go.Proofs.YtehbliocfpppoaaGreat
