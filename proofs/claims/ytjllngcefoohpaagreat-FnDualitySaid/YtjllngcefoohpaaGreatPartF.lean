/- Texts of the proof: HY1, SymX, SymZ, Syma. -/
import Derived.RangeFuncNested
import Derived.Test.YtjllngcefoohpaaGreatPartE

/-! Orders of up to thirty elements: flags, inverses, least members. -/
namespace Go.Proofs.YtjllngcefoohpaaGreat
open Go.RowKit Go.Abs
def okRl (n : Int) (xs : List Int) : Prop := 0 ≤ n ∧ n ≤ 30 ∧ (xs.length : Int) = n ∧ RelOK n.toNat xs
theorem okRl_of {xs : List Int} (hN : xs.length ≤ 30) (h : RelOK xs.length xs) : okRl (xs.length : Int) xs := ⟨by omega, by omega, rfl, by simpa using h⟩
def lowP (bl : List Int) (m : Int) (x : Nat) : Bool := tb m x && decide (bnot m (bl.getD x 0) = 0)
def lowTo (bl : List Int) (m : Int) : Nat → Int
 | 0 => -1
 | i + 1 => if lowTo bl m i = -1 then (if lowP bl m i = true then (i : Int) else -1) else lowTo bl m i
def lowF (bl : List Int) (m : Int) : Int := lowTo bl m bl.length
theorem lowTo_no {bl : List Int} {m : Int} : ∀ {i : Nat}, (∀ x : Nat, x < i → lowP bl m x = false) → lowTo bl m i = -1
 | 0, _ => rfl
 | i + 1, h => by rw [lowTo, if_pos (lowTo_no fun x hx => h x (by omega)), if_neg (by rw [h i (by omega)]; decide)]
theorem lowTo_yes {bl : List Int} {m : Int} {i : Nat} (h : ∀ x : Nat, x < i → lowP bl m x = false) (hi : lowP bl m i = true) : ∀ {k : Nat}, i < k → lowTo bl m k = (i : Int)
 | 0, hk => absurd hk (by omega)
 | k + 1, hk => by
  by_cases e : i = k
  ·subst e; rw [lowTo, if_pos (lowTo_no h), if_pos hi]
  ·have := lowTo_yes h hi (k := k) (by omega)
   rw [lowTo, this, if_neg (by omega)]
theorem lowF_at {bl : List Int} {m : Int} {x : Nat} (h : ∀ i : Nat, i < x → lowP bl m i = false) (hx : lowP bl m x = true) (hl : x < bl.length) : lowF bl m = (x : Int) := lowTo_yes h hx hl
theorem lowF_none {bl : List Int} {m : Int} (h : ∀ x : Nat, x < bl.length → lowP bl m x = false) : lowF bl m = -1 := lowTo_no h
theorem lowTo_some {bl : List Int} {m : Int} : ∀ {i : Nat}, 0 ≤ lowTo bl m i → ∃ x : Nat, x < i ∧ lowTo bl m i = (x : Int) ∧ lowP bl m x = true
 | 0, h => by simp [lowTo] at h
 | i + 1, h => by
  rw [lowTo] at h ⊢
  by_cases e : lowTo bl m i = -1
  ·rw [if_pos e] at h ⊢
   by_cases e2 : lowP bl m i = true
   ·rw [if_pos e2]; exact ⟨i, by omega, rfl, e2⟩
   ·rw [if_neg e2] at h; omega
  ·rw [if_neg e] at h ⊢
   obtain ⟨x, h1, h2, h3⟩ := lowTo_some h
   exact ⟨x, by omega, h2, h3⟩
theorem lowTo_ge {bl : List Int} {m : Int} : ∀ i : Nat, -1 ≤ lowTo bl m i
 | 0 => by simp [lowTo]
 | i + 1 => by
  have := lowTo_ge (bl := bl) (m := m) i
  rw [lowTo]
  repeat (first | split | omega)
theorem lowF_some {bl : List Int} {m : Int} (h : 0 ≤ lowF bl m) : ∃ x : Nat, x < bl.length ∧ lowF bl m = (x : Int) ∧ lowP bl m x = true := lowTo_some h
theorem lowF_rng (bl : List Int) (m : Int) : -1 ≤ lowF bl m ∧ lowF bl m < (bl.length : Int) := by
 refine ⟨lowTo_ge _, ?_⟩
 by_cases h : 0 ≤ lowF bl m
 ·obtain ⟨x, h1, h2, _⟩ := lowF_some h
  omega
 ·omega
def lowB (bl : List Int) (m : Int) : Bool := decide (0 ≤ lowF bl m)
def lowV (bl : List Int) (m : Int) : Int := if 0 ≤ lowF bl m then lowF bl m else 0
theorem low_p {bl : List Int} {m : Int} {x : Nat} (hm : InM 61 m) (hx : x ≤ 61) (h1 : band (shr64 m (x : Int)) 1 = 1) (h2 : bnot m (bl.getD x 0) = 0) : lowP bl m x = true := by
 rw [lowP, (has_tb (by decide) hm hx).1 h1, decide_eq_true h2]; rfl
theorem low_n1 {bl : List Int} {m : Int} {x : Nat} (hm : InM 61 m) (hx : x ≤ 61) (h1 : ¬ band (shr64 m (x : Int)) 1 = 1) : lowP bl m x = false := by
 rw [lowP]
 cases e : tb m x with
 | false => rfl
 | true => exact absurd ((has_tb (by decide) hm hx).2 e) h1
theorem low_n2 {bl : List Int} {m : Int} {x : Nat} (h2 : ¬ bnot m (bl.getD x 0) = 0) : lowP bl m x = false := by rw [lowP, decide_eq_false h2, Bool.and_false]
theorem gr_no {bl : List Int} {m : Int} (hN : bl.length ≤ 61) (hm : InM bl.length m) {t : Nat} {x : Nat} (hno : ∀ i : Nat, i < t → ¬ bnot m (bl.getD ((mem m).getD i 0).toNat 0) = 0) (hx : ∀ i : Nat, i < (mem m).length → (mem m).getD i 0 = (x : Int) → i < t) : lowP bl m x = false := by
 cases e : lowP bl m x with
 | false => rfl
 | true =>
  simp only [lowP, Bool.and_eq_true, decide_eq_true_eq] at e
  have h1 := (mem_iff hN hm).2 e.1
  obtain ⟨i, hi, h2⟩ := List.getElem_of_mem h1
  have h3 : (mem m).getD i 0 = (x : Int) := by rw [List.getD_eq_getElem?_getD, List.getElem?_eq_getElem hi]; exact h2
  exact absurd (by rw [h3]; simpa using e.2) (hno i (hx i hi h3))
theorem gr_yes {bl : List Int} {m : Int} (hN : bl.length ≤ 61) (hm : InM bl.length m) {t : Nat} (ht : t < (mem m).length) (hno : ∀ i : Nat, i < t → ¬ bnot m (bl.getD ((mem m).getD i 0).toNat 0) = 0) (hy : bnot m (bl.getD ((mem m).getD t 0).toNat 0) = 0) : lowF bl m = (mem m).getD t 0 := by
 have h1 := mem_lt' hN hm ht
 have h2 : ((((mem m).getD t 0).toNat : Nat) : Int) = (mem m).getD t 0 := by omega
 rw [← h2]
 refine lowF_at (fun i hi => gr_no hN hm hno fun k hk hki => ?_) ?_ (by omega)
 ·rcases Nat.lt_or_ge k t with h | h
  ·exact h
  ·exfalso
   have h3 : (mem m).getD t 0 ≤ (mem m).getD k 0 := by
    rcases Nat.eq_or_lt_of_le h with rfl | h
    ·exact Int.le_refl _
    ·have := List.pairwise_iff_getElem.1 (memN_asc m 62) t k ht hk h
     have e1 : (mem m).getD t 0 = (memN m 62)[t] := by rw [List.getD_eq_getElem?_getD, List.getElem?_eq_getElem ht]; rfl
     have e2 : (mem m).getD k 0 = (memN m 62)[k] := by rw [List.getD_eq_getElem?_getD, List.getElem?_eq_getElem hk]; rfl
     omega
   omega
 ·have h4 : ((((mem m).getD t 0).toNat : Nat) : Int) ∈ mem m := by
   rw [h2, List.getD_eq_getElem?_getD, List.getElem?_eq_getElem ht]
   exact List.getElem_mem _
  rw [lowP, (mem_iff hN hm).1 h4, decide_eq_true hy]; rfl
theorem gr_end {bl : List Int} {m : Int} (hN : bl.length ≤ 61) (hm : InM bl.length m) {t : Nat} (ht : (mem m).length ≤ t) (hno : ∀ i : Nat, i < t → ¬ bnot m (bl.getD ((mem m).getD i 0).toNat 0) = 0) : lowF bl m = -1 := lowF_none fun x _ => gr_no hN hm hno fun i hi _ => by omega
theorem gr_tup {bl : List Int} {m v : Int} (h : lowF bl m = v) (h0 : 0 ≤ v) : AV.tup [AI v, .bool true] = AV.tup [AI (lowV bl m), .bool (lowB bl m)] := by
 rw [lowV, lowB, h, if_pos h0, decide_eq_true h0]
theorem gr_tup0 {bl : List Int} {m : Int} (h : lowF bl m = -1) : AV.tup [AI 0, .bool false] = AV.tup [AI (lowV bl m), .bool (lowB bl m)] := by
 rw [lowV, lowB, h]; rfl
def mkB (P : Nat → Bool) : Nat → Int
 | 0 => 0
 | k + 1 => if P k = true then bor (mkB P k) (shl64 1 (k : Int)) else mkB P k
theorem mkB_ok (P : Nat → Bool) {N : Nat} (hN : N ≤ 61) : ∀ k : Nat, k ≤ N → InM N (mkB P k) ∧ ∀ j, tb (mkB P k) j = (decide (j < k) && P j)
 | 0, _ => ⟨inM_zero N, fun j => by simp [mkB, tb_zero]⟩
 | k + 1, hk => by
  obtain ⟨h1, h2⟩ := mkB_ok P hN k (by omega)
  have h3 := inM_one hN (show k < N by omega)
  rw [mkB]
  by_cases hp : P k = true
  ·rw [if_pos hp]
   refine ⟨inM_bor hN h1 h3, fun j => ?_⟩
   rw [tb_bor hN h1 h3, h2, tb_one (by omega)]
   by_cases hj : k = j
   ·subst hj; simp [hp]
   ·by_cases hjk : j < k
    ·simp [hjk, hj, show j < k + 1 by omega]
    ·simp [hjk, hj, show ¬ j < k + 1 by omega]
  ·rw [if_neg hp]
   refine ⟨h1, fun j => ?_⟩
   rw [h2]
   by_cases hj : k = j
   ·subst hj; simp [hp]
   ·by_cases hjk : j < k
    ·simp [hjk, show j < k + 1 by omega]
    ·simp [hjk, show ¬ j < k + 1 by omega]
theorem mkB_yes {P : Nat → Bool} {k : Nat} (h : P k = true) : bor (mkB P k) (shl64 1 (k : Int)) = mkB P (k + 1) := by rw [mkB, if_pos h]
theorem mkB_no {P : Nat → Bool} {k : Nat} (h : P k = false) : mkB P k = mkB P (k + 1) := by rw [mkB, if_neg (by rw [h]; decide)]
def paB (N : Nat) (xs : List Int) : Bool := rB N xs && (tB N xs && aB N xs)
theorem pa_img {N : Nat} {xs : List Int} (hR : RelOK N xs) (hN : N ≤ 30) (h : paB N xs = true) {i : Nat} (hi : i < N) : img xs (xs.getD i 0) xs.length = xs.getD i 0 := by
 simp only [paB, Bool.and_eq_true] at h
 have hm := hR.2 i hi
 obtain ⟨h1, h2⟩ := img_ok (n := N) (by omega) hR hm xs.length (by rw [hR.1]; exact Nat.le_refl _)
 refine tb_ext h1.1 hm.1 fun k => ?_
 rw [Bool.eq_iff_iff, h2]
 constructor
 ·rintro ⟨j, hj, a, b⟩
  have hk := tb_lt (hR.2 j (by rw [hR.1] at hj; exact hj)) b
  exact tB_iff.1 h.2.1 i hi j (by rw [hR.1] at hj; exact hj) k hk a b
 ·intro a
  exact ⟨k, by rw [hR.1]; exact tb_lt hm a, a, rB_iff.1 h.1 k (tb_lt hm a)⟩
theorem pa_yes {N : Nat} {xs : List Int} (hR : RelOK N xs) (hN : N ≤ 30) (h : ∀ i : Nat, i < N → tb (xs.getD i 0) i = true ∧ img xs (xs.getD i 0) xs.length = xs.getD i 0 ∧ ∀ j : Nat, j < i → ¬ (tb (xs.getD i 0) j = true ∧ tb (xs.getD j 0) i = true)) : true = paB N xs := by
 have h1 : rB N xs = true := rB_iff.2 fun i hi => (h i hi).1
 have h2 : tB N xs = true := (tB_of hR hN fun i hi => by
  rw [TR, (h i hi).2.1]
  exact (bnot_sub (n := N) (by omega) (hR.2 i hi) (hR.2 i hi)).2 fun _ a => a).symm
 have h3 : aB N xs = true := aB_iff.2 fun i hi j hj a b => by
  rcases Nat.lt_trichotomy i j with e | e | e
  ·exact absurd ⟨b, a⟩ ((h j hj).2.2 i e)
  ·exact e
  ·exact absurd ⟨a, b⟩ ((h i hi).2.2 j e)
 rw [paB, h1, h2, h3]; rfl
theorem pa_no {N : Nat} {xs : List Int} (h : ¬ paB N xs = true) : false = paB N xs := by
 cases e : paB N xs with
 | false => rfl
 | true => exact absurd e h
theorem pa_no1 {N : Nat} {xs : List Int} {i : Nat} (hi : i < N) (h : ¬ tb (xs.getD i 0) i = true) : false = paB N xs := pa_no fun e => by
 simp only [paB, Bool.and_eq_true] at e
 exact h (rB_iff.1 e.1 i hi)
theorem pa_no2 {N : Nat} {xs : List Int} (hR : RelOK N xs) (hN : N ≤ 30) {i : Nat} (hi : i < N) (h : ¬ img xs (xs.getD i 0) xs.length = xs.getD i 0) : false = paB N xs := pa_no fun e => h (pa_img hR hN e hi)
theorem pa_no3 {N : Nat} {xs : List Int} {i j : Nat} (hi : i < N) (hj : j < i) (h1 : tb (xs.getD i 0) j = true) (h2 : tb (xs.getD j 0) i = true) : false = paB N xs := pa_no fun e => by
 simp only [paB, Bool.and_eq_true] at e
 have := aB_iff.1 e.2.2 i hi j (by omega) h1 h2
 omega
def invRow (xs : List Int) (i k : Nat) : Int := mkB (fun j => tb (xs.getD j 0) i) k
def invS (xs : List Int) (i : Nat) : List Int := (List.range xs.length).map fun r => if r < i then invRow xs r xs.length else 0
theorem invS_get {xs : List Int} {i r : Nat} (h : r < xs.length) : (invS xs i).getD r 0 = if r < i then invRow xs r xs.length else 0 := by
 simp [invS, List.getD_eq_getElem?_getD, List.getElem?_range h]
theorem invS_len (xs : List Int) (i : Nat) : (invS xs i).length = xs.length := by simp [invS]
theorem invS_eq {xs : List Int} (hR : RelOK xs.length xs) (hN : xs.length ≤ 30) : invS xs xs.length = invA xs xs.length := by
 obtain ⟨h1, h2⟩ := invA_ok hR hN xs.length (Nat.le_refl _)
 refine rowN_ext (invS_len _ _) h1.1 fun j hj => ?_
 rw [invS_get hj, if_pos hj]
 obtain ⟨k1, k2⟩ := mkB_ok (fun k => tb (xs.getD k 0) j) (N := xs.length) (by omega) xs.length (Nat.le_refl _)
 refine tb_ext k1.1 (h1.2 j hj).1 fun k => ?_
 rw [Bool.eq_iff_iff, h2 j hj, invRow, k2, Bool.and_eq_true, decide_eq_true_eq]
theorem invS_zero {xs : List Int} : List.replicate xs.length 0 = invS xs 0 := by
 refine rowN_ext (N := xs.length) (by simp) (invS_len _ _) fun j hj => ?_
 rw [invS_get hj, if_neg (by omega)]; simp [List.getD_eq_getElem?_getD, hj]
def invW (xs : List Int) (i k : Nat) : List Int := (invS xs i).set i (invRow xs i k)
theorem invW_len (xs : List Int) (i k : Nat) : (invW xs i k).length = xs.length := by simp [invW, invS_len]
theorem invW_get {xs : List Int} {i k : Nat} (hi : i < xs.length) : (invW xs i k).getD i 0 = invRow xs i k := by
 rw [invW, getD_set_if _ _ _ _ _ (by rw [invS_len]; exact hi), if_pos rfl]
theorem invW_zero {xs : List Int} {i : Nat} (hi : i < xs.length) : invS xs i = invW xs i 0 := by
 refine rowN_ext (invS_len _ _) (invW_len _ _ _) fun j hj => ?_
 rw [invW, getD_set_if _ _ _ _ _ (by rw [invS_len]; exact hi)]
 by_cases e : i = j
 ·subst e; rw [if_pos rfl, invS_get hj, if_neg (by omega)]; rfl
 ·rw [if_neg e]
theorem invW_end {xs : List Int} {i k : Nat} (hi : i < xs.length) (hk : k = xs.length) : invW xs i k = invS xs (i + 1) := by
 subst hk
 refine rowN_ext (invW_len _ _ _) (invS_len _ _) fun j hj => ?_
 rw [invW, getD_set_if _ _ _ _ _ (by rw [invS_len]; exact hi), invS_get hj, invS_get hj]
 by_cases e : i = j
 ·subst e; rw [if_pos rfl, if_pos (by omega)]
 ·rw [if_neg e]
  by_cases e2 : j < i
  ·rw [if_pos e2, if_pos (by omega)]
  ·rw [if_neg e2, if_neg (by omega)]
theorem invW_yes {xs : List Int} {i k : Nat} (hi : i < xs.length) (h : tb (xs.getD k 0) i = true) : (invW xs i k).set i (bor ((invW xs i k).getD i 0) (shl64 1 (k : Int))) = invW xs i (k + 1) := by
 rw [invW_get hi, invW, List.set_set, invW, invRow, invRow, mkB_yes (P := fun j => tb (xs.getD j 0) i) h]
theorem invW_no {xs : List Int} {i k : Nat} (h : ¬ tb (xs.getD k 0) i = true) : invW xs i k = invW xs i (k + 1) := by
 rw [invW, invW, invRow, invRow, mkB_no (P := fun j => tb (xs.getD j 0) i) (k := k) (by simpa using h)]
theorem everyR2_c (n : Int) (xs : List Int) (hR : okRl n xs) : CallA Tryz.prog 257 [.agg [AI n, LI xs], .fn 258 [.rptr [AI n, LI xs]]] (.bool (rB n.toNat xs)) := by
 have hRel : RelOK n.toNat xs := hR.2.2.2
 have hb0 : 0 ≤ n ∧ n ≤ 30 ∧ (xs.length : Int) = n := ⟨hR.1, hR.2.1, hR.2.2.1⟩
 have hN8 : n.toNat ≤ 30 := by omega
 refine CallA.of Tryz.func257 rfl (by kernel_rfl) (R.go 13 (k17 (fun (x : Nat) => (⟨(frm 16 [(1, .fn 258 [.rptr [AI n, LI xs]]), (7, AI n), (8, AI (x : Int))]), []⟩ : St)) (fun (x : Nat) => (x ≤ n.toNat) ∧ (∀ i : Nat, i < x → tb (xs.getD i 0) i = true)) (fun (x : Nat) => n.toNat - x) 0 [1, 7, 8] (some []) ⟨(by omega), (by exact fun i hi => absurd hi (by omega))⟩ ?_))
 rintro x ⟨h3_1, h3_2⟩ R1 N2
 refine R.go 5 (k3 ((x : Int) < n) (fun c4 => ?_) (fun c4 => ?_))
 ·refine R.go 12 (k16 true (hasFlag1_c x n xs (by first | omega | (simp <;> omega))) (R.go 2 (k4 (band (shr64 (xs.getD x 0) (x : Int)) 1 = 1) (fun c5 => ?_) (fun c5 => ?_))))
  ·exact R.go 4 (k19 (.bool false) (by first | (apply congrArg AV.bool; first | exact rB_no (i := x) (by omega) (bitF hRel hN8 (by omega) (by omega) (by assumption)) | exact (rB_iff.2 fun i hi => (‹∀ i : Nat, i < x → tb (xs.getD i 0) i = true›) i (by omega)).symm) | (exfalso; omega)))
  refine R.go 3 (k1 ((x : Int) + 1) ?_)
  exact R.go 2 (k18 R1 (N2 (x + 1) [1, 7, 8] none _ (by kernel_rfl) (by kernel_rfl) ⟨(by omega), (by exact below1 (by assumption) (bitT hRel hN8 (by omega) (by omega) (by assumption)))⟩ (by show (n.toNat - (x + 1)) < (n.toNat - x); omega)))
 exact R.go 5 (k19 (.bool true) (by first | (apply congrArg AV.bool; first | exact rB_no (i := x) (by omega) (bitF hRel hN8 (by omega) (by omega) (by assumption)) | exact (rB_iff.2 fun i hi => (‹∀ i : Nat, i < x → tb (xs.getD i 0) i = true›) i (by omega)).symm) | (exfalso; omega)))
theorem everyA2_c (n : Int) (xs zs : List Int) (hR : okRl n xs) (hz : zs = invA xs xs.length) : CallA Tryz.prog 257 [.agg [AI n, LI xs], .fn 267 [.rptr [AI n, LI xs], .rptr [LI zs]]] (.bool (aB n.toNat xs)) := by
 have hRel : RelOK n.toNat xs := hR.2.2.2
 have hb0 : 0 ≤ n ∧ n ≤ 30 ∧ (xs.length : Int) = n := ⟨hR.1, hR.2.1, hR.2.2.1⟩
 have hN8 : n.toNat ≤ 30 := by omega
 have hzl : zs.length = xs.length := by rw [hz]; exact invA_len _ _
 refine CallA.of Tryz.func257 rfl (by kernel_rfl) (R.go 13 (k17 (fun (x : Nat) => (⟨(frm 16 [(1, .fn 267 [.rptr [AI n, LI xs], .rptr [LI zs]]), (7, AI n), (8, AI (x : Int))]), []⟩ : St)) (fun (x : Nat) => (x ≤ n.toNat) ∧ (∀ i : Nat, i < x → AN xs zs i)) (fun (x : Nat) => n.toNat - x) 0 [1, 7, 8] (some []) ⟨(by omega), (by exact fun i hi => absurd hi (by omega))⟩ ?_))
 rintro x ⟨h3_1, h3_2⟩ R1 N2
 refine R.go 5 (k3 ((x : Int) < n) (fun c4 => ?_) (fun c4 => ?_))
 ·refine R.go 12 (k16 true (hasFlag7_c x n xs zs (by first | omega | (simp <;> omega)) (by first | omega | (simp <;> omega))) (R.go 2 (k4 (bnot (band (xs.getD x 0) (zs.getD x 0)) (shl64 1 (x : Int)) = 0) (fun c5 => ?_) (fun c5 => ?_))))
  ·exact R.go 4 (k19 (.bool false) (by first | (apply congrArg AV.bool; first | exact aB_noN hRel hN8 hz (x := x) (by omega) (by assumption) | exact aB_of hRel hN8 hz fun i hi => (‹∀ i : Nat, i < x → AN xs zs i›) i (by omega)) | (exfalso; omega)))
  refine R.go 3 (k1 ((x : Int) + 1) ?_)
  exact R.go 2 (k18 R1 (N2 (x + 1) [1, 7, 8] none _ (by kernel_rfl) (by kernel_rfl) ⟨(by omega), (by exact below1 (by assumption) (show bnot (band (xs.getD x 0) (zs.getD x 0)) (shl64 1 (x : Int)) = 0 by assumption))⟩ (by show (n.toNat - (x + 1)) < (n.toNat - x); omega)))
 exact R.go 5 (k19 (.bool true) (by first | (apply congrArg AV.bool; first | exact aB_noN hRel hN8 hz (x := x) (by omega) (by assumption) | exact aB_of hRel hN8 hz fun i hi => (‹∀ i : Nat, i < x → AN xs zs i›) i (by omega)) | (exfalso; omega)))
theorem inverse2_c (n : Int) (xs : List Int) (hR : okRl n xs) : CallA Tryz.prog 56 [LI xs] (ownA eI 2 1 (invA xs xs.length)) := by
 have hRel : RelOK n.toNat xs := hR.2.2.2
 have hb0 : 0 ≤ n ∧ n ≤ 30 ∧ (xs.length : Int) = n := ⟨hR.1, hR.2.1, hR.2.2.1⟩
 have hN8 : n.toNat ≤ 30 := by omega
 refine CallA.of Tryz.func56 rfl (by kernel_rfl) (R.go 8 (k15 eI 0 2 8 xs.length xs.length (R.go 10 (k17 ((fun | (i, out) => (⟨(frm 36 [(3, .ref 0), (11, LI xs), (12, AI xs.length), (13, AI (i : Int))]), [rowA eI 2 1 out]⟩ : St) : Nat × (List Int) → St)) (fun | (i, out) => (i ≤ xs.length) ∧ (out = invA xs i)) (fun | (i, out) => xs.length - i) (0, (List.replicate xs.length 0)) [3, 11, 12, 13] none ⟨(by omega), (by rfl)⟩ ?_))))
 rintro ⟨i, out⟩ ⟨h4_1, rfl⟩ R1 N2
 have hol := invA_len xs i
 have hmi := fun h : i < xs.length => hRel.2 i (by omega)
 have hml := mem_le (xs.getD i 0)
 refine R.go 5 (k3 ((i : Int) < (xs.length : Int)) (fun c5 => ?_) (fun c5 => ?_))
 ·refine R.go 6 (k9 eI xs 0 i (i : Int) eI_len ?_)
  have hmm := inM_mono (n' := 61) (by omega) (hmi (by omega))
  refine R.go 7 (k16 true (membersOf_c (xs.getD i 0) (by first | assumption | exact inM61 (by omega) (by omega))).frz (R.go 4 (k17 ((fun | (t, o2) => (⟨(frm 36 [(3, .ref 0), (4, AI (i : Int)), (11, LI xs), (12, AI xs.length), (13, AI (i : Int)), (19, LI (mem (xs.getD i 0))), (20, AI ((mem (xs.getD i 0)).length)), (21, AI (t : Int))]), [rowA eI 2 1 o2]⟩ : St) : Nat × (List Int) → St)) (fun | (t, o2) => (t ≤ (mem (xs.getD i 0)).length) ∧ (o2 = invJ (invA xs i) i ((mem (xs.getD i 0)).take t))) (fun | (t, o2) => (mem (xs.getD i 0)).length - t) (0, (invA xs i)) [3, 4, 11, 12, 13, 19, 20, 21] none ⟨(by omega), (by rfl)⟩ ?_)))
  rintro ⟨t, o2⟩ ⟨h9_1, rfl⟩ R6 N7
  have hol2 : (invJ (invA xs i) i ((mem (xs.getD i 0)).take t)).length = xs.length := by rw [invJ_len, hol]
  refine R.go 5 (k3 ((t : Int) < ((mem (xs.getD i 0)).length : Int)) (fun c10 => ?_) (fun c10 => ?_))
  ·refine R.go 5 (k9 eI (mem (xs.getD i 0)) 0 t (t : Int) eI_len ?_)
   have hjr := mem_lt' (N := n.toNat) (by omega) (hmi (by omega)) (t := t) (by omega)
   refine R.go 6 (k10 0 1 (invJ (invA xs i) i ((mem (xs.getD i 0)).take t)).length ((((mem (xs.getD i 0)).getD t 0)).toNat) ((mem (xs.getD i 0)).getD t 0) ?_ (hji := by omega) (hj := by first | omega | (simp only [List.length_set]; omega) | (simp <;> omega)))
   refine k12 (invJ (invA xs i) i ((mem (xs.getD i 0)).take t)) ((((mem (xs.getD i 0)).getD t 0)).toNat) ?_ (hj := by first | omega | (simp only [List.length_set]; omega) | (simp <;> omega))
   refine R.go 1 (R.shl 1 (i : Int) (by kernel_rfl) (by omega) (by kernel_rfl) (R.go 1 (k10 0 1 (invJ (invA xs i) i ((mem (xs.getD i 0)).take t)).length ((((mem (xs.getD i 0)).getD t 0)).toNat) ((mem (xs.getD i 0)).getD t 0) ?_ (hji := by omega) (hj := by first | omega | (simp only [List.length_set]; omega) | (simp <;> omega)))))
   refine k13 0 2 (invJ (invA xs i) i ((mem (xs.getD i 0)).take t)) ((((mem (xs.getD i 0)).getD t 0)).toNat) (bor ((invJ (invA xs i) i ((mem (xs.getD i 0)).take t)).getD ((((mem (xs.getD i 0)).getD t 0)).toNat) 0) (shl64 1 (i : Int))) ?_ (hj := by first | omega | (simp only [List.length_set]; omega) | (simp <;> omega))
   refine R.go 3 (k1 ((t : Int) + 1) ?_)
   exact R.go 2 (k18 R6 (N7 (t + 1, (invJ (invA xs i) i ((mem (xs.getD i 0)).take t)).set ((((mem (xs.getD i 0)).getD t 0)).toNat) (bor ((invJ (invA xs i) i ((mem (xs.getD i 0)).take t)).getD ((((mem (xs.getD i 0)).getD t 0)).toNat) 0) (shl64 1 (i : Int)))) [3, 4, 11, 12, 13, 19, 20, 21] none _ (by kernel_rfl) (by kernel_rfl) ⟨(by omega), (by exact invJ_snoc (by omega))⟩ (by show ((mem (xs.getD i 0)).length - (t + 1)) < ((mem (xs.getD i 0)).length - t); omega)))
  refine R.go 3 (k1 ((i : Int) + 1) ?_)
  exact R.go 2 (k18 R1 (N2 (i + 1, invJ (invA xs i) i ((mem (xs.getD i 0)).take t)) [3, 11, 12, 13] none _ (by kernel_rfl) (by kernel_rfl) ⟨(by omega), (by rw [invA, List.take_of_length_le (by omega)])⟩ (by show (xs.length - (i + 1)) < (xs.length - i); omega)))
 exact R.go 6 (k19 (ownA eI 2 1 (invA xs i)) (by first | (rw [show i = xs.length by omega]) | (exfalso; omega)))
theorem inverse2G_c (n : Int) (xs zs : List Int) (hR : okRl n xs) (hz : zs = invA xs xs.length) : CallA Tryz.prog 56 [LI xs] (ownA eI 2 1 zs) := by rw [hz]; exact inverse2_c n xs hR
theorem hasFlagR2_c (n : Int) (xs : List Int) (hR : okRl n xs) : CallA Tryz.prog 149 [.agg [AI n, LI xs], AI 0] (.bool (rB n.toNat xs)) := by
 have hRel : RelOK n.toNat xs := hR.2.2.2
 have hb0 : 0 ≤ n ∧ n ≤ 30 ∧ (xs.length : Int) = n := ⟨hR.1, hR.2.1, hR.2.2.1⟩
 have hN8 : n.toNat ≤ 30 := by omega
 obtain ⟨zs, hz⟩ : ∃ zs, zs = invA xs xs.length := ⟨_, rfl⟩
 have hwl := wout_len xs xs.length
 refine CallA.of Tryz.func149 rfl (by kernel_rfl) (R.go 9 (k16 true (inverse2G_c n xs zs hR (by first | rfl | assumption)).frz (R.go 19 (k16 false (everyR2_c n xs hR) ?_))))
 exact R.go 2 (k19 (.bool (rB n.toNat xs)) (by rfl))
theorem hasFlagT2_c (n : Int) (xs : List Int) (hR : okRl n xs) : CallA Tryz.prog 149 [.agg [AI n, LI xs], AI 2] (.bool (tB n.toNat xs)) := by
 have hRel : RelOK n.toNat xs := hR.2.2.2
 have hb0 : 0 ≤ n ∧ n ≤ 30 ∧ (xs.length : Int) = n := ⟨hR.1, hR.2.1, hR.2.2.1⟩
 have hN8 : n.toNat ≤ 30 := by omega
 obtain ⟨zs, hz⟩ : ∃ zs, zs = invA xs xs.length := ⟨_, rfl⟩
 have hwl := wout_len xs xs.length
 refine CallA.of Tryz.func149 rfl (by kernel_rfl) (R.go 9 (k16 true (inverse2G_c n xs zs hR (by first | rfl | assumption)).frz (R.go 31 (k16 true (transitive_c xs (by first | omega | (simp <;> omega))).frz (R.go 2 (k16 true (equalI_c (wout xs xs.length) xs (by first | omega | (simp <;> omega))) ?_))))))
 exact R.go 2 (k19 (.bool (decide ((wout xs xs.length) = xs))) (by first | (apply congrArg AV.bool; exact trW hRel hN8) | (exfalso; omega)))
theorem hasFlagA2_c (n : Int) (xs : List Int) (hR : okRl n xs) : CallA Tryz.prog 149 [.agg [AI n, LI xs], AI 8] (.bool (aB n.toNat xs)) := by
 have hRel : RelOK n.toNat xs := hR.2.2.2
 have hb0 : 0 ≤ n ∧ n ≤ 30 ∧ (xs.length : Int) = n := ⟨hR.1, hR.2.1, hR.2.2.1⟩
 have hN8 : n.toNat ≤ 30 := by omega
 obtain ⟨zs, hz⟩ : ∃ zs, zs = invA xs xs.length := ⟨_, rfl⟩
 have hwl := wout_len xs xs.length
 refine CallA.of Tryz.func149 rfl (by kernel_rfl) (R.go 9 (k16 true (inverse2G_c n xs zs hR (by first | rfl | assumption)).frz (R.go 67 (k16 false (everyA2_c n xs zs hR (by first | rfl | assumption)) ?_))))
 exact R.go 2 (k19 (.bool (aB n.toNat xs)) (by rfl))
theorem frameOf2_c (xs : List Int) : CallA Tryz.prog 91 [LI xs] (.agg [AI (xs.length : Int), LI xs]) := by
 refine CallA.of Tryz.func91 rfl (by kernel_rfl) (R.go 7 (k16 true (size_c xs) ?_))
 exact R.go 4 (k19 (.agg [AI xs.length, LI xs]) (by first | (rfl) | (exfalso; omega)))
theorem l18Low_c (bl : List Int) (m : Int) (hl : bl.length ≤ 60) (hm : InM 61 m) : CallA Tryz.prog 144 [LI bl, AI m] (AI (lowF bl m)) := by
 refine CallA.of Tryz.func144 rfl (by kernel_rfl) (R.go 10 (k17 (fun (x : Nat) => (⟨(frm 25 [(0, LI bl), (1, AI m), (5, AI (x : Int))]), []⟩ : St)) (fun (x : Nat) => (x ≤ bl.length) ∧ (∀ i : Nat, i < x → lowP bl m i = false)) (fun (x : Nat) => bl.length - x) 0 [0, 1, 5] none ⟨(by omega), (by exact fun i hi => absurd hi (by omega))⟩ ?_))
 rintro x ⟨h3_1, h3_2⟩ R1 N2
 refine R.go 8 (k3 ((x : Int) < (bl.length : Int)) (fun c4 => ?_) (fun c4 => ?_))
 ·refine R.go 7 (k16 true (l01Bit_c m (x : Int) (by omega) (by omega)) (R.go 1 ?_))
  by_cases c5 : band (shr64 m (x : Int)) 1 = 1
  ·refine k6 true (dT c5) ?_
   iterate 3 refine R.go 1 (k6 true (dT c5) ?_)
   refine k9 eI bl 0 x (x : Int) eI_len (k6 true (dT c5) ?_)
   iterate 2 refine R.go 1 (k6 true (dT c5) ?_)
   refine R.go 1 (k8 true (dT c5) (R.go 1 (k3 ((bnot m (bl.getD x 0)) = 0) (fun c6 => ?_) (fun c6 => ?_))))
   ·exact R.go 5 (k19 (AI (x : Int)) (by first | (apply congrArg AI; first | exact (lowF_at (by assumption) (low_p hm (by omega) (by assumption) (by assumption)) (by omega)).symm | exact (lowF_none fun i hi => (‹∀ i : Nat, i < x → lowP bl m i = false›) i (by omega)).symm) | (exfalso; omega)))
   refine R.go 4 (k1 ((x : Int) + 1) ?_)
   exact R.go 2 (k18 R1 (N2 (x + 1) [0, 1, 5] none _ (by kernel_rfl) (by kernel_rfl) ⟨(by omega), (by exact below1 (by assumption) (by first | exact low_n1 hm (by omega) (by assumption) | exact low_n2 (by assumption)))⟩ (by show (bl.length - (x + 1)) < (bl.length - x); omega)))
  iterate 7 refine k7 true (dF c5) ?_
  refine k8 false (dF c5) (R.go 6 (k1 ((x : Int) + 1) ?_))
  exact R.go 2 (k18 R1 (N2 (x + 1) [0, 1, 5] none _ (by kernel_rfl) (by kernel_rfl) ⟨(by omega), (by exact below1 (by assumption) (by first | exact low_n1 hm (by omega) (by assumption) | exact low_n2 (by assumption)))⟩ (by show (bl.length - (x + 1)) < (bl.length - x); omega)))
 exact R.go 5 (k19 (AI (-1)) (by first | (apply congrArg AI; first | exact (lowF_at (by assumption) (low_p hm (by omega) (by assumption) (by assumption)) (by omega)).symm | exact (lowF_none fun i hi => (‹∀ i : Nat, i < x → lowP bl m i = false›) i (by omega)).symm) | (exfalso; omega)))
theorem greatest_c (m : Int) (bl : List Int) (hl : bl.length ≤ 30) (hm : InM bl.length m) : CallA Tryz.prog 54 [AI m, LI bl] (.tup [AI (lowV bl m), .bool (lowB bl m)]) := by
 have hml := mem_le m
 have hm61 := inM_mono (n' := 61) (by omega) hm
 have hmt := fun (t : Nat) (ht : t < (mem m).length) => mem_lt' (N := bl.length) (by omega) hm ht
 refine CallA.of Tryz.func54 rfl (by kernel_rfl) (R.go 9 (k16 true (membersOf_c m (by first | assumption | exact inM61 (by omega) (by omega))).frz (R.go 4 (k17 (fun (t : Nat) => (⟨(frm 23 [(0, AI m), (1, LI bl), (9, LI (mem m)), (10, AI ((mem m).length)), (11, AI (t : Int))]), []⟩ : St)) (fun (t : Nat) => (t ≤ (mem m).length) ∧ (∀ i : Nat, i < t → ¬ bnot m (bl.getD ((mem m).getD i 0).toNat 0) = 0)) (fun (t : Nat) => (mem m).length - t) 0 [0, 1, 9, 10, 11] none ⟨(by omega), (by exact fun i hi => absurd hi (by omega))⟩ ?_))))
 rintro t ⟨h3_1, h3_2⟩ R1 N2
 refine R.go 5 (k3 ((t : Int) < ((mem m).length : Int)) (fun c4 => ?_) (fun c4 => ?_))
 ·have hmt1 := hmt t (by omega)
  refine R.go 5 (k9 eI (mem m) 0 t (t : Int) eI_len (R.go 8 (k9 eI bl 0 ((((mem m).getD t 0)).toNat) ((mem m).getD t 0) eI_len ?_ (hji := by omega))))
  refine R.go 1 (k16 true (within_c m (bl.getD ((((mem m).getD t 0)).toNat) 0)) (R.go 1 (k3 (bnot m (bl.getD ((((mem m).getD t 0)).toNat) 0) = 0) (fun c5 => ?_) (fun c5 => ?_))))
  ·exact R.go 6 (k19 (.tup [AI ((mem m).getD t 0), .bool true]) (by first | (first | exact gr_tup (gr_yes (t := t) (by omega) hm (by omega) (by assumption) (by assumption)) (by omega) | exact gr_tup0 (gr_end (t := t) (by omega) hm (by omega) (by assumption))) | (exfalso; omega)))
  refine R.go 3 (k1 ((t : Int) + 1) ?_)
  exact R.go 2 (k18 R1 (N2 (t + 1) [0, 1, 9, 10, 11] none _ (by kernel_rfl) (by kernel_rfl) ⟨(by omega), (by exact below1 (by assumption) (by assumption))⟩ (by show ((mem m).length - (t + 1)) < ((mem m).length - t); omega)))
 exact R.go 6 (k19 (.tup [AI 0, .bool false]) (by first | (first | exact gr_tup (gr_yes (t := t) (by omega) hm (by omega) (by assumption) (by assumption)) (by omega) | exact gr_tup0 (gr_end (t := t) (by omega) hm (by omega) (by assumption))) | (exfalso; omega)))
theorem l18Partial_c (xs : List Int) (hl : xs.length ≤ 30) (hR : RelOK xs.length xs) : CallA Tryz.prog 242 [LI xs] (.bool (paB xs.length xs)) := by
 have hRi := fun (i : Nat) (hi : i < xs.length) => hR.2 i hi
 refine CallA.of Tryz.func242 rfl (by kernel_rfl) (R.go 10 (k17 (fun (x : Nat) => (⟨(frm 50 [(0, LI xs), (3, AI (x : Int))]), []⟩ : St)) (fun (x : Nat) => (x ≤ xs.length) ∧ (∀ i : Nat, i < x → tb (xs.getD i 0) i = true ∧ img xs (xs.getD i 0) xs.length = xs.getD i 0 ∧ ∀ j : Nat, j < i → ¬ (tb (xs.getD i 0) j = true ∧ tb (xs.getD j 0) i = true))) (fun (x : Nat) => xs.length - x) 0 [0, 3] none ⟨(by omega), (by exact fun i hi => absurd hi (by omega))⟩ ?_))
 rintro x ⟨h3_1, h3_2⟩ R1 N2
 refine R.go 8 (k3 ((x : Int) < (xs.length : Int)) (fun c4 => ?_) (fun c4 => ?_))
 ·refine R.go 8 (k9 eI xs 0 x (x : Int) eI_len (R.go 2 (k16 true (l01Bit_c (xs.getD x 0) (x : Int) (by omega) (by omega)) (R.go 2 ?_))))
  by_cases c5 : band (shr64 (xs.getD x 0) (x : Int)) 1 = 1
  ·refine k6 false (nF c5) ?_
   iterate 3 refine R.go 1 (k6 false (nF c5) ?_)
   refine k9 eI xs 0 x (x : Int) eI_len (k6 false (nF c5) (R.go 1 (k6 false (nF c5) (k16 true (l01Image_c xs (xs.getD x 0) (by first | omega | (simp <;> omega))) (k6 false (nF c5) ?_)))))
   iterate 2 refine R.go 1 (k6 false (nF c5) ?_)
   refine k9 eI xs 0 x (x : Int) eI_len (k6 false (nF c5) (R.go 1 (k6 false (nF c5) (R.go 1 (k8 false (nF c5) (R.go 1 (k4 ((img xs (xs.getD x 0) xs.length) = (xs.getD x 0)) (fun c6 => ?_) (fun c6 => ?_))))))))
   ·exact R.go 4 (k19 (.bool false) (by first | (apply congrArg AV.bool; first | exact pa_no1 (i := x) (by omega) (bitF hR hl (by omega) (by omega) (by assumption)) | exact pa_no2 hR hl (i := x) (by omega) (by assumption) | exact pa_no3 (i := x) (j := y) (by omega) (by omega) (bitT hR hl (by omega) (by omega) (by assumption)) (bitT hR hl (by omega) (by omega) (by assumption)) | exact pa_yes hR hl fun i hi => (‹∀ i : Nat, i < x → tb (xs.getD i 0) i = true ∧ img xs (xs.getD i 0) xs.length = xs.getD i 0 ∧ ∀ j : Nat, j < i → ¬ (tb (xs.getD i 0) j = true ∧ tb (xs.getD j 0) i = true)›) i (by omega)) | (exfalso; omega)))
   refine R.go 6 (k17 (fun (y : Nat) => (⟨(frm 50 [(0, LI xs), (3, AI (x : Int)), (4, AI (y : Int))]), []⟩ : St)) (fun (y : Nat) => (y ≤ x) ∧ (∀ j : Nat, j < y → ¬ (tb (xs.getD x 0) j = true ∧ tb (xs.getD j 0) x = true))) (fun (y : Nat) => x - y) 0 [0, 3, 4] none ⟨(by omega), (by exact fun i hi => absurd hi (by omega))⟩ ?_)
   rintro y ⟨h9_1, h9_2⟩ R7 N8
   refine R.go 7 (k3 ((y : Int) < (x : Int)) (fun c10 => ?_) (fun c10 => ?_))
   ·refine R.go 7 (k9 eI xs 0 x (x : Int) eI_len (R.go 2 (k16 true (l01Bit_c (xs.getD x 0) (y : Int) (by omega) (by omega)) (R.go 1 ?_))))
    by_cases c11 : band (shr64 (xs.getD x 0) (y : Int)) 1 = 1
    ·refine k6 true (dT c11) ?_
     iterate 2 refine R.go 1 (k6 true (dT c11) ?_)
     refine k9 eI xs 0 y (y : Int) eI_len (k6 true (dT c11) ?_)
     iterate 2 refine R.go 1 (k6 true (dT c11) ?_)
     refine k16 true (l01Bit_c (xs.getD y 0) (x : Int) (by omega) (by omega)) (k8 true (dT c11) (R.go 1 (k3 (band (shr64 (xs.getD y 0) (x : Int)) 1 = 1) (fun c12 => ?_) (fun c12 => ?_))))
     ·exact R.go 4 (k19 (.bool false) (by first | (apply congrArg AV.bool; first | exact pa_no1 (i := x) (by omega) (bitF hR hl (by omega) (by omega) (by assumption)) | exact pa_no2 hR hl (i := x) (by omega) (by assumption) | exact pa_no3 (i := x) (j := y) (by omega) (by omega) (bitT hR hl (by omega) (by omega) (by assumption)) (bitT hR hl (by omega) (by omega) (by assumption)) | exact pa_yes hR hl fun i hi => (‹∀ i : Nat, i < x → tb (xs.getD i 0) i = true ∧ img xs (xs.getD i 0) xs.length = xs.getD i 0 ∧ ∀ j : Nat, j < i → ¬ (tb (xs.getD i 0) j = true ∧ tb (xs.getD j 0) i = true)›) i (by omega)) | (exfalso; omega)))
     refine R.go 4 (k1 ((y : Int) + 1) ?_)
     exact R.go 2 (k18 R7 (N8 (y + 1) [0, 3, 4] none _ (by kernel_rfl) (by kernel_rfl) ⟨(by omega), (by exact below1 (by assumption) (by first | exact fun a => absurd a.1 (bitF hR hl (by omega) (by omega) (by assumption)) | exact fun a => absurd a.2 (bitF hR hl (by omega) (by omega) (by assumption))))⟩ (by show (x - (y + 1)) < (x - y); omega)))
    iterate 6 refine k7 true (dF c11) ?_
    refine k8 false (dF c11) (R.go 6 (k1 ((y : Int) + 1) ?_))
    exact R.go 2 (k18 R7 (N8 (y + 1) [0, 3, 4] none _ (by kernel_rfl) (by kernel_rfl) ⟨(by omega), (by exact below1 (by assumption) (by first | exact fun a => absurd a.1 (bitF hR hl (by omega) (by omega) (by assumption)) | exact fun a => absurd a.2 (bitF hR hl (by omega) (by omega) (by assumption))))⟩ (by show (x - (y + 1)) < (x - y); omega)))
   refine R.go 4 (k1 ((x : Int) + 1) ?_)
   exact R.go 2 (k18 R1 (N2 (x + 1) [0, 3] none _ (by kernel_rfl) (by kernel_rfl) ⟨(by omega), (by exact below1 (by assumption) ⟨bitT hR hl (by omega) (by omega) (by assumption), by assumption, fun j hj => (‹∀ j : Nat, j < y → ¬ (tb (xs.getD x 0) j = true ∧ tb (xs.getD j 0) x = true)›) j (by omega)⟩)⟩ (by show (xs.length - (x + 1)) < (xs.length - x); omega)))
  iterate 11 refine k7 false (nT c5) ?_
  refine k8 true (nT c5) ?_
  exact R.go 6 (k19 (.bool false) (by first | (apply congrArg AV.bool; first | exact pa_no1 (i := x) (by omega) (bitF hR hl (by omega) (by omega) (by assumption)) | exact pa_no2 hR hl (i := x) (by omega) (by assumption) | exact pa_no3 (i := x) (j := y) (by omega) (by omega) (bitT hR hl (by omega) (by omega) (by assumption)) (bitT hR hl (by omega) (by omega) (by assumption)) | exact pa_yes hR hl fun i hi => (‹∀ i : Nat, i < x → tb (xs.getD i 0) i = true ∧ img xs (xs.getD i 0) xs.length = xs.getD i 0 ∧ ∀ j : Nat, j < i → ¬ (tb (xs.getD i 0) j = true ∧ tb (xs.getD j 0) i = true)›) i (by omega)) | (exfalso; omega)))
 exact R.go 5 (k19 (.bool true) (by first | (apply congrArg AV.bool; first | exact pa_no1 (i := x) (by omega) (bitF hR hl (by omega) (by omega) (by assumption)) | exact pa_no2 hR hl (i := x) (by omega) (by assumption) | exact pa_no3 (i := x) (j := y) (by omega) (by omega) (bitT hR hl (by omega) (by omega) (by assumption)) (bitT hR hl (by omega) (by omega) (by assumption)) | exact pa_yes hR hl fun i hi => (‹∀ i : Nat, i < x → tb (xs.getD i 0) i = true ∧ img xs (xs.getD i 0) xs.length = xs.getD i 0 ∧ ∀ j : Nat, j < i → ¬ (tb (xs.getD i 0) j = true ∧ tb (xs.getD j 0) i = true)›) i (by omega)) | (exfalso; omega)))
theorem l01Inverse_c (xs : List Int) (hl : xs.length ≤ 30) (hR : RelOK xs.length xs) : CallA Tryz.prog 145 [LI xs] (ownA eI 2 1 (invA xs xs.length)) := by
 have hRi := fun (i : Nat) (hi : i < xs.length) => hR.2 i hi
 refine CallA.of Tryz.func145 rfl (by kernel_rfl) (R.go 8 (k15 eI 0 2 8 xs.length xs.length (R.go 8 (k17 ((fun | (i, out) => (⟨(frm 38 [(0, LI xs), (3, .ref 0), (4, AI (i : Int))]), [rowA eI 2 1 out]⟩ : St) : Nat × (List Int) → St)) (fun | (i, out) => (i ≤ xs.length) ∧ (out = invS xs i)) (fun | (i, out) => xs.length - i) (0, (List.replicate xs.length 0)) [0, 3, 4] none ⟨(by omega), (by exact invS_zero)⟩ ?_))))
 rintro ⟨i, out⟩ ⟨h4_1, rfl⟩ R1 N2
 have hol := invS_len xs i
 refine R.go 8 (k3 ((i : Int) < (xs.length : Int)) (fun c5 => ?_) (fun c5 => ?_))
 ·refine R.go 8 (k17 ((fun | (k, o2) => (⟨(frm 38 [(0, LI xs), (3, .ref 0), (4, AI (i : Int)), (5, AI (k : Int))]), [rowA eI 2 1 o2]⟩ : St) : Nat × (List Int) → St)) (fun | (k, o2) => (k ≤ xs.length) ∧ (o2 = invW xs i k)) (fun | (k, o2) => xs.length - k) (0, (invS xs i)) [0, 3, 4, 5] none ⟨(by omega), (by exact invW_zero (by omega))⟩ ?_)
  rintro ⟨k, o2⟩ ⟨h9_1, rfl⟩ R6 N7
  have hol2 := invW_len xs i k
  refine R.go 8 (k3 ((k : Int) < (xs.length : Int)) (fun c10 => ?_) (fun c10 => ?_))
  ·refine R.go 7 (k9 eI xs 0 k (k : Int) eI_len (R.go 2 (k16 true (l01Bit_c (xs.getD k 0) (i : Int) (by omega) (by omega)) (R.go 1 (k3 (band (shr64 (xs.getD k 0) (i : Int)) 1 = 1) (fun c11 => ?_) (fun c11 => ?_))))))
   ·refine R.go 5 (k10 0 1 (invW xs i k).length i (i : Int) (k12 (invW xs i k) i (R.go 1 (k16 true (l01One_c (k : Int) (by omega) (by omega)) (R.go 1 (k10 0 1 (invW xs i k).length i (i : Int) (k13 0 2 (invW xs i k) i (bor ((invW xs i k).getD i 0) (shl64 1 (k : Int))) (R.go 4 (k1 ((k : Int) + 1) ?_)))))))))
    exact R.go 2 (k18 R6 (N7 (k + 1, (invW xs i k).set i (bor ((invW xs i k).getD i 0) (shl64 1 (k : Int)))) [0, 3, 4, 5] none _ (by kernel_rfl) (by kernel_rfl) ⟨(by omega), (by first | exact invW_yes (by omega) (bitT hR hl (by omega) (by omega) (by assumption)) | exact invW_no (bitF hR hl (by omega) (by omega) (by assumption)))⟩ (by show (xs.length - (k + 1)) < (xs.length - k); omega)))
   refine R.go 4 (k1 ((k : Int) + 1) ?_)
   exact R.go 2 (k18 R6 (N7 (k + 1, invW xs i k) [0, 3, 4, 5] none _ (by kernel_rfl) (by kernel_rfl) ⟨(by omega), (by first | exact invW_yes (by omega) (bitT hR hl (by omega) (by omega) (by assumption)) | exact invW_no (bitF hR hl (by omega) (by omega) (by assumption)))⟩ (by show (xs.length - (k + 1)) < (xs.length - k); omega)))
  refine R.go 4 (k1 ((i : Int) + 1) ?_)
  exact R.go 2 (k18 R1 (N2 (i + 1, invW xs i k) [0, 3, 4] none _ (by kernel_rfl) (by kernel_rfl) ⟨(by omega), (by exact invW_end (by omega) (by omega))⟩ (by show (xs.length - (i + 1)) < (xs.length - i); omega)))
 exact R.go 6 (k19 (ownA eI 2 1 (invS xs i)) (by first | (apply congrArg (ownA eI _ 1); rw [show i = xs.length by omega]; exact invS_eq hR hl) | (exfalso; omega)))
end Go.Proofs.YtjllngcefoohpaaGreat

/-! The machine's rules: loops over functions. -/
namespace Go.Abs
open Go.RowKit
theorem HRel.extend0 {w w' : World} {Z : Nat → Prop} {B : Nat} {μ : List Value} {hp : List AObj} {u : Value} {o : AObj} (h : HRel w Z B μ hp)
  (hb : Below w.heap.size w w') (hnew : ObjRel w' Z (μ ++ [u]) B u o) (hbl : blk u = none) (hone : u.oneCell' = true) : HRel w' Z B (μ ++ [u]) (hp ++ [o]) := by
 have hold : ∀ (i : Nat) (x : Value), μ[i]? = some x → (μ ++ [u])[i]? = some x := fun i x hx => by
  rw [List.getElem?_append_left (List.getElem?_eq_some_iff.1 hx).1]; exact hx
 have hbk : ∀ (i : Nat) oi ui g, hp[i]? = some oi → oi.alive = true → μ[i]? = some ui → blk ui = some g → g < w.heap.size := fun i oi ui g h1 h2 h3 h4 => ((h.obj i oi ui h1 h3).blk_ge h2 h4).2
 have split : ∀ (i : Nat) oi ui, (hp ++ [o])[i]? = some oi → (μ ++ [u])[i]? = some ui → (hp[i]? = some oi ∧ μ[i]? = some ui) ∨ (i = hp.length ∧ oi = o ∧ ui = u) := by
  intro i oi ui h1 h2
  rcases Nat.lt_trichotomy i hp.length with hi | hi | hi
  ·rw [List.getElem?_append_left hi] at h1
   rw [List.getElem?_append_left (by rw [h.len]; exact hi)] at h2
   exact .inl ⟨h1, h2⟩
  ·subst hi
   rw [List.getElem?_append_right (Nat.le_refl _)] at h1
   rw [List.getElem?_append_right (by rw [h.len]; exact Nat.le_refl _), h.len] at h2
   simp at h1 h2
   exact .inr ⟨rfl, h1.symm, h2.symm⟩
  ·rw [List.getElem?_eq_none (by simp; omega)] at h1
   cases h1
 refine ⟨by simp [h.len], fun i oi ui g h1 ha h2 hg => ?_, fun i x hx => ?_, fun i oi ui h1 h2 => ?_, fun i j oi oj ui uj g hne h1 h2 a1 a2 m1 m2 b1 b2 => ?_⟩
 ·rcases split i oi ui h1 h2 with ⟨e1, e2⟩ | ⟨_, rfl, rfl⟩
  ·exact h.zone i oi ui g e1 ha e2 hg
  ·rw [hbl] at hg; cases hg
 ·rcases Nat.lt_or_ge i μ.length with hi | hi
  ·rw [List.getElem?_append_left hi] at hx
   exact h.one i x hx
  ·rw [List.getElem?_append_right hi] at hx
   have : x = u := by
    rcases Nat.eq_zero_or_pos (i - μ.length) with h0 | h0
    ·rw [h0] at hx; simpa using hx.symm
    ·rw [List.getElem?_eq_none (by simp; omega)] at hx; cases hx
   subst this
   exact hone
 ·rcases split i oi ui h1 h2 with ⟨e1, e2⟩ | ⟨_, rfl, rfl⟩
  ·cases ho : oi.alive with
   | true => exact (h.obj i oi ui e1 e2).keep (fun b hb1 _ => hb.block b hb1) hold (fun g hg => hb.block g (hbk i oi ui g e1 ho e2 hg))
   | false => exact (h.obj i oi ui e1 e2).keep_dead (fun b hb1 _ => hb.block b hb1) hold ho
  ·exact hnew
 ·rcases split i oi ui h1 m1 with ⟨e1, e2⟩ | ⟨_, rfl, rfl⟩ <;> rcases split j oj uj h2 m2 with ⟨e3, e4⟩ | ⟨_, rfl, rfl⟩
  ·exact h.sep i j oi oj ui uj g hne e1 e3 a1 a2 e2 e4 b1 b2
  ·rw [hbl] at b2; cases b2
  ·rw [hbl] at b1; cases b1
  ·rw [hbl] at b1; cases b1
theorem HRel.turn {w : World} {Z : Nat → Prop} {B : Nat} {μ : List Value} {hp : List AObj} {i r : Nat} {o o' : Obj} {x' : Inert} (h : HRel w Z B μ hp) (hr : w.heap[r]? = some o) (hn : o.isCells = false)
  (hi : ∀ j x, hp[j]? = some (.inert x) → j = i) (hnew : ∀ u, μ[i]? = some u → InertRel (w.putObj r o') Z B u x') : HRel (w.putObj r o') Z B μ (hp.set i (.inert x')) := by
 have get : ∀ (j : Nat) oj, (hp.set i (.inert x'))[j]? = some oj → (j = i ∧ oj = .inert x') ∨ (hp[j]? = some oj ∧ ∀ x, oj ≠ .inert x) := by
  intro j oj hj
  by_cases hji : j = i
  ·subst hji
   rcases Nat.lt_or_ge j hp.length with hlt | hge
   ·rw [List.getElem?_set_self hlt] at hj; simp at hj; exact .inl ⟨rfl, hj.symm⟩
   ·rw [List.getElem?_eq_none (by simpa using hge)] at hj; cases hj
  ·rw [List.getElem?_set_ne (Ne.symm hji)] at hj
   exact .inr ⟨hj, fun x e => hji (hi j x (by rw [hj, e]))⟩
 refine ⟨by simpa using h.len, fun j o u g h1 ha h2 hg => ?_, h.one, fun j oj u h1 h2 => ?_, fun j k oj ok uj uk g hne h1 h2 a1 a2 m1 m2 b1 b2 => ?_⟩
 ·rcases get j o h1 with ⟨rfl, rfl⟩ | ⟨h1, _⟩
  ·have := (hnew u h2).blk
   rw [this] at hg; cases hg
  ·exact h.zone j o u g h1 ha h2 hg
 ·rcases get j oj h1 with ⟨rfl, rfl⟩ | ⟨h1, hx⟩
  ·exact hnew u h2
  ·exact (h.obj j oj u h1 h2).turn hr hn hx
 ·rcases get j oj h1 with ⟨rfl, rfl⟩ | ⟨h1, _⟩
  ·rw [(hnew uj m1).blk] at b1; cases b1
  ·rcases get k ok h2 with ⟨rfl, rfl⟩ | ⟨h2, _⟩
   ·rw [(hnew uk m2).blk] at b2; cases b2
   ·exact h.sep j k oj ok uj uk g hne h1 h2 a1 a2 m1 m2 b1 b2
theorem oneInert_at {hp : List AObj} (h : oneInert hp = true) {i : Nat} {y : Inert} (hi : hp[i]? = some (.inert y)) : ∀ j x, hp[j]? = some (.inert x) → j = i := fun j x hj => oneInert_sound h j i x y hj hi
def lstAt (i : Nat) (hp : List AObj) : Option (Nat × LSt) :=
 match hp[i]? with
 | some (.inert (.lrec D s _ _ _ _)) => if oneInert hp then some (D, s) else none
 | _ => none
theorem lstAt_parts {i D : Nat} {s : LSt} {hp : List AObj} (h : lstAt i hp = some (D, s)) : (∃ us ps asg bd, hp[i]? = some (.inert (.lrec D s us ps asg bd))) ∧ oneInert hp = true := by
 unfold lstAt at h
 split at h
 ·rename_i D' s' us ps asg bd hi
  split at h
  ·cases h
   exact ⟨⟨us, ps, asg, bd, hi⟩, by assumption⟩
  ·cases h
 ·cases h
def Inert.to (s : LSt) : Inert → Inert
 | .lrec D _ us ps asg bd => .lrec D s us ps asg bd
 | x => x
def setL (i : Nat) (s : LSt) (hp : List AObj) : List AObj :=
 match hp[i]? with
 | some (.inert x) => hp.set i (.inert (x.to s))
 | _ => hp
def Inert.over : Inert → Inert
 | .lrec D _ _ _ _ _ => .mark D
 | x => x
def setM (i : Nat) (hp : List AObj) : List AObj :=
 match hp[i]? with
 | some (.inert x) => hp.set i (.inert x.over)
 | _ => hp
theorem HRel.turnL {w : World} {Z : Nat → Prop} {B D i : Nat} {μ : List Value} {hp : List AObj} {s : LSt} {us : List Value} {ps : Array Tmp} {asg bd : Code} (h : HRel w Z B μ hp) (h1 : oneInert hp = true)
  (hi : hp[i]? = some (.inert (.lrec D s us ps asg bd))) :
  ∃ r : Loop, w.heap[D + 1]? = some (.loop r) ∧ r.state = s.state ∧ r.pending = s.pend ∧ r.tmps = us.toArray ∧ r.params = ps ∧ r.assign = asg ∧ r.body = bd ∧ B ≤ D ∧ w.heap[D]? = some (.deferred (some [])) ∧ μ[i]? = some (.func (.yield (D + 1)) #[] #[]) ∧
   (∀ s' : LSt, HRel (w.putObj (D + 1) (.loop { r with state := s'.state, pending := s'.pend })) Z B μ (setL i s' hp)) ∧
   (∀ o', HRel (w.putObj (D + 1) o') Z B μ (setM i hp)) := by
 have hil : i < μ.length := by rw [h.len]; exact (List.getElem?_eq_some_iff.1 hi).1
 obtain ⟨u, hu⟩ : ∃ u, μ[i]? = some u := ⟨_, List.getElem?_eq_getElem hil⟩
 obtain ⟨fn, rfl, ⟨⟨hB, hz⟩, hD⟩, hz2, hl⟩ := h.obj i _ u hi hu
 refine ⟨_, hl, rfl, rfl, rfl, rfl, rfl, rfl, hB, hD, hu, fun s' => ?_, fun o' => ?_⟩
 ·unfold setL
  rw [hi]
  refine h.turn hl rfl (oneInert_at h1 hi) fun u' hu' => ?_
  rw [hu] at hu'
  cases hu'
  exact ⟨fn, rfl, ⟨⟨hB, hz⟩, (World.putObj_heap_other (by omega)).trans hD⟩, hz2, World.putObj_heap_same (Array.getElem?_eq_some_iff.1 hl).1⟩
 ·unfold setM
  rw [hi]
  refine h.turn hl rfl (oneInert_at h1 hi) fun u' hu' => ?_
  rw [hu] at hu'
  cases hu'
  exact ⟨rfl, ⟨hB, hz⟩, (World.putObj_heap_other (by omega)).trans hD⟩
def setPs : List Tmp → List AV → List AV → List AV
 | p :: ps, v :: vs, fr => setPs ps vs (fr.set p v)
 | _, _, fr => fr
theorem setPs_rel {w : World} {Z : Nat → Prop} {μ : List Value} : ∀ {ps : List Tmp} {avs : List AV} {vs : List Value} {fr : List AV} {tmps : Array Value}, RelL w Z μ avs vs → RelL w Z μ fr tmps.toList → ps.length = avs.length →
  RelL w Z μ (setPs ps avs fr) ((ps.zip vs).foldl (fun t (x : Tmp × Value) => t.setIfInBounds x.1 x.2) tmps).toList
 | [], [], vs, fr, tmps, _, h, _ => by simpa [setPs] using h
 | p :: ps, c :: cs, vs, fr, tmps, hv, h, hl => by
  rw [RelL] at hv
  obtain ⟨x, xs, rfl, h1, h2⟩ := hv
  simp only [setPs, List.zip_cons_cons, List.foldl_cons]
  refine setPs_rel h2 ?_ (by simpa using hl)
  rw [Array.toList_setIfInBounds]
  exact h.set p h1
 | [], _ :: _, _, _, _, _, _, hl => by simp at hl
 | _ :: _, [], _, _, _, _, _, hl => by simp at hl

def rfAt (m : M) : Option (FuncId × List AV) :=
 match m.ks with
 | .code (.rangeFunc g _ _ _) :: _ => match ev m.st.fr g with
  | .fn f caps => if noMark m.st.hp then some (f, caps) else none
  | _ => none
 | _ => none
def recM (D : Nat) (us : List Value) (m : M) : AObj :=
 match m.ks with
 | .code (.rangeFunc _ ps asg bd) :: _ => .inert (.lrec D .ready us ps asg bd)
 | _ => .dead
def afterM (j : Option Code) (m : M) (fr : List AV) (hp : List AObj) : M :=
 match m.ks with
 | .code (.rangeFunc _ _ _ _) :: ks => match j with
  | none => ⟨ks, ⟨fr, hp⟩⟩
  | some c => ⟨.code c :: ks, ⟨fr, hp⟩⟩
 | _ => m
def rangeQ (P : Program) (fn : Func) (m : M) (n D : Nat) (us : List Value) (Q : Exit → St → Prop) : Exit → St → Prop := fun e st' =>
  (e = .normal ∨ e = .ret) ∧ ∃ res fr' s, resIn P fn st' = some res ∧ frameAt n st' = some (us, fr') ∧ lstAt (n + 1) st'.hp = some (D, s) ∧
    (match s with
     | .busy => False
     | s => Runs none P (afterM s.pend m fr' (setM (n + 1) (st'.hp.set n .dead))) Q)
section
variable {P : Program} {m : M} {Q : Exit → St → Prop}
theorem oneInert_dead : ∀ {hp : List AObj} (n : Nat), oneInert hp = true → oneInert (hp.set n .dead) = true
 | [], n, h => by simpa using h
 | o :: hp, 0, h => by
  unfold oneInert at h
  simp only [List.set_cons_zero, oneInert, isInert, Bool.false_eq_true, if_false]
  split at h
  ·rename_i ho
   clear ho
   induction hp with
   | nil => rfl
   | cons o hp ih =>
    simp only [List.all_cons, Bool.and_eq_true] at h
    simp only [oneInert]
    rw [if_neg (by simpa using h.1)]
    exact ih h.2
  ·exact h
 | o :: hp, n + 1, h => by
  unfold oneInert at h
  simp only [List.set_cons_succ, oneInert]
  split at h
  ·rename_i ho
   rw [if_pos ho, List.all_eq_true]
   intro o' ho'
   rcases List.mem_or_eq_of_mem_set ho' with h1 | rfl
   ·exact List.all_eq_true.1 h o' h1
   ·rfl
  ·rename_i ho
   rw [if_neg ho]
   exact oneInert_dead n h
theorem R.range {f : FuncId} {fn : Func} {c : Code} {caps : List AV} (hf : P.funcs[f]? = some fn) (hb : fn.body = some c) (hnm : (fn.name == "runtime.NumGoroutine") = false) (h : rfAt m = some (f, caps))
  (h' : ∀ (D : Nat) (us : List Value), Runs none P ⟨[.code c], ⟨frameOf fn.ntmps (.ref (m.st.hp.length + 1) :: caps), m.st.hp ++ [.frame us m.st.fr] ++ [recM D us m]⟩⟩ (rangeQ P fn m m.st.hp.length D us Q)) : Runs none P m Q := by
 have hen := enters_of hf hnm (by rw [hb]; rfl)
 obtain ⟨ks, ⟨fr, hp⟩⟩ := m
 unfold rfAt at h
 simp only at h
 rw [runs_iff]
 split at h
 ·rename_i g ps asg bd ks'
  split at h
  ·rename_i f' caps' hg
   split at h
   ·rename_i hnmk
    cases h
    simp only [recM] at h'
    simp only [RunsK]
    intro Z0 w0 a w hS
    obtain ⟨μ, F, hFb, hH, hF, hd, hbel⟩ := hS
    have hd0 := hd.none hnmk
    refine wpIn_rangeFunc ?_
    intro fnid _
    have hgv := hg ▸ ev_rel hF g
    simp only [Rel] at hgv
    obtain ⟨cv, hgv, hcr⟩ := hgv
    obtain ⟨rec, hrec⟩ : ∃ rec : Loop, rec = { state := .ready, pending := none, fn := fnid, tmps := a.tmps, params := ps, assign := asg, body := bd, defers := w.heap.size } := ⟨_, rfl⟩
    obtain ⟨W1, hW1⟩ : ∃ W1, (w.alloc (.deferred (some []))).alloc (.loop rec) = W1 := ⟨_, rfl⟩
    have hL1 : W1.heap[w.heap.size + 1]? = some (.loop rec) := by
     rw [← hW1]; have := World.alloc_heap_new (w.alloc (.deferred (some []))) (.loop rec); rwa [World.size_alloc] at this
    have hK1 : W1.heap[w.heap.size]? = some (.deferred (some [])) := by
     rw [← hW1]; exact (Below.heap_alloc _ _ _ (by simp)).trans (World.alloc_heap_new w _)
    have hsz : W1.heap.size = w.heap.size + 2 := by rw [← hW1]; simp
    have hb1 : Below w.heap.size w W1 := by
     rw [← hW1]; exact ((Below.refl _ w).alloc (Nat.le_refl _) _).alloc (by simp) _
    refine ⟨w.heap.size + 1, [{ target := .collected w.heap.size, args := #[] }], W1, { target := .fn (.func f) cv.toArray, args := #[.func (.yield (w.heap.size + 1)) #[] #[]] }, W1, f,
     #[.func (.yield (w.heap.size + 1)) #[] #[]] ++ cv.toArray, W1, ?_, ?_, fun _ _ => trivial, ?_, fun hd => absurd hd (by simp [Fc, Fence.wide]), ?_⟩
    ·rw [← hW1, hrec]; exact run_enterLoop_outer _ _ _ _ _
    ·simp only [resolve, hgv]
     simp [go_sem]
    ·simp [invoke, go_sem, hen _ W1]
    ·
     have hrun := h' w.heap.size a.tmps.toList
     simp only [runs_iff, RunsK] at hrun
     have hFb2 : ∀ b, (F b ∨ b = w.heap.size ∨ b = w.heap.size + 1) → w0.heap.size ≤ b ∧ b < W1.heap.size := fun b hb => by
      have hB := hbel.size
      rcases hb with hb | rfl | rfl
      ·have := hFb b hb; omega
      ·omega
      ·omega
     have hz : ∀ b, b < w.heap.size → ¬ Zone Z0 F w0.heap.size b → ¬ Zone Z0 (fun b => F b ∨ b = w.heap.size ∨ b = w.heap.size + 1) w0.heap.size b := fun b _ hb => zone_more (F' := fun b => b = w.heap.size ∨ b = w.heap.size + 1) b hb
     have hzz : ∀ b, b < w.heap.size → Zone Z0 F w0.heap.size b → Zone Z0 (fun b => F b ∨ b = w.heap.size ∨ b = w.heap.size + 1) w0.heap.size b := fun b hb h => h.elim .inl fun h2 => .inr ⟨h2.1, fun hf => hf.elim h2.2 (fun h3 => by omega)⟩
     have hnz : ∀ b, w.heap.size ≤ b → b ≤ w.heap.size + 1 → ¬ Zone Z0 (fun b => F b ∨ b = w.heap.size ∨ b = w.heap.size + 1) w0.heap.size b := fun b h1 h2 h => by
      have hB := hbel.size
      rcases h with h | h
      ·omega
      ·exact h.2 (.inr (by omega))
     have hH1 := (hH.weak hz hzz).extend0 (u := .bool false) (o := .frame a.tmps.toList fr) (Below.refl _ _) (RelL.keep (w := w) (fun _ _ _ => rfl) (fun i u hu => append_old i u hu) (hF.weak hz)) rfl rfl
     have hH2 := hH1.extend0 (u := .func (.yield (w.heap.size + 1)) #[] #[]) (o := .inert (.lrec w.heap.size .ready a.tmps.toList ps asg bd)) hb1
      ⟨fnid, rfl, ⟨⟨hbel.size, hnz _ (Nat.le_refl _) (by omega)⟩, hK1⟩, hnz _ (by omega) (Nat.le_refl _), by rw [hL1, hrec]; rfl⟩ rfl rfl
     have hlen := hcr.length
     have hkeep : ∀ {cs : List AV} {vs : List Value}, RelL w (Zone Z0 F w0.heap.size) μ cs vs → RelL W1 (Zone Z0 (fun b => F b ∨ b = w.heap.size ∨ b = w.heap.size + 1) w0.heap.size) (μ ++ [.bool false] ++ [.func (.yield (w.heap.size + 1)) #[] #[]]) cs vs := fun h =>
      RelL.keep (w := w) (fun b hb _ => hb1.block b hb) (fun i u hu => append_old i u (append_old i u hu)) (h.weak hz)
     have hS2 : Sim Z0 w0 ⟨frameOf fn.ntmps (.ref (hp.length + 1) :: caps), hp ++ [.frame a.tmps.toList fr] ++ [.inert (.lrec w.heap.size .ready a.tmps.toList ps asg bd)]⟩
       { tmps := (#[Value.func (.yield (w.heap.size + 1)) #[] #[]] ++ cv.toArray) ++ Array.replicate (fn.ntmps - (#[Value.func (.yield (w.heap.size + 1)) #[] #[]] ++ cv.toArray).size) undef, defers := [] } W1 := by
      refine ⟨_, _, hFb2, hH2, ?_, .inl rfl, hbel.trans (hb1.mono hbel.size)⟩
      have hall : RelL W1 (Zone Z0 (fun b => F b ∨ b = w.heap.size ∨ b = w.heap.size + 1) w0.heap.size) (μ ++ [.bool false] ++ [.func (.yield (w.heap.size + 1)) #[] #[]]) (.ref (hp.length + 1) :: caps) (.func (.yield (w.heap.size + 1)) #[] #[] :: cv) := by
       refine RelL.cons ?_ (hkeep hcr)
       simp only [Rel]
       rw [← hH.len]
       simp
      have e1 : (#[Value.func (.yield (w.heap.size + 1)) #[] #[]] ++ cv.toArray) = (Value.func (.yield (w.heap.size + 1)) #[] #[] :: cv).toArray := by simp
      rw [e1]
      have hl2 := hall.length
      simp only [Array.toList_append, Array.toList_replicate, List.size_toArray, hl2, frameOf]
      refine RelL.append hall ?_
      generalize fn.ntmps - (AV.ref (hp.length + 1) :: caps).length = n
      induction n with
      | zero => exact RelL.nil
      | succ n ih => exact RelL.cons (by simp [Rel]) ih
     refine callsIn_of_wp (F := Fc none) (n := 0 - 1) hf hb trivial (wpIn_mono (hrun Z0 w0 _ W1 hS2) ?_)
     have fin : ∀ (e : Exit) (st' : St) (a' : Act) (w' : World), rangeQ P fn ⟨.code (.rangeFunc g ps asg bd) :: ks', ⟨fr, hp⟩⟩ hp.length w.heap.size a.tmps.toList Q e st' → Sim Z0 w0 st' a' w' → a'.defers = [] ∧ ∃ v, (results fn a'.tmps).run P w' = .ok v w' ∧
       rangePost (Fc none) 0 P (w.heap.size + 1) (fun e a' w' => ∃ st', RunsK none P Q ks' e st' ∧ Sim Z0 w0 st' a' w') { a with defers := [{ target := .collected w.heap.size, args := #[] }] ++ a.defers } (.returned v) w' := by
      rintro e st' a' w' ⟨_, res, fr', s, hres, hfr, hls, hgo⟩ ⟨μ', F', hFb', hH', hF', hd', hbel'⟩
      obtain ⟨x, h1, h2⟩ := resIn_run hH' hF' hres
      obtain ⟨⟨us', ps', asg', bd', hi⟩, hone⟩ := lstAt_parts hls
      refine ⟨hd'.none (resIn_mark hres), x, h1, ?_⟩
      unfold frameAt at hfr
      split at hfr
      ·rename_i us2 fr2 hi2
       cases hfr
       have hil : hp.length < μ'.length := by rw [hH'.len]; exact (List.getElem?_eq_some_iff.1 hi2).1
       have hfrr : RelL w' (Zone Z0 F' w0.heap.size) μ' fr' a.tmps.toList := hH'.obj _ _ _ hi2 (List.getElem?_eq_getElem hil)
       have hi3 : (st'.hp.set hp.length .dead)[hp.length + 1]? = some (.inert (.lrec w.heap.size s us' ps' asg' bd')) := by
        rw [List.getElem?_set_ne (by omega)]; exact hi
       obtain ⟨r, hr1, hr2, hr3, _, _, _, _, hBD, hD, hμ, _, hM⟩ := (hH'.bury hp.length).turnL (oneInert_dead _ hone) hi3
       have hend := run_endLoop (P := P) hr1
       have hsim : Sim Z0 w0 ⟨fr', setM (hp.length + 1) (st'.hp.set hp.length .dead)⟩ { a with defers := [{ target := .collected w.heap.size, args := #[] }] ++ a.defers } (w'.putObj (w.heap.size + 1) (.loop { r with state := .exhausted })) := by
        refine ⟨μ', F', fun b hb => by rw [World.putObj_size]; exact hFb' b hb, hM _, hfrr.cells (putObj_cells hr1 rfl), .inr ⟨hp.length + 1, w.heap.size, _, ?_, hμ, by rw [hd0]; rfl⟩, ?_⟩
        ·unfold setM
         rw [hi3]
         simp only [Inert.over]
         rw [List.getElem?_set_self]
         have := (List.getElem?_eq_some_iff.1 hi3).1
         exact this
        ·exact hbel'.grown (grownBy_putObj' w' _ _) hbel'.size (fun k e => by cases e; omega)
       cases s with
       | ready =>
        refine ⟨none, w'.putObj (w.heap.size + 1) (.loop { r with state := .exhausted }), (hend (by rw [hr2]; simp [LSt.state])).trans (congrArg (fun x => Result.ok x _) hr3), ?_⟩
        simp only [runs_iff, afterM, LSt.pend] at hgo
        exact ⟨_, hgo, hsim⟩
       | busy => exact hgo.elim
       | done c =>
        refine ⟨some c, w'.putObj (w.heap.size + 1) (.loop { r with state := .exhausted }), (hend (by rw [hr2]; simp [LSt.state])).trans (congrArg (fun x => Result.ok x _) hr3), ?_⟩
        simp only [runs_iff, afterM, LSt.pend, RunsK] at hgo
        exact hgo Z0 w0 _ _ hsim
      ·cases hfr
     rintro e a' w' ⟨st', hq, hS'⟩
     cases e with
     | normal => exact fin _ st' a' w' hq hS'
     | ret => exact fin _ st' a' w' hq hS'
     | exit id => exact absurd hq.1 (by simp)
     | goto l => exact absurd hq.1 (by simp)
     | panic ch => exact absurd hq.1 (by simp)
     | outgrown => exact absurd hq.1 (by simp)
   ·cases h
  ·cases h
 ·cases h

def ylAt (m : M) : Option (Nat × Nat × List Value × List Value) :=
 match opM m with
 | some (.call c) => match c.callee with
  | .value f => match ev m.st.fr f with
   | .ref i => match m.st.hp[i]?, m.st.hp[i - 1]? with
    | some (.inert (.lrec D .ready us ps _ _)), some (.frame us' _) => if noMark m.st.hp && oneInert m.st.hp && decide (ps.size = c.args.size) then some (i, D, us, us') else none
    | _, _ => none
   | _ => none
  | _ => none
 | _ => none
def ylF (m : M) : List AV :=
 match opM m with
 | some (.call c) => match c.callee with
  | .value f => match ev m.st.fr f with
   | .ref i => match m.st.hp[i]?, m.st.hp[i - 1]? with
    | some (.inert (.lrec _ _ _ ps _ _)), some (.frame _ fr) => setPs ps.toList (c.args.toList.map (ev m.st.fr)) fr
    | _, _ => []
   | _ => []
  | _ => []
 | _ => []
def ylC (m : M) : Code × Code :=
 match opM m with
 | some (.call c) => match c.callee with
  | .value f => match ev m.st.fr f with
   | .ref i => match m.st.hp[i]? with
    | some (.inert (.lrec _ _ _ _ asg bd)) => (asg, bd)
    | _ => (.skip, .skip)
   | _ => (.skip, .skip)
  | _ => (.skip, .skip)
 | _ => (.skip, .skip)
def beginQ (l : Nat) (P : Program) (i D : Nat) (bd : Code) (Q : Exit → St → Prop) : Exit → St → Prop := fun e st' =>
 e = .normal ∧ lstAt i st'.hp = some (D, .ready) ∧ Runs (some l) P ⟨[.code bd], ⟨st'.fr, setL i .busy st'.hp⟩⟩ Q
def roundQ (P : Program) (m : M) (i D n : Nat) (us : List Value) (Q : Exit → St → Prop) : Exit → St → Prop := fun e st' =>
 ∃ fr', frameAt n st' = some (us, fr') ∧ lstAt i st'.hp = some (D, .busy) ∧
  match e with
  | .normal => Runs none P (backM m fr' (.bool true) (setL i .ready (st'.hp.set n .dead))) Q
  | .ret => Runs none P (backM m fr' (.bool false) (setL i (.done .ret) (st'.hp.set n .dead))) Q
  | .exit id => Runs none P (backM m fr' (.bool false) (setL i (.done (.exit id)) (st'.hp.set n .dead))) Q
  | _ => False
theorem R.yield (i D : Nat) (us : List Value) (h : ylAt m = some (i, D, us, us)) (ho : opsAt m = true)
  (h' : ∀ (l : Nat) (us' : List Value), Runs (some l) P ⟨[.code (ylC m).1], ⟨ylF m, m.st.hp ++ [.frame us' m.st.fr]⟩⟩ (beginQ l P i D (ylC m).2 (roundQ P m i D m.st.hp.length us' Q))) : Runs none P m Q := by
 obtain ⟨ks, ⟨fr, hp⟩⟩ := m
 unfold ylAt at h
 unfold ylF ylC at h'
 unfold opM headOf at h h'
 unfold opsAt at ho
 simp only at h ho h'
 rw [runs_iff]
 split at ho
 ·rename_i all o lst fl ks'
  simp only at h h'
  split at h
  ·rename_i c hop
   split at hop
   ·rename_i hw
    simp only [Option.some.injEq] at hop
    simp only [hw, if_true, hop] at h'
    split at h
    ·rename_i fo hcal
     simp only [hcal] at h'
     split at h
     ·rename_i i0 hev
      simp only [hev] at h'
      split at h
      ·rename_i D0 us0 ps asg bd us1 cfr hi0 hi1
       simp only [hi0, hi1] at h'
       split at h
       ·rename_i hc
        simp only [Bool.and_eq_true, decide_eq_true_eq] at hc
        obtain ⟨⟨hnmk, hone⟩, hps⟩ := hc
        simp only [Option.some.injEq, Prod.mk.injEq] at h
        obtain ⟨rfl, rfl, rfl, rfl⟩ := h
        simp only [RunsK]
        intro hW
        have hwant := wantH_true hw hW
        intro Z0 w0 a w hS
        obtain ⟨μ, F, hFb, hH, hF, hd, hbel⟩ := hS
        have hd0 := hd.none hnmk
        refine wpListIn_step fun K hK => ?_
        rw [wanted_rel hF hwant, if_pos rfl]
        have hE : ∀ y, Rel w (Zone Z0 F w0.heap.size) μ (ev fr y) (a.eval y) := fun y => ev_rel hF y
        have hcv := hev ▸ hE fo
        simp only [Rel] at hcv
        obtain ⟨r, hr1, hr2, hr3, hr4, hr5, hr6, hr7, hBD, hD, hμ, hL, _⟩ := hH.turnL hone hi0
        rw [hμ] at hcv
        have hcv : a.eval fo = .func (.yield (D0 + 1)) #[] #[] := (Option.some.inj hcv).symm
        have hargs' : RelL w (Zone Z0 F w0.heap.size) μ (c.args.toList.map (ev fr)) (c.args.toList.map a.eval) := by
         generalize c.args.toList = l
         induction l with
         | nil => exact RelL.nil
         | cons x l ih => exact RelL.cons (hE x) ih
        have hrun : (execOp a.eval o).run P w = .ok (.round (D0 + 1) r.fn ((ps.zip (c.args.map a.eval)).foldl (fun tmps (x : Tmp × Value) => tmps.setIfInBounds x.1 x.2) us1.toArray) asg bd) w := by
         have hy := run_yield (P := P) (args := c.args.map a.eval) hr1 (by rw [hr5, Array.size_map]; exact hps.symm)
         rw [hr4, hr5, hr6, hr7] at hy
         obtain ⟨callee, cargs, tys⟩ := c
         simp only at hcal hy
         subst hcal
         simp only [execOp, hop, resolve, Deferred.ofValue, hcv, Sem.run_bind, Sem.run_pure, Result.andThen_ok, invoke, Array.empty_append, Array.append_empty]
         exact hy
        refine wpIn_of_run (fun c' => by rw [hop]; simp) ?_
        rw [hrun, Oper.uponIn_round]
        refine ⟨fun hd => absurd hd (by simp [Fc, Fence.wide]), ?_⟩
        refine roundIn_of_wpIn (F := Fc none) trivial ?_
        have hrun2 := h' (D0 + 1) a.tmps.toList
        simp only [runs_iff, RunsK] at hrun2
        have hil : i0 - 1 < μ.length := by rw [hH.len]; exact (List.getElem?_eq_some_iff.1 hi1).1
        have hcfr : RelL w (Zone Z0 F w0.heap.size) μ cfr us1 := hH.obj _ _ _ hi1 (List.getElem?_eq_getElem hil)
        have hS2 : Sim Z0 w0 ⟨setPs ps.toList (c.args.toList.map (ev fr)) cfr, hp ++ [.frame a.tmps.toList fr]⟩ { tmps := (ps.zip (c.args.map a.eval)).foldl (fun tmps (x : Tmp × Value) => tmps.setIfInBounds x.1 x.2) us1.toArray, defers := [] } w := by
         refine ⟨μ ++ [.bool false], F, hFb, hH.extend0 (Below.refl _ _) (RelL.keep (w := w) (fun _ _ _ => rfl) (fun i u hu => append_old i u hu) hF) rfl rfl, ?_, .inl rfl, hbel⟩
         have := setPs_rel (ps := ps.toList) (tmps := us1.toArray) hargs' hcfr (by simpa using hps)
         refine RelL.keep (w := w) (fun _ _ _ => rfl) (fun i u hu => append_old i u hu) ?_
         rw [← Array.foldl_toList, Array.toList_zip, Array.toList_map]
         exact this
        refine wpIn_mono (hrun2 Z0 w0 _ w hS2) ?_
        rintro e a1 w1 ⟨st1, ⟨rfl, hls, hgo⟩, hS1⟩
        obtain ⟨⟨us2, ps2, as2, bd2, hj⟩, hone1⟩ := lstAt_parts hls
        obtain ⟨μ1, F1, hFb1, hH1, hF1, hd1, hbel1⟩ := hS1
        obtain ⟨r1, k1, k2, k3, k4, k5, k6, k7, kB, kD, kμ, kL, _⟩ := hH1.turnL hone1 hj
        refine ⟨_, run_beginRound k1 (by rw [k2]; rfl), ?_⟩
        have hbusy : ({ r1 with state := .busy } : Loop) = { r1 with state := LSt.busy.state, pending := LSt.busy.pend } := by
         rw [show LSt.busy.pend = r1.pending from k3.symm]; rfl
        have keepD : ∀ {hp' : List AObj} {μ' : List Value} {ds : List Deferred} (s : LSt), Defs μ' hp' ds → noMark hp' = true → Defs μ' (setL i0 s hp') ds := fun s h hn => .inl (h.none hn)
        have hS3 : Sim Z0 w0 ⟨st1.fr, setL i0 .busy st1.hp⟩ a1 (w1.putObj (D0 + 1) (.loop { r1 with state := .busy })) := by
         refine ⟨μ1, F1, fun b hb => by rw [World.putObj_size]; exact hFb1 b hb, by rw [hbusy]; exact kL .busy, hF1.cells (putObj_cells k1 rfl), ?_, hbel1.grown (grownBy_putObj' w1 _ _) hbel1.size (fun k e => by cases e; omega)⟩
         rcases hd1 with hd1 | ⟨i', D', u', e1, _, _⟩
         ·exact .inl hd1
         ·exfalso
          have := oneInert_at hone1 hj _ _ e1
          subst this
          rw [hj] at e1
          cases e1
        simp only [runs_iff, RunsK] at hgo
        refine wpIn_mono (hgo Z0 w0 _ _ hS3) ?_
        have fin : ∀ (s : LSt) (j : Option Code) (b : Bool) (st2 : St) (a2 : Act) (w2 : World) (fr2 : List AV), s.pend = j → s.state = (if j.isNone then LoopState.ready else LoopState.done) → b = j.isNone → frameAt hp.length st2 = some (a.tmps.toList, fr2) → lstAt i0 st2.hp = some (D0, .busy) → Sim Z0 w0 st2 a2 w2 →
          Runs none P (backM ⟨.ops all (o :: lst) fl :: ks', ⟨fr, hp⟩⟩ fr2 (.bool b) (setL i0 s (st2.hp.set hp.length .dead))) Q → ∃ v w3, (Instr.endRound (D0 + 1) j).run P w2 = .ok v w3 ∧ K (a.put o.dst v) w3 := by
         rintro s j b st2 a2 w2 fr2 rfl hst rfl hfr hls2 ⟨μ2, F2, hFb2, hH2, hF2, hd2, hbel2⟩ hgo2
         obtain ⟨⟨us3, ps3, as3, bd3, hj3⟩, hone2⟩ := lstAt_parts hls2
         unfold frameAt at hfr
         split at hfr
         ·rename_i us4 fr4 hi4
          cases hfr
          have hne : hp.length ≠ i0 := by
           intro e
           rw [e, hj3] at hi4
           cases hi4
          have hj4 : (st2.hp.set hp.length .dead)[i0]? = some (.inert (.lrec D0 .busy us3 ps3 as3 bd3)) := by
           rw [List.getElem?_set_ne hne]; exact hj3
          obtain ⟨r2, q1, q2, q3, _, _, _, _, qB, _, _, qL, _⟩ := (hH2.bury hp.length).turnL (oneInert_dead _ hone2) hj4
          refine ⟨_, _, run_endRound _ q1, hK _ _ ?_⟩
          have hil2 : hp.length < μ2.length := by rw [hH2.len]; exact (List.getElem?_eq_some_iff.1 hi4).1
          have hfrr : RelL w2 (Zone Z0 F2 w0.heap.size) μ2 fr2 a.tmps.toList := hH2.obj _ _ _ hi4 (List.getElem?_eq_getElem hil2)
          simp only [runs_iff, backM, RunsK] at hgo2
          refine hgo2 headW_false Z0 w0 _ _ ⟨μ2, F2, fun b hb => by rw [World.putObj_size]; exact hFb2 b hb, ?_, put_rel (hfrr.cells (putObj_cells q1 rfl)) _ (by simp [Rel]), by rw [put_defers']; exact .inl hd0, hbel2.grown (grownBy_putObj' w2 _ _) hbel2.size (fun k e => by cases e; omega)⟩
          rw [← hst]
          exact qL s
         ·cases hfr
        rintro e a2 w2 ⟨st2, ⟨fr2, hfr, hls2, hgo2⟩, hS4⟩
        cases e with
        | normal => exact fin .ready none true st2 a2 w2 fr2 rfl rfl rfl hfr hls2 hS4 hgo2
        | ret => exact fin (.done .ret) (some .ret) false st2 a2 w2 fr2 rfl rfl rfl hfr hls2 hS4 hgo2
        | exit id => exact fin (.done (.exit id)) (some (.exit id)) false st2 a2 w2 fr2 rfl rfl rfl hfr hls2 hS4 hgo2
        | goto l => exact hgo2.elim
        | panic ch => exact hgo2.elim
        | outgrown => exact hgo2.elim
       ·cases h
      ·cases h
     ·cases h
    ·cases h
   ·cases hop
  ·cases h
 ·cases ho
theorem R.begin {l i D : Nat} {bd : Code} (h : m.ks = []) (hl : lstAt i m.st.hp = some (D, .ready)) (h' : Runs (some l) P ⟨[.code bd], ⟨m.st.fr, setL i .busy m.st.hp⟩⟩ Q) : Runs (some l) P m (beginQ l P i D bd Q) := by
 obtain ⟨ks, st⟩ := m
 simp only at h hl h'
 subst h
 rw [runs_iff]
 exact ⟨rfl, hl, h'⟩
theorem R.round {l i D n : Nat} {m0 : M} {us : List Value} (fr' : List AV) (h : m.ks = []) (hf : frameAt n m.st = some (us, fr')) (hl : lstAt i m.st.hp = some (D, .busy))
  (h' : Runs none P (backM m0 fr' (.bool true) (setL i .ready (m.st.hp.set n .dead))) Q) : Runs (some l) P m (roundQ P m0 i D n us Q) := by
 obtain ⟨ks, st⟩ := m
 simp only at h hl h' hf
 subst h
 rw [runs_iff]
 exact ⟨fr', hf, hl, h'⟩
theorem R.over {fn : Func} {n D : Nat} {us : List Value} {m0 : M} (res : AV) (fr' : List AV) (h : (edAt m).isSome = true) (hr : resIn P fn m.st = some res) (hf : frameAt n m.st = some (us, fr')) (hl : lstAt (n + 1) m.st.hp = some (D, .ready))
  (h' : Runs none P (afterM none m0 fr' (setM (n + 1) (m.st.hp.set n .dead))) Q) : Runs none P m (rangeQ P fn m0 n D us Q) :=
 R.fin h ⟨.inl rfl, res, fr', .ready, hr, hf, hl, h'⟩ ⟨.inr rfl, res, fr', .ready, hr, hf, hl, h'⟩
theorem R.left {fn : Func} {n D : Nat} {us : List Value} {m0 : M} (c : Code) (res : AV) (fr' : List AV) (h : (edAt m).isSome = true) (hr : resIn P fn m.st = some res) (hf : frameAt n m.st = some (us, fr')) (hl : lstAt (n + 1) m.st.hp = some (D, .done c))
  (h' : Runs none P (afterM (some c) m0 fr' (setM (n + 1) (m.st.hp.set n .dead))) Q) : Runs none P m (rangeQ P fn m0 n D us Q) :=
 R.fin h ⟨.inl rfl, res, fr', .done c, hr, hf, hl, h'⟩ ⟨.inr rfl, res, fr', .done c, hr, hf, hl, h'⟩
end
end Go.Abs

/-! The machine's rules: slices without spare room; ways that meet again. -/
namespace Go.Abs
open Go.RowKit Go.ChangeShapes Go.WideShapes Go.Deep
section
variable {rd : Option Nat} {P : Program} {m : M} {Q : Exit → St → Prop} {α : Type}


def exAt (m : M) (i : Nat) : Option AV :=
 match m.ks with
 | .any ops listed (_ + 1) :: _ => match ops[i]? with
  | some o => match o.op with
   | .extract x k => if o.guard.isNone && Region.noSelect ops && Region.free .any ops listed i && (Region.ready .any ops listed).contains i then (match ev m.st.fr x with | .tup cs => cs[k]? | _ => none) else none
   | _ => none
  | none => none
 | _ => none
def exM (i : Nat) (v : AV) (m : M) : M :=
 match m.ks with
 | .any ops listed n :: ks => match ops[i]? with
  | some o => ⟨.any ops (listed.setIfInBounds i true) (n - 1) :: ks, ⟨putF m.st.fr o.dst v, m.st.hp⟩⟩
  | none => m
 | _ => m
theorem R.anyX (i : Nat) (v : AV) (h : exAt m i = some v) (np : NoPanic Q) (h' : Runs none P (exM i v m) Q) : Runs none P m Q := by
 obtain ⟨ks, ⟨fr, hp⟩⟩ := m
 simp only [runs_iff] at h' ⊢
 unfold exAt at h
 simp only at h
 split at h
 ·rename_i ops listed n ks'
  split at h
  ·rename_i o ho
   split at h
   ·rename_i x k hx
    split at h
    ·rename_i hc
     simp only [Bool.and_eq_true] at hc
     obtain ⟨⟨⟨hg, hs⟩, hf⟩, hr⟩ := hc
     split at h
     ·rename_i cs hcs
      simp only [exM, ho, RunsK] at h' ⊢
      intro Z0 w0 a w hS
      have hW : Region.wanted o (yielded ops a.tmps) = true := by
       unfold Region.wanted
       rw [Option.isNone_iff_eq_none.1 hg]
      have hrun : ∃ u, ∀ w, (execOp a.eval o).run P w = .ok (.value u) w := by
       obtain ⟨μ, F, _, _, hFr, _, _⟩ := hS
       have h1 := ev_rel hFr x
       rw [hcs] at h1
       simp only [Rel] at h1
       obtain ⟨xs, h2, hr2⟩ := h1
       obtain ⟨u, hu, _⟩ := hr2.get h
       refine ⟨u, fun w => ?_⟩
       unfold execOp
       rw [hx]
       simp [h2, Instr.extract, hu] <;> rfl
      obtain ⟨u, hrun⟩ := hrun
      have hw' : WantedA ops o fr := wantedE_true (by unfold wantedE; rw [Option.isNone_iff_eq_none.1 hg])
      have h1 := StepR.sound (rd := none) (K := fun a' w' => Sim Z0 w0 ⟨putF fr o.dst v, hp⟩ a' w') (Q := fun _ _ _ => True) (st' := ⟨putF fr o.dst v, hp⟩) (by simpa using StepR.eff (P := P) (st := ⟨fr, hp⟩) hw' (v := v) (news := []) (by rw [hx]; exact EffR.extract cs hcs h)) hS (fun _ _ h => h)
      rw [if_pos hW] at h1
      unfold Oper.wpIn at h1
      have h1 := h1.2
      rw [show (Fc none).round = none from rfl, Oper.semAt_none, hrun w] at h1
      simp only [Oper.uponIn] at h1
      exact wpAnyIn_take rfl ho hs hf hr (fun c a w ⟨st', hq, _⟩ => absurd (runsK_panic ks' st' hq) (np c st')) ⟨.inl ⟨hW, hrun⟩, fun w => by unfold Oper.about; rw [hx]⟩ (h' Z0 w0 _ w h1)
     ·cases h
    ·cases h
   ·cases h
  ·cases h
 ·cases h

def meetQ (S : St) : Exit → St → Prop := fun e st => e = .normal ∧ st = S
theorem np_meet (S : St) : NoPanic (meetQ S) := fun _ _ h => by simp [meetQ] at h
def mtAt (m : M) : Bool :=
 match m.ks with
 | .code _ :: _ => true
 | _ => false
theorem R.meet (S : St) (h : mtAt m = true) (h1 : Runs rd P ⟨m.ks.take 1, m.st⟩ (meetQ S)) (h2 : Runs rd P ⟨m.ks.tail, S⟩ Q) : Runs rd P m Q := by
 obtain ⟨ks, st⟩ := m
 unfold mtAt at h
 simp only [runs_iff] at h h1 h2 ⊢
 split at h
 ·rename_i c ks'
  simp only [List.take_succ_cons, List.take_zero, List.tail_cons, RunsK] at h1 h2 ⊢
  refine h1.mono ?_
  rintro e st' ⟨rfl, rfl⟩
  exact h2
 ·cases h
theorem R.met {S : St} (h : m.ks = []) (hs : m.st = S) : Runs rd P m (meetQ S) := by
 obtain ⟨ks, st⟩ := m
 simp only at h hs
 subst h hs
 rw [runs_iff]
 exact ⟨rfl, rfl⟩
theorem k28 {S : St} (h : m.ks = [] := by kernel_rfl) (hs : m.st = S := by kernel_rfl) : Runs rd P m (meetQ S) := _root_.Go.Abs.R.met h hs
end

section
variable {H : Type} {enc : TypeId × Value → H} {P : Program} {w : World} {base : Nat} {spare : Nat → Bool} {held : Bool}
end
end Go.Abs

/-! Named slices: rows of one's own laid into rows; a named row taken back to be written; slots read by names. -/
namespace Go.Abs
open Go.RowKit

mutual
def InN (u : Value) : AV → Prop
 | .nam v o _ _ cs => (u = v ∧ (cs ≠ [] ∨ o ≠ none)) ∨ InNL u cs
 | .lst _ _ cs => InNL u cs
 | .clp _ _ cs => InNL u cs
 | .rptr cs => InNL u cs
 | .agg cs => InNL u cs
 | .tup cs => InNL u cs
 | .fn _ cs => InNL u cs
 | .int _ _ => False
 | .bool _ => False
 | .str _ => False
 | .nil => False
 | .ref _ => False
 | .ptr _ _ => False
 | .own _ _ _ _ => False
 | .top => False
def InNL (u : Value) : List AV → Prop
 | [] => False
 | c :: cs => InN u c ∨ InNL u cs
end
mutual
def NoRaw : AV → Bool
 | .nam _ _ _ _ cs => NoRawL cs
 | .lst _ _ cs => cs.isEmpty
 | .clp _ _ cs => cs.isEmpty
 | .rptr _ => false
 | .agg cs => NoRawL cs
 | .tup cs => NoRawL cs
 | .fn _ cs => NoRawL cs
 | .int _ _ => true
 | .bool _ => true
 | .str _ => true
 | .nil => true
 | .ref _ => true
 | .ptr _ _ => true
 | .own _ _ _ _ => true
 | .top => true
def NoRawL : List AV → Bool
 | [] => true
 | c :: cs => NoRaw c && NoRawL cs
end
theorem inNL_iff {u : Value} : ∀ {cs : List AV}, InNL u cs ↔ ∃ c ∈ cs, InN u c
 | [] => by simp [InNL]
 | c :: cs => by rw [InNL, inNL_iff]; simp
theorem add_block' (a : Addr) (j : Nat) : (a.add j).block = a.block := by unfold Addr.add; split <;> rfl
section
variable {w : World}
mutual
theorem InN.of {Z : Nat → Prop} {μ : List Value} {u : Value} {g : Nat} (hg : blk u = some g) : ∀ {c : AV} {v : Value}, Rel w Z μ c v → InN u c → g < w.heap.size ∧ ¬ Z g
 | .nam v' o s n cs, v, h, hn => by
  simp only [Rel] at h
  simp only [InN] at hn
  obtain ⟨⟨h0, h00⟩, A, c, xs, h1, h2, h3, h4, h5⟩ := h
  rcases hn with ⟨rfl, hn⟩ | hn
  ·subst h0
   by_cases ho : o = none
   ·have hcs : cs ≠ [] := by
     rcases hn with hn | hn
     ·exact hn
     ·exact absurd ho hn
    have hx : xs ≠ [] := by
     intro e
     have h6 := h5.length
     rw [e] at h6
     exact hcs (List.eq_nil_of_length_eq_zero (by simpa using h6.symm))
    obtain ⟨ad, rfl, hz, hc⟩ := h4 hx
    rw [h1] at hg
    simp only [blk, Option.some.injEq] at hg
    subst hg
    cases xs with
    | nil => exact absurd rfl hx
    | cons y ys =>
     have h6 := World.block_lt_of_cell? w _ (hc 0 y rfl)
     rw [add_block'] at h6
     exact ⟨h6, hz⟩
   ·cases o with
    | none => exact absurd rfl ho
    | some e =>
     obtain ⟨xs', hown, hz⟩ := h00 e rfl
     exact ⟨ownsRow_lt' hown hg, hz g hg⟩
  ·exact InNL.of hg h5 hn
 | .lst s n cs, v, h, hn => by
  simp only [Rel] at h
  simp only [InN] at hn
  obtain ⟨A, c, xs, h1, h2, h3, h4, h5⟩ := h
  exact InNL.of hg h5 hn
 | .clp s n cs, v, h, hn => by
  simp only [Rel] at h
  simp only [InN] at hn
  obtain ⟨A, c, xs, h1, h2, h3, h4, h5⟩ := h
  exact InNL.of hg h5 hn
 | .rptr cs, v, h, hn => by
  simp only [Rel] at h
  simp only [InN] at hn
  obtain ⟨ad, xs, h1, h4, h5⟩ := h
  exact InNL.of hg h5 hn
 | .agg cs, v, h, hn => by
  simp only [Rel] at h
  simp only [InN] at hn
  obtain ⟨xs, h1, h5⟩ := h
  exact InNL.of hg h5 hn
 | .tup cs, v, h, hn => by
  simp only [Rel] at h
  simp only [InN] at hn
  obtain ⟨xs, h1, h5⟩ := h
  exact InNL.of hg h5 hn
 | .fn f cs, v, h, hn => by
  simp only [Rel] at h
  simp only [InN] at hn
  obtain ⟨xs, h1, h5⟩ := h
  exact InNL.of hg h5 hn
 | .int _ _, _, _, hn => by simp [InN] at hn
 | .bool _, _, _, hn => by simp [InN] at hn
 | .str _, _, _, hn => by simp [InN] at hn
 | .nil, _, _, hn => by simp [InN] at hn
 | .ref _, _, _, hn => by simp [InN] at hn
 | .ptr _ _, _, _, hn => by simp [InN] at hn
 | .own _ _ _ _, _, _, hn => by simp [InN] at hn
 | .top, _, _, hn => by simp [InN] at hn
theorem InNL.of {Z : Nat → Prop} {μ : List Value} {u : Value} {g : Nat} (hg : blk u = some g) : ∀ {cs : List AV} {vs : List Value}, RelL w Z μ cs vs → InNL u cs → g < w.heap.size ∧ ¬ Z g
 | [], _, _, hn => by simp [InNL] at hn
 | c :: cs, _, h, hn => by
  simp only [RelL] at h
  simp only [InNL] at hn
  obtain ⟨x, xs, rfl, h1, h2⟩ := h
  rcases hn with hn | hn
  ·exact InN.of hg h1 hn
  ·exact InNL.of hg h2 hn
end
mutual
theorem Rel.thaw {Z Z' : Nat → Prop} {g : Option Nat} (hz : ∀ b, ¬ Z b → g ≠ some b → ¬ Z' b) : ∀ {μ μ' : List Value} (_ : ∀ (i : Nat) (u : Value), μ[i]? = some u → μ'[i]? = some u) {c : AV} {v : Value}, NoRaw c = true → (∀ u, InN u c → ∀ b, g = some b → blk u ≠ some b) → Rel w Z μ c v → Rel w Z' μ' c v
 | μ, μ', hm, .nam u o s n cs, v, hr, hn, h => by
  simp only [Rel] at h ⊢
  simp only [NoRaw] at hr
  obtain ⟨⟨h0, h00⟩, A, c, xs, h1, h2, h3, h4, h5⟩ := h
  refine ⟨⟨h0, fun e he => ?_⟩, A, c, xs, h1, h2, h3, fun hx => ?_, RelL.thaw hz (μ := []) (μ' := []) (fun _ _ h => h) hr (fun u' hu' => hn u' (by simp only [InN]; exact .inr hu')) h5⟩
  ·obtain ⟨ys, k1, k2⟩ := h00 e he
   refine ⟨ys, k1, fun b hb => hz b (k2 b hb) (fun hgb => hn u (by rw [InN]; exact .inl ⟨rfl, .inr (by rw [he]; simp)⟩) b hgb (by rw [← h0]; exact hb))⟩
  ·obtain ⟨ad, rfl, k1, k2⟩ := h4 hx
   refine ⟨ad, rfl, hz _ k1 (fun hgb => hn u (by rw [InN]; exact .inl ⟨rfl, .inl (fun e => hx (List.eq_nil_of_length_eq_zero (by have h6 := h5.length; rw [e] at h6; simpa using h6)))⟩) _ hgb (by rw [← h0, h1]; rfl)), k2⟩
 | μ, μ', hm, .lst s n cs, v, hr, hn, h => by
  simp only [Rel] at h ⊢
  simp only [NoRaw, List.isEmpty_iff] at hr
  subst hr
  obtain ⟨A, c, xs, h1, h2, h3, h4, h5⟩ := h
  rw [RelL] at h5
  subst h5
  exact ⟨A, c, [], h1, h2, h3, fun h => absurd rfl h, RelL.nil⟩
 | μ, μ', hm, .clp s n cs, v, hr, hn, h => by
  simp only [Rel] at h ⊢
  simp only [NoRaw, List.isEmpty_iff] at hr
  subst hr
  obtain ⟨A, c, xs, h1, h2, h3, h4, h5⟩ := h
  rw [RelL] at h5
  subst h5
  exact ⟨A, c, [], h1, h2, h3, fun h => absurd rfl h, RelL.nil⟩
 | μ, μ', hm, .rptr cs, v, hr, hn, h => by simp [NoRaw] at hr
 | μ, μ', hm, .agg cs, v, hr, hn, h => by
  simp only [Rel] at h ⊢
  simp only [NoRaw] at hr
  obtain ⟨xs, h1, h5⟩ := h
  exact ⟨xs, h1, RelL.thaw hz hm hr (fun u' hu' => hn u' (by simp only [InN]; exact hu')) h5⟩
 | μ, μ', hm, .tup cs, v, hr, hn, h => by
  simp only [Rel] at h ⊢
  simp only [NoRaw] at hr
  obtain ⟨xs, h1, h5⟩ := h
  exact ⟨xs, h1, RelL.thaw hz hm hr (fun u' hu' => hn u' (by simp only [InN]; exact hu')) h5⟩
 | μ, μ', hm, .fn f cs, v, hr, hn, h => by
  simp only [Rel] at h ⊢
  simp only [NoRaw] at hr
  obtain ⟨xs, h1, h5⟩ := h
  exact ⟨xs, h1, RelL.thaw hz hm hr (fun u' hu' => hn u' (by simp only [InN]; exact hu')) h5⟩
 | μ, μ', hm, .int _ _, _, _, _, h => by simpa [Rel] using h
 | μ, μ', hm, .bool _, _, _, _, h => by simpa [Rel] using h
 | μ, μ', hm, .str _, _, _, _, h => by simpa [Rel] using h
 | μ, μ', hm, .nil, _, _, _, h => by simpa [Rel] using h
 | μ, μ', hm, .ref i, v, _, _, h => by simp only [Rel] at h ⊢; exact hm i v h
 | μ, μ', hm, .ptr i o, v, _, _, h => by
  simp only [Rel] at h ⊢
  obtain ⟨u, g, h1, h2, h3⟩ := h
  exact ⟨u, g, hm i u h1, h2, h3⟩
 | μ, μ', hm, .own _ _ _ _, _, _, _, h => by simp [Rel] at h
 | μ, μ', hm, .top, _, _, _, h => by simp [Rel]
theorem RelL.thaw {Z Z' : Nat → Prop} {g : Option Nat} (hz : ∀ b, ¬ Z b → g ≠ some b → ¬ Z' b) : ∀ {μ μ' : List Value} (_ : ∀ (i : Nat) (u : Value), μ[i]? = some u → μ'[i]? = some u) {cs : List AV} {vs : List Value}, NoRawL cs = true → (∀ u, InNL u cs → ∀ b, g = some b → blk u ≠ some b) → RelL w Z μ cs vs → RelL w Z' μ' cs vs
 | μ, μ', hm, [], vs, _, _, h => by simpa [RelL] using h
 | μ, μ', hm, c :: cs, vs, hr, hn, h => by
  simp only [RelL] at h ⊢
  simp only [NoRawL, Bool.and_eq_true] at hr
  obtain ⟨x, xs, h1, h2, h3⟩ := h
  exact ⟨x, xs, h1, Rel.thaw hz hm hr.1 (fun u' hu' => hn u' (by simp only [InNL]; exact .inl hu')) h2, RelL.thaw hz hm hr.2 (fun u' hu' => hn u' (by simp only [InNL]; exact .inr hu')) h3⟩
end
end
def Safe (v : Value) (c : AV) : Prop := NoRaw c = true ∧ ∀ u, InN u c → ∀ g, blk v = some g → blk u ≠ some g
def SafeL (v : Value) (cs : List AV) : Prop := NoRawL cs = true ∧ ∀ u, InNL u cs → ∀ g, blk v = some g → blk u ≠ some g
def SafeO (v : Value) : AObj → Prop
 | .box _ cs => SafeL v cs
 | .list _ _ _ cs => SafeL v cs
 | .frame _ cs => SafeL v cs
 | .dead => True
 | .inert (.base _) => True
 | .inert _ => False
theorem safeL_nil {v : Value} : SafeL v [] := ⟨rfl, fun u h => by simp [InNL] at h⟩
theorem safeL_cons {v : Value} {c : AV} {cs : List AV} : SafeL v (c :: cs) ↔ Safe v c ∧ SafeL v cs := by
 simp only [SafeL, Safe, NoRawL, Bool.and_eq_true, InNL]
 exact ⟨fun ⟨h1, h2⟩ => ⟨⟨h1.1, fun u hu => h2 u (.inl hu)⟩, h1.2, fun u hu => h2 u (.inr hu)⟩, fun ⟨h1, h2⟩ => ⟨⟨h1.1, h2.1⟩, fun u hu => hu.elim (h1.2 u) (h2.2 u)⟩⟩
theorem safeL_iff {v : Value} {cs : List AV} : SafeL v cs ↔ ∀ c ∈ cs, Safe v c := by
 induction cs with
 | nil => simp [safeL_nil]
 | cons c cs ih => rw [safeL_cons, ih]; simp
theorem safe_int {v : Value} {k : IntKind} {n : Int} : Safe v (.int k n) := ⟨rfl, fun u h => by simp [InN] at h⟩
theorem safe_bool {v : Value} {b : Bool} : Safe v (.bool b) := ⟨rfl, fun u h => by simp [InN] at h⟩
theorem safe_nil {v : Value} : Safe v .nil := ⟨rfl, fun u h => by simp [InN] at h⟩
theorem safe_top {v : Value} : Safe v .top := ⟨rfl, fun u h => by simp [InN] at h⟩
theorem safe_agg {v : Value} {cs : List AV} (h : SafeL v cs) : Safe v (.agg cs) := ⟨by simpa [NoRaw] using h.1, fun u hu => h.2 u (by simpa [InN] using hu)⟩
theorem safe_tup {v : Value} {cs : List AV} (h : SafeL v cs) : Safe v (.tup cs) := ⟨by simpa [NoRaw] using h.1, fun u hu => h.2 u (by simpa [InN] using hu)⟩
theorem safe_nam {v u : Value} {o : Option Nat} {s n : Nat} {cs : List AV} (h : SafeL v cs) (hu : ∀ g, blk v = some g → blk u ≠ some g) : Safe v (.nam u o s n cs) :=
 ⟨by simpa [NoRaw] using h.1, fun u' hu' => by
  simp only [InN] at hu'
  rcases hu' with ⟨rfl, _⟩ | hu'
  ·exact hu
  ·exact h.2 u' hu'⟩
theorem own_read {w : World} {Z : Nat → Prop} {B e s n c : Nat} {v : Value} {A : Option Addr} {xs ys : List Value} (h : w.ownsRow B e s v n ys) (hv : v = .slice A n c) (hl : xs.length = n * s) (hr : Rd w Z A xs) : xs = ys := by
 have hl2 := h.1
 rcases h.2 with ⟨h1, rfl⟩ | ⟨g, cap, cur, h1, h2, h3, h4, h5, h6, h7⟩
 ·simp at hl hl2
  rw [hl, hl2]
 ·subst h1
  simp only [Value.slice.injEq] at hv
  obtain ⟨rfl, _, rfl⟩ := hv
  apply List.ext_getElem?
  intro j
  rcases Nat.lt_or_ge j (n * s) with hj | hj
  ·obtain ⟨x, hx⟩ : ∃ x, xs[j]? = some x := ⟨_, List.getElem?_eq_getElem (by omega)⟩
   obtain ⟨ad, e1, _, e2⟩ := hr (by rintro rfl; simp at hx)
   cases e1
   have h8 := e2 j x hx
   rw [add_lit', Nat.zero_add, h.cellAt j hj] at h8
   rw [hx, h8]
  ·rw [List.getElem?_eq_none (by omega), List.getElem?_eq_none (by omega)]
theorem ownsRow_from {w : World} {B B' e s n : Nat} {v : Value} {xs : List Value} (h : w.ownsRow B e s v n xs) (hg : ∀ g, blk v = some g → B' ≤ g) : w.ownsRow B' e s v n xs := by
 refine ⟨h.1, h.2.imp id ?_⟩
 rintro ⟨g, cap, cur, h1, h2, h3⟩
 exact ⟨g, cap, cur, h1, hg g (by rw [h1]; rfl), h3⟩

def SubE {ι : Type} (st : St) (st' : ι → St) (Φ : ι → Prop) : Prop := ∀ (Z0 : Nat → Prop) (w0 : World) (a : Act) (w : World), Sim Z0 w0 st a w → ∃ x, Φ x ∧ Sim Z0 w0 (st' x) a w
section
variable {rd : Option Nat} {P : Program} {m : M} {Q : Exit → St → Prop}
theorem R.subE {ι : Type} (st' : ι → St) (Φ : ι → Prop) (h : subOk m = true) (hs : SubE m.st st' Φ) (h' : ∀ x, Φ x → Runs rd P ⟨m.ks, st' x⟩ Q) : Runs rd P m Q := by
 obtain ⟨ks, st⟩ := m
 unfold subOk at h
 simp only [runs_iff] at h' ⊢
 try simp only at h hs h' ⊢
 split at h
 ·intro Z0 w0 a w hS
  obtain ⟨x, hx, hS'⟩ := hs Z0 w0 a w hS
  exact h' x hx Z0 w0 a w hS'
 ·intro _ Z0 w0 a w hS
  obtain ⟨x, hx, hS'⟩ := hs Z0 w0 a w hS
  exact h' x hx headW_false Z0 w0 a w hS'
 ·intro Z0 w0 a w hS
  obtain ⟨x, hx, hS'⟩ := hs Z0 w0 a w hS
  exact h' x hx Z0 w0 a w hS'
 ·cases h
end

def InS (u : Value) (st : St) : Prop := InNL u st.fr ∨ ∃ (j : Nat) (o : AObj), st.hp[j]? = some o ∧ InNL u o.cells
theorem InS.of {w : World} {Z : Nat → Prop} {B : Nat} {μ : List Value} {st : St} {vs : List Value} {u : Value} {g : Nat} (hH : HRel w Z B μ st.hp) (hF : RelL w Z μ st.fr vs) (hg : blk u = some g) (h : InS u st) : g < w.heap.size ∧ ¬ Z g := by
 rcases h with h | ⟨j, o, ho, h⟩
 ·exact InNL.of hg hF h
 ·have hjl : j < μ.length := by rw [hH.len]; exact (List.getElem?_eq_some_iff.1 ho).1
  obtain ⟨xs, hx, _⟩ := obj_cells (hH.obj j o _ ho (List.getElem?_eq_getElem hjl))
  exact InNL.of hg hx h
def NewN (st : St) (v : Value) : Prop :=
 (∀ u, InS u st → ∀ g, blk v = some g → blk u ≠ some g) ∧ ∀ (k b : Nat), st.hp[k]? = some (.inert (.base b)) → ∀ g, blk v = some g → b ≤ g
theorem SubE.pin (i e s n : Nat) (cs : List AV) (st : St) (hi : st.hp[i]? = some (.list e s n cs)) : SubE st (fun u => frzS i (.nam u (some e) s n cs) st) (NewN st) := by
 rintro Z0 w0 a w ⟨μ, F, hFb, hH, hF, hd, hb⟩
 have hil : i < μ.length := by rw [hH.len]; exact (List.getElem?_eq_some_iff.1 hi).1
 obtain ⟨u, hu⟩ : ∃ u, μ[i]? = some u := ⟨_, List.getElem?_eq_getElem hil⟩
 obtain ⟨xs, hown, hx⟩ := hH.obj i _ u hi hu
 have hge : ∀ g, blk u = some g → w0.heap.size ≤ g := fun g hg => ((hH.obj i _ u hi hu).blk_ge rfl hg).1
 refine ⟨u, ⟨fun u' hu' g hg hg' => (InS.of hH hF hg' hu').2 (hH.zone i _ u g hi rfl hu hg), fun k b hk g hg => ?_⟩, ?_⟩
 ·have hkl : k < μ.length := by rw [hH.len]; exact (List.getElem?_eq_some_iff.1 hk).1
  have h1 := hH.obj k _ _ hk (List.getElem?_eq_getElem hkl)
  obtain ⟨_, rfl⟩ := h1
  exact hge g hg
 have hz : ∀ b, b < w.heap.size → ¬ Zone Z0 F w0.heap.size b → ¬ Zone Z0 (fun b => F b ∨ blk u = some b) w0.heap.size b := fun b _ h => zone_more b h
 have hr0 : Rel w (Zone Z0 (fun b => F b ∨ blk u = some b) w0.heap.size) μ (.lst s n cs) u := own_lst hown hx hz (fun g hg hzz => hzz.elim (fun h => by
  have := hge g hg
  omega) (fun h => h.2 (.inr hg)))
 have hr : Rel w (Zone Z0 (fun b => F b ∨ blk u = some b) w0.heap.size) μ (.nam u (some e) s n cs) u := by
  simp only [Rel] at hr0 ⊢
  refine ⟨⟨trivial, fun e' he' => ?_⟩, hr0⟩
  cases he'
  refine ⟨xs, ownsRow_from hown (fun _ _ => Nat.zero_le _), fun g hg hzz => ?_⟩
  exact hzz.elim (fun h => by
   have := hge g hg
   omega) (fun h => h.2 (.inr hg))
 refine ⟨μ, fun b => F b ∨ blk u = some b, fun b h => h.elim (hFb b) (fun h => (hH.obj i _ u hi hu).blk_ge rfl h), ?_, RelL.frz i _ u hz hu hr hF, hd.keep (fun j x hj => ⟨?_, fun u hu => hu⟩), hb⟩
 rotate_left
 ·have hne : i ≠ j := by
   rintro rfl
   rw [hi] at hj
   cases hj
  show ((st.hp.map (AObj.frz i _)).set i .dead)[j]? = _
  rw [List.getElem?_set_ne hne, List.getElem?_map, hj]
  rfl
 have get : ∀ (j : Nat) o, ((st.hp.map (AObj.frz i (.nam u (some e) s n cs))).set i .dead)[j]? = some o → o = .dead ∨ (j ≠ i ∧ ∃ o', st.hp[j]? = some o' ∧ o = o'.frz i (.nam u (some e) s n cs)) := by
  intro j o ho
  by_cases hj : j = i
  ·subst hj
   rw [List.getElem?_set_self (by simpa using (List.getElem?_eq_some_iff.1 hi).1)] at ho
   simp at ho
   exact .inl ho.symm
  ·rw [List.getElem?_set_ne (Ne.symm hj), List.getElem?_map, Option.map_eq_some_iff] at ho
   obtain ⟨o', h1, rfl⟩ := ho
   exact .inr ⟨hj, o', h1, rfl⟩
 refine ⟨by simp [frzS, hH.len], fun j o v g h1 ha h2 hg => ?_, hH.one, fun j o v h1 h2 => ?_, fun j k oj ok uj uk g hne h1 h2 a1 a2 m1 m2 b1 b2 => ?_⟩
 ·rcases get j o h1 with rfl | ⟨hj, o', ho, rfl⟩
  ·cases ha
  ·rw [AObj.frz_alive] at ha
   have h3 := hH.zone j o' v g ho ha h2 hg
   exact h3.elim .inl (fun h => .inr ⟨h.1, fun hf => hf.elim h.2 (fun h4 => hH.sep i j _ o' u v g (Ne.symm hj) hi ho rfl ha hu h2 h4 hg)⟩)
 ·rcases get j o h1 with rfl | ⟨hj, o', ho, rfl⟩
  ·trivial
  ·have hO := hH.obj j o' v ho h2
   cases o' with
   | box t ds => obtain ⟨g, ys, e1, e2, e3, e4⟩ := hO; exact ⟨g, ys, e1, e2, e3, RelL.frz i _ u hz hu hr e4⟩
   | list e s n ds => obtain ⟨ys, e1, e2⟩ := hO; exact ⟨ys, e1, e2.weak hz⟩
   | dead => trivial
   | frame us ds => exact RelL.frz i _ u hz hu hr hO
   | inert x => exact InertRel.keep (fun b h1 h2 => ⟨rfl, hz b h1 h2⟩) hO
 ·rcases get j oj h1 with rfl | ⟨hj, o1, ho1, rfl⟩
  ·cases a1
  ·rcases get k ok h2 with rfl | ⟨hk, o2, ho2, rfl⟩
   ·cases a2
   ·rw [AObj.frz_alive] at a1 a2
    exact hH.sep j k o1 o2 uj uk g hne ho1 ho2 a1 a2 m1 m2 b1 b2
section
variable {rd : Option Nat} {P : Program} {m : M} {Q : Exit → St → Prop}
theorem R.pin (i e s n : Nat) (cs : List AV) (h : subOk m = true) (hi : m.st.hp[i]? = some (.list e s n cs)) (h' : ∀ u, NewN m.st u → Runs rd P ⟨m.ks, frzS i (.nam u (some e) s n cs) m.st⟩ Q) : Runs rd P m Q :=
 R.subE _ _ h (SubE.pin i e s n cs m.st hi) h'
end

theorem HRel.swapO {w : World} {Z : Nat → Prop} {B : Nat} {μ : List Value} {hp : List AObj} {i : Nat} {o o' : AObj} (h : HRel w Z B μ hp) (hi : hp[i]? = some o) (ha : o'.alive = true → o.alive = true) (ho : ∀ u, μ[i]? = some u → ObjRel w Z μ B u o → ObjRel w Z μ B u o') : HRel w Z B μ (hp.set i o') := by
 have hil := (List.getElem?_eq_some_iff.1 hi).1
 have get : ∀ (j : Nat) oj, (hp.set i o')[j]? = some oj → (j = i ∧ oj = o') ∨ (j ≠ i ∧ hp[j]? = some oj) := by
  intro j oj hj
  by_cases hji : j = i
  ·subst hji
   rw [List.getElem?_set_self hil] at hj
   simp at hj
   exact .inl ⟨rfl, hj.symm⟩
  ·rw [List.getElem?_set_ne (Ne.symm hji)] at hj
   exact .inr ⟨hji, hj⟩
 have old : ∀ (j : Nat) oj, (hp.set i o')[j]? = some oj → ∃ o1, hp[j]? = some o1 ∧ (oj.alive = true → o1.alive = true) := by
  intro j oj hj
  rcases get j oj hj with ⟨rfl, rfl⟩ | ⟨_, h1⟩
  ·exact ⟨o, hi, ha⟩
  ·exact ⟨oj, h1, id⟩
 refine ⟨by simpa using h.len, fun j oj u g h1 h2 h3 hg => ?_, h.one, fun j oj u h1 h2 => ?_, fun j k oj ok uj uk g hne h1 h2 a1 a2 m1 m2 b1 b2 => ?_⟩
 ·obtain ⟨o1, e1, f1⟩ := old j oj h1
  exact h.zone j o1 u g e1 (f1 h2) h3 hg
 ·rcases get j oj h1 with ⟨rfl, rfl⟩ | ⟨_, e1⟩
  ·exact ho u h2 (h.obj j o u hi h2)
  ·exact h.obj j oj u e1 h2
 ·obtain ⟨o1, e1, f1⟩ := old j oj h1
  obtain ⟨o2, e2, f2⟩ := old k ok h2
  exact h.sep j k o1 o2 uj uk g hne e1 e2 (f1 a1) (f2 a2) m1 m2 b1 b2

def weakN (v : Value) (n : Nat) : AV := .nam v none 0 n []
theorem weakN_of {w : World} {Z Z' : Nat → Prop} {μ μ' : List Value} {v x : Value} {o : Option Nat} {s n : Nat} {cs : List AV} (h : Rel w Z μ (.nam v o s n cs) x) : Rel w Z' μ' (weakN v n) x := by
 simp only [Rel, weakN] at h ⊢
 obtain ⟨⟨h0, _⟩, A, c, xs, h1, h2, h3, h4, h5⟩ := h
 exact ⟨⟨h0, fun e he => by cases he⟩, A, c, [], h1, by simp, h3, fun h => absurd rfl h, RelL.nil⟩
def thawS (j p t e s n : Nat) (v : Value) (cs : List AV) (el s1 n1 : Nat) (cells : List AV) (st : St) : St :=
 ⟨st.fr.set t (.ref st.hp.length), st.hp.set j (.list el s1 n1 (cells.set p (weakN v n))) ++ [.list e s n cs, .frame [v] [.ref st.hp.length]]⟩
theorem Sub.thaw (j p t k e s n el s1 n1 b : Nat) (v : Value) (cs cells : List AV) (st : St) (hj : st.hp[j]? = some (.list el s1 n1 cells)) (hp : cells[p]? = some (.nam v (some e) s n cs)) (ht : st.fr[t]? = some (.nam v (some e) s n cs)) (hcs : closedL cs = true)
  (hk : st.hp[k]? = some (.inert (.base b))) (hge : ∀ g, blk v = some g → b ≤ g) (hfr : ∀ i c, st.fr[i]? = some c → i ≠ t → Safe v c) (hcell : ∀ q c, cells[q]? = some c → q ≠ p → Safe v c) (hoth : ∀ i o, st.hp[i]? = some o → i ≠ j → SafeO v o) :
  Sub st (thawS j p t e s n v cs el s1 n1 cells st) := by
 rintro Z0 w0 a w ⟨μ, F, hFb, hH, hF, hd, hb⟩
 have hjl := (List.getElem?_eq_some_iff.1 hj).1
 obtain ⟨x, hx, hrx⟩ := hF.get ht
 simp only [Rel] at hrx
 obtain ⟨⟨rfl, h00⟩, A, c, xs, h1, h2, h3, h4, h5⟩ := hrx
 obtain ⟨ys, hown, hyz⟩ := h00 e rfl
 have hxy : xs = ys := own_read hown h1 (by rw [h5.length, h2]) h4
 subst hxy
 have hB : ∀ g, blk x = some g → w0.heap.size ≤ g := fun g hg => by
  have hkl : k < μ.length := by rw [hH.len]; exact (List.getElem?_eq_some_iff.1 hk).1
  have h1 := hH.obj k _ _ hk (List.getElem?_eq_getElem hkl)
  obtain ⟨_, rfl⟩ := h1
  exact hge g hg
 have hz : ∀ b, ¬ Zone Z0 F w0.heap.size b → blk x ≠ some b → ¬ Zone Z0 (fun b => F b ∧ blk x ≠ some b) w0.heap.size b := fun b h1 h2 hzz => h1 (hzz.elim .inl (fun h => .inr ⟨h.1, fun hf => h.2 ⟨hf, h2⟩⟩))
 have hzz : ∀ b, Zone Z0 F w0.heap.size b → Zone Z0 (fun b => F b ∧ blk x ≠ some b) w0.heap.size b := fun b h => h.elim .inl (fun h => .inr ⟨h.1, fun hf => h.2 hf.1⟩)
 have hm : ∀ (i : Nat) (u : Value), μ[i]? = some u → (μ ++ [x, .bool false])[i]? = some u := fun i u h => append_old i u h
 have hml : (μ ++ [x, .bool false])[st.hp.length]? = some x := by rw [← hH.len]; simp
 have hSc : ∀ {μ1 μ2 : List Value}, (∀ (i : Nat) (u : Value), μ1[i]? = some u → μ2[i]? = some u) → ∀ {c : AV} {v : Value}, Safe x c → Rel w (Zone Z0 F w0.heap.size) μ1 c v → Rel w (Zone Z0 (fun b => F b ∧ blk x ≠ some b) w0.heap.size) μ2 c v := fun hm _ _ hs hr => Rel.thaw (g := blk x) hz hm hs.1 hs.2 hr
 have hSl : ∀ {μ1 μ2 : List Value}, (∀ (i : Nat) (u : Value), μ1[i]? = some u → μ2[i]? = some u) → ∀ {c : List AV} {v : List Value}, SafeL x c → RelL w (Zone Z0 F w0.heap.size) μ1 c v → RelL w (Zone Z0 (fun b => F b ∧ blk x ≠ some b) w0.heap.size) μ2 c v := fun hm _ _ hs hr => RelL.thaw (g := blk x) hz hm hs.1 hs.2 hr
 refine ⟨μ ++ [x, .bool false], fun b => F b ∧ blk x ≠ some b, fun b h => hFb b h.1, ?_, ?_, hd.keep (fun i y hi => ⟨?_, fun u hu => hm i u hu⟩), hb⟩
 rotate_left
 ·refine relL_of_get (by rw [hF.length]; simp [thawS]) (fun i c y hi hy => ?_)
  simp only [thawS] at hi
  by_cases hit : i = t
  ·subst hit
   rw [List.getElem?_set_self (List.getElem?_eq_some_iff.1 ht).1] at hi
   simp only [Option.some.injEq] at hi
   subst hi
   rw [hx] at hy
   cases hy
   simp only [Rel]
   exact hml
  ·rw [List.getElem?_set_ne (Ne.symm hit)] at hi
   obtain ⟨y', hy', hr⟩ := hF.get hi
   rw [hy] at hy'
   cases hy'
   exact hSc hm (hfr i c hi hit) hr
 ·have hne : j ≠ i := by
   rintro rfl
   rw [hj] at hi
   cases hi
  simp only [thawS]
  rw [List.getElem?_append_left (by simpa using (List.getElem?_eq_some_iff.1 hi).1), List.getElem?_set_ne hne]
  exact hi
 -- objects
 have get : ∀ (i : Nat) o u, (thawS j p t e s n x cs el s1 n1 cells st).hp[i]? = some o → (μ ++ [x, .bool false])[i]? = some u →
   (i ≠ j ∧ st.hp[i]? = some o ∧ μ[i]? = some u) ∨ (i = j ∧ o = .list el s1 n1 (cells.set p (weakN x n)) ∧ μ[i]? = some u) ∨ (i = st.hp.length ∧ o = .list e s n cs ∧ u = x) ∨ (i = st.hp.length + 1 ∧ o = .frame [x] [.ref st.hp.length] ∧ u = .bool false) := by
  intro i o u h1 h2
  simp only [thawS] at h1
  rcases Nat.lt_or_ge i st.hp.length with hi | hi
  ·rw [List.getElem?_append_left (by simpa using hi)] at h1
   rw [List.getElem?_append_left (by rw [hH.len]; exact hi)] at h2
   by_cases hij : i = j
   ·subst hij
    rw [List.getElem?_set_self hi] at h1
    simp only [Option.some.injEq] at h1
    exact .inr (.inl ⟨rfl, h1.symm, h2⟩)
   ·rw [List.getElem?_set_ne (Ne.symm hij)] at h1
    exact .inl ⟨hij, h1, h2⟩
  ·rw [List.getElem?_append_right (by simpa using hi)] at h1
   rw [List.getElem?_append_right (by rw [hH.len]; exact hi), hH.len] at h2
   simp only [List.length_set] at h1
   rcases Nat.lt_trichotomy (i - st.hp.length) 1 with h | h | h
   ·have h0 : i - st.hp.length = 0 := by omega
    rw [h0] at h1 h2
    simp at h1 h2
    exact .inr (.inr (.inl ⟨by omega, h1.symm, h2.symm⟩))
   ·rw [h] at h1 h2
    simp at h1 h2
    exact .inr (.inr (.inr ⟨by omega, h1.symm, h2.symm⟩))
   ·rw [List.getElem?_eq_none (by simp; omega)] at h1
    cases h1
 have old : ∀ (i : Nat) o u, (thawS j p t e s n x cs el s1 n1 cells st).hp[i]? = some o → (μ ++ [x, .bool false])[i]? = some u → o.alive = true → (∃ o', st.hp[i]? = some o' ∧ o'.alive = true ∧ μ[i]? = some u) ∨ (i = st.hp.length ∧ u = x) := by
  intro i o u h1 h2 ha
  rcases get i o u h1 h2 with ⟨_, e1, e2⟩ | ⟨rfl, rfl, e2⟩ | ⟨e1, rfl, e2⟩ | ⟨_, rfl, _⟩
  ·exact .inl ⟨o, e1, ha, e2⟩
  ·exact .inl ⟨_, hj, rfl, e2⟩
  ·exact .inr ⟨e1, e2⟩
  ·cases ha
 refine ⟨by simp [thawS, hH.len], fun i o u g h1 ha h2 hg => ?_, fun i u hu => ?_, fun i o u h1 h2 => ?_, fun i i2 o o2 u u2 g hne h1 h2 a1 a2 m1 m2 b1 b2 => ?_⟩
 ·rcases old i o u h1 h2 ha with ⟨o', e1, e2, e3⟩ | ⟨_, rfl⟩
  ·exact hzz g (hH.zone i o' u g e1 e2 e3 hg)
  ·exact .inr ⟨hB g hg, fun hf => hf.2 hg⟩
 ·rcases Nat.lt_or_ge i μ.length with hi | hi
  ·rw [List.getElem?_append_left hi] at hu
   exact hH.one i u hu
  ·rw [List.getElem?_append_right hi] at hu
   rcases Nat.lt_trichotomy (i - μ.length) 1 with h | h | h
   ·have h0 : i - μ.length = 0 := by omega
    rw [h0] at hu
    simp at hu
    subst hu
    rw [h1]; rfl
   ·rw [h] at hu
    simp at hu
    subst hu
    rfl
   ·rw [List.getElem?_eq_none (by simp; omega)] at hu
    cases hu
 ·rcases get i o u h1 h2 with ⟨hij, e1, e2⟩ | ⟨rfl, rfl, e2⟩ | ⟨_, rfl, rfl⟩ | ⟨_, rfl, rfl⟩
  ·have hO := hH.obj i o u e1 e2
   have hs := hoth i o e1 hij
   cases o with
   | box t ds => obtain ⟨g, zs, e1, e2, e3, e4⟩ := hO; exact ⟨g, zs, e1, e2, e3, hSl hm hs e4⟩
   | list e s n ds => obtain ⟨zs, e1, e2⟩ := hO; exact ⟨zs, e1, hSl (fun _ _ h => h) hs e2⟩
   | dead => trivial
   | frame us ds => exact hSl hm hs hO
   | inert y =>
    cases y with
    | base b' => exact hO
    | mark D => exact hs.elim
    | lrec D s us ps asg bd => exact hs.elim
    | map P k e ks => exact hs.elim
  ·obtain ⟨zs, e1, e3⟩ := hH.obj i _ u hj e2
   refine ⟨zs, e1, relL_of_get (by rw [e3.length]; simp) (fun q c y hq hy => ?_)⟩
   by_cases hqp : q = p
   ·subst hqp
    rw [List.getElem?_set_self (List.getElem?_eq_some_iff.1 hp).1] at hq
    simp only [Option.some.injEq] at hq
    subst hq
    obtain ⟨y', hy', hr⟩ := e3.get hp
    rw [hy] at hy'
    cases hy'
    exact weakN_of hr
   ·rw [List.getElem?_set_ne (Ne.symm hqp)] at hq
    obtain ⟨y', hy', hr⟩ := e3.get hq
    rw [hy] at hy'
    cases hy'
    exact hSc (fun _ _ h => h) (hcell q c hq hqp) hr
  ·exact ⟨xs, ownsRow_from hown hB, RelL.shut hcs h5⟩
  ·exact RelL.cons (by simp only [Rel]; exact hml) RelL.nil
 ·rcases old i o u h1 m1 a1 with ⟨o', e1, e2, e3⟩ | ⟨e1, rfl⟩ <;> rcases old i2 o2 u2 h2 m2 a2 with ⟨o2', f1, f2, f3⟩ | ⟨f1, rfl⟩
  ·exact hH.sep i i2 o' o2' u u2 g hne e1 f1 e2 f2 e3 f3 b1 b2
  ·exact hyz g b2 (hH.zone i o' u g e1 e2 e3 b1)
  ·exact hyz g b1 (hH.zone i2 o2' u2 g f1 f2 f3 b2)
  ·omega
def pinS (j p k e s n : Nat) (v : Value) (cs : List AV) (el s1 n1 : Nat) (cells : List AV) (st : St) : St :=
 ⟨(frzS k (.nam v (some e) s n cs) st).fr, ((frzS k (.nam v (some e) s n cs) st).hp.set j (.list el s1 n1 (cells.set p (.nam v (some e) s n cs)))).set (k + 1) .dead⟩
theorem Sub.repin (j p k e s n el s1 n1 n0 : Nat) (v : Value) (cs cells : List AV) (st : St) (hj : st.hp[j]? = some (.list el s1 n1 cells)) (hp : cells[p]? = some (weakN v n0)) (hk : st.hp[k]? = some (.list e s n cs)) (hk1 : st.hp[k + 1]? = some (.frame [v] [.ref k])) (hjk : j ≠ k) :
  Sub st (pinS j p k e s n v cs el s1 n1 cells st) := by
 intro Z0 w0 a w hS
 obtain ⟨u, _, μ, F, hFb, hH, hF, hd, hb⟩ := SubE.pin k e s n cs st hk Z0 w0 a w hS
 have hml : μ.length = (frzS k (.nam u (some e) s n cs) st).hp.length := hH.len
 have hkl := (List.getElem?_eq_some_iff.1 hk1).1
 have hjl := (List.getElem?_eq_some_iff.1 hj).1
 have hL : (frzS k (.nam u (some e) s n cs) st).hp.length = st.hp.length := by simp [frzS]
 have hfr : (frzS k (.nam u (some e) s n cs) st).hp[k + 1]? = some (.frame [v] [.nam u (some e) s n cs]) := by
  simp only [frzS]
  rw [List.getElem?_set_ne (by omega), List.getElem?_map, hk1]
  simp [AObj.frz, frzL, frzV]
 have hjj : (frzS k (.nam u (some e) s n cs) st).hp[j]? = some (.list el s1 n1 cells) := by
  simp only [frzS]
  rw [List.getElem?_set_ne (Ne.symm hjk), List.getElem?_map, hj]
  rfl
 have hO := hH.obj (k + 1) _ _ hfr (List.getElem?_eq_getElem (by omega))
 obtain ⟨y, ys, hy, hr, hys⟩ := hO
 cases hy
 have huv : v = u := by
  have h2 := hr
  simp only [Rel] at h2
  exact h2.1.1
 subst huv
 have hr0 := Rel.leafy (by rfl) hr
 refine ⟨μ, F, hFb, ?_, hF, hd.keep (fun i x hi => ⟨?_, fun u hu => hu⟩), hb⟩
 ·have h1 := hH.swapO (i := j) (o' := .list el s1 n1 (cells.set p (.nam v (some e) s n cs))) hjj (fun _ => rfl) (fun u hu hO => ?_)
  ·exact h1.swapO (i := k + 1) (o' := .dead) (o := .frame [v] [.nam v (some e) s n cs]) (by rw [List.getElem?_set_ne (by rintro rfl; rw [hfr] at hjj; cases hjj)]; exact hfr) (fun h => by cases h) (fun _ _ _ => trivial)
  ·obtain ⟨zs, e1, e3⟩ := hO
   refine ⟨zs, e1, relL_of_get (by rw [e3.length]; simp) (fun q c y hq hy => ?_)⟩
   by_cases hqp : q = p
   ·subst hqp
    rw [List.getElem?_set_self (List.getElem?_eq_some_iff.1 hp).1] at hq
    simp only [Option.some.injEq] at hq
    subst hq
    obtain ⟨y', hy', hr2⟩ := e3.get hp
    rw [hy] at hy'
    cases hy'
    have h3 := hr2
    simp only [weakN, Rel] at h3
    rw [h3.1.1]
    exact hr0
   ·rw [List.getElem?_set_ne (Ne.symm hqp)] at hq
    obtain ⟨y', hy', hr⟩ := e3.get hq
    rw [hy] at hy'
    cases hy'
    exact hr
 ·have h1 : j ≠ i := by rintro rfl; rw [hjj] at hi; cases hi
  have h2 : k + 1 ≠ i := by rintro rfl; rw [hfr] at hi; cases hi
  simp only [pinS]
  rw [List.getElem?_set_ne h2, List.getElem?_set_ne h1]
  exact hi
section
variable {rd : Option Nat} {P : Program} {m : M} {Q : Exit → St → Prop}
theorem R.thaw (j p t k e s n el s1 n1 b : Nat) (v : Value) (cs cells : List AV) (h : subOk m = true) (hj : m.st.hp[j]? = some (.list el s1 n1 cells)) (hp : cells[p]? = some (.nam v (some e) s n cs)) (ht : m.st.fr[t]? = some (.nam v (some e) s n cs)) (hcs : closedL cs = true)
  (hk : m.st.hp[k]? = some (.inert (.base b))) (hge : ∀ g, blk v = some g → b ≤ g) (hfr : SafeL v (m.st.fr.set t .top)) (hcell : ∀ q c, cells[q]? = some c → q ≠ p → Safe v c) (hoth : ∀ o ∈ m.st.hp.set j .dead, SafeO v o)
  (h' : Runs rd P ⟨m.ks, thawS j p t e s n v cs el s1 n1 cells m.st⟩ Q) : Runs rd P m Q :=
 R.sub _ h (Sub.thaw j p t k e s n el s1 n1 b v cs cells m.st hj hp ht hcs hk hge (fun i c hi hit => safeL_iff.1 hfr c (List.mem_of_getElem? (i := i) (by rw [List.getElem?_set_ne (Ne.symm hit)]; exact hi))) hcell
  (fun i o hi hij => hoth o (List.mem_of_getElem? (i := i) (by rw [List.getElem?_set_ne (Ne.symm hij)]; exact hi)))) h'
theorem R.repin (j p k e s n el s1 n1 n0 : Nat) (v : Value) (cs cells : List AV) (h : subOk m = true) (hj : m.st.hp[j]? = some (.list el s1 n1 cells)) (hp : cells[p]? = some (weakN v n0)) (hk : m.st.hp[k]? = some (.list e s n cs)) (hk1 : m.st.hp[k + 1]? = some (.frame [v] [.ref k])) (hjk : j ≠ k)
  (h' : Runs rd P ⟨m.ks, pinS j p k e s n v cs el s1 n1 cells m.st⟩ Q) : Runs rd P m Q :=
 R.sub _ h (Sub.repin j p k e s n el s1 n1 n0 v cs cells m.st hj hp hk hk1 hjk) h'
end

mutual
def nameable : AV → Bool
 | .lst _ _ cs => nameableL cs
 | .agg cs => nameableL cs
 | .int _ _ => true
 | .bool _ => true
 | .nil => true
 | .nam _ _ _ _ _ => false
 | .clp _ _ _ => false
 | .rptr _ => false
 | .tup _ => false
 | .fn _ _ => false
 | .str _ => true
 | .ref _ => false
 | .ptr _ _ => false
 | .own _ _ _ _ => false
 | .top => true
def nameableL : List AV → Bool
 | [] => true
 | c :: cs => nameable c && nameableL cs
end
structure ByN (c' c : AV) : Prop where
 leafy : c'.leafy = true
 raw : NoRaw c' = true
 fgt : ∀ (w : World) (Z : Nat → Prop) v, Rel w Z [] c' v → Rel w Z [] c v
structure ByNL (c' c : List AV) : Prop where
 leafy : leafyL c' = true
 raw : NoRawL c' = true
 fgt : ∀ (w : World) (Z : Nat → Prop) v, RelL w Z [] c' v → RelL w Z [] c v
mutual
theorem name_of {w : World} {Z : Nat → Prop} : ∀ {c : AV} {v : Value}, nameable c = true → Rel w Z [] c v → ∃ c', ByN c' c ∧ Rel w Z [] c' v
 | .lst s n cs, v, h, hr => by
  simp only [nameable] at h
  simp only [Rel] at hr
  obtain ⟨A, c, xs, h1, h2, h3, h4, h5⟩ := hr
  obtain ⟨cs', ⟨k1, k2, k3⟩, k4⟩ := nameL_of h h5
  refine ⟨.nam v none s n cs', ⟨rfl, by simpa [NoRaw] using k2, fun w Z x hx => ?_⟩, ?_⟩
  ·simp only [Rel] at hx ⊢
   obtain ⟨_, A, c, xs', e1, e2, e3, e4, e5⟩ := hx
   exact ⟨A, c, xs', e1, by rw [← h2, ← h5.length, k4.length, e2, ← e2, ← k4.length, h5.length, h2] , e3, e4, k3 _ _ _ e5⟩
  ·simp only [Rel]
   exact ⟨⟨trivial, fun e he => by cases he⟩, A, c, xs, h1, by rw [← k4.length, h5.length, h2], h3, h4, k4⟩
 | .agg cs, v, h, hr => by
  simp only [nameable] at h
  simp only [Rel] at hr
  obtain ⟨xs, h1, h5⟩ := hr
  obtain ⟨cs', ⟨k1, k2, k3⟩, k4⟩ := nameL_of h h5
  refine ⟨.agg cs', ⟨by simpa [AV.leafy] using k1, by simpa [NoRaw] using k2, fun w Z x hx => ?_⟩, ?_⟩
  ·simp only [Rel] at hx ⊢
   obtain ⟨xs', e1, e5⟩ := hx
   exact ⟨xs', e1, k3 _ _ _ e5⟩
  ·simp only [Rel]
   exact ⟨xs, h1, k4⟩
 | .int k n, v, _, hr => ⟨.int k n, ⟨rfl, rfl, fun _ _ _ h => h⟩, hr⟩
 | .bool b, v, _, hr => ⟨.bool b, ⟨rfl, rfl, fun _ _ _ h => h⟩, hr⟩
 | .str b, v, _, hr => ⟨.str b, ⟨rfl, rfl, fun _ _ _ h => h⟩, hr⟩
 | .nil, v, _, hr => ⟨.nil, ⟨rfl, rfl, fun _ _ _ h => h⟩, hr⟩
 | .top, v, _, hr => ⟨.top, ⟨rfl, rfl, fun _ _ _ h => h⟩, hr⟩
 | .nam _ _ _ _ _, _, h, _ => by simp [nameable] at h
 | .clp _ _ _, _, h, _ => by simp [nameable] at h
 | .rptr _, _, h, _ => by simp [nameable] at h
 | .tup _, _, h, _ => by simp [nameable] at h
 | .fn _ _, _, h, _ => by simp [nameable] at h
 | .ref _, _, h, _ => by simp [nameable] at h
 | .ptr _ _, _, h, _ => by simp [nameable] at h
 | .own _ _ _ _, _, h, _ => by simp [nameable] at h
theorem nameL_of {w : World} {Z : Nat → Prop} : ∀ {c : List AV} {v : List Value}, nameableL c = true → RelL w Z [] c v → ∃ c', ByNL c' c ∧ RelL w Z [] c' v
 | [], v, _, hr => ⟨[], ⟨rfl, rfl, fun _ _ _ h => h⟩, hr⟩
 | c :: cs, v, h, hr => by
  simp only [nameableL, Bool.and_eq_true] at h
  simp only [RelL] at hr
  obtain ⟨x, xs, rfl, h1, h2⟩ := hr
  obtain ⟨c', ⟨k1, k2, k3⟩, k4⟩ := name_of h.1 h1
  obtain ⟨cs', ⟨l1, l2, l3⟩, l4⟩ := nameL_of h.2 h2
  refine ⟨c' :: cs', ⟨by simp [leafyL, k1, l1], by simp [NoRawL, k2, l2], fun w Z v hv => ?_⟩, RelL.cons k4 l4⟩
  simp only [RelL] at hv ⊢
  obtain ⟨x, xs, e1, e2, e3⟩ := hv
  exact ⟨x, xs, e1, k3 _ _ _ e2, l3 _ _ _ e3⟩
end
theorem SubE.name (t : Nat) (c : AV) (st : St) (ht : st.fr[t]? = some c) (hn : nameable c = true) (hl : c.leafy = true) : SubE st (fun c' => ⟨st.fr.set t c', st.hp⟩) (fun c' => ByN c' c) := by
 rintro Z0 w0 a w ⟨μ, F, hFb, hH, hF, hd, hb⟩
 obtain ⟨x, hx, hr⟩ := hF.get ht
 obtain ⟨c', h1, h2⟩ := name_of hn (Rel.leafy hl hr)
 refine ⟨c', h1, μ, F, hFb, hH, ?_, hd, hb⟩
 have h3 := hF.set t h2.lift
 rwa [show a.tmps.toList.set t x = a.tmps.toList by
  apply List.ext_getElem?
  intro i
  by_cases hi : i = t
  ·subst hi; rw [List.getElem?_set_self (List.getElem?_eq_some_iff.1 hx).1, hx]
  ·rw [List.getElem?_set_ne (Ne.symm hi)]] at h3
section
variable {rd : Option Nat} {P : Program} {m : M} {Q : Exit → St → Prop}
theorem R.name (t : Nat) (c : AV) (h : subOk m = true) (ht : m.st.fr[t]? = some c) (hn : nameable c = true) (hl : c.leafy = true) (h' : ∀ c', ByN c' c → Runs rd P ⟨m.ks, ⟨m.st.fr.set t c', m.st.hp⟩⟩ Q) : Runs rd P m Q :=
 R.subE _ _ h (SubE.name t c m.st ht hn hl) h'
end
end Go.Abs
