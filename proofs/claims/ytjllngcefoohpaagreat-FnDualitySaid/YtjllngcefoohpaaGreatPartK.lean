/- Texts of the proof: HE1, HY4. -/
import Derived.Test.YtjllngcefoohpaaGreatPartJ

/-! What both packages take for a Heyting algebra: tables, orders. -/
namespace Go.Proofs.YtjllngcefoohpaaGreat
open Go.RowKit Go.Abs
def fidxR (p : List Int → Bool) : List (List Int) → Int → Int
 | [], _ => -1
 | x :: l, i => if p x = true then i else fidxR p l (i + 1)
theorem drop_consR (a : List (List Int)) (i : Nat) (h : i < a.length) : a.drop i = a.getD i [] :: a.drop (i + 1) := by
 rw [List.drop_eq_getElem_cons h, List.getD_eq_getElem?_getD, List.getElem?_eq_getElem h]; rfl
theorem fidxR_hit {p : List Int → Bool} {a : List (List Int)} {i : Nat} (h : i < a.length) (hp : p (a.getD i []) = true) : fidxR p (a.drop i) i = i := by
 rw [drop_consR a i h, fidxR, if_pos hp]
theorem fidxR_miss {p : List Int → Bool} {a : List (List Int)} {i : Nat} (h : i < a.length) (hp : p (a.getD i []) = false) : fidxR p (a.drop i) i = fidxR p (a.drop (i + 1)) ((i + 1 : Nat) : Int) := by
 rw [drop_consR a i h, fidxR, if_neg (by rw [hp]; decide)]
 rfl
theorem fidxR_end {p : List Int → Bool} {a : List (List Int)} {i : Nat} (h : a.length ≤ i) : fidxR p (a.drop i) i = -1 := by
 rw [List.drop_eq_nil_of_le h, fidxR]
theorem fidxR_any {p : List Int → Bool} : ∀ {a : List (List Int)} {i : Int}, 0 ≤ i → (0 ≤ fidxR p a i ↔ a.any p = true)
 | [], i, h => by simp [fidxR]
 | x :: l, i, h => by
  have ih := fidxR_any (p := p) (a := l) (i := i + 1) (by omega)
  rw [fidxR, List.any_cons]
  by_cases e : p x = true
  ·rw [if_pos e, e]; simpa using h
  ·rw [if_neg e, ih]
   have e2 : p x = false := by simpa using e
   rw [e2, Bool.false_or]
def outN (N : Nat) (x : Int) : Bool := !inR x 0 ((N : Int) - 1)
def badR (N : Nat) (r : List Int) : Bool := decide ((r.length : Int) ≠ (N : Int)) || r.any (outN N)
theorem outN_no {N : Nat} {x : Int} : outN N x = false ↔ 0 ≤ x ∧ x < (N : Int) := by
 rw [outN, Bool.not_eq_false', inR_iff]; omega
theorem badR_no {N : Nat} {r : List Int} : badR N r = false ↔ r.length = N ∧ ∀ x ∈ r, 0 ≤ x ∧ x < (N : Int) := by
 rw [badR, Bool.or_eq_false_iff, decide_eq_false_iff_not, List.any_eq_false]
 refine and_congr ⟨fun h => by omega, fun h => by omega⟩ ⟨fun h x hx => ?_, fun h x hx => ?_⟩
 ·have := h x hx
  exact outN_no.1 (by simpa using this)
 ·rw [outN_no.2 (h x hx)]; decide
theorem tabB_any {N : Nat} {A : List (List Int)} : tabB N A = (decide ((A.length : Int) = (N : Int)) && !A.any (badR N)) := by
 rw [Bool.eq_iff_iff]
 simp only [tabB, Bool.and_eq_true, decide_eq_true_eq, List.all_eq_true, Bool.not_eq_true', List.any_eq_false]
 refine and_congr ⟨fun h => by omega, fun h => by omega⟩ ⟨fun h r hr => ?_, fun h r hr => ?_⟩
 ·rw [badR_no.2 (h r hr)]; decide
 ·exact badR_no.1 (by simpa using h r hr)
theorem tabB_l {N : Nat} {A : List (List Int)} (h : ¬ (A.length : Int) = (N : Int)) : false = tabB N A := by rw [tabB_any, decide_eq_false h]; rfl
theorem tabB_b {N : Nat} {A : List (List Int)} (h : (A.length : Int) = (N : Int)) : (!A.any (badR N)) = tabB N A := by rw [tabB_any, decide_eq_true h]; rfl
theorem badR_l {N : Nat} {r : List Int} (h : ¬ (r.length : Int) = (N : Int)) : true = badR N r := by rw [badR, decide_eq_true h]; rfl
theorem badR_b {N : Nat} {r : List Int} (h : (r.length : Int) = (N : Int)) : r.any (outN N) = badR N r := by rw [badR, decide_eq_false (fun q => q h)]; rfl
def goodR (N : Nat) (r : List Int) : Prop := r.length = N ∧ ∀ j : Nat, j < r.length → 0 ≤ r.getD j 0 ∧ r.getD j 0 < (N : Int)
theorem tabB_go {N : Nat} {A : List (List Int)} (h : A.length = N) (hr : ∀ i : Nat, i < A.length → goodR N (A.getD i [])) : true = tabB N A := (tabB_iff.2 ⟨h, hr⟩).symm
theorem tabB_n {N : Nat} {A : List (List Int)} {i : Nat} (hi : i < A.length) (h : ¬ goodR N (A.getD i [])) : false = tabB N A := by
 cases e : tabB N A with
 | false => rfl
 | true => exact absurd ((tabB_iff.1 e).2 i hi) h
def rwW (P : Nat → Nat → Bool) (N x y : Nat) : List Int := (rowT (fun x => mkB (P x) N) N x).set x (mkB (P x) y)
theorem rwW_len (P : Nat → Nat → Bool) (N x y : Nat) : (rwW P N x y).length = N := by simp [rwW, rowT_len]
theorem rwW_get {P : Nat → Nat → Bool} {N x y : Nat} (h : x < N) : (rwW P N x y).getD x 0 = mkB (P x) y := by rw [rwW, getD_set_if _ _ _ _ _ (by rw [rowT_len]; exact h), if_pos rfl]
theorem rwW_zero {P : Nat → Nat → Bool} {N x : Nat} (h : x < N) : rowT (fun x => mkB (P x) N) N x = rwW P N x 0 := by
 refine rowN_ext (rowT_len _ _ _) (rwW_len _ _ _ _) fun j hj => ?_
 rw [rwW, getD_set_if _ _ _ _ _ (by rw [rowT_len]; exact h)]
 by_cases e : x = j
 ·subst e; rw [if_pos rfl, rowT_get hj, if_neg (by omega)]; rfl
 ·rw [if_neg e]
theorem rwW_yes {P : Nat → Nat → Bool} {N x y : Nat} (hx : x < N) (h : P x y = true) : (rwW P N x y).set x (bor ((rwW P N x y).getD x 0) (shl64 1 (y : Int))) = rwW P N x (y + 1) := by
 rw [rwW_get hx, rwW, List.set_set, rwW, mkB_yes (P := P x) h]
theorem rwW_no {P : Nat → Nat → Bool} {N x y : Nat} (h : P x y = false) : rwW P N x y = rwW P N x (y + 1) := by
 rw [rwW, rwW, mkB_no (P := P x) (k := y) h]
theorem rwW_end {P : Nat → Nat → Bool} {N x y : Nat} (hx : x < N) (hy : y = N) : rwW P N x y = rowT (fun x => mkB (P x) N) N (x + 1) := by
 subst hy; exact rowT_set hx rfl
theorem ordT_row {A : List (List Int)} {x : Nat} (h : x = A.length) : rowT (fun x => mkB (ordB A x) A.length) A.length x = ordT A := rowT_end h
theorem ordT_rowR {A : List (List Int)} {x : Nat} (h : x = A.length) : rowR (fun x => mkB (ordB A x) A.length) x = ordT A := by rw [h]; rfl
theorem ordB_yes {A : List (List Int)} {x y : Nat} (h : (A.getD x []).getD y 0 = (x : Int)) : ordB A x y = true := decide_eq_true h
theorem ordB_no {A : List (List Int)} {x y : Nat} (h : ¬ (A.getD x []).getD y 0 = (x : Int)) : ordB A x y = false := decide_eq_false h
theorem mkO_row {A : List (List Int)} {x y : Nat} (h : y = A.length) : rowR (fun x => mkB (ordB A x) A.length) x ++ [mkB (ordB A x) y] = rowR (fun x => mkB (ordB A x) A.length) (x + 1) := by subst h; exact rowR_snoc
theorem hyIs_n {A O J : List (List Int)} {b t : Int} (h : hyIs A O J b t ≠ true) : false = hyIs A O J b t := by
 cases e : hyIs A O J b t with
 | false => rfl
 | true => exact absurd e h
theorem hyIs_1 {A O J : List (List Int)} {b t : Int} (h : ¬ (1 ≤ A.length ∧ A.length ≤ 30)) : false = hyIs A O J b t := hyIs_n fun e => h (hyIs_parts.1 e).1
theorem hyIs_2 {A O J : List (List Int)} {b t : Int} (h : ¬ tabB A.length A = true) : false = hyIs A O J b t := hyIs_n fun e => h (hyIs_parts.1 e).2.1
theorem hyIs_3 {A O J : List (List Int)} {b t : Int} (h : ¬ tabB A.length O = true) : false = hyIs A O J b t := hyIs_n fun e => h (hyIs_parts.1 e).2.2.1
theorem hyIs_4 {A O J : List (List Int)} {b t : Int} (h : ¬ tabB A.length J = true) : false = hyIs A O J b t := hyIs_n fun e => h (hyIs_parts.1 e).2.2.2.1
theorem hyIs_5 {A O J : List (List Int)} {b t : Int} (h : hyB (ordT A) = false) : false = hyIs A O J b t := hyIs_n fun e => by rw [(hyIs_parts.1 e).2.2.2.2.1] at h; cases h
theorem hyIs_6 {A O J : List (List Int)} {b t : Int} (h1 : 1 ≤ A.length ∧ A.length ≤ 30) (h2 : tabB A.length A = true) (h3 : tabB A.length O = true) (h4 : tabB A.length J = true) (h5 : hyB (ordT A) = true) :
  decide (b = lowF (ordT A) (fullM A.length) ∧ t = lowF (invA (ordT A) A.length) (fullM A.length) ∧ A = tabR (hyM (ordT A)) A.length A.length ∧ O = tabR (hyJ (ordT A)) A.length A.length ∧ J = tabR (hyI (ordT A)) A.length A.length) = hyIs A O J b t := by
 rw [Bool.eq_iff_iff, hyIs_parts, decide_eq_true_iff]
 exact ⟨fun q => ⟨h1, h2, h3, h4, h5, q⟩, fun q => q.2.2.2.2.2⟩
theorem hsize_c (A : List (List Int)) (O : List (List Int)) (J : List (List Int)) (b : Int) (t : Int) : CallA Tryz.prog 55 [.agg [LLI A, LLI O, LLI J, AI b, AI t]] (AI A.length) := by
 refine CallA.of Tryz.func55 rfl (by kernel_rfl) ?_
 exact R.go 12 (R.retE (AI A.length) (by kernel_rfl) (by kernel_rfl) (by rfl))
theorem l18Size_c (A : List (List Int)) (O : List (List Int)) (J : List (List Int)) (b : Int) (t : Int) : CallA Tryz.prog 138 [.agg [LLI A, LLI O, LLI J, AI b, AI t]] (AI A.length) := by
 refine CallA.of Tryz.func138 rfl (by kernel_rfl) ?_
 exact R.go 12 (R.retE (AI A.length) (by kernel_rfl) (by kernel_rfl) (by rfl))
theorem hasElH_c (A O J : List (List Int)) (b t x : Int) (la : A.length ≤ 1000000000) : CallA Tryz.prog 79 [.agg [LLI A, LLI O, LLI J, AI b, AI t], AI x] (.bool (inR x 0 ((A.length : Int) - 1))) := by
 refine CallA.of Tryz.func79 rfl (by kernel_rfl) (R.go 9 (k16 true (hsize_c A O J b t) (k1 ((A.length : Int) - 1) (k16 true (inRange_c x 0 ((A.length : Int) - 1)) ?_))))
 exact R.go 2 (k19 (.bool (inR x 0 ((A.length : Int) - 1))) (by rfl))
theorem isTab11_c (A O J : List (List Int)) (b t x : Int) (la : A.length ≤ 1000000000) : CallA Tryz.prog 238 [AI x, .rptr [LLI A, LLI O, LLI J, AI b, AI t]] (.bool (outN A.length x)) := by
 refine CallA.of Tryz.func238 rfl (by kernel_rfl) (R.go 8 (k16 true (hasElH_c A O J b t x la) ?_))
 exact R.go 3 (k19 (.bool (!(inR x 0 ((A.length : Int) - 1)))) (by first | (rfl) | (exfalso; omega)))
theorem indexTb_c (r : List Int) (A O J : List (List Int)) (b t : Int) (hl : r.length ≤ 1000000000) (la : A.length ≤ 1000000000) : CallA Tryz.prog 172 [LI r, .fn 238 [.rptr [LLI A, LLI O, LLI J, AI b, AI t]]] (AI (fidxI (outN A.length) r 0)) := by
 refine CallA.of Tryz.func172 rfl (by kernel_rfl) (R.go 12 (k17 (fun (i : Nat) => (⟨(frm 19 [(0, LI r), (1, .fn 238 [.rptr [LLI A, LLI O, LLI J, AI b, AI t]]), (7, AI r.length), (8, AI (i : Int))]), []⟩ : St)) (fun (i : Nat) => (i ≤ r.length) ∧ (fidxI (outN A.length) r 0 = fidxI (outN A.length) (r.drop i) i)) (fun (i : Nat) => r.length - i) 0 [0, 1, 7, 8] none ⟨(by omega), (by rfl)⟩ ?_))
 rintro i ⟨h3_1, h3_2⟩ R1 N2
 refine R.go 5 (k3 ((i : Int) < (r.length : Int)) (fun c4 => ?_) (fun c4 => ?_))
 ·refine R.go 13 (k9 eI r 0 i (i : Int) eI_len (R.go 1 (k16 true (isTab11_c A O J b t (r.getD i 0) la) (R.go 1 (R.condB (outN A.length (r.getD i 0)) (by kernel_rfl) (fun c5 => ?_) (fun c5 => ?_))))))
  ·exact R.go 5 (k19 (AI (i : Int)) (by first | (apply congrArg AI; rw [‹fidxI (outN A.length) r 0 = _›]; first | exact (fidxI_end (by omega)).symm | exact (fidxI_hit (by omega) (by assumption)).symm) | (exfalso; omega)))
  refine R.go 3 (k1 ((i : Int) + 1) ?_)
  exact R.go 2 (k18 R1 (N2 (i + 1) [0, 1, 7, 8] none _ (by kernel_rfl) (by kernel_rfl) ⟨(by omega), (by rw [‹fidxI (outN A.length) r 0 = _›]; exact fidxI_miss (by omega) (by assumption))⟩ (by show (r.length - (i + 1)) < (r.length - i); omega)))
 exact R.go 5 (k19 (AI (-1)) (by first | (apply congrArg AI; rw [‹fidxI (outN A.length) r 0 = _›]; first | exact (fidxI_end (by omega)).symm | exact (fidxI_hit (by omega) (by assumption)).symm) | (exfalso; omega)))
theorem containsTb_c (r : List Int) (A O J : List (List Int)) (b t : Int) (hl : r.length ≤ 1000000000) (la : A.length ≤ 1000000000) : CallA Tryz.prog 77 [LI r, .fn 238 [.rptr [LLI A, LLI O, LLI J, AI b, AI t]]] (.bool (r.any (outN A.length))) := by
 refine CallA.of Tryz.func77 rfl (by kernel_rfl) (R.go 8 (k16 true (indexTb_c r A O J b t hl la) ?_))
 exact R.go 3 (k19 (.bool (decide ((fidxI (outN A.length) r 0) ≥ 0))) (by first | (apply congrArg AV.bool; rw [Bool.eq_iff_iff, decide_eq_true_iff]; exact fidxI_any (Int.le_refl 0)) | (exfalso; omega)))
theorem isTab1_c (A O J : List (List Int)) (b t : Int) (r : List Int) (la : A.length ≤ 1000000000) (hr : r.length ≤ 1000000000) : CallA Tryz.prog 237 [LI r, .rptr [LLI A, LLI O, LLI J, AI b, AI t]] (.bool (badR A.length r)) := by
 refine CallA.of Tryz.func237 rfl (by kernel_rfl) (R.go 7 (k16 true (size_c r) (R.go 1 (k16 true (hsize_c A O J b t) (R.go 2 ?_)))))
 by_cases c1 : (r.length : Int) = (A.length : Int)
 ·refine k6 false (nF c1) ?_
  iterate 2 refine R.go 1 (k6 false (nF c1) ?_)
  refine k16 true (containsTb_c r A O J b t hr la) (k8 false (nF c1) ?_)
  exact R.go 2 (k19 (.bool (r.any (outN A.length))) (by first | (apply congrArg AV.bool; first | exact badR_l (by omega) | exact badR_b (by omega)) | (exfalso; omega)))
 iterate 3 refine k7 false (nT c1) ?_
 refine k8 true (nT c1) ?_
 exact R.go 2 (k19 (.bool true) (by first | (apply congrArg AV.bool; first | exact badR_l (by omega) | exact badR_b (by omega)) | (exfalso; omega)))
theorem indexTr_c (A O J : List (List Int)) (b t : Int) (t2 : List (List Int)) (la : A.length ≤ 1000000000) (hl : t2.length ≤ 1000000000) (mt2 : ∀ i0 : Nat, i0 < t2.length → (t2.getD i0 []).length ≤ 1000000000) : CallA Tryz.prog 324 [LLI t2, .fn 237 [.rptr [LLI A, LLI O, LLI J, AI b, AI t]]] (AI (fidxR (badR A.length) t2 0)) := by
 refine CallA.of Tryz.func324 rfl (by kernel_rfl) (R.go 12 (k17 (fun (i : Nat) => (⟨(frm 19 [(0, LLI t2), (1, .fn 237 [.rptr [LLI A, LLI O, LLI J, AI b, AI t]]), (7, AI t2.length), (8, AI (i : Int))]), []⟩ : St)) (fun (i : Nat) => (i ≤ t2.length) ∧ (fidxR (badR A.length) t2 0 = fidxR (badR A.length) (t2.drop i) i)) (fun (i : Nat) => t2.length - i) 0 [0, 1, 7, 8] none ⟨(by omega), (by rfl)⟩ ?_))
 rintro i ⟨h3_1, h3_2⟩ R1 N2
 refine R.go 5 (k3 ((i : Int) < (t2.length : Int)) (fun c4 => ?_) (fun c4 => ?_))
 ·have hj := mt2 i (by omega)
  refine R.go 13 (k9 eLI t2 [] i (i : Int) eLI_len (R.go 1 (k16 true (isTab1_c A O J b t (t2.getD i []) la (by first | omega | (simp <;> omega))) (R.go 1 (R.condB (badR A.length (t2.getD i [])) (by kernel_rfl) (fun c5 => ?_) (fun c5 => ?_))))))
  ·exact R.go 5 (k19 (AI (i : Int)) (by first | (apply congrArg AI; rw [‹fidxR (badR A.length) t2 0 = _›]; first | exact (fidxR_end (by omega)).symm | exact (fidxR_hit (by omega) (by assumption)).symm) | (exfalso; omega)))
  refine R.go 3 (k1 ((i : Int) + 1) ?_)
  exact R.go 2 (k18 R1 (N2 (i + 1) [0, 1, 7, 8] none _ (by kernel_rfl) (by kernel_rfl) ⟨(by omega), (by rw [‹fidxR (badR A.length) t2 0 = _›]; exact fidxR_miss (by omega) (by assumption))⟩ (by show (t2.length - (i + 1)) < (t2.length - i); omega)))
 exact R.go 5 (k19 (AI (-1)) (by first | (apply congrArg AI; rw [‹fidxR (badR A.length) t2 0 = _›]; first | exact (fidxR_end (by omega)).symm | exact (fidxR_hit (by omega) (by assumption)).symm) | (exfalso; omega)))
theorem containsTr_c (A O J : List (List Int)) (b t : Int) (t2 : List (List Int)) (la : A.length ≤ 1000000000) (hl : t2.length ≤ 1000000000) (mt2 : ∀ i0 : Nat, i0 < t2.length → (t2.getD i0 []).length ≤ 1000000000) : CallA Tryz.prog 236 [LLI t2, .fn 237 [.rptr [LLI A, LLI O, LLI J, AI b, AI t]]] (.bool (t2.any (badR A.length))) := by
 refine CallA.of Tryz.func236 rfl (by kernel_rfl) (R.go 8 (k16 true (indexTr_c A O J b t t2 la hl mt2) ?_))
 exact R.go 3 (k19 (.bool (decide ((fidxR (badR A.length) t2 0) ≥ 0))) (by first | (apply congrArg AV.bool; rw [Bool.eq_iff_iff, decide_eq_true_iff]; exact fidxR_any (Int.le_refl 0)) | (exfalso; omega)))
theorem sizeR0_c (t2 : List (List Int)) : CallA Tryz.prog 235 [LLI t2] (AI t2.length) := by
 refine CallA.of Tryz.func235 rfl (by kernel_rfl) ?_
 exact R.go 10 (R.retE (AI t2.length) (by kernel_rfl) (by kernel_rfl) (by rfl))
theorem isTable_c (A O J : List (List Int)) (b t : Int) (t2 : List (List Int)) (la : A.length ≤ 1000000000) (hl : t2.length ≤ 1000000000) (mt2 : ∀ i0 : Nat, i0 < t2.length → (t2.getD i0 []).length ≤ 1000000000) : CallA Tryz.prog 133 [.agg [LLI A, LLI O, LLI J, AI b, AI t], LLI t2] (.bool (tabB A.length t2)) := by
 refine CallA.of Tryz.func133 rfl (by kernel_rfl) (R.go 8 (k16 true (sizeR0_c t2) (R.go 1 (k16 true (hsize_c A O J b t) (R.go 2 ?_)))))
 by_cases c1 : (t2.length : Int) = (A.length : Int)
 ·refine k6 true (dT c1) ?_
  iterate 2 refine R.go 1 (k6 true (dT c1) ?_)
  refine k16 false (containsTr_c A O J b t t2 la hl mt2) (k6 true (dT c1) (R.go 1 (k8 true (dT c1) ?_)))
  exact R.go 2 (k19 (.bool (!(t2.any (badR A.length)))) (by first | (apply congrArg AV.bool; first | exact tabB_l (by omega) | exact tabB_b (by omega)) | (exfalso; omega)))
 iterate 4 refine k7 true (dF c1) ?_
 refine k8 false (dF c1) ?_
 exact R.go 2 (k19 (.bool false) (by first | (apply congrArg AV.bool; first | exact tabB_l (by omega) | exact tabB_b (by omega)) | (exfalso; omega)))
theorem order_c (A O J : List (List Int)) (b t : Int) (hT : tabB A.length A = true) (h30 : A.length ≤ 30) : CallA Tryz.prog 57 [.agg [LLI A, LLI O, LLI J, AI b, AI t]] (ownA eI 2 1 (ordT A)) := by
 have htl := fun (i : Nat) (hi : i < A.length) => (tabB_at hT hi).1
 refine CallA.of Tryz.func57 rfl (by kernel_rfl) (R.go 8 (k16 true (hsize_c A O J b t) (k15 eI 0 2 8 A.length A.length (R.go 11 (k17 ((fun | (x, R) => (⟨(frm 40 [(3, .ref 0), (12, LLI A), (13, AI A.length), (14, AI (x : Int))]), [rowA eI 2 1 R]⟩ : St) : Nat × (List Int) → St)) (fun | (x, R) => (x ≤ A.length) ∧ (R = rowT (fun x => mkB (ordB A x) A.length) A.length x)) (fun | (x, R) => A.length - x) (0, (List.replicate A.length 0)) [3, 12, 13, 14] (some [1]) ⟨(by omega), (by exact rowT_zero)⟩ ?_)))))
 rintro ⟨x, R⟩ ⟨h4_1, rfl⟩ R1 N2
 have hrl := rowT_len (fun x => mkB (ordB A x) A.length) A.length x
 refine R.go 5 (k3 ((x : Int) < (A.length : Int)) (fun c5 => ?_) (fun c5 => ?_))
 ·refine R.go 6 (k9 eLI A [] x (x : Int) eLI_len ?_)
  have htx := htl x (by omega)
  refine R.go 11 (k17 ((fun | (y, W) => (⟨(frm 40 [(3, .ref 0), (4, AI (x : Int)), (12, LLI A), (13, AI A.length), (14, AI (x : Int)), (19, LI (A.getD x [])), (20, AI ((A.getD x []).length)), (21, AI (y : Int))]), [rowA eI 2 1 W]⟩ : St) : Nat × (List Int) → St)) (fun | (y, W) => (y ≤ A.length) ∧ (W = rwW (ordB A) A.length x y)) (fun | (y, W) => A.length - y) (0, (rowT (fun x => mkB (ordB A x) A.length) A.length x)) [3, 4, 12, 13, 14, 19, 20, 21] none ⟨(by omega), (by exact rwW_zero (by omega))⟩ ?_)
  rintro ⟨y, W⟩ ⟨h9_1, rfl⟩ R6 N7
  have hwl := rwW_len (ordB A) A.length x y
  refine R.go 5 (k3 ((y : Int) < ((A.getD x []).length : Int)) (fun c10 => ?_) (fun c10 => ?_))
  ·refine R.go 6 (k9 eI (A.getD x []) 0 y (y : Int) eI_len ?_ (hj := by first | omega | (simp only [List.length_set]; omega) | (simp <;> omega)))
   refine R.go 10 (k3 (((A.getD x []).getD y 0) = (x : Int)) (fun c11 => ?_) (fun c11 => ?_))
   ·refine R.go 3 (k10 0 1 (rwW (ordB A) A.length x y).length x (x : Int) (k12 (rwW (ordB A) A.length x y) x (R.go 1 (R.shl 1 (y : Int) (by kernel_rfl) (by omega) (by kernel_rfl) (R.go 1 (k10 0 1 (rwW (ordB A) A.length x y).length x (x : Int) (k13 0 2 (rwW (ordB A) A.length x y) x (bor ((rwW (ordB A) A.length x y).getD x 0) (shl64 1 (y : Int))) (R.go 3 (k1 ((y : Int) + 1) ?_)))))))))
    exact R.go 2 (k18 R6 (N7 (y + 1, (rwW (ordB A) A.length x y).set x (bor ((rwW (ordB A) A.length x y).getD x 0) (shl64 1 (y : Int)))) [3, 4, 12, 13, 14, 19, 20, 21] none _ (by kernel_rfl) (by kernel_rfl) ⟨(by omega), (by first | exact rwW_yes (by omega) (ordB_yes (by assumption)) | exact rwW_no (ordB_no (by assumption)))⟩ (by show (A.length - (y + 1)) < (A.length - y); omega)))
   refine R.go 3 (k1 ((y : Int) + 1) ?_)
   exact R.go 2 (k18 R6 (N7 (y + 1, rwW (ordB A) A.length x y) [3, 4, 12, 13, 14, 19, 20, 21] none _ (by kernel_rfl) (by kernel_rfl) ⟨(by omega), (by first | exact rwW_yes (by omega) (ordB_yes (by assumption)) | exact rwW_no (ordB_no (by assumption)))⟩ (by show (A.length - (y + 1)) < (A.length - y); omega)))
  refine R.go 3 (k1 ((x : Int) + 1) ?_)
  exact R.go 2 (k18 R1 (N2 (x + 1, rwW (ordB A) A.length x y) [3, 12, 13, 14] none _ (by kernel_rfl) (by kernel_rfl) ⟨(by omega), (by exact rwW_end (by omega) (by omega))⟩ (by show (A.length - (x + 1)) < (A.length - x); omega)))
 exact R.go 6 (k19 (ownA eI 2 1 (rowT (fun x => mkB (ordB A x) A.length) A.length x)) (by first | (rw [ordT_row (show x = A.length by omega)]) | (exfalso; omega)))
theorem l18Leq_c (A O J : List (List Int)) (b t : Int) (x y : Nat) (hx : x < A.length) (hy : y < (A.getD x []).length) : CallA Tryz.prog 226 [.agg [LLI A, LLI O, LLI J, AI b, AI t], AI (x : Int), AI (y : Int)] (.bool (decide ((A.getD x []).getD y 0 = (x : Int)))) := by
 refine CallA.of Tryz.func226 rfl (by kernel_rfl) (R.go 10 (k9 eLI A [] x (x : Int) eLI_len (R.go 2 (k9 eI (A.getD x []) 0 y (y : Int) eI_len ?_ (hj := by first | omega | (simp only [List.length_set]; omega) | (simp <;> omega))))))
 exact R.go 5 (k19 (.bool (decide (((A.getD x []).getD y 0) = (x : Int)))) (by first | (rfl) | (exfalso; omega)))
theorem l18Order_c (A O J : List (List Int)) (b t : Int) (hT : tabB A.length A = true) (h30 : A.length ≤ 30) : CallA Tryz.prog 142 [.agg [LLI A, LLI O, LLI J, AI b, AI t]] (ownA eI 2 1 (ordT A)) := by
 have htl := fun (i : Nat) (hi : i < A.length) => (tabB_at hT hi).1
 refine CallA.of Tryz.func142 rfl (by kernel_rfl) (R.go 16 (k17 ((fun | (x, R) => (⟨(frm 33 [(1, .ptr 0 0), (3, .ref 1), (4, AI (x : Int))]), [.box 26 [LLI A, LLI O, LLI J, AI b, AI t], rowA eI 2 1 R]⟩ : St) : Nat × (List Int) → St)) (fun | (x, R) => (x ≤ A.length) ∧ (R = rowR (fun x => mkB (ordB A x) A.length) x)) (fun | (x, R) => A.length - x) (0, []) [1, 3, 4] none ⟨(by omega), (by rfl)⟩ ?_))
 rintro ⟨x, R⟩ ⟨h4_1, rfl⟩ R1 N2
 have hrl := rowR_len (fun x => mkB (ordB A x) A.length) x
 refine R.go 5 (k16 true (l18Size_c A O J b t) (R.go 2 (k3 ((x : Int) < (A.length : Int)) (fun c5 => ?_) (fun c5 => ?_))))
 ·refine R.go 13 (k17 ((fun | (y, m) => (⟨(frm 33 [(1, .ptr 0 0), (3, .ref 1), (4, AI (x : Int)), (5, AI m), (6, AI (y : Int))]), [.box 26 [LLI A, LLI O, LLI J, AI b, AI t], rowA eI 2 1 (rowR (fun x => mkB (ordB A x) A.length) x)]⟩ : St) : Nat × Int → St)) (fun | (y, m) => (y ≤ A.length) ∧ (m = mkB (ordB A x) y)) (fun | (y, m) => A.length - y) (0, 0) [1, 3, 4, 5, 6] none ⟨(by omega), (by rfl)⟩ ?_)
  rintro ⟨y, m⟩ ⟨h9_1, rfl⟩ R6 N7
  refine R.go 5 (k16 true (l18Size_c A O J b t) (R.go 2 (k3 ((y : Int) < (A.length : Int)) (fun c10 => ?_) (fun c10 => ?_))))
  ·have htx := htl x (by omega)
   refine R.go 8 (k16 true (l18Leq_c A O J b t x y (by first | omega | (simp <;> omega)) (by first | omega | (simp <;> omega))) (R.go 1 (k3 ((A.getD x []).getD y 0 = (x : Int)) (fun c11 => ?_) (fun c11 => ?_))))
   ·refine R.go 3 (k16 true (l01One_c (y : Int) (by omega) (by omega)) (R.go 6 (k1 ((y : Int) + 1) ?_)))
    exact R.go 2 (k18 R6 (N7 (y + 1, bor (mkB (ordB A x) y) (shl64 1 (y : Int))) [1, 3, 4, 5, 6] none _ (by kernel_rfl) (by kernel_rfl) ⟨(by omega), (by first | exact mkB_yes (ordB_yes (by assumption)) | exact mkB_no (ordB_no (by assumption)))⟩ (by show (A.length - (y + 1)) < (A.length - y); omega)))
   refine R.go 4 (k1 ((y : Int) + 1) ?_)
   exact R.go 2 (k18 R6 (N7 (y + 1, mkB (ordB A x) y) [1, 3, 4, 5, 6] none _ (by kernel_rfl) (by kernel_rfl) ⟨(by omega), (by first | exact mkB_yes (ordB_yes (by assumption)) | exact mkB_no (ordB_no (by assumption)))⟩ (by show (A.length - (y + 1)) < (A.length - y); omega)))
  refine R.go 5 (k14 eI (rowR (fun x => mkB (ordB A x) A.length) x) [mkB (ordB A x) y] 1 2 1 8 eI_one (R.go 5 (k1 ((x : Int) + 1) ?_)))
  exact R.go 2 (k18 R1 (N2 (x + 1, (rowR (fun x => mkB (ordB A x) A.length) x) ++ [mkB (ordB A x) y]) [1, 3, 4] (some [0, 1]) _ (by kernel_rfl) (by kernel_rfl) ⟨(by omega), (by exact mkO_row (by omega))⟩ (by show (A.length - (x + 1)) < (A.length - x); omega)))
 exact R.go 6 (k19 (ownA eI 2 1 (rowR (fun x => mkB (ordB A x) A.length) x)) (by first | (rw [ordT_rowR (show x = A.length by omega)]) | (exfalso; omega)))
theorem l18Table_c (t2 : List (List Int)) (N : Nat) (hN : N ≤ 1000000000) (hl : t2.length ≤ 1000000000) (mt2 : ∀ i0 : Nat, i0 < t2.length → (t2.getD i0 []).length ≤ 1000000000) : CallA Tryz.prog 140 [LLI t2, AI (N : Int)] (.bool (tabB N t2)) := by
 refine CallA.of Tryz.func140 rfl (by kernel_rfl) (R.go 12 (k4 ((t2.length : Int) = (N : Int)) (fun c1 => ?_) (fun c1 => ?_)))
 ·exact R.go 4 (k19 (.bool false) (by first | (apply congrArg AV.bool; first | exact tabB_l (by omega) | exact tabB_n (i := x) (by omega) (fun q => absurd q.1 (by omega)) | exact tabB_n (i := x) (by omega) (fun q => by have h8 := q.2 y (by omega); have h9 := (inR_not _ _ _).1 (by assumption : inR ((t2.getD x []).getD y 0) 0 ((N : Int) - 1) = false); omega) | exact tabB_go (by omega) fun i hi => (‹∀ i : Nat, i < x → goodR N (t2.getD i [])›) i (by omega)) | (exfalso; omega)))
 refine R.go 7 (k17 (fun (x : Nat) => (⟨(frm 44 [(0, LLI t2), (1, AI (N : Int)), (5, AI (x : Int))]), []⟩ : St)) (fun (x : Nat) => (x ≤ t2.length) ∧ (∀ i : Nat, i < x → goodR N (t2.getD i []))) (fun (x : Nat) => t2.length - x) 0 [0, 1, 5] none ⟨(by omega), (by exact fun i hi => absurd hi (by omega))⟩ ?_)
 rintro x ⟨h4_1, h4_2⟩ R2 N3
 refine R.go 8 (k3 ((x : Int) < (t2.length : Int)) (fun c5 => ?_) (fun c5 => ?_))
 ·have hgx := mt2 x (by omega)
  refine R.go 8 (k9 eLI t2 [] x (x : Int) eLI_len (R.go 5 (k4 (((t2.getD x []).length : Int) = (N : Int)) (fun c6 => ?_) (fun c6 => ?_))))
  ·exact R.go 4 (k19 (.bool false) (by first | (apply congrArg AV.bool; first | exact tabB_l (by omega) | exact tabB_n (i := x) (by omega) (fun q => absurd q.1 (by omega)) | exact tabB_n (i := x) (by omega) (fun q => by have h8 := q.2 y (by omega); have h9 := (inR_not _ _ _).1 (by assumption : inR ((t2.getD x []).getD y 0) 0 ((N : Int) - 1) = false); omega) | exact tabB_go (by omega) fun i hi => (‹∀ i : Nat, i < x → goodR N (t2.getD i [])›) i (by omega)) | (exfalso; omega)))
  refine R.go 6 (k17 (fun (y : Nat) => (⟨(frm 44 [(0, LLI t2), (1, AI (N : Int)), (5, AI (x : Int)), (6, AI (y : Int))]), []⟩ : St)) (fun (y : Nat) => (y ≤ (t2.getD x []).length) ∧ (∀ j : Nat, j < y → 0 ≤ (t2.getD x []).getD j 0 ∧ (t2.getD x []).getD j 0 < (N : Int))) (fun (y : Nat) => (t2.getD x []).length - y) 0 [0, 1, 5, 6] none ⟨(by omega), (by exact fun i hi => absurd hi (by omega))⟩ ?_)
  rintro y ⟨h9_1, h9_2⟩ R7 N8
  refine R.go 6 (k9 eLI t2 [] x (x : Int) eLI_len (R.go 4 (k3 ((y : Int) < ((t2.getD x []).length : Int)) (fun c10 => ?_) (fun c10 => ?_))))
  ·refine R.go 7 (k9 eLI t2 [] x (x : Int) eLI_len (R.go 2 (k9 eI (t2.getD x []) 0 y (y : Int) eI_len ?_ (hj := by first | omega | (simp only [List.length_set]; omega) | (simp <;> omega)))))
   refine R.go 2 (k1 ((N : Int) - 1) (k16 true (l01In_c ((t2.getD x []).getD y 0) 0 ((N : Int) - 1)) (R.go 2 (k22 (inR ((t2.getD x []).getD y 0) 0 ((N : Int) - 1)) (fun c11 => ?_) (fun c11 => ?_)))))
   ·exact R.go 4 (k19 (.bool false) (by first | (apply congrArg AV.bool; first | exact tabB_l (by omega) | exact tabB_n (i := x) (by omega) (fun q => absurd q.1 (by omega)) | exact tabB_n (i := x) (by omega) (fun q => by have h8 := q.2 y (by omega); have h9 := (inR_not _ _ _).1 (by assumption : inR ((t2.getD x []).getD y 0) 0 ((N : Int) - 1) = false); omega) | exact tabB_go (by omega) fun i hi => (‹∀ i : Nat, i < x → goodR N (t2.getD i [])›) i (by omega)) | (exfalso; omega)))
   refine R.go 4 (k1 ((y : Int) + 1) ?_)
   exact R.go 2 (k18 R7 (N8 (y + 1) [0, 1, 5, 6] none _ (by kernel_rfl) (by kernel_rfl) ⟨(by omega), (by exact below1 (by assumption) (by have h9 := (inR_iff _ _ _).1 (by assumption : inR ((t2.getD x []).getD y 0) 0 ((N : Int) - 1) = true); omega))⟩ (by show ((t2.getD x []).length - (y + 1)) < ((t2.getD x []).length - y); omega)))
  refine R.go 4 (k1 ((x : Int) + 1) ?_)
  exact R.go 2 (k18 R2 (N3 (x + 1) [0, 1, 5] none _ (by kernel_rfl) (by kernel_rfl) ⟨(by omega), (by exact below1 (by assumption) ⟨by omega, fun j hj => (‹∀ j : Nat, j < y → 0 ≤ (t2.getD x []).getD j 0 ∧ (t2.getD x []).getD j 0 < (N : Int)›) j (by omega)⟩)⟩ (by show (t2.length - (x + 1)) < (t2.length - x); omega)))
 exact R.go 5 (k19 (.bool true) (by first | (apply congrArg AV.bool; first | exact tabB_l (by omega) | exact tabB_n (i := x) (by omega) (fun q => absurd q.1 (by omega)) | exact tabB_n (i := x) (by omega) (fun q => by have h8 := q.2 y (by omega); have h9 := (inR_not _ _ _).1 (by assumption : inR ((t2.getD x []).getD y 0) 0 ((N : Int) - 1) = false); omega) | exact tabB_go (by omega) fun i hi => (‹∀ i : Nat, i < x → goodR N (t2.getD i [])›) i (by omega)) | (exfalso; omega)))
theorem equalR_c (a b : List (List Int)) (la : a.length ≤ 1000000000) (lb : ∀ j : Nat, j < a.length → (a.getD j []).length ≤ 1000000000) : CallA Tryz.prog 240 [LLI a, LLI b, .fn 241 []] (.bool (decide (a = b))) := by
 refine CallA.of Tryz.func240 rfl (by kernel_rfl) (R.go 13 (k4 ((a.length : Int) = (b.length : Int)) (fun c1 => ?_) (fun c1 => ?_)))
 ·exact R.go 4 (k19 (.bool false) (by first | (first | (rw [dF (fun h => by subst h; omega)]) | (rw [dT (take_all (i := i) (by omega) (by omega) (by assumption))]) | (rw [dF (fun h => by subst h; exact absurd rfl (by assumption))])) | (exfalso; omega)))
 refine R.go 9 (k17 (fun (i : Nat) => (⟨(frm 32 [(1, LLI b), (2, .fn 241 []), (15, LLI a), (16, AI a.length), (17, AI (i : Int))]), []⟩ : St)) (fun (i : Nat) => (i ≤ a.length) ∧ (a.take i = b.take i)) (fun (i : Nat) => a.length - i) 0 [1, 2, 15, 16, 17] none ⟨(by omega), (by rfl)⟩ ?_)
 rintro i ⟨h4_1, h4_2⟩ R2 N3
 refine R.go 5 (k3 ((i : Int) < (a.length : Int)) (fun c5 => ?_) (fun c5 => ?_))
 ·have hgl := lb i (by omega)
  refine R.go 6 (k9 eLI a [] i (i : Int) eLI_len (R.go 8 (k9 eLI b [] i (i : Int) eLI_len (R.go 8 (k16 true (equalI_c (a.getD i []) (b.getD i []) (by first | omega | (simp <;> omega))) (R.go 2 (k4 ((a.getD i []) = (b.getD i [])) (fun c6 => ?_) (fun c6 => ?_))))))))
  ·exact R.go 4 (k19 (.bool false) (by first | (first | (rw [dF (fun h => by subst h; omega)]) | (rw [dT (take_all (i := i) (by omega) (by omega) (by assumption))]) | (rw [dF (fun h => by subst h; exact absurd rfl (by assumption))])) | (exfalso; omega)))
  refine R.go 3 (k1 ((i : Int) + 1) ?_)
  exact R.go 2 (k18 R2 (N3 (i + 1) [1, 2, 15, 16, 17] none _ (by kernel_rfl) (by kernel_rfl) ⟨(by omega), (by exact take_step a b [] i (by omega) (by omega) (by assumption) (by assumption))⟩ (by show (a.length - (i + 1)) < (a.length - i); omega)))
 exact R.go 5 (k19 (.bool true) (by first | (first | (rw [dF (fun h => by subst h; omega)]) | (rw [dT (take_all (i := i) (by omega) (by omega) (by assumption))]) | (rw [dF (fun h => by subst h; exact absurd rfl (by assumption))])) | (exfalso; omega)))
theorem sameTab_c (a b : List (List Int)) (la : a.length ≤ 1000000000) (lb : ∀ j : Nat, j < a.length → (a.getD j []).length ≤ 1000000000) : CallA Tryz.prog 239 [LLI a, LLI b] (.bool (decide (a = b))) := by
 refine CallA.of Tryz.func239 rfl (by kernel_rfl) (R.go 8 (k16 true (equalR_c a b la lb) ?_))
 exact R.go 2 (k19 (.bool (decide (a = b))) (by rfl))
theorem sameHey_c (A O : List (List Int)) (J A2 : List (List Int)) (O2 J2 : List (List Int)) (b t : Int) (b2 t2 : Int) (la : A.length ≤ 1000000000 ∧ O.length ≤ 1000000000 ∧ J.length ≤ 1000000000) (mA : ∀ i0 : Nat, i0 < A.length → (A.getD i0 []).length ≤ 1000000000) (mO : ∀ i0 : Nat, i0 < O.length → (O.getD i0 []).length ≤ 1000000000) (mJ : ∀ i0 : Nat, i0 < J.length → (J.getD i0 []).length ≤ 1000000000) : CallA Tryz.prog 135 [.agg [LLI A, LLI O, LLI J, AI b, AI t], .agg [LLI A2, LLI O2, LLI J2, AI b2, AI t2]] (.bool (decide (b = b2 ∧ t = t2 ∧ A = A2 ∧ O = O2 ∧ J = J2))) := by
 refine CallA.of Tryz.func135 rfl (by kernel_rfl) (R.go 18 ?_)
 by_cases c1 : b = b2
 ·refine k6 true (dT c1) ?_
  iterate 4 refine R.go 1 (k6 true (dT c1) ?_)
  refine R.go 1 (k8 true (dT c1) (R.go 1 ?_))
  by_cases c2 : t = t2
  ·refine k6 true (dT c2) ?_
   iterate 5 refine R.go 1 (k6 true (dT c2) ?_)
   refine k16 true (sameTab_c A A2 (by first | omega | (simp <;> omega)) (by assumption)) (k8 true (dT c2) (R.go 1 ?_))
   by_cases c3 : A = A2
   ·refine k6 true (dT c3) ?_
    iterate 5 refine R.go 1 (k6 true (dT c3) ?_)
    refine k16 true (sameTab_c O O2 (by first | omega | (simp <;> omega)) (by assumption)) (k8 true (dT c3) (R.go 1 ?_))
    by_cases c4 : O = O2
    ·refine k6 true (dT c4) ?_
     iterate 5 refine R.go 1 (k6 true (dT c4) ?_)
     refine k16 true (sameTab_c J J2 (by first | omega | (simp <;> omega)) (by assumption)) (k8 true (dT c4) ?_)
     exact R.go 2 (k19 (.bool (decide (J = J2))) (by first | (apply congrArg AV.bool; first | exact (decide_eq_false fun q => absurd q.1 (by assumption)).symm | exact (decide_eq_false fun q => absurd q.2.1 (by assumption)).symm | exact (decide_eq_false fun q => absurd q.2.2.1 (by assumption)).symm | exact (decide_eq_false fun q => absurd q.2.2.2.1 (by assumption)).symm | exact (decide_eq_false fun q => absurd q.2.2.2.2 (by assumption)).symm | (refine decide_eq_decide.2 ⟨fun q => ⟨by assumption, by assumption, by assumption, by assumption, q⟩, fun q => q.2.2.2.2⟩) | (refine decide_eq_decide.2 ⟨fun q => ⟨by assumption, q, by assumption, by assumption, by assumption⟩, fun q => q.2.1⟩)) | (exfalso; omega)))
    iterate 6 refine k7 true (dF c4) ?_
    refine k8 false (dF c4) ?_
    exact R.go 2 (k19 (.bool false) (by first | (apply congrArg AV.bool; first | exact (decide_eq_false fun q => absurd q.1 (by assumption)).symm | exact (decide_eq_false fun q => absurd q.2.1 (by assumption)).symm | exact (decide_eq_false fun q => absurd q.2.2.1 (by assumption)).symm | exact (decide_eq_false fun q => absurd q.2.2.2.1 (by assumption)).symm | exact (decide_eq_false fun q => absurd q.2.2.2.2 (by assumption)).symm | (refine decide_eq_decide.2 ⟨fun q => ⟨by assumption, by assumption, by assumption, by assumption, q⟩, fun q => q.2.2.2.2⟩) | (refine decide_eq_decide.2 ⟨fun q => ⟨by assumption, q, by assumption, by assumption, by assumption⟩, fun q => q.2.1⟩)) | (exfalso; omega)))
   iterate 6 refine k7 true (dF c3) ?_
   refine k8 false (dF c3) ?_
   exact R.go 10 (k19 (.bool false) (by first | (apply congrArg AV.bool; first | exact (decide_eq_false fun q => absurd q.1 (by assumption)).symm | exact (decide_eq_false fun q => absurd q.2.1 (by assumption)).symm | exact (decide_eq_false fun q => absurd q.2.2.1 (by assumption)).symm | exact (decide_eq_false fun q => absurd q.2.2.2.1 (by assumption)).symm | exact (decide_eq_false fun q => absurd q.2.2.2.2 (by assumption)).symm | (refine decide_eq_decide.2 ⟨fun q => ⟨by assumption, by assumption, by assumption, by assumption, q⟩, fun q => q.2.2.2.2⟩) | (refine decide_eq_decide.2 ⟨fun q => ⟨by assumption, q, by assumption, by assumption, by assumption⟩, fun q => q.2.1⟩)) | (exfalso; omega)))
  iterate 6 refine k7 true (dF c2) ?_
  refine k8 false (dF c2) ?_
  exact R.go 18 (k19 (.bool false) (by first | (apply congrArg AV.bool; first | exact (decide_eq_false fun q => absurd q.1 (by assumption)).symm | exact (decide_eq_false fun q => absurd q.2.1 (by assumption)).symm | exact (decide_eq_false fun q => absurd q.2.2.1 (by assumption)).symm | exact (decide_eq_false fun q => absurd q.2.2.2.1 (by assumption)).symm | exact (decide_eq_false fun q => absurd q.2.2.2.2 (by assumption)).symm | (refine decide_eq_decide.2 ⟨fun q => ⟨by assumption, by assumption, by assumption, by assumption, q⟩, fun q => q.2.2.2.2⟩) | (refine decide_eq_decide.2 ⟨fun q => ⟨by assumption, q, by assumption, by assumption, by assumption⟩, fun q => q.2.1⟩)) | (exfalso; omega)))
 iterate 5 refine k7 true (dF c1) ?_
 refine k8 false (dF c1) ?_
 exact R.go 26 (k19 (.bool false) (by first | (apply congrArg AV.bool; first | exact (decide_eq_false fun q => absurd q.1 (by assumption)).symm | exact (decide_eq_false fun q => absurd q.2.1 (by assumption)).symm | exact (decide_eq_false fun q => absurd q.2.2.1 (by assumption)).symm | exact (decide_eq_false fun q => absurd q.2.2.2.1 (by assumption)).symm | exact (decide_eq_false fun q => absurd q.2.2.2.2 (by assumption)).symm | (refine decide_eq_decide.2 ⟨fun q => ⟨by assumption, by assumption, by assumption, by assumption, q⟩, fun q => q.2.2.2.2⟩) | (refine decide_eq_decide.2 ⟨fun q => ⟨by assumption, q, by assumption, by assumption, by assumption⟩, fun q => q.2.1⟩)) | (exfalso; omega)))
theorem l01SameI_c (a b : List Int) (la : a.length ≤ 1000000000) : CallA Tryz.prog 325 [LI a, LI b] (.bool (decide (a = b))) := by
 refine CallA.of Tryz.func325 rfl (by kernel_rfl) (R.go 13 (k4 ((a.length : Int) = (b.length : Int)) (fun c1 => ?_) (fun c1 => ?_)))
 ·exact R.go 4 (k19 (.bool false) (by first | (first | (rw [dF (fun h => by subst h; omega)]) | (rw [dT (take_all (i := i) (by omega) (by omega) (by assumption))])) | (exfalso; omega)))
 refine R.go 7 (k17 (fun (i : Nat) => (⟨(frm 26 [(0, LI a), (1, LI b), (5, AI (i : Int))]), []⟩ : St)) (fun (i : Nat) => (i ≤ a.length) ∧ (a.take i = b.take i)) (fun (i : Nat) => a.length - i) 0 [0, 1, 5] none ⟨(by omega), (by rfl)⟩ ?_)
 rintro i ⟨h4_1, h4_2⟩ R2 N3
 refine R.go 8 (k3 ((i : Int) < (a.length : Int)) (fun c5 => ?_) (fun c5 => ?_))
 ·refine R.go 7 (k9 eI a 0 i (i : Int) eI_len (R.go 3 (k9 eI b 0 i (i : Int) eI_len (R.go 3 (k4 ((a.getD i 0) = (b.getD i 0)) (fun c6 => ?_) (fun c6 => ?_))))))
  ·exact R.go 4 (k19 (.bool false) (by first | (first | (rw [dF (fun h => by subst h; omega)]) | (rw [dT (take_all (i := i) (by omega) (by omega) (by assumption))])) | (exfalso; omega)))
  refine R.go 4 (k1 ((i : Int) + 1) ?_)
  exact R.go 2 (k18 R2 (N3 (i + 1) [0, 1, 5] none _ (by kernel_rfl) (by kernel_rfl) ⟨(by omega), (by exact take_step a b 0 i (by omega) (by omega) (by assumption) (by assumption))⟩ (by show (a.length - (i + 1)) < (a.length - i); omega)))
 exact R.go 5 (k19 (.bool true) (by first | (first | (rw [dF (fun h => by subst h; omega)]) | (rw [dT (take_all (i := i) (by omega) (by omega) (by assumption))])) | (exfalso; omega)))
theorem same2_c (a b : List (List Int)) (la : a.length ≤ 1000000000) (lb : ∀ j : Nat, j < a.length → (a.getD j []).length ≤ 1000000000) : CallA Tryz.prog 243 [LLI a, LLI b] (.bool (decide (a = b))) := by
 refine CallA.of Tryz.func243 rfl (by kernel_rfl) (R.go 13 (k4 ((a.length : Int) = (b.length : Int)) (fun c1 => ?_) (fun c1 => ?_)))
 ·exact R.go 4 (k19 (.bool false) (by first | (first | (rw [dF (fun h => by subst h; omega)]) | (rw [dT (take_all (i := i) (by omega) (by omega) (by assumption))]) | (rw [dF (fun h => by subst h; exact absurd rfl (by assumption))])) | (exfalso; omega)))
 refine R.go 7 (k17 (fun (i : Nat) => (⟨(frm 27 [(0, LLI a), (1, LLI b), (5, AI (i : Int))]), []⟩ : St)) (fun (i : Nat) => (i ≤ a.length) ∧ (a.take i = b.take i)) (fun (i : Nat) => a.length - i) 0 [0, 1, 5] none ⟨(by omega), (by rfl)⟩ ?_)
 rintro i ⟨h4_1, h4_2⟩ R2 N3
 refine R.go 8 (k3 ((i : Int) < (a.length : Int)) (fun c5 => ?_) (fun c5 => ?_))
 ·have hgl := lb i (by omega)
  refine R.go 7 (k9 eLI a [] i (i : Int) eLI_len (R.go 3 (k9 eLI b [] i (i : Int) eLI_len (R.go 1 (k16 true (l01SameI_c (a.getD i []) (b.getD i []) (by first | omega | (simp <;> omega))) (R.go 2 (k4 ((a.getD i []) = (b.getD i [])) (fun c6 => ?_) (fun c6 => ?_))))))))
  ·exact R.go 4 (k19 (.bool false) (by first | (first | (rw [dF (fun h => by subst h; omega)]) | (rw [dT (take_all (i := i) (by omega) (by omega) (by assumption))]) | (rw [dF (fun h => by subst h; exact absurd rfl (by assumption))])) | (exfalso; omega)))
  refine R.go 4 (k1 ((i : Int) + 1) ?_)
  exact R.go 2 (k18 R2 (N3 (i + 1) [0, 1, 5] none _ (by kernel_rfl) (by kernel_rfl) ⟨(by omega), (by exact take_step a b [] i (by omega) (by omega) (by assumption) (by assumption))⟩ (by show (a.length - (i + 1)) < (a.length - i); omega)))
 exact R.go 5 (k19 (.bool true) (by first | (first | (rw [dF (fun h => by subst h; omega)]) | (rw [dT (take_all (i := i) (by omega) (by omega) (by assumption))]) | (rw [dF (fun h => by subst h; exact absurd rfl (by assumption))])) | (exfalso; omega)))
theorem l18Same_c (A O : List (List Int)) (J A2 : List (List Int)) (O2 J2 : List (List Int)) (b t : Int) (b2 t2 : Int) (la : A.length ≤ 1000000000 ∧ O.length ≤ 1000000000 ∧ J.length ≤ 1000000000) (mA : ∀ i0 : Nat, i0 < A.length → (A.getD i0 []).length ≤ 1000000000) (mO : ∀ i0 : Nat, i0 < O.length → (O.getD i0 []).length ≤ 1000000000) (mJ : ∀ i0 : Nat, i0 < J.length → (J.getD i0 []).length ≤ 1000000000) : CallA Tryz.prog 143 [.agg [LLI A, LLI O, LLI J, AI b, AI t], .agg [LLI A2, LLI O2, LLI J2, AI b2, AI t2]] (.bool (decide (b = b2 ∧ t = t2 ∧ A = A2 ∧ O = O2 ∧ J = J2))) := by
 refine CallA.of Tryz.func143 rfl (by kernel_rfl) (R.go 12 (k16 true (same2_c A A2 (by first | omega | (simp <;> omega)) (by assumption)) (R.go 1 ?_)))
 by_cases c1 : A = A2
 ·refine k6 true (dT c1) ?_
  iterate 4 refine R.go 1 (k6 true (dT c1) ?_)
  refine k16 true (same2_c O O2 (by first | omega | (simp <;> omega)) (by assumption)) (k8 true (dT c1) (R.go 1 ?_))
  by_cases c2 : O = O2
  ·refine k6 true (dT c2) ?_
   iterate 4 refine R.go 1 (k6 true (dT c2) ?_)
   refine k16 true (same2_c J J2 (by first | omega | (simp <;> omega)) (by assumption)) (k8 true (dT c2) (R.go 1 ?_))
   by_cases c3 : J = J2
   ·refine k6 true (dT c3) ?_
    iterate 4 refine R.go 1 (k6 true (dT c3) ?_)
    refine R.go 1 (k8 true (dT c3) (R.go 1 ?_))
    by_cases c4 : b = b2
    ·refine k6 true (dT c4) ?_
     iterate 4 refine R.go 1 (k6 true (dT c4) ?_)
     refine R.go 1 (k8 true (dT c4) ?_)
     exact R.go 2 (k19 (.bool (decide (t = t2))) (by first | (apply congrArg AV.bool; first | exact (decide_eq_false fun q => absurd q.1 (by assumption)).symm | exact (decide_eq_false fun q => absurd q.2.1 (by assumption)).symm | exact (decide_eq_false fun q => absurd q.2.2.1 (by assumption)).symm | exact (decide_eq_false fun q => absurd q.2.2.2.1 (by assumption)).symm | exact (decide_eq_false fun q => absurd q.2.2.2.2 (by assumption)).symm | (refine decide_eq_decide.2 ⟨fun q => ⟨by assumption, by assumption, by assumption, by assumption, q⟩, fun q => q.2.2.2.2⟩) | (refine decide_eq_decide.2 ⟨fun q => ⟨by assumption, q, by assumption, by assumption, by assumption⟩, fun q => q.2.1⟩)) | (exfalso; omega)))
    iterate 5 refine k7 true (dF c4) ?_
    refine k8 false (dF c4) ?_
    exact R.go 2 (k19 (.bool false) (by first | (apply congrArg AV.bool; first | exact (decide_eq_false fun q => absurd q.1 (by assumption)).symm | exact (decide_eq_false fun q => absurd q.2.1 (by assumption)).symm | exact (decide_eq_false fun q => absurd q.2.2.1 (by assumption)).symm | exact (decide_eq_false fun q => absurd q.2.2.2.1 (by assumption)).symm | exact (decide_eq_false fun q => absurd q.2.2.2.2 (by assumption)).symm | (refine decide_eq_decide.2 ⟨fun q => ⟨by assumption, by assumption, by assumption, by assumption, q⟩, fun q => q.2.2.2.2⟩) | (refine decide_eq_decide.2 ⟨fun q => ⟨by assumption, q, by assumption, by assumption, by assumption⟩, fun q => q.2.1⟩)) | (exfalso; omega)))
   iterate 5 refine k7 true (dF c3) ?_
   refine k8 false (dF c3) ?_
   exact R.go 9 (k19 (.bool false) (by first | (apply congrArg AV.bool; first | exact (decide_eq_false fun q => absurd q.1 (by assumption)).symm | exact (decide_eq_false fun q => absurd q.2.1 (by assumption)).symm | exact (decide_eq_false fun q => absurd q.2.2.1 (by assumption)).symm | exact (decide_eq_false fun q => absurd q.2.2.2.1 (by assumption)).symm | exact (decide_eq_false fun q => absurd q.2.2.2.2 (by assumption)).symm | (refine decide_eq_decide.2 ⟨fun q => ⟨by assumption, by assumption, by assumption, by assumption, q⟩, fun q => q.2.2.2.2⟩) | (refine decide_eq_decide.2 ⟨fun q => ⟨by assumption, q, by assumption, by assumption, by assumption⟩, fun q => q.2.1⟩)) | (exfalso; omega)))
  iterate 5 refine k7 true (dF c2) ?_
  refine k8 false (dF c2) ?_
  exact R.go 16 (k19 (.bool false) (by first | (apply congrArg AV.bool; first | exact (decide_eq_false fun q => absurd q.1 (by assumption)).symm | exact (decide_eq_false fun q => absurd q.2.1 (by assumption)).symm | exact (decide_eq_false fun q => absurd q.2.2.1 (by assumption)).symm | exact (decide_eq_false fun q => absurd q.2.2.2.1 (by assumption)).symm | exact (decide_eq_false fun q => absurd q.2.2.2.2 (by assumption)).symm | (refine decide_eq_decide.2 ⟨fun q => ⟨by assumption, by assumption, by assumption, by assumption, q⟩, fun q => q.2.2.2.2⟩) | (refine decide_eq_decide.2 ⟨fun q => ⟨by assumption, q, by assumption, by assumption, by assumption⟩, fun q => q.2.1⟩)) | (exfalso; omega)))
 iterate 5 refine k7 true (dF c1) ?_
 refine k8 false (dF c1) ?_
 exact R.go 23 (k19 (.bool false) (by first | (apply congrArg AV.bool; first | exact (decide_eq_false fun q => absurd q.1 (by assumption)).symm | exact (decide_eq_false fun q => absurd q.2.1 (by assumption)).symm | exact (decide_eq_false fun q => absurd q.2.2.1 (by assumption)).symm | exact (decide_eq_false fun q => absurd q.2.2.2.1 (by assumption)).symm | exact (decide_eq_false fun q => absurd q.2.2.2.2 (by assumption)).symm | (refine decide_eq_decide.2 ⟨fun q => ⟨by assumption, by assumption, by assumption, by assumption, q⟩, fun q => q.2.2.2.2⟩) | (refine decide_eq_decide.2 ⟨fun q => ⟨by assumption, q, by assumption, by assumption, by assumption⟩, fun q => q.2.1⟩)) | (exfalso; omega)))
end Go.Proofs.YtjllngcefoohpaaGreat

/-! The reference's algebra of an order; upset algebras of both programs. -/
namespace Go.Proofs.YtjllngcefoohpaaGreat
open Go.RowKit Go.Abs
theorem rowR_last {f : Nat → Int} {y : Nat} {v : Int} (h : v = f y) : (rowR f y ++ [v]).getD y 0 = f y := by
 rw [h, rowR_snoc, rowR_get (by omega)]
theorem rowR_lenS {f : Nat → Int} {y : Nat} {v : Int} : (rowR f y ++ [v]).length = y + 1 := by simp [rowR]
theorem ordT_zero {U : List Int} : List.replicate U.length 0 = rowT (fun x => mkB (subU U x) U.length) U.length 0 := rowT_zero
def ordW (U : List Int) (x y : Nat) : List Int := (rowT (fun x => mkB (subU U x) U.length) U.length x).set x (mkB (subU U x) y)
theorem ordW_len (U : List Int) (x y : Nat) : (ordW U x y).length = U.length := by simp [ordW, rowT_len]
theorem ordW_get {U : List Int} {x y : Nat} (h : x < U.length) : (ordW U x y).getD x 0 = mkB (subU U x) y := by rw [ordW, getD_set_if _ _ _ _ _ (by rw [rowT_len]; exact h), if_pos rfl]
theorem ordW_zero {U : List Int} {x : Nat} (h : x < U.length) : rowT (fun x => mkB (subU U x) U.length) U.length x = ordW U x 0 := by
 refine rowN_ext (rowT_len _ _ _) (ordW_len _ _ _) fun j hj => ?_
 rw [ordW, getD_set_if _ _ _ _ _ (by rw [rowT_len]; exact h)]
 by_cases e : x = j
 ·subst e; rw [if_pos rfl, rowT_get hj, if_neg (by omega)]; rfl
 ·rw [if_neg e]
theorem ordW_yes {U : List Int} {x y : Nat} (hx : x < U.length) (h : bnot (U.getD x 0) (U.getD y 0) = 0) : (ordW U x y).set x (bor ((ordW U x y).getD x 0) (shl64 1 (y : Int))) = ordW U x (y + 1) := by
 rw [ordW_get hx, ordW, List.set_set, ordW, mkB_yes (P := subU U x) (decide_eq_true h)]
theorem ordW_no {U : List Int} {x y : Nat} (h : ¬ bnot (U.getD x 0) (U.getD y 0) = 0) : ordW U x y = ordW U x (y + 1) := by
 rw [ordW, ordW, mkB_no (P := subU U x) (k := y) (decide_eq_false h)]
theorem ordW_end {U : List Int} {x y : Nat} (hx : x < U.length) (hy : y = U.length) : ordW U x y = rowT (fun x => mkB (subU U x) U.length) U.length (x + 1) := by
 subst hy; exact rowT_set hx rfl
theorem ordU_row {U : List Int} {x : Nat} (h : x = U.length) : rowT (fun x => mkB (subU U x) U.length) U.length x = ordU U := rowT_end h
theorem ordU_rowR {U : List Int} {x : Nat} (h : x = U.length) : rowR (fun x => mkB (subU U x) U.length) x = ordU U := by rw [h]; rfl
theorem mkS_yes {U : List Int} {x y : Nat} (h : bnot (U.getD x 0) (U.getD y 0) = 0) : bor (mkB (subU U x) y) (shl64 1 (y : Int)) = mkB (subU U x) (y + 1) := mkB_yes (decide_eq_true h)
theorem mkS_no {U : List Int} {x y : Nat} (h : ¬ bnot (U.getD x 0) (U.getD y 0) = 0) : mkB (subU U x) y = mkB (subU U x) (y + 1) := mkB_no (decide_eq_false h)
theorem mkS_row {U : List Int} {x y : Nat} (h : y = U.length) : rowR (fun x => mkB (subU U x) U.length) x ++ [mkB (subU U x) y] = rowR (fun x => mkB (subU U x) U.length) (x + 1) := by subst h; exact rowR_snoc
set_option maxHeartbeats 1000000 in
theorem l18Build_c (xs : List Int) (hH : HyOK xs) : CallA Tryz.prog 141 [LI xs] (.tup [.agg [ownA eLI 30 1 (tabR (hyM xs) xs.length xs.length), ownA eLI 30 1 (tabR (hyJ xs) xs.length xs.length), ownA eLI 30 1 (tabR (hyI xs) xs.length xs.length), AI (lowF xs (fullM xs.length)), AI (lowF (invA xs xs.length) (fullM xs.length))], .bool true]) := by
 have hn := hH.n30
 have hn0 := hH.n0
 have hrel := hH.rel
 have hpa := hH.pa
 have hil := invA_len xs xs.length
 have hir := (inv_rel hH).1
 have hxi := fun (i : Nat) (hi : i < xs.length) => hrel.2 i hi
 have hbi := fun (i : Nat) (hi : i < xs.length) => hir.2 i hi
 have hrl : okRl (xs.length : Int) xs := okRl_of hn hrel
 have hfl : InM xs.length (fullM xs.length) := inM_full (by omega)
 have hsh : 1 ≤ shl64 1 (xs.length : Int) ∧ shl64 1 (xs.length : Int) ≤ 4611686018427387904 := shl_rng _ (by omega) (by omega)
 have hfl61 := inM_mono (n' := 61) (by omega) hfl
 have hfm : InM 61 ((shl64 1 (xs.length : Int)) - 1) := hfl61
 have hbo : 0 ≤ lowF xs ((shl64 1 (xs.length : Int)) - 1) := hH.bo
 have hto : 0 ≤ lowF (invA xs xs.length) ((shl64 1 (xs.length : Int)) - 1) := hH.to
 have hpa' : paB xs.length xs = true := hpa
 refine CallA.of Tryz.func141 rfl (by kernel_rfl) (R.go 17 ?_)
 by_cases c1 : (xs.length : Int) = 0
 ·refine k7 false (dT c1) ?_
  iterate 2 refine k7 false (dT c1) ?_
  refine k8 true (dT c1) (R.go 8 (k21 0 0 30 1 (k21 0 1 30 1 (k21 0 2 30 1 ?_))))
  exact k19 (.tup [.agg [ownA eLI 30 1 [], ownA eLI 30 1 [], ownA eLI 30 1 [], AI 0, AI 0], .bool false]) (by first | (first | (rw [show x = xs.length by omega, show u = xs.length by omega]; rfl) | (exfalso; simp_all; done)) | (exfalso; omega))
 refine k6 false (dF c1) (R.go 1 (k6 false (dF c1) (k16 true (l18Partial_c xs (by first | omega | (simp <;> omega)) (by assumption)) (k6 false (dF c1) (R.go 1 (k8 false (dF c1) (R.go 1 (k22 (paB xs.length xs) (fun c2 => ?_) (fun c2 => ?_)))))))))
 ·refine R.go 6 (k21 0 0 30 1 (k21 0 1 30 1 (k21 0 2 30 1 ?_)))
  exact k19 (.tup [.agg [ownA eLI 30 1 [], ownA eLI 30 1 [], ownA eLI 30 1 [], AI 0, AI 0], .bool false]) (by first | (first | (rw [show x = xs.length by omega, show u = xs.length by omega]; rfl) | (exfalso; simp_all; done)) | (exfalso; omega))
 refine R.go 4 (k16 true (l01Inverse_c xs (by first | omega | (simp <;> omega)) (by assumption)) (R.go 6 (k16 true (l01Full_c xs.length (by first | omega | (simp <;> omega)) (by first | omega | (simp <;> omega))) (k16 true (l18Low_c xs ((shl64 1 xs.length) - 1) (by first | omega | (simp <;> omega)) (by first | assumption | exact inM_mono (by omega) (by assumption))) (R.go 2 (k16 true (l01Full_c xs.length (by first | omega | (simp <;> omega)) (by first | omega | (simp <;> omega))) (k16 false (l18Low_c (invA xs xs.length) ((shl64 1 xs.length) - 1) (by first | omega | (simp <;> omega)) (by first | assumption | exact inM_mono (by omega) (by assumption))) (R.go 7 (k20 1 (R.go 4 ?_))))))))))
 by_cases c3 : (lowF xs ((shl64 1 xs.length) - 1)) < 0
 ·refine k7 false (dT c3) ?_
  iterate 2 refine k7 false (dT c3) ?_
  refine k8 true (dT c3) (R.go 8 (k21 0 0 30 1 (k21 0 1 30 1 (k21 0 2 30 1 ?_))))
  exact k19 (.tup [.agg [ownA eLI 30 1 [], ownA eLI 30 1 [], ownA eLI 30 1 [], AI 0, AI 0], .bool false]) (by first | (first | (rw [show x = xs.length by omega, show u = xs.length by omega]; rfl) | (exfalso; simp_all; done)) | (exfalso; omega))
 refine k6 false (dF c3) ?_
 iterate 2 refine R.go 1 (k6 false (dF c3) ?_)
 refine R.go 1 (k8 false (dF c3) (R.go 1 (k3 ((lowF (invA xs xs.length) ((shl64 1 xs.length) - 1)) < 0) (fun c4 => ?_) (fun c4 => ?_))))
 ·refine R.go 6 (k21 0 0 30 1 (k21 0 1 30 1 (k21 0 2 30 1 ?_)))
  exact k19 (.tup [.agg [ownA eLI 30 1 [], ownA eLI 30 1 [], ownA eLI 30 1 [], AI 0, AI 0], .bool false]) (by first | (first | (rw [show x = xs.length by omega, show u = xs.length by omega]; rfl) | (exfalso; simp_all; done)) | (exfalso; omega))
 refine R.go 7 (k21 2 0 30 1 (k21 2 1 30 1 (k17 ((fun | (x, A, O) => (⟨(frm 168 [(0, LI xs), (2, .ptr 0 0), (4, AI xs.length), (5, LI (invA xs xs.length)), (6, .ptr 1 0), (7, AI (x : Int))]), [.box 26 [.nil, .nil, .nil, AI 0, AI 0], .box 26 [.ref 2, .ref 3, .nil, AI (lowF xs ((shl64 1 xs.length) - 1)), AI (lowF (invA xs xs.length) ((shl64 1 xs.length) - 1))], rowA eLI 30 1 A, rowA eLI 30 1 O]⟩ : St) : Nat × (List (List Int)) × (List (List Int)) → St)) (fun | (x, A, O) => (x ≤ xs.length) ∧ (A = tabR (hyM xs) xs.length x) ∧ (O = tabR (hyJ xs) xs.length x)) (fun | (x, A, O) => xs.length - x) (0, [], []) [0, 2, 4, 5, 6, 7] (some [0, 2, 3, 4]) ⟨(by omega), (by rfl), (by rfl)⟩ ?_)))
 rintro ⟨x, A, O⟩ ⟨h8_1, rfl, rfl⟩ R5 N6
 have hal := tabR_len (hyM xs) xs.length x
 have hol := tabR_len (hyJ xs) xs.length x
 refine R.go 7 (k3 ((x : Int) < (xs.length : Int)) (fun c9 => ?_) (fun c9 => ?_))
 ·refine R.go 16 (k17 ((fun | (y, a, o) => (⟨(frm 168 [(0, LI xs), (2, .ptr 0 0), (4, AI xs.length), (5, LI (invA xs xs.length)), (6, .ptr 1 0), (7, AI (x : Int)), (8, .ref 4), (9, .ref 5), (10, AI (y : Int))]), [.box 26 [.nil, .nil, .nil, AI 0, AI 0], .box 26 [.ref 2, .ref 3, .nil, AI (lowF xs ((shl64 1 xs.length) - 1)), AI (lowF (invA xs xs.length) ((shl64 1 xs.length) - 1))], rowA eLI 30 1 (tabR (hyM xs) xs.length x), rowA eLI 30 1 (tabR (hyJ xs) xs.length x), rowA eI 2 1 a, rowA eI 2 1 o]⟩ : St) : Nat × (List Int) × (List Int) → St)) (fun | (y, a, o) => (y ≤ xs.length) ∧ (a = rowR (hyM xs x) y) ∧ (o = rowR (hyJ xs x) y)) (fun | (y, a, o) => xs.length - y) (0, [], []) [0, 2, 4, 5, 6, 7, 8, 9, 10] none ⟨(by omega), (by rfl), (by rfl)⟩ ?_)
  rintro ⟨y, a, o⟩ ⟨h13_1, rfl, rfl⟩ R10 N11
  have har := rowR_len (hyM xs x) y
  have hor := rowR_len (hyJ xs x) y
  refine R.go 7 (k3 ((y : Int) < (xs.length : Int)) (fun c14 => ?_) (fun c14 => ?_))
  ·refine R.go 4 ?_
   have hbx := hbi x (by omega)
   have hby := hbi y (by omega)
   have hmm := inM_band (n := xs.length) (by omega) hbx hby
   have hlm := hH.me x y (by omega) (by omega)
   have hxx := hxi x (by omega)
   have hxy := hxi y (by omega)
   have hjj := inM_band (n := xs.length) (by omega) hxx hxy
   have hlj := hH.jo x y (by omega) (by omega)
   have hmm61 := inM_mono (n' := 61) (by omega) hmm
   have hjj61 := inM_mono (n' := 61) (by omega) hjj
   refine R.meet (⟨(frm 168 [(0, LI xs), (2, .ptr 0 0), (4, AI xs.length), (5, LI (invA xs xs.length)), (6, .ptr 1 0), (7, AI (x : Int)), (8, .ref 4), (9, .ref 5), (10, AI (y : Int)), (54, AI (y : Int)), (55, AI xs.length), (56, .bool (decide ((y : Int) < (xs.length : Int)))), (60, LI (invA xs xs.length)), (61, LI (invA xs xs.length)), (62, AI (x : Int)), (63, .rptr [AI ((invA xs xs.length).getD x 0)]), (64, AI ((invA xs xs.length).getD x 0)), (65, LI (invA xs xs.length)), (66, AI (y : Int)), (67, .rptr [AI ((invA xs xs.length).getD y 0)]), (68, AI ((invA xs xs.length).getD y 0)), (69, AI (band ((invA xs xs.length).getD x 0) ((invA xs xs.length).getD y 0))), (70, AI (lowF (invA xs xs.length) (band ((invA xs xs.length).getD x 0) ((invA xs xs.length).getD y 0)))), (71, LI [lowF (invA xs xs.length) (band ((invA xs xs.length).getD x 0) ((invA xs xs.length).getD y 0))]), (72, .ref 4)]), [.box 26 [.nil, .nil, .nil, AI 0, AI 0], .box 26 [.ref 2, .ref 3, .nil, AI (lowF xs ((shl64 1 xs.length) - 1)), AI (lowF (invA xs xs.length) ((shl64 1 xs.length) - 1))], rowA eLI 30 1 (tabR (hyM xs) xs.length x), rowA eLI 30 1 (tabR (hyJ xs) xs.length x), rowA eI 2 1 ((rowR (hyM xs x) y) ++ [lowF (invA xs xs.length) (band ((invA xs xs.length).getD x 0) ((invA xs xs.length).getD y 0))]), rowA eI 2 1 (rowR (hyJ xs x) y)]⟩ : St) (by kernel_rfl) ?_ ?_
   ·refine R.any (by decide +kernel) (by kernel_rfl) (k27 0 (k27 1 (k27 2 (k27 3 (k27 6 (k27 7 (k34 4 eI (invA xs xs.length) 0 x (x : Int) eI_len (k34 8 eI (invA xs xs.length) 0 y (y : Int) eI_len (k25 5 9 ?_ ?_)))))))))
    ·refine R.go 2 (k24 9 (R.go 2 (k24 10 (R.go 2 (k24 11 (k16 true (l18Low_c (invA xs xs.length) (band ((invA xs xs.length).getD x 0) ((invA xs xs.length).getD y 0)) (by first | omega | (simp <;> omega)) (by first | assumption | exact inM_mono (by omega) (by assumption))) (R.go 1 (k24 12 (R.lit (s := 1) (n := 1) (cs := rows eI [lowF (invA xs xs.length) (band ((invA xs xs.length).getD x 0) ((invA xs xs.length).getD y 0))]) (by kernel_rfl) (by kernel_rfl) (R.go 1 (k24 13 (k14 eI (rowR (hyM xs x) y) [lowF (invA xs xs.length) (band ((invA xs xs.length).getD x 0) ((invA xs xs.length).getD y 0))] 4 2 1 8 eI_one (R.go 1 (k24 14 (R.go 2 (k23 ?_))))))))))))))))
     exact k28
    refine R.go 2 (k24 5 (R.go 2 (k24 10 (R.go 2 (k24 11 (k16 true (l18Low_c (invA xs xs.length) (band ((invA xs xs.length).getD x 0) ((invA xs xs.length).getD y 0)) (by first | omega | (simp <;> omega)) (by first | assumption | exact inM_mono (by omega) (by assumption))) (R.go 1 (k24 12 (R.lit (s := 1) (n := 1) (cs := rows eI [lowF (invA xs xs.length) (band ((invA xs xs.length).getD x 0) ((invA xs xs.length).getD y 0))]) (by kernel_rfl) (by kernel_rfl) (R.go 1 (k24 13 (k14 eI (rowR (hyM xs x) y) [lowF (invA xs xs.length) (band ((invA xs xs.length).getD x 0) ((invA xs xs.length).getD y 0))] 4 2 1 8 eI_one (R.go 1 (k24 14 (R.go 2 (k23 ?_))))))))))))))))
    exact k28
   refine R.go 1 (R.meet (⟨(frm 168 [(0, LI xs), (2, .ptr 0 0), (4, AI xs.length), (5, LI (invA xs xs.length)), (6, .ptr 1 0), (7, AI (x : Int)), (8, .ref 4), (9, .ref 5), (10, AI (y : Int)), (54, AI (y : Int)), (55, AI xs.length), (56, .bool (decide ((y : Int) < (xs.length : Int)))), (60, LI (invA xs xs.length)), (61, LI (invA xs xs.length)), (62, AI (x : Int)), (63, .rptr [AI ((invA xs xs.length).getD x 0)]), (64, AI ((invA xs xs.length).getD x 0)), (65, LI (invA xs xs.length)), (66, AI (y : Int)), (67, .rptr [AI ((invA xs xs.length).getD y 0)]), (68, AI ((invA xs xs.length).getD y 0)), (69, AI (band ((invA xs xs.length).getD x 0) ((invA xs xs.length).getD y 0))), (70, AI (lowF (invA xs xs.length) (band ((invA xs xs.length).getD x 0) ((invA xs xs.length).getD y 0)))), (71, LI [lowF (invA xs xs.length) (band ((invA xs xs.length).getD x 0) ((invA xs xs.length).getD y 0))]), (72, .ref 4), (74, LI xs), (75, LI xs), (76, AI (x : Int)), (77, .rptr [AI (xs.getD x 0)]), (78, AI (xs.getD x 0)), (79, LI xs), (80, AI (y : Int)), (81, .rptr [AI (xs.getD y 0)]), (82, AI (xs.getD y 0)), (83, AI (band (xs.getD x 0) (xs.getD y 0))), (84, AI (lowF xs (band (xs.getD x 0) (xs.getD y 0)))), (85, LI [lowF xs (band (xs.getD x 0) (xs.getD y 0))]), (86, .ref 5)]), [.box 26 [.nil, .nil, .nil, AI 0, AI 0], .box 26 [.ref 2, .ref 3, .nil, AI (lowF xs ((shl64 1 xs.length) - 1)), AI (lowF (invA xs xs.length) ((shl64 1 xs.length) - 1))], rowA eLI 30 1 (tabR (hyM xs) xs.length x), rowA eLI 30 1 (tabR (hyJ xs) xs.length x), rowA eI 2 1 ((rowR (hyM xs x) y) ++ [lowF (invA xs xs.length) (band ((invA xs xs.length).getD x 0) ((invA xs xs.length).getD y 0))]), rowA eI 2 1 ((rowR (hyJ xs x) y) ++ [lowF xs (band (xs.getD x 0) (xs.getD y 0))])]⟩ : St) (by kernel_rfl) ?_ ?_)
   ·refine R.any (by decide +kernel) (by kernel_rfl) (k27 0 (k27 1 (k27 2 (k27 3 (k27 6 (k27 7 (k34 4 eI xs 0 x (x : Int) eI_len (k34 8 eI xs 0 y (y : Int) eI_len (k25 5 9 ?_ ?_)))))))))
    ·refine R.go 2 (k24 9 (R.go 2 (k24 10 (R.go 2 (k24 11 (k16 true (l18Low_c xs (band (xs.getD x 0) (xs.getD y 0)) (by first | omega | (simp <;> omega)) (by first | assumption | exact inM_mono (by omega) (by assumption))) (R.go 1 (k24 12 (R.lit (s := 1) (n := 1) (cs := rows eI [lowF xs (band (xs.getD x 0) (xs.getD y 0))]) (by kernel_rfl) (by kernel_rfl) (R.go 1 (k24 13 (k14 eI (rowR (hyJ xs x) y) [lowF xs (band (xs.getD x 0) (xs.getD y 0))] 5 2 1 8 eI_one (R.go 1 (k24 14 (R.go 2 (k23 ?_))))))))))))))))
     exact k28
    refine R.go 2 (k24 5 (R.go 2 (k24 10 (R.go 2 (k24 11 (k16 true (l18Low_c xs (band (xs.getD x 0) (xs.getD y 0)) (by first | omega | (simp <;> omega)) (by first | assumption | exact inM_mono (by omega) (by assumption))) (R.go 1 (k24 12 (R.lit (s := 1) (n := 1) (cs := rows eI [lowF xs (band (xs.getD x 0) (xs.getD y 0))]) (by kernel_rfl) (by kernel_rfl) (R.go 1 (k24 13 (k14 eI (rowR (hyJ xs x) y) [lowF xs (band (xs.getD x 0) (xs.getD y 0))] 5 2 1 8 eI_one (R.go 1 (k24 14 (R.go 2 (k23 ?_))))))))))))))))
    exact k28
   have hg1 := rowR_last (f := hyM xs x) (y := y) rfl
   have hg2 := rowR_last (f := hyJ xs x) (y := y) rfl
   have hg3 : (((rowR (hyM xs x) y) ++ [lowF (invA xs xs.length) (band ((invA xs xs.length).getD x 0) ((invA xs xs.length).getD y 0))])).length = y + 1 := rowR_lenS
   have hg4 : (((rowR (hyJ xs x) y) ++ [lowF xs (band (xs.getD x 0) (xs.getD y 0))])).length = y + 1 := rowR_lenS
   have hg5 : 0 ≤ (((rowR (hyM xs x) y) ++ [lowF (invA xs xs.length) (band ((invA xs xs.length).getD x 0) ((invA xs xs.length).getD y 0))])).getD y 0 := by show 0 ≤ (rowR (hyM xs x) y ++ [hyM xs x y]).getD y 0; rw [hg1]; exact hlm
   have hg6 : 0 ≤ (((rowR (hyJ xs x) y) ++ [lowF xs (band (xs.getD x 0) (xs.getD y 0))])).getD y 0 := by show 0 ≤ (rowR (hyJ xs x) y ++ [hyJ xs x y]).getD y 0; rw [hg2]; exact hlj
   refine R.go 4 (k10 4 1 ((rowR (hyM xs x) y) ++ [lowF (invA xs xs.length) (band ((invA xs xs.length).getD x 0) ((invA xs xs.length).getD y 0))]).length y (y : Int) ?_ (hj := by first | omega | (simp only [List.length_set]; omega) | (simp <;> omega)))
   refine k12 ((rowR (hyM xs x) y) ++ [lowF (invA xs xs.length) (band ((invA xs xs.length).getD x 0) ((invA xs xs.length).getD y 0))]) y ?_ (hj := by first | omega | (simp only [List.length_set]; omega) | (simp <;> omega))
   refine R.go 2 ?_
   by_cases c15 : (((rowR (hyM xs x) y) ++ [lowF (invA xs xs.length) (band ((invA xs xs.length).getD x 0) ((invA xs xs.length).getD y 0))]).getD y 0) < 0
   ·refine k7 false (dT c15) ?_
    iterate 4 refine k7 false (dT c15) ?_
    refine k8 true (dT c15) (R.go 8 (k21 0 0 30 1 (k21 0 1 30 1 (k21 0 2 30 1 ?_))))
    exact k19 (.tup [.agg [ownA eLI 30 1 [], ownA eLI 30 1 [], ownA eLI 30 1 [], AI 0, AI 0], .bool false]) (by first | (first | (rw [show x = xs.length by omega, show u = xs.length by omega]; rfl) | (exfalso; simp_all; done)) | (exfalso; omega))
   refine k6 false (dF c15) ?_
   iterate 2 refine R.go 1 (k6 false (dF c15) ?_)
   refine k10 5 1 ((rowR (hyJ xs x) y) ++ [lowF xs (band (xs.getD x 0) (xs.getD y 0))]).length y (y : Int) ?_ (hj := by first | omega | (simp only [List.length_set]; omega) | (simp <;> omega))
   refine k6 false (dF c15) (k12 ((rowR (hyJ xs x) y) ++ [lowF xs (band (xs.getD x 0) (xs.getD y 0))]) y ?_ (hj := by first | omega | (simp only [List.length_set]; omega) | (simp <;> omega)))
   refine k6 false (dF c15) (R.go 1 (k8 false (dF c15) (R.go 1 (k3 ((((rowR (hyJ xs x) y) ++ [lowF xs (band (xs.getD x 0) (xs.getD y 0))]).getD y 0) < 0) (fun c16 => ?_) (fun c16 => ?_)))))
   ·refine R.go 6 (k21 0 0 30 1 (k21 0 1 30 1 (k21 0 2 30 1 ?_)))
    exact k19 (.tup [.agg [ownA eLI 30 1 [], ownA eLI 30 1 [], ownA eLI 30 1 [], AI 0, AI 0], .bool false]) (by first | (first | (rw [show x = xs.length by omega, show u = xs.length by omega]; rfl) | (exfalso; simp_all; done)) | (exfalso; omega))
   refine R.go 4 (k1 ((y : Int) + 1) ?_)
   exact R.go 2 (k18 R10 (N11 (y + 1, (rowR (hyM xs x) y) ++ [lowF (invA xs xs.length) (band ((invA xs xs.length).getD x 0) ((invA xs xs.length).getD y 0))], (rowR (hyJ xs x) y) ++ [lowF xs (band (xs.getD x 0) (xs.getD y 0))]) [0, 2, 4, 5, 6, 7, 8, 9, 10] none _ (by kernel_rfl) (by kernel_rfl) ⟨(by omega), (by exact rowR_snoc), (by exact rowR_snoc)⟩ (by show (xs.length - (y + 1)) < (xs.length - y); omega)))
  refine R.go 6 (k14 eLI [] (tabR (hyM xs) xs.length x) 6 30 1 24 eLI_one (R.go 1 (k20 4 (R.go 1 (k14 eLI ([] ++ (tabR (hyM xs) xs.length x)) [rowR (hyM xs x) y] 6 30 1 24 eLI_one (R.go 7 (k14 eLI [] (tabR (hyJ xs) xs.length x) 8 30 1 24 eLI_one (R.go 1 (k20 5 (R.go 1 (k14 eLI ([] ++ (tabR (hyJ xs) xs.length x)) [rowR (hyJ xs x) y] 8 30 1 24 eLI_one (R.go 6 (k1 ((x : Int) + 1) ?_)))))))))))))
  exact R.go 2 (k18 R5 (N6 (x + 1, [] ++ (tabR (hyM xs) xs.length x) ++ [rowR (hyM xs x) y], [] ++ (tabR (hyJ xs) xs.length x) ++ [rowR (hyJ xs x) y]) [0, 2, 4, 5, 6, 7] (some [0, 1, 6, 8]) _ (by kernel_rfl) (by kernel_rfl) ⟨(by omega), (by rw [show y = xs.length by omega]; exact tabR_snoc), (by rw [show y = xs.length by omega]; exact tabR_snoc)⟩ (by show (xs.length - (x + 1)) < (xs.length - x); omega)))
 refine R.go 7 (k21 1 2 30 1 (k17 ((fun | (u, LJ) => (⟨(frm 168 [(0, LI xs), (2, .ptr 0 0), (4, AI xs.length), (5, LI (invA xs xs.length)), (6, .ptr 1 0), (11, AI (u : Int))]), [.box 26 [.nil, .nil, .nil, AI 0, AI 0], .box 26 [.ref 2, .ref 3, .ref 4, AI (lowF xs ((shl64 1 xs.length) - 1)), AI (lowF (invA xs xs.length) ((shl64 1 xs.length) - 1))], rowA eLI 30 1 (tabR (hyM xs) xs.length x), rowA eLI 30 1 (tabR (hyJ xs) xs.length x), rowA eLI 30 1 LJ]⟩ : St) : Nat × (List (List Int)) → St)) (fun | (u, LJ) => (u ≤ xs.length) ∧ (LJ = tabR (hyI xs) xs.length u)) (fun | (u, LJ) => xs.length - u) (0, []) [0, 2, 4, 5, 6, 11] none ⟨(by omega), (by rfl)⟩ ?_))
 rintro ⟨u, LJ⟩ ⟨h20_1, rfl⟩ R17 N18
 have hjl := tabR_len (hyI xs) xs.length u
 refine R.go 7 (k3 ((u : Int) < (xs.length : Int)) (fun c21 => ?_) (fun c21 => ?_))
 ·refine R.go 14 (k17 ((fun | (w, C) => (⟨(frm 168 [(0, LI xs), (2, .ptr 0 0), (4, AI xs.length), (5, LI (invA xs xs.length)), (6, .ptr 1 0), (11, AI (u : Int)), (12, .ref 5), (13, AI (w : Int))]), [.box 26 [.nil, .nil, .nil, AI 0, AI 0], .box 26 [.ref 2, .ref 3, .ref 4, AI (lowF xs ((shl64 1 xs.length) - 1)), AI (lowF (invA xs xs.length) ((shl64 1 xs.length) - 1))], rowA eLI 30 1 (tabR (hyM xs) xs.length x), rowA eLI 30 1 (tabR (hyJ xs) xs.length x), rowA eLI 30 1 (tabR (hyI xs) xs.length u), rowA eI 2 1 C]⟩ : St) : Nat × (List Int) → St)) (fun | (w, C) => (w ≤ xs.length) ∧ (C = rowR (hyI xs u) w)) (fun | (w, C) => xs.length - w) (0, []) [0, 2, 4, 5, 6, 11, 12, 13] none ⟨(by omega), (by rfl)⟩ ?_)
  rintro ⟨w, C⟩ ⟨h25_1, rfl⟩ R22 N23
  have hcr := rowR_len (hyI xs u) w
  refine R.go 7 (k3 ((w : Int) < (xs.length : Int)) (fun c26 => ?_) (fun c26 => ?_))
  ·refine R.go 13 (k17 ((fun | (z, cm) => (⟨(frm 168 [(0, LI xs), (2, .ptr 0 0), (4, AI xs.length), (5, LI (invA xs xs.length)), (6, .ptr 1 0), (11, AI (u : Int)), (12, .ref 5), (13, AI (w : Int)), (14, AI cm), (15, AI (z : Int))]), [.box 26 [.nil, .nil, .nil, AI 0, AI 0], .box 26 [.ref 2, .ref 3, .ref 4, AI (lowF xs ((shl64 1 xs.length) - 1)), AI (lowF (invA xs xs.length) ((shl64 1 xs.length) - 1))], rowA eLI 30 1 (tabR (hyM xs) xs.length x), rowA eLI 30 1 (tabR (hyJ xs) xs.length x), rowA eLI 30 1 (tabR (hyI xs) xs.length u), rowA eI 2 1 (rowR (hyI xs u) w)]⟩ : St) : Nat × Int → St)) (fun | (z, cm) => (z ≤ xs.length) ∧ (cm = hyC xs u w z)) (fun | (z, cm) => xs.length - z) (0, 0) [0, 2, 4, 5, 6, 11, 12, 13, 14, 15] none ⟨(by omega), (by rfl)⟩ ?_)
   rintro ⟨z, cm⟩ ⟨h30_1, rfl⟩ R27 N28
   refine R.go 7 (k3 ((z : Int) < (xs.length : Int)) (fun c31 => ?_) (fun c31 => ?_))
   ·have hzx : x = xs.length := by omega
    have hat := tabL_at (f := hyM xs) (N := xs.length) (x := x) (i := z) (j := u) (by omega) (by omega)
    have hva := hat.1
    have hvl := hat.2
    have hvr := hyM_rng hH (x := z) (y := u) (by omega) (by omega)
    have hvx := hxi ((((tabR (hyM xs) xs.length x).getD z []).getD u 0).toNat) (by omega)
    refine R.go 9 (k10 2 1 (tabR (hyM xs) xs.length x).length z (z : Int) (R.ldE eLI 1 0 (tabR (hyM xs) xs.length x) [] z (LI ((tabR (hyM xs) xs.length x).getD z [])) (by kernel_rfl) eLI_len (by omega) rfl (by kernel_rfl) (R.go 1 (k9 eI ((tabR (hyM xs) xs.length x).getD z []) 0 u (u : Int) eI_len ?_ (hj := by first | omega | (simp only [List.length_set]; omega) | (simp <;> omega))))))
    refine R.go 1 (k9 eI xs 0 (((((tabR (hyM xs) xs.length x).getD z []).getD u 0)).toNat) (((tabR (hyM xs) xs.length x).getD z []).getD u 0) eI_len ?_ (hji := by omega))
    refine R.go 2 (k16 true (l01Bit_c (xs.getD (((((tabR (hyM xs) xs.length x).getD z []).getD u 0)).toNat) 0) (w : Int) (by omega) (by omega)) (R.go 1 (k3 (band (shr64 (xs.getD (((((tabR (hyM xs) xs.length x).getD z []).getD u 0)).toNat) 0) (w : Int)) 1 = 1) (fun c32 => ?_) (fun c32 => ?_))))
    ·refine R.go 3 (k16 true (l01One_c (z : Int) (by omega) (by omega)) (R.go 6 (k1 ((z : Int) + 1) ?_)))
     exact R.go 2 (k18 R27 (N28 (z + 1, bor (hyC xs u w z) (shl64 1 (z : Int))) [0, 2, 4, 5, 6, 11, 12, 13, 14, 15] none _ (by kernel_rfl) (by kernel_rfl) ⟨(by omega), (by first | exact hyC_yes hH (by omega) (by omega) (by omega) hva ((spec_bit hH (by omega) (by omega) (by omega)).1 (by assumption)) | exact hyC_no hH (by omega) (by omega) (by omega) hva (fun q => absurd ((spec_bit hH (by omega) (by omega) (by omega)).2 q) (by assumption)))⟩ (by show (xs.length - (z + 1)) < (xs.length - z); omega)))
    refine R.go 4 (k1 ((z : Int) + 1) ?_)
    exact R.go 2 (k18 R27 (N28 (z + 1, hyC xs u w z) [0, 2, 4, 5, 6, 11, 12, 13, 14, 15] none _ (by kernel_rfl) (by kernel_rfl) ⟨(by omega), (by first | exact hyC_yes hH (by omega) (by omega) (by omega) hva ((spec_bit hH (by omega) (by omega) (by omega)).1 (by assumption)) | exact hyC_no hH (by omega) (by omega) (by omega) hva (fun q => absurd ((spec_bit hH (by omega) (by omega) (by omega)).2 q) (by assumption)))⟩ (by show (xs.length - (z + 1)) < (xs.length - z); omega)))
   have hcz := inM_mono (n' := 61) (by omega) (hyC_in hH u w (z := z) (by omega))
   have hcl : 0 ≤ lowF (invA xs xs.length) (hyC xs u w z) := by rw [show z = xs.length by omega]; exact hH.im u w (by omega) (by omega)
   refine R.go 5 (k16 true (l18Low_c (invA xs xs.length) (hyC xs u w z) (by first | omega | (simp <;> omega)) (by first | assumption | exact inM_mono (by omega) (by assumption))) (R.go 8 (k3 ((lowF (invA xs xs.length) (hyC xs u w z)) < 0) (fun c33 => ?_) (fun c33 => ?_))))
   ·refine R.go 6 (k21 0 0 30 1 (k21 0 1 30 1 (k21 0 2 30 1 ?_)))
    exact k19 (.tup [.agg [ownA eLI 30 1 [], ownA eLI 30 1 [], ownA eLI 30 1 [], AI 0, AI 0], .bool false]) (by first | (first | (rw [show x = xs.length by omega, show u = xs.length by omega]; rfl) | (exfalso; simp_all; done)) | (exfalso; omega))
   refine R.go 5 (k14 eI (rowR (hyI xs u) w) [lowF (invA xs xs.length) (hyC xs u w z)] 5 2 1 8 eI_one (R.go 5 (k1 ((w : Int) + 1) ?_)))
   exact R.go 2 (k18 R22 (N23 (w + 1, (rowR (hyI xs u) w) ++ [lowF (invA xs xs.length) (hyC xs u w z)]) [0, 2, 4, 5, 6, 11, 12, 13] (some [0, 1, 2, 3, 4, 5]) _ (by kernel_rfl) (by kernel_rfl) ⟨(by omega), (by rw [show z = xs.length by omega]; exact rowR_snoc)⟩ (by show (xs.length - (w + 1)) < (xs.length - w); omega)))
  refine R.go 5 (k14 eLI [] (tabR (hyI xs) xs.length u) 6 30 1 24 eLI_one (R.go 1 (k20 5 (R.go 1 (k14 eLI ([] ++ (tabR (hyI xs) xs.length u)) [rowR (hyI xs u) w] 6 30 1 24 eLI_one (R.go 6 (k1 ((u : Int) + 1) ?_)))))))
  exact R.go 2 (k18 R17 (N18 (u + 1, [] ++ (tabR (hyI xs) xs.length u) ++ [rowR (hyI xs u) w]) [0, 2, 4, 5, 6, 11] (some [0, 1, 2, 3, 6]) _ (by kernel_rfl) (by kernel_rfl) ⟨(by omega), (by rw [show w = xs.length by omega]; exact tabR_snoc)⟩ (by show (xs.length - (u + 1)) < (xs.length - u); omega)))
 exact R.go 7 (k19 (.tup [.agg [ownA eLI 30 1 (tabR (hyM xs) xs.length x), ownA eLI 30 1 (tabR (hyJ xs) xs.length x), ownA eLI 30 1 (tabR (hyI xs) xs.length u), AI (lowF xs ((shl64 1 xs.length) - 1)), AI (lowF (invA xs xs.length) ((shl64 1 xs.length) - 1))], .bool true]) (by first | (first | (rw [show x = xs.length by omega, show u = xs.length by omega]; rfl) | (exfalso; simp_all; done)) | (exfalso; omega)))
theorem l18BuildU_c (U R : List Int) (hR : R = ordU U) (hH : HyOK (ordU U)) : CallA Tryz.prog 141 [LI R] (.tup [.agg [ownA eLI 30 1 (tabR (hyM (ordU U)) (ordU U).length (ordU U).length), ownA eLI 30 1 (tabR (hyJ (ordU U)) (ordU U).length (ordU U).length), ownA eLI 30 1 (tabR (hyI (ordU U)) (ordU U).length (ordU U).length), AI (lowF (ordU U) (fullM (ordU U).length)), AI (lowF (invA (ordU U) (ordU U).length) (fullM (ordU U).length))], .bool true]) := by subst hR; exact l18Build_c _ hH
theorem heytingOfU_c (U R : List Int) (hR : R = ordU U) (hH : HyOK (ordU U)) : CallE Tryz.prog 134 [LI R] (fun (b : Nat) (r : AV) => ∃ LA : List (Value × List Int), ∃ LO : List (Value × List Int), ∃ LJ : List (Value × List Int), r = .tup [.agg [ownA (eV eI 2 1) 30 1 LA, ownA (eV eI 2 1) 30 1 LO, ownA (eV eI 2 1) 30 1 LJ, AI (lowF (ordU U) (fullM (ordU U).length)), AI (lowF (invA (ordU U) (ordU U).length) (fullM (ordU U).length))], .bool true] ∧ (NL b LA) ∧ (NL b LO) ∧ (NL b LJ) ∧ (NX LA LO) ∧ (NX LA LJ) ∧ (NX LO LJ) ∧ (LA.map Prod.snd = tabR (hyM (ordU U)) (ordU U).length (ordU U).length) ∧ (LO.map Prod.snd = tabR (hyJ (ordU U)) (ordU U).length (ordU U).length) ∧ (LJ.map Prod.snd = tabR (hyI (ordU U)) (ordU U).length (ordU U).length)) := by subst hR; exact heytingOf_c _ hH
theorem heytingOfU_c_cl (U R : List Int) : ∀ (b : Nat) (r : AV), (fun (b : Nat) (r : AV) => ∃ LA : List (Value × List Int), ∃ LO : List (Value × List Int), ∃ LJ : List (Value × List Int), r = .tup [.agg [ownA (eV eI 2 1) 30 1 LA, ownA (eV eI 2 1) 30 1 LO, ownA (eV eI 2 1) 30 1 LJ, AI (lowF (ordU U) (fullM (ordU U).length)), AI (lowF (invA (ordU U) (ordU U).length) (fullM (ordU U).length))], .bool true] ∧ (NL b LA) ∧ (NL b LO) ∧ (NL b LJ) ∧ (NX LA LO) ∧ (NX LA LJ) ∧ (NX LO LJ) ∧ (LA.map Prod.snd = tabR (hyM (ordU U)) (ordU U).length (ordU U).length) ∧ (LO.map Prod.snd = tabR (hyJ (ordU U)) (ordU U).length (ordU U).length) ∧ (LJ.map Prod.snd = tabR (hyI (ordU U)) (ordU U).length (ordU U).length)) b r → ClosedN b r := heytingOf_c_cl (ordU U)
theorem l18Of_c (n : Int) (xs : List Int) (hP : okPo n xs = true) (h30 : (upL n xs).length ≤ 30) : CallA Tryz.prog 232 [.agg [AI n, LI xs]] (.agg [ownA eLI 30 1 (tabR (hyM (ordU (upL n xs))) (ordU (upL n xs)).length (ordU (upL n xs)).length), ownA eLI 30 1 (tabR (hyJ (ordU (upL n xs))) (ordU (upL n xs)).length (ordU (upL n xs)).length), ownA eLI 30 1 (tabR (hyI (ordU (upL n xs))) (ordU (upL n xs)).length (ordU (upL n xs)).length), AI (lowF (ordU (upL n xs)) (fullM (ordU (upL n xs)).length)), AI (lowF (invA (ordU (upL n xs)) (ordU (upL n xs)).length) (fullM (ordU (upL n xs)).length))]) := by
 have hH : HyOK (ordU (upL n xs)) := up_hy hP h30
 have hol := ordU_len (upL n xs)
 refine CallA.of Tryz.func232 rfl (by kernel_rfl) (R.go 8 (k16 true (l16Upsets_c n xs hP) (R.go 10 (k17 ((fun | (x, R) => (⟨(frm 49 [(2, .ptr 0 0), (3, .ref 1), (4, .ref 2), (5, AI (x : Int))]), [.box 26 [.nil, .nil, .nil, AI 0, AI 0], rowA eI 2 1 (upL n xs), rowA eI 2 1 R]⟩ : St) : Nat × (List Int) → St)) (fun | (x, R) => (x ≤ (upL n xs).length) ∧ (R = rowR (fun x => mkB (subU (upL n xs) x) (upL n xs).length) x)) (fun | (x, R) => (upL n xs).length - x) (0, []) [2, 3, 4, 5] (some [1, 2, 3]) ⟨(by omega), (by rfl)⟩ ?_))))
 rintro ⟨x, R⟩ ⟨h4_1, rfl⟩ R1 N2
 have hrl := rowR_len (fun x => mkB (subU (upL n xs) x) (upL n xs).length) x
 refine R.go 8 (k3 ((x : Int) < ((upL n xs).length : Int)) (fun c5 => ?_) (fun c5 => ?_))
 ·refine R.go 13 (k17 ((fun | (y, m) => (⟨(frm 49 [(2, .ptr 0 0), (3, .ref 1), (4, .ref 2), (5, AI (x : Int)), (6, AI m), (7, AI (y : Int))]), [.box 26 [.nil, .nil, .nil, AI 0, AI 0], rowA eI 2 1 (upL n xs), rowA eI 2 1 (rowR (fun x => mkB (subU (upL n xs) x) (upL n xs).length) x)]⟩ : St) : Nat × Int → St)) (fun | (y, m) => (y ≤ (upL n xs).length) ∧ (m = mkB (subU (upL n xs) x) y)) (fun | (y, m) => (upL n xs).length - y) (0, 0) [2, 3, 4, 5, 6, 7] none ⟨(by omega), (by rfl)⟩ ?_)
  rintro ⟨y, m⟩ ⟨h9_1, rfl⟩ R6 N7
  refine R.go 8 (k3 ((y : Int) < ((upL n xs).length : Int)) (fun c10 => ?_) (fun c10 => ?_))
  ·refine R.go 7 (k10 1 1 (upL n xs).length x (x : Int) (k12 (upL n xs) x (R.go 2 (k10 1 1 (upL n xs).length y (y : Int) (k12 (upL n xs) y (R.go 3 (k3 ((bnot ((upL n xs).getD x 0) ((upL n xs).getD y 0)) = 0) (fun c11 => ?_) (fun c11 => ?_))))))))
   ·refine R.go 3 (k16 true (l01One_c (y : Int) (by omega) (by omega)) (R.go 6 (k1 ((y : Int) + 1) ?_)))
    exact R.go 2 (k18 R6 (N7 (y + 1, bor (mkB (subU (upL n xs) x) y) (shl64 1 (y : Int))) [2, 3, 4, 5, 6, 7] none _ (by kernel_rfl) (by kernel_rfl) ⟨(by omega), (by first | exact mkS_yes (by assumption) | exact mkS_no (by assumption))⟩ (by show ((upL n xs).length - (y + 1)) < ((upL n xs).length - y); omega)))
   refine R.go 4 (k1 ((y : Int) + 1) ?_)
   exact R.go 2 (k18 R6 (N7 (y + 1, mkB (subU (upL n xs) x) y) [2, 3, 4, 5, 6, 7] none _ (by kernel_rfl) (by kernel_rfl) ⟨(by omega), (by first | exact mkS_yes (by assumption) | exact mkS_no (by assumption))⟩ (by show ((upL n xs).length - (y + 1)) < ((upL n xs).length - y); omega)))
  refine R.go 5 (k14 eI (rowR (fun x => mkB (subU (upL n xs) x) (upL n xs).length) x) [mkB (subU (upL n xs) x) y] 2 2 1 8 eI_one (R.go 5 (k1 ((x : Int) + 1) ?_)))
  exact R.go 2 (k18 R1 (N2 (x + 1, (rowR (fun x => mkB (subU (upL n xs) x) (upL n xs).length) x) ++ [mkB (subU (upL n xs) x) y]) [2, 3, 4, 5] (some [0, 1, 2]) _ (by kernel_rfl) (by kernel_rfl) ⟨(by omega), (by exact mkS_row (by omega))⟩ (by show ((upL n xs).length - (x + 1)) < ((upL n xs).length - x); omega)))
 refine R.go 4 (k20 2 (k16 true (l18BuildU_c (upL n xs) (rowR (fun x => mkB (subU (upL n xs) x) (upL n xs).length) x) (by first | exact ordU_rowR (by omega) | exact ordU_row (by omega)) hH) ?_))
 exact R.go 12 (k19 (.agg [ownA eLI 30 1 (tabR (hyM (ordU (upL n xs))) (ordU (upL n xs)).length (ordU (upL n xs)).length), ownA eLI 30 1 (tabR (hyJ (ordU (upL n xs))) (ordU (upL n xs)).length (ordU (upL n xs)).length), ownA eLI 30 1 (tabR (hyI (ordU (upL n xs))) (ordU (upL n xs)).length (ordU (upL n xs)).length), AI (lowF (ordU (upL n xs)) (fullM (ordU (upL n xs)).length)), AI (lowF (invA (ordU (upL n xs)) (ordU (upL n xs)).length) (fullM (ordU (upL n xs)).length))]) (by rfl))
theorem upsetAlgebra_c (n : Int) (xs : List Int) (hP : okPo n xs = true) (h30 : (upL n xs).length ≤ 30) : CallE Tryz.prog 71 [.agg [AI n, LI xs]] (fun (b : Nat) (r : AV) => ∃ LA LO LJ : List (Value × List Int), r = .agg [ownA (eV eI 2 1) 30 1 LA, ownA (eV eI 2 1) 30 1 LO, ownA (eV eI 2 1) 30 1 LJ, AI (lowF (ordU (upL n xs)) (fullM (ordU (upL n xs)).length)), AI (lowF (invA (ordU (upL n xs)) (ordU (upL n xs)).length) (fullM (ordU (upL n xs)).length))] ∧ (NL b LA) ∧ (NL b LO) ∧ (NL b LJ) ∧ (NX LA LO) ∧ (NX LA LJ) ∧ (NX LO LJ) ∧ (LA.map Prod.snd = tabR (hyM (ordU (upL n xs))) (ordU (upL n xs)).length (ordU (upL n xs)).length) ∧ (LO.map Prod.snd = tabR (hyJ (ordU (upL n xs))) (ordU (upL n xs)).length (ordU (upL n xs)).length) ∧ (LJ.map Prod.snd = tabR (hyI (ordU (upL n xs))) (ordU (upL n xs)).length (ordU (upL n xs)).length)) := by
 have hH : HyOK (ordU (upL n xs)) := up_hy hP h30
 have hol := ordU_len (upL n xs)
 refine CallE.of Tryz.func71 rfl (by kernel_rfl) (fun b => (R.go 8 (k16 true (upsets_c n xs hP) (R.go 6 (k15 eI 0 2 8 ((upL n xs).length) ((upL n xs).length) (R.go 10 (k17 ((fun | (x, R) => (⟨(frm 49 [(2, .ptr 1 0), (3, .ref 2), (4, .ref 3), (16, .ref 2), (17, AI ((upL n xs).length)), (18, AI (x : Int))]), [.inert (.base b), .box 26 [.nil, .nil, .nil, AI 0, AI 0], rowA eI 2 1 (upL n xs), rowA eI 2 1 R]⟩ : St) : Nat × (List Int) → St)) (fun | (x, R) => (x ≤ (upL n xs).length) ∧ (R = rowT (fun x => mkB (subU (upL n xs) x) (upL n xs).length) (upL n xs).length x)) (fun | (x, R) => (upL n xs).length - x) (0, (List.replicate ((upL n xs).length) 0)) [2, 3, 4, 16, 17, 18] (some [0, 2, 3, 4]) ⟨(by omega), (by exact ordT_zero)⟩ ?_)))))))
 rintro ⟨x, R⟩ ⟨h4_1, rfl⟩ R1 N2
 have hrl := rowT_len (fun x => mkB (subU (upL n xs) x) (upL n xs).length) (upL n xs).length x
 refine R.go 5 (k3 ((x : Int) < ((upL n xs).length : Int)) (fun c5 => ?_) (fun c5 => ?_))
 ·refine R.go 6 (k10 2 1 (upL n xs).length x (x : Int) (k12 (upL n xs) x (R.go 10 (k17 ((fun | (y, W) => (⟨(frm 49 [(2, .ptr 1 0), (3, .ref 2), (4, .ref 3), (5, AI (x : Int)), (6, AI ((upL n xs).getD x 0)), (16, .ref 2), (17, AI ((upL n xs).length)), (18, AI (x : Int)), (23, .ref 2), (24, AI ((upL n xs).length)), (25, AI (y : Int))]), [.inert (.base b), .box 26 [.nil, .nil, .nil, AI 0, AI 0], rowA eI 2 1 (upL n xs), rowA eI 2 1 W]⟩ : St) : Nat × (List Int) → St)) (fun | (y, W) => (y ≤ (upL n xs).length) ∧ (W = ordW (upL n xs) x y)) (fun | (y, W) => (upL n xs).length - y) (0, (rowT (fun x => mkB (subU (upL n xs) x) (upL n xs).length) (upL n xs).length x)) [2, 3, 4, 5, 6, 16, 17, 18, 23, 24, 25] none ⟨(by omega), (by exact ordW_zero (by omega))⟩ ?_))))
  rintro ⟨y, W⟩ ⟨h9_1, rfl⟩ R6 N7
  have hwl := ordW_len (upL n xs) x y
  refine R.go 5 (k3 ((y : Int) < ((upL n xs).length : Int)) (fun c10 => ?_) (fun c10 => ?_))
  ·refine R.go 6 (k10 2 1 (upL n xs).length y (y : Int) (k12 (upL n xs) y (R.go 7 (k16 true (within_c ((upL n xs).getD x 0) ((upL n xs).getD y 0)) (R.go 1 (k3 (bnot ((upL n xs).getD x 0) ((upL n xs).getD y 0) = 0) (fun c11 => ?_) (fun c11 => ?_)))))))
   ·refine R.meet (⟨(frm 49 [(2, .ptr 1 0), (3, .ref 2), (4, .ref 3), (5, AI (x : Int)), (6, AI ((upL n xs).getD x 0)), (7, AI (y : Int)), (8, AI ((upL n xs).getD y 0)), (16, .ref 2), (17, AI ((upL n xs).length)), (18, AI (x : Int)), (23, .ref 2), (24, AI ((upL n xs).length)), (25, AI (y : Int)), (26, .bool (decide ((y : Int) < ((upL n xs).length : Int)))), (27, AI (y : Int)), (28, .ptr 2 (y * 1)), (29, AI ((upL n xs).getD y 0)), (30, AI ((upL n xs).getD x 0)), (31, AI ((upL n xs).getD y 0)), (32, .bool (decide (bnot ((upL n xs).getD x 0) ((upL n xs).getD y 0) = 0))), (33, .ref 3), (34, AI (x : Int)), (35, .ptr 3 (x * 1)), (36, AI ((ordW (upL n xs) x y).getD x 0)), (37, AI (y : Int)), (38, AI (shl64 1 (y : Int))), (39, AI (bor ((ordW (upL n xs) x y).getD x 0) (shl64 1 (y : Int)))), (40, .ptr 3 (x * 1))]), [.inert (.base b), .box 26 [.nil, .nil, .nil, AI 0, AI 0], rowA eI 2 1 (upL n xs), rowA eI 2 1 ((ordW (upL n xs) x y).set x (bor ((ordW (upL n xs) x y).getD x 0) (shl64 1 (y : Int))))]⟩ : St) (by kernel_rfl) ?_ ?_
    ·refine R.any (by decide +kernel) (by kernel_rfl) (k27 0 (k27 1 (k27 4 (k37 2 3 1 (ordW (upL n xs) x y).length x (x : Int) (R.anyS 5 1 (y : Int) (by kernel_rfl) (by omega) (np_meet _) (k24 3 (k12 (ordW (upL n xs) x y) x (R.go 1 (k24 6 (R.go 2 (k37 7 3 1 (ordW (upL n xs) x y).length x (x : Int) ?_)))))))))))
     refine k24 8 (k13 3 2 (ordW (upL n xs) x y) x (bor ((ordW (upL n xs) x y).getD x 0) (shl64 1 (y : Int))) (R.go 1 (k23 ?_)))
     exact k28
    refine R.go 2 (k1 ((y : Int) + 1) ?_)
    exact R.go 2 (k18 R6 (N7 (y + 1, (ordW (upL n xs) x y).set x (bor ((ordW (upL n xs) x y).getD x 0) (shl64 1 (y : Int)))) [2, 3, 4, 5, 6, 16, 17, 18, 23, 24, 25] none _ (by kernel_rfl) (by kernel_rfl) ⟨(by omega), (by first | exact ordW_yes (by omega) (by assumption) | exact ordW_no (by assumption))⟩ (by show ((upL n xs).length - (y + 1)) < ((upL n xs).length - y); omega)))
   refine R.go 3 (k1 ((y : Int) + 1) ?_)
   exact R.go 2 (k18 R6 (N7 (y + 1, ordW (upL n xs) x y) [2, 3, 4, 5, 6, 16, 17, 18, 23, 24, 25] none _ (by kernel_rfl) (by kernel_rfl) ⟨(by omega), (by first | exact ordW_yes (by omega) (by assumption) | exact ordW_no (by assumption))⟩ (by show ((upL n xs).length - (y + 1)) < ((upL n xs).length - y); omega)))
  refine R.go 3 (k1 ((x : Int) + 1) ?_)
  exact R.go 2 (k18 R1 (N2 (x + 1, ordW (upL n xs) x y) [2, 3, 4, 16, 17, 18] none _ (by kernel_rfl) (by kernel_rfl) ⟨(by omega), (by exact ordW_end (by omega) (by omega))⟩ (by show ((upL n xs).length - (x + 1)) < ((upL n xs).length - x); omega)))
 refine R.go 4 (R.callE (avs0 := [.ref 3]) (heytingOfU_c (upL n xs) (rowT (fun x => mkB (subU (upL n xs) x) (upL n xs).length) (upL n xs).length x) (by first | exact ordU_rowR (by omega) | exact ordU_row (by omega)) hH) (by kernel_rfl) (.cons (.ref (e := 2) (s := 1) (n := (rowT (fun x => mkB (subU (upL n xs) x) (upL n xs).length) (upL n xs).length x).length) (cs := rows eI (rowT (fun x => mkB (subU (upL n xs) x) (upL n xs).length) (upL n xs).length x)) (by kernel_rfl)) (.nil)) (heytingOfU_c_cl (upL n xs) (rowT (fun x => mkB (subU (upL n xs) x) (upL n xs).length) (upL n xs).length x)) (by kernel_rfl) ?_)
 intro bE1 hbn12 hsn13 rn14 hrn15
 obtain ⟨LAE1, LOE1, LJE1, rfl, heE1_1, heE1_2, heE1_3, heE1_4, heE1_5, heE1_6, heE1_7, heE1_8, heE1_9⟩ := hrn15
 have hbb16 : b ≤ bE1 := hbn12 0 b (by kernel_rfl)
 clear hbn12 hsn13
 exact R.go 12 (k30 (.agg [ownA (eV eI 2 1) 30 1 LAE1, ownA (eV eI 2 1) 30 1 LOE1, ownA (eV eI 2 1) 30 1 LJE1, AI (lowF (ordU (upL n xs)) (fullM (ordU (upL n xs)).length)), AI (lowF (invA (ordU (upL n xs)) (ordU (upL n xs)).length) (fullM (ordU (upL n xs)).length))]) ⟨LAE1, LOE1, LJE1, rfl, by first | (exact NL.mono ‹NL bE1 LAE1› ‹b ≤ bE1›) | (exfalso; omega), by first | (exact NL.mono ‹NL bE1 LOE1› ‹b ≤ bE1›) | (exfalso; omega), by first | (exact NL.mono ‹NL bE1 LJE1› ‹b ≤ bE1›) | (exfalso; omega), by first | (assumption) | (exfalso; omega), by first | (assumption) | (exfalso; omega), by first | (assumption) | (exfalso; omega), by first | (assumption) | (exfalso; omega), by first | (assumption) | (exfalso; omega), by first | (assumption) | (exfalso; omega)⟩)
theorem upsetAlgebra_c_cl (n : Int) (xs : List Int) : ∀ (b : Nat) (r : AV), (fun (b : Nat) (r : AV) => ∃ LA : List (Value × List Int), ∃ LO : List (Value × List Int), ∃ LJ : List (Value × List Int), r = .agg [ownA (eV eI 2 1) 30 1 LA, ownA (eV eI 2 1) 30 1 LO, ownA (eV eI 2 1) 30 1 LJ, AI (lowF (ordU (upL n xs)) (fullM (ordU (upL n xs)).length)), AI (lowF (invA (ordU (upL n xs)) (ordU (upL n xs)).length) (fullM (ordU (upL n xs)).length))] ∧ (NL b LA) ∧ (NL b LO) ∧ (NL b LJ) ∧ (NX LA LO) ∧ (NX LA LJ) ∧ (NX LO LJ) ∧ (LA.map Prod.snd = tabR (hyM (ordU (upL n xs))) (ordU (upL n xs)).length (ordU (upL n xs)).length) ∧ (LO.map Prod.snd = tabR (hyJ (ordU (upL n xs))) (ordU (upL n xs)).length (ordU (upL n xs)).length) ∧ (LJ.map Prod.snd = tabR (hyI (ordU (upL n xs))) (ordU (upL n xs)).length (ordU (upL n xs)).length)) b r → ClosedN b r := by
 rintro b r ⟨LA, LO, LJ, rfl, e0, e1, e2, e3, e4, e5, e6, e7, e8⟩
 exact (closedN_agg (closedNL_cons (closedN_own _ e0 eI_closed) (closedNL_cons (closedN_own _ e1 eI_closed) (closedNL_cons (closedN_own _ e2 eI_closed) (closedNL_cons closedN_int (closedNL_cons closedN_int closedNL_nil))))))
end Go.Proofs.YtjllngcefoohpaaGreat
