/- Texts of the proof: HE3, Sym6, Syme, Symf, HP1. -/
import Derived.Shelf.SortM.Plain
import Derived.Shelf.SortM.SortNone
import Derived.Sort.OwnSortedInts
import Derived.Test.YtjllngcefoohpaaGreatPartL

/-! Both packages tell a Heyting algebra. -/
namespace Go.Proofs.YtjllngcefoohpaaGreat
open Go.RowKit Go.Abs

theorem ntF {b : Bool} (h : b = false) : ¬ b = true := by rw [h]; decide
theorem ok_ordT {A : List (List Int)} (h30 : A.length ≤ 30) (hB : hyB (ordT A) = true) : HyOK (ordT A) := hyB_ok (by rw [ordT_len]; exact h30) (ordT_rel (by omega)) hB

theorem isHeytingYE (A : List (List Int)) (O : List (List Int)) (J : List (List Int)) (bo : Int) (t : Int) (la : A.length ≤ 1000000000 ∧ O.length ≤ 1000000000 ∧ J.length ≤ 1000000000) (mA : ∀ i0 : Nat, i0 < A.length → (A.getD i0 []).length ≤ 1000000000) (mO : ∀ i0 : Nat, i0 < O.length → (O.getD i0 []).length ≤ 1000000000) (mJ : ∀ i0 : Nat, i0 < J.length → (J.getD i0 []).length ≤ 1000000000) (hB : hyB (ordT A) = true) : CallE Tryz.prog 53 [.agg [LLI A, LLI O, LLI J, AI bo, AI t]] (fun (b : Nat) (r : AV) => r = .bool (hyIs A O J bo t)) := by
 refine CallE.of Tryz.func53 rfl (by kernel_rfl) (fun b => ?_)
 refine R.go 9 (k15 true (hsize_c A O J bo t) rfl ?_)
 refine k15 true (inRange_c A.length 1 30) rfl ?_
 refine R.go 2 ?_
 refine (Bool.eq_false_or_eq_true (inR A.length 1 30)).elim (fun c1 => ?_) (fun c1 => ?_)
 ·refine k5 (!(inR A.length 1 30)) false (bnF c1) ?_
  refine R.go 1 (k5 (!(inR A.length 1 30)) false (bnF c1) ?_)
  refine R.go 1 (k5 (!(inR A.length 1 30)) false (bnF c1) ?_)
  refine R.go 1 (k5 (!(inR A.length 1 30)) false (bnF c1) ?_)
  refine k15 true (isTable_c A O J bo t A (by first | omega | (simp <;> omega)) (by first | omega | (simp <;> omega)) mA) rfl ?_
  refine k5 (!(inR A.length 1 30)) false (bnF c1) ?_
  refine R.go 1 (k7 (!(inR A.length 1 30)) false (bnF c1) ?_)
  refine R.go 1 ?_
  refine (Bool.eq_false_or_eq_true (tabB A.length A)).elim (fun c2 => ?_) (fun c2 => ?_)
  ·refine k5 (!(tabB A.length A)) false (bnF c2) ?_
   refine R.go 1 (k5 (!(tabB A.length A)) false (bnF c2) ?_)
   refine R.go 1 (k5 (!(tabB A.length A)) false (bnF c2) ?_)
   refine R.go 1 (k5 (!(tabB A.length A)) false (bnF c2) ?_)
   refine k15 true (isTable_c A O J bo t O (by first | omega | (simp <;> omega)) (by first | omega | (simp <;> omega)) mO) rfl ?_
   refine k5 (!(tabB A.length A)) false (bnF c2) ?_
   refine R.go 1 (k7 (!(tabB A.length A)) false (bnF c2) ?_)
   refine R.go 1 ?_
   refine (Bool.eq_false_or_eq_true (tabB A.length O)).elim (fun c3 => ?_) (fun c3 => ?_)
   ·refine k5 (!(tabB A.length O)) false (bnF c3) ?_
    refine R.go 1 (k5 (!(tabB A.length O)) false (bnF c3) ?_)
    refine R.go 1 (k5 (!(tabB A.length O)) false (bnF c3) ?_)
    refine R.go 1 (k5 (!(tabB A.length O)) false (bnF c3) ?_)
    refine k15 true (isTable_c A O J bo t J (by first | omega | (simp <;> omega)) (by first | omega | (simp <;> omega)) mJ) rfl ?_
    refine k5 (!(tabB A.length O)) false (bnF c3) ?_
    refine R.go 1 (k7 (!(tabB A.length O)) false (bnF c3) ?_)
    refine R.go 1 (k20 (tabB A.length J) (fun c4 => ?_) (fun c4 => ?_))
    ·exact R.go 4 (k28 (.bool false) (by first | rfl | (apply congrArg AV.bool; first | exact hyIs_1 (by have h9 := (inR_not _ _ _).1 (by assumption : inR (A.length : Int) 1 30 = false); omega) | exact hyIs_2 (ntF (by assumption)) | exact hyIs_3 (ntF (by assumption)) | exact hyIs_4 (ntF (by assumption)) | (rw [heE1_7, heE1_8, heE1_9, ordT_len]; exact hyIs_6 (by omega) (by assumption) (by assumption) (by assumption) hB)) | (exfalso; omega)))
    ·have hr30 := (inR_iff _ _ _).1 (by assumption : inR (A.length : Int) 1 30 = true)
     have hol := ordT_len A
     have hO : HyOK (ordT A) := ok_ordT (by omega) hB
     refine R.go 4 (k15 true (order_c A O J bo t c2 (by first | omega | (simp <;> omega))) rfl ?_)
     refine R.callE (avs0 := [.ref 2]) (heytingOf_c (ordT A) hO) (by kernel_rfl) (.cons (.ref (e := 2) (s := 1) (n := (ordT A).length) (cs := rows eI (ordT A)) (by kernel_rfl)) (.nil)) (heytingOf_c_cl (ordT A)) (by kernel_rfl) ?_
     intro bE1 hbn5 hsn6 rn7 hrn8
     obtain ⟨LAE1, LOE1, LJE1, rfl, heE1_1, heE1_2, heE1_3, heE1_4, heE1_5, heE1_6, heE1_7, heE1_8, heE1_9⟩ := hrn8
     have hbb9 : b ≤ bE1 := hbn5 0 b (by kernel_rfl)
     clear hbn5 hsn6
     refine R.go 13 (R.callW (avs0 := [.agg [LLI A, LLI O, LLI J, AI bo, AI t], .agg [.ref 3, .ref 4, .ref 5, AI (lowF (ordT A) (fullM (ordT A).length)), AI (lowF (invA (ordT A) (ordT A).length) (fullM (ordT A).length))]]) (sameHey_c A O J (LAE1.map Prod.snd) (LOE1.map Prod.snd) (LJE1.map Prod.snd) bo t (lowF (ordT A) (fullM (ordT A).length)) (lowF (invA (ordT A) (ordT A).length) (fullM (ordT A).length)) la mA mO mJ) (by kernel_rfl) (.cons (.agg (.cons (.leaf rfl) (.cons (.leaf rfl) (.cons (.leaf rfl) (.cons (.leaf rfl) (.cons (.leaf rfl) (.nil))))))) (.cons (.agg (.cons (.wk (.ref (e := 30) (s := 1) (n := LAE1.length) (cs := rows (eV eI 2 1) LAE1) (by kernel_rfl)) (fgtV (fun _ => rfl) _)) (.cons (.wk (.ref (e := 30) (s := 1) (n := LOE1.length) (cs := rows (eV eI 2 1) LOE1) (by kernel_rfl)) (fgtV (fun _ => rfl) _)) (.cons (.wk (.ref (e := 30) (s := 1) (n := LJE1.length) (cs := rows (eV eI 2 1) LJE1) (by kernel_rfl)) (fgtV (fun _ => rfl) _)) (.cons (.leaf rfl) (.cons (.leaf rfl) (.nil))))))) (.nil))) rfl (by kernel_rfl) ?_)
     exact R.go 3 (k28 (.bool (decide (bo = (lowF (ordT A) (fullM (ordT A).length)) ∧ t = (lowF (invA (ordT A) (ordT A).length) (fullM (ordT A).length)) ∧ A = (LAE1.map Prod.snd) ∧ O = (LOE1.map Prod.snd) ∧ J = (LJE1.map Prod.snd)))) (by first | rfl | (apply congrArg AV.bool; first | exact hyIs_1 (by have h9 := (inR_not _ _ _).1 (by assumption : inR (A.length : Int) 1 30 = false); omega) | exact hyIs_2 (ntF (by assumption)) | exact hyIs_3 (ntF (by assumption)) | exact hyIs_4 (ntF (by assumption)) | (rw [heE1_7, heE1_8, heE1_9, ordT_len]; exact hyIs_6 (by omega) (by assumption) (by assumption) (by assumption) hB)) | (exfalso; omega)))
   ·refine k6 (!(tabB A.length O)) false (bnT c3) ?_
    refine k6 (!(tabB A.length O)) false (bnT c3) ?_
    refine k6 (!(tabB A.length O)) false (bnT c3) ?_
    refine k6 (!(tabB A.length O)) false (bnT c3) ?_
    refine k6 (!(tabB A.length O)) false (bnT c3) ?_
    refine k7 (!(tabB A.length O)) true (bnT c3) ?_
    exact R.go 6 (k28 (.bool false) (by first | rfl | (apply congrArg AV.bool; first | exact hyIs_1 (by have h9 := (inR_not _ _ _).1 (by assumption : inR (A.length : Int) 1 30 = false); omega) | exact hyIs_2 (ntF (by assumption)) | exact hyIs_3 (ntF (by assumption)) | exact hyIs_4 (ntF (by assumption)) | (rw [heE1_7, heE1_8, heE1_9, ordT_len]; exact hyIs_6 (by omega) (by assumption) (by assumption) (by assumption) hB)) | (exfalso; omega)))
  ·refine k6 (!(tabB A.length A)) false (bnT c2) ?_
   refine k6 (!(tabB A.length A)) false (bnT c2) ?_
   refine k6 (!(tabB A.length A)) false (bnT c2) ?_
   refine k6 (!(tabB A.length A)) false (bnT c2) ?_
   refine k6 (!(tabB A.length A)) false (bnT c2) ?_
   refine k7 (!(tabB A.length A)) true (bnT c2) ?_
   exact R.go 13 (k28 (.bool false) (by first | rfl | (apply congrArg AV.bool; first | exact hyIs_1 (by have h9 := (inR_not _ _ _).1 (by assumption : inR (A.length : Int) 1 30 = false); omega) | exact hyIs_2 (ntF (by assumption)) | exact hyIs_3 (ntF (by assumption)) | exact hyIs_4 (ntF (by assumption)) | (rw [heE1_7, heE1_8, heE1_9, ordT_len]; exact hyIs_6 (by omega) (by assumption) (by assumption) (by assumption) hB)) | (exfalso; omega)))
 ·refine k6 (!(inR A.length 1 30)) false (bnT c1) ?_
  refine k6 (!(inR A.length 1 30)) false (bnT c1) ?_
  refine k6 (!(inR A.length 1 30)) false (bnT c1) ?_
  refine k6 (!(inR A.length 1 30)) false (bnT c1) ?_
  refine k6 (!(inR A.length 1 30)) false (bnT c1) ?_
  refine k7 (!(inR A.length 1 30)) true (bnT c1) ?_
  exact R.go 20 (k28 (.bool false) (by first | rfl | (apply congrArg AV.bool; first | exact hyIs_1 (by have h9 := (inR_not _ _ _).1 (by assumption : inR (A.length : Int) 1 30 = false); omega) | exact hyIs_2 (ntF (by assumption)) | exact hyIs_3 (ntF (by assumption)) | exact hyIs_4 (ntF (by assumption)) | (rw [heE1_7, heE1_8, heE1_9, ordT_len]; exact hyIs_6 (by omega) (by assumption) (by assumption) (by assumption) hB)) | (exfalso; omega)))
theorem isHeytingNE (A : List (List Int)) (O : List (List Int)) (J : List (List Int)) (bo : Int) (t : Int) (la : A.length ≤ 1000000000 ∧ O.length ≤ 1000000000 ∧ J.length ≤ 1000000000) (mA : ∀ i0 : Nat, i0 < A.length → (A.getD i0 []).length ≤ 1000000000) (mO : ∀ i0 : Nat, i0 < O.length → (O.getD i0 []).length ≤ 1000000000) (mJ : ∀ i0 : Nat, i0 < J.length → (J.getD i0 []).length ≤ 1000000000) (hB : hyB (ordT A) = false) : CallE Tryz.prog 53 [.agg [LLI A, LLI O, LLI J, AI bo, AI t]] (fun (b : Nat) (r : AV) => r = .bool (hyIs A O J bo t)) := by
 refine CallE.of Tryz.func53 rfl (by kernel_rfl) (fun b => ?_)
 refine R.go 9 (k15 true (hsize_c A O J bo t) rfl ?_)
 refine k15 true (inRange_c A.length 1 30) rfl ?_
 refine R.go 2 ?_
 refine (Bool.eq_false_or_eq_true (inR A.length 1 30)).elim (fun c1 => ?_) (fun c1 => ?_)
 ·refine k5 (!(inR A.length 1 30)) false (bnF c1) ?_
  refine R.go 1 (k5 (!(inR A.length 1 30)) false (bnF c1) ?_)
  refine R.go 1 (k5 (!(inR A.length 1 30)) false (bnF c1) ?_)
  refine R.go 1 (k5 (!(inR A.length 1 30)) false (bnF c1) ?_)
  refine k15 true (isTable_c A O J bo t A (by first | omega | (simp <;> omega)) (by first | omega | (simp <;> omega)) mA) rfl ?_
  refine k5 (!(inR A.length 1 30)) false (bnF c1) ?_
  refine R.go 1 (k7 (!(inR A.length 1 30)) false (bnF c1) ?_)
  refine R.go 1 ?_
  refine (Bool.eq_false_or_eq_true (tabB A.length A)).elim (fun c2 => ?_) (fun c2 => ?_)
  ·refine k5 (!(tabB A.length A)) false (bnF c2) ?_
   refine R.go 1 (k5 (!(tabB A.length A)) false (bnF c2) ?_)
   refine R.go 1 (k5 (!(tabB A.length A)) false (bnF c2) ?_)
   refine R.go 1 (k5 (!(tabB A.length A)) false (bnF c2) ?_)
   refine k15 true (isTable_c A O J bo t O (by first | omega | (simp <;> omega)) (by first | omega | (simp <;> omega)) mO) rfl ?_
   refine k5 (!(tabB A.length A)) false (bnF c2) ?_
   refine R.go 1 (k7 (!(tabB A.length A)) false (bnF c2) ?_)
   refine R.go 1 ?_
   refine (Bool.eq_false_or_eq_true (tabB A.length O)).elim (fun c3 => ?_) (fun c3 => ?_)
   ·refine k5 (!(tabB A.length O)) false (bnF c3) ?_
    refine R.go 1 (k5 (!(tabB A.length O)) false (bnF c3) ?_)
    refine R.go 1 (k5 (!(tabB A.length O)) false (bnF c3) ?_)
    refine R.go 1 (k5 (!(tabB A.length O)) false (bnF c3) ?_)
    refine k15 true (isTable_c A O J bo t J (by first | omega | (simp <;> omega)) (by first | omega | (simp <;> omega)) mJ) rfl ?_
    refine k5 (!(tabB A.length O)) false (bnF c3) ?_
    refine R.go 1 (k7 (!(tabB A.length O)) false (bnF c3) ?_)
    refine R.go 1 (k20 (tabB A.length J) (fun c4 => ?_) (fun c4 => ?_))
    ·exact R.go 4 (k28 (.bool false) (by first | rfl | (apply congrArg AV.bool; first | exact hyIs_1 (by have h9 := (inR_not _ _ _).1 (by assumption : inR (A.length : Int) 1 30 = false); omega) | exact hyIs_2 (ntF (by assumption)) | exact hyIs_3 (ntF (by assumption)) | exact hyIs_4 (ntF (by assumption)) | exact hyIs_5 hB) | (exfalso; omega)))
    ·have hr30 := (inR_iff _ _ _).1 (by assumption : inR (A.length : Int) 1 30 = true)
     have hol := ordT_len A
     have hRl : RelOK (ordT A).length (ordT A) := ordT_rel (by omega)
     refine R.go 4 (k15 true (order_c A O J bo t c2 (by first | omega | (simp <;> omega))) rfl ?_)
     refine k15 false (heytingN_c (ordT A) (by first | omega | (simp <;> omega)) hRl hB) (by simp [AV.closed, closedL, AI]) ?_
     exact R.go 17 (k28 (.bool false) (by first | rfl | (apply congrArg AV.bool; first | exact hyIs_1 (by have h9 := (inR_not _ _ _).1 (by assumption : inR (A.length : Int) 1 30 = false); omega) | exact hyIs_2 (ntF (by assumption)) | exact hyIs_3 (ntF (by assumption)) | exact hyIs_4 (ntF (by assumption)) | exact hyIs_5 hB) | (exfalso; omega)))
   ·refine k6 (!(tabB A.length O)) false (bnT c3) ?_
    refine k6 (!(tabB A.length O)) false (bnT c3) ?_
    refine k6 (!(tabB A.length O)) false (bnT c3) ?_
    refine k6 (!(tabB A.length O)) false (bnT c3) ?_
    refine k6 (!(tabB A.length O)) false (bnT c3) ?_
    refine k7 (!(tabB A.length O)) true (bnT c3) ?_
    exact R.go 6 (k28 (.bool false) (by first | rfl | (apply congrArg AV.bool; first | exact hyIs_1 (by have h9 := (inR_not _ _ _).1 (by assumption : inR (A.length : Int) 1 30 = false); omega) | exact hyIs_2 (ntF (by assumption)) | exact hyIs_3 (ntF (by assumption)) | exact hyIs_4 (ntF (by assumption)) | exact hyIs_5 hB) | (exfalso; omega)))
  ·refine k6 (!(tabB A.length A)) false (bnT c2) ?_
   refine k6 (!(tabB A.length A)) false (bnT c2) ?_
   refine k6 (!(tabB A.length A)) false (bnT c2) ?_
   refine k6 (!(tabB A.length A)) false (bnT c2) ?_
   refine k6 (!(tabB A.length A)) false (bnT c2) ?_
   refine k7 (!(tabB A.length A)) true (bnT c2) ?_
   exact R.go 13 (k28 (.bool false) (by first | rfl | (apply congrArg AV.bool; first | exact hyIs_1 (by have h9 := (inR_not _ _ _).1 (by assumption : inR (A.length : Int) 1 30 = false); omega) | exact hyIs_2 (ntF (by assumption)) | exact hyIs_3 (ntF (by assumption)) | exact hyIs_4 (ntF (by assumption)) | exact hyIs_5 hB) | (exfalso; omega)))
 ·refine k6 (!(inR A.length 1 30)) false (bnT c1) ?_
  refine k6 (!(inR A.length 1 30)) false (bnT c1) ?_
  refine k6 (!(inR A.length 1 30)) false (bnT c1) ?_
  refine k6 (!(inR A.length 1 30)) false (bnT c1) ?_
  refine k6 (!(inR A.length 1 30)) false (bnT c1) ?_
  refine k7 (!(inR A.length 1 30)) true (bnT c1) ?_
  exact R.go 20 (k28 (.bool false) (by first | rfl | (apply congrArg AV.bool; first | exact hyIs_1 (by have h9 := (inR_not _ _ _).1 (by assumption : inR (A.length : Int) 1 30 = false); omega) | exact hyIs_2 (ntF (by assumption)) | exact hyIs_3 (ntF (by assumption)) | exact hyIs_4 (ntF (by assumption)) | exact hyIs_5 hB) | (exfalso; omega)))
theorem isHeyting_c (A O J : List (List Int)) (bo t : Int) (la : A.length ≤ 1000000000 ∧ O.length ≤ 1000000000 ∧ J.length ≤ 1000000000) (mA : ∀ i0 : Nat, i0 < A.length → (A.getD i0 []).length ≤ 1000000000) (mO : ∀ i0 : Nat, i0 < O.length → (O.getD i0 []).length ≤ 1000000000) (mJ : ∀ i0 : Nat, i0 < J.length → (J.getD i0 []).length ≤ 1000000000) : CallA Tryz.prog 53 [.agg [LLI A, LLI O, LLI J, AI bo, AI t]] (.bool (hyIs A O J bo t)) := by
  cases e : hyB (ordT A) with
  | true => exact CallE.toA (isHeytingYE A O J bo t la mA mO mJ e)
  | false => exact CallE.toA (isHeytingNE A O J bo t la mA mO mJ e)

theorem l18IsYE (A : List (List Int)) (O : List (List Int)) (J : List (List Int)) (bo : Int) (t : Int) (la : A.length ≤ 1000000000 ∧ O.length ≤ 1000000000 ∧ J.length ≤ 1000000000) (mA : ∀ i0 : Nat, i0 < A.length → (A.getD i0 []).length ≤ 1000000000) (mO : ∀ i0 : Nat, i0 < O.length → (O.getD i0 []).length ≤ 1000000000) (mJ : ∀ i0 : Nat, i0 < J.length → (J.getD i0 []).length ≤ 1000000000) (hB : hyB (ordT A) = true) : CallE Tryz.prog 58 [.agg [LLI A, LLI O, LLI J, AI bo, AI t]] (fun (b : Nat) (r : AV) => r = .bool (hyIs A O J bo t)) := by
 refine CallE.of Tryz.func58 rfl (by kernel_rfl) (fun b => ?_)
 refine R.go 8 (k15 true (l18Size_c A O J bo t) rfl ?_)
 refine R.go 6 (k15 true (l01In_c A.length 1 30) rfl ?_)
 refine R.go 2 ?_
 refine (Bool.eq_false_or_eq_true (inR A.length 1 30)).elim (fun c1 => ?_) (fun c1 => ?_)
 ·refine k5 (!(inR A.length 1 30)) false (bnF c1) ?_
  refine R.go 1 (k5 (!(inR A.length 1 30)) false (bnF c1) ?_)
  refine R.go 1 (k5 (!(inR A.length 1 30)) false (bnF c1) ?_)
  refine R.go 1 (k5 (!(inR A.length 1 30)) false (bnF c1) ?_)
  refine k15 true (l18Table_c A A.length (by first | omega | (simp <;> omega)) (by first | omega | (simp <;> omega)) mA) rfl ?_
  refine k5 (!(inR A.length 1 30)) false (bnF c1) ?_
  refine R.go 1 (k7 (!(inR A.length 1 30)) false (bnF c1) ?_)
  refine R.go 1 ?_
  refine (Bool.eq_false_or_eq_true (tabB A.length A)).elim (fun c2 => ?_) (fun c2 => ?_)
  ·refine k5 (!(tabB A.length A)) false (bnF c2) ?_
   refine R.go 1 (k5 (!(tabB A.length A)) false (bnF c2) ?_)
   refine R.go 1 (k5 (!(tabB A.length A)) false (bnF c2) ?_)
   refine R.go 1 (k5 (!(tabB A.length A)) false (bnF c2) ?_)
   refine k15 true (l18Table_c O A.length (by first | omega | (simp <;> omega)) (by first | omega | (simp <;> omega)) mO) rfl ?_
   refine k5 (!(tabB A.length A)) false (bnF c2) ?_
   refine R.go 1 (k7 (!(tabB A.length A)) false (bnF c2) ?_)
   refine R.go 1 ?_
   refine (Bool.eq_false_or_eq_true (tabB A.length O)).elim (fun c3 => ?_) (fun c3 => ?_)
   ·refine k5 (!(tabB A.length O)) false (bnF c3) ?_
    refine R.go 1 (k5 (!(tabB A.length O)) false (bnF c3) ?_)
    refine R.go 1 (k5 (!(tabB A.length O)) false (bnF c3) ?_)
    refine R.go 1 (k5 (!(tabB A.length O)) false (bnF c3) ?_)
    refine k15 true (l18Table_c J A.length (by first | omega | (simp <;> omega)) (by first | omega | (simp <;> omega)) mJ) rfl ?_
    refine k5 (!(tabB A.length O)) false (bnF c3) ?_
    refine R.go 1 (k7 (!(tabB A.length O)) false (bnF c3) ?_)
    refine R.go 1 (k20 (tabB A.length J) (fun c4 => ?_) (fun c4 => ?_))
    ·exact R.go 4 (k28 (.bool false) (by first | rfl | (apply congrArg AV.bool; first | exact hyIs_1 (by have h9 := (inR_not _ _ _).1 (by assumption : inR (A.length : Int) 1 30 = false); omega) | exact hyIs_2 (ntF (by assumption)) | exact hyIs_3 (ntF (by assumption)) | exact hyIs_4 (ntF (by assumption)) | (rw [ordT_len]; exact hyIs_6 (by omega) (by assumption) (by assumption) (by assumption) hB)) | (exfalso; omega)))
    ·have hr30 := (inR_iff _ _ _).1 (by assumption : inR (A.length : Int) 1 30 = true)
     have hol := ordT_len A
     have hO : HyOK (ordT A) := ok_ordT (by omega) hB
     refine R.go 4 (k15 true (l18Order_c A O J bo t c2 (by first | omega | (simp <;> omega))) rfl ?_)
     refine k19 2 ?_
     refine k15 true (l18Build_c (ordT A) hO) rfl ?_
     refine R.go 13 (k15 false (l18Same_c A O J (tabR (hyM (ordT A)) (ordT A).length (ordT A).length) (tabR (hyJ (ordT A)) (ordT A).length (ordT A).length) (tabR (hyI (ordT A)) (ordT A).length (ordT A).length) bo t (lowF (ordT A) (fullM (ordT A).length)) (lowF (invA (ordT A) (ordT A).length) (fullM (ordT A).length)) la mA mO mJ) rfl ?_)
     exact R.go 3 (k28 (.bool (decide (bo = (lowF (ordT A) (fullM (ordT A).length)) ∧ t = (lowF (invA (ordT A) (ordT A).length) (fullM (ordT A).length)) ∧ A = (tabR (hyM (ordT A)) (ordT A).length (ordT A).length) ∧ O = (tabR (hyJ (ordT A)) (ordT A).length (ordT A).length) ∧ J = (tabR (hyI (ordT A)) (ordT A).length (ordT A).length)))) (by first | rfl | (apply congrArg AV.bool; first | exact hyIs_1 (by have h9 := (inR_not _ _ _).1 (by assumption : inR (A.length : Int) 1 30 = false); omega) | exact hyIs_2 (ntF (by assumption)) | exact hyIs_3 (ntF (by assumption)) | exact hyIs_4 (ntF (by assumption)) | (rw [ordT_len]; exact hyIs_6 (by omega) (by assumption) (by assumption) (by assumption) hB)) | (exfalso; omega)))
   ·refine k6 (!(tabB A.length O)) false (bnT c3) ?_
    refine k6 (!(tabB A.length O)) false (bnT c3) ?_
    refine k6 (!(tabB A.length O)) false (bnT c3) ?_
    refine k6 (!(tabB A.length O)) false (bnT c3) ?_
    refine k6 (!(tabB A.length O)) false (bnT c3) ?_
    refine k7 (!(tabB A.length O)) true (bnT c3) ?_
    exact R.go 6 (k28 (.bool false) (by first | rfl | (apply congrArg AV.bool; first | exact hyIs_1 (by have h9 := (inR_not _ _ _).1 (by assumption : inR (A.length : Int) 1 30 = false); omega) | exact hyIs_2 (ntF (by assumption)) | exact hyIs_3 (ntF (by assumption)) | exact hyIs_4 (ntF (by assumption)) | (rw [ordT_len]; exact hyIs_6 (by omega) (by assumption) (by assumption) (by assumption) hB)) | (exfalso; omega)))
  ·refine k6 (!(tabB A.length A)) false (bnT c2) ?_
   refine k6 (!(tabB A.length A)) false (bnT c2) ?_
   refine k6 (!(tabB A.length A)) false (bnT c2) ?_
   refine k6 (!(tabB A.length A)) false (bnT c2) ?_
   refine k6 (!(tabB A.length A)) false (bnT c2) ?_
   refine k7 (!(tabB A.length A)) true (bnT c2) ?_
   exact R.go 13 (k28 (.bool false) (by first | rfl | (apply congrArg AV.bool; first | exact hyIs_1 (by have h9 := (inR_not _ _ _).1 (by assumption : inR (A.length : Int) 1 30 = false); omega) | exact hyIs_2 (ntF (by assumption)) | exact hyIs_3 (ntF (by assumption)) | exact hyIs_4 (ntF (by assumption)) | (rw [ordT_len]; exact hyIs_6 (by omega) (by assumption) (by assumption) (by assumption) hB)) | (exfalso; omega)))
 ·refine k6 (!(inR A.length 1 30)) false (bnT c1) ?_
  refine k6 (!(inR A.length 1 30)) false (bnT c1) ?_
  refine k6 (!(inR A.length 1 30)) false (bnT c1) ?_
  refine k6 (!(inR A.length 1 30)) false (bnT c1) ?_
  refine k6 (!(inR A.length 1 30)) false (bnT c1) ?_
  refine k7 (!(inR A.length 1 30)) true (bnT c1) ?_
  exact R.go 20 (k28 (.bool false) (by first | rfl | (apply congrArg AV.bool; first | exact hyIs_1 (by have h9 := (inR_not _ _ _).1 (by assumption : inR (A.length : Int) 1 30 = false); omega) | exact hyIs_2 (ntF (by assumption)) | exact hyIs_3 (ntF (by assumption)) | exact hyIs_4 (ntF (by assumption)) | (rw [ordT_len]; exact hyIs_6 (by omega) (by assumption) (by assumption) (by assumption) hB)) | (exfalso; omega)))
theorem l18IsNE (A : List (List Int)) (O : List (List Int)) (J : List (List Int)) (bo : Int) (t : Int) (la : A.length ≤ 1000000000 ∧ O.length ≤ 1000000000 ∧ J.length ≤ 1000000000) (mA : ∀ i0 : Nat, i0 < A.length → (A.getD i0 []).length ≤ 1000000000) (mO : ∀ i0 : Nat, i0 < O.length → (O.getD i0 []).length ≤ 1000000000) (mJ : ∀ i0 : Nat, i0 < J.length → (J.getD i0 []).length ≤ 1000000000) (hB : hyB (ordT A) = false) : CallE Tryz.prog 58 [.agg [LLI A, LLI O, LLI J, AI bo, AI t]] (fun (b : Nat) (r : AV) => r = .bool (hyIs A O J bo t)) := by
 refine CallE.of Tryz.func58 rfl (by kernel_rfl) (fun b => ?_)
 refine R.go 8 (k15 true (l18Size_c A O J bo t) rfl ?_)
 refine R.go 6 (k15 true (l01In_c A.length 1 30) rfl ?_)
 refine R.go 2 ?_
 refine (Bool.eq_false_or_eq_true (inR A.length 1 30)).elim (fun c1 => ?_) (fun c1 => ?_)
 ·refine k5 (!(inR A.length 1 30)) false (bnF c1) ?_
  refine R.go 1 (k5 (!(inR A.length 1 30)) false (bnF c1) ?_)
  refine R.go 1 (k5 (!(inR A.length 1 30)) false (bnF c1) ?_)
  refine R.go 1 (k5 (!(inR A.length 1 30)) false (bnF c1) ?_)
  refine k15 true (l18Table_c A A.length (by first | omega | (simp <;> omega)) (by first | omega | (simp <;> omega)) mA) rfl ?_
  refine k5 (!(inR A.length 1 30)) false (bnF c1) ?_
  refine R.go 1 (k7 (!(inR A.length 1 30)) false (bnF c1) ?_)
  refine R.go 1 ?_
  refine (Bool.eq_false_or_eq_true (tabB A.length A)).elim (fun c2 => ?_) (fun c2 => ?_)
  ·refine k5 (!(tabB A.length A)) false (bnF c2) ?_
   refine R.go 1 (k5 (!(tabB A.length A)) false (bnF c2) ?_)
   refine R.go 1 (k5 (!(tabB A.length A)) false (bnF c2) ?_)
   refine R.go 1 (k5 (!(tabB A.length A)) false (bnF c2) ?_)
   refine k15 true (l18Table_c O A.length (by first | omega | (simp <;> omega)) (by first | omega | (simp <;> omega)) mO) rfl ?_
   refine k5 (!(tabB A.length A)) false (bnF c2) ?_
   refine R.go 1 (k7 (!(tabB A.length A)) false (bnF c2) ?_)
   refine R.go 1 ?_
   refine (Bool.eq_false_or_eq_true (tabB A.length O)).elim (fun c3 => ?_) (fun c3 => ?_)
   ·refine k5 (!(tabB A.length O)) false (bnF c3) ?_
    refine R.go 1 (k5 (!(tabB A.length O)) false (bnF c3) ?_)
    refine R.go 1 (k5 (!(tabB A.length O)) false (bnF c3) ?_)
    refine R.go 1 (k5 (!(tabB A.length O)) false (bnF c3) ?_)
    refine k15 true (l18Table_c J A.length (by first | omega | (simp <;> omega)) (by first | omega | (simp <;> omega)) mJ) rfl ?_
    refine k5 (!(tabB A.length O)) false (bnF c3) ?_
    refine R.go 1 (k7 (!(tabB A.length O)) false (bnF c3) ?_)
    refine R.go 1 (k20 (tabB A.length J) (fun c4 => ?_) (fun c4 => ?_))
    ·exact R.go 4 (k28 (.bool false) (by first | rfl | (apply congrArg AV.bool; first | exact hyIs_1 (by have h9 := (inR_not _ _ _).1 (by assumption : inR (A.length : Int) 1 30 = false); omega) | exact hyIs_2 (ntF (by assumption)) | exact hyIs_3 (ntF (by assumption)) | exact hyIs_4 (ntF (by assumption)) | exact hyIs_5 hB) | (exfalso; omega)))
    ·have hr30 := (inR_iff _ _ _).1 (by assumption : inR (A.length : Int) 1 30 = true)
     have hol := ordT_len A
     have hRl : RelOK (ordT A).length (ordT A) := ordT_rel (by omega)
     refine R.go 4 (k15 true (l18Order_c A O J bo t c2 (by first | omega | (simp <;> omega))) rfl ?_)
     refine k15 false (l18BuildN_c (ordT A) (by first | omega | (simp <;> omega)) hRl hB) (by simp [AV.closed, closedL, AI]) ?_
     exact R.go 17 (k28 (.bool false) (by first | rfl | (apply congrArg AV.bool; first | exact hyIs_1 (by have h9 := (inR_not _ _ _).1 (by assumption : inR (A.length : Int) 1 30 = false); omega) | exact hyIs_2 (ntF (by assumption)) | exact hyIs_3 (ntF (by assumption)) | exact hyIs_4 (ntF (by assumption)) | exact hyIs_5 hB) | (exfalso; omega)))
   ·refine k6 (!(tabB A.length O)) false (bnT c3) ?_
    refine k6 (!(tabB A.length O)) false (bnT c3) ?_
    refine k6 (!(tabB A.length O)) false (bnT c3) ?_
    refine k6 (!(tabB A.length O)) false (bnT c3) ?_
    refine k6 (!(tabB A.length O)) false (bnT c3) ?_
    refine k7 (!(tabB A.length O)) true (bnT c3) ?_
    exact R.go 6 (k28 (.bool false) (by first | rfl | (apply congrArg AV.bool; first | exact hyIs_1 (by have h9 := (inR_not _ _ _).1 (by assumption : inR (A.length : Int) 1 30 = false); omega) | exact hyIs_2 (ntF (by assumption)) | exact hyIs_3 (ntF (by assumption)) | exact hyIs_4 (ntF (by assumption)) | exact hyIs_5 hB) | (exfalso; omega)))
  ·refine k6 (!(tabB A.length A)) false (bnT c2) ?_
   refine k6 (!(tabB A.length A)) false (bnT c2) ?_
   refine k6 (!(tabB A.length A)) false (bnT c2) ?_
   refine k6 (!(tabB A.length A)) false (bnT c2) ?_
   refine k6 (!(tabB A.length A)) false (bnT c2) ?_
   refine k7 (!(tabB A.length A)) true (bnT c2) ?_
   exact R.go 13 (k28 (.bool false) (by first | rfl | (apply congrArg AV.bool; first | exact hyIs_1 (by have h9 := (inR_not _ _ _).1 (by assumption : inR (A.length : Int) 1 30 = false); omega) | exact hyIs_2 (ntF (by assumption)) | exact hyIs_3 (ntF (by assumption)) | exact hyIs_4 (ntF (by assumption)) | exact hyIs_5 hB) | (exfalso; omega)))
 ·refine k6 (!(inR A.length 1 30)) false (bnT c1) ?_
  refine k6 (!(inR A.length 1 30)) false (bnT c1) ?_
  refine k6 (!(inR A.length 1 30)) false (bnT c1) ?_
  refine k6 (!(inR A.length 1 30)) false (bnT c1) ?_
  refine k6 (!(inR A.length 1 30)) false (bnT c1) ?_
  refine k7 (!(inR A.length 1 30)) true (bnT c1) ?_
  exact R.go 20 (k28 (.bool false) (by first | rfl | (apply congrArg AV.bool; first | exact hyIs_1 (by have h9 := (inR_not _ _ _).1 (by assumption : inR (A.length : Int) 1 30 = false); omega) | exact hyIs_2 (ntF (by assumption)) | exact hyIs_3 (ntF (by assumption)) | exact hyIs_4 (ntF (by assumption)) | exact hyIs_5 hB) | (exfalso; omega)))
theorem l18Is_c (A O J : List (List Int)) (bo t : Int) (la : A.length ≤ 1000000000 ∧ O.length ≤ 1000000000 ∧ J.length ≤ 1000000000) (mA : ∀ i0 : Nat, i0 < A.length → (A.getD i0 []).length ≤ 1000000000) (mO : ∀ i0 : Nat, i0 < O.length → (O.getD i0 []).length ≤ 1000000000) (mJ : ∀ i0 : Nat, i0 < J.length → (J.getD i0 []).length ≤ 1000000000) : CallA Tryz.prog 58 [.agg [LLI A, LLI O, LLI J, AI bo, AI t]] (.bool (hyIs A O J bo t)) := by
  cases e : hyB (ordT A) with
  | true => exact CallE.toA (l18IsYE A O J bo t la mA mO mJ e)
  | false => exact CallE.toA (l18IsNE A O J bo t la mA mO mJ e)

end Go.Proofs.YtjllngcefoohpaaGreat


/-! Calls by reference whose caller's frame does not name one object (a row that the call may move). -/
namespace Go.Abs
open Go.RowKit Go.ChangeShapes Go.WideShapes Go.Deep

mutual
theorem AV.kill_ren {js : List Nat} {q q2 : Nat} (h : ∀ i, js.contains i = true → js.idxOf i = q → i = q2) : ∀ c : AV, c.kill q2 = c → (c.ren js).kill q = c.ren js
  | .int _ _, _ => rfl
  | .bool _, _ => rfl
  | .str _, _ => rfl
  | .nil, _ => rfl
  | .top, _ => rfl
  | .own _ _ _ _, _ => rfl
  | .lst _ _ _, _ => rfl
  | .clp _ _ _, _ => rfl
  | .nam _ _ _ _ _, _ => rfl
  | .rptr _, _ => rfl
  | .ref i, hk => by
    simp only [AV.kill, AV.ren] at hk ⊢
    split at hk
    · cases hk
    · rename_i hne
      cases hc : js.contains i with
      | true =>
        simp only [if_true, AV.kill]
        rw [if_neg fun e => hne (h i hc e)]
      | false => simp [AV.kill]
  | .ptr i o, hk => by
    simp only [AV.kill, AV.ren] at hk ⊢
    split at hk
    · cases hk
    · rename_i hne
      cases hc : js.contains i with
      | true =>
        simp only [if_true, AV.kill]
        rw [if_neg fun e => hne (h i hc e)]
      | false => simp [AV.kill]
  | .agg cs, hk => by
    simp only [AV.kill, AV.agg.injEq] at hk
    simp only [AV.ren, AV.kill, killL_ren h cs hk]
  | .tup cs, hk => by
    simp only [AV.kill, AV.tup.injEq] at hk
    simp only [AV.ren, AV.kill, killL_ren h cs hk]
  | .fn f cs, hk => by
    simp only [AV.kill, AV.fn.injEq, true_and] at hk
    simp only [AV.ren, AV.kill, killL_ren h cs hk]
theorem killL_ren {js : List Nat} {q q2 : Nat} (h : ∀ i, js.contains i = true → js.idxOf i = q → i = q2) : ∀ cs : List AV, killL q2 cs = cs → killL q (renL js cs) = renL js cs
  | [], _ => rfl
  | c :: cs, hk => by
    simp only [killL, List.cons.injEq] at hk
    simp only [renL, killL, AV.kill_ren h c hk.1, killL_ren h cs hk.2]
end
theorem killL_app (q : Nat) : ∀ xs ys : List AV, killL q (xs ++ ys) = killL q xs ++ killL q ys
  | [], _ => rfl
  | x :: xs, ys => by simp [killL, killL_app q xs ys]
theorem insI_kill {k n q : Nat} (hk : k ≤ n) : ∀ i, (insI k n).contains i = true → (insI k n).idxOf i = q → i = (if q < k then q else q + 1) := fun i hi hq => by
  obtain ⟨_, g2⟩ := insI_idx hk hi
  rw [hq] at g2
  exact g2

def CallY (P : Program) (q : Nat) (f : FuncId) (args : List AV) (hp : List AObj) (Φ : AV → List AObj → Prop) : Prop :=
  Enters P f ∧ ∀ (Z0 F : Nat → Prop) (w0 w : World) (μ vs us : List Value) (fr : List AV), (∀ b, F b → w0.heap.size ≤ b ∧ b < w.heap.size) → HRel w (Zone Z0 F w0.heap.size) w0.heap.size μ hp → RelL w (Zone Z0 F w0.heap.size) μ args vs → RelL w (Zone Z0 F w0.heap.size) μ fr us → Below w0.heap.size w0 w → killL q fr = fr →
    Calls P f vs.toArray w fun e w' => ∃ v μ' F' res hp', Φ res hp' ∧ e = .returned v ∧ (∀ b, F' b → w0.heap.size ≤ b ∧ b < w'.heap.size) ∧ HRel w' (Zone Z0 F' w0.heap.size) w0.heap.size μ' hp' ∧ Rel w' (Zone Z0 F' w0.heap.size) μ' res v ∧ RelL w' (Zone Z0 F' w0.heap.size) μ' fr us ∧ Below w0.heap.size w0 w'

section
variable {rd : Option Nat} {P : Program} {m : M} {Q : Exit → St → Prop}
theorem CallY.ofF {q : Nat} {f : FuncId} {fn : Func} {c : Code} {args : List AV} {hp : List AObj} {Φ : AV → List AObj → Prop} (hf : P.funcs[f]? = some fn) (hb : fn.body = some c) (hnm : (fn.name == "runtime.NumGoroutine") = false)
    (h : ∀ us fr, Fits hp.length fr → killL q fr = fr → Runs none P ⟨[.code c], ⟨frameOf fn.ntmps args, hp ++ [.frame us fr]⟩⟩ (retX P fn hp.length us fr Φ)) : CallY P q f args hp Φ := by
  refine ⟨enters_of hf hnm (by rw [hb]; rfl), ?_⟩
  intro Z0 F w0 w μ vs us fr hFb hH hvs hus hbel hkq
  have hml := hH.len
  have hfit : Fits hp.length fr := ⟨fun js hjs => RelL.fitR (by rw [hml]; exact hjs) hus, fun i hi => RelL.fitK (by rw [hml]; exact hi) hus, fun i r hi => RelL.fitF (by rw [hml]; exact hi) hus⟩
  · have hlen := hvs.length
    refine calls_of_wpIn hf hb ?_
    have hS : Sim Z0 w0 ⟨frameOf fn.ntmps args, hp ++ [.frame us fr]⟩ { tmps := vs.toArray ++ Array.replicate (fn.ntmps - vs.toArray.size) undef, defers := [] } w := by
      refine ⟨μ ++ [.bool false], F, hFb, hH.extend1 (zone_new hbel.size hFb) (Below.refl _ _) ?_ (fun g hg => by simp [blk] at hg) rfl, ?_, .inl rfl, hbel⟩
      · exact RelL.keep (w := w) (fun _ _ _ => rfl) (fun i u hu => append_old i u hu) hus
      · simp only [Array.toList_append, Array.toList_replicate, List.size_toArray, hlen, frameOf]
        refine RelL.append (RelL.keep (w := w) (fun _ _ _ => rfl) (fun i u hu => append_old i u hu) hvs) ?_
        generalize fn.ntmps - args.length = n
        induction n with
        | zero => exact RelL.nil
        | succ n ih => exact RelL.cons (by simp [Rel]) ih
    have hrun2 := h us fr hfit hkq
    simp only [runs_iff] at hrun2
    simp only [RunsK] at hrun2
    refine wpIn_mono (hrun2 Z0 w0 _ w hS) ?_
    have fin : ∀ (e : Exit) (st' : St) (a' : Act) (w' : World), retX P fn hp.length us fr Φ e st' → Sim Z0 w0 st' a' w' → a'.defers = [] ∧ ∃ v, (results fn a'.tmps).run P w' = .ok v w' ∧ ∃ v' μ' F' res hp', Φ res hp' ∧ Ending.returned v = .returned v' ∧ (∀ b, F' b → w0.heap.size ≤ b ∧ b < w'.heap.size) ∧ HRel w' (Zone Z0 F' w0.heap.size) w0.heap.size μ' hp' ∧ Rel w' (Zone Z0 F' w0.heap.size) μ' res v' ∧ RelL w' (Zone Z0 F' w0.heap.size) μ' fr us ∧ Below w0.heap.size w0 w' := by
      rintro e st' a' w' ⟨res, hp', hΦ, _, hres, hfr, hh⟩ ⟨μ', F', hFb', hH', hF', hd', hbel'⟩
      obtain ⟨x, h1, h2⟩ := resIn_run hH' hF' hres
      unfold frameAt at hfr
      split at hfr
      · rename_i us2 fr2 hi
        cases hfr
        have hil : hp.length < μ'.length := by rw [hH'.len]; exact (List.getElem?_eq_some_iff.1 hi).1
        have hfrr : RelL w' (Zone Z0 F' w0.heap.size) μ' fr us := hH'.obj _ _ _ hi (List.getElem?_eq_getElem hil)
        exact ⟨hd'.none (resIn_mark hres), x, h1, x, μ', F', res, hp', hΦ, rfl, hFb', hh ▸ hH'.bury _, h2, hfrr, hbel'⟩
      · cases hfr
    rintro e a' w' ⟨st', hq, hS'⟩
    cases e with
    | normal => exact fin _ st' a' w' hq hS'
    | ret => exact fin _ st' a' w' hq hS'
    | exit id => (obtain ⟨_, _, _, hq, _⟩ := hq; exact absurd hq (by simp))
    | goto l => (obtain ⟨_, _, _, hq, _⟩ := hq; exact absurd hq (by simp))
    | panic ch => (obtain ⟨_, _, _, hq, _⟩ := hq; exact absurd hq (by simp))
    | outgrown => (obtain ⟨_, _, _, hq, _⟩ := hq; exact absurd hq (by simp))
end
section
variable {P : Program}
theorem CallY.dropE {P : Program} {q : Nat} {f : FuncId} {args : List AV} {hp : List AObj} {Φ : AV → List AObj → Prop} (hc : CallY P q f args hp fun r h => ∃ js : List Nat, js.take hp.length = List.range hp.length ∧ js.Nodup ∧ Φ (r.ren js) (renH js h)) :
    CallY P q f args hp Φ := by
  obtain ⟨hen, hc⟩ := hc
  refine ⟨hen, ?_⟩
  intro Z0 F w0 w μ vs us fr hFb hH hvs hus hbel hkq
  refine (hc Z0 F w0 w μ vs us fr hFb hH hvs hus hbel hkq).mono ?_
  rintro e w' ⟨v, μ1, F1, res, hp', ⟨js, h1, h2, hΦ⟩, rfl, hF1, hH1, hres, hfr1, hb1⟩
  have hm1 := hH1.len
  have hjs : ∀ i, i < hp.length → js[i]? = some i := by
    intro i hi
    have := congrArg (fun l : List Nat => l[i]?) h1
    simp only [List.getElem?_take, if_pos hi] at this
    rw [this]
    simp [hi]
  refine ⟨v, _, F1, _, _, hΦ, rfl, hF1, hH1.ren js h2, Rel.ren js hres, ?_, hb1⟩
  refine RelL.mix (n := hp.length) ?_ ?_ hus (hfr1.ren (List.range hp.length))
  · intro i x hi hx
    rw [List.getElem?_map, hjs i hi]
    rw [List.getElem?_map] at hx
    simpa [hi] using hx
  · intro i x hi hx
    have h4 := (List.getElem?_eq_some_iff.1 hx).1
    have h5 := hH.len
    omega
theorem CallY.inF {q : Nat} {f : FuncId} {args : List AV} {hp : List AObj} {Φ : AV → List AObj → Prop} (k : Nat) (us2 : List Value) (fr2 : List AV) (hc : CallY P q f args hp Φ) (hk : k ≤ hp.length)
    (h1 : renH (insI k hp.length) (insF k us2 fr2 hp) = hp) (h2 : renL (insI k hp.length) (renL (insJ k hp.length) args) = args) (h3 : ∀ r h', Φ r h' → hp.length ≤ h'.length) (q2 : Nat) (hq2 : q2 = if q < k then q else q + 1) (hkf : killL q2 fr2 = fr2) :
    CallY P q2 f (renL (insJ k hp.length) args) (insF k us2 fr2 hp) fun r h => ∃ res hp', Φ res hp' ∧ r = res.ren (insJ k hp'.length) ∧ h = insF k us2 fr2 hp' := by
  obtain ⟨hen, hc⟩ := hc
  refine ⟨hen, ?_⟩
  intro Z0 F w0 w μ vs us fr hFb hH hvs hus hbel hkq
  have hHl : (insF k us2 fr2 hp).length = hp.length + 1 := by
    unfold insF renH insJ
    simp
    omega
  have hml : μ.length = hp.length + 1 := by rw [hH.len, hHl]
  have hH0 := hH.ren (insI k hp.length) (insI_nodup hk)
  have e0 : ((insI k hp.length).map fun i => ((insF k us2 fr2 hp).getD i .dead).ren (insI k hp.length)) = hp := h1
  rw [e0] at hH0
  have hvs0 := hvs.ren (insI k hp.length)
  rw [h2] at hvs0
  have hn2 : (insF k us2 fr2 hp)[k]? = some (.frame us2 fr2) := by
    unfold insF
    rw [List.getElem?_set_self]
    have : (renH (insJ k hp.length) (hp ++ [.dead])).length = hp.length + 1 := by unfold renH insJ; simp; omega
    omega
  obtain ⟨u, hu⟩ : ∃ u, μ[k]? = some u := ⟨_, List.getElem?_eq_getElem (by omega)⟩
  have hf2 : RelL w (Zone Z0 F w0.heap.size) μ fr2 us2 := hH.obj _ _ u hn2 hu
  have hus0 := (hus.append hf2).ren (insI k hp.length)
  refine (hc Z0 F w0 w _ vs (us ++ us2) _ hFb hH0 hvs0 hus0 hbel (killL_ren (q2 := q2) (fun i hi e => by rw [hq2]; exact insI_kill hk i hi e) _ (by rw [killL_app, hkq, hkf]))).mono ?_
  rintro e w' ⟨v, μ1, F1, res, hp', hΦ, rfl, hF1, hH1, hres, hfr1, hb1⟩
  have h3 := h3 _ _ hΦ
  have hm1 := hH1.len
  have hHd := hH1.addDead u (hH.one _ u hu)
  have hH2 := hHd.ren (insJ k hp'.length) (insJ_nodup (by omega))
  obtain ⟨μ2, hμ2⟩ : ∃ μ2, μ2 = ((insJ k hp'.length).map fun i => (μ1 ++ [u]).getD i (.bool false)) := ⟨_, rfl⟩
  have hA : ∀ (i : Nat) x, (insI k hp.length).contains i = true → μ1[(insI k hp.length).idxOf i]? = some x → μ2[i]? = some x := by
    intro i x hi hx
    obtain ⟨g1, g2⟩ := insI_idx hk hi
    generalize (insI k hp.length).idxOf i = j at g1 g2 hx
    have hj : (insJ k hp'.length)[i]? = some j := by
      split at g2
      · rw [g2]; exact insJ_lo (by assumption)
      · rw [g2]; exact insJ_hi (by omega) (by omega)
    rw [hμ2, List.getElem?_map, hj]
    simp only [Option.map_some, List.getD_eq_getElem?_getD]
    rw [List.getElem?_append_left (List.getElem?_eq_some_iff.1 hx).1, hx]
    rfl
  have hB : ∀ (i : Nat) x, (insI k hp.length).contains i = false → μ[i]? = some x → μ2[i]? = some x := by
    intro i x hi hx
    have hlt := (List.getElem?_eq_some_iff.1 hx).1
    have hin : i = k := by
      refine Classical.byContradiction fun hne => ?_
      have := insI_mem hk (i := i) (by omega) hne
      rw [this] at hi
      cases hi
    subst hin
    rw [hu] at hx
    rw [hμ2, List.getElem?_map, insJ_at]
    simp only [Option.map_some, List.getD_eq_getElem?_getD]
    rw [List.getElem?_append_right (by omega), hm1]
    simpa using hx
  rw [← hμ2] at hH2
  have hall := RelL.mixJ hA hB (hus.append hf2) hfr1
  have hul := hus.length
  have hfr : RelL w' (Zone Z0 F1 w0.heap.size) μ2 fr us := by
    have := hall.take fr.length
    rwa [List.take_left, ← hul, List.take_left] at this
  have hfr2 : RelL w' (Zone Z0 F1 w0.heap.size) μ2 fr2 us2 := by
    have := hall.drop fr.length
    rwa [List.drop_left, ← hul, List.drop_left] at this
  refine ⟨v, μ2, F1, _, _, ⟨res, hp', hΦ, rfl, rfl⟩, rfl, hF1, ?_, ?_, hfr, hb1⟩
  · refine hH2.frameAt ?_ hfr2
    rw [List.getElem?_map, insJ_at]
    simp [AObj.ren]
  · rw [hμ2]
    exact Rel.ren _ (Rel.keep (w := w') (fun _ _ _ => rfl) (fun i u hu => append_old i u hu) hres)
end
end Go.Abs


/-! Calls by reference that may move several rows. -/
namespace Go.Abs
open Go.RowKit Go.ChangeShapes Go.WideShapes Go.Deep

/-- The frame names none of these objects. -/
def KillsL : List Nat → List AV → Prop
  | [], _ => True
  | q :: qs, fr => killL q fr = fr ∧ KillsL qs fr
theorem kills_app : ∀ {qs : List Nat} {xs ys : List AV}, KillsL qs xs → KillsL qs ys → KillsL qs (xs ++ ys)
  | [], _, _, _, _ => trivial
  | q :: qs, xs, ys, h1, h2 => ⟨by rw [killL_app, h1.1, h2.1], kills_app h1.2 h2.2⟩
def upQ (k : Nat) (qs : List Nat) : List Nat := qs.map fun q => if q < k then q else q + 1
theorem kills_ren {k n : Nat} (hk : k ≤ n) : ∀ {qs : List Nat} {xs : List AV}, KillsL (upQ k qs) xs → KillsL qs (renL (insI k n) xs)
  | [], _, _ => trivial
  | q :: qs, xs, h => by
    simp only [upQ, List.map_cons, KillsL] at h
    exact ⟨killL_ren (fun i hi e => insI_kill hk i hi e) _ h.1, kills_ren hk h.2⟩
def CallQ (P : Program) (qs : List Nat) (f : FuncId) (args : List AV) (hp : List AObj) (Φ : AV → List AObj → Prop) : Prop :=
  Enters P f ∧ ∀ (Z0 F : Nat → Prop) (w0 w : World) (μ vs us : List Value) (fr : List AV), (∀ b, F b → w0.heap.size ≤ b ∧ b < w.heap.size) → HRel w (Zone Z0 F w0.heap.size) w0.heap.size μ hp → RelL w (Zone Z0 F w0.heap.size) μ args vs → RelL w (Zone Z0 F w0.heap.size) μ fr us → Below w0.heap.size w0 w → KillsL qs fr →
    Calls P f vs.toArray w fun e w' => ∃ v μ' F' res hp', Φ res hp' ∧ e = .returned v ∧ (∀ b, F' b → w0.heap.size ≤ b ∧ b < w'.heap.size) ∧ HRel w' (Zone Z0 F' w0.heap.size) w0.heap.size μ' hp' ∧ Rel w' (Zone Z0 F' w0.heap.size) μ' res v ∧ RelL w' (Zone Z0 F' w0.heap.size) μ' fr us ∧ Below w0.heap.size w0 w'


section
variable {rd : Option Nat} {P : Program} {m : M} {Q : Exit → St → Prop}
end

section
variable {rd : Option Nat} {P : Program} {m : M} {Q : Exit → St → Prop}
theorem CallQ.ofF {qs : List Nat} {f : FuncId} {fn : Func} {c : Code} {args : List AV} {hp : List AObj} {Φ : AV → List AObj → Prop} (hf : P.funcs[f]? = some fn) (hb : fn.body = some c) (hnm : (fn.name == "runtime.NumGoroutine") = false)
    (h : ∀ us fr, Fits hp.length fr → KillsL qs fr → Runs none P ⟨[.code c], ⟨frameOf fn.ntmps args, hp ++ [.frame us fr]⟩⟩ (retX P fn hp.length us fr Φ)) : CallQ P qs f args hp Φ := by
  refine ⟨enters_of hf hnm (by rw [hb]; rfl), ?_⟩
  intro Z0 F w0 w μ vs us fr hFb hH hvs hus hbel hkq
  have hml := hH.len
  have hfit : Fits hp.length fr := ⟨fun js hjs => RelL.fitR (by rw [hml]; exact hjs) hus, fun i hi => RelL.fitK (by rw [hml]; exact hi) hus, fun i r hi => RelL.fitF (by rw [hml]; exact hi) hus⟩
  · have hlen := hvs.length
    refine calls_of_wpIn hf hb ?_
    have hS : Sim Z0 w0 ⟨frameOf fn.ntmps args, hp ++ [.frame us fr]⟩ { tmps := vs.toArray ++ Array.replicate (fn.ntmps - vs.toArray.size) undef, defers := [] } w := by
      refine ⟨μ ++ [.bool false], F, hFb, hH.extend1 (zone_new hbel.size hFb) (Below.refl _ _) ?_ (fun g hg => by simp [blk] at hg) rfl, ?_, .inl rfl, hbel⟩
      · exact RelL.keep (w := w) (fun _ _ _ => rfl) (fun i u hu => append_old i u hu) hus
      · simp only [Array.toList_append, Array.toList_replicate, List.size_toArray, hlen, frameOf]
        refine RelL.append (RelL.keep (w := w) (fun _ _ _ => rfl) (fun i u hu => append_old i u hu) hvs) ?_
        generalize fn.ntmps - args.length = n
        induction n with
        | zero => exact RelL.nil
        | succ n ih => exact RelL.cons (by simp [Rel]) ih
    have hrun2 := h us fr hfit hkq
    simp only [runs_iff] at hrun2
    simp only [RunsK] at hrun2
    refine wpIn_mono (hrun2 Z0 w0 _ w hS) ?_
    have fin : ∀ (e : Exit) (st' : St) (a' : Act) (w' : World), retX P fn hp.length us fr Φ e st' → Sim Z0 w0 st' a' w' → a'.defers = [] ∧ ∃ v, (results fn a'.tmps).run P w' = .ok v w' ∧ ∃ v' μ' F' res hp', Φ res hp' ∧ Ending.returned v = .returned v' ∧ (∀ b, F' b → w0.heap.size ≤ b ∧ b < w'.heap.size) ∧ HRel w' (Zone Z0 F' w0.heap.size) w0.heap.size μ' hp' ∧ Rel w' (Zone Z0 F' w0.heap.size) μ' res v' ∧ RelL w' (Zone Z0 F' w0.heap.size) μ' fr us ∧ Below w0.heap.size w0 w' := by
      rintro e st' a' w' ⟨res, hp', hΦ, _, hres, hfr, hh⟩ ⟨μ', F', hFb', hH', hF', hd', hbel'⟩
      obtain ⟨x, h1, h2⟩ := resIn_run hH' hF' hres
      unfold frameAt at hfr
      split at hfr
      · rename_i us2 fr2 hi
        cases hfr
        have hil : hp.length < μ'.length := by rw [hH'.len]; exact (List.getElem?_eq_some_iff.1 hi).1
        have hfrr : RelL w' (Zone Z0 F' w0.heap.size) μ' fr us := hH'.obj _ _ _ hi (List.getElem?_eq_getElem hil)
        exact ⟨hd'.none (resIn_mark hres), x, h1, x, μ', F', res, hp', hΦ, rfl, hFb', hh ▸ hH'.bury _, h2, hfrr, hbel'⟩
      · cases hfr
    rintro e a' w' ⟨st', hq, hS'⟩
    cases e with
    | normal => exact fin _ st' a' w' hq hS'
    | ret => exact fin _ st' a' w' hq hS'
    | exit id => (obtain ⟨_, _, _, hq, _⟩ := hq; exact absurd hq (by simp))
    | goto l => (obtain ⟨_, _, _, hq, _⟩ := hq; exact absurd hq (by simp))
    | panic ch => (obtain ⟨_, _, _, hq, _⟩ := hq; exact absurd hq (by simp))
    | outgrown => (obtain ⟨_, _, _, hq, _⟩ := hq; exact absurd hq (by simp))
end
section
variable {P : Program}
theorem CallQ.dropE {P : Program} {qs : List Nat} {f : FuncId} {args : List AV} {hp : List AObj} {Φ : AV → List AObj → Prop} (hc : CallQ P qs f args hp fun r h => ∃ js : List Nat, js.take hp.length = List.range hp.length ∧ js.Nodup ∧ Φ (r.ren js) (renH js h)) :
    CallQ P qs f args hp Φ := by
  obtain ⟨hen, hc⟩ := hc
  refine ⟨hen, ?_⟩
  intro Z0 F w0 w μ vs us fr hFb hH hvs hus hbel hkq
  refine (hc Z0 F w0 w μ vs us fr hFb hH hvs hus hbel hkq).mono ?_
  rintro e w' ⟨v, μ1, F1, res, hp', ⟨js, h1, h2, hΦ⟩, rfl, hF1, hH1, hres, hfr1, hb1⟩
  have hm1 := hH1.len
  have hjs : ∀ i, i < hp.length → js[i]? = some i := by
    intro i hi
    have := congrArg (fun l : List Nat => l[i]?) h1
    simp only [List.getElem?_take, if_pos hi] at this
    rw [this]
    simp [hi]
  refine ⟨v, _, F1, _, _, hΦ, rfl, hF1, hH1.ren js h2, Rel.ren js hres, ?_, hb1⟩
  refine RelL.mix (n := hp.length) ?_ ?_ hus (hfr1.ren (List.range hp.length))
  · intro i x hi hx
    rw [List.getElem?_map, hjs i hi]
    rw [List.getElem?_map] at hx
    simpa [hi] using hx
  · intro i x hi hx
    have h4 := (List.getElem?_eq_some_iff.1 hx).1
    have h5 := hH.len
    omega
theorem CallQ.inF {qs : List Nat} {f : FuncId} {args : List AV} {hp : List AObj} {Φ : AV → List AObj → Prop} (k : Nat) (us2 : List Value) (fr2 : List AV) (hc : CallQ P qs f args hp Φ) (hk : k ≤ hp.length)
    (h1 : renH (insI k hp.length) (insF k us2 fr2 hp) = hp) (h2 : renL (insI k hp.length) (renL (insJ k hp.length) args) = args) (h3 : ∀ r h', Φ r h' → hp.length ≤ h'.length) (hkf : KillsL (upQ k qs) fr2) :
    CallQ P (upQ k qs) f (renL (insJ k hp.length) args) (insF k us2 fr2 hp) fun r h => ∃ res hp', Φ res hp' ∧ r = res.ren (insJ k hp'.length) ∧ h = insF k us2 fr2 hp' := by
  obtain ⟨hen, hc⟩ := hc
  refine ⟨hen, ?_⟩
  intro Z0 F w0 w μ vs us fr hFb hH hvs hus hbel hkq
  have hHl : (insF k us2 fr2 hp).length = hp.length + 1 := by
    unfold insF renH insJ
    simp
    omega
  have hml : μ.length = hp.length + 1 := by rw [hH.len, hHl]
  have hH0 := hH.ren (insI k hp.length) (insI_nodup hk)
  have e0 : ((insI k hp.length).map fun i => ((insF k us2 fr2 hp).getD i .dead).ren (insI k hp.length)) = hp := h1
  rw [e0] at hH0
  have hvs0 := hvs.ren (insI k hp.length)
  rw [h2] at hvs0
  have hn2 : (insF k us2 fr2 hp)[k]? = some (.frame us2 fr2) := by
    unfold insF
    rw [List.getElem?_set_self]
    have : (renH (insJ k hp.length) (hp ++ [.dead])).length = hp.length + 1 := by unfold renH insJ; simp; omega
    omega
  obtain ⟨u, hu⟩ : ∃ u, μ[k]? = some u := ⟨_, List.getElem?_eq_getElem (by omega)⟩
  have hf2 : RelL w (Zone Z0 F w0.heap.size) μ fr2 us2 := hH.obj _ _ u hn2 hu
  have hus0 := (hus.append hf2).ren (insI k hp.length)
  refine (hc Z0 F w0 w _ vs (us ++ us2) _ hFb hH0 hvs0 hus0 hbel (kills_ren hk (kills_app hkq hkf))).mono ?_
  rintro e w' ⟨v, μ1, F1, res, hp', hΦ, rfl, hF1, hH1, hres, hfr1, hb1⟩
  have h3 := h3 _ _ hΦ
  have hm1 := hH1.len
  have hHd := hH1.addDead u (hH.one _ u hu)
  have hH2 := hHd.ren (insJ k hp'.length) (insJ_nodup (by omega))
  obtain ⟨μ2, hμ2⟩ : ∃ μ2, μ2 = ((insJ k hp'.length).map fun i => (μ1 ++ [u]).getD i (.bool false)) := ⟨_, rfl⟩
  have hA : ∀ (i : Nat) x, (insI k hp.length).contains i = true → μ1[(insI k hp.length).idxOf i]? = some x → μ2[i]? = some x := by
    intro i x hi hx
    obtain ⟨g1, g2⟩ := insI_idx hk hi
    generalize (insI k hp.length).idxOf i = j at g1 g2 hx
    have hj : (insJ k hp'.length)[i]? = some j := by
      split at g2
      · rw [g2]; exact insJ_lo (by assumption)
      · rw [g2]; exact insJ_hi (by omega) (by omega)
    rw [hμ2, List.getElem?_map, hj]
    simp only [Option.map_some, List.getD_eq_getElem?_getD]
    rw [List.getElem?_append_left (List.getElem?_eq_some_iff.1 hx).1, hx]
    rfl
  have hB : ∀ (i : Nat) x, (insI k hp.length).contains i = false → μ[i]? = some x → μ2[i]? = some x := by
    intro i x hi hx
    have hlt := (List.getElem?_eq_some_iff.1 hx).1
    have hin : i = k := by
      refine Classical.byContradiction fun hne => ?_
      have := insI_mem hk (i := i) (by omega) hne
      rw [this] at hi
      cases hi
    subst hin
    rw [hu] at hx
    rw [hμ2, List.getElem?_map, insJ_at]
    simp only [Option.map_some, List.getD_eq_getElem?_getD]
    rw [List.getElem?_append_right (by omega), hm1]
    simpa using hx
  rw [← hμ2] at hH2
  have hall := RelL.mixJ hA hB (hus.append hf2) hfr1
  have hul := hus.length
  have hfr : RelL w' (Zone Z0 F1 w0.heap.size) μ2 fr us := by
    have := hall.take fr.length
    rwa [List.take_left, ← hul, List.take_left] at this
  have hfr2 : RelL w' (Zone Z0 F1 w0.heap.size) μ2 fr2 us2 := by
    have := hall.drop fr.length
    rwa [List.drop_left, ← hul, List.drop_left] at this
  refine ⟨v, μ2, F1, _, _, ⟨res, hp', hΦ, rfl, rfl⟩, rfl, hF1, ?_, ?_, hfr, hb1⟩
  · refine hH2.frameAt ?_ hfr2
    rw [List.getElem?_map, insJ_at]
    simp [AObj.ren]
  · rw [hμ2]
    exact Rel.ren _ (Rel.keep (w := w') (fun _ _ _ => rfl) (fun i u hu => append_old i u hu) hres)
end
end Go.Abs


/-! slices.Sort at rows of integers of one's own. -/
namespace Go.Abs
open Go.RowKit Go.Proofs Go.ChangeShapes Go.WideShapes Go.Deep

def srtI (xs : List Int) : List Int := xs.mergeSort fun x y => decide (x ≤ y)
theorem srtI_len (xs : List Int) : (srtI xs).length = xs.length := List.length_mergeSort xs

theorem relL_ints_inv {w : World} {Z : Nat → Prop} {μ : List Value} : ∀ {xs : List Int} {vs : List Value}, RelL w Z μ (rows eI xs) vs → vs = xs.map (Value.int .i64)
  | [], vs, h => by simpa [rows, RelL] using h
  | x :: xs, vs, h => by
    simp only [rows, eI, List.cons_append, List.nil_append] at h
    simp only [RelL] at h
    obtain ⟨v, vs', rfl, h1, h2⟩ := h
    simp only [AI, Rel] at h1
    rw [List.map_cons, ← relL_ints_inv (xs := xs) h2, h1]

theorem relL_ints_mk {w : World} {Z : Nat → Prop} {μ : List Value} : ∀ xs : List Int, RelL w Z μ (rows eI xs) (xs.map (Value.int .i64))
  | [] => RelL.nil
  | x :: xs => RelL.cons (by simp [Rel, AI]) (relL_ints_mk xs)

theorem CallS.sortAt {P : Program} {ρ : Go.Shelf.Ren} (Ly : SlLaysM.n5 P ρ) (hen : Enters P (ρ.f 5)) (i e : Nat) (xs : List Int) (hp : List AObj) (hi : hp[i]? = some (rowA eI e 1 xs)) (hl : xs.length ≤ 1000000000) :
    CallS P (ρ.f 5) [.ref i] hp (.tup []) (hp.set i (rowA eI e 1 (srtI xs))) := by
  refine ⟨hen, ?_⟩
  intro Z0 F w0 w μ vs us fr hFb hH hvs hus hbel
  have hlen := hvs.length
  obtain ⟨v, rfl⟩ : ∃ v, vs = [v] := by
    cases vs with
    | nil => simp at hlen
    | cons v t => cases t with
      | nil => exact ⟨v, rfl⟩
      | cons _ _ => simp at hlen
  replace hvs : μ[i]? = some v := by
    simp only [RelL, Rel] at hvs
    obtain ⟨x, xs', e1, e2, e3⟩ := hvs
    cases e1; exact e2
  obtain ⟨ys, hown, hrel⟩ : ∃ ys, w.ownsRow w0.heap.size e 1 v xs.length ys ∧ RelL w (Zone Z0 F w0.heap.size) [] (rows eI xs) ys := hH.obj i _ v hi hvs
  have hys := relL_ints_inv hrel
  subst hys
  have hZn := zone_new (Z0 := Z0) hbel.size hFb
  rcases hown with ⟨hyl, ⟨hv, hn⟩ | ⟨g, cap, cur, hv, hbase, hb, hncap, hcap, hsz, htake⟩⟩
  · have hx : xs = [] := List.eq_nil_of_length_eq_zero hn
    subst hx hv
    refine (AnyM.slices_Sort_int_none Ly none 0 w).mono ?_
    rintro en w' ⟨rfl, rfl⟩
    exact ⟨_, μ, F, rfl, hFb, (by rw [show srtI [] = [] from List.mergeSort_nil, set_self hi]; exact hH), by simp [Rel, RelL], hus, hbel⟩
  · subst hv
    have ht2 : cur.toList.take xs.length = xs.map (Value.int .i64) := by rwa [Nat.mul_one] at htake
    have hgl : g < w.heap.size := (Array.getElem?_eq_some_iff.1 hb).1
    refine (AnyM.slices_Sort_int Ly g 0 cap xs w (holds_of_blockI hb ht2) hgl (by omega)).mono ?_
    rintro en w' ⟨rfl, nn, os, rfl⟩
    have hgr := grownBy_sortedI (w := w) (g := g) (n := nn) (os := os) (xs.mergeSort fun x y => decide (x ≤ y)).toArray
    have hro := ownsRow_sortedI (n := nn) (os := os) (ts := xs.mergeSort fun x y => decide (x ≤ y)) (List.length_mergeSort xs) hbase hb hncap hcap hsz
    have hbl : Below w0.heap.size w (Go.Sort.grow (Go.Sort.putRow (Value.int .i64) (Sort.ahead w nn) g 0 (xs.mergeSort fun x y => decide (x ≤ y)).toArray) os) := ⟨hgr.os, hgr.tape, hgr.output, hgr.size, fun k hk => hgr.block k (by have := hbel.size; omega) (by simp; omega)⟩
    refine ⟨_, μ, F, rfl, fun b hb' => ⟨(hFb b hb').1, Nat.lt_of_lt_of_le (hFb b hb').2 hgr.size⟩, ?_, by simp [Rel, RelL], ?_, hbel.trans hbl⟩
    · refine hH.update_same hZn hi hvs rfl (fun b hb1 hne => hgr.block b hb1 (fun e => hne (by cases e; rfl))) ?_
      exact ⟨_, by rw [srtI_len]; exact hro, relL_ints_mk _⟩
    · refine RelL.keep (w := w) (fun b hb1 hz => hgr.block b hb1 ?_) (fun _ _ h => h) hus
      intro e2
      cases e2
      exact hz (hH.zone i _ _ _ hi rfl hvs rfl)
end Go.Abs


/-! Algebras drawn: renumbered, chains; oprema and filters (no program). -/
namespace Go.Proofs.YtjllngcefoohpaaGreat
open Go.RowKit Go.Abs

theorem prt_ord {xs L : List Int} (h : HyOK xs) (hL : PMX (xs.length : Int) L) : Ord (prt xs L) ∧ Iso xs (prt xs L) (fun v => Classical.epsilon fun k : Nat => k < L.length ∧ L.getD k 0 = (v : Int)) := by
  have h30 := h.n30
  have hll : L.length = xs.length := by have := hL.1; omega
  have hb := fun {i : Nat} (hi : i < L.length) => prt_bits (n := (xs.length : Int)) (xs := xs) (L := L) (by omega) (by simpa using h.rel) hL hi
  have hrg := fun (i : Nat) (hi : i < L.length) => hL.2.1 i hi
  have hlt := fun (i : Nat) (hi : i < L.length) => (show (L.getD i 0).toNat < xs.length by have := hrg i hi; omega)
  have hinj : ∀ i j, i < L.length → j < L.length → (L.getD i 0).toNat = (L.getD j 0).toNat → i = j := fun i j hi hj e => hL.2.2 i j hi hj (by have := hrg i hi; have := hrg j hj; omega)
  have hpl := prt_len xs L
  have hex : ∀ v : Nat, v < xs.length → ∃ k : Nat, k < L.length ∧ L.getD k 0 = (v : Int) := fun v hv => pmx_onto hL (by omega)
  have hf := fun (v : Nat) (hv : v < xs.length) => Classical.epsilon_spec (hex v hv)
  have hle : ∀ i j, i < L.length → j < L.length → (leX (prt xs L) i j ↔ leX xs (L.getD i 0).toNat (L.getD j 0).toNat) := fun i j hi hj => by
    rw [leX, (hb hi).2 j]
    exact ⟨fun q => q.2, fun q => ⟨hj, q⟩⟩
  have hle2 : ∀ i j, i < L.length → tb ((prt xs L).getD i 0) j = true → j < L.length := fun i j hi q => (((hb hi).2 j).1 q).1
  constructor
  · refine ⟨by omega, ⟨rfl, fun j hj => ?_⟩, ?_⟩
    · have := (hb (i := j) (by omega)).1
      rwa [← hpl] at this
    · rw [paB, hpl, Bool.and_eq_true, Bool.and_eq_true]
      refine ⟨rB_iff.2 fun i hi => (hle i i hi hi).2 (hx_refl h (hlt i hi)), tB_iff.2 fun i hi j hj k hk a b => ?_, aB_iff.2 fun i hi j hj a b => ?_⟩
      · exact (hle i k hi hk).2 (hx_trans h (hlt i hi) ((hle i j hi hj).1 a) ((hle j k hj hk).1 b))
      · exact hinj i j hi hj (hx_anti h (hlt i hi) ((hle i j hi hj).1 a) ((hle j i hj hi).1 b))
  · refine ⟨by omega, fun x hx => ?_, fun x y hx hy e => ?_, fun y hy => ?_, fun x y hx hy => ?_⟩
    · have := (hf x hx).1; omega
    · have h1 := (hf x hx).2
      have h2 := (hf y hy).2
      rw [e] at h1
      rw [h1] at h2; omega
    · have hy' : y < L.length := by omega
      have hv := hlt y hy'
      refine ⟨_, hv, ?_⟩
      have h1 := hf _ hv
      refine hL.2.2 _ _ h1.1 hy' ?_
      rw [h1.2]
      have := hrg y hy'; omega
    · have h1 := hf x hx
      have h2 := hf y hy
      rw [hle _ _ h1.1 h2.1, h1.2, h2.2]; simp
theorem prt_hy {xs L : List Int} (h : HyOK xs) (hL : PMX (xs.length : Int) L) : HyOK (prt xs L) := iso_hy (prt_ord h hL).2 h (prt_ord h hL).1
/-- Chains. -/
def chnR (n : Int) (i : Nat) : List Int := (List.range i).map fun x : Nat => bnot ((shl64 1 n) - 1) ((shl64 1 (x : Int)) - 1)
theorem chnR_s (n : Int) (i : Nat) : chnR n i ++ [bnot ((shl64 1 n) - 1) ((shl64 1 (i : Int)) - 1)] = chnR n (i + 1) := by rw [chnR, chnR, List.range_succ, List.map_append]; rfl
theorem chnR_len (n : Int) (i : Nat) : (chnR n i).length = i := by simp [chnR]
def chnB : Nat → Bool
  | 0 => true
  | n + 1 => chnB n && (hyB (chnR ((n + 1 : Nat) : Int) (n + 1)) && decide (∀ j : Nat, j < n + 1 → 0 ≤ (chnR ((n + 1 : Nat) : Int) (n + 1)).getD j 0 ∧ ((chnR ((n + 1 : Nat) : Int) (n + 1)).getD j 0).toNat < 2 ^ (n + 1)))
theorem chnB_14 : chnB 14 = true := by decide +kernel
theorem chnB_at : ∀ {m n : Nat}, chnB m = true → 1 ≤ n → n ≤ m → hyB (chnR (n : Int) n) = true ∧ ∀ j : Nat, j < n → InM n ((chnR (n : Int) n).getD j 0)
  | 0, n, _, h1, h2 => absurd h1 (by omega)
  | m + 1, n, h, h1, h2 => by
    rw [chnB, Bool.and_eq_true, Bool.and_eq_true, decide_eq_true_iff] at h
    by_cases e : n = m + 1
    · subst e
      exact ⟨h.2.1, fun j hj => h.2.2 j hj⟩
    · exact chnB_at h.1 h1 (by omega)
theorem chn_hy {n : Int} (h1 : 1 ≤ n) (h2 : n ≤ 14) {i : Nat} (hi : (i : Int) = n) : HyOK (chnR n i) := by
  subst hi
  have h := chnB_at chnB_14 (n := i) (by omega) (by omega)
  refine hyB_ok (by rw [chnR_len]; omega) ⟨rfl, fun j hj => ?_⟩ h.1
  rw [chnR_len] at hj ⊢
  exact h.2 j hj

/-- An algebra of tables of at most 30 elements a side. -/
def SZ (A : List (List Int)) : Prop := A.length ≤ 30 ∧ ∀ i : Nat, i < A.length → (A.getD i []).length ≤ 30
theorem mkHy {xs : List Int} (h : HyOK xs) : IsHy (ordT (tabR (hyM xs) xs.length xs.length)) (tabR (hyM xs) xs.length xs.length) (tabR (hyJ xs) xs.length xs.length) (tabR (hyI xs) xs.length xs.length) (lowF xs (fullM xs.length)) (lowF (invA xs xs.length) (fullM xs.length)) := by
  rw [ordT_tab h]; exact ⟨h, rfl, rfl, rfl, rfl, rfl⟩
theorem tabR_row {f : Nat → Nat → Int} {N i : Nat} (h : i < N) : ((tabR f N N).getD i []).length = N := by
  have h1 := (tabL_at (f := f) (N := N) (x := N) (i := i) (j := 0) h (by omega)).2
  omega
theorem isHy_sz {xs : List Int} {A O J : List (List Int)} {b t : Int} (h : IsHy xs A O J b t) : (1 ≤ xs.length ∧ xs.length ≤ 30 ∧ A.length = xs.length ∧ O.length = xs.length ∧ J.length = xs.length) ∧ (∀ i : Nat, i < A.length → (A.getD i []).length = xs.length) ∧ (∀ i : Nat, i < O.length → (O.getD i []).length = xs.length) ∧ (∀ i : Nat, i < J.length → (J.getD i []).length = xs.length) := by
  have h0 := h.ok.n0
  have h30 := h.ok.n30
  refine ⟨⟨h0, h30, by rw [h.eA, tabR_len], by rw [h.eO, tabR_len], by rw [h.eJ, tabR_len]⟩, fun i hi => ?_, fun i hi => ?_, fun i hi => ?_⟩
  · rw [h.eA] at hi ⊢; exact tabR_row (by rwa [tabR_len] at hi)
  · rw [h.eO] at hi ⊢; exact tabR_row (by rwa [tabR_len] at hi)
  · rw [h.eJ] at hi ⊢; exact tabR_row (by rwa [tabR_len] at hi)
theorem sz_of {n : Nat} {A : List (List Int)} (hn : n ≤ 30) (h1 : A.length = n) (h2 : ∀ i : Nat, i < A.length → (A.getD i []).length = n) : SZ A := ⟨by omega, fun i hi => by rw [h2 i hi]; exact hn⟩
theorem sz_drop {A : List (List Int)} (h : SZ A) : SZ (A.drop 1) := by
  refine ⟨by rw [List.length_drop]; have := h.1; omega, fun i hi => ?_⟩
  rw [List.length_drop] at hi
  rw [List.getD_eq_getElem?_getD, List.getElem?_drop, ← List.getD_eq_getElem?_getD]
  exact h.2 (1 + i) (by omega)
theorem sz_set {Q : List (List Int)} {L : List (Value × List Int)} {x : Nat} {v : Value} {ys : List Int} (hL : L.map Prod.snd = Q) (h : SZ Q) (hy : ys.length ≤ 30) : SZ ((L.set x (v, ys)).map Prod.snd) := by
  subst hL
  have hl : ((L.set x (v, ys)).map Prod.snd) = (L.map Prod.snd).set x ys := by rw [List.map_set]
  rw [hl]
  refine ⟨by rw [List.length_set]; exact h.1, fun i hi => ?_⟩
  rw [List.length_set] at hi
  rw [List.getD_eq_getElem?_getD, List.getElem?_set]
  split
  · rename_i e; subst e
    rw [List.length_map] at hi
    simp [hi]; exact hy
  · rw [← List.getD_eq_getElem?_getD]; exact h.2 i hi
theorem map_at {Q : List (List Int)} {L : List (Value × List Int)} (hL : L.map Prod.snd = Q) {x : Nat} (hx : x < Q.length) : (L.getD x (.bool false, [])).2 = Q.getD x [] := by
  subst hL
  rw [List.length_map] at hx
  simp [List.getD_eq_getElem?_getD, List.getElem?_eq_getElem hx]

theorem own2_s {Q : List (List Int)} {i : Nat} (h : i < Q.length) : Q.take (i + 1) = Q.take i ++ [Q.getD i []] := by
  rw [List.take_add_one, List.getD_eq_getElem?_getD, List.getElem?_eq_getElem h]; rfl
/-- What is above all elements but the top. -/
def opX (xs : List Int) (t : Int) : Int := lowF (invA xs xs.length) (bnot (fullM xs.length) (shl64 1 t))
section
variable {xs : List Int} (h : HyOK xs)
include h
theorem opM_bits : InM xs.length (bnot (fullM xs.length) (shl64 1 (tX xs : Int))) ∧ ∀ z, tb (bnot (fullM xs.length) (shl64 1 (tX xs : Int))) z = true ↔ z < xs.length ∧ z ≠ tX xs := by
  have h30 := h.n30
  have ht := (hx_t h).2.1
  have h1 := inM_full (n := xs.length) (by omega)
  have h2 := inM_one (n := xs.length) (i := tX xs) (by omega) ht
  refine ⟨inM_bnot (by omega) h1 h2, fun z => ?_⟩
  rw [fullM, tb_bnot (by omega) h1 h2, tb_full (by omega), tb_one (by omega), Bool.and_eq_true, Bool.not_eq_true', decide_eq_true_iff, decide_eq_false_iff_not]
  exact ⟨fun q => ⟨q.1, Ne.symm q.2⟩, fun q => ⟨q.1, Ne.symm q.2⟩⟩
theorem op_get (h0 : 0 ≤ opX xs (tX xs)) : (opX xs (tX xs)).toNat < xs.length ∧ (opX xs (tX xs)).toNat ≠ tX xs ∧ ∀ z, z < xs.length → z ≠ tX xs → leX xs z (opX xs (tX xs)).toNat := by
  obtain ⟨hm, hb⟩ := opM_bits h
  obtain ⟨q1, q2, q3⟩ := ox_lowI_get h.ord hm h0
  exact ⟨q1, ((hb _).1 q2).2, fun z hz hne => q3 z ((hb z).2 ⟨hz, hne⟩)⟩
theorem op_iff : 0 ≤ opX xs (tX xs) ↔ ∃ x, x < xs.length ∧ x ≠ tX xs ∧ ∀ z, z < xs.length → z ≠ tX xs → leX xs z x := by
  obtain ⟨hm, hb⟩ := opM_bits h
  refine ⟨fun h0 => ⟨_, (op_get h h0).1, (op_get h h0).2⟩, ?_⟩
  rintro ⟨x, hx, hne, hall⟩
  have := ox_lowI_is h.ord hm hx ((hb x).2 ⟨hx, hne⟩) fun z hz => hall z ((hb z).1 hz).1 ((hb z).1 hz).2
  rw [opX, this]; omega
theorem top_row : xs.getD (tX xs) 0 = shl64 1 (tX xs : Int) := by
  have h30 := h.n30
  have ht := (hx_t h).2
  have hi := h.rel.2 (tX xs) ht.1
  have h2 := inM_one (n := xs.length) (i := tX xs) (by omega) ht.1
  refine tb_ext hi.1 h2.1 fun z => ?_
  rw [tb_one (by omega), Bool.eq_iff_iff, decide_eq_true_iff]
  constructor
  · intro q
    have hz := tb_lt hi q
    exact hx_anti h ht.1 q (ht.2 z hz)
  · rintro rfl
    exact hx_refl h ht.1
theorem row_inj {i k : Nat} (hi : i < xs.length) (hk : k < xs.length) (e : xs.getD i 0 = xs.getD k 0) : i = k := by
  have h1 : leX xs i k := by rw [leX, e]; exact hx_refl h hk
  have h2 : leX xs k i := by rw [leX, ← e]; exact hx_refl h hi
  exact hx_anti h hi h1 h2
theorem row_sub {i k : Nat} (hi : i < xs.length) (hk : k < xs.length) : bnot (xs.getD i 0) (xs.getD k 0) = 0 ↔ leX xs k i := by
  have h30 := h.n30
  rw [bnot_sub (n := xs.length) (by omega) (h.rel.2 i hi) (h.rel.2 k hk)]
  exact ⟨fun q => q i (hx_refl h hi), fun q z hz => hx_trans h hk q hz⟩
end
/-- A filter's part of the search for the least one. -/
def lsI (L : List Int) (t : Int) (i : Nat) : Nat → Bool
  | 0 => !decide (L.getD i 0 = t)
  | k + 1 => lsI L t i k && (decide (L.getD k 0 = t) || decide (bnot (L.getD i 0) (L.getD k 0) = 0))
def lsO (L : List Int) (t : Int) : Nat → Bool
  | 0 => false
  | i + 1 => lsO L t i || lsI L t i L.length
theorem lsI_iff {L : List Int} {t : Int} {i : Nat} : ∀ {k : Nat}, lsI L t i k = true ↔ ¬ L.getD i 0 = t ∧ ∀ m, m < k → L.getD m 0 = t ∨ bnot (L.getD i 0) (L.getD m 0) = 0
  | 0 => by simp [lsI]
  | k + 1 => by
    rw [lsI, Bool.and_eq_true, lsI_iff, Bool.or_eq_true, decide_eq_true_iff, decide_eq_true_iff]
    constructor
    · rintro ⟨⟨h1, h2⟩, h3⟩
      refine ⟨h1, fun m hm => ?_⟩
      by_cases e : m = k
      · subst e; exact h3
      · exact h2 m (by omega)
    · rintro ⟨h1, h2⟩
      exact ⟨⟨h1, fun m hm => h2 m (by omega)⟩, h2 k (by omega)⟩
theorem lsO_iff {L : List Int} {t : Int} : ∀ {i : Nat}, lsO L t i = true ↔ ∃ k, k < i ∧ lsI L t k L.length = true
  | 0 => by simp [lsO]
  | i + 1 => by
    rw [lsO, Bool.or_eq_true, lsO_iff]
    constructor
    · rintro (⟨k, h1, h2⟩ | h)
      · exact ⟨k, by omega, h2⟩
      · exact ⟨i, by omega, h⟩
    · rintro ⟨k, h1, h2⟩
      by_cases e : k = i
      · subst e; exact .inr h2
      · exact .inl ⟨k, by omega, h2⟩
theorem ls_op {xs : List Int} (h : HyOK xs) : lsO (srtI xs) (shl64 1 (tX xs : Int)) (srtI xs).length = decide (0 ≤ opX xs (tX xs)) := by
  have hmem : ∀ v, v ∈ srtI xs ↔ v ∈ xs := fun v => List.mem_mergeSort
  have at1 : ∀ {l : List Int} {k : Nat}, k < l.length → l.getD k 0 ∈ l := fun {l k} hk => by rw [List.getD_eq_getElem?_getD, List.getElem?_eq_getElem hk]; exact List.getElem_mem _
  have at2 : ∀ {l : List Int} {v : Int}, v ∈ l → ∃ k, k < l.length ∧ l.getD k 0 = v := fun {l v} hv => by
    obtain ⟨k, hk, rfl⟩ := List.getElem_of_mem hv
    exact ⟨k, hk, by rw [List.getD_eq_getElem?_getD, List.getElem?_eq_getElem hk]; rfl⟩
  have ht := (hx_t h).2.1
  rw [Bool.eq_iff_iff, decide_eq_true_iff, lsO_iff, op_iff h]
  constructor
  · rintro ⟨k, hk, hl⟩
    obtain ⟨h1, h2⟩ := lsI_iff.1 hl
    obtain ⟨x, hx, ex⟩ := at2 ((hmem _).1 (at1 hk))
    refine ⟨x, hx, fun e => h1 ?_, fun z hz hne => ?_⟩
    · subst e; rw [← ex]; exact top_row h
    · obtain ⟨m, hm, em⟩ := at2 ((hmem _).2 (at1 hz))
      rcases h2 m hm with q | q
      · exact absurd (row_inj h hz ht (by rw [← em, q, top_row h])) hne
      · rw [← ex, em] at q
        exact (row_sub h hx hz).1 q
  · rintro ⟨x, hx, hne, hall⟩
    obtain ⟨k, hk, ek⟩ := at2 ((hmem _).2 (at1 hx))
    refine ⟨k, hk, lsI_iff.2 ⟨fun e => hne (row_inj h hx ht (by rw [← ek, e, top_row h])), fun m hm => ?_⟩⟩
    obtain ⟨z, hz, ez⟩ := at2 ((hmem _).1 (at1 hm))
    by_cases e : z = tX xs
    · left; subst e; rw [← ez]; exact top_row h
    · right; rw [ek, ← ez]; exact (row_sub h hx hz).2 (hall z hz e)

end Go.Proofs.YtjllngcefoohpaaGreat
