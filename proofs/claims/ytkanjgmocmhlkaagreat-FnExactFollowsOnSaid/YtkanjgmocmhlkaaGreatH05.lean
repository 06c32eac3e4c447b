/- The harness: rows of formulas. -/
import Derived.Test.YtkanjgmocmhlkaaGreatH03
import Derived.Test.YtkanjgmocmhlkaaGreatSymZ
namespace Go.Proofs.YtkanjgmocmhlkaaGreat
open Go.RowKit Go.Abs

def sumL : List (List (Int × Int)) → Nat
  | [] => 0
  | a :: l => a.length + sumL l
theorem sumL_app (l m : List (List (Int × Int))) : sumL (l ++ m) = sumL l + sumL m := by
  induction l with
  | nil => simp [sumL]
  | cons a l ih => simp [sumL, ih]; omega
theorem sumL_take (l : List (List (Int × Int))) (i : Nat) (h : i < l.length) : sumL (l.take (i + 1)) = sumL (l.take i) + (l.getD i []).length := by
  rw [List.take_succ_eq_append_getElem h, sumL_app, List.getD_eq_getElem?_getD, List.getElem?_eq_getElem h]
  simp [sumL]
theorem sumL_split (l : List (List (Int × Int))) (i : Nat) : sumL l = sumL (l.take i) + sumL (l.drop i) := by
  rw [← sumL_app, List.take_append_drop]
theorem sumL_mono (l : List (List (Int × Int))) (i : Nat) : sumL (l.take i) ≤ sumL l := by
  have := sumL_split l i; omega
theorem sumL_all (l : List (List (Int × Int))) (i : Nat) (h : l.length ≤ i) : sumL (l.take i) = sumL l := by rw [List.take_of_length_le h]
theorem sumL_get (l : List (List (Int × Int))) (j : Nat) (h : j < l.length) : (l.getD j []).length ≤ sumL l := by
  have := sumL_take l j h; have := sumL_mono l (j + 1); omega

def szz (k : Int) (n : Nat) : Int := if (n : Int) ≤ k then k - n else -1
theorem szNodeS_g (a : List (Int × Int)) (k : Int) (hk : (0 : Int) ≤ k ∧ k ≤ 1048576) (hl : a.length ≤ 9223372036854775807) : CallA Tryz.prog 9 [LN a, AI k] (AI (szz k a.length)) := by
  unfold szz
  by_cases h : (a.length : Int) ≤ k
  · rw [if_pos h]; exact szNodeS_c a k hk.2 h
  · rw [if_neg h]; exact szNodeS_no a k hk (by omega) hl
theorem szz_pos {k : Int} {n : Nat} (h : ¬ szz k n < 0) : (n : Int) ≤ k ∧ szz k n = k - n := by
  unfold szz at h ⊢
  split at h
  · rename_i h1; exact ⟨h1, by rw [if_pos h1]⟩
  · omega

theorem szNodeSS_c (l : List (List (Int × Int))) (k : Int) (hk : (k : Int) ≤ 1048576) (hx : (l.length : Int) + sumL l ≤ k) : CallA Tryz.prog 25 [LLN l, AI k] (AI ((k : Int) - l.length - sumL l)) := by
  refine CallA.of Tryz.func25 rfl (by kernel_rfl) ?_
  refine R.go 9 (R.ar (k - (l.length : Int)) (by kernel_rfl) (by omega) (by omega) (by kernel_rfl) ?_)
  refine R.go 8 (R.cond ((k - (l.length : Int)) < 0) (by kernel_rfl) (fun c1 => ?_) (fun c1 => ?_))
  · exact R.go 4 (R.retE (AI (-1)) (by kernel_rfl) (by kernel_rfl) (by first | (first | (rw [‹q = _›, sumL_all l i (by omega)]) | (exfalso; have h2 := sumL_take l i (by omega); have h3 := sumL_mono l (i + 1); have h4 : szz q (l.getD i []).length = q - (l.getD i []).length := (by unfold szz; rw [if_pos (by omega)]); omega)) | (exfalso; omega)))
  · refine R.go 7 (R.loop ((fun | (i, q) => (⟨(frm 27 [(0, LLN l), (1, AI q), (5, AI (i : Int))]), []⟩ : St) : Nat × Int → St)) (fun | (i, q) => (i ≤ l.length) ∧ (0 ≤ q ∧ q ≤ 1048576) ∧ (q = (k : Int) - l.length - sumL (l.take i))) (fun | (i, q) => l.length - i) (0, (k - (l.length : Int))) [0, 1, 5] none (by kernel_rfl) (by kernel_rfl) (by kernel_rfl) ⟨(by omega), (by simp [sumL]; omega), (by simp [sumL])⟩ ?_)
    rintro ⟨i, q⟩ ⟨h5_1, h5_2, h5_3⟩ R2 N3
    refine R.go 8 (R.cond ((i : Int) < (l.length : Int)) (by kernel_rfl) (fun c6 => ?_) (fun c6 => ?_))
    · have hgl := sumL_get l i (by omega)
      refine R.go 7 (R.idx eLN l [] i (i : Int) (by kernel_rfl) rfl eLN_len (by omega) (by kernel_rfl) ?_)
      refine R.go 2 (R.call true (szNodeS_g (l.getD i []) q (by omega) (by first | assumption | omega)) (by kernel_rfl) rfl (by kernel_rfl) ?_)
      refine R.go 7 (R.cond ((szz q (l.getD i []).length) < 0) (by kernel_rfl) (fun c7 => ?_) (fun c7 => ?_))
      · exact R.go 4 (R.retE (AI (-1)) (by kernel_rfl) (by kernel_rfl) (by first | (first | (rw [‹q = _›, sumL_all l i (by omega)]) | (exfalso; have h2 := sumL_take l i (by omega); have h3 := sumL_mono l (i + 1); have h4 : szz q (l.getD i []).length = q - (l.getD i []).length := (by unfold szz; rw [if_pos (by omega)]); omega)) | (exfalso; omega)))
      · refine R.go 4 (R.ar ((i : Int) + 1) (by kernel_rfl) (by omega) (by omega) (by kernel_rfl) ?_)
        exact R.go 2 (R.stop R2 (by kernel_rfl) (N3 (i + 1, szz q (l.getD i []).length) [0, 1, 5] none _ (by kernel_rfl) (by kernel_rfl) ⟨(by omega), (by (have h1 := szz_pos (by assumption : ¬ szz q (l.getD i []).length < 0); have h2 := sumL_take l i (by omega); omega)), (by (have h1 := szz_pos (by assumption : ¬ szz q (l.getD i []).length < 0); have h2 := sumL_take l i (by omega); omega))⟩ (by show (l.length - (i + 1)) < (l.length - i); omega)))
    · exact R.go 6 (R.retE (AI q) (by kernel_rfl) (by kernel_rfl) (by first | (first | (rw [‹q = _›, sumL_all l i (by omega)]) | (exfalso; have h2 := sumL_take l i (by omega); have h3 := sumL_mono l (i + 1); have h4 : szz q (l.getD i []).length = q - (l.getD i []).length := (by unfold szz; rw [if_pos (by omega)]); omega)) | (exfalso; omega)))

theorem szNodeSS_no (l : List (List (Int × Int))) (k : Int) (hk : (0 : Int) ≤ k ∧ (k : Int) ≤ 1048576) (hx : (k : Int) < (l.length : Int) + sumL l) (hl : l.length ≤ 9223372036854775807) (hl2 : ∀ j : Nat, j < l.length → (l.getD j []).length ≤ 9223372036854775807) : CallA Tryz.prog 25 [LLN l, AI k] (AI (-1)) := by
  refine CallA.of Tryz.func25 rfl (by kernel_rfl) ?_
  refine R.go 9 (R.ar (k - (l.length : Int)) (by kernel_rfl) (by omega) (by omega) (by kernel_rfl) ?_)
  refine R.go 8 (R.cond ((k - (l.length : Int)) < 0) (by kernel_rfl) (fun c1 => ?_) (fun c1 => ?_))
  · exact R.go 4 (R.retE (AI (-1)) (by kernel_rfl) (by kernel_rfl) (by rfl))
  · refine R.go 7 (R.loop ((fun | (i, q) => (⟨(frm 27 [(0, LLN l), (1, AI q), (5, AI (i : Int))]), []⟩ : St) : Nat × Int → St)) (fun | (i, q) => (i ≤ l.length) ∧ (0 ≤ q ∧ q ≤ 1048576) ∧ (q = (k : Int) - l.length - sumL (l.take i))) (fun | (i, q) => l.length - i) (0, (k - (l.length : Int))) [0, 1, 5] none (by kernel_rfl) (by kernel_rfl) (by kernel_rfl) ⟨(by omega), (by simp [sumL]; omega), (by simp [sumL])⟩ ?_)
    rintro ⟨i, q⟩ ⟨h5_1, h5_2, h5_3⟩ R2 N3
    refine R.go 8 (R.cond ((i : Int) < (l.length : Int)) (by kernel_rfl) (fun c6 => ?_) (fun c6 => ?_))
    · have hgl := hl2 i (by omega)
      refine R.go 7 (R.idx eLN l [] i (i : Int) (by kernel_rfl) rfl eLN_len (by omega) (by kernel_rfl) ?_)
      refine R.go 2 (R.call true (szNodeS_g (l.getD i []) q (by omega) (by first | assumption | omega)) (by kernel_rfl) rfl (by kernel_rfl) ?_)
      refine R.go 7 (R.cond ((szz q (l.getD i []).length) < 0) (by kernel_rfl) (fun c7 => ?_) (fun c7 => ?_))
      · exact R.go 4 (R.retE (AI (-1)) (by kernel_rfl) (by kernel_rfl) (by rfl))
      · refine R.go 4 (R.ar ((i : Int) + 1) (by kernel_rfl) (by omega) (by omega) (by kernel_rfl) ?_)
        exact R.go 2 (R.stop R2 (by kernel_rfl) (N3 (i + 1, szz q (l.getD i []).length) [0, 1, 5] none _ (by kernel_rfl) (by kernel_rfl) ⟨(by omega), (by (have h1 := szz_pos (by assumption : ¬ szz q (l.getD i []).length < 0); have h2 := sumL_take l i (by omega); omega)), (by (have h1 := szz_pos (by assumption : ¬ szz q (l.getD i []).length < 0); have h2 := sumL_take l i (by omega); omega))⟩ (by show (l.length - (i + 1)) < (l.length - i); omega)))
    · exact R.go 6 (R.retE (AI q) (by kernel_rfl) (by kernel_rfl) (by first | (first | rfl | (exfalso; have h1 := sumL_all l i (by omega); omega)) | (exfalso; omega)))

theorem toNodeSS_c (a : List (List (Int × Int))) (hl : a.length ≤ 1048576) (hl2 : ∀ j : Nat, j < a.length → (a.getD j []).length ≤ 1048576) : CallA Tryz.prog 27 [LLN a] (ownA eLN 32 1 a) := by
  refine CallA.of Tryz.func27 rfl (by kernel_rfl) ?_
  refine R.go 8 (R.mkL eLN [] 32 24 a.length 2 a.length (by kernel_rfl) (by kernel_rfl) rfl rfl (by decide) (by omega) (by kernel_rfl) ?_)
  refine R.go 8 (R.loop ((fun | (i, out) => (⟨(frm 23 [(0, LLN a), (3, .ref 0), (4, AI (i : Int))]), [rowA eLN 32 1 out]⟩ : St) : Nat × (List (List (Int × Int))) → St)) (fun | (i, out) => (i ≤ a.length) ∧ (out.length = a.length) ∧ (out.take i = a.take i)) (fun | (i, out) => a.length - i) (0, (List.replicate a.length [])) [0, 3, 4] none (by kernel_rfl) (by kernel_rfl) (by kernel_rfl) ⟨(by omega), (by simp), (by rfl)⟩ ?_)
  rintro ⟨i, out⟩ ⟨h4_1, h4_2, h4_3⟩ R1 N2
  refine R.go 8 (R.cond ((i : Int) < (a.length : Int)) (by kernel_rfl) (fun c5 => ?_) (fun c5 => ?_))
  · have hgl := hl2 i (by omega)
    refine R.go 8 (R.idx eLN a [] i (i : Int) (by kernel_rfl) rfl eLN_len (by omega) (by kernel_rfl) ?_)
    refine R.go 1 (R.call true (toNodeS_c (a.getD i []) (by first | omega | (simp <;> omega))) (by kernel_rfl) rfl (by kernel_rfl) ?_)
    refine R.frz 1 (by kernel_rfl) ?_
    refine R.idxO 0 1 out.length i (i : Int) (by kernel_rfl) rfl (by omega) (by kernel_rfl) ?_
    refine R.st1 eLN LN 0 32 out i (a.getD i []) (by kernel_rfl) (fun _ => rfl) (by omega) (by kernel_rfl) ?_
    refine R.go 4 (R.ar ((i : Int) + 1) (by kernel_rfl) (by omega) (by omega) (by kernel_rfl) ?_)
    exact R.go 2 (R.stop R1 (by kernel_rfl) (N2 (i + 1, out.set i (a.getD i [])) [0, 3, 4] (some [0]) _ (by kernel_rfl) (by kernel_rfl) ⟨(by omega), (by simp <;> omega), (by exact take_step _ _ [] _ (by simp <;> omega) (by omega) (by rw [List.take_set_of_le (by omega)]; assumption) (by rw [getD_set_eq _ _ _ _ (by omega)]))⟩ (by show (a.length - (i + 1)) < (a.length - i); omega)))
  · exact R.go 6 (R.retE (ownA eLN 32 1 out) (by kernel_rfl) (by kernel_rfl) (by first | (rw [show out = a from take_all (i := i) (by omega) (by omega) (by assumption)]) | (exfalso; omega)))

theorem eqNodeSS_c (a : List (List (Int × Int))) (b : List (List (Int × Int))) (la : a.length ≤ 1000000000) (lb : ∀ j : Nat, j < a.length → (a.getD j []).length ≤ 1000000000) : CallA Tryz.prog 29 [LLN a, LLN b] (.bool (decide (a = b))) := by
  refine CallA.of Tryz.func29 rfl (by kernel_rfl) ?_
  refine R.go 13 (R.condN ((a.length : Int) = (b.length : Int)) (by kernel_rfl) (fun c1 => ?_) (fun c1 => ?_))
  · exact R.go 4 (R.retE (.bool false) (by kernel_rfl) (by kernel_rfl) (by first | (first | (rw [dF (fun h => by subst h; omega)]) | (rw [dT (take_all (i := i) (by omega) (by omega) (by assumption))]) | (rw [dF (fun h => by subst h; exact absurd rfl (by assumption))])) | (exfalso; omega)))
  · refine R.go 7 (R.loop (fun (i : Nat) => (⟨(frm 27 [(0, LLN a), (1, LLN b), (5, AI (i : Int))]), []⟩ : St)) (fun (i : Nat) => (i ≤ a.length) ∧ (a.take i = b.take i)) (fun (i : Nat) => a.length - i) 0 [0, 1, 5] none (by kernel_rfl) (by kernel_rfl) (by kernel_rfl) ⟨(by omega), (by rfl)⟩ ?_)
    rintro i ⟨h4_1, h4_2⟩ R2 N3
    refine R.go 8 (R.cond ((i : Int) < (a.length : Int)) (by kernel_rfl) (fun c5 => ?_) (fun c5 => ?_))
    · have hgl := lb i (by omega)
      refine R.go 7 (R.idx eLN a [] i (i : Int) (by kernel_rfl) rfl eLN_len (by omega) (by kernel_rfl) ?_)
      refine R.go 3 (R.idx eLN b [] i (i : Int) (by kernel_rfl) rfl eLN_len (by omega) (by kernel_rfl) ?_)
      refine R.go 1 (R.call true (eqNodeS_c (a.getD i []) (b.getD i []) (by first | omega | (simp <;> omega))) (by kernel_rfl) rfl (by kernel_rfl) ?_)
      refine R.go 2 (R.condN ((a.getD i []) = (b.getD i [])) (by kernel_rfl) (fun c6 => ?_) (fun c6 => ?_))
      · exact R.go 4 (R.retE (.bool false) (by kernel_rfl) (by kernel_rfl) (by first | (first | (rw [dF (fun h => by subst h; omega)]) | (rw [dT (take_all (i := i) (by omega) (by omega) (by assumption))]) | (rw [dF (fun h => by subst h; exact absurd rfl (by assumption))])) | (exfalso; omega)))
      · refine R.go 4 (R.ar ((i : Int) + 1) (by kernel_rfl) (by omega) (by omega) (by kernel_rfl) ?_)
        exact R.go 2 (R.stop R2 (by kernel_rfl) (N3 (i + 1) [0, 1, 5] none _ (by kernel_rfl) (by kernel_rfl) ⟨(by omega), (by exact take_step a b [] i (by omega) (by omega) (by assumption) (by assumption))⟩ (by show (a.length - (i + 1)) < (a.length - i); omega)))
    · exact R.go 5 (R.retE (.bool true) (by kernel_rfl) (by kernel_rfl) (by first | (first | (rw [dF (fun h => by subst h; omega)]) | (rw [dT (take_all (i := i) (by omega) (by omega) (by assumption))]) | (rw [dF (fun h => by subst h; exact absurd rfl (by assumption))])) | (exfalso; omega)))

end Go.Proofs.YtkanjgmocmhlkaaGreat
