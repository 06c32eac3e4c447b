/- The harness of the laws. -/
import Derived.Test.YtfkdkhlimdkehaaGreatM02
namespace Go.Proofs.YtfkdkhlimdkehaaGreat
open Go.RowKit Go.Abs

theorem take_step {α : Type} (a b : List α) (d : α) (i : Nat) (ha : i < a.length) (hb : i < b.length) (h : a.take i = b.take i) (e : a.getD i d = b.getD i d) : a.take (i + 1) = b.take (i + 1) := by
  rw [List.take_succ_eq_append_getElem ha, List.take_succ_eq_append_getElem hb, h]
  simp only [List.getD_eq_getElem?_getD, List.getElem?_eq_getElem ha, List.getElem?_eq_getElem hb, Option.getD_some] at e
  rw [e]
theorem take_all {α : Type} {a b : List α} {i : Nat} (ha : a.length ≤ i) (hl : a.length = b.length) (h : a.take i = b.take i) : a = b := by
  rwa [List.take_of_length_le ha, List.take_of_length_le (by omega)] at h
theorem getD_set_eq {α : Type} (xs : List α) (i : Nat) (v d : α) (h : i < xs.length) : (xs.set i v).getD i d = v := by
  rw [getD_set_if _ _ _ _ _ h, if_pos rfl]

theorem szInt64S_c (a : List Int) (k : Int) (hk : (k : Int) ≤ 1048576) (hx : (a.length : Int) ≤ k) : CallA Tryz.prog 27 [LI a, AI k] (AI ((k : Int) - a.length)) := by
  refine CallA.of Tryz.func27 rfl (by kernel_rfl) ?_
  refine R.go 9 (R.ar (k - (a.length : Int)) (by kernel_rfl) (by omega) (by omega) (by kernel_rfl) ?_)
  refine R.go 8 (R.cond ((k - (a.length : Int)) < 0) (by kernel_rfl) (fun c1 => ?_) (fun c1 => ?_))
  · exact R.go 4 (R.retE (AI (-1)) (by kernel_rfl) (by kernel_rfl) (by first | (rfl) | (exfalso; omega)))
  · exact R.go 6 (R.retE (AI (k - (a.length : Int))) (by kernel_rfl) (by kernel_rfl) (by first | (rfl) | (exfalso; omega)))

theorem szInt64S_no (a : List Int) (k : Int) (hk : (0 : Int) ≤ k ∧ (k : Int) ≤ 1048576) (hx : (k : Int) < a.length) (hl : a.length ≤ 9223372036854775807) : CallA Tryz.prog 27 [LI a, AI k] (AI (-1)) := by
  refine CallA.of Tryz.func27 rfl (by kernel_rfl) ?_
  refine R.go 9 (R.ar (k - (a.length : Int)) (by kernel_rfl) (by omega) (by omega) (by kernel_rfl) ?_)
  refine R.go 8 (R.cond ((k - (a.length : Int)) < 0) (by kernel_rfl) (fun c1 => ?_) (fun c1 => ?_))
  · exact R.go 4 (R.retE (AI (-1)) (by kernel_rfl) (by kernel_rfl) (by rfl))
  · exact R.go 6 (R.retE (AI (k - (a.length : Int))) (by kernel_rfl) (by kernel_rfl) (by first | (rfl) | (exfalso; omega)))

theorem toInt64S_c (a : List Int) (hl : a.length ≤ 1048576) : CallA Tryz.prog 30 [LI a] (ownA eI 2 1 a) := by
  refine CallA.of Tryz.func30 rfl (by kernel_rfl) ?_
  refine R.go 8 (R.mk eI 0 2 8 a.length a.length (by kernel_rfl) rfl (by decide) (by omega) (by kernel_rfl) ?_)
  refine R.go 8 (R.loop ((fun | (i, out) => (⟨(frm 22 [(0, LI a), (3, .ref 0), (4, AI (i : Int))]), [rowA eI 2 1 out]⟩ : St) : Nat × (List Int) → St)) (fun | (i, out) => (i ≤ a.length) ∧ (out.length = a.length) ∧ (out.take i = a.take i)) (fun | (i, out) => a.length - i) (0, (List.replicate a.length 0)) [0, 3, 4] none (by kernel_rfl) (by kernel_rfl) (by kernel_rfl) ⟨(by omega), (by simp), (by rfl)⟩ ?_)
  rintro ⟨i, out⟩ ⟨h4_1, h4_2, h4_3⟩ R1 N2
  refine R.go 8 (R.cond ((i : Int) < (a.length : Int)) (by kernel_rfl) (fun c5 => ?_) (fun c5 => ?_))
  · refine R.go 8 (R.idx eI a 0 i (i : Int) (by kernel_rfl) rfl eI_len (by omega) (by kernel_rfl) ?_)
    refine R.go 1 (R.idxO 0 1 out.length i (i : Int) (by kernel_rfl) rfl (by omega) (by kernel_rfl) ?_)
    refine R.stI 0 2 out i (a.getD i 0) (by kernel_rfl) (by omega) (by kernel_rfl) ?_
    refine R.go 4 (R.ar ((i : Int) + 1) (by kernel_rfl) (by omega) (by omega) (by kernel_rfl) ?_)
    exact R.go 2 (R.stop R1 (by kernel_rfl) (N2 (i + 1, out.set i (a.getD i 0)) [0, 3, 4] none _ (by kernel_rfl) (by kernel_rfl) ⟨(by omega), (by simp <;> omega), (by exact take_step _ _ 0 _ (by simp <;> omega) (by omega) (by rw [List.take_set_of_le (by omega)]; assumption) (by rw [getD_set_eq _ _ _ _ (by omega)]))⟩ (by show (a.length - (i + 1)) < (a.length - i); omega)))
  · exact R.go 6 (R.retE (ownA eI 2 1 out) (by kernel_rfl) (by kernel_rfl) (by first | (rw [show out = a from take_all (i := i) (by omega) (by omega) (by assumption)]) | (exfalso; omega)))

theorem eqInt64S_c (a : List Int) (b : List Int) (la : a.length ≤ 1000000000) : CallA Tryz.prog 34 [LI a, LI b] (.bool (decide (a = b))) := by
  refine CallA.of Tryz.func34 rfl (by kernel_rfl) ?_
  refine R.go 13 (R.condN ((a.length : Int) = (b.length : Int)) (by kernel_rfl) (fun c1 => ?_) (fun c1 => ?_))
  · exact R.go 4 (R.retE (.bool false) (by kernel_rfl) (by kernel_rfl) (by first | (first | (rw [dF (fun h => by subst h; omega)]) | (rw [dT (take_all (i := i) (by omega) (by omega) (by assumption))])) | (exfalso; omega)))
  · refine R.go 7 (R.loop (fun (i : Nat) => (⟨(frm 26 [(0, LI a), (1, LI b), (5, AI (i : Int))]), []⟩ : St)) (fun (i : Nat) => (i ≤ a.length) ∧ (a.take i = b.take i)) (fun (i : Nat) => a.length - i) 0 [0, 1, 5] none (by kernel_rfl) (by kernel_rfl) (by kernel_rfl) ⟨(by omega), (by rfl)⟩ ?_)
    rintro i ⟨h4_1, h4_2⟩ R2 N3
    refine R.go 8 (R.cond ((i : Int) < (a.length : Int)) (by kernel_rfl) (fun c5 => ?_) (fun c5 => ?_))
    · refine R.go 7 (R.idx eI a 0 i (i : Int) (by kernel_rfl) rfl eI_len (by omega) (by kernel_rfl) ?_)
      refine R.go 3 (R.idx eI b 0 i (i : Int) (by kernel_rfl) rfl eI_len (by omega) (by kernel_rfl) ?_)
      refine R.go 3 (R.condN ((a.getD i 0) = (b.getD i 0)) (by kernel_rfl) (fun c6 => ?_) (fun c6 => ?_))
      · exact R.go 4 (R.retE (.bool false) (by kernel_rfl) (by kernel_rfl) (by first | (first | (rw [dF (fun h => by subst h; omega)]) | (rw [dT (take_all (i := i) (by omega) (by omega) (by assumption))])) | (exfalso; omega)))
      · refine R.go 4 (R.ar ((i : Int) + 1) (by kernel_rfl) (by omega) (by omega) (by kernel_rfl) ?_)
        exact R.go 2 (R.stop R2 (by kernel_rfl) (N3 (i + 1) [0, 1, 5] none _ (by kernel_rfl) (by kernel_rfl) ⟨(by omega), (by exact take_step a b 0 i (by omega) (by omega) (by assumption) (by assumption))⟩ (by show (a.length - (i + 1)) < (a.length - i); omega)))
    · exact R.go 5 (R.retE (.bool true) (by kernel_rfl) (by kernel_rfl) (by first | (first | (rw [dF (fun h => by subst h; omega)]) | (rw [dT (take_all (i := i) (by omega) (by omega) (by assumption))])) | (exfalso; omega)))

theorem eqNode_c (a1 : Int) (a2 : Int) (b1 : Int) (b2 : Int) : CallA Tryz.prog 76 [.agg [AI a1, AI a2], .agg [AI b1, AI b2]] (.bool (decide (a1 = b1 ∧ a2 = b2))) := by
  refine CallA.of Tryz.func76 rfl (by kernel_rfl) ?_
  refine R.go 15 (R.condN (a1 = b1) (by kernel_rfl) (fun c1 => ?_) (fun c1 => ?_))
  · exact R.go 4 (R.retE (.bool false) (by kernel_rfl) (by kernel_rfl) (by first | (simp [*]) | (exfalso; omega)))
  · refine R.go 10 (R.condN (a2 = b2) (by kernel_rfl) (fun c2 => ?_) (fun c2 => ?_))
    · exact R.go 4 (R.retE (.bool false) (by kernel_rfl) (by kernel_rfl) (by first | (simp [*]) | (exfalso; omega)))
    · exact R.go 5 (R.retE (.bool true) (by kernel_rfl) (by kernel_rfl) (by first | (simp [*]) | (exfalso; omega)))

theorem eqNodeS_c (a : List (Int × Int)) (b : List (Int × Int)) (la : a.length ≤ 1000000000) : CallA Tryz.prog 33 [LN a, LN b] (.bool (decide (a = b))) := by
  refine CallA.of Tryz.func33 rfl (by kernel_rfl) ?_
  refine R.go 13 (R.condN ((a.length : Int) = (b.length : Int)) (by kernel_rfl) (fun c1 => ?_) (fun c1 => ?_))
  · exact R.go 4 (R.retE (.bool false) (by kernel_rfl) (by kernel_rfl) (by first | (first | (rw [dF (fun h => by subst h; omega)]) | (rw [dT (take_all (i := i) (by omega) (by omega) (by assumption))])) | (exfalso; omega)))
  · refine R.go 7 (R.loop (fun (i : Nat) => (⟨(frm 27 [(0, LN a), (1, LN b), (5, AI (i : Int))]), []⟩ : St)) (fun (i : Nat) => (i ≤ a.length) ∧ (a.take i = b.take i)) (fun (i : Nat) => a.length - i) 0 [0, 1, 5] none (by kernel_rfl) (by kernel_rfl) (by kernel_rfl) ⟨(by omega), (by rfl)⟩ ?_)
    rintro i ⟨h4_1, h4_2⟩ R2 N3
    refine R.go 8 (R.cond ((i : Int) < (a.length : Int)) (by kernel_rfl) (fun c5 => ?_) (fun c5 => ?_))
    · refine R.go 7 (R.idx eN a (0, 0) i (i : Int) (by kernel_rfl) rfl eN_len (by omega) (by kernel_rfl) ?_)
      refine R.go 3 (R.idx eN b (0, 0) i (i : Int) (by kernel_rfl) rfl eN_len (by omega) (by kernel_rfl) ?_)
      refine R.go 1 (R.call true (eqNode_c ((a.getD i (0, 0)).1) ((a.getD i (0, 0)).2) ((b.getD i (0, 0)).1) ((b.getD i (0, 0)).2)) (by kernel_rfl) rfl (by kernel_rfl) ?_)
      refine R.go 2 (R.condN (((a.getD i (0, 0)).1) = ((b.getD i (0, 0)).1) ∧ ((a.getD i (0, 0)).2) = ((b.getD i (0, 0)).2)) (by kernel_rfl) (fun c6 => ?_) (fun c6 => ?_))
      · exact R.go 4 (R.retE (.bool false) (by kernel_rfl) (by kernel_rfl) (by first | (first | (rw [dF (fun h => by subst h; omega)]) | (rw [dT (take_all (i := i) (by omega) (by omega) (by assumption))])) | (exfalso; omega)))
      · refine R.go 4 (R.ar ((i : Int) + 1) (by kernel_rfl) (by omega) (by omega) (by kernel_rfl) ?_)
        exact R.go 2 (R.stop R2 (by kernel_rfl) (N3 (i + 1) [0, 1, 5] none _ (by kernel_rfl) (by kernel_rfl) ⟨(by omega), (by exact take_step a b (0, 0) i (by omega) (by omega) (by assumption) (Prod.ext (‹_ ∧ _›).1 (‹_ ∧ _›).2))⟩ (by show (a.length - (i + 1)) < (a.length - i); omega)))
    · exact R.go 5 (R.retE (.bool true) (by kernel_rfl) (by kernel_rfl) (by first | (first | (rw [dF (fun h => by subst h; omega)]) | (rw [dT (take_all (i := i) (by omega) (by omega) (by assumption))])) | (exfalso; omega)))

end Go.Proofs.YtfkdkhlimdkehaaGreat
