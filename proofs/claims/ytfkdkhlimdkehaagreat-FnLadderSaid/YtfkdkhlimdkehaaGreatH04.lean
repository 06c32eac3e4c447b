/- The harness: rows marked and held. -/
import Derived.Test.YtfkdkhlimdkehaaGreatH03
namespace Go.Proofs.YtfkdkhlimdkehaaGreat
open Go.RowKit Go.Abs

/-- k, k + 1, .. as marks. -/
def marks : Nat → Int → List (Int × Int)
  | 0, _ => []
  | n + 1, k => (k, k + 1) :: marks n (k + 2)
theorem marks_length (n : Nat) (k : Int) : (marks n k).length = n := by
  induction n generalizing k with
  | zero => rfl
  | succ n ih => simp [marks, ih]
theorem marks_get (n : Nat) (k : Int) (i : Nat) (h : i < n) : (marks n k).getD i (0, 0) = (k + 2 * i, k + 2 * i + 1) := by
  induction n generalizing k i with
  | zero => omega
  | succ n ih =>
    cases i with
    | zero => simp [marks]
    | succ i =>
      have := ih (k + 2) i (by omega)
      simp only [marks, List.getD_cons_succ, this]
      congr 1 <;> omega
theorem marks_snoc (n : Nat) (k : Int) : marks (n + 1) k = marks n k ++ [(k + 2 * n, k + 2 * n + 1)] := by
  induction n generalizing k with
  | zero => simp [marks]
  | succ n ih =>
    rw [marks, ih (k + 2), marks]
    simp only [List.cons_append]
    congr 3
    ext <;> simp <;> omega
/-- The first i of xs marked. -/
def markTo (xs : List (Int × Int)) (k : Int) (i : Nat) : List (Int × Int) := marks i k ++ xs.drop i
theorem markTo_length (xs : List (Int × Int)) (k : Int) (i : Nat) (h : i ≤ xs.length) : (markTo xs k i).length = xs.length := by
  simp [markTo, marks_length]; omega
theorem markTo_set (xs : List (Int × Int)) (k : Int) (i : Nat) (h : i < xs.length) (y : Int × Int) (v : Int × Int) (hv : v = (k + 2 * i, k + 2 * i + 1)) : ((markTo xs k i).set i y).set i v = markTo xs k (i + 1) := by
  subst hv
  rw [List.set_set, markTo, List.set_append_right _ _ (by rw [marks_length]; omega), marks_length, Nat.sub_self, List.drop_eq_getElem_cons h, List.set_cons_zero, markTo, marks_snoc]
  simp
theorem markTo_all (xs : List (Int × Int)) (k : Int) (n : Nat) (h : xs.length = n) : markTo xs k n = marks n k := by
  subst h
  simp [markTo]
theorem markTo_zero (xs : List (Int × Int)) (k : Int) : xs = markTo xs k 0 := by simp [markTo, marks]

theorem marks_ne (xs : List (Int × Int)) (k : Int) (i : Nat) (hi : i < xs.length) (hx : xs = marks xs.length k) : xs.getD i (0, 0) = (k + 2 * i, k + 2 * i + 1) := by
  have := marks_get xs.length k i hi
  rw [← hx] at this
  exact this
/-- k, k + 1, .. as a row of numbers; the first i of a row so marked. -/
def markC (n : Nat) (k : Int) : List Int := (List.range n).map fun j : Nat => k + (j : Int)
theorem markC_length (n : Nat) (k : Int) : (markC n k).length = n := by simp [markC]
def markI (xs : List Int) (k : Int) (i : Nat) : List Int := markC i k ++ xs.drop i
theorem markI_length (xs : List Int) (k : Int) (i : Nat) (h : i ≤ xs.length) : (markI xs k i).length = xs.length := by simp [markI, markC_length]; omega
theorem markI_set (xs : List Int) (k : Int) (i : Nat) (h : i < xs.length) (v : Int) (hv : v = k + i) : (markI xs k i).set i v = markI xs k (i + 1) := by
  subst hv
  rw [markI, List.set_append_right _ _ (by rw [markC_length]; omega), markC_length, Nat.sub_self, List.drop_eq_getElem_cons h, List.set_cons_zero, markI, markC, markC, List.range_succ, List.map_append]
  simp
theorem markI_all (xs : List Int) (k : Int) (n : Nat) (h : xs.length = n) : markI xs k n = markC n k := by
  subst h
  simp [markI]
theorem markI_zero (xs : List Int) (k : Int) : xs = markI xs k 0 := by simp [markI, markC]
theorem markC_get (n : Nat) (k : Int) (i : Nat) (h : i < n) : (markC n k).getD i 0 = k + i := by
  simp [markC, List.getD_eq_getElem?_getD, List.getElem?_range h]
theorem markC_ne (xs : List Int) (k : Int) (i : Nat) (hi : i < xs.length) (hx : xs = markC xs.length k) : xs.getD i 0 = k + i := by
  have := markC_get xs.length k i hi
  rw [← hx] at this
  exact this

theorem heldNodeS_c (xs : List (Int × Int)) (k : Int) (lx : xs.length ≤ 1000000000) (hk : 0 ≤ k ∧ k ≤ 1000000) (hx : xs = marks xs.length k) : CallA Tryz.prog 37 [LN xs, AI k] (AI (k + 2 * (xs.length : Int))) := by
  refine CallA.of Tryz.func37 rfl (by kernel_rfl) ?_
  refine R.go 10 (R.loop ((fun | (i, q) => (⟨(frm 31 [(0, LN xs), (1, AI q), (5, AI (i : Int))]), []⟩ : St) : Nat × Int → St)) (fun | (i, q) => (i ≤ xs.length) ∧ (q = k + 2 * (i : Int))) (fun | (i, q) => xs.length - i) (0, k) [0, 1, 5] none (by kernel_rfl) (by kernel_rfl) (by kernel_rfl) ⟨(by omega), (by simp)⟩ ?_)
  rintro ⟨i, q⟩ ⟨h4_1, rfl⟩ R1 N2
  refine R.go 8 (R.cond ((i : Int) < (xs.length : Int)) (by kernel_rfl) (fun c5 => ?_) (fun c5 => ?_))
  · have he : xs.getD i (0, 0) = (k + 2 * (i : Int), k + 2 * (i : Int) + 1) := marks_ne xs k i (by omega) hx
    have e1 : (xs.getD i (0, 0)).1 = k + 2 * (i : Int) := by rw [he]
    have e2 : (xs.getD i (0, 0)).2 = k + 2 * (i : Int) + 1 := by rw [he]
    refine R.go 8 (R.idx eN xs (0, 0) i (i : Int) (by kernel_rfl) rfl eN_len (by omega) (by kernel_rfl) ?_)
    refine R.go 5 (R.condN (((xs.getD i (0, 0)).1) = (k + 2 * (i : Int))) (by kernel_rfl) (fun c6 => ?_) (fun c6 => ?_))
    · exact R.go 4 (R.retE (AI (-1)) (by kernel_rfl) (by kernel_rfl) (by first | (rw [show i = xs.length by omega]) | (exfalso; omega)))
    · refine R.go 4 (R.ar ((k + 2 * (i : Int)) + 1) (by kernel_rfl) (by omega) (by omega) (by kernel_rfl) ?_)
      refine R.go 7 (R.idx eN xs (0, 0) i (i : Int) (by kernel_rfl) rfl eN_len (by omega) (by kernel_rfl) ?_)
      refine R.go 5 (R.condN (((xs.getD i (0, 0)).2) = ((k + 2 * (i : Int)) + 1)) (by kernel_rfl) (fun c7 => ?_) (fun c7 => ?_))
      · exact R.go 4 (R.retE (AI (-1)) (by kernel_rfl) (by kernel_rfl) (by first | (rw [show i = xs.length by omega]) | (exfalso; omega)))
      · refine R.go 3 (R.ar (((k + 2 * (i : Int)) + 1) + 1) (by kernel_rfl) (by omega) (by omega) (by kernel_rfl) ?_)
        refine R.go 5 (R.ar ((i : Int) + 1) (by kernel_rfl) (by omega) (by omega) (by kernel_rfl) ?_)
        exact R.go 2 (R.stop R1 (by kernel_rfl) (N2 (i + 1, ((k + 2 * (i : Int)) + 1) + 1) [0, 1, 5] none _ (by kernel_rfl) (by kernel_rfl) ⟨(by omega), (by omega)⟩ (by show (xs.length - (i + 1)) < (xs.length - i); omega)))
  · exact R.go 6 (R.retE (AI (k + 2 * (i : Int))) (by kernel_rfl) (by kernel_rfl) (by first | (rw [show i = xs.length by omega]) | (exfalso; omega)))

end Go.Proofs.YtfkdkhlimdkehaaGreat
