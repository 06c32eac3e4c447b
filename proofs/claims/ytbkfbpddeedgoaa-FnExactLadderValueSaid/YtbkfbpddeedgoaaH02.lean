/- The harness on nodes: compared, marked, held. -/
import Derived.Test.YtbkfbpddeedgoaaS20
namespace Go.Proofs.Ytbkfbpddeedgoaa
open Go.RowKit Go.Abs

theorem marks_ne (xs : List (Int × Int)) (k : Int) (i : Nat) (hi : i < xs.length) (hx : xs = marks xs.length k) : xs.getD i (0, 0) = (k + 2 * i, k + 2 * i + 1) := by
  have := marks_get xs.length k i hi
  rw [← hx] at this
  exact this

theorem eqNode_c (a1 : Int) (a2 : Int) (b1 : Int) (b2 : Int) : CallA Try.prog 49 [.agg [AI a1, AI a2], .agg [AI b1, AI b2]] (.bool (decide (a1 = b1 ∧ a2 = b2))) := by
  refine CallA.of Try.func49 rfl (by kernel_rfl) ?_
  refine R.go 15 (R.condN (a1 = b1) (by kernel_rfl) (fun c1 => ?_) (fun c1 => ?_))
  · exact R.go 4 (R.retE (.bool false) (by kernel_rfl) (by kernel_rfl) (by first | (simp [*]) | (exfalso; omega)))
  · refine R.go 10 (R.condN (a2 = b2) (by kernel_rfl) (fun c2 => ?_) (fun c2 => ?_))
    · exact R.go 4 (R.retE (.bool false) (by kernel_rfl) (by kernel_rfl) (by first | (simp [*]) | (exfalso; omega)))
    · exact R.go 5 (R.retE (.bool true) (by kernel_rfl) (by kernel_rfl) (by first | (simp [*]) | (exfalso; omega)))

theorem eqNodeS_c (a : List (Int × Int)) (b : List (Int × Int)) (la : a.length ≤ 1000000000) : CallA Try.prog 19 [LN a, LN b] (.bool (decide (a = b))) := by
  refine CallA.of Try.func19 rfl (by kernel_rfl) ?_
  refine R.go 13 (R.condN ((a.length : Int) = (b.length : Int)) (by kernel_rfl) (fun c1 => ?_) (fun c1 => ?_))
  · exact R.go 4 (R.retE (.bool false) (by kernel_rfl) (by kernel_rfl) (by first | (first | (rw [dF (fun h => by subst h; omega)]) | (rw [dT (take_all (i := i) (by omega) (by omega) (by assumption))])) | (exfalso; omega)))
  · refine R.go 7 (R.loop (fun (i : Nat) => (⟨(frm 27 [(0, LN a), (1, LN b), (5, AI (i : Int))]), []⟩ : St)) (fun (i : Nat) => (i ≤ a.length) ∧ (a.take i = b.take i)) (fun (i : Nat) => a.length - i) 0 [0, 1, 5] none (by kernel_rfl) (by kernel_rfl) (by kernel_rfl) ⟨(by omega), (by rfl)⟩ ?_)
    rintro i ⟨h4_1, h4_2⟩ R2 N3
    refine R.go 8 (R.cond ((i : Int) < (a.length : Int)) (by kernel_rfl) (fun c5 => ?_) (fun c5 => ?_))
    · refine R.go 7 (R.idx eN a (0, 0) i (i : Int) (by kernel_rfl) rfl eN_len (by omega) (by kernel_rfl) ?_)
      refine R.go 3 (R.idx eN b (0, 0) i (i : Int) (by kernel_rfl) rfl eN_len (by omega) (by kernel_rfl) ?_)
      refine R.go 1 (R.call true (eqNode_c ((a.getD i (0, 0)).1) ((a.getD i (0, 0)).2) ((b.getD i (0, 0)).1) ((b.getD i (0, 0)).2)) (by kernel_rfl) rfl (by kernel_rfl) ?_)
      refine R.go 2 (R.condN (((a.getD i (0, 0)).1) = ((b.getD i (0, 0)).1) ∧ ((a.getD i (0, 0)).2) = ((b.getD i (0, 0)).2)) (by kernel_rfl) (fun c6 => ?_) (fun c6 => ?_))
      · exact R.go 4 (R.retE (.bool false) (by kernel_rfl) (by kernel_rfl) (by first | (first | (rw [dF (fun h => by subst h; omega)]) | (rw [dT (take_all (i := i) (by omega) (by omega) (by assumption))])) | (exfalso; omega)))
      · refine R.go 4 (R.ar ((i : Int) + 1) (by kernel_rfl) (by omega) (by omega) (by kernel_rfl) ?_)
        exact R.go 2 (R.stop R2 (by kernel_rfl) (N3 (i + 1) [0, 1, 5] none _ (by kernel_rfl) (by kernel_rfl) ⟨(by omega), (by exact take_step a b (0, 0) i (by omega) (by omega) (by assumption) (Prod.ext (‹_ ∧ _›).1 (‹_ ∧ _›).2))⟩ (by show (a.length - (i + 1)) < (a.length - i); omega)))
    · exact R.go 5 (R.retE (.bool true) (by kernel_rfl) (by kernel_rfl) (by first | (first | (rw [dF (fun h => by subst h; omega)]) | (rw [dT (take_all (i := i) (by omega) (by omega) (by assumption))])) | (exfalso; omega)))

theorem eqNodeS_nil : CallA Try.prog 19 [.nil, .nil] (.bool true) := by
  refine CallA.of Try.func19 rfl (by kernel_rfl) ?_
  refine R.go 21 (R.loop (fun (i : Nat) => (⟨(frm 27 [(0, .nil), (1, .nil), (5, AI (i : Int))]), []⟩ : St)) (fun (i : Nat) => i ≤ 0) (fun (i : Nat) => 0) 0 [0, 1, 5] none (by kernel_rfl) (by kernel_rfl) (by kernel_rfl) (by omega) ?_)
  rintro i h3_1 R1 N2
  refine R.go 8 (R.cond ((i : Int) < 0) (by kernel_rfl) (fun c4 => ?_) (fun c4 => ?_))
  · exfalso; omega -- indexAddr .nil AI (i : Int)
  · exact R.go 5 (R.retE (.bool true) (by kernel_rfl) (by kernel_rfl) (by rfl))

theorem markNodeS_nil (k : Int) : CallA Try.prog 20 [.nil, AI k] (AI k) := by
  refine CallA.of Try.func20 rfl (by kernel_rfl) ?_
  refine R.go 10 (R.loop (fun (i : Nat) => (⟨(frm 27 [(0, .nil), (1, AI k), (5, AI (i : Int))]), []⟩ : St)) (fun (i : Nat) => i ≤ 0) (fun (i : Nat) => 0) 0 [0, 1, 5] none (by kernel_rfl) (by kernel_rfl) (by kernel_rfl) (by omega) ?_)
  rintro i h3_1 R1 N2
  refine R.go 8 (R.cond ((i : Int) < 0) (by kernel_rfl) (fun c4 => ?_) (fun c4 => ?_))
  · exfalso; omega -- indexAddr .nil AI (i : Int)
  · exact R.go 6 (R.retE (AI k) (by kernel_rfl) (by kernel_rfl) (by rfl))

theorem heldNodeS_nil (k : Int) : CallA Try.prog 21 [.nil, AI k] (AI k) := by
  refine CallA.of Try.func21 rfl (by kernel_rfl) ?_
  refine R.go 10 (R.loop (fun (i : Nat) => (⟨(frm 31 [(0, .nil), (1, AI k), (5, AI (i : Int))]), []⟩ : St)) (fun (i : Nat) => i ≤ 0) (fun (i : Nat) => 0) 0 [0, 1, 5] none (by kernel_rfl) (by kernel_rfl) (by kernel_rfl) (by omega) ?_)
  rintro i h3_1 R1 N2
  refine R.go 8 (R.cond ((i : Int) < 0) (by kernel_rfl) (fun c4 => ?_) (fun c4 => ?_))
  · exfalso; omega -- indexAddr .nil AI (i : Int)
  · exact R.go 6 (R.retE (AI k) (by kernel_rfl) (by kernel_rfl) (by rfl))

theorem heldNodeS_c (xs : List (Int × Int)) (k : Int) (lx : xs.length ≤ 1000000000) (hk : 0 ≤ k ∧ k ≤ 1000000) (hx : xs = marks xs.length k) : CallA Try.prog 21 [LN xs, AI k] (AI (k + 2 * (xs.length : Int))) := by
  refine CallA.of Try.func21 rfl (by kernel_rfl) ?_
  refine R.go 10 (R.loop ((fun | (i, q) => (⟨(frm 31 [(0, LN xs), (1, AI q), (5, AI (i : Int))]), []⟩ : St) : Nat × Int → St)) (fun | (i, q) => (i ≤ xs.length) ∧ (q = k + 2 * (i : Int))) (fun | (i, q) => xs.length - i) (0, k) [0, 1, 5] none (by kernel_rfl) (by kernel_rfl) (by kernel_rfl) ⟨(by omega), (by simp)⟩ ?_)
  rintro ⟨i, q⟩ ⟨h4_1, rfl⟩ R1 N2
  refine R.go 8 (R.cond ((i : Int) < (xs.length : Int)) (by kernel_rfl) (fun c5 => ?_) (fun c5 => ?_))
  · have he : xs.getD i (0, 0) = (k + 2 * (i : Int), k + 2 * (i : Int) + 1) := marks_ne xs k i (by omega) hx
    have e1 : (xs.getD i (0, 0)).1 = k + 2 * (i : Int) := by rw [he]
    have e2 : (xs.getD i (0, 0)).2 = k + 2 * (i : Int) + 1 := by rw [he]
    refine R.go 8 (R.idx eN xs (0, 0) i (i : Int) (by kernel_rfl) rfl eN_len (by omega) (by kernel_rfl) ?_)
    refine R.go 5 (R.condN (((xs.getD i (0, 0)).1) = (k + 2 * (i : Int))) (by kernel_rfl) (fun c6 => ?_) (fun c6 => ?_))
    · exact R.go 4 (R.retE (AI (-1)) (by kernel_rfl) (by kernel_rfl) (by first | (rw [show i = xs.length by omega]) | (exfalso; omega)))
    · refine R.go 4 (R.ar ((k + 2 * (i : Int)) + 1) (by kernel_rfl) (by omega) (by omega) (by kernel_rfl) ?_)
      refine R.go 7 (R.idx eN xs (0, 0) i (i : Int) (by kernel_rfl) rfl eN_len (by omega) (by kernel_rfl) ?_)
      refine R.go 5 (R.condN (((xs.getD i (0, 0)).2) = ((k + 2 * (i : Int)) + 1)) (by kernel_rfl) (fun c7 => ?_) (fun c7 => ?_))
      · exact R.go 4 (R.retE (AI (-1)) (by kernel_rfl) (by kernel_rfl) (by first | (rw [show i = xs.length by omega]) | (exfalso; omega)))
      · refine R.go 3 (R.ar (((k + 2 * (i : Int)) + 1) + 1) (by kernel_rfl) (by omega) (by omega) (by kernel_rfl) ?_)
        refine R.go 5 (R.ar ((i : Int) + 1) (by kernel_rfl) (by omega) (by omega) (by kernel_rfl) ?_)
        exact R.go 2 (R.stop R1 (by kernel_rfl) (N2 (i + 1, ((k + 2 * (i : Int)) + 1) + 1) [0, 1, 5] none _ (by kernel_rfl) (by kernel_rfl) ⟨(by omega), (by omega)⟩ (by show (xs.length - (i + 1)) < (xs.length - i); omega)))
  · exact R.go 6 (R.retE (AI (k + 2 * (i : Int))) (by kernel_rfl) (by kernel_rfl) (by first | (rw [show i = xs.length by omega]) | (exfalso; omega)))

end Go.Proofs.Ytbkfbpddeedgoaa
