/- Numbers, masks, boxes. -/
import Derived.Test.YtbkfbpddeedgoaaProg
import Derived.Test.YtbkfbpddeedgoaaSymT
namespace Go.Proofs.Ytbkfbpddeedgoaa
open Go.RowKit Go.Abs

def inR (n lo hi : Int) : Bool := decide (lo ≤ n) && decide (n ≤ hi)

def boxB (xs : List Int) (m : Int) : Nat → Int
  | 0 => 0
  | i + 1 => if bnot (xs.getD i 0) m = 0 then bor (boxB xs m i) (shl64 1 i) else boxB xs m i

theorem inRange_c (n : Int) (lo : Int) (hi : Int) : CallA Try.prog 42 [AI n, AI lo, AI hi] (.bool (inR n lo hi)) := by
  refine CallA.of Try.func42 rfl (by kernel_rfl) ?_
  refine R.go 10 ?_
  by_cases c1 : lo ≤ n
  · refine R.want (decide (lo ≤ n)) true (by kernel_rfl) (dT c1) ?_
    refine R.go 1 (R.want (decide (lo ≤ n)) true (by kernel_rfl) (dT c1) ?_)
    refine R.go 1 (R.want (decide (lo ≤ n)) true (by kernel_rfl) (dT c1) ?_)
    refine R.go 1 (R.pick (decide (lo ≤ n)) true (by kernel_rfl) (dT c1) (by kernel_rfl) ?_)
    exact R.go 2 (R.retE (.bool (decide (n ≤ hi))) (by kernel_rfl) (by kernel_rfl) (by first | (simp [inR, *]) | (exfalso; omega)))
  · refine R.skp (decide (lo ≤ n)) true (by kernel_rfl) (dF c1) (by kernel_rfl) ?_
    refine R.skp (decide (lo ≤ n)) true (by kernel_rfl) (dF c1) (by kernel_rfl) ?_
    refine R.skp (decide (lo ≤ n)) true (by kernel_rfl) (dF c1) (by kernel_rfl) ?_
    refine R.pick (decide (lo ≤ n)) false (by kernel_rfl) (dF c1) (by kernel_rfl) ?_
    exact R.go 2 (R.retE (.bool false) (by kernel_rfl) (by kernel_rfl) (by first | (simp [inR, *]) | (exfalso; omega)))

theorem l01In_c (n : Int) (lo : Int) (hi : Int) : CallA Try.prog 40 [AI n, AI lo, AI hi] (.bool (inR n lo hi)) := by
  refine CallA.of Try.func40 rfl (by kernel_rfl) ?_
  refine R.go 10 ?_
  by_cases c1 : n ≥ lo
  · refine R.want (decide (n ≥ lo)) true (by kernel_rfl) (dT c1) ?_
    refine R.go 1 (R.want (decide (n ≥ lo)) true (by kernel_rfl) (dT c1) ?_)
    refine R.go 1 (R.want (decide (n ≥ lo)) true (by kernel_rfl) (dT c1) ?_)
    refine R.go 1 (R.pick (decide (n ≥ lo)) true (by kernel_rfl) (dT c1) (by kernel_rfl) ?_)
    exact R.go 2 (R.retE (.bool (decide (n ≤ hi))) (by kernel_rfl) (by kernel_rfl) (by first | (simp [inR, *]) | (exfalso; omega)))
  · refine R.skp (decide (n ≥ lo)) true (by kernel_rfl) (dF c1) (by kernel_rfl) ?_
    refine R.skp (decide (n ≥ lo)) true (by kernel_rfl) (dF c1) (by kernel_rfl) ?_
    refine R.skp (decide (n ≥ lo)) true (by kernel_rfl) (dF c1) (by kernel_rfl) ?_
    refine R.pick (decide (n ≥ lo)) false (by kernel_rfl) (dF c1) (by kernel_rfl) ?_
    exact R.go 2 (R.retE (.bool false) (by kernel_rfl) (by kernel_rfl) (by first | (simp [inR, *]) | (exfalso; omega)))

theorem within_c (a : Int) (b : Int) : CallA Try.prog 38 [AI a, AI b] (.bool (decide (bnot a b = 0))) := by
  refine CallA.of Try.func38 rfl (by kernel_rfl) ?_
  exact R.go 12 (R.retE (.bool (decide ((bnot a b) = 0))) (by kernel_rfl) (by kernel_rfl) (by first | (rfl) | (exfalso; omega)))

theorem box_c (xs : List Int) (m : Int) (hb : xs.length ≤ 60) : CallA Try.prog 81 [LI xs, AI m] (AI (boxB xs m xs.length)) := by
  refine CallA.of Try.func81 rfl (by kernel_rfl) ?_
  refine R.go 16 (R.loop ((fun | (i, r) => (⟨(frm 24 [(1, AI m), (5, AI r), (8, LI xs), (9, AI xs.length), (10, AI (i : Int))]), []⟩ : St) : Nat × Int → St)) (fun | (i, r) => (i ≤ xs.length) ∧ (r = boxB xs m i)) (fun | (i, r) => xs.length - i) (0, 0) [1, 5, 8, 9, 10] none (by kernel_rfl) (by kernel_rfl) (by kernel_rfl) ⟨(by omega), (by rfl)⟩ ?_)
  rintro ⟨i, r⟩ ⟨h4_1, rfl⟩ R1 N2
  refine R.go 5 (R.cond ((i : Int) < (xs.length : Int)) (by kernel_rfl) (fun c5 => ?_) (fun c5 => ?_))
  · refine R.go 6 (R.idx eI xs 0 i (i : Int) (by kernel_rfl) rfl eI_len (by omega) (by kernel_rfl) ?_)
    refine R.go 8 (R.call true (within_c (xs.getD i 0) m) (by kernel_rfl) rfl (by kernel_rfl) ?_)
    refine R.go 1 (R.cond (bnot (xs.getD i 0) m = 0) (by kernel_rfl) (fun c6 => ?_) (fun c6 => ?_))
    · refine R.go 3 (R.shl 1 (i : Int) (by kernel_rfl) (by omega) (by kernel_rfl) ?_)
      refine R.go 5 (R.ar ((i : Int) + 1) (by kernel_rfl) (by omega) (by omega) (by kernel_rfl) ?_)
      exact R.go 2 (R.stop R1 (by kernel_rfl) (N2 (i + 1, bor (boxB xs m i) (shl64 1 (i : Int))) [1, 5, 8, 9, 10] none _ (by kernel_rfl) (by kernel_rfl) ⟨(by omega), (by simp only [boxB]; split <;> first | rfl | contradiction)⟩ (by show (xs.length - (i + 1)) < (xs.length - i); omega)))
    · refine R.go 3 (R.ar ((i : Int) + 1) (by kernel_rfl) (by omega) (by omega) (by kernel_rfl) ?_)
      exact R.go 2 (R.stop R1 (by kernel_rfl) (N2 (i + 1, boxB xs m i) [1, 5, 8, 9, 10] none _ (by kernel_rfl) (by kernel_rfl) ⟨(by omega), (by simp only [boxB]; split <;> first | rfl | contradiction)⟩ (by show (xs.length - (i + 1)) < (xs.length - i); omega)))
  · exact R.go 6 (R.retE (AI (boxB xs m i)) (by kernel_rfl) (by kernel_rfl) (by first | (rw [show i = xs.length by omega]) | (exfalso; omega)))

end Go.Proofs.Ytbkfbpddeedgoaa
