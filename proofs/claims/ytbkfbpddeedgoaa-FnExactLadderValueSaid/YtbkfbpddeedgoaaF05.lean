/- The law of LadderValue. -/
import Derived.Test.YtbkfbpddeedgoaaF04
import Derived.Test.YtbkfbpddeedgoaaH02
namespace Go.Proofs.Ytbkfbpddeedgoaa
open Go.RowKit Go.Abs

theorem lawLV_in (a : List (Int × Int)) (hl : a.length ≤ 1048576) : CallA Try.prog 9 [LN a] (.bool true) := by
  refine CallA.of Try.func9 rfl (by kernel_rfl) ?_
  refine R.go 12 (R.call true (szNodeS_c a 1048576 (by omega) hl) (by kernel_rfl) rfl (by kernel_rfl) ?_)
  refine R.go 8 (R.cond (((1048576 : Int) - a.length) < 0) (by kernel_rfl) (fun c1 => ?_) (fun c1 => ?_))
  · exact R.go 4 (R.retE (.bool true) (by kernel_rfl) (by kernel_rfl) (by rfl))
  · refine R.go 4 (R.call true (toNodeS_c a hl).frz (by kernel_rfl) rfl (by kernel_rfl) ?_)
    refine R.call true (LV_spec a (by first | omega | (simp <;> omega))) (by kernel_rfl) rfl (by kernel_rfl) ?_
    refine R.go 9 (R.call true (toNodeS_c a hl).frz (by kernel_rfl) rfl (by kernel_rfl) ?_)
    refine R.go 5 (R.call true (LV_impl a (by first | omega | (simp <;> omega))) (by kernel_rfl) rfl (by kernel_rfl) ?_)
    refine R.go 13 (R.want (!decide ((lval a) = (lval a))) false (by kernel_rfl) (nF rfl) ?_)
    refine R.go 1 (R.want (!decide ((lval a) = (lval a))) false (by kernel_rfl) (nF rfl) ?_)
    refine R.go 1 (R.want (!decide ((lval a) = (lval a))) false (by kernel_rfl) (nF rfl) ?_)
    refine R.go 1 (R.pick (!decide ((lval a) = (lval a))) false (by kernel_rfl) (nF rfl) (by kernel_rfl) ?_)
    refine R.go 1 (R.els (!decide ((lcode a) = (lcode a))) (by kernel_rfl) (nF rfl) ?_)
    refine R.go 6 (R.call true (toNodeS_c a hl).frz (by kernel_rfl) rfl (by kernel_rfl) ?_)
    refine R.call true (eqNodeS_c a a (by first | omega | (simp <;> omega))) (by kernel_rfl) rfl (by kernel_rfl) ?_
    refine R.go 2 (R.els (!decide (a = a)) (by kernel_rfl) (nF rfl) ?_)
    exact R.go 5 (R.retE (.bool true) (by kernel_rfl) (by kernel_rfl) (by rfl))

theorem lawLV_out (a : List (Int × Int)) (hx : 1048576 < a.length) (hl : a.length ≤ 9223372036854775807) : CallA Try.prog 9 [LN a] (.bool true) := by
  refine CallA.of Try.func9 rfl (by kernel_rfl) ?_
  refine R.go 12 (R.call true (szNodeS_no a 1048576 (by omega) hx hl) (by kernel_rfl) rfl (by kernel_rfl) ?_)
  exact R.go 13 (R.retE (.bool true) (by kernel_rfl) (by kernel_rfl) (by rfl))

theorem lawLV (a : List (Int × Int)) (hl : a.length ≤ maxLen) : CallA Try.prog 9 [LN a] (.bool true) := by
  have hm : maxLen ≤ 9223372036854775807 := by decide
  rcases Nat.lt_or_ge 1048576 a.length with h | h
  · exact lawLV_out a h (by omega)
  · exact lawLV_in a h

end Go.Proofs.Ytbkfbpddeedgoaa
