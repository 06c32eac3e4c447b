/- Laws: IsValidOn, RefutingWorlds. -/
import Derived.Test.YtkmjijomengoiaaQ09
namespace Go.Proofs.Ytkmjijomengoiaa
open Go.RowKit Go.Abs

theorem lawIsValidOn_in (n : Int) (xs : List Int) (a : List (Int × Int)) (hl : xs.length + a.length ≤ 1048576) : CallA Try.prog 9 [.agg [AI n, LI xs], LN a] (.bool true) := by
  refine CallA.of Try.func9 rfl (by kernel_rfl) ?_
  refine R.go 13 (R.call true (szFrame_c n xs 1048576 (by omega) (by first | omega | (simp <;> omega))) (by kernel_rfl) rfl (by kernel_rfl) ?_)
  refine R.go 8 (R.cond (((1048576 : Int) - xs.length) < 0) (by kernel_rfl) (fun c1 => ?_) (fun c1 => ?_))
  · exact R.go 4 (R.retE (.bool true) (by kernel_rfl) (by kernel_rfl) (by rfl))
  · refine R.go 5 (R.call true (szNodeS_c a ((1048576 : Int) - xs.length) (by first | omega | (simp <;> omega)) (by first | omega | (simp <;> omega))) (by kernel_rfl) rfl (by kernel_rfl) ?_)
    refine R.go 8 (R.cond (((((1048576 : Int) - xs.length) : Int) - a.length) < 0) (by kernel_rfl) (fun c2 => ?_) (fun c2 => ?_))
    · exact R.go 4 (R.retE (.bool true) (by kernel_rfl) (by kernel_rfl) (by rfl))
    · refine R.go 4 (R.call true (toFrame_c n xs (by first | omega | (simp <;> omega))).frz (by kernel_rfl) rfl (by kernel_rfl) ?_)
      refine R.go 1 (R.call true (toNodeS_c a (by first | omega | (simp <;> omega))).frz (by kernel_rfl) rfl (by kernel_rfl) ?_)
      refine R.call true (VO_spec n xs a (by first | omega | (simp <;> omega)) (by first | omega | (simp <;> omega))) (by kernel_rfl) rfl (by kernel_rfl) ?_
      refine R.go 9 (R.call true (toFrame_c n xs (by first | omega | (simp <;> omega))).frz (by kernel_rfl) rfl (by kernel_rfl) ?_)
      refine R.go 6 (R.call true (toNodeS_c a (by first | omega | (simp <;> omega))).frz (by kernel_rfl) rfl (by kernel_rfl) ?_)
      refine R.go 6 (R.call true (VO_impl n xs a (by first | omega | (simp <;> omega)) (by first | omega | (simp <;> omega))) (by kernel_rfl) rfl (by kernel_rfl) ?_)
      refine R.go 13 (R.want (!((vdB n xs a) == (vdB n xs a))) false (by kernel_rfl) (bnF (beq_self_eq_true _)) ?_)
      refine R.go 1 (R.want (!((vdB n xs a) == (vdB n xs a))) false (by kernel_rfl) (bnF (beq_self_eq_true _)) ?_)
      refine R.go 1 (R.want (!((vdB n xs a) == (vdB n xs a))) false (by kernel_rfl) (bnF (beq_self_eq_true _)) ?_)
      refine R.go 1 (R.pick (!((vdB n xs a) == (vdB n xs a))) false (by kernel_rfl) (bnF (beq_self_eq_true _)) (by kernel_rfl) ?_)
      refine R.go 1 (R.els (!decide ((scode n xs [a]) = (scode n xs [a]))) (by kernel_rfl) (nF rfl) ?_)
      refine R.go 6 (R.call true (toFrame_c n xs (by first | omega | (simp <;> omega))).frz (by kernel_rfl) rfl (by kernel_rfl) ?_)
      refine R.call true (eqFrame_c n xs (by first | omega | (simp <;> omega))) (by kernel_rfl) rfl (by kernel_rfl) ?_
      refine R.go 9 (R.call true (toNodeS_c a (by first | omega | (simp <;> omega))).frz (by kernel_rfl) rfl (by kernel_rfl) ?_)
      refine R.call true (eqNodeS_c a a (by first | omega | (simp <;> omega))) (by kernel_rfl) rfl (by kernel_rfl) ?_
      refine R.go 2 (R.els (!decide (a = a)) (by kernel_rfl) (nF rfl) ?_)
      exact R.go 5 (R.retE (.bool true) (by kernel_rfl) (by kernel_rfl) (by rfl))

theorem lawIsValidOn_1 (n : Int) (xs : List Int) (a : List (Int × Int)) (hx : 1048576 < xs.length) (hb : xs.length ≤ 9223372036854775807) : CallA Try.prog 9 [.agg [AI n, LI xs], LN a] (.bool true) := by
  refine CallA.of Try.func9 rfl (by kernel_rfl) ?_
  refine R.go 13 (R.call true (szFrame_no n xs 1048576 (by omega) (by first | omega | (simp <;> omega)) hb) (by kernel_rfl) rfl (by kernel_rfl) ?_)
  exact R.go 13 (R.retE (.bool true) (by kernel_rfl) (by kernel_rfl) (by rfl))

theorem lawIsValidOn_2 (n : Int) (xs : List Int) (a : List (Int × Int)) (hy : xs.length ≤ 1048576) (hx : 1048576 < xs.length + a.length) (hb : a.length ≤ 9223372036854775807) : CallA Try.prog 9 [.agg [AI n, LI xs], LN a] (.bool true) := by
  refine CallA.of Try.func9 rfl (by kernel_rfl) ?_
  refine R.go 13 (R.call true (szFrame_c n xs 1048576 (by omega) (by first | omega | (simp <;> omega))) (by kernel_rfl) rfl (by kernel_rfl) ?_)
  refine R.go 8 (R.cond (((1048576 : Int) - xs.length) < 0) (by kernel_rfl) (fun c1 => ?_) (fun c1 => ?_))
  · exact R.go 4 (R.retE (.bool true) (by kernel_rfl) (by kernel_rfl) (by rfl))
  · refine R.go 5 (R.call true (szNodeS_no a ((1048576 : Int) - xs.length) (by first | omega | (simp <;> omega)) (by first | omega | (simp <;> omega)) hb) (by kernel_rfl) rfl (by kernel_rfl) ?_)
    exact R.go 13 (R.retE (.bool true) (by kernel_rfl) (by kernel_rfl) (by rfl))

theorem lawIsValidOn (n : Int) (xs : List Int) (m0 : xs.length ≤ maxLen) (a : List (Int × Int)) (m1 : a.length ≤ maxLen) : CallA Try.prog 9 [.agg [AI n, LI xs], LN a] (.bool true) := by
  have hm : maxLen ≤ 9223372036854775807 := by decide
  rcases Nat.lt_or_ge 1048576 (xs.length) with h0 | h0
  · exact lawIsValidOn_1 n xs a h0 (by omega)
  rcases Nat.lt_or_ge 1048576 (xs.length + a.length) with h1 | h1
  · exact lawIsValidOn_2 n xs a h0 h1 (by omega)
  exact lawIsValidOn_in n xs a h1

theorem lawRefutingWorlds_in (n : Int) (xs : List Int) (a : List (Int × Int)) (hl : xs.length + a.length ≤ 1048576) : CallA Try.prog 8 [.agg [AI n, LI xs], LN a] (.bool true) := by
  refine CallA.of Try.func8 rfl (by kernel_rfl) ?_
  refine R.go 13 (R.call true (szFrame_c n xs 1048576 (by omega) (by first | omega | (simp <;> omega))) (by kernel_rfl) rfl (by kernel_rfl) ?_)
  refine R.go 8 (R.cond (((1048576 : Int) - xs.length) < 0) (by kernel_rfl) (fun c1 => ?_) (fun c1 => ?_))
  · exact R.go 4 (R.retE (.bool true) (by kernel_rfl) (by kernel_rfl) (by rfl))
  · refine R.go 5 (R.call true (szNodeS_c a ((1048576 : Int) - xs.length) (by first | omega | (simp <;> omega)) (by first | omega | (simp <;> omega))) (by kernel_rfl) rfl (by kernel_rfl) ?_)
    refine R.go 8 (R.cond (((((1048576 : Int) - xs.length) : Int) - a.length) < 0) (by kernel_rfl) (fun c2 => ?_) (fun c2 => ?_))
    · exact R.go 4 (R.retE (.bool true) (by kernel_rfl) (by kernel_rfl) (by rfl))
    · refine R.go 4 (R.call true (toFrame_c n xs (by first | omega | (simp <;> omega))).frz (by kernel_rfl) rfl (by kernel_rfl) ?_)
      refine R.go 1 (R.call true (toNodeS_c a (by first | omega | (simp <;> omega))).frz (by kernel_rfl) rfl (by kernel_rfl) ?_)
      refine R.call true (RW_spec n xs a (by first | omega | (simp <;> omega)) (by first | omega | (simp <;> omega))) (by kernel_rfl) rfl (by kernel_rfl) ?_
      refine R.go 9 (R.call true (toFrame_c n xs (by first | omega | (simp <;> omega))).frz (by kernel_rfl) rfl (by kernel_rfl) ?_)
      refine R.go 6 (R.call true (toNodeS_c a (by first | omega | (simp <;> omega))).frz (by kernel_rfl) rfl (by kernel_rfl) ?_)
      refine R.go 6 (R.call true (RW_impl n xs a (by first | omega | (simp <;> omega)) (by first | omega | (simp <;> omega))) (by kernel_rfl) rfl (by kernel_rfl) ?_)
      refine R.go 13 (R.want (!decide ((rwV n xs a) = (rwV n xs a))) false (by kernel_rfl) (nF rfl) ?_)
      refine R.go 1 (R.want (!decide ((rwV n xs a) = (rwV n xs a))) false (by kernel_rfl) (nF rfl) ?_)
      refine R.go 1 (R.want (!decide ((rwV n xs a) = (rwV n xs a))) false (by kernel_rfl) (nF rfl) ?_)
      refine R.go 1 (R.pick (!decide ((rwV n xs a) = (rwV n xs a))) false (by kernel_rfl) (nF rfl) (by kernel_rfl) ?_)
      refine R.go 1 (R.els (!decide ((scode n xs [a]) = (scode n xs [a]))) (by kernel_rfl) (nF rfl) ?_)
      refine R.go 6 (R.call true (toFrame_c n xs (by first | omega | (simp <;> omega))).frz (by kernel_rfl) rfl (by kernel_rfl) ?_)
      refine R.call true (eqFrame_c n xs (by first | omega | (simp <;> omega))) (by kernel_rfl) rfl (by kernel_rfl) ?_
      refine R.go 9 (R.call true (toNodeS_c a (by first | omega | (simp <;> omega))).frz (by kernel_rfl) rfl (by kernel_rfl) ?_)
      refine R.call true (eqNodeS_c a a (by first | omega | (simp <;> omega))) (by kernel_rfl) rfl (by kernel_rfl) ?_
      refine R.go 2 (R.els (!decide (a = a)) (by kernel_rfl) (nF rfl) ?_)
      exact R.go 5 (R.retE (.bool true) (by kernel_rfl) (by kernel_rfl) (by rfl))

theorem lawRefutingWorlds_1 (n : Int) (xs : List Int) (a : List (Int × Int)) (hx : 1048576 < xs.length) (hb : xs.length ≤ 9223372036854775807) : CallA Try.prog 8 [.agg [AI n, LI xs], LN a] (.bool true) := by
  refine CallA.of Try.func8 rfl (by kernel_rfl) ?_
  refine R.go 13 (R.call true (szFrame_no n xs 1048576 (by omega) (by first | omega | (simp <;> omega)) hb) (by kernel_rfl) rfl (by kernel_rfl) ?_)
  exact R.go 13 (R.retE (.bool true) (by kernel_rfl) (by kernel_rfl) (by rfl))

theorem lawRefutingWorlds_2 (n : Int) (xs : List Int) (a : List (Int × Int)) (hy : xs.length ≤ 1048576) (hx : 1048576 < xs.length + a.length) (hb : a.length ≤ 9223372036854775807) : CallA Try.prog 8 [.agg [AI n, LI xs], LN a] (.bool true) := by
  refine CallA.of Try.func8 rfl (by kernel_rfl) ?_
  refine R.go 13 (R.call true (szFrame_c n xs 1048576 (by omega) (by first | omega | (simp <;> omega))) (by kernel_rfl) rfl (by kernel_rfl) ?_)
  refine R.go 8 (R.cond (((1048576 : Int) - xs.length) < 0) (by kernel_rfl) (fun c1 => ?_) (fun c1 => ?_))
  · exact R.go 4 (R.retE (.bool true) (by kernel_rfl) (by kernel_rfl) (by rfl))
  · refine R.go 5 (R.call true (szNodeS_no a ((1048576 : Int) - xs.length) (by first | omega | (simp <;> omega)) (by first | omega | (simp <;> omega)) hb) (by kernel_rfl) rfl (by kernel_rfl) ?_)
    exact R.go 13 (R.retE (.bool true) (by kernel_rfl) (by kernel_rfl) (by rfl))

theorem lawRefutingWorlds (n : Int) (xs : List Int) (m0 : xs.length ≤ maxLen) (a : List (Int × Int)) (m1 : a.length ≤ maxLen) : CallA Try.prog 8 [.agg [AI n, LI xs], LN a] (.bool true) := by
  have hm : maxLen ≤ 9223372036854775807 := by decide
  rcases Nat.lt_or_ge 1048576 (xs.length) with h0 | h0
  · exact lawRefutingWorlds_1 n xs a h0 (by omega)
  rcases Nat.lt_or_ge 1048576 (xs.length + a.length) with h1 | h1
  · exact lawRefutingWorlds_2 n xs a h0 h1 (by omega)
  exact lawRefutingWorlds_in n xs a h1

end Go.Proofs.Ytkmjijomengoiaa
