/- Laws: IsLocalConsequence, IsGlobalConsequence. -/
import Derived.Test.YtkmjijomengoiaaQ12
namespace Go.Proofs.Ytkmjijomengoiaa
open Go.RowKit Go.Abs

theorem lawIsLocalConsequence_in (n : Int) (xs : List Int) (l : List (List (Int × Int))) (a : List (Int × Int)) (hl : xs.length + (l.length + sumL l) + a.length ≤ 1048576) : CallA Try.prog 11 [.agg [AI n, LI xs], LLN l, LN a] (.bool true) := by
  have hv1l : ∀ j : Nat, j < l.length → (l.getD j []).length ≤ 1048576 := fun j hj => by have := sumL_get l j hj; omega
  have hv2l : ∀ j : Nat, j < l.length → (l.getD j []).length ≤ 1000000000 := fun j hj => by have := hv1l j hj; omega
  have hv3l : lim l := ⟨by omega, hv1l⟩
  refine CallA.of Try.func11 rfl (by kernel_rfl) ?_
  refine R.go 13 (R.call true (szFrame_c n xs 1048576 (by omega) (by first | omega | (simp <;> omega))) (by kernel_rfl) rfl (by kernel_rfl) ?_)
  refine R.go 8 (R.cond (((1048576 : Int) - xs.length) < 0) (by kernel_rfl) (fun c1 => ?_) (fun c1 => ?_))
  · exact R.go 4 (R.retE (.bool true) (by kernel_rfl) (by kernel_rfl) (by rfl))
  · refine R.go 5 (R.call true (szNodeSS_c l ((1048576 : Int) - xs.length) (by first | omega | (simp <;> omega)) (by first | omega | (simp <;> omega))) (by kernel_rfl) rfl (by kernel_rfl) ?_)
    refine R.go 8 (R.cond (((((1048576 : Int) - xs.length) : Int) - l.length - sumL l) < 0) (by kernel_rfl) (fun c2 => ?_) (fun c2 => ?_))
    · exact R.go 4 (R.retE (.bool true) (by kernel_rfl) (by kernel_rfl) (by rfl))
    · refine R.go 5 (R.call true (szNodeS_c a ((((1048576 : Int) - xs.length) : Int) - l.length - sumL l) (by first | omega | (simp <;> omega)) (by first | omega | (simp <;> omega))) (by kernel_rfl) rfl (by kernel_rfl) ?_)
      refine R.go 8 (R.cond (((((((1048576 : Int) - xs.length) : Int) - l.length - sumL l) : Int) - a.length) < 0) (by kernel_rfl) (fun c3 => ?_) (fun c3 => ?_))
      · exact R.go 4 (R.retE (.bool true) (by kernel_rfl) (by kernel_rfl) (by rfl))
      · refine R.go 4 (R.call true (toFrame_c n xs (by first | omega | (simp <;> omega))).frz (by kernel_rfl) rfl (by kernel_rfl) ?_)
        refine R.go 1 (R.call true (toNodeSS_c l (by first | omega | (simp <;> omega)) hv1l).frz (by kernel_rfl) rfl (by kernel_rfl) ?_)
        refine R.go 1 (R.call true (toNodeS_c a (by first | omega | (simp <;> omega))).frz (by kernel_rfl) rfl (by kernel_rfl) ?_)
        refine R.call true (specLocal_c n xs l a (by first | omega | (simp <;> omega)) hv3l (by first | omega | (simp <;> omega))) (by kernel_rfl) rfl (by kernel_rfl) ?_
        refine R.go 9 (R.call true (toFrame_c n xs (by first | omega | (simp <;> omega))).frz (by kernel_rfl) rfl (by kernel_rfl) ?_)
        refine R.go 6 (R.call true (toNodeSS_c l (by first | omega | (simp <;> omega)) hv1l).frz (by kernel_rfl) rfl (by kernel_rfl) ?_)
        refine R.go 5 (R.call true (toNodeS_c a (by first | omega | (simp <;> omega))).frz (by kernel_rfl) rfl (by kernel_rfl) ?_)
        refine R.go 7 (R.call true (implLocal_c n xs l a (by first | omega | (simp <;> omega)) hv3l (by first | omega | (simp <;> omega))) (by kernel_rfl) rfl (by kernel_rfl) ?_)
        refine R.go 13 (R.want (!((csB false n xs l a) == (csB false n xs l a))) false (by kernel_rfl) (bnF (beq_self_eq_true _)) ?_)
        refine R.go 1 (R.want (!((csB false n xs l a) == (csB false n xs l a))) false (by kernel_rfl) (bnF (beq_self_eq_true _)) ?_)
        refine R.go 1 (R.want (!((csB false n xs l a) == (csB false n xs l a))) false (by kernel_rfl) (bnF (beq_self_eq_true _)) ?_)
        refine R.go 1 (R.pick (!((csB false n xs l a) == (csB false n xs l a))) false (by kernel_rfl) (bnF (beq_self_eq_true _)) (by kernel_rfl) ?_)
        refine R.go 1 (R.els (!decide ((scode n xs (l ++ [a])) = (scode n xs (l ++ [a])))) (by kernel_rfl) (nF rfl) ?_)
        refine R.go 6 (R.call true (toFrame_c n xs (by first | omega | (simp <;> omega))).frz (by kernel_rfl) rfl (by kernel_rfl) ?_)
        refine R.call true (eqFrame_c n xs (by first | omega | (simp <;> omega))) (by kernel_rfl) rfl (by kernel_rfl) ?_
        refine R.go 9 (R.call true (toNodeSS_c l (by first | omega | (simp <;> omega)) hv1l).frz (by kernel_rfl) rfl (by kernel_rfl) ?_)
        refine R.call true (eqNodeSS_c l l (by first | omega | (simp <;> omega)) hv2l) (by kernel_rfl) rfl (by kernel_rfl) ?_
        refine R.go 2 (R.els (!decide (l = l)) (by kernel_rfl) (nF rfl) ?_)
        refine R.go 6 (R.call true (toNodeS_c a (by first | omega | (simp <;> omega))).frz (by kernel_rfl) rfl (by kernel_rfl) ?_)
        refine R.call true (eqNodeS_c a a (by first | omega | (simp <;> omega))) (by kernel_rfl) rfl (by kernel_rfl) ?_
        refine R.go 2 (R.els (!decide (a = a)) (by kernel_rfl) (nF rfl) ?_)
        exact R.go 5 (R.retE (.bool true) (by kernel_rfl) (by kernel_rfl) (by rfl))

theorem lawIsLocalConsequence_1 (n : Int) (xs : List Int) (l : List (List (Int × Int))) (a : List (Int × Int)) (hx : 1048576 < xs.length) (hb : xs.length ≤ 9223372036854775807) : CallA Try.prog 11 [.agg [AI n, LI xs], LLN l, LN a] (.bool true) := by
  refine CallA.of Try.func11 rfl (by kernel_rfl) ?_
  refine R.go 13 (R.call true (szFrame_no n xs 1048576 (by omega) (by first | omega | (simp <;> omega)) hb) (by kernel_rfl) rfl (by kernel_rfl) ?_)
  exact R.go 13 (R.retE (.bool true) (by kernel_rfl) (by kernel_rfl) (by rfl))

theorem lawIsLocalConsequence_2 (n : Int) (xs : List Int) (l : List (List (Int × Int))) (a : List (Int × Int)) (hy : xs.length ≤ 1048576) (hx : 1048576 < xs.length + (l.length + sumL l)) (hb : l.length ≤ 9223372036854775807) (hb2 : ∀ j : Nat, j < l.length → (l.getD j []).length ≤ 9223372036854775807) : CallA Try.prog 11 [.agg [AI n, LI xs], LLN l, LN a] (.bool true) := by
  refine CallA.of Try.func11 rfl (by kernel_rfl) ?_
  refine R.go 13 (R.call true (szFrame_c n xs 1048576 (by omega) (by first | omega | (simp <;> omega))) (by kernel_rfl) rfl (by kernel_rfl) ?_)
  refine R.go 8 (R.cond (((1048576 : Int) - xs.length) < 0) (by kernel_rfl) (fun c1 => ?_) (fun c1 => ?_))
  · exact R.go 4 (R.retE (.bool true) (by kernel_rfl) (by kernel_rfl) (by rfl))
  · refine R.go 5 (R.call true (szNodeSS_no l ((1048576 : Int) - xs.length) (by first | omega | (simp <;> omega)) (by first | omega | (simp <;> omega)) hb hb2) (by kernel_rfl) rfl (by kernel_rfl) ?_)
    exact R.go 13 (R.retE (.bool true) (by kernel_rfl) (by kernel_rfl) (by rfl))

theorem lawIsLocalConsequence_3 (n : Int) (xs : List Int) (l : List (List (Int × Int))) (a : List (Int × Int)) (hy : xs.length + (l.length + sumL l) ≤ 1048576) (hx : 1048576 < xs.length + (l.length + sumL l) + a.length) (hb : a.length ≤ 9223372036854775807) : CallA Try.prog 11 [.agg [AI n, LI xs], LLN l, LN a] (.bool true) := by
  refine CallA.of Try.func11 rfl (by kernel_rfl) ?_
  refine R.go 13 (R.call true (szFrame_c n xs 1048576 (by omega) (by first | omega | (simp <;> omega))) (by kernel_rfl) rfl (by kernel_rfl) ?_)
  refine R.go 8 (R.cond (((1048576 : Int) - xs.length) < 0) (by kernel_rfl) (fun c1 => ?_) (fun c1 => ?_))
  · exact R.go 4 (R.retE (.bool true) (by kernel_rfl) (by kernel_rfl) (by rfl))
  · refine R.go 5 (R.call true (szNodeSS_c l ((1048576 : Int) - xs.length) (by first | omega | (simp <;> omega)) (by first | omega | (simp <;> omega))) (by kernel_rfl) rfl (by kernel_rfl) ?_)
    refine R.go 8 (R.cond (((((1048576 : Int) - xs.length) : Int) - l.length - sumL l) < 0) (by kernel_rfl) (fun c2 => ?_) (fun c2 => ?_))
    · exact R.go 4 (R.retE (.bool true) (by kernel_rfl) (by kernel_rfl) (by rfl))
    · refine R.go 5 (R.call true (szNodeS_no a ((((1048576 : Int) - xs.length) : Int) - l.length - sumL l) (by first | omega | (simp <;> omega)) (by first | omega | (simp <;> omega)) hb) (by kernel_rfl) rfl (by kernel_rfl) ?_)
      exact R.go 13 (R.retE (.bool true) (by kernel_rfl) (by kernel_rfl) (by rfl))

theorem lawIsLocalConsequence (n : Int) (xs : List Int) (m0 : xs.length ≤ maxLen) (l : List (List (Int × Int))) (m1 : l.length ≤ maxLen) (m1' : ∀ j : Nat, j < l.length → (l.getD j []).length ≤ maxLen) (a : List (Int × Int)) (m2 : a.length ≤ maxLen) : CallA Try.prog 11 [.agg [AI n, LI xs], LLN l, LN a] (.bool true) := by
  have hm : maxLen ≤ 9223372036854775807 := by decide
  rcases Nat.lt_or_ge 1048576 (xs.length) with h0 | h0
  · exact lawIsLocalConsequence_1 n xs l a h0 (by omega)
  rcases Nat.lt_or_ge 1048576 (xs.length + (l.length + sumL l)) with h1 | h1
  · exact lawIsLocalConsequence_2 n xs l a h0 h1 (by omega) (fun j hj => Nat.le_trans (m1' j hj) hm)
  rcases Nat.lt_or_ge 1048576 (xs.length + (l.length + sumL l) + a.length) with h2 | h2
  · exact lawIsLocalConsequence_3 n xs l a h1 h2 (by omega)
  exact lawIsLocalConsequence_in n xs l a h2

theorem lawIsGlobalConsequence_in (n : Int) (xs : List Int) (l : List (List (Int × Int))) (a : List (Int × Int)) (hl : xs.length + (l.length + sumL l) + a.length ≤ 1048576) : CallA Try.prog 10 [.agg [AI n, LI xs], LLN l, LN a] (.bool true) := by
  have hv1l : ∀ j : Nat, j < l.length → (l.getD j []).length ≤ 1048576 := fun j hj => by have := sumL_get l j hj; omega
  have hv2l : ∀ j : Nat, j < l.length → (l.getD j []).length ≤ 1000000000 := fun j hj => by have := hv1l j hj; omega
  have hv3l : lim l := ⟨by omega, hv1l⟩
  refine CallA.of Try.func10 rfl (by kernel_rfl) ?_
  refine R.go 13 (R.call true (szFrame_c n xs 1048576 (by omega) (by first | omega | (simp <;> omega))) (by kernel_rfl) rfl (by kernel_rfl) ?_)
  refine R.go 8 (R.cond (((1048576 : Int) - xs.length) < 0) (by kernel_rfl) (fun c1 => ?_) (fun c1 => ?_))
  · exact R.go 4 (R.retE (.bool true) (by kernel_rfl) (by kernel_rfl) (by rfl))
  · refine R.go 5 (R.call true (szNodeSS_c l ((1048576 : Int) - xs.length) (by first | omega | (simp <;> omega)) (by first | omega | (simp <;> omega))) (by kernel_rfl) rfl (by kernel_rfl) ?_)
    refine R.go 8 (R.cond (((((1048576 : Int) - xs.length) : Int) - l.length - sumL l) < 0) (by kernel_rfl) (fun c2 => ?_) (fun c2 => ?_))
    · exact R.go 4 (R.retE (.bool true) (by kernel_rfl) (by kernel_rfl) (by rfl))
    · refine R.go 5 (R.call true (szNodeS_c a ((((1048576 : Int) - xs.length) : Int) - l.length - sumL l) (by first | omega | (simp <;> omega)) (by first | omega | (simp <;> omega))) (by kernel_rfl) rfl (by kernel_rfl) ?_)
      refine R.go 8 (R.cond (((((((1048576 : Int) - xs.length) : Int) - l.length - sumL l) : Int) - a.length) < 0) (by kernel_rfl) (fun c3 => ?_) (fun c3 => ?_))
      · exact R.go 4 (R.retE (.bool true) (by kernel_rfl) (by kernel_rfl) (by rfl))
      · refine R.go 4 (R.call true (toFrame_c n xs (by first | omega | (simp <;> omega))).frz (by kernel_rfl) rfl (by kernel_rfl) ?_)
        refine R.go 1 (R.call true (toNodeSS_c l (by first | omega | (simp <;> omega)) hv1l).frz (by kernel_rfl) rfl (by kernel_rfl) ?_)
        refine R.go 1 (R.call true (toNodeS_c a (by first | omega | (simp <;> omega))).frz (by kernel_rfl) rfl (by kernel_rfl) ?_)
        refine R.call true (specGlobal_c n xs l a (by first | omega | (simp <;> omega)) hv3l (by first | omega | (simp <;> omega))) (by kernel_rfl) rfl (by kernel_rfl) ?_
        refine R.go 9 (R.call true (toFrame_c n xs (by first | omega | (simp <;> omega))).frz (by kernel_rfl) rfl (by kernel_rfl) ?_)
        refine R.go 6 (R.call true (toNodeSS_c l (by first | omega | (simp <;> omega)) hv1l).frz (by kernel_rfl) rfl (by kernel_rfl) ?_)
        refine R.go 5 (R.call true (toNodeS_c a (by first | omega | (simp <;> omega))).frz (by kernel_rfl) rfl (by kernel_rfl) ?_)
        refine R.go 7 (R.call true (implGlobal_c n xs l a (by first | omega | (simp <;> omega)) hv3l (by first | omega | (simp <;> omega))) (by kernel_rfl) rfl (by kernel_rfl) ?_)
        refine R.go 13 (R.want (!((csB true n xs l a) == (csB true n xs l a))) false (by kernel_rfl) (bnF (beq_self_eq_true _)) ?_)
        refine R.go 1 (R.want (!((csB true n xs l a) == (csB true n xs l a))) false (by kernel_rfl) (bnF (beq_self_eq_true _)) ?_)
        refine R.go 1 (R.want (!((csB true n xs l a) == (csB true n xs l a))) false (by kernel_rfl) (bnF (beq_self_eq_true _)) ?_)
        refine R.go 1 (R.pick (!((csB true n xs l a) == (csB true n xs l a))) false (by kernel_rfl) (bnF (beq_self_eq_true _)) (by kernel_rfl) ?_)
        refine R.go 1 (R.els (!decide ((scode n xs (l ++ [a])) = (scode n xs (l ++ [a])))) (by kernel_rfl) (nF rfl) ?_)
        refine R.go 6 (R.call true (toFrame_c n xs (by first | omega | (simp <;> omega))).frz (by kernel_rfl) rfl (by kernel_rfl) ?_)
        refine R.call true (eqFrame_c n xs (by first | omega | (simp <;> omega))) (by kernel_rfl) rfl (by kernel_rfl) ?_
        refine R.go 9 (R.call true (toNodeSS_c l (by first | omega | (simp <;> omega)) hv1l).frz (by kernel_rfl) rfl (by kernel_rfl) ?_)
        refine R.call true (eqNodeSS_c l l (by first | omega | (simp <;> omega)) hv2l) (by kernel_rfl) rfl (by kernel_rfl) ?_
        refine R.go 2 (R.els (!decide (l = l)) (by kernel_rfl) (nF rfl) ?_)
        refine R.go 6 (R.call true (toNodeS_c a (by first | omega | (simp <;> omega))).frz (by kernel_rfl) rfl (by kernel_rfl) ?_)
        refine R.call true (eqNodeS_c a a (by first | omega | (simp <;> omega))) (by kernel_rfl) rfl (by kernel_rfl) ?_
        refine R.go 2 (R.els (!decide (a = a)) (by kernel_rfl) (nF rfl) ?_)
        exact R.go 5 (R.retE (.bool true) (by kernel_rfl) (by kernel_rfl) (by rfl))

theorem lawIsGlobalConsequence_1 (n : Int) (xs : List Int) (l : List (List (Int × Int))) (a : List (Int × Int)) (hx : 1048576 < xs.length) (hb : xs.length ≤ 9223372036854775807) : CallA Try.prog 10 [.agg [AI n, LI xs], LLN l, LN a] (.bool true) := by
  refine CallA.of Try.func10 rfl (by kernel_rfl) ?_
  refine R.go 13 (R.call true (szFrame_no n xs 1048576 (by omega) (by first | omega | (simp <;> omega)) hb) (by kernel_rfl) rfl (by kernel_rfl) ?_)
  exact R.go 13 (R.retE (.bool true) (by kernel_rfl) (by kernel_rfl) (by rfl))

theorem lawIsGlobalConsequence_2 (n : Int) (xs : List Int) (l : List (List (Int × Int))) (a : List (Int × Int)) (hy : xs.length ≤ 1048576) (hx : 1048576 < xs.length + (l.length + sumL l)) (hb : l.length ≤ 9223372036854775807) (hb2 : ∀ j : Nat, j < l.length → (l.getD j []).length ≤ 9223372036854775807) : CallA Try.prog 10 [.agg [AI n, LI xs], LLN l, LN a] (.bool true) := by
  refine CallA.of Try.func10 rfl (by kernel_rfl) ?_
  refine R.go 13 (R.call true (szFrame_c n xs 1048576 (by omega) (by first | omega | (simp <;> omega))) (by kernel_rfl) rfl (by kernel_rfl) ?_)
  refine R.go 8 (R.cond (((1048576 : Int) - xs.length) < 0) (by kernel_rfl) (fun c1 => ?_) (fun c1 => ?_))
  · exact R.go 4 (R.retE (.bool true) (by kernel_rfl) (by kernel_rfl) (by rfl))
  · refine R.go 5 (R.call true (szNodeSS_no l ((1048576 : Int) - xs.length) (by first | omega | (simp <;> omega)) (by first | omega | (simp <;> omega)) hb hb2) (by kernel_rfl) rfl (by kernel_rfl) ?_)
    exact R.go 13 (R.retE (.bool true) (by kernel_rfl) (by kernel_rfl) (by rfl))

theorem lawIsGlobalConsequence_3 (n : Int) (xs : List Int) (l : List (List (Int × Int))) (a : List (Int × Int)) (hy : xs.length + (l.length + sumL l) ≤ 1048576) (hx : 1048576 < xs.length + (l.length + sumL l) + a.length) (hb : a.length ≤ 9223372036854775807) : CallA Try.prog 10 [.agg [AI n, LI xs], LLN l, LN a] (.bool true) := by
  refine CallA.of Try.func10 rfl (by kernel_rfl) ?_
  refine R.go 13 (R.call true (szFrame_c n xs 1048576 (by omega) (by first | omega | (simp <;> omega))) (by kernel_rfl) rfl (by kernel_rfl) ?_)
  refine R.go 8 (R.cond (((1048576 : Int) - xs.length) < 0) (by kernel_rfl) (fun c1 => ?_) (fun c1 => ?_))
  · exact R.go 4 (R.retE (.bool true) (by kernel_rfl) (by kernel_rfl) (by rfl))
  · refine R.go 5 (R.call true (szNodeSS_c l ((1048576 : Int) - xs.length) (by first | omega | (simp <;> omega)) (by first | omega | (simp <;> omega))) (by kernel_rfl) rfl (by kernel_rfl) ?_)
    refine R.go 8 (R.cond (((((1048576 : Int) - xs.length) : Int) - l.length - sumL l) < 0) (by kernel_rfl) (fun c2 => ?_) (fun c2 => ?_))
    · exact R.go 4 (R.retE (.bool true) (by kernel_rfl) (by kernel_rfl) (by rfl))
    · refine R.go 5 (R.call true (szNodeS_no a ((((1048576 : Int) - xs.length) : Int) - l.length - sumL l) (by first | omega | (simp <;> omega)) (by first | omega | (simp <;> omega)) hb) (by kernel_rfl) rfl (by kernel_rfl) ?_)
      exact R.go 13 (R.retE (.bool true) (by kernel_rfl) (by kernel_rfl) (by rfl))

theorem lawIsGlobalConsequence (n : Int) (xs : List Int) (m0 : xs.length ≤ maxLen) (l : List (List (Int × Int))) (m1 : l.length ≤ maxLen) (m1' : ∀ j : Nat, j < l.length → (l.getD j []).length ≤ maxLen) (a : List (Int × Int)) (m2 : a.length ≤ maxLen) : CallA Try.prog 10 [.agg [AI n, LI xs], LLN l, LN a] (.bool true) := by
  have hm : maxLen ≤ 9223372036854775807 := by decide
  rcases Nat.lt_or_ge 1048576 (xs.length) with h0 | h0
  · exact lawIsGlobalConsequence_1 n xs l a h0 (by omega)
  rcases Nat.lt_or_ge 1048576 (xs.length + (l.length + sumL l)) with h1 | h1
  · exact lawIsGlobalConsequence_2 n xs l a h0 h1 (by omega) (fun j hj => Nat.le_trans (m1' j hj) hm)
  rcases Nat.lt_or_ge 1048576 (xs.length + (l.length + sumL l) + a.length) with h2 | h2
  · exact lawIsGlobalConsequence_3 n xs l a h1 h2 (by omega)
  exact lawIsGlobalConsequence_in n xs l a h2

end Go.Proofs.Ytkmjijomengoiaa
