/- The laws of FirstLadderElement, NishimuraIndex, NishimuraOf. -/
import Derived.Test.YteblikpghnnclaaN02
import Derived.Test.YteblikpghnnclaaH04
namespace Go.Proofs.Yteblikpghnnclaa
open Go.RowKit Go.Abs

theorem lawFirstLadderElement_in (a : List (Int × Int)) (hl : a.length ≤ 1048576) : CallA Try.prog 3 [LN a] (.bool true) := by
  refine CallA.of Try.func3 rfl (by kernel_rfl) ?_
  refine R.go 12 (R.call true (szNodeS_c a 1048576 (by omega) (by first | omega | (simp <;> omega))) (by kernel_rfl) rfl (by kernel_rfl) ?_)
  refine R.go 8 (R.cond (((1048576 : Int) - a.length) < 0) (by kernel_rfl) (fun c1 => ?_) (fun c1 => ?_))
  · exact R.go 4 (R.retE (.bool true) (by kernel_rfl) (by kernel_rfl) (by rfl))
  · refine R.go 4 (R.call true (toNodeS_c a hl).frz (by kernel_rfl) rfl (by kernel_rfl) ?_)
    refine R.call true (FL_spec a hl) (by kernel_rfl) rfl (by kernel_rfl) ?_
    refine R.go 9 (R.call true (toNodeS_c a hl).frz (by kernel_rfl) rfl (by kernel_rfl) ?_)
    refine R.go 5 (R.call true (FL_impl a hl) (by kernel_rfl) rfl (by kernel_rfl) ?_)
    refine R.go 13 (R.want (!decide ((fleV a) = (fleV a))) false (by kernel_rfl) (nF rfl) ?_)
    refine R.go 1 (R.want (!decide ((fleV a) = (fleV a))) false (by kernel_rfl) (nF rfl) ?_)
    refine R.go 1 (R.want (!decide ((fleV a) = (fleV a))) false (by kernel_rfl) (nF rfl) ?_)
    refine R.go 1 (R.pick (!decide ((fleV a) = (fleV a))) false (by kernel_rfl) (nF rfl) (by kernel_rfl) ?_)
    refine R.go 1 (R.els (!decide ((fleC a) = (fleC a))) (by kernel_rfl) (nF rfl) ?_)
    refine R.go 6 (R.call true (toNodeS_c a hl).frz (by kernel_rfl) rfl (by kernel_rfl) ?_)
    refine R.call true (eqNodeS_c a a (by first | omega | (simp <;> omega))) (by kernel_rfl) rfl (by kernel_rfl) ?_
    refine R.go 2 (R.els (!decide (a = a)) (by kernel_rfl) (nF rfl) ?_)
    exact R.go 5 (R.retE (.bool true) (by kernel_rfl) (by kernel_rfl) (by rfl))

theorem lawFirstLadderElement_1 (a : List (Int × Int)) (hx : 1048576 < a.length) (hb : a.length ≤ 9223372036854775807) : CallA Try.prog 3 [LN a] (.bool true) := by
  refine CallA.of Try.func3 rfl (by kernel_rfl) ?_
  refine R.go 12 (R.call true (szNodeS_no a 1048576 (by omega) (by first | omega | (simp <;> omega)) hb) (by kernel_rfl) rfl (by kernel_rfl) ?_)
  exact R.go 13 (R.retE (.bool true) (by kernel_rfl) (by kernel_rfl) (by rfl))

theorem lawFirstLadderElement (a : List (Int × Int)) (m0 : a.length ≤ maxLen) : CallA Try.prog 3 [LN a] (.bool true) := by
  have hm : maxLen ≤ 9223372036854775807 := by decide
  rcases Nat.lt_or_ge 1048576 (a.length) with h0 | h0
  · exact lawFirstLadderElement_1 a h0 (by omega)
  exact lawFirstLadderElement_in a h0

theorem lawNishimuraIndex_in (a : List (Int × Int)) (hl : a.length ≤ 1048576) : CallA Try.prog 4 [LN a] (.bool true) := by
  refine CallA.of Try.func4 rfl (by kernel_rfl) ?_
  refine R.go 12 (R.call true (szNodeS_c a 1048576 (by omega) (by first | omega | (simp <;> omega))) (by kernel_rfl) rfl (by kernel_rfl) ?_)
  refine R.go 8 (R.cond (((1048576 : Int) - a.length) < 0) (by kernel_rfl) (fun c1 => ?_) (fun c1 => ?_))
  · exact R.go 4 (R.retE (.bool true) (by kernel_rfl) (by kernel_rfl) (by rfl))
  · refine R.go 4 (R.call true (toNodeS_c a hl).frz (by kernel_rfl) rfl (by kernel_rfl) ?_)
    refine R.call true (NI_spec a hl) (by kernel_rfl) rfl (by kernel_rfl) ?_
    refine R.go 9 (R.call true (toNodeS_c a hl).frz (by kernel_rfl) rfl (by kernel_rfl) ?_)
    refine R.go 5 (R.call true (NI_impl a hl) (by kernel_rfl) rfl (by kernel_rfl) ?_)
    refine R.go 13 (R.want (!decide ((niV a) = (niV a))) false (by kernel_rfl) (nF rfl) ?_)
    refine R.go 1 (R.want (!decide ((niV a) = (niV a))) false (by kernel_rfl) (nF rfl) ?_)
    refine R.go 1 (R.want (!decide ((niV a) = (niV a))) false (by kernel_rfl) (nF rfl) ?_)
    refine R.go 1 (R.pick (!decide ((niV a) = (niV a))) false (by kernel_rfl) (nF rfl) (by kernel_rfl) ?_)
    refine R.go 1 (R.els (!decide ((lcode a) = (lcode a))) (by kernel_rfl) (nF rfl) ?_)
    refine R.go 6 (R.call true (toNodeS_c a hl).frz (by kernel_rfl) rfl (by kernel_rfl) ?_)
    refine R.call true (eqNodeS_c a a (by first | omega | (simp <;> omega))) (by kernel_rfl) rfl (by kernel_rfl) ?_
    refine R.go 2 (R.els (!decide (a = a)) (by kernel_rfl) (nF rfl) ?_)
    exact R.go 5 (R.retE (.bool true) (by kernel_rfl) (by kernel_rfl) (by rfl))

theorem lawNishimuraIndex_1 (a : List (Int × Int)) (hx : 1048576 < a.length) (hb : a.length ≤ 9223372036854775807) : CallA Try.prog 4 [LN a] (.bool true) := by
  refine CallA.of Try.func4 rfl (by kernel_rfl) ?_
  refine R.go 12 (R.call true (szNodeS_no a 1048576 (by omega) (by first | omega | (simp <;> omega)) hb) (by kernel_rfl) rfl (by kernel_rfl) ?_)
  exact R.go 13 (R.retE (.bool true) (by kernel_rfl) (by kernel_rfl) (by rfl))

theorem lawNishimuraIndex (a : List (Int × Int)) (m0 : a.length ≤ maxLen) : CallA Try.prog 4 [LN a] (.bool true) := by
  have hm : maxLen ≤ 9223372036854775807 := by decide
  rcases Nat.lt_or_ge 1048576 (a.length) with h0 | h0
  · exact lawNishimuraIndex_1 a h0 (by omega)
  exact lawNishimuraIndex_in a h0

theorem lawNishimuraOf_in (a : List (Int × Int)) (hl : a.length ≤ 1048576) : CallA Try.prog 5 [LN a] (.bool true) := by
  have hrl := noR_len a
  refine CallA.of Try.func5 rfl (by kernel_rfl) ?_
  refine R.go 12 (R.call true (szNodeS_c a 1048576 (by omega) (by first | omega | (simp <;> omega))) (by kernel_rfl) rfl (by kernel_rfl) ?_)
  refine R.go 8 (R.cond (((1048576 : Int) - a.length) < 0) (by kernel_rfl) (fun c1 => ?_) (fun c1 => ?_))
  · exact R.go 4 (R.retE (.bool true) (by kernel_rfl) (by kernel_rfl) (by rfl))
  · refine R.go 4 (R.call true (toNodeS_c a hl) (by kernel_rfl) rfl (by kernel_rfl) ?_)
    refine R.call false (NO_spec a hl) (by kernel_rfl) (by simp [AV.closed, closedL, AI, ownA_closed eN_closed]) (by kernel_rfl) ?_
    refine R.go 9 (R.call true (toNodeS_c a hl) (by kernel_rfl) rfl (by kernel_rfl) ?_)
    refine R.go 5 (R.call false (NO_impl a hl) (by kernel_rfl) (by simp [AV.closed, closedL, AI, ownA_closed eN_closed]) (by kernel_rfl) ?_)
    refine R.go 11 (R.call false (eqNodeS_c (noR a) (noR a) (by first | omega | (simp <;> omega))) (by kernel_rfl) rfl (by kernel_rfl) ?_)
    refine R.go 2 (R.want (!decide ((noR a) = (noR a))) false (by kernel_rfl) (nF rfl) ?_)
    refine R.go 1 (R.want (!decide ((noR a) = (noR a))) false (by kernel_rfl) (nF rfl) ?_)
    refine R.go 1 (R.want (!decide ((noR a) = (noR a))) false (by kernel_rfl) (nF rfl) ?_)
    refine R.go 1 (R.pick (!decide ((noR a) = (noR a))) false (by kernel_rfl) (nF rfl) (by kernel_rfl) ?_)
    refine R.go 1 (R.els (!decide ((noC a) = (noC a))) (by kernel_rfl) (nF rfl) ?_)
    refine R.go 6 (R.call true (toNodeS_c a hl) (by kernel_rfl) rfl (by kernel_rfl) ?_)
    refine R.call false (eqNodeS_c a a (by first | omega | (simp <;> omega))) (by kernel_rfl) rfl (by kernel_rfl) ?_
    refine R.go 2 (R.els (!decide (a = a)) (by kernel_rfl) (nF rfl) ?_)
    refine R.go 9 (R.enter (avs := [.ref 2, AI 1]) Try.func24 rfl (by kernel_rfl) (by kernel_rfl) (by kernel_rfl) ?_)
    intro us2
    refine R.go 10 (R.loop ((fun | (i1, ys1, q1) => (⟨(frm 27 [(0, .ref 2), (1, AI q1), (5, AI (i1 : Int))]), [rowA eN 71 2 a, rowA eN 71 2 (noR a), rowA eN 71 2 ys1, rowA eN 71 2 (noR a), rowA eN 71 2 a, .frame us2 (frm 96 [(0, LN a), (2, .bool false), (3, AI ((1048576 : Int) - a.length)), (4, .ref 1), (5, AI (noC a)), (6, .ref 2), (7, .ref 3), (8, AI (noC a)), (9, AI 1), (14, LN a), (15, AI 1048576), (16, AI ((1048576 : Int) - a.length)), (17, AI ((1048576 : Int) - a.length)), (18, .bool (decide (((1048576 : Int) - a.length) < 0))), (19, .tup [.ref 1, AI (noC a)]), (20, LN a), (21, .ref 0), (22, .tup [.ref 1, AI (noC a)]), (23, .ref 1), (24, AI (noC a)), (25, LN a), (26, .ref 2), (27, .tup [.ref 3, AI (noC a)]), (28, .ref 2), (29, .tup [.ref 3, AI (noC a)]), (30, .ref 3), (31, AI (noC a)), (32, .ref 3), (33, .ref 1), (34, .bool (decide ((noR a) = (noR a)))), (35, .bool (!decide ((noR a) = (noR a)))), (36, .bool (!decide ((noR a) = (noR a)))), (37, AI (noC a)), (38, AI (noC a)), (39, .bool (!decide ((noC a) = (noC a)))), (40, .bool (!decide ((noC a) = (noC a)))), (41, .ref 2), (42, LN a), (43, .ref 4), (44, .bool (decide (a = a))), (45, .bool (!decide (a = a))), (46, .ref 2), (47, AI 1)])]⟩ : St) : Nat × (List (Int × Int)) × Int → St)) (fun | (i1, ys1, q1) => (i1 ≤ a.length) ∧ (ys1 = markTo a 1 i1) ∧ (q1 = 1 + 2 * (i1 : Int))) (fun | (i1, ys1, q1) => a.length - i1) (0, a, 1) [0, 1, 5] none (by kernel_rfl) (by kernel_rfl) (by kernel_rfl) ⟨(by omega), (by exact markTo_zero _ _), (by simp)⟩ ?_)
    rintro ⟨i1, ys1, q1⟩ ⟨h6_1, rfl, rfl⟩ R3 N4
    have hl1 : (markTo a 1 i1).length = a.length := markTo_length _ _ _ (by assumption)
    refine R.go 8 (R.cond ((i1 : Int) < ((markTo a 1 i1).length : Int)) (by kernel_rfl) (fun c7 => ?_) (fun c7 => ?_))
    · refine R.go 8 (R.idxO 2 2 (markTo a 1 i1).length i1 (i1 : Int) (by kernel_rfl) rfl (by omega) (by kernel_rfl) ?_)
      refine R.go 1 (R.stF eN 2 71 2 (markTo a 1 i1) (0, 0) i1 0 (AI (1 + 2 * (i1 : Int))) (1 + 2 * (i1 : Int), ((markTo a 1 i1).getD i1 (0, 0)).2) (by kernel_rfl) eN_len (by omega) (by decide) rfl (by kernel_rfl) ?_)
      refine R.go 4 (R.ar ((1 + 2 * (i1 : Int)) + 1) (by kernel_rfl) (by omega) (by omega) (by kernel_rfl) ?_)
      refine R.go 7 (R.idxO 2 2 ((markTo a 1 i1).set i1 (1 + 2 * (i1 : Int), ((markTo a 1 i1).getD i1 (0, 0)).2)).length i1 (i1 : Int) (by kernel_rfl) rfl (by first | omega | (simp <;> omega)) (by kernel_rfl) ?_)
      refine R.go 1 (R.stF eN 2 71 2 ((markTo a 1 i1).set i1 (1 + 2 * (i1 : Int), ((markTo a 1 i1).getD i1 (0, 0)).2)) (0, 0) i1 1 (AI ((1 + 2 * (i1 : Int)) + 1)) ((((markTo a 1 i1).set i1 (1 + 2 * (i1 : Int), ((markTo a 1 i1).getD i1 (0, 0)).2)).getD i1 (0, 0)).1, (1 + 2 * (i1 : Int)) + 1) (by kernel_rfl) eN_len (by first | omega | (simp <;> omega)) (by decide) rfl (by kernel_rfl) ?_)
      refine R.go 3 (R.ar (((1 + 2 * (i1 : Int)) + 1) + 1) (by kernel_rfl) (by omega) (by omega) (by kernel_rfl) ?_)
      refine R.go 5 (R.ar ((i1 : Int) + 1) (by kernel_rfl) (by omega) (by omega) (by kernel_rfl) ?_)
      exact R.go 2 (R.stop R3 (by kernel_rfl) (N4 (i1 + 1, ((markTo a 1 i1).set i1 (1 + 2 * (i1 : Int), ((markTo a 1 i1).getD i1 (0, 0)).2)).set i1 ((((markTo a 1 i1).set i1 (1 + 2 * (i1 : Int), ((markTo a 1 i1).getD i1 (0, 0)).2)).getD i1 (0, 0)).1, (1 + 2 * (i1 : Int)) + 1), ((1 + 2 * (i1 : Int)) + 1) + 1) [0, 1, 5] none _ (by kernel_rfl) (by kernel_rfl) ⟨(by omega), (by exact markTo_set _ _ _ (by omega) _ _ (by rw [getD_set_eq _ _ _ _ (by omega)])), (by omega)⟩ (by show (a.length - (i1 + 1)) < (a.length - i1); omega)))
    · refine R.go 6 (R.back (AI (1 + 2 * (i1 : Int))) (frm 96 [(0, LN a), (2, .bool false), (3, AI ((1048576 : Int) - a.length)), (4, .ref 1), (5, AI (noC a)), (6, .ref 2), (7, .ref 3), (8, AI (noC a)), (9, AI 1), (14, LN a), (15, AI 1048576), (16, AI ((1048576 : Int) - a.length)), (17, AI ((1048576 : Int) - a.length)), (18, .bool (decide (((1048576 : Int) - a.length) < 0))), (19, .tup [.ref 1, AI (noC a)]), (20, LN a), (21, .ref 0), (22, .tup [.ref 1, AI (noC a)]), (23, .ref 1), (24, AI (noC a)), (25, LN a), (26, .ref 2), (27, .tup [.ref 3, AI (noC a)]), (28, .ref 2), (29, .tup [.ref 3, AI (noC a)]), (30, .ref 3), (31, AI (noC a)), (32, .ref 3), (33, .ref 1), (34, .bool (decide ((noR a) = (noR a)))), (35, .bool (!decide ((noR a) = (noR a)))), (36, .bool (!decide ((noR a) = (noR a)))), (37, AI (noC a)), (38, AI (noC a)), (39, .bool (!decide ((noC a) = (noC a)))), (40, .bool (!decide ((noC a) = (noC a)))), (41, .ref 2), (42, LN a), (43, .ref 4), (44, .bool (decide (a = a))), (45, .bool (!decide (a = a))), (46, .ref 2), (47, AI 1)]) (by kernel_rfl) (by kernel_rfl) (by kernel_rfl) ?_)
      refine R.go 8 ?_
      by_cases c8 : (1 + 2 * (i1 : Int)) < 0
      · refine R.skp (decide ((1 + 2 * (i1 : Int)) < 0)) false (by kernel_rfl) (dT c8) (by kernel_rfl) ?_
        refine R.skp (decide ((1 + 2 * (i1 : Int)) < 0)) false (by kernel_rfl) (dT c8) (by kernel_rfl) ?_
        refine R.skp (decide ((1 + 2 * (i1 : Int)) < 0)) false (by kernel_rfl) (dT c8) (by kernel_rfl) ?_
        refine R.skp (decide ((1 + 2 * (i1 : Int)) < 0)) false (by kernel_rfl) (dT c8) (by kernel_rfl) ?_
        refine R.pick (decide ((1 + 2 * (i1 : Int)) < 0)) true (by kernel_rfl) (dT c8) (by kernel_rfl) ?_
        exact R.go 11 (R.retE (.bool false) (by kernel_rfl) (by kernel_rfl) (by first | (rfl) | (exfalso; omega)))
      · refine R.want (decide ((1 + 2 * (i1 : Int)) < 0)) false (by kernel_rfl) (dF c8) ?_
        refine R.go 1 (R.want (decide ((1 + 2 * (i1 : Int)) < 0)) false (by kernel_rfl) (dF c8) ?_)
        refine R.go 1 (R.want (decide ((1 + 2 * (i1 : Int)) < 0)) false (by kernel_rfl) (dF c8) ?_)
        refine R.call false (eqNodeS_c (noR a) (noR a) (by first | omega | (simp <;> omega))) (by kernel_rfl) rfl (by kernel_rfl) ?_
        refine R.want (decide ((1 + 2 * (i1 : Int)) < 0)) false (by kernel_rfl) (dF c8) ?_
        refine R.go 1 (R.pick (decide ((1 + 2 * (i1 : Int)) < 0)) false (by kernel_rfl) (dF c8) (by kernel_rfl) ?_)
        refine R.go 1 (R.want (!decide ((noR a) = (noR a))) false (by kernel_rfl) (nF rfl) ?_)
        refine R.go 1 (R.want (!decide ((noR a) = (noR a))) false (by kernel_rfl) (nF rfl) ?_)
        refine R.go 1 (R.want (!decide ((noR a) = (noR a))) false (by kernel_rfl) (nF rfl) ?_)
        refine R.go 1 (R.pick (!decide ((noR a) = (noR a))) false (by kernel_rfl) (nF rfl) (by kernel_rfl) ?_)
        refine R.go 1 (R.els (!decide ((noC a) = (noC a))) (by kernel_rfl) (nF rfl) ?_)
        refine R.go 9 (R.enter (avs := [.ref 3, AI 1]) Try.func24 rfl (by kernel_rfl) (by kernel_rfl) (by kernel_rfl) ?_)
        intro us9
        refine R.go 10 (R.loop ((fun | (i2, ys2, q2) => (⟨(frm 27 [(0, .ref 3), (1, AI q2), (5, AI (i2 : Int))]), [rowA eN 71 2 a, rowA eN 71 2 (noR a), rowA eN 71 2 (markTo a 1 i1), rowA eN 71 2 ys2, rowA eN 71 2 a, .dead, .frame us9 (frm 96 [(0, LN a), (2, .bool false), (3, AI ((1048576 : Int) - a.length)), (4, .ref 1), (5, AI (noC a)), (6, .ref 2), (7, .ref 3), (8, AI (noC a)), (9, AI (1 + 2 * (i1 : Int))), (10, AI 1), (14, LN a), (15, AI 1048576), (16, AI ((1048576 : Int) - a.length)), (17, AI ((1048576 : Int) - a.length)), (18, .bool (decide (((1048576 : Int) - a.length) < 0))), (19, .tup [.ref 1, AI (noC a)]), (20, LN a), (21, .ref 0), (22, .tup [.ref 1, AI (noC a)]), (23, .ref 1), (24, AI (noC a)), (25, LN a), (26, .ref 2), (27, .tup [.ref 3, AI (noC a)]), (28, .ref 2), (29, .tup [.ref 3, AI (noC a)]), (30, .ref 3), (31, AI (noC a)), (32, .ref 3), (33, .ref 1), (34, .bool (decide ((noR a) = (noR a)))), (35, .bool (!decide ((noR a) = (noR a)))), (36, .bool (!decide ((noR a) = (noR a)))), (37, AI (noC a)), (38, AI (noC a)), (39, .bool (!decide ((noC a) = (noC a)))), (40, .bool (!decide ((noC a) = (noC a)))), (41, .ref 2), (42, LN a), (43, .ref 4), (44, .bool (decide (a = a))), (45, .bool (!decide (a = a))), (46, .ref 2), (47, AI 1), (48, AI (1 + 2 * (i1 : Int))), (49, AI (1 + 2 * (i1 : Int))), (50, .bool (decide ((1 + 2 * (i1 : Int)) < 0))), (51, .bool (decide ((1 + 2 * (i1 : Int)) < 0))), (52, .ref 3), (53, .ref 1), (54, .bool (decide ((noR a) = (noR a)))), (55, .bool (!decide ((noR a) = (noR a)))), (56, .bool (!decide ((noR a) = (noR a)))), (57, .bool (!decide ((noR a) = (noR a)))), (58, AI (noC a)), (59, AI (noC a)), (60, .bool (!decide ((noC a) = (noC a)))), (61, .bool (!decide ((noC a) = (noC a)))), (62, .ref 3), (63, AI 1)])]⟩ : St) : Nat × (List (Int × Int)) × Int → St)) (fun | (i2, ys2, q2) => (i2 ≤ (noR a).length) ∧ (ys2 = markTo (noR a) 1 i2) ∧ (q2 = 1 + 2 * (i2 : Int))) (fun | (i2, ys2, q2) => (noR a).length - i2) (0, (noR a), 1) [0, 1, 5] none (by kernel_rfl) (by kernel_rfl) (by kernel_rfl) ⟨(by omega), (by exact markTo_zero _ _), (by simp)⟩ ?_)
        rintro ⟨i2, ys2, q2⟩ ⟨h13_1, rfl, rfl⟩ R10 N11
        have hl2 : (markTo (noR a) 1 i2).length = (noR a).length := markTo_length _ _ _ (by assumption)
        refine R.go 8 (R.cond ((i2 : Int) < ((markTo (noR a) 1 i2).length : Int)) (by kernel_rfl) (fun c14 => ?_) (fun c14 => ?_))
        · refine R.go 8 (R.idxO 3 2 (markTo (noR a) 1 i2).length i2 (i2 : Int) (by kernel_rfl) rfl (by omega) (by kernel_rfl) ?_)
          refine R.go 1 (R.stF eN 3 71 2 (markTo (noR a) 1 i2) (0, 0) i2 0 (AI (1 + 2 * (i2 : Int))) (1 + 2 * (i2 : Int), ((markTo (noR a) 1 i2).getD i2 (0, 0)).2) (by kernel_rfl) eN_len (by omega) (by decide) rfl (by kernel_rfl) ?_)
          refine R.go 4 (R.ar ((1 + 2 * (i2 : Int)) + 1) (by kernel_rfl) (by omega) (by omega) (by kernel_rfl) ?_)
          refine R.go 7 (R.idxO 3 2 ((markTo (noR a) 1 i2).set i2 (1 + 2 * (i2 : Int), ((markTo (noR a) 1 i2).getD i2 (0, 0)).2)).length i2 (i2 : Int) (by kernel_rfl) rfl (by first | omega | (simp <;> omega)) (by kernel_rfl) ?_)
          refine R.go 1 (R.stF eN 3 71 2 ((markTo (noR a) 1 i2).set i2 (1 + 2 * (i2 : Int), ((markTo (noR a) 1 i2).getD i2 (0, 0)).2)) (0, 0) i2 1 (AI ((1 + 2 * (i2 : Int)) + 1)) ((((markTo (noR a) 1 i2).set i2 (1 + 2 * (i2 : Int), ((markTo (noR a) 1 i2).getD i2 (0, 0)).2)).getD i2 (0, 0)).1, (1 + 2 * (i2 : Int)) + 1) (by kernel_rfl) eN_len (by first | omega | (simp <;> omega)) (by decide) rfl (by kernel_rfl) ?_)
          refine R.go 3 (R.ar (((1 + 2 * (i2 : Int)) + 1) + 1) (by kernel_rfl) (by omega) (by omega) (by kernel_rfl) ?_)
          refine R.go 5 (R.ar ((i2 : Int) + 1) (by kernel_rfl) (by omega) (by omega) (by kernel_rfl) ?_)
          exact R.go 2 (R.stop R10 (by kernel_rfl) (N11 (i2 + 1, ((markTo (noR a) 1 i2).set i2 (1 + 2 * (i2 : Int), ((markTo (noR a) 1 i2).getD i2 (0, 0)).2)).set i2 ((((markTo (noR a) 1 i2).set i2 (1 + 2 * (i2 : Int), ((markTo (noR a) 1 i2).getD i2 (0, 0)).2)).getD i2 (0, 0)).1, (1 + 2 * (i2 : Int)) + 1), ((1 + 2 * (i2 : Int)) + 1) + 1) [0, 1, 5] none _ (by kernel_rfl) (by kernel_rfl) ⟨(by omega), (by exact markTo_set _ _ _ (by omega) _ _ (by rw [getD_set_eq _ _ _ _ (by omega)])), (by omega)⟩ (by show ((noR a).length - (i2 + 1)) < ((noR a).length - i2); omega)))
        · refine R.go 6 (R.back (AI (1 + 2 * (i2 : Int))) (frm 96 [(0, LN a), (2, .bool false), (3, AI ((1048576 : Int) - a.length)), (4, .ref 1), (5, AI (noC a)), (6, .ref 2), (7, .ref 3), (8, AI (noC a)), (9, AI (1 + 2 * (i1 : Int))), (10, AI 1), (14, LN a), (15, AI 1048576), (16, AI ((1048576 : Int) - a.length)), (17, AI ((1048576 : Int) - a.length)), (18, .bool (decide (((1048576 : Int) - a.length) < 0))), (19, .tup [.ref 1, AI (noC a)]), (20, LN a), (21, .ref 0), (22, .tup [.ref 1, AI (noC a)]), (23, .ref 1), (24, AI (noC a)), (25, LN a), (26, .ref 2), (27, .tup [.ref 3, AI (noC a)]), (28, .ref 2), (29, .tup [.ref 3, AI (noC a)]), (30, .ref 3), (31, AI (noC a)), (32, .ref 3), (33, .ref 1), (34, .bool (decide ((noR a) = (noR a)))), (35, .bool (!decide ((noR a) = (noR a)))), (36, .bool (!decide ((noR a) = (noR a)))), (37, AI (noC a)), (38, AI (noC a)), (39, .bool (!decide ((noC a) = (noC a)))), (40, .bool (!decide ((noC a) = (noC a)))), (41, .ref 2), (42, LN a), (43, .ref 4), (44, .bool (decide (a = a))), (45, .bool (!decide (a = a))), (46, .ref 2), (47, AI 1), (48, AI (1 + 2 * (i1 : Int))), (49, AI (1 + 2 * (i1 : Int))), (50, .bool (decide ((1 + 2 * (i1 : Int)) < 0))), (51, .bool (decide ((1 + 2 * (i1 : Int)) < 0))), (52, .ref 3), (53, .ref 1), (54, .bool (decide ((noR a) = (noR a)))), (55, .bool (!decide ((noR a) = (noR a)))), (56, .bool (!decide ((noR a) = (noR a)))), (57, .bool (!decide ((noR a) = (noR a)))), (58, AI (noC a)), (59, AI (noC a)), (60, .bool (!decide ((noC a) = (noC a)))), (61, .bool (!decide ((noC a) = (noC a)))), (62, .ref 3), (63, AI 1)]) (by kernel_rfl) (by kernel_rfl) (by kernel_rfl) ?_)
          have hi2 : i2 = (noR a).length := by omega
          have hx2 : markTo (noR a) 1 i2 = marks (markTo (noR a) 1 i2).length 1 := by rw [hl2, hi2]; exact markTo_all _ _ _ rfl
          refine R.go 10 (R.call false (heldNodeS_c (markTo (noR a) 1 i2) 1 (by first | omega | (simp <;> omega)) (by omega) (by assumption)) (by kernel_rfl) rfl (by kernel_rfl) ?_)
          refine R.go 8 (R.cond ((1 + 2 * ((markTo (noR a) 1 i2).length : Int)) < 0) (by kernel_rfl) (fun c15 => ?_) (fun c15 => ?_))
          · exact R.go 4 (R.retE (.bool false) (by kernel_rfl) (by kernel_rfl) (by first | (rfl) | (exfalso; omega)))
          · refine R.go 8 (R.condN ((1 + 2 * ((markTo (noR a) 1 i2).length : Int)) = (1 + 2 * (i2 : Int))) (by kernel_rfl) (fun c16 => ?_) (fun c16 => ?_))
            · exact R.go 4 (R.retE (.bool false) (by kernel_rfl) (by kernel_rfl) (by first | (rfl) | (exfalso; omega)))
            · refine R.go 4 (R.call true (toNodeS_c a hl) (by kernel_rfl) rfl (by kernel_rfl) ?_)
              refine R.call false (NO_impl a hl) (by kernel_rfl) (by simp [AV.closed, closedL, AI, ownA_closed eN_closed]) (by kernel_rfl) ?_
              refine R.go 11 (R.call false (eqNodeS_c (noR a) (noR a) (by first | omega | (simp <;> omega))) (by kernel_rfl) rfl (by kernel_rfl) ?_)
              refine R.go 2 (R.want (!decide ((noR a) = (noR a))) false (by kernel_rfl) (nF rfl) ?_)
              refine R.go 1 (R.want (!decide ((noR a) = (noR a))) false (by kernel_rfl) (nF rfl) ?_)
              refine R.go 1 (R.want (!decide ((noR a) = (noR a))) false (by kernel_rfl) (nF rfl) ?_)
              refine R.go 1 (R.pick (!decide ((noR a) = (noR a))) false (by kernel_rfl) (nF rfl) (by kernel_rfl) ?_)
              refine R.go 1 (R.els (!decide ((noC a) = (noC a))) (by kernel_rfl) (nF rfl) ?_)
              refine R.go 9 (R.call false (heldNodeS_c (markTo (noR a) 1 i2) 1 (by first | omega | (simp <;> omega)) (by omega) (by assumption)) (by kernel_rfl) rfl (by kernel_rfl) ?_)
              refine R.go 8 (R.els (decide ((1 + 2 * ((markTo (noR a) 1 i2).length : Int)) < 0)) (by kernel_rfl) (dF c15) ?_)
              refine R.go 8 (R.els (!decide ((1 + 2 * ((markTo (noR a) 1 i2).length : Int)) = (1 + 2 * (i2 : Int)))) (by kernel_rfl) (nF c16) ?_)
              exact R.go 5 (R.retE (.bool true) (by kernel_rfl) (by kernel_rfl) (by rfl))

theorem lawNishimuraOf_1 (a : List (Int × Int)) (hx : 1048576 < a.length) (hb : a.length ≤ 9223372036854775807) : CallA Try.prog 5 [LN a] (.bool true) := by
  refine CallA.of Try.func5 rfl (by kernel_rfl) ?_
  refine R.go 12 (R.call true (szNodeS_no a 1048576 (by omega) (by first | omega | (simp <;> omega)) hb) (by kernel_rfl) rfl (by kernel_rfl) ?_)
  exact R.go 13 (R.retE (.bool true) (by kernel_rfl) (by kernel_rfl) (by rfl))

theorem lawNishimuraOf (a : List (Int × Int)) (m0 : a.length ≤ maxLen) : CallA Try.prog 5 [LN a] (.bool true) := by
  have hm : maxLen ≤ 9223372036854775807 := by decide
  rcases Nat.lt_or_ge 1048576 (a.length) with h0 | h0
  · exact lawNishimuraOf_1 a h0 (by omega)
  exact lawNishimuraOf_in a h0

end Go.Proofs.Yteblikpghnnclaa
