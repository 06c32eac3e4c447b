/- The ladder's law. -/
import Derived.Test.YtfkdkhlimdkehaaGreatD03
namespace Go.Proofs.YtfkdkhlimdkehaaGreat
open Go.RowKit Go.Abs

theorem djoinG_c (c : List Int) (k i j : Int) (hc : BY c) (hk : k = djK c) (hi : i = djI c) (hj : j = djJ c) : CallA Tryz.prog 15 [LB c] (.tup [AI k, AI i, AI j]) := by rw [hk, hi, hj]; exact djoin_c c hc

theorem big_c (c : List Int) : CallA Tryz.prog 14 [LB c] (.bool (decide ((c.length : Int) > 4096))) := by
  refine CallA.of Tryz.func14 rfl (by kernel_rfl) ?_
  exact R.go 11 (R.retE (.bool (decide ((c.length : Int) > 4096))) (by kernel_rfl) (by kernel_rfl) (by rfl))

theorem full8_c : CallA Tryz.prog 26 [AI 8] (AI 255) := by
  refine CallA.of Tryz.func26 rfl (by kernel_rfl) ?_
  exact R.go 24 (R.retE (AI 255) (by kernel_rfl) (by kernel_rfl) (by rfl))

theorem lawLadder_c (c : List Int) (hcb : ∀ q : Nat, q < c.length → 0 ≤ c.getD q 0 ∧ c.getD q 0 ≤ 255) : CallA Tryz.prog 4 [LB c] (.bool true) := by
  obtain ⟨k, hkE⟩ : ∃ k, k = djK c := ⟨_, rfl⟩
  obtain ⟨i, hiE⟩ : ∃ i, i = djI c := ⟨_, rfl⟩
  obtain ⟨j, hjE⟩ : ∃ j, j = djJ c := ⟨_, rfl⟩
  refine CallA.of Tryz.func4 rfl (by kernel_rfl) ?_
  refine R.go 8 (R.call true (big_c c) (by kernel_rfl) rfl (by kernel_rfl) ?_)
  refine R.go 1 (R.cond ((c.length : Int) > 4096) (by kernel_rfl) (fun c1 => ?_) (fun c1 => ?_))
  · exact R.go 4 (R.retE (.bool true) (by kernel_rfl) (by kernel_rfl) (by rfl))
  · have hc : BY c := ⟨by omega, hcb⟩
    refine R.go 4 (R.call true (djoinG_c c k i j hc (by assumption) (by assumption) (by assumption)) (by kernel_rfl) rfl (by kernel_rfl) ?_)
    refine R.go 13 (R.call true (JI_impl k i j) (by kernel_rfl) rfl (by kernel_rfl) ?_)
    refine R.go 11 (R.call true (JI_spec k i j) (by kernel_rfl) rfl (by kernel_rfl) ?_)
    refine R.go 13 (R.want (!decide ((joinC k i j) = (joinC k i j))) false (by kernel_rfl) (nF rfl) ?_)
    refine R.go 1 (R.want (!decide ((joinC k i j) = (joinC k i j))) false (by kernel_rfl) (nF rfl) ?_)
    refine R.go 1 (R.want (!decide ((joinC k i j) = (joinC k i j))) false (by kernel_rfl) (nF rfl) ?_)
    refine R.go 1 (R.pick (!decide ((joinC k i j) = (joinC k i j))) false (by kernel_rfl) (nF rfl) (by kernel_rfl) ?_)
    refine R.go 1 (R.els (!decide ((joinI k i j) = (joinI k i j))) (by kernel_rfl) (nF rfl) ?_)
    refine R.go 7 (R.condN ((joinC k i j) = 0) (by kernel_rfl) (fun c2 => ?_) (fun c2 => ?_))
    · exact R.go 6 (R.retE (.bool (decide ((joinI k i j) = 0))) (by kernel_rfl) (by kernel_rfl) (by first | (first | rfl | exact congrArg AV.bool (decide_eq_true (joinI_no (by assumption))) | exact congrArg AV.bool (decide_eq_true hfs) | (exfalso; exact absurd (by assumption : (decide (bnot (setI i) (setI j) = 0) == decide (bnot (setI i) (setI j) = 0)) = false) (by simp)) | (exfalso; exact absurd hval (by assumption)) | (exfalso; exact absurd hfs (by assumption)) | (exfalso; exact absurd hfc (by omega)) | (exfalso; have hb := bel_eq hlok (by assumption); simp_all)) | (exfalso; omega)))
    · have hz : joinC k i j = 0 := by first | assumption | omega
      have hlok := lok_of hz
      refine R.go 5 (R.call true (IB_impl i j (by first | assumption | exact LOK.hi (by assumption)) (by first | assumption | exact LOK.hj (by assumption))) (by kernel_rfl) rfl (by kernel_rfl) ?_)
      refine R.go 9 (R.call true (IS_impl i (by first | assumption | exact LOK.hi (by assumption) | exact LOK.hj (by assumption))) (by kernel_rfl) rfl (by kernel_rfl) ?_)
      refine R.go 9 (R.call true (IS_impl j (by first | assumption | exact LOK.hi (by assumption) | exact LOK.hj (by assumption))) (by kernel_rfl) rfl (by kernel_rfl) ?_)
      refine R.go 24 ?_
      refine (Bool.eq_false_or_eq_true (((decide (bnot (setI i) (setI j) = 0)) == (decide ((bnot (setI i) (setI j)) = 0))))).elim (fun c3 => ?_) (fun c3 => ?_)
      · refine R.want (!((decide (bnot (setI i) (setI j) = 0)) == (decide ((bnot (setI i) (setI j)) = 0)))) false (by kernel_rfl) (bnF c3) ?_
        refine R.go 1 (R.want (!((decide (bnot (setI i) (setI j) = 0)) == (decide ((bnot (setI i) (setI j)) = 0)))) false (by kernel_rfl) (bnF c3) ?_)
        refine R.go 1 (R.want (!((decide (bnot (setI i) (setI j) = 0)) == (decide ((bnot (setI i) (setI j)) = 0)))) false (by kernel_rfl) (bnF c3) ?_)
        refine R.go 1 ?_
        by_cases c4 : k = 4
        · refine R.want (decide (k = 4)) true (by kernel_rfl) (dT c4) ?_
          refine R.go 1 (R.want (decide (k = 4)) true (by kernel_rfl) (dT c4) ?_)
          refine R.go 1 (R.want (decide (k = 4)) true (by kernel_rfl) (dT c4) ?_)
          refine R.go 1 (R.want (decide (k = 4)) true (by kernel_rfl) (dT c4) ?_)
          refine R.go 1 (R.want (!((decide (bnot (setI i) (setI j) = 0)) == (decide ((bnot (setI i) (setI j)) = 0)))) false (by kernel_rfl) (bnF c3) ?_)
          refine R.pick (decide (k = 4)) true (by kernel_rfl) (dT c4) (by kernel_rfl) ?_
          refine R.pick (!((decide (bnot (setI i) (setI j) = 0)) == (decide ((bnot (setI i) (setI j)) = 0)))) false (by kernel_rfl) (bnF c3) (by kernel_rfl) ?_
          refine R.go 1 (R.condM (((decide (bnot (setI i) (setI j) = 0)) == (decide ((joinI k i j) = (-1))))) (by kernel_rfl) (fun c5 => ?_) (fun c5 => ?_))
          · exact R.go 4 (R.retE (.bool false) (by kernel_rfl) (by kernel_rfl) (by first | (first | rfl | exact congrArg AV.bool (decide_eq_true (joinI_no (by assumption))) | exact congrArg AV.bool (decide_eq_true hfs) | (exfalso; exact absurd (by assumption : (decide (bnot (setI i) (setI j) = 0) == decide (bnot (setI i) (setI j) = 0)) = false) (by simp)) | (exfalso; exact absurd hval (by assumption)) | (exfalso; exact absurd hfs (by assumption)) | (exfalso; exact absurd hfc (by omega)) | (exfalso; have hb := bel_eq hlok (by assumption); simp_all)) | (exfalso; omega)))
          · refine R.go 7 ?_
            by_cases c6 : i < 0
            · refine R.skp (decide (i < 0)) false (by kernel_rfl) (dT c6) (by kernel_rfl) ?_
              refine R.skp (decide (i < 0)) false (by kernel_rfl) (dT c6) (by kernel_rfl) ?_
              refine R.pick (decide (i < 0)) true (by kernel_rfl) (dT c6) (by kernel_rfl) ?_
              exact R.go 14 (R.retE (.bool true) (by kernel_rfl) (by kernel_rfl) (by rfl))
            · refine R.want (decide (i < 0)) false (by kernel_rfl) (dF c6) ?_
              refine R.go 1 (R.want (decide (i < 0)) false (by kernel_rfl) (dF c6) ?_)
              refine R.go 1 (R.pick (decide (i < 0)) false (by kernel_rfl) (dF c6) (by kernel_rfl) ?_)
              refine R.go 1 ?_
              by_cases c7 : i > 8
              · refine R.skp (decide (i > 8)) false (by kernel_rfl) (dT c7) (by kernel_rfl) ?_
                refine R.skp (decide (i > 8)) false (by kernel_rfl) (dT c7) (by kernel_rfl) ?_
                refine R.pick (decide (i > 8)) true (by kernel_rfl) (dT c7) (by kernel_rfl) ?_
                exact R.go 10 (R.retE (.bool true) (by kernel_rfl) (by kernel_rfl) (by rfl))
              · refine R.want (decide (i > 8)) false (by kernel_rfl) (dF c7) ?_
                refine R.go 1 (R.want (decide (i > 8)) false (by kernel_rfl) (dF c7) ?_)
                refine R.go 1 (R.pick (decide (i > 8)) false (by kernel_rfl) (dF c7) (by kernel_rfl) ?_)
                refine R.go 1 ?_
                by_cases c8 : j < 0
                · refine R.skp (decide (j < 0)) false (by kernel_rfl) (dT c8) (by kernel_rfl) ?_
                  refine R.skp (decide (j < 0)) false (by kernel_rfl) (dT c8) (by kernel_rfl) ?_
                  refine R.pick (decide (j < 0)) true (by kernel_rfl) (dT c8) (by kernel_rfl) ?_
                  exact R.go 6 (R.retE (.bool true) (by kernel_rfl) (by kernel_rfl) (by rfl))
                · refine R.want (decide (j < 0)) false (by kernel_rfl) (dF c8) ?_
                  refine R.go 1 (R.want (decide (j < 0)) false (by kernel_rfl) (dF c8) ?_)
                  refine R.go 1 (R.pick (decide (j < 0)) false (by kernel_rfl) (dF c8) (by kernel_rfl) ?_)
                  refine R.go 1 (R.cond (j > 8) (by kernel_rfl) (fun c9 => ?_) (fun c9 => ?_))
                  · exact R.go 4 (R.retE (.bool true) (by kernel_rfl) (by kernel_rfl) (by rfl))
                  · have hi8 : 0 ≤ i ∧ i ≤ 8 := by omega
                    have hj8 : 0 ≤ j ∧ j ≤ 8 := by omega
                    have hFi := nishi_F hi8
                    have hFj := nishi_F hj8
                    have hF1 := hFi.1
                    have hF2 := hFj.1
                    refine R.go 4 (R.call true (NFI_impl i hi8).frz (by kernel_rfl) rfl (by kernel_rfl) ?_)
                    refine R.go 9 (R.call true (NFI_impl j hj8).frz (by kernel_rfl) rfl (by kernel_rfl) ?_)
                    refine R.go 8 ?_
                    by_cases c10 : (nishi i.toNat).length + (nishi j.toNat).length ≤ 39
                    · refine R.go 3 (R.call true (JF_in k (nishi i.toNat) (nishi j.toNat) (by first | assumption | exact LOK.hk (by assumption)) (by assumption) (by assumption) (by first | omega | (simp <;> omega)) (by first | omega | (simp <;> omega)) c10).frz (by kernel_rfl) rfl (by kernel_rfl) ?_)
                      have hzk := zok hlok hi8 hj8 (by assumption)
                      have hcode : lcode ((k, 0) :: (nishi i.toNat ++ nishi j.toNat)) = 0 := hzk.code
                      have hval : idx (fv impI [1] ((k, 0) :: (nishi i.toNat ++ nishi j.toNat))) = joinI k i j := hzk.val
                      have hset := z_set hzk
                      have hfc : fcode 8 (lad 8) [1, 0, 0, 0, 0, 0] ((k, 0) :: (nishi i.toNat ++ nishi j.toNat)) = 0 := hset.1
                      have hfs : fset 8 (lad 8) [1, 0, 0, 0, 0, 0] ((k, 0) :: (nishi i.toNat ++ nishi j.toNat)) = band (lval ((k, 0) :: (nishi i.toNat ++ nishi j.toNat))) 255 := hset.2
                      have hzl : (((k, 0) :: (nishi i.toNat ++ nishi j.toNat))).length ≤ 2001 := by simp; omega
                      refine R.go 27 (R.call true (NIZ_impl ((k, 0) :: ((nishi i.toNat) ++ (nishi j.toNat))) (by first | assumption | exact ZOK.code (by assumption)) (by first | omega | (simp <;> omega))) (by kernel_rfl) rfl (by kernel_rfl) ?_)
                      refine R.go 8 (R.call true (LP_impl) (by kernel_rfl) rfl (by kernel_rfl) ?_)
                      refine R.go 10 (R.lit (s := 1) (n := 6) (cs := rows eI [1, 0, 0, 0, 0, 0]) (by kernel_rfl) (by kernel_rfl) ?_)
                      refine R.go 1 (R.call true (FS_impl 8 (lad 8) [1, 0, 0, 0, 0, 0] ((k, 0) :: ((nishi i.toNat) ++ (nishi j.toNat))) (by first | omega | (simp <;> omega)) (by first | omega | (simp <;> omega)) (by first | omega | (simp <;> omega))) (by kernel_rfl) rfl (by kernel_rfl) ?_)
                      refine R.go 9 (R.call true (LV_impl ((k, 0) :: ((nishi i.toNat) ++ (nishi j.toNat))) (by first | omega | (simp <;> omega))) (by kernel_rfl) rfl (by kernel_rfl) ?_)
                      refine R.go 12 (R.ar (0 + (fcode 8 (lad 8) [1, 0, 0, 0, 0, 0] ((k, 0) :: ((nishi i.toNat) ++ (nishi j.toNat))))) (by kernel_rfl) (by omega) (by omega) (by kernel_rfl) ?_)
                      refine R.go 1 (R.ar ((0 + (fcode 8 (lad 8) [1, 0, 0, 0, 0, 0] ((k, 0) :: ((nishi i.toNat) ++ (nishi j.toNat))))) + (lcode ((k, 0) :: ((nishi i.toNat) ++ (nishi j.toNat))))) (by kernel_rfl) (by omega) (by omega) (by kernel_rfl) ?_)
                      refine R.go 2 ?_
                      by_cases c11 : ((0 + (fcode 8 (lad 8) [1, 0, 0, 0, 0, 0] ((k, 0) :: ((nishi i.toNat) ++ (nishi j.toNat))))) + (lcode ((k, 0) :: ((nishi i.toNat) ++ (nishi j.toNat))))) = 0
                      · refine R.want (decide (((0 + (fcode 8 (lad 8) [1, 0, 0, 0, 0, 0] ((k, 0) :: ((nishi i.toNat) ++ (nishi j.toNat))))) + (lcode ((k, 0) :: ((nishi i.toNat) ++ (nishi j.toNat))))) = 0)) true (by kernel_rfl) (dT c11) ?_
                        refine R.go 1 (R.want (decide (((0 + (fcode 8 (lad 8) [1, 0, 0, 0, 0, 0] ((k, 0) :: ((nishi i.toNat) ++ (nishi j.toNat))))) + (lcode ((k, 0) :: ((nishi i.toNat) ++ (nishi j.toNat))))) = 0)) true (by kernel_rfl) (dT c11) ?_)
                        refine R.go 1 (R.want (decide (((0 + (fcode 8 (lad 8) [1, 0, 0, 0, 0, 0] ((k, 0) :: ((nishi i.toNat) ++ (nishi j.toNat))))) + (lcode ((k, 0) :: ((nishi i.toNat) ++ (nishi j.toNat))))) = 0)) true (by kernel_rfl) (dT c11) ?_)
                        refine R.go 1 (R.pick (decide (((0 + (fcode 8 (lad 8) [1, 0, 0, 0, 0, 0] ((k, 0) :: ((nishi i.toNat) ++ (nishi j.toNat))))) + (lcode ((k, 0) :: ((nishi i.toNat) ++ (nishi j.toNat))))) = 0)) true (by kernel_rfl) (dT c11) (by kernel_rfl) ?_)
                        refine R.go 1 ?_
                        by_cases c12 : (idx (fv impI [1] ((k, 0) :: ((nishi i.toNat) ++ (nishi j.toNat))))) = (joinI k i j)
                        · refine R.want (decide ((idx (fv impI [1] ((k, 0) :: ((nishi i.toNat) ++ (nishi j.toNat))))) = (joinI k i j))) true (by kernel_rfl) (dT c12) ?_
                          refine R.go 1 (R.want (decide ((idx (fv impI [1] ((k, 0) :: ((nishi i.toNat) ++ (nishi j.toNat))))) = (joinI k i j))) true (by kernel_rfl) (dT c12) ?_)
                          refine R.go 1 (R.want (decide ((idx (fv impI [1] ((k, 0) :: ((nishi i.toNat) ++ (nishi j.toNat))))) = (joinI k i j))) true (by kernel_rfl) (dT c12) ?_)
                          refine R.call true (full8_c) (by kernel_rfl) rfl (by kernel_rfl) ?_
                          refine R.want (decide ((idx (fv impI [1] ((k, 0) :: ((nishi i.toNat) ++ (nishi j.toNat))))) = (joinI k i j))) true (by kernel_rfl) (dT c12) ?_
                          refine R.go 1 (R.want (decide ((idx (fv impI [1] ((k, 0) :: ((nishi i.toNat) ++ (nishi j.toNat))))) = (joinI k i j))) true (by kernel_rfl) (dT c12) ?_)
                          refine R.go 1 (R.pick (decide ((idx (fv impI [1] ((k, 0) :: ((nishi i.toNat) ++ (nishi j.toNat))))) = (joinI k i j))) true (by kernel_rfl) (dT c12) (by kernel_rfl) ?_)
                          exact R.go 2 (R.retE (.bool (decide ((fset 8 (lad 8) [1, 0, 0, 0, 0, 0] ((k, 0) :: ((nishi i.toNat) ++ (nishi j.toNat)))) = (band (lval ((k, 0) :: ((nishi i.toNat) ++ (nishi j.toNat)))) 255)))) (by kernel_rfl) (by kernel_rfl) (by first | (first | rfl | exact congrArg AV.bool (decide_eq_true (joinI_no (by assumption))) | exact congrArg AV.bool (decide_eq_true hfs) | (exfalso; exact absurd (by assumption : (decide (bnot (setI i) (setI j) = 0) == decide (bnot (setI i) (setI j) = 0)) = false) (by simp)) | (exfalso; exact absurd hval (by assumption)) | (exfalso; exact absurd hfs (by assumption)) | (exfalso; exact absurd hfc (by omega)) | (exfalso; have hb := bel_eq hlok (by assumption); simp_all)) | (exfalso; omega)))
                        · refine R.skp (decide ((idx (fv impI [1] ((k, 0) :: ((nishi i.toNat) ++ (nishi j.toNat))))) = (joinI k i j))) true (by kernel_rfl) (dF c12) (by kernel_rfl) ?_
                          refine R.skp (decide ((idx (fv impI [1] ((k, 0) :: ((nishi i.toNat) ++ (nishi j.toNat))))) = (joinI k i j))) true (by kernel_rfl) (dF c12) (by kernel_rfl) ?_
                          refine R.skp (decide ((idx (fv impI [1] ((k, 0) :: ((nishi i.toNat) ++ (nishi j.toNat))))) = (joinI k i j))) true (by kernel_rfl) (dF c12) (by kernel_rfl) ?_
                          refine R.skp (decide ((idx (fv impI [1] ((k, 0) :: ((nishi i.toNat) ++ (nishi j.toNat))))) = (joinI k i j))) true (by kernel_rfl) (dF c12) (by kernel_rfl) ?_
                          refine R.skp (decide ((idx (fv impI [1] ((k, 0) :: ((nishi i.toNat) ++ (nishi j.toNat))))) = (joinI k i j))) true (by kernel_rfl) (dF c12) (by kernel_rfl) ?_
                          refine R.pick (decide ((idx (fv impI [1] ((k, 0) :: ((nishi i.toNat) ++ (nishi j.toNat))))) = (joinI k i j))) false (by kernel_rfl) (dF c12) (by kernel_rfl) ?_
                          exact R.go 2 (R.retE (.bool false) (by kernel_rfl) (by kernel_rfl) (by first | (first | rfl | exact congrArg AV.bool (decide_eq_true (joinI_no (by assumption))) | exact congrArg AV.bool (decide_eq_true hfs) | (exfalso; exact absurd (by assumption : (decide (bnot (setI i) (setI j) = 0) == decide (bnot (setI i) (setI j) = 0)) = false) (by simp)) | (exfalso; exact absurd hval (by assumption)) | (exfalso; exact absurd hfs (by assumption)) | (exfalso; exact absurd hfc (by omega)) | (exfalso; have hb := bel_eq hlok (by assumption); simp_all)) | (exfalso; omega)))
                      · refine R.skp (decide (((0 + (fcode 8 (lad 8) [1, 0, 0, 0, 0, 0] ((k, 0) :: ((nishi i.toNat) ++ (nishi j.toNat))))) + (lcode ((k, 0) :: ((nishi i.toNat) ++ (nishi j.toNat))))) = 0)) true (by kernel_rfl) (dF c11) (by kernel_rfl) ?_
                        refine R.skp (decide (((0 + (fcode 8 (lad 8) [1, 0, 0, 0, 0, 0] ((k, 0) :: ((nishi i.toNat) ++ (nishi j.toNat))))) + (lcode ((k, 0) :: ((nishi i.toNat) ++ (nishi j.toNat))))) = 0)) true (by kernel_rfl) (dF c11) (by kernel_rfl) ?_
                        refine R.skp (decide (((0 + (fcode 8 (lad 8) [1, 0, 0, 0, 0, 0] ((k, 0) :: ((nishi i.toNat) ++ (nishi j.toNat))))) + (lcode ((k, 0) :: ((nishi i.toNat) ++ (nishi j.toNat))))) = 0)) true (by kernel_rfl) (dF c11) (by kernel_rfl) ?_
                        refine R.pick (decide (((0 + (fcode 8 (lad 8) [1, 0, 0, 0, 0, 0] ((k, 0) :: ((nishi i.toNat) ++ (nishi j.toNat))))) + (lcode ((k, 0) :: ((nishi i.toNat) ++ (nishi j.toNat))))) = 0)) false (by kernel_rfl) (dF c11) (by kernel_rfl) ?_
                        exact R.go 9 (R.retE (.bool false) (by kernel_rfl) (by kernel_rfl) (by first | (first | rfl | exact congrArg AV.bool (decide_eq_true (joinI_no (by assumption))) | exact congrArg AV.bool (decide_eq_true hfs) | (exfalso; exact absurd (by assumption : (decide (bnot (setI i) (setI j) = 0) == decide (bnot (setI i) (setI j) = 0)) = false) (by simp)) | (exfalso; exact absurd hval (by assumption)) | (exfalso; exact absurd hfs (by assumption)) | (exfalso; exact absurd hfc (by omega)) | (exfalso; have hb := bel_eq hlok (by assumption); simp_all)) | (exfalso; omega)))
                    · refine R.go 3 (R.call true (JF_out k (nishi i.toNat) (nishi j.toNat) (by first | assumption | exact LOK.hk (by assumption)) (by assumption) (by assumption) (by first | omega | (simp <;> omega)) (by first | omega | (simp <;> omega)) (by first | omega | (simp <;> omega))) (by kernel_rfl) rfl (by kernel_rfl) ?_)
                      exact R.go 29 (R.retE (.bool true) (by kernel_rfl) (by kernel_rfl) (by rfl))
        · refine R.skp (decide (k = 4)) true (by kernel_rfl) (dF c4) (by kernel_rfl) ?_
          refine R.skp (decide (k = 4)) true (by kernel_rfl) (dF c4) (by kernel_rfl) ?_
          refine R.skp (decide (k = 4)) true (by kernel_rfl) (dF c4) (by kernel_rfl) ?_
          refine R.skp (decide (k = 4)) true (by kernel_rfl) (dF c4) (by kernel_rfl) ?_
          refine R.want (!((decide (bnot (setI i) (setI j) = 0)) == (decide ((bnot (setI i) (setI j)) = 0)))) false (by kernel_rfl) (bnF c3) ?_
          refine R.pick (decide (k = 4)) false (by kernel_rfl) (dF c4) (by kernel_rfl) ?_
          refine R.pick (!((decide (bnot (setI i) (setI j) = 0)) == (decide ((bnot (setI i) (setI j)) = 0)))) false (by kernel_rfl) (bnF c3) (by kernel_rfl) ?_
          refine R.go 9 ?_
          by_cases c13 : i < 0
          · refine R.skp (decide (i < 0)) false (by kernel_rfl) (dT c13) (by kernel_rfl) ?_
            refine R.skp (decide (i < 0)) false (by kernel_rfl) (dT c13) (by kernel_rfl) ?_
            refine R.pick (decide (i < 0)) true (by kernel_rfl) (dT c13) (by kernel_rfl) ?_
            exact R.go 14 (R.retE (.bool true) (by kernel_rfl) (by kernel_rfl) (by rfl))
          · refine R.want (decide (i < 0)) false (by kernel_rfl) (dF c13) ?_
            refine R.go 1 (R.want (decide (i < 0)) false (by kernel_rfl) (dF c13) ?_)
            refine R.go 1 (R.pick (decide (i < 0)) false (by kernel_rfl) (dF c13) (by kernel_rfl) ?_)
            refine R.go 1 ?_
            by_cases c14 : i > 8
            · refine R.skp (decide (i > 8)) false (by kernel_rfl) (dT c14) (by kernel_rfl) ?_
              refine R.skp (decide (i > 8)) false (by kernel_rfl) (dT c14) (by kernel_rfl) ?_
              refine R.pick (decide (i > 8)) true (by kernel_rfl) (dT c14) (by kernel_rfl) ?_
              exact R.go 10 (R.retE (.bool true) (by kernel_rfl) (by kernel_rfl) (by rfl))
            · refine R.want (decide (i > 8)) false (by kernel_rfl) (dF c14) ?_
              refine R.go 1 (R.want (decide (i > 8)) false (by kernel_rfl) (dF c14) ?_)
              refine R.go 1 (R.pick (decide (i > 8)) false (by kernel_rfl) (dF c14) (by kernel_rfl) ?_)
              refine R.go 1 ?_
              by_cases c15 : j < 0
              · refine R.skp (decide (j < 0)) false (by kernel_rfl) (dT c15) (by kernel_rfl) ?_
                refine R.skp (decide (j < 0)) false (by kernel_rfl) (dT c15) (by kernel_rfl) ?_
                refine R.pick (decide (j < 0)) true (by kernel_rfl) (dT c15) (by kernel_rfl) ?_
                exact R.go 6 (R.retE (.bool true) (by kernel_rfl) (by kernel_rfl) (by rfl))
              · refine R.want (decide (j < 0)) false (by kernel_rfl) (dF c15) ?_
                refine R.go 1 (R.want (decide (j < 0)) false (by kernel_rfl) (dF c15) ?_)
                refine R.go 1 (R.pick (decide (j < 0)) false (by kernel_rfl) (dF c15) (by kernel_rfl) ?_)
                refine R.go 1 (R.cond (j > 8) (by kernel_rfl) (fun c16 => ?_) (fun c16 => ?_))
                · exact R.go 4 (R.retE (.bool true) (by kernel_rfl) (by kernel_rfl) (by rfl))
                · have hi8 : 0 ≤ i ∧ i ≤ 8 := by omega
                  have hj8 : 0 ≤ j ∧ j ≤ 8 := by omega
                  have hFi := nishi_F hi8
                  have hFj := nishi_F hj8
                  have hF1 := hFi.1
                  have hF2 := hFj.1
                  refine R.go 4 (R.call true (NFI_impl i hi8).frz (by kernel_rfl) rfl (by kernel_rfl) ?_)
                  refine R.go 9 (R.call true (NFI_impl j hj8).frz (by kernel_rfl) rfl (by kernel_rfl) ?_)
                  refine R.go 8 ?_
                  by_cases c17 : (nishi i.toNat).length + (nishi j.toNat).length ≤ 39
                  · refine R.go 3 (R.call true (JF_in k (nishi i.toNat) (nishi j.toNat) (by first | assumption | exact LOK.hk (by assumption)) (by assumption) (by assumption) (by first | omega | (simp <;> omega)) (by first | omega | (simp <;> omega)) c17).frz (by kernel_rfl) rfl (by kernel_rfl) ?_)
                    have hzk := zok hlok hi8 hj8 (by assumption)
                    have hcode : lcode ((k, 0) :: (nishi i.toNat ++ nishi j.toNat)) = 0 := hzk.code
                    have hval : idx (fv impI [1] ((k, 0) :: (nishi i.toNat ++ nishi j.toNat))) = joinI k i j := hzk.val
                    have hset := z_set hzk
                    have hfc : fcode 8 (lad 8) [1, 0, 0, 0, 0, 0] ((k, 0) :: (nishi i.toNat ++ nishi j.toNat)) = 0 := hset.1
                    have hfs : fset 8 (lad 8) [1, 0, 0, 0, 0, 0] ((k, 0) :: (nishi i.toNat ++ nishi j.toNat)) = band (lval ((k, 0) :: (nishi i.toNat ++ nishi j.toNat))) 255 := hset.2
                    have hzl : (((k, 0) :: (nishi i.toNat ++ nishi j.toNat))).length ≤ 2001 := by simp; omega
                    refine R.go 27 (R.call true (NIZ_impl ((k, 0) :: ((nishi i.toNat) ++ (nishi j.toNat))) (by first | assumption | exact ZOK.code (by assumption)) (by first | omega | (simp <;> omega))) (by kernel_rfl) rfl (by kernel_rfl) ?_)
                    refine R.go 8 (R.call true (LP_impl) (by kernel_rfl) rfl (by kernel_rfl) ?_)
                    refine R.go 10 (R.lit (s := 1) (n := 6) (cs := rows eI [1, 0, 0, 0, 0, 0]) (by kernel_rfl) (by kernel_rfl) ?_)
                    refine R.go 1 (R.call true (FS_impl 8 (lad 8) [1, 0, 0, 0, 0, 0] ((k, 0) :: ((nishi i.toNat) ++ (nishi j.toNat))) (by first | omega | (simp <;> omega)) (by first | omega | (simp <;> omega)) (by first | omega | (simp <;> omega))) (by kernel_rfl) rfl (by kernel_rfl) ?_)
                    refine R.go 9 (R.call true (LV_impl ((k, 0) :: ((nishi i.toNat) ++ (nishi j.toNat))) (by first | omega | (simp <;> omega))) (by kernel_rfl) rfl (by kernel_rfl) ?_)
                    refine R.go 12 (R.ar (0 + (fcode 8 (lad 8) [1, 0, 0, 0, 0, 0] ((k, 0) :: ((nishi i.toNat) ++ (nishi j.toNat))))) (by kernel_rfl) (by omega) (by omega) (by kernel_rfl) ?_)
                    refine R.go 1 (R.ar ((0 + (fcode 8 (lad 8) [1, 0, 0, 0, 0, 0] ((k, 0) :: ((nishi i.toNat) ++ (nishi j.toNat))))) + (lcode ((k, 0) :: ((nishi i.toNat) ++ (nishi j.toNat))))) (by kernel_rfl) (by omega) (by omega) (by kernel_rfl) ?_)
                    refine R.go 2 ?_
                    by_cases c18 : ((0 + (fcode 8 (lad 8) [1, 0, 0, 0, 0, 0] ((k, 0) :: ((nishi i.toNat) ++ (nishi j.toNat))))) + (lcode ((k, 0) :: ((nishi i.toNat) ++ (nishi j.toNat))))) = 0
                    · refine R.want (decide (((0 + (fcode 8 (lad 8) [1, 0, 0, 0, 0, 0] ((k, 0) :: ((nishi i.toNat) ++ (nishi j.toNat))))) + (lcode ((k, 0) :: ((nishi i.toNat) ++ (nishi j.toNat))))) = 0)) true (by kernel_rfl) (dT c18) ?_
                      refine R.go 1 (R.want (decide (((0 + (fcode 8 (lad 8) [1, 0, 0, 0, 0, 0] ((k, 0) :: ((nishi i.toNat) ++ (nishi j.toNat))))) + (lcode ((k, 0) :: ((nishi i.toNat) ++ (nishi j.toNat))))) = 0)) true (by kernel_rfl) (dT c18) ?_)
                      refine R.go 1 (R.want (decide (((0 + (fcode 8 (lad 8) [1, 0, 0, 0, 0, 0] ((k, 0) :: ((nishi i.toNat) ++ (nishi j.toNat))))) + (lcode ((k, 0) :: ((nishi i.toNat) ++ (nishi j.toNat))))) = 0)) true (by kernel_rfl) (dT c18) ?_)
                      refine R.go 1 (R.pick (decide (((0 + (fcode 8 (lad 8) [1, 0, 0, 0, 0, 0] ((k, 0) :: ((nishi i.toNat) ++ (nishi j.toNat))))) + (lcode ((k, 0) :: ((nishi i.toNat) ++ (nishi j.toNat))))) = 0)) true (by kernel_rfl) (dT c18) (by kernel_rfl) ?_)
                      refine R.go 1 ?_
                      by_cases c19 : (idx (fv impI [1] ((k, 0) :: ((nishi i.toNat) ++ (nishi j.toNat))))) = (joinI k i j)
                      · refine R.want (decide ((idx (fv impI [1] ((k, 0) :: ((nishi i.toNat) ++ (nishi j.toNat))))) = (joinI k i j))) true (by kernel_rfl) (dT c19) ?_
                        refine R.go 1 (R.want (decide ((idx (fv impI [1] ((k, 0) :: ((nishi i.toNat) ++ (nishi j.toNat))))) = (joinI k i j))) true (by kernel_rfl) (dT c19) ?_)
                        refine R.go 1 (R.want (decide ((idx (fv impI [1] ((k, 0) :: ((nishi i.toNat) ++ (nishi j.toNat))))) = (joinI k i j))) true (by kernel_rfl) (dT c19) ?_)
                        refine R.call true (full8_c) (by kernel_rfl) rfl (by kernel_rfl) ?_
                        refine R.want (decide ((idx (fv impI [1] ((k, 0) :: ((nishi i.toNat) ++ (nishi j.toNat))))) = (joinI k i j))) true (by kernel_rfl) (dT c19) ?_
                        refine R.go 1 (R.want (decide ((idx (fv impI [1] ((k, 0) :: ((nishi i.toNat) ++ (nishi j.toNat))))) = (joinI k i j))) true (by kernel_rfl) (dT c19) ?_)
                        refine R.go 1 (R.pick (decide ((idx (fv impI [1] ((k, 0) :: ((nishi i.toNat) ++ (nishi j.toNat))))) = (joinI k i j))) true (by kernel_rfl) (dT c19) (by kernel_rfl) ?_)
                        exact R.go 2 (R.retE (.bool (decide ((fset 8 (lad 8) [1, 0, 0, 0, 0, 0] ((k, 0) :: ((nishi i.toNat) ++ (nishi j.toNat)))) = (band (lval ((k, 0) :: ((nishi i.toNat) ++ (nishi j.toNat)))) 255)))) (by kernel_rfl) (by kernel_rfl) (by first | (first | rfl | exact congrArg AV.bool (decide_eq_true (joinI_no (by assumption))) | exact congrArg AV.bool (decide_eq_true hfs) | (exfalso; exact absurd (by assumption : (decide (bnot (setI i) (setI j) = 0) == decide (bnot (setI i) (setI j) = 0)) = false) (by simp)) | (exfalso; exact absurd hval (by assumption)) | (exfalso; exact absurd hfs (by assumption)) | (exfalso; exact absurd hfc (by omega)) | (exfalso; have hb := bel_eq hlok (by assumption); simp_all)) | (exfalso; omega)))
                      · refine R.skp (decide ((idx (fv impI [1] ((k, 0) :: ((nishi i.toNat) ++ (nishi j.toNat))))) = (joinI k i j))) true (by kernel_rfl) (dF c19) (by kernel_rfl) ?_
                        refine R.skp (decide ((idx (fv impI [1] ((k, 0) :: ((nishi i.toNat) ++ (nishi j.toNat))))) = (joinI k i j))) true (by kernel_rfl) (dF c19) (by kernel_rfl) ?_
                        refine R.skp (decide ((idx (fv impI [1] ((k, 0) :: ((nishi i.toNat) ++ (nishi j.toNat))))) = (joinI k i j))) true (by kernel_rfl) (dF c19) (by kernel_rfl) ?_
                        refine R.skp (decide ((idx (fv impI [1] ((k, 0) :: ((nishi i.toNat) ++ (nishi j.toNat))))) = (joinI k i j))) true (by kernel_rfl) (dF c19) (by kernel_rfl) ?_
                        refine R.skp (decide ((idx (fv impI [1] ((k, 0) :: ((nishi i.toNat) ++ (nishi j.toNat))))) = (joinI k i j))) true (by kernel_rfl) (dF c19) (by kernel_rfl) ?_
                        refine R.pick (decide ((idx (fv impI [1] ((k, 0) :: ((nishi i.toNat) ++ (nishi j.toNat))))) = (joinI k i j))) false (by kernel_rfl) (dF c19) (by kernel_rfl) ?_
                        exact R.go 2 (R.retE (.bool false) (by kernel_rfl) (by kernel_rfl) (by first | (first | rfl | exact congrArg AV.bool (decide_eq_true (joinI_no (by assumption))) | exact congrArg AV.bool (decide_eq_true hfs) | (exfalso; exact absurd (by assumption : (decide (bnot (setI i) (setI j) = 0) == decide (bnot (setI i) (setI j) = 0)) = false) (by simp)) | (exfalso; exact absurd hval (by assumption)) | (exfalso; exact absurd hfs (by assumption)) | (exfalso; exact absurd hfc (by omega)) | (exfalso; have hb := bel_eq hlok (by assumption); simp_all)) | (exfalso; omega)))
                    · refine R.skp (decide (((0 + (fcode 8 (lad 8) [1, 0, 0, 0, 0, 0] ((k, 0) :: ((nishi i.toNat) ++ (nishi j.toNat))))) + (lcode ((k, 0) :: ((nishi i.toNat) ++ (nishi j.toNat))))) = 0)) true (by kernel_rfl) (dF c18) (by kernel_rfl) ?_
                      refine R.skp (decide (((0 + (fcode 8 (lad 8) [1, 0, 0, 0, 0, 0] ((k, 0) :: ((nishi i.toNat) ++ (nishi j.toNat))))) + (lcode ((k, 0) :: ((nishi i.toNat) ++ (nishi j.toNat))))) = 0)) true (by kernel_rfl) (dF c18) (by kernel_rfl) ?_
                      refine R.skp (decide (((0 + (fcode 8 (lad 8) [1, 0, 0, 0, 0, 0] ((k, 0) :: ((nishi i.toNat) ++ (nishi j.toNat))))) + (lcode ((k, 0) :: ((nishi i.toNat) ++ (nishi j.toNat))))) = 0)) true (by kernel_rfl) (dF c18) (by kernel_rfl) ?_
                      refine R.pick (decide (((0 + (fcode 8 (lad 8) [1, 0, 0, 0, 0, 0] ((k, 0) :: ((nishi i.toNat) ++ (nishi j.toNat))))) + (lcode ((k, 0) :: ((nishi i.toNat) ++ (nishi j.toNat))))) = 0)) false (by kernel_rfl) (dF c18) (by kernel_rfl) ?_
                      exact R.go 9 (R.retE (.bool false) (by kernel_rfl) (by kernel_rfl) (by first | (first | rfl | exact congrArg AV.bool (decide_eq_true (joinI_no (by assumption))) | exact congrArg AV.bool (decide_eq_true hfs) | (exfalso; exact absurd (by assumption : (decide (bnot (setI i) (setI j) = 0) == decide (bnot (setI i) (setI j) = 0)) = false) (by simp)) | (exfalso; exact absurd hval (by assumption)) | (exfalso; exact absurd hfs (by assumption)) | (exfalso; exact absurd hfc (by omega)) | (exfalso; have hb := bel_eq hlok (by assumption); simp_all)) | (exfalso; omega)))
                  · refine R.go 3 (R.call true (JF_out k (nishi i.toNat) (nishi j.toNat) (by first | assumption | exact LOK.hk (by assumption)) (by assumption) (by assumption) (by first | omega | (simp <;> omega)) (by first | omega | (simp <;> omega)) (by first | omega | (simp <;> omega))) (by kernel_rfl) rfl (by kernel_rfl) ?_)
                    exact R.go 29 (R.retE (.bool true) (by kernel_rfl) (by kernel_rfl) (by rfl))
      · refine R.skp (!((decide (bnot (setI i) (setI j) = 0)) == (decide ((bnot (setI i) (setI j)) = 0)))) false (by kernel_rfl) (bnT c3) (by kernel_rfl) ?_
        refine R.skp (!((decide (bnot (setI i) (setI j) = 0)) == (decide ((bnot (setI i) (setI j)) = 0)))) false (by kernel_rfl) (bnT c3) (by kernel_rfl) ?_
        refine R.skp (!((decide (bnot (setI i) (setI j) = 0)) == (decide ((bnot (setI i) (setI j)) = 0)))) false (by kernel_rfl) (bnT c3) (by kernel_rfl) ?_
        refine R.go 4 (R.skp (!((decide (bnot (setI i) (setI j) = 0)) == (decide ((bnot (setI i) (setI j)) = 0)))) false (by kernel_rfl) (bnT c3) (by kernel_rfl) ?_)
        refine R.pick (!((decide (bnot (setI i) (setI j) = 0)) == (decide ((bnot (setI i) (setI j)) = 0)))) true (by kernel_rfl) (bnT c3) (by kernel_rfl) ?_
        exact R.go 6 (R.retE (.bool false) (by kernel_rfl) (by kernel_rfl) (by first | (first | rfl | exact congrArg AV.bool (decide_eq_true (joinI_no (by assumption))) | exact congrArg AV.bool (decide_eq_true hfs) | (exfalso; exact absurd (by assumption : (decide (bnot (setI i) (setI j) = 0) == decide (bnot (setI i) (setI j) = 0)) = false) (by simp)) | (exfalso; exact absurd hval (by assumption)) | (exfalso; exact absurd hfs (by assumption)) | (exfalso; exact absurd hfc (by omega)) | (exfalso; have hb := bel_eq hlok (by assumption); simp_all)) | (exfalso; omega)))

end Go.Proofs.YtfkdkhlimdkehaaGreat
