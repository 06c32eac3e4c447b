/- Consequence on a frame: reference, program, harness of lists of formulas. -/
import Derived.Test.YtkmjijomengoiaaQ11
namespace Go.Proofs.Ytkmjijomengoiaa
open Go.RowKit Go.Abs

theorem specLocal_c (n : Int) (xs : List Int) (l : List (List (Int × Int))) (a : List (Int × Int)) (lx : xs.length ≤ 1048576) (hlim : lim l) (hl : a.length ≤ 1048576) : CallA Try.prog 47 [.agg [AI n, LI xs], LLN l, LN a] (.tup [.bool (csB false n xs l a), AI (scode n xs (l ++ [a]))]) := by
  have hs : shortL (l ++ [a]) := shortL_app hlim hl
  have hll0 := hlim.1
  refine CallA.of Try.func47 rfl (by kernel_rfl) ?_
  refine R.go 7 (R.any (by decide +kernel) (by kernel_rfl) ?_)
  refine R.anyF 2 (by kernel_rfl) (np_ret _ _ _) ?_
  refine R.anyF 4 (by kernel_rfl) (np_ret _ _ _) ?_
  refine R.any3 0 1 5 (by kernel_rfl) (by kernel_rfl) ?_ ?_ ?_
  · refine R.go 2 (R.any2 1 5 (by kernel_rfl) (by kernel_rfl) ?_ ?_)
    · refine R.go 2 (R.any2 3 5 (by kernel_rfl) (by kernel_rfl) ?_ ?_)
      · refine R.app eLN [] l 1 33 1 24 (by kernel_rfl) eLN_one (by decide) (by first | omega | (simp <;> omega)) (by kernel_rfl) ?_
        refine R.go 1 (R.any1 5 (by kernel_rfl) (by kernel_rfl) ?_)
        refine R.go 2 (R.any1 6 (by kernel_rfl) (by kernel_rfl) ?_)
        refine R.app eLN ([] ++ l) [a] 1 33 1 24 (by kernel_rfl) eLN_one (by decide) (by first | omega | (simp <;> omega)) (by kernel_rfl) ?_
        refine R.go 1 (R.any1 7 (by kernel_rfl) (by kernel_rfl) ?_)
        refine R.call false (l06Code_c n xs ([] ++ l ++ [a]) (by first | omega | (simp <;> omega)) (by first | assumption | exact shortL_one (by omega))) (by kernel_rfl) rfl (by kernel_rfl) ?_
        refine R.go 1 (R.any1 8 (by kernel_rfl) (by kernel_rfl) ?_)
        refine R.go 2 (R.any0 (by kernel_rfl) ?_)
        refine R.go 6 (R.condN ((scode n xs ([] ++ l ++ [a])) = 0) (by kernel_rfl) (fun c1 => ?_) (fun c1 => ?_))
        · exact R.go 6 (R.retE (.tup [.bool false, AI (scode n xs ([] ++ l ++ [a]))]) (by kernel_rfl) (by kernel_rfl) (by first | (refine tupB ?_ ?_ <;> first | exact csB_bad (by assumption) | rfl | exact hm.symm | (rw [csB, decide_eq_true hm, Bool.true_and])) | (exfalso; omega)))
        · have hm : scode n xs (l ++ [a]) = 0 := by assumption
          have hsc := scode_ok hm
          have hF : allF (l ++ [a]) = true := hsc.2.1
          have hR : okFr n xs = true := hsc.1
          have hfit0 : n * ((mem (vmT (l ++ [a]) (l ++ [a]).length)).length : Int) ≤ 16 := hsc.2.2
          refine R.go 6 (R.call true (l06Follows_c n xs l a false hF hR hfit0 hlim hl) (by kernel_rfl) rfl (by kernel_rfl) ?_)
          exact R.go 3 (R.retE (.tup [.bool ((fstN (badC false n xs (mem (vmT (l ++ [a]) (l ++ [a]).length)) l a) (totN n (mem (vmT (l ++ [a]) (l ++ [a]).length)))).isNone), AI 0]) (by kernel_rfl) (by kernel_rfl) (by first | (refine tupB ?_ ?_ <;> first | exact csB_bad (by assumption) | rfl | exact hm.symm | (rw [csB, decide_eq_true hm, Bool.true_and])) | (exfalso; omega)))
      · refine R.go 2 (R.any1 3 (by kernel_rfl) (by kernel_rfl) ?_)
        refine R.app eLN [] l 1 33 1 24 (by kernel_rfl) eLN_one (by decide) (by first | omega | (simp <;> omega)) (by kernel_rfl) ?_
        refine R.go 1 (R.any1 6 (by kernel_rfl) (by kernel_rfl) ?_)
        refine R.app eLN ([] ++ l) [a] 1 33 1 24 (by kernel_rfl) eLN_one (by decide) (by first | omega | (simp <;> omega)) (by kernel_rfl) ?_
        refine R.go 1 (R.any1 7 (by kernel_rfl) (by kernel_rfl) ?_)
        refine R.call false (l06Code_c n xs ([] ++ l ++ [a]) (by first | omega | (simp <;> omega)) (by first | assumption | exact shortL_one (by omega))) (by kernel_rfl) rfl (by kernel_rfl) ?_
        refine R.go 1 (R.any1 8 (by kernel_rfl) (by kernel_rfl) ?_)
        refine R.go 2 (R.any0 (by kernel_rfl) ?_)
        refine R.go 6 (R.condN ((scode n xs ([] ++ l ++ [a])) = 0) (by kernel_rfl) (fun c2 => ?_) (fun c2 => ?_))
        · exact R.go 6 (R.retE (.tup [.bool false, AI (scode n xs ([] ++ l ++ [a]))]) (by kernel_rfl) (by kernel_rfl) (by first | (refine tupB ?_ ?_ <;> first | exact csB_bad (by assumption) | rfl | exact hm.symm | (rw [csB, decide_eq_true hm, Bool.true_and])) | (exfalso; omega)))
        · have hm : scode n xs (l ++ [a]) = 0 := by assumption
          have hsc := scode_ok hm
          have hF : allF (l ++ [a]) = true := hsc.2.1
          have hR : okFr n xs = true := hsc.1
          have hfit0 : n * ((mem (vmT (l ++ [a]) (l ++ [a]).length)).length : Int) ≤ 16 := hsc.2.2
          refine R.go 6 (R.call true (l06Follows_c n xs l a false hF hR hfit0 hlim hl) (by kernel_rfl) rfl (by kernel_rfl) ?_)
          exact R.go 3 (R.retE (.tup [.bool ((fstN (badC false n xs (mem (vmT (l ++ [a]) (l ++ [a]).length)) l a) (totN n (mem (vmT (l ++ [a]) (l ++ [a]).length)))).isNone), AI 0]) (by kernel_rfl) (by kernel_rfl) (by first | (refine tupB ?_ ?_ <;> first | exact csB_bad (by assumption) | rfl | exact hm.symm | (rw [csB, decide_eq_true hm, Bool.true_and])) | (exfalso; omega)))
    · refine R.go 2 (R.any1 1 (by kernel_rfl) (by kernel_rfl) ?_)
      refine R.go 2 (R.any1 3 (by kernel_rfl) (by kernel_rfl) ?_)
      refine R.app eLN [] l 2 33 1 24 (by kernel_rfl) eLN_one (by decide) (by first | omega | (simp <;> omega)) (by kernel_rfl) ?_
      refine R.go 1 (R.any1 6 (by kernel_rfl) (by kernel_rfl) ?_)
      refine R.app eLN ([] ++ l) [a] 2 33 1 24 (by kernel_rfl) eLN_one (by decide) (by first | omega | (simp <;> omega)) (by kernel_rfl) ?_
      refine R.go 1 (R.any1 7 (by kernel_rfl) (by kernel_rfl) ?_)
      refine R.call false (l06Code_c n xs ([] ++ l ++ [a]) (by first | omega | (simp <;> omega)) (by first | assumption | exact shortL_one (by omega))) (by kernel_rfl) rfl (by kernel_rfl) ?_
      refine R.go 1 (R.any1 8 (by kernel_rfl) (by kernel_rfl) ?_)
      refine R.go 2 (R.any0 (by kernel_rfl) ?_)
      refine R.go 6 (R.condN ((scode n xs ([] ++ l ++ [a])) = 0) (by kernel_rfl) (fun c3 => ?_) (fun c3 => ?_))
      · exact R.go 6 (R.retE (.tup [.bool false, AI (scode n xs ([] ++ l ++ [a]))]) (by kernel_rfl) (by kernel_rfl) (by first | (refine tupB ?_ ?_ <;> first | exact csB_bad (by assumption) | rfl | exact hm.symm | (rw [csB, decide_eq_true hm, Bool.true_and])) | (exfalso; omega)))
      · have hm : scode n xs (l ++ [a]) = 0 := by assumption
        have hsc := scode_ok hm
        have hF : allF (l ++ [a]) = true := hsc.2.1
        have hR : okFr n xs = true := hsc.1
        have hfit0 : n * ((mem (vmT (l ++ [a]) (l ++ [a]).length)).length : Int) ≤ 16 := hsc.2.2
        refine R.go 6 (R.call true (l06Follows_c n xs l a false hF hR hfit0 hlim hl) (by kernel_rfl) rfl (by kernel_rfl) ?_)
        exact R.go 3 (R.retE (.tup [.bool ((fstN (badC false n xs (mem (vmT (l ++ [a]) (l ++ [a]).length)) l a) (totN n (mem (vmT (l ++ [a]) (l ++ [a]).length)))).isNone), AI 0]) (by kernel_rfl) (by kernel_rfl) (by first | (refine tupB ?_ ?_ <;> first | exact csB_bad (by assumption) | rfl | exact hm.symm | (rw [csB, decide_eq_true hm, Bool.true_and])) | (exfalso; omega)))
  · refine R.go 2 (R.any3 0 3 5 (by kernel_rfl) (by kernel_rfl) ?_ ?_ ?_)
    · refine R.go 2 (R.any2 3 5 (by kernel_rfl) (by kernel_rfl) ?_ ?_)
      · refine R.app eLN [] l 1 33 1 24 (by kernel_rfl) eLN_one (by decide) (by first | omega | (simp <;> omega)) (by kernel_rfl) ?_
        refine R.go 1 (R.any1 5 (by kernel_rfl) (by kernel_rfl) ?_)
        refine R.go 2 (R.any1 6 (by kernel_rfl) (by kernel_rfl) ?_)
        refine R.app eLN ([] ++ l) [a] 1 33 1 24 (by kernel_rfl) eLN_one (by decide) (by first | omega | (simp <;> omega)) (by kernel_rfl) ?_
        refine R.go 1 (R.any1 7 (by kernel_rfl) (by kernel_rfl) ?_)
        refine R.call false (l06Code_c n xs ([] ++ l ++ [a]) (by first | omega | (simp <;> omega)) (by first | assumption | exact shortL_one (by omega))) (by kernel_rfl) rfl (by kernel_rfl) ?_
        refine R.go 1 (R.any1 8 (by kernel_rfl) (by kernel_rfl) ?_)
        refine R.go 2 (R.any0 (by kernel_rfl) ?_)
        refine R.go 6 (R.condN ((scode n xs ([] ++ l ++ [a])) = 0) (by kernel_rfl) (fun c4 => ?_) (fun c4 => ?_))
        · exact R.go 6 (R.retE (.tup [.bool false, AI (scode n xs ([] ++ l ++ [a]))]) (by kernel_rfl) (by kernel_rfl) (by first | (refine tupB ?_ ?_ <;> first | exact csB_bad (by assumption) | rfl | exact hm.symm | (rw [csB, decide_eq_true hm, Bool.true_and])) | (exfalso; omega)))
        · have hm : scode n xs (l ++ [a]) = 0 := by assumption
          have hsc := scode_ok hm
          have hF : allF (l ++ [a]) = true := hsc.2.1
          have hR : okFr n xs = true := hsc.1
          have hfit0 : n * ((mem (vmT (l ++ [a]) (l ++ [a]).length)).length : Int) ≤ 16 := hsc.2.2
          refine R.go 6 (R.call true (l06Follows_c n xs l a false hF hR hfit0 hlim hl) (by kernel_rfl) rfl (by kernel_rfl) ?_)
          exact R.go 3 (R.retE (.tup [.bool ((fstN (badC false n xs (mem (vmT (l ++ [a]) (l ++ [a]).length)) l a) (totN n (mem (vmT (l ++ [a]) (l ++ [a]).length)))).isNone), AI 0]) (by kernel_rfl) (by kernel_rfl) (by first | (refine tupB ?_ ?_ <;> first | exact csB_bad (by assumption) | rfl | exact hm.symm | (rw [csB, decide_eq_true hm, Bool.true_and])) | (exfalso; omega)))
      · refine R.go 2 (R.any1 3 (by kernel_rfl) (by kernel_rfl) ?_)
        refine R.app eLN [] l 1 33 1 24 (by kernel_rfl) eLN_one (by decide) (by first | omega | (simp <;> omega)) (by kernel_rfl) ?_
        refine R.go 1 (R.any1 6 (by kernel_rfl) (by kernel_rfl) ?_)
        refine R.app eLN ([] ++ l) [a] 1 33 1 24 (by kernel_rfl) eLN_one (by decide) (by first | omega | (simp <;> omega)) (by kernel_rfl) ?_
        refine R.go 1 (R.any1 7 (by kernel_rfl) (by kernel_rfl) ?_)
        refine R.call false (l06Code_c n xs ([] ++ l ++ [a]) (by first | omega | (simp <;> omega)) (by first | assumption | exact shortL_one (by omega))) (by kernel_rfl) rfl (by kernel_rfl) ?_
        refine R.go 1 (R.any1 8 (by kernel_rfl) (by kernel_rfl) ?_)
        refine R.go 2 (R.any0 (by kernel_rfl) ?_)
        refine R.go 6 (R.condN ((scode n xs ([] ++ l ++ [a])) = 0) (by kernel_rfl) (fun c5 => ?_) (fun c5 => ?_))
        · exact R.go 6 (R.retE (.tup [.bool false, AI (scode n xs ([] ++ l ++ [a]))]) (by kernel_rfl) (by kernel_rfl) (by first | (refine tupB ?_ ?_ <;> first | exact csB_bad (by assumption) | rfl | exact hm.symm | (rw [csB, decide_eq_true hm, Bool.true_and])) | (exfalso; omega)))
        · have hm : scode n xs (l ++ [a]) = 0 := by assumption
          have hsc := scode_ok hm
          have hF : allF (l ++ [a]) = true := hsc.2.1
          have hR : okFr n xs = true := hsc.1
          have hfit0 : n * ((mem (vmT (l ++ [a]) (l ++ [a]).length)).length : Int) ≤ 16 := hsc.2.2
          refine R.go 6 (R.call true (l06Follows_c n xs l a false hF hR hfit0 hlim hl) (by kernel_rfl) rfl (by kernel_rfl) ?_)
          exact R.go 3 (R.retE (.tup [.bool ((fstN (badC false n xs (mem (vmT (l ++ [a]) (l ++ [a]).length)) l a) (totN n (mem (vmT (l ++ [a]) (l ++ [a]).length)))).isNone), AI 0]) (by kernel_rfl) (by kernel_rfl) (by first | (refine tupB ?_ ?_ <;> first | exact csB_bad (by assumption) | rfl | exact hm.symm | (rw [csB, decide_eq_true hm, Bool.true_and])) | (exfalso; omega)))
    · refine R.app eLN [] l 1 33 1 24 (by kernel_rfl) eLN_one (by decide) (by first | omega | (simp <;> omega)) (by kernel_rfl) ?_
      refine R.go 1 (R.any2 0 5 (by kernel_rfl) (by kernel_rfl) ?_ ?_)
      · refine R.go 2 (R.any1 5 (by kernel_rfl) (by kernel_rfl) ?_)
        refine R.go 2 (R.any1 6 (by kernel_rfl) (by kernel_rfl) ?_)
        refine R.app eLN ([] ++ l) [a] 1 33 1 24 (by kernel_rfl) eLN_one (by decide) (by first | omega | (simp <;> omega)) (by kernel_rfl) ?_
        refine R.go 1 (R.any1 7 (by kernel_rfl) (by kernel_rfl) ?_)
        refine R.call false (l06Code_c n xs ([] ++ l ++ [a]) (by first | omega | (simp <;> omega)) (by first | assumption | exact shortL_one (by omega))) (by kernel_rfl) rfl (by kernel_rfl) ?_
        refine R.go 1 (R.any1 8 (by kernel_rfl) (by kernel_rfl) ?_)
        refine R.go 2 (R.any0 (by kernel_rfl) ?_)
        refine R.go 6 (R.condN ((scode n xs ([] ++ l ++ [a])) = 0) (by kernel_rfl) (fun c6 => ?_) (fun c6 => ?_))
        · exact R.go 6 (R.retE (.tup [.bool false, AI (scode n xs ([] ++ l ++ [a]))]) (by kernel_rfl) (by kernel_rfl) (by first | (refine tupB ?_ ?_ <;> first | exact csB_bad (by assumption) | rfl | exact hm.symm | (rw [csB, decide_eq_true hm, Bool.true_and])) | (exfalso; omega)))
        · have hm : scode n xs (l ++ [a]) = 0 := by assumption
          have hsc := scode_ok hm
          have hF : allF (l ++ [a]) = true := hsc.2.1
          have hR : okFr n xs = true := hsc.1
          have hfit0 : n * ((mem (vmT (l ++ [a]) (l ++ [a]).length)).length : Int) ≤ 16 := hsc.2.2
          refine R.go 6 (R.call true (l06Follows_c n xs l a false hF hR hfit0 hlim hl) (by kernel_rfl) rfl (by kernel_rfl) ?_)
          exact R.go 3 (R.retE (.tup [.bool ((fstN (badC false n xs (mem (vmT (l ++ [a]) (l ++ [a]).length)) l a) (totN n (mem (vmT (l ++ [a]) (l ++ [a]).length)))).isNone), AI 0]) (by kernel_rfl) (by kernel_rfl) (by first | (refine tupB ?_ ?_ <;> first | exact csB_bad (by assumption) | rfl | exact hm.symm | (rw [csB, decide_eq_true hm, Bool.true_and])) | (exfalso; omega)))
      · refine R.go 2 (R.any2 0 6 (by kernel_rfl) (by kernel_rfl) ?_ ?_)
        · refine R.go 2 (R.any1 6 (by kernel_rfl) (by kernel_rfl) ?_)
          refine R.app eLN ([] ++ l) [a] 1 33 1 24 (by kernel_rfl) eLN_one (by decide) (by first | omega | (simp <;> omega)) (by kernel_rfl) ?_
          refine R.go 1 (R.any1 7 (by kernel_rfl) (by kernel_rfl) ?_)
          refine R.call false (l06Code_c n xs ([] ++ l ++ [a]) (by first | omega | (simp <;> omega)) (by first | assumption | exact shortL_one (by omega))) (by kernel_rfl) rfl (by kernel_rfl) ?_
          refine R.go 1 (R.any1 8 (by kernel_rfl) (by kernel_rfl) ?_)
          refine R.go 2 (R.any0 (by kernel_rfl) ?_)
          refine R.go 6 (R.condN ((scode n xs ([] ++ l ++ [a])) = 0) (by kernel_rfl) (fun c7 => ?_) (fun c7 => ?_))
          · exact R.go 6 (R.retE (.tup [.bool false, AI (scode n xs ([] ++ l ++ [a]))]) (by kernel_rfl) (by kernel_rfl) (by first | (refine tupB ?_ ?_ <;> first | exact csB_bad (by assumption) | rfl | exact hm.symm | (rw [csB, decide_eq_true hm, Bool.true_and])) | (exfalso; omega)))
          · have hm : scode n xs (l ++ [a]) = 0 := by assumption
            have hsc := scode_ok hm
            have hF : allF (l ++ [a]) = true := hsc.2.1
            have hR : okFr n xs = true := hsc.1
            have hfit0 : n * ((mem (vmT (l ++ [a]) (l ++ [a]).length)).length : Int) ≤ 16 := hsc.2.2
            refine R.go 6 (R.call true (l06Follows_c n xs l a false hF hR hfit0 hlim hl) (by kernel_rfl) rfl (by kernel_rfl) ?_)
            exact R.go 3 (R.retE (.tup [.bool ((fstN (badC false n xs (mem (vmT (l ++ [a]) (l ++ [a]).length)) l a) (totN n (mem (vmT (l ++ [a]) (l ++ [a]).length)))).isNone), AI 0]) (by kernel_rfl) (by kernel_rfl) (by first | (refine tupB ?_ ?_ <;> first | exact csB_bad (by assumption) | rfl | exact hm.symm | (rw [csB, decide_eq_true hm, Bool.true_and])) | (exfalso; omega)))
        · refine R.app eLN ([] ++ l) [a] 1 33 1 24 (by kernel_rfl) eLN_one (by decide) (by first | omega | (simp <;> omega)) (by kernel_rfl) ?_
          refine R.go 1 (R.any1 0 (by kernel_rfl) (by kernel_rfl) ?_)
          refine R.go 2 (R.any1 7 (by kernel_rfl) (by kernel_rfl) ?_)
          refine R.call false (l06Code_c n xs ([] ++ l ++ [a]) (by first | omega | (simp <;> omega)) (by first | assumption | exact shortL_one (by omega))) (by kernel_rfl) rfl (by kernel_rfl) ?_
          refine R.go 1 (R.any1 8 (by kernel_rfl) (by kernel_rfl) ?_)
          refine R.go 2 (R.any0 (by kernel_rfl) ?_)
          refine R.go 6 (R.condN ((scode n xs ([] ++ l ++ [a])) = 0) (by kernel_rfl) (fun c8 => ?_) (fun c8 => ?_))
          · exact R.go 6 (R.retE (.tup [.bool false, AI (scode n xs ([] ++ l ++ [a]))]) (by kernel_rfl) (by kernel_rfl) (by first | (refine tupB ?_ ?_ <;> first | exact csB_bad (by assumption) | rfl | exact hm.symm | (rw [csB, decide_eq_true hm, Bool.true_and])) | (exfalso; omega)))
          · have hm : scode n xs (l ++ [a]) = 0 := by assumption
            have hsc := scode_ok hm
            have hF : allF (l ++ [a]) = true := hsc.2.1
            have hR : okFr n xs = true := hsc.1
            have hfit0 : n * ((mem (vmT (l ++ [a]) (l ++ [a]).length)).length : Int) ≤ 16 := hsc.2.2
            refine R.go 6 (R.call true (l06Follows_c n xs l a false hF hR hfit0 hlim hl) (by kernel_rfl) rfl (by kernel_rfl) ?_)
            exact R.go 3 (R.retE (.tup [.bool ((fstN (badC false n xs (mem (vmT (l ++ [a]) (l ++ [a]).length)) l a) (totN n (mem (vmT (l ++ [a]) (l ++ [a]).length)))).isNone), AI 0]) (by kernel_rfl) (by kernel_rfl) (by first | (refine tupB ?_ ?_ <;> first | exact csB_bad (by assumption) | rfl | exact hm.symm | (rw [csB, decide_eq_true hm, Bool.true_and])) | (exfalso; omega)))
    · refine R.go 2 (R.any2 0 3 (by kernel_rfl) (by kernel_rfl) ?_ ?_)
      · refine R.go 2 (R.any1 3 (by kernel_rfl) (by kernel_rfl) ?_)
        refine R.app eLN [] l 1 33 1 24 (by kernel_rfl) eLN_one (by decide) (by first | omega | (simp <;> omega)) (by kernel_rfl) ?_
        refine R.go 1 (R.any1 6 (by kernel_rfl) (by kernel_rfl) ?_)
        refine R.app eLN ([] ++ l) [a] 1 33 1 24 (by kernel_rfl) eLN_one (by decide) (by first | omega | (simp <;> omega)) (by kernel_rfl) ?_
        refine R.go 1 (R.any1 7 (by kernel_rfl) (by kernel_rfl) ?_)
        refine R.call false (l06Code_c n xs ([] ++ l ++ [a]) (by first | omega | (simp <;> omega)) (by first | assumption | exact shortL_one (by omega))) (by kernel_rfl) rfl (by kernel_rfl) ?_
        refine R.go 1 (R.any1 8 (by kernel_rfl) (by kernel_rfl) ?_)
        refine R.go 2 (R.any0 (by kernel_rfl) ?_)
        refine R.go 6 (R.condN ((scode n xs ([] ++ l ++ [a])) = 0) (by kernel_rfl) (fun c9 => ?_) (fun c9 => ?_))
        · exact R.go 6 (R.retE (.tup [.bool false, AI (scode n xs ([] ++ l ++ [a]))]) (by kernel_rfl) (by kernel_rfl) (by first | (refine tupB ?_ ?_ <;> first | exact csB_bad (by assumption) | rfl | exact hm.symm | (rw [csB, decide_eq_true hm, Bool.true_and])) | (exfalso; omega)))
        · have hm : scode n xs (l ++ [a]) = 0 := by assumption
          have hsc := scode_ok hm
          have hF : allF (l ++ [a]) = true := hsc.2.1
          have hR : okFr n xs = true := hsc.1
          have hfit0 : n * ((mem (vmT (l ++ [a]) (l ++ [a]).length)).length : Int) ≤ 16 := hsc.2.2
          refine R.go 6 (R.call true (l06Follows_c n xs l a false hF hR hfit0 hlim hl) (by kernel_rfl) rfl (by kernel_rfl) ?_)
          exact R.go 3 (R.retE (.tup [.bool ((fstN (badC false n xs (mem (vmT (l ++ [a]) (l ++ [a]).length)) l a) (totN n (mem (vmT (l ++ [a]) (l ++ [a]).length)))).isNone), AI 0]) (by kernel_rfl) (by kernel_rfl) (by first | (refine tupB ?_ ?_ <;> first | exact csB_bad (by assumption) | rfl | exact hm.symm | (rw [csB, decide_eq_true hm, Bool.true_and])) | (exfalso; omega)))
      · refine R.app eLN [] l 1 33 1 24 (by kernel_rfl) eLN_one (by decide) (by first | omega | (simp <;> omega)) (by kernel_rfl) ?_
        refine R.go 1 (R.any2 0 6 (by kernel_rfl) (by kernel_rfl) ?_ ?_)
        · refine R.go 2 (R.any1 6 (by kernel_rfl) (by kernel_rfl) ?_)
          refine R.app eLN ([] ++ l) [a] 1 33 1 24 (by kernel_rfl) eLN_one (by decide) (by first | omega | (simp <;> omega)) (by kernel_rfl) ?_
          refine R.go 1 (R.any1 7 (by kernel_rfl) (by kernel_rfl) ?_)
          refine R.call false (l06Code_c n xs ([] ++ l ++ [a]) (by first | omega | (simp <;> omega)) (by first | assumption | exact shortL_one (by omega))) (by kernel_rfl) rfl (by kernel_rfl) ?_
          refine R.go 1 (R.any1 8 (by kernel_rfl) (by kernel_rfl) ?_)
          refine R.go 2 (R.any0 (by kernel_rfl) ?_)
          refine R.go 6 (R.condN ((scode n xs ([] ++ l ++ [a])) = 0) (by kernel_rfl) (fun c10 => ?_) (fun c10 => ?_))
          · exact R.go 6 (R.retE (.tup [.bool false, AI (scode n xs ([] ++ l ++ [a]))]) (by kernel_rfl) (by kernel_rfl) (by first | (refine tupB ?_ ?_ <;> first | exact csB_bad (by assumption) | rfl | exact hm.symm | (rw [csB, decide_eq_true hm, Bool.true_and])) | (exfalso; omega)))
          · have hm : scode n xs (l ++ [a]) = 0 := by assumption
            have hsc := scode_ok hm
            have hF : allF (l ++ [a]) = true := hsc.2.1
            have hR : okFr n xs = true := hsc.1
            have hfit0 : n * ((mem (vmT (l ++ [a]) (l ++ [a]).length)).length : Int) ≤ 16 := hsc.2.2
            refine R.go 6 (R.call true (l06Follows_c n xs l a false hF hR hfit0 hlim hl) (by kernel_rfl) rfl (by kernel_rfl) ?_)
            exact R.go 3 (R.retE (.tup [.bool ((fstN (badC false n xs (mem (vmT (l ++ [a]) (l ++ [a]).length)) l a) (totN n (mem (vmT (l ++ [a]) (l ++ [a]).length)))).isNone), AI 0]) (by kernel_rfl) (by kernel_rfl) (by first | (refine tupB ?_ ?_ <;> first | exact csB_bad (by assumption) | rfl | exact hm.symm | (rw [csB, decide_eq_true hm, Bool.true_and])) | (exfalso; omega)))
        · refine R.app eLN ([] ++ l) [a] 1 33 1 24 (by kernel_rfl) eLN_one (by decide) (by first | omega | (simp <;> omega)) (by kernel_rfl) ?_
          refine R.go 1 (R.any1 0 (by kernel_rfl) (by kernel_rfl) ?_)
          refine R.go 2 (R.any1 7 (by kernel_rfl) (by kernel_rfl) ?_)
          refine R.call false (l06Code_c n xs ([] ++ l ++ [a]) (by first | omega | (simp <;> omega)) (by first | assumption | exact shortL_one (by omega))) (by kernel_rfl) rfl (by kernel_rfl) ?_
          refine R.go 1 (R.any1 8 (by kernel_rfl) (by kernel_rfl) ?_)
          refine R.go 2 (R.any0 (by kernel_rfl) ?_)
          refine R.go 6 (R.condN ((scode n xs ([] ++ l ++ [a])) = 0) (by kernel_rfl) (fun c11 => ?_) (fun c11 => ?_))
          · exact R.go 6 (R.retE (.tup [.bool false, AI (scode n xs ([] ++ l ++ [a]))]) (by kernel_rfl) (by kernel_rfl) (by first | (refine tupB ?_ ?_ <;> first | exact csB_bad (by assumption) | rfl | exact hm.symm | (rw [csB, decide_eq_true hm, Bool.true_and])) | (exfalso; omega)))
          · have hm : scode n xs (l ++ [a]) = 0 := by assumption
            have hsc := scode_ok hm
            have hF : allF (l ++ [a]) = true := hsc.2.1
            have hR : okFr n xs = true := hsc.1
            have hfit0 : n * ((mem (vmT (l ++ [a]) (l ++ [a]).length)).length : Int) ≤ 16 := hsc.2.2
            refine R.go 6 (R.call true (l06Follows_c n xs l a false hF hR hfit0 hlim hl) (by kernel_rfl) rfl (by kernel_rfl) ?_)
            exact R.go 3 (R.retE (.tup [.bool ((fstN (badC false n xs (mem (vmT (l ++ [a]) (l ++ [a]).length)) l a) (totN n (mem (vmT (l ++ [a]) (l ++ [a]).length)))).isNone), AI 0]) (by kernel_rfl) (by kernel_rfl) (by first | (refine tupB ?_ ?_ <;> first | exact csB_bad (by assumption) | rfl | exact hm.symm | (rw [csB, decide_eq_true hm, Bool.true_and])) | (exfalso; omega)))
  · refine R.go 2 (R.any2 0 1 (by kernel_rfl) (by kernel_rfl) ?_ ?_)
    · refine R.go 2 (R.any1 1 (by kernel_rfl) (by kernel_rfl) ?_)
      refine R.go 2 (R.any1 3 (by kernel_rfl) (by kernel_rfl) ?_)
      refine R.app eLN [] l 2 33 1 24 (by kernel_rfl) eLN_one (by decide) (by first | omega | (simp <;> omega)) (by kernel_rfl) ?_
      refine R.go 1 (R.any1 6 (by kernel_rfl) (by kernel_rfl) ?_)
      refine R.app eLN ([] ++ l) [a] 2 33 1 24 (by kernel_rfl) eLN_one (by decide) (by first | omega | (simp <;> omega)) (by kernel_rfl) ?_
      refine R.go 1 (R.any1 7 (by kernel_rfl) (by kernel_rfl) ?_)
      refine R.call false (l06Code_c n xs ([] ++ l ++ [a]) (by first | omega | (simp <;> omega)) (by first | assumption | exact shortL_one (by omega))) (by kernel_rfl) rfl (by kernel_rfl) ?_
      refine R.go 1 (R.any1 8 (by kernel_rfl) (by kernel_rfl) ?_)
      refine R.go 2 (R.any0 (by kernel_rfl) ?_)
      refine R.go 6 (R.condN ((scode n xs ([] ++ l ++ [a])) = 0) (by kernel_rfl) (fun c12 => ?_) (fun c12 => ?_))
      · exact R.go 6 (R.retE (.tup [.bool false, AI (scode n xs ([] ++ l ++ [a]))]) (by kernel_rfl) (by kernel_rfl) (by first | (refine tupB ?_ ?_ <;> first | exact csB_bad (by assumption) | rfl | exact hm.symm | (rw [csB, decide_eq_true hm, Bool.true_and])) | (exfalso; omega)))
      · have hm : scode n xs (l ++ [a]) = 0 := by assumption
        have hsc := scode_ok hm
        have hF : allF (l ++ [a]) = true := hsc.2.1
        have hR : okFr n xs = true := hsc.1
        have hfit0 : n * ((mem (vmT (l ++ [a]) (l ++ [a]).length)).length : Int) ≤ 16 := hsc.2.2
        refine R.go 6 (R.call true (l06Follows_c n xs l a false hF hR hfit0 hlim hl) (by kernel_rfl) rfl (by kernel_rfl) ?_)
        exact R.go 3 (R.retE (.tup [.bool ((fstN (badC false n xs (mem (vmT (l ++ [a]) (l ++ [a]).length)) l a) (totN n (mem (vmT (l ++ [a]) (l ++ [a]).length)))).isNone), AI 0]) (by kernel_rfl) (by kernel_rfl) (by first | (refine tupB ?_ ?_ <;> first | exact csB_bad (by assumption) | rfl | exact hm.symm | (rw [csB, decide_eq_true hm, Bool.true_and])) | (exfalso; omega)))
    · refine R.go 2 (R.any2 0 3 (by kernel_rfl) (by kernel_rfl) ?_ ?_)
      · refine R.go 2 (R.any1 3 (by kernel_rfl) (by kernel_rfl) ?_)
        refine R.app eLN [] l 2 33 1 24 (by kernel_rfl) eLN_one (by decide) (by first | omega | (simp <;> omega)) (by kernel_rfl) ?_
        refine R.go 1 (R.any1 6 (by kernel_rfl) (by kernel_rfl) ?_)
        refine R.app eLN ([] ++ l) [a] 2 33 1 24 (by kernel_rfl) eLN_one (by decide) (by first | omega | (simp <;> omega)) (by kernel_rfl) ?_
        refine R.go 1 (R.any1 7 (by kernel_rfl) (by kernel_rfl) ?_)
        refine R.call false (l06Code_c n xs ([] ++ l ++ [a]) (by first | omega | (simp <;> omega)) (by first | assumption | exact shortL_one (by omega))) (by kernel_rfl) rfl (by kernel_rfl) ?_
        refine R.go 1 (R.any1 8 (by kernel_rfl) (by kernel_rfl) ?_)
        refine R.go 2 (R.any0 (by kernel_rfl) ?_)
        refine R.go 6 (R.condN ((scode n xs ([] ++ l ++ [a])) = 0) (by kernel_rfl) (fun c13 => ?_) (fun c13 => ?_))
        · exact R.go 6 (R.retE (.tup [.bool false, AI (scode n xs ([] ++ l ++ [a]))]) (by kernel_rfl) (by kernel_rfl) (by first | (refine tupB ?_ ?_ <;> first | exact csB_bad (by assumption) | rfl | exact hm.symm | (rw [csB, decide_eq_true hm, Bool.true_and])) | (exfalso; omega)))
        · have hm : scode n xs (l ++ [a]) = 0 := by assumption
          have hsc := scode_ok hm
          have hF : allF (l ++ [a]) = true := hsc.2.1
          have hR : okFr n xs = true := hsc.1
          have hfit0 : n * ((mem (vmT (l ++ [a]) (l ++ [a]).length)).length : Int) ≤ 16 := hsc.2.2
          refine R.go 6 (R.call true (l06Follows_c n xs l a false hF hR hfit0 hlim hl) (by kernel_rfl) rfl (by kernel_rfl) ?_)
          exact R.go 3 (R.retE (.tup [.bool ((fstN (badC false n xs (mem (vmT (l ++ [a]) (l ++ [a]).length)) l a) (totN n (mem (vmT (l ++ [a]) (l ++ [a]).length)))).isNone), AI 0]) (by kernel_rfl) (by kernel_rfl) (by first | (refine tupB ?_ ?_ <;> first | exact csB_bad (by assumption) | rfl | exact hm.symm | (rw [csB, decide_eq_true hm, Bool.true_and])) | (exfalso; omega)))
      · refine R.app eLN [] l 2 33 1 24 (by kernel_rfl) eLN_one (by decide) (by first | omega | (simp <;> omega)) (by kernel_rfl) ?_
        refine R.go 1 (R.any2 0 6 (by kernel_rfl) (by kernel_rfl) ?_ ?_)
        · refine R.go 2 (R.any1 6 (by kernel_rfl) (by kernel_rfl) ?_)
          refine R.app eLN ([] ++ l) [a] 2 33 1 24 (by kernel_rfl) eLN_one (by decide) (by first | omega | (simp <;> omega)) (by kernel_rfl) ?_
          refine R.go 1 (R.any1 7 (by kernel_rfl) (by kernel_rfl) ?_)
          refine R.call false (l06Code_c n xs ([] ++ l ++ [a]) (by first | omega | (simp <;> omega)) (by first | assumption | exact shortL_one (by omega))) (by kernel_rfl) rfl (by kernel_rfl) ?_
          refine R.go 1 (R.any1 8 (by kernel_rfl) (by kernel_rfl) ?_)
          refine R.go 2 (R.any0 (by kernel_rfl) ?_)
          refine R.go 6 (R.condN ((scode n xs ([] ++ l ++ [a])) = 0) (by kernel_rfl) (fun c14 => ?_) (fun c14 => ?_))
          · exact R.go 6 (R.retE (.tup [.bool false, AI (scode n xs ([] ++ l ++ [a]))]) (by kernel_rfl) (by kernel_rfl) (by first | (refine tupB ?_ ?_ <;> first | exact csB_bad (by assumption) | rfl | exact hm.symm | (rw [csB, decide_eq_true hm, Bool.true_and])) | (exfalso; omega)))
          · have hm : scode n xs (l ++ [a]) = 0 := by assumption
            have hsc := scode_ok hm
            have hF : allF (l ++ [a]) = true := hsc.2.1
            have hR : okFr n xs = true := hsc.1
            have hfit0 : n * ((mem (vmT (l ++ [a]) (l ++ [a]).length)).length : Int) ≤ 16 := hsc.2.2
            refine R.go 6 (R.call true (l06Follows_c n xs l a false hF hR hfit0 hlim hl) (by kernel_rfl) rfl (by kernel_rfl) ?_)
            exact R.go 3 (R.retE (.tup [.bool ((fstN (badC false n xs (mem (vmT (l ++ [a]) (l ++ [a]).length)) l a) (totN n (mem (vmT (l ++ [a]) (l ++ [a]).length)))).isNone), AI 0]) (by kernel_rfl) (by kernel_rfl) (by first | (refine tupB ?_ ?_ <;> first | exact csB_bad (by assumption) | rfl | exact hm.symm | (rw [csB, decide_eq_true hm, Bool.true_and])) | (exfalso; omega)))
        · refine R.app eLN ([] ++ l) [a] 2 33 1 24 (by kernel_rfl) eLN_one (by decide) (by first | omega | (simp <;> omega)) (by kernel_rfl) ?_
          refine R.go 1 (R.any1 0 (by kernel_rfl) (by kernel_rfl) ?_)
          refine R.go 2 (R.any1 7 (by kernel_rfl) (by kernel_rfl) ?_)
          refine R.call false (l06Code_c n xs ([] ++ l ++ [a]) (by first | omega | (simp <;> omega)) (by first | assumption | exact shortL_one (by omega))) (by kernel_rfl) rfl (by kernel_rfl) ?_
          refine R.go 1 (R.any1 8 (by kernel_rfl) (by kernel_rfl) ?_)
          refine R.go 2 (R.any0 (by kernel_rfl) ?_)
          refine R.go 6 (R.condN ((scode n xs ([] ++ l ++ [a])) = 0) (by kernel_rfl) (fun c15 => ?_) (fun c15 => ?_))
          · exact R.go 6 (R.retE (.tup [.bool false, AI (scode n xs ([] ++ l ++ [a]))]) (by kernel_rfl) (by kernel_rfl) (by first | (refine tupB ?_ ?_ <;> first | exact csB_bad (by assumption) | rfl | exact hm.symm | (rw [csB, decide_eq_true hm, Bool.true_and])) | (exfalso; omega)))
          · have hm : scode n xs (l ++ [a]) = 0 := by assumption
            have hsc := scode_ok hm
            have hF : allF (l ++ [a]) = true := hsc.2.1
            have hR : okFr n xs = true := hsc.1
            have hfit0 : n * ((mem (vmT (l ++ [a]) (l ++ [a]).length)).length : Int) ≤ 16 := hsc.2.2
            refine R.go 6 (R.call true (l06Follows_c n xs l a false hF hR hfit0 hlim hl) (by kernel_rfl) rfl (by kernel_rfl) ?_)
            exact R.go 3 (R.retE (.tup [.bool ((fstN (badC false n xs (mem (vmT (l ++ [a]) (l ++ [a]).length)) l a) (totN n (mem (vmT (l ++ [a]) (l ++ [a]).length)))).isNone), AI 0]) (by kernel_rfl) (by kernel_rfl) (by first | (refine tupB ?_ ?_ <;> first | exact csB_bad (by assumption) | rfl | exact hm.symm | (rw [csB, decide_eq_true hm, Bool.true_and])) | (exfalso; omega)))

theorem implLocal_c (n : Int) (xs : List Int) (l : List (List (Int × Int))) (a : List (Int × Int)) (lx : xs.length ≤ 1048576) (hlim : lim l) (hl : a.length ≤ 1048576) : CallA Try.prog 48 [.agg [AI n, LI xs], LLN l, LN a] (.tup [.bool (csB false n xs l a), AI (scode n xs (l ++ [a]))]) := by
  refine CallA.of Try.func48 rfl (by kernel_rfl) ?_
  refine R.go 11 (R.call true (consL_c n xs l a lx hlim hl) (by kernel_rfl) rfl (by kernel_rfl) ?_)
  exact R.go 5 (R.retE (.tup [.bool (csB false n xs l a), AI (scode n xs (l ++ [a]))]) (by kernel_rfl) (by kernel_rfl) (by rfl))

theorem specGlobal_c (n : Int) (xs : List Int) (l : List (List (Int × Int))) (a : List (Int × Int)) (lx : xs.length ≤ 1048576) (hlim : lim l) (hl : a.length ≤ 1048576) : CallA Try.prog 43 [.agg [AI n, LI xs], LLN l, LN a] (.tup [.bool (csB true n xs l a), AI (scode n xs (l ++ [a]))]) := by
  have hs : shortL (l ++ [a]) := shortL_app hlim hl
  have hll0 := hlim.1
  refine CallA.of Try.func43 rfl (by kernel_rfl) ?_
  refine R.go 7 (R.any (by decide +kernel) (by kernel_rfl) ?_)
  refine R.anyF 2 (by kernel_rfl) (np_ret _ _ _) ?_
  refine R.anyF 4 (by kernel_rfl) (np_ret _ _ _) ?_
  refine R.any3 0 1 5 (by kernel_rfl) (by kernel_rfl) ?_ ?_ ?_
  · refine R.go 2 (R.any2 1 5 (by kernel_rfl) (by kernel_rfl) ?_ ?_)
    · refine R.go 2 (R.any2 3 5 (by kernel_rfl) (by kernel_rfl) ?_ ?_)
      · refine R.app eLN [] l 1 33 1 24 (by kernel_rfl) eLN_one (by decide) (by first | omega | (simp <;> omega)) (by kernel_rfl) ?_
        refine R.go 1 (R.any1 5 (by kernel_rfl) (by kernel_rfl) ?_)
        refine R.go 2 (R.any1 6 (by kernel_rfl) (by kernel_rfl) ?_)
        refine R.app eLN ([] ++ l) [a] 1 33 1 24 (by kernel_rfl) eLN_one (by decide) (by first | omega | (simp <;> omega)) (by kernel_rfl) ?_
        refine R.go 1 (R.any1 7 (by kernel_rfl) (by kernel_rfl) ?_)
        refine R.call false (l06Code_c n xs ([] ++ l ++ [a]) (by first | omega | (simp <;> omega)) (by first | assumption | exact shortL_one (by omega))) (by kernel_rfl) rfl (by kernel_rfl) ?_
        refine R.go 1 (R.any1 8 (by kernel_rfl) (by kernel_rfl) ?_)
        refine R.go 2 (R.any0 (by kernel_rfl) ?_)
        refine R.go 6 (R.condN ((scode n xs ([] ++ l ++ [a])) = 0) (by kernel_rfl) (fun c1 => ?_) (fun c1 => ?_))
        · exact R.go 6 (R.retE (.tup [.bool false, AI (scode n xs ([] ++ l ++ [a]))]) (by kernel_rfl) (by kernel_rfl) (by first | (refine tupB ?_ ?_ <;> first | exact csB_bad (by assumption) | rfl | exact hm.symm | (rw [csB, decide_eq_true hm, Bool.true_and])) | (exfalso; omega)))
        · have hm : scode n xs (l ++ [a]) = 0 := by assumption
          have hsc := scode_ok hm
          have hF : allF (l ++ [a]) = true := hsc.2.1
          have hR : okFr n xs = true := hsc.1
          have hfit0 : n * ((mem (vmT (l ++ [a]) (l ++ [a]).length)).length : Int) ≤ 16 := hsc.2.2
          refine R.go 6 (R.call true (l06Follows_c n xs l a true hF hR hfit0 hlim hl) (by kernel_rfl) rfl (by kernel_rfl) ?_)
          exact R.go 3 (R.retE (.tup [.bool ((fstN (badC true n xs (mem (vmT (l ++ [a]) (l ++ [a]).length)) l a) (totN n (mem (vmT (l ++ [a]) (l ++ [a]).length)))).isNone), AI 0]) (by kernel_rfl) (by kernel_rfl) (by first | (refine tupB ?_ ?_ <;> first | exact csB_bad (by assumption) | rfl | exact hm.symm | (rw [csB, decide_eq_true hm, Bool.true_and])) | (exfalso; omega)))
      · refine R.go 2 (R.any1 3 (by kernel_rfl) (by kernel_rfl) ?_)
        refine R.app eLN [] l 1 33 1 24 (by kernel_rfl) eLN_one (by decide) (by first | omega | (simp <;> omega)) (by kernel_rfl) ?_
        refine R.go 1 (R.any1 6 (by kernel_rfl) (by kernel_rfl) ?_)
        refine R.app eLN ([] ++ l) [a] 1 33 1 24 (by kernel_rfl) eLN_one (by decide) (by first | omega | (simp <;> omega)) (by kernel_rfl) ?_
        refine R.go 1 (R.any1 7 (by kernel_rfl) (by kernel_rfl) ?_)
        refine R.call false (l06Code_c n xs ([] ++ l ++ [a]) (by first | omega | (simp <;> omega)) (by first | assumption | exact shortL_one (by omega))) (by kernel_rfl) rfl (by kernel_rfl) ?_
        refine R.go 1 (R.any1 8 (by kernel_rfl) (by kernel_rfl) ?_)
        refine R.go 2 (R.any0 (by kernel_rfl) ?_)
        refine R.go 6 (R.condN ((scode n xs ([] ++ l ++ [a])) = 0) (by kernel_rfl) (fun c2 => ?_) (fun c2 => ?_))
        · exact R.go 6 (R.retE (.tup [.bool false, AI (scode n xs ([] ++ l ++ [a]))]) (by kernel_rfl) (by kernel_rfl) (by first | (refine tupB ?_ ?_ <;> first | exact csB_bad (by assumption) | rfl | exact hm.symm | (rw [csB, decide_eq_true hm, Bool.true_and])) | (exfalso; omega)))
        · have hm : scode n xs (l ++ [a]) = 0 := by assumption
          have hsc := scode_ok hm
          have hF : allF (l ++ [a]) = true := hsc.2.1
          have hR : okFr n xs = true := hsc.1
          have hfit0 : n * ((mem (vmT (l ++ [a]) (l ++ [a]).length)).length : Int) ≤ 16 := hsc.2.2
          refine R.go 6 (R.call true (l06Follows_c n xs l a true hF hR hfit0 hlim hl) (by kernel_rfl) rfl (by kernel_rfl) ?_)
          exact R.go 3 (R.retE (.tup [.bool ((fstN (badC true n xs (mem (vmT (l ++ [a]) (l ++ [a]).length)) l a) (totN n (mem (vmT (l ++ [a]) (l ++ [a]).length)))).isNone), AI 0]) (by kernel_rfl) (by kernel_rfl) (by first | (refine tupB ?_ ?_ <;> first | exact csB_bad (by assumption) | rfl | exact hm.symm | (rw [csB, decide_eq_true hm, Bool.true_and])) | (exfalso; omega)))
    · refine R.go 2 (R.any1 1 (by kernel_rfl) (by kernel_rfl) ?_)
      refine R.go 2 (R.any1 3 (by kernel_rfl) (by kernel_rfl) ?_)
      refine R.app eLN [] l 2 33 1 24 (by kernel_rfl) eLN_one (by decide) (by first | omega | (simp <;> omega)) (by kernel_rfl) ?_
      refine R.go 1 (R.any1 6 (by kernel_rfl) (by kernel_rfl) ?_)
      refine R.app eLN ([] ++ l) [a] 2 33 1 24 (by kernel_rfl) eLN_one (by decide) (by first | omega | (simp <;> omega)) (by kernel_rfl) ?_
      refine R.go 1 (R.any1 7 (by kernel_rfl) (by kernel_rfl) ?_)
      refine R.call false (l06Code_c n xs ([] ++ l ++ [a]) (by first | omega | (simp <;> omega)) (by first | assumption | exact shortL_one (by omega))) (by kernel_rfl) rfl (by kernel_rfl) ?_
      refine R.go 1 (R.any1 8 (by kernel_rfl) (by kernel_rfl) ?_)
      refine R.go 2 (R.any0 (by kernel_rfl) ?_)
      refine R.go 6 (R.condN ((scode n xs ([] ++ l ++ [a])) = 0) (by kernel_rfl) (fun c3 => ?_) (fun c3 => ?_))
      · exact R.go 6 (R.retE (.tup [.bool false, AI (scode n xs ([] ++ l ++ [a]))]) (by kernel_rfl) (by kernel_rfl) (by first | (refine tupB ?_ ?_ <;> first | exact csB_bad (by assumption) | rfl | exact hm.symm | (rw [csB, decide_eq_true hm, Bool.true_and])) | (exfalso; omega)))
      · have hm : scode n xs (l ++ [a]) = 0 := by assumption
        have hsc := scode_ok hm
        have hF : allF (l ++ [a]) = true := hsc.2.1
        have hR : okFr n xs = true := hsc.1
        have hfit0 : n * ((mem (vmT (l ++ [a]) (l ++ [a]).length)).length : Int) ≤ 16 := hsc.2.2
        refine R.go 6 (R.call true (l06Follows_c n xs l a true hF hR hfit0 hlim hl) (by kernel_rfl) rfl (by kernel_rfl) ?_)
        exact R.go 3 (R.retE (.tup [.bool ((fstN (badC true n xs (mem (vmT (l ++ [a]) (l ++ [a]).length)) l a) (totN n (mem (vmT (l ++ [a]) (l ++ [a]).length)))).isNone), AI 0]) (by kernel_rfl) (by kernel_rfl) (by first | (refine tupB ?_ ?_ <;> first | exact csB_bad (by assumption) | rfl | exact hm.symm | (rw [csB, decide_eq_true hm, Bool.true_and])) | (exfalso; omega)))
  · refine R.go 2 (R.any3 0 3 5 (by kernel_rfl) (by kernel_rfl) ?_ ?_ ?_)
    · refine R.go 2 (R.any2 3 5 (by kernel_rfl) (by kernel_rfl) ?_ ?_)
      · refine R.app eLN [] l 1 33 1 24 (by kernel_rfl) eLN_one (by decide) (by first | omega | (simp <;> omega)) (by kernel_rfl) ?_
        refine R.go 1 (R.any1 5 (by kernel_rfl) (by kernel_rfl) ?_)
        refine R.go 2 (R.any1 6 (by kernel_rfl) (by kernel_rfl) ?_)
        refine R.app eLN ([] ++ l) [a] 1 33 1 24 (by kernel_rfl) eLN_one (by decide) (by first | omega | (simp <;> omega)) (by kernel_rfl) ?_
        refine R.go 1 (R.any1 7 (by kernel_rfl) (by kernel_rfl) ?_)
        refine R.call false (l06Code_c n xs ([] ++ l ++ [a]) (by first | omega | (simp <;> omega)) (by first | assumption | exact shortL_one (by omega))) (by kernel_rfl) rfl (by kernel_rfl) ?_
        refine R.go 1 (R.any1 8 (by kernel_rfl) (by kernel_rfl) ?_)
        refine R.go 2 (R.any0 (by kernel_rfl) ?_)
        refine R.go 6 (R.condN ((scode n xs ([] ++ l ++ [a])) = 0) (by kernel_rfl) (fun c4 => ?_) (fun c4 => ?_))
        · exact R.go 6 (R.retE (.tup [.bool false, AI (scode n xs ([] ++ l ++ [a]))]) (by kernel_rfl) (by kernel_rfl) (by first | (refine tupB ?_ ?_ <;> first | exact csB_bad (by assumption) | rfl | exact hm.symm | (rw [csB, decide_eq_true hm, Bool.true_and])) | (exfalso; omega)))
        · have hm : scode n xs (l ++ [a]) = 0 := by assumption
          have hsc := scode_ok hm
          have hF : allF (l ++ [a]) = true := hsc.2.1
          have hR : okFr n xs = true := hsc.1
          have hfit0 : n * ((mem (vmT (l ++ [a]) (l ++ [a]).length)).length : Int) ≤ 16 := hsc.2.2
          refine R.go 6 (R.call true (l06Follows_c n xs l a true hF hR hfit0 hlim hl) (by kernel_rfl) rfl (by kernel_rfl) ?_)
          exact R.go 3 (R.retE (.tup [.bool ((fstN (badC true n xs (mem (vmT (l ++ [a]) (l ++ [a]).length)) l a) (totN n (mem (vmT (l ++ [a]) (l ++ [a]).length)))).isNone), AI 0]) (by kernel_rfl) (by kernel_rfl) (by first | (refine tupB ?_ ?_ <;> first | exact csB_bad (by assumption) | rfl | exact hm.symm | (rw [csB, decide_eq_true hm, Bool.true_and])) | (exfalso; omega)))
      · refine R.go 2 (R.any1 3 (by kernel_rfl) (by kernel_rfl) ?_)
        refine R.app eLN [] l 1 33 1 24 (by kernel_rfl) eLN_one (by decide) (by first | omega | (simp <;> omega)) (by kernel_rfl) ?_
        refine R.go 1 (R.any1 6 (by kernel_rfl) (by kernel_rfl) ?_)
        refine R.app eLN ([] ++ l) [a] 1 33 1 24 (by kernel_rfl) eLN_one (by decide) (by first | omega | (simp <;> omega)) (by kernel_rfl) ?_
        refine R.go 1 (R.any1 7 (by kernel_rfl) (by kernel_rfl) ?_)
        refine R.call false (l06Code_c n xs ([] ++ l ++ [a]) (by first | omega | (simp <;> omega)) (by first | assumption | exact shortL_one (by omega))) (by kernel_rfl) rfl (by kernel_rfl) ?_
        refine R.go 1 (R.any1 8 (by kernel_rfl) (by kernel_rfl) ?_)
        refine R.go 2 (R.any0 (by kernel_rfl) ?_)
        refine R.go 6 (R.condN ((scode n xs ([] ++ l ++ [a])) = 0) (by kernel_rfl) (fun c5 => ?_) (fun c5 => ?_))
        · exact R.go 6 (R.retE (.tup [.bool false, AI (scode n xs ([] ++ l ++ [a]))]) (by kernel_rfl) (by kernel_rfl) (by first | (refine tupB ?_ ?_ <;> first | exact csB_bad (by assumption) | rfl | exact hm.symm | (rw [csB, decide_eq_true hm, Bool.true_and])) | (exfalso; omega)))
        · have hm : scode n xs (l ++ [a]) = 0 := by assumption
          have hsc := scode_ok hm
          have hF : allF (l ++ [a]) = true := hsc.2.1
          have hR : okFr n xs = true := hsc.1
          have hfit0 : n * ((mem (vmT (l ++ [a]) (l ++ [a]).length)).length : Int) ≤ 16 := hsc.2.2
          refine R.go 6 (R.call true (l06Follows_c n xs l a true hF hR hfit0 hlim hl) (by kernel_rfl) rfl (by kernel_rfl) ?_)
          exact R.go 3 (R.retE (.tup [.bool ((fstN (badC true n xs (mem (vmT (l ++ [a]) (l ++ [a]).length)) l a) (totN n (mem (vmT (l ++ [a]) (l ++ [a]).length)))).isNone), AI 0]) (by kernel_rfl) (by kernel_rfl) (by first | (refine tupB ?_ ?_ <;> first | exact csB_bad (by assumption) | rfl | exact hm.symm | (rw [csB, decide_eq_true hm, Bool.true_and])) | (exfalso; omega)))
    · refine R.app eLN [] l 1 33 1 24 (by kernel_rfl) eLN_one (by decide) (by first | omega | (simp <;> omega)) (by kernel_rfl) ?_
      refine R.go 1 (R.any2 0 5 (by kernel_rfl) (by kernel_rfl) ?_ ?_)
      · refine R.go 2 (R.any1 5 (by kernel_rfl) (by kernel_rfl) ?_)
        refine R.go 2 (R.any1 6 (by kernel_rfl) (by kernel_rfl) ?_)
        refine R.app eLN ([] ++ l) [a] 1 33 1 24 (by kernel_rfl) eLN_one (by decide) (by first | omega | (simp <;> omega)) (by kernel_rfl) ?_
        refine R.go 1 (R.any1 7 (by kernel_rfl) (by kernel_rfl) ?_)
        refine R.call false (l06Code_c n xs ([] ++ l ++ [a]) (by first | omega | (simp <;> omega)) (by first | assumption | exact shortL_one (by omega))) (by kernel_rfl) rfl (by kernel_rfl) ?_
        refine R.go 1 (R.any1 8 (by kernel_rfl) (by kernel_rfl) ?_)
        refine R.go 2 (R.any0 (by kernel_rfl) ?_)
        refine R.go 6 (R.condN ((scode n xs ([] ++ l ++ [a])) = 0) (by kernel_rfl) (fun c6 => ?_) (fun c6 => ?_))
        · exact R.go 6 (R.retE (.tup [.bool false, AI (scode n xs ([] ++ l ++ [a]))]) (by kernel_rfl) (by kernel_rfl) (by first | (refine tupB ?_ ?_ <;> first | exact csB_bad (by assumption) | rfl | exact hm.symm | (rw [csB, decide_eq_true hm, Bool.true_and])) | (exfalso; omega)))
        · have hm : scode n xs (l ++ [a]) = 0 := by assumption
          have hsc := scode_ok hm
          have hF : allF (l ++ [a]) = true := hsc.2.1
          have hR : okFr n xs = true := hsc.1
          have hfit0 : n * ((mem (vmT (l ++ [a]) (l ++ [a]).length)).length : Int) ≤ 16 := hsc.2.2
          refine R.go 6 (R.call true (l06Follows_c n xs l a true hF hR hfit0 hlim hl) (by kernel_rfl) rfl (by kernel_rfl) ?_)
          exact R.go 3 (R.retE (.tup [.bool ((fstN (badC true n xs (mem (vmT (l ++ [a]) (l ++ [a]).length)) l a) (totN n (mem (vmT (l ++ [a]) (l ++ [a]).length)))).isNone), AI 0]) (by kernel_rfl) (by kernel_rfl) (by first | (refine tupB ?_ ?_ <;> first | exact csB_bad (by assumption) | rfl | exact hm.symm | (rw [csB, decide_eq_true hm, Bool.true_and])) | (exfalso; omega)))
      · refine R.go 2 (R.any2 0 6 (by kernel_rfl) (by kernel_rfl) ?_ ?_)
        · refine R.go 2 (R.any1 6 (by kernel_rfl) (by kernel_rfl) ?_)
          refine R.app eLN ([] ++ l) [a] 1 33 1 24 (by kernel_rfl) eLN_one (by decide) (by first | omega | (simp <;> omega)) (by kernel_rfl) ?_
          refine R.go 1 (R.any1 7 (by kernel_rfl) (by kernel_rfl) ?_)
          refine R.call false (l06Code_c n xs ([] ++ l ++ [a]) (by first | omega | (simp <;> omega)) (by first | assumption | exact shortL_one (by omega))) (by kernel_rfl) rfl (by kernel_rfl) ?_
          refine R.go 1 (R.any1 8 (by kernel_rfl) (by kernel_rfl) ?_)
          refine R.go 2 (R.any0 (by kernel_rfl) ?_)
          refine R.go 6 (R.condN ((scode n xs ([] ++ l ++ [a])) = 0) (by kernel_rfl) (fun c7 => ?_) (fun c7 => ?_))
          · exact R.go 6 (R.retE (.tup [.bool false, AI (scode n xs ([] ++ l ++ [a]))]) (by kernel_rfl) (by kernel_rfl) (by first | (refine tupB ?_ ?_ <;> first | exact csB_bad (by assumption) | rfl | exact hm.symm | (rw [csB, decide_eq_true hm, Bool.true_and])) | (exfalso; omega)))
          · have hm : scode n xs (l ++ [a]) = 0 := by assumption
            have hsc := scode_ok hm
            have hF : allF (l ++ [a]) = true := hsc.2.1
            have hR : okFr n xs = true := hsc.1
            have hfit0 : n * ((mem (vmT (l ++ [a]) (l ++ [a]).length)).length : Int) ≤ 16 := hsc.2.2
            refine R.go 6 (R.call true (l06Follows_c n xs l a true hF hR hfit0 hlim hl) (by kernel_rfl) rfl (by kernel_rfl) ?_)
            exact R.go 3 (R.retE (.tup [.bool ((fstN (badC true n xs (mem (vmT (l ++ [a]) (l ++ [a]).length)) l a) (totN n (mem (vmT (l ++ [a]) (l ++ [a]).length)))).isNone), AI 0]) (by kernel_rfl) (by kernel_rfl) (by first | (refine tupB ?_ ?_ <;> first | exact csB_bad (by assumption) | rfl | exact hm.symm | (rw [csB, decide_eq_true hm, Bool.true_and])) | (exfalso; omega)))
        · refine R.app eLN ([] ++ l) [a] 1 33 1 24 (by kernel_rfl) eLN_one (by decide) (by first | omega | (simp <;> omega)) (by kernel_rfl) ?_
          refine R.go 1 (R.any1 0 (by kernel_rfl) (by kernel_rfl) ?_)
          refine R.go 2 (R.any1 7 (by kernel_rfl) (by kernel_rfl) ?_)
          refine R.call false (l06Code_c n xs ([] ++ l ++ [a]) (by first | omega | (simp <;> omega)) (by first | assumption | exact shortL_one (by omega))) (by kernel_rfl) rfl (by kernel_rfl) ?_
          refine R.go 1 (R.any1 8 (by kernel_rfl) (by kernel_rfl) ?_)
          refine R.go 2 (R.any0 (by kernel_rfl) ?_)
          refine R.go 6 (R.condN ((scode n xs ([] ++ l ++ [a])) = 0) (by kernel_rfl) (fun c8 => ?_) (fun c8 => ?_))
          · exact R.go 6 (R.retE (.tup [.bool false, AI (scode n xs ([] ++ l ++ [a]))]) (by kernel_rfl) (by kernel_rfl) (by first | (refine tupB ?_ ?_ <;> first | exact csB_bad (by assumption) | rfl | exact hm.symm | (rw [csB, decide_eq_true hm, Bool.true_and])) | (exfalso; omega)))
          · have hm : scode n xs (l ++ [a]) = 0 := by assumption
            have hsc := scode_ok hm
            have hF : allF (l ++ [a]) = true := hsc.2.1
            have hR : okFr n xs = true := hsc.1
            have hfit0 : n * ((mem (vmT (l ++ [a]) (l ++ [a]).length)).length : Int) ≤ 16 := hsc.2.2
            refine R.go 6 (R.call true (l06Follows_c n xs l a true hF hR hfit0 hlim hl) (by kernel_rfl) rfl (by kernel_rfl) ?_)
            exact R.go 3 (R.retE (.tup [.bool ((fstN (badC true n xs (mem (vmT (l ++ [a]) (l ++ [a]).length)) l a) (totN n (mem (vmT (l ++ [a]) (l ++ [a]).length)))).isNone), AI 0]) (by kernel_rfl) (by kernel_rfl) (by first | (refine tupB ?_ ?_ <;> first | exact csB_bad (by assumption) | rfl | exact hm.symm | (rw [csB, decide_eq_true hm, Bool.true_and])) | (exfalso; omega)))
    · refine R.go 2 (R.any2 0 3 (by kernel_rfl) (by kernel_rfl) ?_ ?_)
      · refine R.go 2 (R.any1 3 (by kernel_rfl) (by kernel_rfl) ?_)
        refine R.app eLN [] l 1 33 1 24 (by kernel_rfl) eLN_one (by decide) (by first | omega | (simp <;> omega)) (by kernel_rfl) ?_
        refine R.go 1 (R.any1 6 (by kernel_rfl) (by kernel_rfl) ?_)
        refine R.app eLN ([] ++ l) [a] 1 33 1 24 (by kernel_rfl) eLN_one (by decide) (by first | omega | (simp <;> omega)) (by kernel_rfl) ?_
        refine R.go 1 (R.any1 7 (by kernel_rfl) (by kernel_rfl) ?_)
        refine R.call false (l06Code_c n xs ([] ++ l ++ [a]) (by first | omega | (simp <;> omega)) (by first | assumption | exact shortL_one (by omega))) (by kernel_rfl) rfl (by kernel_rfl) ?_
        refine R.go 1 (R.any1 8 (by kernel_rfl) (by kernel_rfl) ?_)
        refine R.go 2 (R.any0 (by kernel_rfl) ?_)
        refine R.go 6 (R.condN ((scode n xs ([] ++ l ++ [a])) = 0) (by kernel_rfl) (fun c9 => ?_) (fun c9 => ?_))
        · exact R.go 6 (R.retE (.tup [.bool false, AI (scode n xs ([] ++ l ++ [a]))]) (by kernel_rfl) (by kernel_rfl) (by first | (refine tupB ?_ ?_ <;> first | exact csB_bad (by assumption) | rfl | exact hm.symm | (rw [csB, decide_eq_true hm, Bool.true_and])) | (exfalso; omega)))
        · have hm : scode n xs (l ++ [a]) = 0 := by assumption
          have hsc := scode_ok hm
          have hF : allF (l ++ [a]) = true := hsc.2.1
          have hR : okFr n xs = true := hsc.1
          have hfit0 : n * ((mem (vmT (l ++ [a]) (l ++ [a]).length)).length : Int) ≤ 16 := hsc.2.2
          refine R.go 6 (R.call true (l06Follows_c n xs l a true hF hR hfit0 hlim hl) (by kernel_rfl) rfl (by kernel_rfl) ?_)
          exact R.go 3 (R.retE (.tup [.bool ((fstN (badC true n xs (mem (vmT (l ++ [a]) (l ++ [a]).length)) l a) (totN n (mem (vmT (l ++ [a]) (l ++ [a]).length)))).isNone), AI 0]) (by kernel_rfl) (by kernel_rfl) (by first | (refine tupB ?_ ?_ <;> first | exact csB_bad (by assumption) | rfl | exact hm.symm | (rw [csB, decide_eq_true hm, Bool.true_and])) | (exfalso; omega)))
      · refine R.app eLN [] l 1 33 1 24 (by kernel_rfl) eLN_one (by decide) (by first | omega | (simp <;> omega)) (by kernel_rfl) ?_
        refine R.go 1 (R.any2 0 6 (by kernel_rfl) (by kernel_rfl) ?_ ?_)
        · refine R.go 2 (R.any1 6 (by kernel_rfl) (by kernel_rfl) ?_)
          refine R.app eLN ([] ++ l) [a] 1 33 1 24 (by kernel_rfl) eLN_one (by decide) (by first | omega | (simp <;> omega)) (by kernel_rfl) ?_
          refine R.go 1 (R.any1 7 (by kernel_rfl) (by kernel_rfl) ?_)
          refine R.call false (l06Code_c n xs ([] ++ l ++ [a]) (by first | omega | (simp <;> omega)) (by first | assumption | exact shortL_one (by omega))) (by kernel_rfl) rfl (by kernel_rfl) ?_
          refine R.go 1 (R.any1 8 (by kernel_rfl) (by kernel_rfl) ?_)
          refine R.go 2 (R.any0 (by kernel_rfl) ?_)
          refine R.go 6 (R.condN ((scode n xs ([] ++ l ++ [a])) = 0) (by kernel_rfl) (fun c10 => ?_) (fun c10 => ?_))
          · exact R.go 6 (R.retE (.tup [.bool false, AI (scode n xs ([] ++ l ++ [a]))]) (by kernel_rfl) (by kernel_rfl) (by first | (refine tupB ?_ ?_ <;> first | exact csB_bad (by assumption) | rfl | exact hm.symm | (rw [csB, decide_eq_true hm, Bool.true_and])) | (exfalso; omega)))
          · have hm : scode n xs (l ++ [a]) = 0 := by assumption
            have hsc := scode_ok hm
            have hF : allF (l ++ [a]) = true := hsc.2.1
            have hR : okFr n xs = true := hsc.1
            have hfit0 : n * ((mem (vmT (l ++ [a]) (l ++ [a]).length)).length : Int) ≤ 16 := hsc.2.2
            refine R.go 6 (R.call true (l06Follows_c n xs l a true hF hR hfit0 hlim hl) (by kernel_rfl) rfl (by kernel_rfl) ?_)
            exact R.go 3 (R.retE (.tup [.bool ((fstN (badC true n xs (mem (vmT (l ++ [a]) (l ++ [a]).length)) l a) (totN n (mem (vmT (l ++ [a]) (l ++ [a]).length)))).isNone), AI 0]) (by kernel_rfl) (by kernel_rfl) (by first | (refine tupB ?_ ?_ <;> first | exact csB_bad (by assumption) | rfl | exact hm.symm | (rw [csB, decide_eq_true hm, Bool.true_and])) | (exfalso; omega)))
        · refine R.app eLN ([] ++ l) [a] 1 33 1 24 (by kernel_rfl) eLN_one (by decide) (by first | omega | (simp <;> omega)) (by kernel_rfl) ?_
          refine R.go 1 (R.any1 0 (by kernel_rfl) (by kernel_rfl) ?_)
          refine R.go 2 (R.any1 7 (by kernel_rfl) (by kernel_rfl) ?_)
          refine R.call false (l06Code_c n xs ([] ++ l ++ [a]) (by first | omega | (simp <;> omega)) (by first | assumption | exact shortL_one (by omega))) (by kernel_rfl) rfl (by kernel_rfl) ?_
          refine R.go 1 (R.any1 8 (by kernel_rfl) (by kernel_rfl) ?_)
          refine R.go 2 (R.any0 (by kernel_rfl) ?_)
          refine R.go 6 (R.condN ((scode n xs ([] ++ l ++ [a])) = 0) (by kernel_rfl) (fun c11 => ?_) (fun c11 => ?_))
          · exact R.go 6 (R.retE (.tup [.bool false, AI (scode n xs ([] ++ l ++ [a]))]) (by kernel_rfl) (by kernel_rfl) (by first | (refine tupB ?_ ?_ <;> first | exact csB_bad (by assumption) | rfl | exact hm.symm | (rw [csB, decide_eq_true hm, Bool.true_and])) | (exfalso; omega)))
          · have hm : scode n xs (l ++ [a]) = 0 := by assumption
            have hsc := scode_ok hm
            have hF : allF (l ++ [a]) = true := hsc.2.1
            have hR : okFr n xs = true := hsc.1
            have hfit0 : n * ((mem (vmT (l ++ [a]) (l ++ [a]).length)).length : Int) ≤ 16 := hsc.2.2
            refine R.go 6 (R.call true (l06Follows_c n xs l a true hF hR hfit0 hlim hl) (by kernel_rfl) rfl (by kernel_rfl) ?_)
            exact R.go 3 (R.retE (.tup [.bool ((fstN (badC true n xs (mem (vmT (l ++ [a]) (l ++ [a]).length)) l a) (totN n (mem (vmT (l ++ [a]) (l ++ [a]).length)))).isNone), AI 0]) (by kernel_rfl) (by kernel_rfl) (by first | (refine tupB ?_ ?_ <;> first | exact csB_bad (by assumption) | rfl | exact hm.symm | (rw [csB, decide_eq_true hm, Bool.true_and])) | (exfalso; omega)))
  · refine R.go 2 (R.any2 0 1 (by kernel_rfl) (by kernel_rfl) ?_ ?_)
    · refine R.go 2 (R.any1 1 (by kernel_rfl) (by kernel_rfl) ?_)
      refine R.go 2 (R.any1 3 (by kernel_rfl) (by kernel_rfl) ?_)
      refine R.app eLN [] l 2 33 1 24 (by kernel_rfl) eLN_one (by decide) (by first | omega | (simp <;> omega)) (by kernel_rfl) ?_
      refine R.go 1 (R.any1 6 (by kernel_rfl) (by kernel_rfl) ?_)
      refine R.app eLN ([] ++ l) [a] 2 33 1 24 (by kernel_rfl) eLN_one (by decide) (by first | omega | (simp <;> omega)) (by kernel_rfl) ?_
      refine R.go 1 (R.any1 7 (by kernel_rfl) (by kernel_rfl) ?_)
      refine R.call false (l06Code_c n xs ([] ++ l ++ [a]) (by first | omega | (simp <;> omega)) (by first | assumption | exact shortL_one (by omega))) (by kernel_rfl) rfl (by kernel_rfl) ?_
      refine R.go 1 (R.any1 8 (by kernel_rfl) (by kernel_rfl) ?_)
      refine R.go 2 (R.any0 (by kernel_rfl) ?_)
      refine R.go 6 (R.condN ((scode n xs ([] ++ l ++ [a])) = 0) (by kernel_rfl) (fun c12 => ?_) (fun c12 => ?_))
      · exact R.go 6 (R.retE (.tup [.bool false, AI (scode n xs ([] ++ l ++ [a]))]) (by kernel_rfl) (by kernel_rfl) (by first | (refine tupB ?_ ?_ <;> first | exact csB_bad (by assumption) | rfl | exact hm.symm | (rw [csB, decide_eq_true hm, Bool.true_and])) | (exfalso; omega)))
      · have hm : scode n xs (l ++ [a]) = 0 := by assumption
        have hsc := scode_ok hm
        have hF : allF (l ++ [a]) = true := hsc.2.1
        have hR : okFr n xs = true := hsc.1
        have hfit0 : n * ((mem (vmT (l ++ [a]) (l ++ [a]).length)).length : Int) ≤ 16 := hsc.2.2
        refine R.go 6 (R.call true (l06Follows_c n xs l a true hF hR hfit0 hlim hl) (by kernel_rfl) rfl (by kernel_rfl) ?_)
        exact R.go 3 (R.retE (.tup [.bool ((fstN (badC true n xs (mem (vmT (l ++ [a]) (l ++ [a]).length)) l a) (totN n (mem (vmT (l ++ [a]) (l ++ [a]).length)))).isNone), AI 0]) (by kernel_rfl) (by kernel_rfl) (by first | (refine tupB ?_ ?_ <;> first | exact csB_bad (by assumption) | rfl | exact hm.symm | (rw [csB, decide_eq_true hm, Bool.true_and])) | (exfalso; omega)))
    · refine R.go 2 (R.any2 0 3 (by kernel_rfl) (by kernel_rfl) ?_ ?_)
      · refine R.go 2 (R.any1 3 (by kernel_rfl) (by kernel_rfl) ?_)
        refine R.app eLN [] l 2 33 1 24 (by kernel_rfl) eLN_one (by decide) (by first | omega | (simp <;> omega)) (by kernel_rfl) ?_
        refine R.go 1 (R.any1 6 (by kernel_rfl) (by kernel_rfl) ?_)
        refine R.app eLN ([] ++ l) [a] 2 33 1 24 (by kernel_rfl) eLN_one (by decide) (by first | omega | (simp <;> omega)) (by kernel_rfl) ?_
        refine R.go 1 (R.any1 7 (by kernel_rfl) (by kernel_rfl) ?_)
        refine R.call false (l06Code_c n xs ([] ++ l ++ [a]) (by first | omega | (simp <;> omega)) (by first | assumption | exact shortL_one (by omega))) (by kernel_rfl) rfl (by kernel_rfl) ?_
        refine R.go 1 (R.any1 8 (by kernel_rfl) (by kernel_rfl) ?_)
        refine R.go 2 (R.any0 (by kernel_rfl) ?_)
        refine R.go 6 (R.condN ((scode n xs ([] ++ l ++ [a])) = 0) (by kernel_rfl) (fun c13 => ?_) (fun c13 => ?_))
        · exact R.go 6 (R.retE (.tup [.bool false, AI (scode n xs ([] ++ l ++ [a]))]) (by kernel_rfl) (by kernel_rfl) (by first | (refine tupB ?_ ?_ <;> first | exact csB_bad (by assumption) | rfl | exact hm.symm | (rw [csB, decide_eq_true hm, Bool.true_and])) | (exfalso; omega)))
        · have hm : scode n xs (l ++ [a]) = 0 := by assumption
          have hsc := scode_ok hm
          have hF : allF (l ++ [a]) = true := hsc.2.1
          have hR : okFr n xs = true := hsc.1
          have hfit0 : n * ((mem (vmT (l ++ [a]) (l ++ [a]).length)).length : Int) ≤ 16 := hsc.2.2
          refine R.go 6 (R.call true (l06Follows_c n xs l a true hF hR hfit0 hlim hl) (by kernel_rfl) rfl (by kernel_rfl) ?_)
          exact R.go 3 (R.retE (.tup [.bool ((fstN (badC true n xs (mem (vmT (l ++ [a]) (l ++ [a]).length)) l a) (totN n (mem (vmT (l ++ [a]) (l ++ [a]).length)))).isNone), AI 0]) (by kernel_rfl) (by kernel_rfl) (by first | (refine tupB ?_ ?_ <;> first | exact csB_bad (by assumption) | rfl | exact hm.symm | (rw [csB, decide_eq_true hm, Bool.true_and])) | (exfalso; omega)))
      · refine R.app eLN [] l 2 33 1 24 (by kernel_rfl) eLN_one (by decide) (by first | omega | (simp <;> omega)) (by kernel_rfl) ?_
        refine R.go 1 (R.any2 0 6 (by kernel_rfl) (by kernel_rfl) ?_ ?_)
        · refine R.go 2 (R.any1 6 (by kernel_rfl) (by kernel_rfl) ?_)
          refine R.app eLN ([] ++ l) [a] 2 33 1 24 (by kernel_rfl) eLN_one (by decide) (by first | omega | (simp <;> omega)) (by kernel_rfl) ?_
          refine R.go 1 (R.any1 7 (by kernel_rfl) (by kernel_rfl) ?_)
          refine R.call false (l06Code_c n xs ([] ++ l ++ [a]) (by first | omega | (simp <;> omega)) (by first | assumption | exact shortL_one (by omega))) (by kernel_rfl) rfl (by kernel_rfl) ?_
          refine R.go 1 (R.any1 8 (by kernel_rfl) (by kernel_rfl) ?_)
          refine R.go 2 (R.any0 (by kernel_rfl) ?_)
          refine R.go 6 (R.condN ((scode n xs ([] ++ l ++ [a])) = 0) (by kernel_rfl) (fun c14 => ?_) (fun c14 => ?_))
          · exact R.go 6 (R.retE (.tup [.bool false, AI (scode n xs ([] ++ l ++ [a]))]) (by kernel_rfl) (by kernel_rfl) (by first | (refine tupB ?_ ?_ <;> first | exact csB_bad (by assumption) | rfl | exact hm.symm | (rw [csB, decide_eq_true hm, Bool.true_and])) | (exfalso; omega)))
          · have hm : scode n xs (l ++ [a]) = 0 := by assumption
            have hsc := scode_ok hm
            have hF : allF (l ++ [a]) = true := hsc.2.1
            have hR : okFr n xs = true := hsc.1
            have hfit0 : n * ((mem (vmT (l ++ [a]) (l ++ [a]).length)).length : Int) ≤ 16 := hsc.2.2
            refine R.go 6 (R.call true (l06Follows_c n xs l a true hF hR hfit0 hlim hl) (by kernel_rfl) rfl (by kernel_rfl) ?_)
            exact R.go 3 (R.retE (.tup [.bool ((fstN (badC true n xs (mem (vmT (l ++ [a]) (l ++ [a]).length)) l a) (totN n (mem (vmT (l ++ [a]) (l ++ [a]).length)))).isNone), AI 0]) (by kernel_rfl) (by kernel_rfl) (by first | (refine tupB ?_ ?_ <;> first | exact csB_bad (by assumption) | rfl | exact hm.symm | (rw [csB, decide_eq_true hm, Bool.true_and])) | (exfalso; omega)))
        · refine R.app eLN ([] ++ l) [a] 2 33 1 24 (by kernel_rfl) eLN_one (by decide) (by first | omega | (simp <;> omega)) (by kernel_rfl) ?_
          refine R.go 1 (R.any1 0 (by kernel_rfl) (by kernel_rfl) ?_)
          refine R.go 2 (R.any1 7 (by kernel_rfl) (by kernel_rfl) ?_)
          refine R.call false (l06Code_c n xs ([] ++ l ++ [a]) (by first | omega | (simp <;> omega)) (by first | assumption | exact shortL_one (by omega))) (by kernel_rfl) rfl (by kernel_rfl) ?_
          refine R.go 1 (R.any1 8 (by kernel_rfl) (by kernel_rfl) ?_)
          refine R.go 2 (R.any0 (by kernel_rfl) ?_)
          refine R.go 6 (R.condN ((scode n xs ([] ++ l ++ [a])) = 0) (by kernel_rfl) (fun c15 => ?_) (fun c15 => ?_))
          · exact R.go 6 (R.retE (.tup [.bool false, AI (scode n xs ([] ++ l ++ [a]))]) (by kernel_rfl) (by kernel_rfl) (by first | (refine tupB ?_ ?_ <;> first | exact csB_bad (by assumption) | rfl | exact hm.symm | (rw [csB, decide_eq_true hm, Bool.true_and])) | (exfalso; omega)))
          · have hm : scode n xs (l ++ [a]) = 0 := by assumption
            have hsc := scode_ok hm
            have hF : allF (l ++ [a]) = true := hsc.2.1
            have hR : okFr n xs = true := hsc.1
            have hfit0 : n * ((mem (vmT (l ++ [a]) (l ++ [a]).length)).length : Int) ≤ 16 := hsc.2.2
            refine R.go 6 (R.call true (l06Follows_c n xs l a true hF hR hfit0 hlim hl) (by kernel_rfl) rfl (by kernel_rfl) ?_)
            exact R.go 3 (R.retE (.tup [.bool ((fstN (badC true n xs (mem (vmT (l ++ [a]) (l ++ [a]).length)) l a) (totN n (mem (vmT (l ++ [a]) (l ++ [a]).length)))).isNone), AI 0]) (by kernel_rfl) (by kernel_rfl) (by first | (refine tupB ?_ ?_ <;> first | exact csB_bad (by assumption) | rfl | exact hm.symm | (rw [csB, decide_eq_true hm, Bool.true_and])) | (exfalso; omega)))

theorem implGlobal_c (n : Int) (xs : List Int) (l : List (List (Int × Int))) (a : List (Int × Int)) (lx : xs.length ≤ 1048576) (hlim : lim l) (hl : a.length ≤ 1048576) : CallA Try.prog 45 [.agg [AI n, LI xs], LLN l, LN a] (.tup [.bool (csB true n xs l a), AI (scode n xs (l ++ [a]))]) := by
  refine CallA.of Try.func45 rfl (by kernel_rfl) ?_
  refine R.go 12 (R.call false (consG_c n xs l a lx hlim hl) (by kernel_rfl) (by simp [AV.closed, closedL, AI]) (by kernel_rfl) ?_)
  exact R.go 5 (R.retE (.tup [.bool (csB true n xs l a), AI (scode n xs (l ++ [a]))]) (by kernel_rfl) (by kernel_rfl) (by rfl))

def sumL : List (List (Int × Int)) → Nat
  | [] => 0
  | a :: l => a.length + sumL l
theorem sumL_app (l m : List (List (Int × Int))) : sumL (l ++ m) = sumL l + sumL m := by
  induction l with
  | nil => simp [sumL]
  | cons a l ih => simp [sumL, ih]; omega
theorem sumL_take (l : List (List (Int × Int))) (i : Nat) (h : i < l.length) : sumL (l.take (i + 1)) = sumL (l.take i) + (l.getD i []).length := by
  rw [List.take_succ_eq_append_getElem h, sumL_app, List.getD_eq_getElem?_getD, List.getElem?_eq_getElem h]
  simp [sumL]
theorem sumL_split (l : List (List (Int × Int))) (i : Nat) : sumL l = sumL (l.take i) + sumL (l.drop i) := by
  rw [← sumL_app, List.take_append_drop]
theorem sumL_mono (l : List (List (Int × Int))) (i : Nat) : sumL (l.take i) ≤ sumL l := by
  have := sumL_split l i; omega
theorem sumL_all (l : List (List (Int × Int))) (i : Nat) (h : l.length ≤ i) : sumL (l.take i) = sumL l := by rw [List.take_of_length_le h]
theorem sumL_get (l : List (List (Int × Int))) (j : Nat) (h : j < l.length) : (l.getD j []).length ≤ sumL l := by
  have := sumL_take l j h; have := sumL_mono l (j + 1); omega

def szz (k : Int) (n : Nat) : Int := if (n : Int) ≤ k then k - n else -1
theorem szNodeS_g (a : List (Int × Int)) (k : Int) (hk : (0 : Int) ≤ k ∧ k ≤ 1048576) (hl : a.length ≤ 9223372036854775807) : CallA Try.prog 15 [LN a, AI k] (AI (szz k a.length)) := by
  unfold szz
  by_cases h : (a.length : Int) ≤ k
  · rw [if_pos h]; exact szNodeS_c a k hk.2 h
  · rw [if_neg h]; exact szNodeS_no a k hk (by omega) hl
theorem szz_pos {k : Int} {n : Nat} (h : ¬ szz k n < 0) : (n : Int) ≤ k ∧ szz k n = k - n := by
  unfold szz at h ⊢
  split at h
  · rename_i h1; exact ⟨h1, by rw [if_pos h1]⟩
  · omega

theorem szNodeSS_c (l : List (List (Int × Int))) (k : Int) (hk : (k : Int) ≤ 1048576) (hx : (l.length : Int) + sumL l ≤ k) : CallA Try.prog 42 [LLN l, AI k] (AI ((k : Int) - l.length - sumL l)) := by
  refine CallA.of Try.func42 rfl (by kernel_rfl) ?_
  refine R.go 9 (R.ar (k - (l.length : Int)) (by kernel_rfl) (by omega) (by omega) (by kernel_rfl) ?_)
  refine R.go 8 (R.cond ((k - (l.length : Int)) < 0) (by kernel_rfl) (fun c1 => ?_) (fun c1 => ?_))
  · exact R.go 4 (R.retE (AI (-1)) (by kernel_rfl) (by kernel_rfl) (by first | (first | (rw [‹q = _›, sumL_all l i (by omega)]) | (exfalso; have h2 := sumL_take l i (by omega); have h3 := sumL_mono l (i + 1); have h4 : szz q (l.getD i []).length = q - (l.getD i []).length := (by unfold szz; rw [if_pos (by omega)]); omega)) | (exfalso; omega)))
  · refine R.go 7 (R.loop ((fun | (i, q) => (⟨(frm 27 [(0, LLN l), (1, AI q), (5, AI (i : Int))]), []⟩ : St) : Nat × Int → St)) (fun | (i, q) => (i ≤ l.length) ∧ (0 ≤ q ∧ q ≤ 1048576) ∧ (q = (k : Int) - l.length - sumL (l.take i))) (fun | (i, q) => l.length - i) (0, (k - (l.length : Int))) [0, 1, 5] none (by kernel_rfl) (by kernel_rfl) (by kernel_rfl) ⟨(by omega), (by simp [sumL]; omega), (by simp [sumL])⟩ ?_)
    rintro ⟨i, q⟩ ⟨h5_1, h5_2, h5_3⟩ R2 N3
    refine R.go 8 (R.cond ((i : Int) < (l.length : Int)) (by kernel_rfl) (fun c6 => ?_) (fun c6 => ?_))
    · have hgl := sumL_get l i (by omega)
      refine R.go 7 (R.idx eLN l [] i (i : Int) (by kernel_rfl) rfl eLN_len (by omega) (by kernel_rfl) ?_)
      refine R.go 2 (R.call true (szNodeS_g (l.getD i []) q (by omega) (by first | assumption | omega)) (by kernel_rfl) rfl (by kernel_rfl) ?_)
      refine R.go 7 (R.cond ((szz q (l.getD i []).length) < 0) (by kernel_rfl) (fun c7 => ?_) (fun c7 => ?_))
      · exact R.go 4 (R.retE (AI (-1)) (by kernel_rfl) (by kernel_rfl) (by first | (first | (rw [‹q = _›, sumL_all l i (by omega)]) | (exfalso; have h2 := sumL_take l i (by omega); have h3 := sumL_mono l (i + 1); have h4 : szz q (l.getD i []).length = q - (l.getD i []).length := (by unfold szz; rw [if_pos (by omega)]); omega)) | (exfalso; omega)))
      · refine R.go 4 (R.ar ((i : Int) + 1) (by kernel_rfl) (by omega) (by omega) (by kernel_rfl) ?_)
        exact R.go 2 (R.stop R2 (by kernel_rfl) (N3 (i + 1, szz q (l.getD i []).length) [0, 1, 5] none _ (by kernel_rfl) (by kernel_rfl) ⟨(by omega), (by (have h1 := szz_pos (by assumption : ¬ szz q (l.getD i []).length < 0); have h2 := sumL_take l i (by omega); omega)), (by (have h1 := szz_pos (by assumption : ¬ szz q (l.getD i []).length < 0); have h2 := sumL_take l i (by omega); omega))⟩ (by show (l.length - (i + 1)) < (l.length - i); omega)))
    · exact R.go 6 (R.retE (AI q) (by kernel_rfl) (by kernel_rfl) (by first | (first | (rw [‹q = _›, sumL_all l i (by omega)]) | (exfalso; have h2 := sumL_take l i (by omega); have h3 := sumL_mono l (i + 1); have h4 : szz q (l.getD i []).length = q - (l.getD i []).length := (by unfold szz; rw [if_pos (by omega)]); omega)) | (exfalso; omega)))

theorem szNodeSS_no (l : List (List (Int × Int))) (k : Int) (hk : (0 : Int) ≤ k ∧ (k : Int) ≤ 1048576) (hx : (k : Int) < (l.length : Int) + sumL l) (hl : l.length ≤ 9223372036854775807) (hl2 : ∀ j : Nat, j < l.length → (l.getD j []).length ≤ 9223372036854775807) : CallA Try.prog 42 [LLN l, AI k] (AI (-1)) := by
  refine CallA.of Try.func42 rfl (by kernel_rfl) ?_
  refine R.go 9 (R.ar (k - (l.length : Int)) (by kernel_rfl) (by omega) (by omega) (by kernel_rfl) ?_)
  refine R.go 8 (R.cond ((k - (l.length : Int)) < 0) (by kernel_rfl) (fun c1 => ?_) (fun c1 => ?_))
  · exact R.go 4 (R.retE (AI (-1)) (by kernel_rfl) (by kernel_rfl) (by rfl))
  · refine R.go 7 (R.loop ((fun | (i, q) => (⟨(frm 27 [(0, LLN l), (1, AI q), (5, AI (i : Int))]), []⟩ : St) : Nat × Int → St)) (fun | (i, q) => (i ≤ l.length) ∧ (0 ≤ q ∧ q ≤ 1048576) ∧ (q = (k : Int) - l.length - sumL (l.take i))) (fun | (i, q) => l.length - i) (0, (k - (l.length : Int))) [0, 1, 5] none (by kernel_rfl) (by kernel_rfl) (by kernel_rfl) ⟨(by omega), (by simp [sumL]; omega), (by simp [sumL])⟩ ?_)
    rintro ⟨i, q⟩ ⟨h5_1, h5_2, h5_3⟩ R2 N3
    refine R.go 8 (R.cond ((i : Int) < (l.length : Int)) (by kernel_rfl) (fun c6 => ?_) (fun c6 => ?_))
    · have hgl := hl2 i (by omega)
      refine R.go 7 (R.idx eLN l [] i (i : Int) (by kernel_rfl) rfl eLN_len (by omega) (by kernel_rfl) ?_)
      refine R.go 2 (R.call true (szNodeS_g (l.getD i []) q (by omega) (by first | assumption | omega)) (by kernel_rfl) rfl (by kernel_rfl) ?_)
      refine R.go 7 (R.cond ((szz q (l.getD i []).length) < 0) (by kernel_rfl) (fun c7 => ?_) (fun c7 => ?_))
      · exact R.go 4 (R.retE (AI (-1)) (by kernel_rfl) (by kernel_rfl) (by rfl))
      · refine R.go 4 (R.ar ((i : Int) + 1) (by kernel_rfl) (by omega) (by omega) (by kernel_rfl) ?_)
        exact R.go 2 (R.stop R2 (by kernel_rfl) (N3 (i + 1, szz q (l.getD i []).length) [0, 1, 5] none _ (by kernel_rfl) (by kernel_rfl) ⟨(by omega), (by (have h1 := szz_pos (by assumption : ¬ szz q (l.getD i []).length < 0); have h2 := sumL_take l i (by omega); omega)), (by (have h1 := szz_pos (by assumption : ¬ szz q (l.getD i []).length < 0); have h2 := sumL_take l i (by omega); omega))⟩ (by show (l.length - (i + 1)) < (l.length - i); omega)))
    · exact R.go 6 (R.retE (AI q) (by kernel_rfl) (by kernel_rfl) (by first | (first | rfl | (exfalso; have h1 := sumL_all l i (by omega); omega)) | (exfalso; omega)))

theorem toNodeSS_c (a : List (List (Int × Int))) (hl : a.length ≤ 1048576) (hl2 : ∀ j : Nat, j < a.length → (a.getD j []).length ≤ 1048576) : CallA Try.prog 44 [LLN a] (ownA eLN 33 1 a) := by
  refine CallA.of Try.func44 rfl (by kernel_rfl) ?_
  refine R.go 8 (R.mkL eLN [] 33 24 a.length 2 a.length (by kernel_rfl) (by kernel_rfl) rfl rfl (by decide) (by omega) (by kernel_rfl) ?_)
  refine R.go 8 (R.loop ((fun | (i, out) => (⟨(frm 23 [(0, LLN a), (3, .ref 0), (4, AI (i : Int))]), [rowA eLN 33 1 out]⟩ : St) : Nat × (List (List (Int × Int))) → St)) (fun | (i, out) => (i ≤ a.length) ∧ (out.length = a.length) ∧ (out.take i = a.take i)) (fun | (i, out) => a.length - i) (0, (List.replicate a.length [])) [0, 3, 4] none (by kernel_rfl) (by kernel_rfl) (by kernel_rfl) ⟨(by omega), (by simp), (by rfl)⟩ ?_)
  rintro ⟨i, out⟩ ⟨h4_1, h4_2, h4_3⟩ R1 N2
  refine R.go 8 (R.cond ((i : Int) < (a.length : Int)) (by kernel_rfl) (fun c5 => ?_) (fun c5 => ?_))
  · have hgl := hl2 i (by omega)
    refine R.go 8 (R.idx eLN a [] i (i : Int) (by kernel_rfl) rfl eLN_len (by omega) (by kernel_rfl) ?_)
    refine R.go 1 (R.call true (toNodeS_c (a.getD i []) (by first | omega | (simp <;> omega))) (by kernel_rfl) rfl (by kernel_rfl) ?_)
    refine R.frz 1 (by kernel_rfl) ?_
    refine R.idxO 0 1 out.length i (i : Int) (by kernel_rfl) rfl (by omega) (by kernel_rfl) ?_
    refine R.st1 eLN LN 0 33 out i (a.getD i []) (by kernel_rfl) (fun _ => rfl) (by omega) (by kernel_rfl) ?_
    refine R.go 4 (R.ar ((i : Int) + 1) (by kernel_rfl) (by omega) (by omega) (by kernel_rfl) ?_)
    exact R.go 2 (R.stop R1 (by kernel_rfl) (N2 (i + 1, out.set i (a.getD i [])) [0, 3, 4] (some [0]) _ (by kernel_rfl) (by kernel_rfl) ⟨(by omega), (by simp <;> omega), (by exact take_step _ _ [] _ (by simp <;> omega) (by omega) (by rw [List.take_set_of_le (by omega)]; assumption) (by rw [getD_set_eq _ _ _ _ (by omega)]))⟩ (by show (a.length - (i + 1)) < (a.length - i); omega)))
  · exact R.go 6 (R.retE (ownA eLN 33 1 out) (by kernel_rfl) (by kernel_rfl) (by first | (rw [show out = a from take_all (i := i) (by omega) (by omega) (by assumption)]) | (exfalso; omega)))

theorem eqNodeSS_c (a : List (List (Int × Int))) (b : List (List (Int × Int))) (la : a.length ≤ 1000000000) (lb : ∀ j : Nat, j < a.length → (a.getD j []).length ≤ 1000000000) : CallA Try.prog 46 [LLN a, LLN b] (.bool (decide (a = b))) := by
  refine CallA.of Try.func46 rfl (by kernel_rfl) ?_
  refine R.go 13 (R.condN ((a.length : Int) = (b.length : Int)) (by kernel_rfl) (fun c1 => ?_) (fun c1 => ?_))
  · exact R.go 4 (R.retE (.bool false) (by kernel_rfl) (by kernel_rfl) (by first | (first | (rw [dF (fun h => by subst h; omega)]) | (rw [dT (take_all (i := i) (by omega) (by omega) (by assumption))]) | (rw [dF (fun h => by subst h; exact absurd rfl (by assumption))])) | (exfalso; omega)))
  · refine R.go 7 (R.loop (fun (i : Nat) => (⟨(frm 27 [(0, LLN a), (1, LLN b), (5, AI (i : Int))]), []⟩ : St)) (fun (i : Nat) => (i ≤ a.length) ∧ (a.take i = b.take i)) (fun (i : Nat) => a.length - i) 0 [0, 1, 5] none (by kernel_rfl) (by kernel_rfl) (by kernel_rfl) ⟨(by omega), (by rfl)⟩ ?_)
    rintro i ⟨h4_1, h4_2⟩ R2 N3
    refine R.go 8 (R.cond ((i : Int) < (a.length : Int)) (by kernel_rfl) (fun c5 => ?_) (fun c5 => ?_))
    · have hgl := lb i (by omega)
      refine R.go 7 (R.idx eLN a [] i (i : Int) (by kernel_rfl) rfl eLN_len (by omega) (by kernel_rfl) ?_)
      refine R.go 3 (R.idx eLN b [] i (i : Int) (by kernel_rfl) rfl eLN_len (by omega) (by kernel_rfl) ?_)
      refine R.go 1 (R.call true (eqNodeS_c (a.getD i []) (b.getD i []) (by first | omega | (simp <;> omega))) (by kernel_rfl) rfl (by kernel_rfl) ?_)
      refine R.go 2 (R.condN ((a.getD i []) = (b.getD i [])) (by kernel_rfl) (fun c6 => ?_) (fun c6 => ?_))
      · exact R.go 4 (R.retE (.bool false) (by kernel_rfl) (by kernel_rfl) (by first | (first | (rw [dF (fun h => by subst h; omega)]) | (rw [dT (take_all (i := i) (by omega) (by omega) (by assumption))]) | (rw [dF (fun h => by subst h; exact absurd rfl (by assumption))])) | (exfalso; omega)))
      · refine R.go 4 (R.ar ((i : Int) + 1) (by kernel_rfl) (by omega) (by omega) (by kernel_rfl) ?_)
        exact R.go 2 (R.stop R2 (by kernel_rfl) (N3 (i + 1) [0, 1, 5] none _ (by kernel_rfl) (by kernel_rfl) ⟨(by omega), (by exact take_step a b [] i (by omega) (by omega) (by assumption) (by assumption))⟩ (by show (a.length - (i + 1)) < (a.length - i); omega)))
    · exact R.go 5 (R.retE (.bool true) (by kernel_rfl) (by kernel_rfl) (by first | (first | (rw [dF (fun h => by subst h; omega)]) | (rw [dT (take_all (i := i) (by omega) (by omega) (by assumption))]) | (rw [dF (fun h => by subst h; exact absurd rfl (by assumption))])) | (exfalso; omega)))

end Go.Proofs.Ytkmjijomengoiaa
