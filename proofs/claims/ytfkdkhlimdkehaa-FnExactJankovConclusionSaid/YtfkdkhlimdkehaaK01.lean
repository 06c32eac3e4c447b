/- JankovConclusion of both packages and its law. -/
import Derived.Test.YtfkdkhlimdkehaaJ02
import Derived.Test.YtfkdkhlimdkehaaSymK
import Derived.Test.YtfkdkhlimdkehaaH04
namespace Go.Proofs.Ytfkdkhlimdkehaa
open Go.RowKit Go.Abs

def jcR (n : Int) (xs : List Int) : List (Int × Int) := if jkC n xs = 0 then jcL n xs else []
theorem jcR_len (n : Int) (xs : List Int) : (jcR n xs).length ≤ 16 := by
  unfold jcR
  split
  · rename_i h
    have h1 := jk_ok h
    exact jnd_len n xs _ (by omega)
  · simp
theorem jc_bad {s : Nat} {n : Int} {xs : List Int} (h : ¬ jkC n xs = 0) : AV.tup [ownA eN s 2 [], AI (jkC n xs)] = AV.tup [ownA eN s 2 (jcR n xs), AI (jkC n xs)] := by rw [jcR, if_neg h]
theorem jc_ok {s : Nat} {n : Int} {xs : List Int} (h : jkC n xs = 0) : AV.tup [ownA eN s 2 (jcL n xs), AI 0] = AV.tup [ownA eN s 2 (jcR n xs), AI (jkC n xs)] := by rw [jcR, if_pos h, h]

theorem jankovConclusionO_c (n : Int) (xs : List Int) (hP : okPo n xs = true) (hr0 : 0 ≤ rootX n xs) : CallA Try.prog 38 [.agg [AI n, LI xs]] (ownA eN 65 2 (jcL n xs)) := by
  have hjM := jcM_in hP hr0
  have hR := okPo_fr hP
  have hF := okFr_rel hR
  have hb0 : 0 ≤ n ∧ n ≤ 8 ∧ (xs.length : Int) = n := ⟨hF.1, hF.2.1, hF.2.2.1⟩
  have hrl := rootX_lt hF.2.2.1
  refine CallA.of Try.func38 rfl (by kernel_rfl) ?_
  refine R.go 6 (R.drwT [0, 0, 0, 0, 0, 0, 0, 1, 0] (by kernel_rfl) ?_)
  refine R.go 2 (R.call true (pAll_c n xs (by omega) (by omega)) (by kernel_rfl) rfl (by kernel_rfl) ?_)
  refine R.go 1 (R.call true (root_c n xs hP) (by kernel_rfl) rfl (by kernel_rfl) ?_)
  refine R.shl 1 (rootX n xs) (by kernel_rfl) (by omega) (by kernel_rfl) ?_
  refine R.go 1 (R.call true (joined_c n xs (bnot ((shl64 1 n) - 1) (shl64 1 (rootX n xs))) hP (by first | assumption | exact jcM_in (by assumption) (by omega))) (by kernel_rfl) rfl (by kernel_rfl) ?_)
  exact R.go 2 (R.retE (ownA eN 65 2 (jnd n xs (bnot ((shl64 1 n) - 1) (shl64 1 (rootX n xs))))) (by kernel_rfl) (by kernel_rfl) (by first | (rfl) | (exfalso; omega)))

theorem l21ConclusionO_c (n : Int) (xs : List Int) (hP : okPo n xs = true) (hr0 : 0 ≤ rootX n xs) : CallA Try.prog 35 [.agg [AI n, LI xs]] (ownA eN 65 2 (jcL n xs)) := by
  have hjM := jcM_in hP hr0
  have hR := okPo_fr hP
  have hF := okFr_rel hR
  have hb0 : 0 ≤ n ∧ n ≤ 8 ∧ (xs.length : Int) = n := ⟨hF.1, hF.2.1, hF.2.2.1⟩
  have hrl := rootX_lt hF.2.2.1
  refine CallA.of Try.func35 rfl (by kernel_rfl) ?_
  refine R.go 6 (R.drwT [0, 0, 0, 0, 0, 0, 0, 0, 1, 0] (by kernel_rfl) ?_)
  refine R.go 3 (R.call true (l01Full_c n (by omega) (by omega)) (by kernel_rfl) rfl (by kernel_rfl) ?_)
  refine R.go 1 (R.call true (l16Root_c n xs hP) (by kernel_rfl) rfl (by kernel_rfl) ?_)
  refine R.call true (l01One_c (rootX n xs) (by omega) (by omega)) (by kernel_rfl) rfl (by kernel_rfl) ?_
  refine R.go 1 (R.call true (l21Join_c n xs (bnot ((shl64 1 n) - 1) (shl64 1 (rootX n xs))) hP (by first | assumption | exact jcM_in (by assumption) (by omega))) (by kernel_rfl) rfl (by kernel_rfl) ?_)
  exact R.go 2 (R.retE (ownA eN 65 2 (jnd n xs (bnot ((shl64 1 n) - 1) (shl64 1 (rootX n xs))))) (by kernel_rfl) (by kernel_rfl) (by first | (rfl) | (exfalso; omega)))

theorem JC_spec (n : Int) (xs : List Int) (lx : xs.length ≤ 1048576) : CallA Try.prog 7 [.agg [AI n, LI xs]] (.tup [ownA eN 65 2 (jcR n xs), AI (jkC n xs)]) := by
  refine CallA.of Try.func7 rfl (by kernel_rfl) ?_
  refine R.go 9 (R.call true (l21Code_c n xs lx) (by kernel_rfl) rfl (by kernel_rfl) ?_)
  refine R.go 8 (R.condN ((jkC n xs) = 0) (by kernel_rfl) (fun c1 => ?_) (fun c1 => ?_))
  · refine R.go 6 (R.nil 2 65 2 (by kernel_rfl) ?_)
    exact R.retE (.tup [ownA eN 65 2 [], AI (jkC n xs)]) (by kernel_rfl) (by kernel_rfl) (by first | (first | exact jc_bad (by assumption) | exact jc_ok hc0) | (exfalso; omega))
  · have hc0 : jkC n xs = 0 := by first | assumption | omega
    have hjk := jk_ok hc0
    have hpo := hjk.1
    refine R.go 4 (R.call true (l21ConclusionO_c n xs (by assumption) (by first | assumption | omega)) (by kernel_rfl) rfl (by kernel_rfl) ?_)
    exact R.go 3 (R.retE (.tup [ownA eN 65 2 (jcL n xs), AI 0]) (by kernel_rfl) (by kernel_rfl) (by first | (first | exact jc_bad (by assumption) | exact jc_ok hc0) | (exfalso; omega)))

theorem JC_impl (n : Int) (xs : List Int) (lx : xs.length ≤ 1048576) : CallA Try.prog 9 [.agg [AI n, LI xs]] (.tup [ownA eN 65 2 (jcR n xs), AI (jkC n xs)]) := by
  refine CallA.of Try.func9 rfl (by kernel_rfl) ?_
  refine R.go 10 (R.call true (jankovCode_c n xs lx) (by kernel_rfl) rfl (by kernel_rfl) ?_)
  refine R.go 7 (R.condN ((jkC n xs) = 0) (by kernel_rfl) (fun c1 => ?_) (fun c1 => ?_))
  · refine R.go 6 (R.nil 2 65 2 (by kernel_rfl) ?_)
    exact R.retE (.tup [ownA eN 65 2 [], AI (jkC n xs)]) (by kernel_rfl) (by kernel_rfl) (by first | (first | exact jc_bad (by assumption) | exact jc_ok hc0) | (exfalso; omega))
  · have hc0 : jkC n xs = 0 := by first | assumption | omega
    have hjk := jk_ok hc0
    have hpo := hjk.1
    refine R.go 4 (R.call true (jankovConclusionO_c n xs (by assumption) (by first | assumption | omega)) (by kernel_rfl) rfl (by kernel_rfl) ?_)
    exact R.go 3 (R.retE (.tup [ownA eN 65 2 (jcL n xs), AI 0]) (by kernel_rfl) (by kernel_rfl) (by first | (first | exact jc_bad (by assumption) | exact jc_ok hc0) | (exfalso; omega)))

theorem lawJankovConclusion_in (n : Int) (xs : List Int) (hl : xs.length ≤ 1048576) : CallA Try.prog 3 [.agg [AI n, LI xs]] (.bool true) := by
  have hrl := jcR_len n xs
  refine CallA.of Try.func3 rfl (by kernel_rfl) ?_
  refine R.go 13 (R.call true (szPoset_c n xs 1048576 (by omega) (by first | omega | (simp <;> omega))) (by kernel_rfl) rfl (by kernel_rfl) ?_)
  refine R.go 8 (R.cond (((1048576 : Int) - xs.length) < 0) (by kernel_rfl) (fun c1 => ?_) (fun c1 => ?_))
  · exact R.go 4 (R.retE (.bool true) (by kernel_rfl) (by kernel_rfl) (by rfl))
  · refine R.go 4 (R.call true (toPoset_c n xs hl) (by kernel_rfl) rfl (by kernel_rfl) ?_)
    refine R.call false (JC_spec n xs hl) (by kernel_rfl) (by simp [AV.closed, closedL, AI, ownA_closed eN_closed]) (by kernel_rfl) ?_
    refine R.go 9 (R.call true (toPoset_c n xs hl) (by kernel_rfl) rfl (by kernel_rfl) ?_)
    refine R.go 6 (R.call false (JC_impl n xs hl) (by kernel_rfl) (by simp [AV.closed, closedL, AI, ownA_closed eN_closed]) (by kernel_rfl) ?_)
    refine R.go 11 (R.call false (eqNodeS_c (jcR n xs) (jcR n xs) (by first | omega | (simp <;> omega))) (by kernel_rfl) rfl (by kernel_rfl) ?_)
    refine R.go 2 (R.want (!decide ((jcR n xs) = (jcR n xs))) false (by kernel_rfl) (nF rfl) ?_)
    refine R.go 1 (R.want (!decide ((jcR n xs) = (jcR n xs))) false (by kernel_rfl) (nF rfl) ?_)
    refine R.go 1 (R.want (!decide ((jcR n xs) = (jcR n xs))) false (by kernel_rfl) (nF rfl) ?_)
    refine R.go 1 (R.pick (!decide ((jcR n xs) = (jcR n xs))) false (by kernel_rfl) (nF rfl) (by kernel_rfl) ?_)
    refine R.go 1 (R.els (!decide ((jkC n xs) = (jkC n xs))) (by kernel_rfl) (nF rfl) ?_)
    refine R.go 3 (R.meet (⟨(frm 96 [(0, .agg [AI n, LI xs]), (1, .ptr 0 0), (2, .bool false), (3, AI ((1048576 : Int) - xs.length)), (4, .ref 2), (5, AI (jkC n xs)), (6, .ptr 4 0), (7, .ref 5), (8, AI (jkC n xs)), (14, .agg [AI n, LI xs]), (15, AI 1048576), (16, AI ((1048576 : Int) - xs.length)), (17, AI ((1048576 : Int) - xs.length)), (18, .bool (decide (((1048576 : Int) - xs.length) < 0))), (19, .tup [.ref 2, AI (jkC n xs)]), (20, .agg [AI n, LI xs]), (21, .agg [AI n, .ref 1]), (22, .tup [.ref 2, AI (jkC n xs)]), (23, .ref 2), (24, AI (jkC n xs)), (25, .agg [AI n, LI xs]), (26, .agg [AI n, .ref 3]), (27, .tup [.ref 5, AI (jkC n xs)]), (28, .agg [AI n, .ref 3]), (29, .tup [.ref 5, AI (jkC n xs)]), (30, .ref 5), (31, AI (jkC n xs)), (32, .ref 5), (33, .ref 2), (34, .bool (decide ((jcR n xs) = (jcR n xs)))), (35, .bool (!decide ((jcR n xs) = (jcR n xs)))), (36, .bool (!decide ((jcR n xs) = (jcR n xs)))), (37, AI (jkC n xs)), (38, AI (jkC n xs)), (39, .bool (!decide ((jkC n xs) = (jkC n xs)))), (40, .bool (!decide ((jkC n xs) = (jkC n xs)))), (41, .agg [AI n, .ref 3]), (42, .agg [AI n, LI xs]), (43, .agg [AI n, .ref 6]), (44, .bool true), (45, .bool false)]), [.box 24 [AI n, LI xs], rowA eI 2 1 xs, rowA eN 65 2 (jcR n xs), rowA eI 2 1 xs, .box 29 [AI n, .ref 3], rowA eN 65 2 (jcR n xs), rowA eI 2 1 xs]⟩ : St) (by kernel_rfl) ?_ ?_)
    · refine R.any (by decide +kernel) (by kernel_rfl) ?_
      refine R.any2 0 1 (by kernel_rfl) (by kernel_rfl) ?_ ?_
      · refine R.go 2 (R.any1 1 (by kernel_rfl) (by kernel_rfl) ?_)
        refine R.go 2 (R.any1 2 (by kernel_rfl) (by kernel_rfl) ?_)
        refine R.call true (toPoset_c n xs hl) (by kernel_rfl) rfl (by kernel_rfl) ?_
        refine R.go 1 (R.any1 3 (by kernel_rfl) (by kernel_rfl) ?_)
        refine R.call false (eqPoset_c n xs (by first | omega | (simp <;> omega))) (by kernel_rfl) rfl (by kernel_rfl) ?_
        refine R.go 1 (R.any1 4 (by kernel_rfl) (by kernel_rfl) ?_)
        refine R.go 2 (R.any0 (by kernel_rfl) ?_)
        exact R.met (by kernel_rfl) (by kernel_rfl)
      · refine R.go 2 (R.any2 0 2 (by kernel_rfl) (by kernel_rfl) ?_ ?_)
        · refine R.go 2 (R.any1 2 (by kernel_rfl) (by kernel_rfl) ?_)
          refine R.call true (toPoset_c n xs hl) (by kernel_rfl) rfl (by kernel_rfl) ?_
          refine R.go 1 (R.any1 3 (by kernel_rfl) (by kernel_rfl) ?_)
          refine R.call false (eqPoset_c n xs (by first | omega | (simp <;> omega))) (by kernel_rfl) rfl (by kernel_rfl) ?_
          refine R.go 1 (R.any1 4 (by kernel_rfl) (by kernel_rfl) ?_)
          refine R.go 2 (R.any0 (by kernel_rfl) ?_)
          exact R.met (by kernel_rfl) (by kernel_rfl)
        · refine R.call true (toPoset_c n xs hl) (by kernel_rfl) rfl (by kernel_rfl) ?_
          refine R.go 1 (R.any1 0 (by kernel_rfl) (by kernel_rfl) ?_)
          refine R.go 2 (R.any1 3 (by kernel_rfl) (by kernel_rfl) ?_)
          refine R.call false (eqPoset_c n xs (by first | omega | (simp <;> omega))) (by kernel_rfl) rfl (by kernel_rfl) ?_
          refine R.go 1 (R.any1 4 (by kernel_rfl) (by kernel_rfl) ?_)
          refine R.go 2 (R.any0 (by kernel_rfl) ?_)
          exact R.met (by kernel_rfl) (by kernel_rfl)
    · refine R.go 10 (R.enter (avs := [.agg [AI n, .ref 3], AI 1]) Try.func12 rfl (by kernel_rfl) (by kernel_rfl) (by kernel_rfl) ?_)
      intro us2
      refine R.go 10 (R.enter (avs := [.ref 3, AI 1]) Try.func41 rfl (by kernel_rfl) (by kernel_rfl) (by kernel_rfl) ?_)
      intro us3
      refine R.go 10 (R.loop ((fun | (i1, ys1, q1) => (⟨(frm 19 [(0, .ref 3), (1, AI q1), (5, AI (i1 : Int))]), [.box 24 [AI n, LI xs], rowA eI 2 1 xs, rowA eN 65 2 (jcR n xs), rowA eI 2 1 ys1, .box 29 [AI n, .ref 3], rowA eN 65 2 (jcR n xs), rowA eI 2 1 xs, .frame us2 (frm 96 [(0, .agg [AI n, LI xs]), (1, .ptr 0 0), (2, .bool false), (3, AI ((1048576 : Int) - xs.length)), (4, .ref 2), (5, AI (jkC n xs)), (6, .ptr 4 0), (7, .ref 5), (8, AI (jkC n xs)), (9, AI 1), (14, .agg [AI n, LI xs]), (15, AI 1048576), (16, AI ((1048576 : Int) - xs.length)), (17, AI ((1048576 : Int) - xs.length)), (18, .bool (decide (((1048576 : Int) - xs.length) < 0))), (19, .tup [.ref 2, AI (jkC n xs)]), (20, .agg [AI n, LI xs]), (21, .agg [AI n, .ref 1]), (22, .tup [.ref 2, AI (jkC n xs)]), (23, .ref 2), (24, AI (jkC n xs)), (25, .agg [AI n, LI xs]), (26, .agg [AI n, .ref 3]), (27, .tup [.ref 5, AI (jkC n xs)]), (28, .agg [AI n, .ref 3]), (29, .tup [.ref 5, AI (jkC n xs)]), (30, .ref 5), (31, AI (jkC n xs)), (32, .ref 5), (33, .ref 2), (34, .bool (decide ((jcR n xs) = (jcR n xs)))), (35, .bool (!decide ((jcR n xs) = (jcR n xs)))), (36, .bool (!decide ((jcR n xs) = (jcR n xs)))), (37, AI (jkC n xs)), (38, AI (jkC n xs)), (39, .bool (!decide ((jkC n xs) = (jkC n xs)))), (40, .bool (!decide ((jkC n xs) = (jkC n xs)))), (41, .agg [AI n, .ref 3]), (42, .agg [AI n, LI xs]), (43, .agg [AI n, .ref 6]), (44, .bool true), (45, .bool false), (46, .agg [AI n, .ref 3]), (47, AI 1)]), .box 29 [AI n, .ref 3], .frame us3 (frm 10 [(0, .agg [AI n, .ref 3]), (1, AI 1), (2, .ptr 8 0), (4, AI 0), (5, .ptr 8 1), (6, .ref 3), (7, AI 1)])]⟩ : St) : Nat × (List Int) × Int → St)) (fun | (i1, ys1, q1) => (i1 ≤ xs.length) ∧ (ys1 = markI xs 1 i1) ∧ (q1 = 1 + (i1 : Int))) (fun | (i1, ys1, q1) => xs.length - i1) (0, xs, 1) [0, 1, 5] none (by kernel_rfl) (by kernel_rfl) (by kernel_rfl) ⟨(by omega), (by exact markI_zero _ _), (by simp)⟩ ?_)
      rintro ⟨i1, ys1, q1⟩ ⟨h7_1, rfl, rfl⟩ R4 N5
      have hl1 : (markI xs 1 i1).length = xs.length := markI_length _ _ _ (by assumption)
      refine R.go 8 (R.cond ((i1 : Int) < ((markI xs 1 i1).length : Int)) (by kernel_rfl) (fun c8 => ?_) (fun c8 => ?_))
      · refine R.go 8 (R.idxO 3 1 (markI xs 1 i1).length i1 (i1 : Int) (by kernel_rfl) rfl (by omega) (by kernel_rfl) ?_)
        refine R.stI 3 2 (markI xs 1 i1) i1 (1 + (i1 : Int)) (by kernel_rfl) (by omega) (by kernel_rfl) ?_
        refine R.go 3 (R.ar ((1 + (i1 : Int)) + 1) (by kernel_rfl) (by omega) (by omega) (by kernel_rfl) ?_)
        refine R.go 5 (R.ar ((i1 : Int) + 1) (by kernel_rfl) (by omega) (by omega) (by kernel_rfl) ?_)
        exact R.go 2 (R.stop R4 (by kernel_rfl) (N5 (i1 + 1, (markI xs 1 i1).set i1 (1 + (i1 : Int)), (1 + (i1 : Int)) + 1) [0, 1, 5] none _ (by kernel_rfl) (by kernel_rfl) ⟨(by omega), (by exact markI_set _ _ _ (by omega) _ (by omega)), (by omega)⟩ (by show (xs.length - (i1 + 1)) < (xs.length - i1); omega)))
      · refine R.go 6 (R.back (AI (1 + (i1 : Int))) (frm 10 [(0, .agg [AI n, .ref 3]), (1, AI 1), (2, .ptr 8 0), (4, AI 0), (5, .ptr 8 1), (6, .ref 3), (7, AI 1)]) (by kernel_rfl) (by kernel_rfl) (by kernel_rfl) ?_)
        refine R.go 7 (R.back (AI (1 + (i1 : Int))) (frm 96 [(0, .agg [AI n, LI xs]), (1, .ptr 0 0), (2, .bool false), (3, AI ((1048576 : Int) - xs.length)), (4, .ref 2), (5, AI (jkC n xs)), (6, .ptr 4 0), (7, .ref 5), (8, AI (jkC n xs)), (9, AI 1), (14, .agg [AI n, LI xs]), (15, AI 1048576), (16, AI ((1048576 : Int) - xs.length)), (17, AI ((1048576 : Int) - xs.length)), (18, .bool (decide (((1048576 : Int) - xs.length) < 0))), (19, .tup [.ref 2, AI (jkC n xs)]), (20, .agg [AI n, LI xs]), (21, .agg [AI n, .ref 1]), (22, .tup [.ref 2, AI (jkC n xs)]), (23, .ref 2), (24, AI (jkC n xs)), (25, .agg [AI n, LI xs]), (26, .agg [AI n, .ref 3]), (27, .tup [.ref 5, AI (jkC n xs)]), (28, .agg [AI n, .ref 3]), (29, .tup [.ref 5, AI (jkC n xs)]), (30, .ref 5), (31, AI (jkC n xs)), (32, .ref 5), (33, .ref 2), (34, .bool (decide ((jcR n xs) = (jcR n xs)))), (35, .bool (!decide ((jcR n xs) = (jcR n xs)))), (36, .bool (!decide ((jcR n xs) = (jcR n xs)))), (37, AI (jkC n xs)), (38, AI (jkC n xs)), (39, .bool (!decide ((jkC n xs) = (jkC n xs)))), (40, .bool (!decide ((jkC n xs) = (jkC n xs)))), (41, .agg [AI n, .ref 3]), (42, .agg [AI n, LI xs]), (43, .agg [AI n, .ref 6]), (44, .bool true), (45, .bool false), (46, .agg [AI n, .ref 3]), (47, AI 1)]) (by kernel_rfl) (by kernel_rfl) (by kernel_rfl) ?_)
        refine R.go 8 ?_
        by_cases c9 : (1 + (i1 : Int)) < 0
        · refine R.skp (decide ((1 + (i1 : Int)) < 0)) false (by kernel_rfl) (dT c9) (by kernel_rfl) ?_
          refine R.skp (decide ((1 + (i1 : Int)) < 0)) false (by kernel_rfl) (dT c9) (by kernel_rfl) ?_
          refine R.skp (decide ((1 + (i1 : Int)) < 0)) false (by kernel_rfl) (dT c9) (by kernel_rfl) ?_
          refine R.skp (decide ((1 + (i1 : Int)) < 0)) false (by kernel_rfl) (dT c9) (by kernel_rfl) ?_
          refine R.pick (decide ((1 + (i1 : Int)) < 0)) true (by kernel_rfl) (dT c9) (by kernel_rfl) ?_
          exact R.go 11 (R.retE (.bool false) (by kernel_rfl) (by kernel_rfl) (by first | (rfl) | (exfalso; omega)))
        · refine R.want (decide ((1 + (i1 : Int)) < 0)) false (by kernel_rfl) (dF c9) ?_
          refine R.go 1 (R.want (decide ((1 + (i1 : Int)) < 0)) false (by kernel_rfl) (dF c9) ?_)
          refine R.go 1 (R.want (decide ((1 + (i1 : Int)) < 0)) false (by kernel_rfl) (dF c9) ?_)
          refine R.call false (eqNodeS_c (jcR n xs) (jcR n xs) (by first | omega | (simp <;> omega))) (by kernel_rfl) rfl (by kernel_rfl) ?_
          refine R.want (decide ((1 + (i1 : Int)) < 0)) false (by kernel_rfl) (dF c9) ?_
          refine R.go 1 (R.pick (decide ((1 + (i1 : Int)) < 0)) false (by kernel_rfl) (dF c9) (by kernel_rfl) ?_)
          refine R.go 1 (R.want (!decide ((jcR n xs) = (jcR n xs))) false (by kernel_rfl) (nF rfl) ?_)
          refine R.go 1 (R.want (!decide ((jcR n xs) = (jcR n xs))) false (by kernel_rfl) (nF rfl) ?_)
          refine R.go 1 (R.want (!decide ((jcR n xs) = (jcR n xs))) false (by kernel_rfl) (nF rfl) ?_)
          refine R.go 1 (R.pick (!decide ((jcR n xs) = (jcR n xs))) false (by kernel_rfl) (nF rfl) (by kernel_rfl) ?_)
          refine R.go 1 (R.els (!decide ((jkC n xs) = (jkC n xs))) (by kernel_rfl) (nF rfl) ?_)
          refine R.go 9 (R.enter (avs := [.ref 5, AI 1]) Try.func13 rfl (by kernel_rfl) (by kernel_rfl) (by kernel_rfl) ?_)
          intro us10
          refine R.go 10 (R.loop ((fun | (i2, ys2, q2) => (⟨(frm 27 [(0, .ref 5), (1, AI q2), (5, AI (i2 : Int))]), [.box 24 [AI n, LI xs], rowA eI 2 1 xs, rowA eN 65 2 (jcR n xs), rowA eI 2 1 (markI xs 1 i1), .box 29 [AI n, .ref 3], rowA eN 65 2 ys2, rowA eI 2 1 xs, .dead, .box 29 [AI n, .ref 3], .dead, .frame us10 (frm 96 [(0, .agg [AI n, LI xs]), (1, .ptr 0 0), (2, .bool false), (3, AI ((1048576 : Int) - xs.length)), (4, .ref 2), (5, AI (jkC n xs)), (6, .ptr 4 0), (7, .ref 5), (8, AI (jkC n xs)), (9, AI (1 + (i1 : Int))), (10, AI 1), (14, .agg [AI n, LI xs]), (15, AI 1048576), (16, AI ((1048576 : Int) - xs.length)), (17, AI ((1048576 : Int) - xs.length)), (18, .bool (decide (((1048576 : Int) - xs.length) < 0))), (19, .tup [.ref 2, AI (jkC n xs)]), (20, .agg [AI n, LI xs]), (21, .agg [AI n, .ref 1]), (22, .tup [.ref 2, AI (jkC n xs)]), (23, .ref 2), (24, AI (jkC n xs)), (25, .agg [AI n, LI xs]), (26, .agg [AI n, .ref 3]), (27, .tup [.ref 5, AI (jkC n xs)]), (28, .agg [AI n, .ref 3]), (29, .tup [.ref 5, AI (jkC n xs)]), (30, .ref 5), (31, AI (jkC n xs)), (32, .ref 5), (33, .ref 2), (34, .bool (decide ((jcR n xs) = (jcR n xs)))), (35, .bool (!decide ((jcR n xs) = (jcR n xs)))), (36, .bool (!decide ((jcR n xs) = (jcR n xs)))), (37, AI (jkC n xs)), (38, AI (jkC n xs)), (39, .bool (!decide ((jkC n xs) = (jkC n xs)))), (40, .bool (!decide ((jkC n xs) = (jkC n xs)))), (41, .agg [AI n, .ref 3]), (42, .agg [AI n, LI xs]), (43, .agg [AI n, .ref 6]), (44, .bool true), (45, .bool false), (46, .agg [AI n, .ref 3]), (47, AI 1), (48, AI (1 + (i1 : Int))), (49, AI (1 + (i1 : Int))), (50, .bool (decide ((1 + (i1 : Int)) < 0))), (51, .bool (decide ((1 + (i1 : Int)) < 0))), (52, .ref 5), (53, .ref 2), (54, .bool (decide ((jcR n xs) = (jcR n xs)))), (55, .bool (!decide ((jcR n xs) = (jcR n xs)))), (56, .bool (!decide ((jcR n xs) = (jcR n xs)))), (57, .bool (!decide ((jcR n xs) = (jcR n xs)))), (58, AI (jkC n xs)), (59, AI (jkC n xs)), (60, .bool (!decide ((jkC n xs) = (jkC n xs)))), (61, .bool (!decide ((jkC n xs) = (jkC n xs)))), (62, .ref 5), (63, AI 1)])]⟩ : St) : Nat × (List (Int × Int)) × Int → St)) (fun | (i2, ys2, q2) => (i2 ≤ (jcR n xs).length) ∧ (ys2 = markTo (jcR n xs) 1 i2) ∧ (q2 = 1 + 2 * (i2 : Int))) (fun | (i2, ys2, q2) => (jcR n xs).length - i2) (0, (jcR n xs), 1) [0, 1, 5] none (by kernel_rfl) (by kernel_rfl) (by kernel_rfl) ⟨(by omega), (by exact markTo_zero _ _), (by simp)⟩ ?_)
          rintro ⟨i2, ys2, q2⟩ ⟨h14_1, rfl, rfl⟩ R11 N12
          have hl2 : (markTo (jcR n xs) 1 i2).length = (jcR n xs).length := markTo_length _ _ _ (by assumption)
          refine R.go 8 (R.cond ((i2 : Int) < ((markTo (jcR n xs) 1 i2).length : Int)) (by kernel_rfl) (fun c15 => ?_) (fun c15 => ?_))
          · refine R.go 8 (R.idxO 5 2 (markTo (jcR n xs) 1 i2).length i2 (i2 : Int) (by kernel_rfl) rfl (by omega) (by kernel_rfl) ?_)
            refine R.go 1 (R.stF eN 5 65 2 (markTo (jcR n xs) 1 i2) (0, 0) i2 0 (AI (1 + 2 * (i2 : Int))) (1 + 2 * (i2 : Int), ((markTo (jcR n xs) 1 i2).getD i2 (0, 0)).2) (by kernel_rfl) eN_len (by omega) (by decide) rfl (by kernel_rfl) ?_)
            refine R.go 4 (R.ar ((1 + 2 * (i2 : Int)) + 1) (by kernel_rfl) (by omega) (by omega) (by kernel_rfl) ?_)
            refine R.go 7 (R.idxO 5 2 ((markTo (jcR n xs) 1 i2).set i2 (1 + 2 * (i2 : Int), ((markTo (jcR n xs) 1 i2).getD i2 (0, 0)).2)).length i2 (i2 : Int) (by kernel_rfl) rfl (by first | omega | (simp <;> omega)) (by kernel_rfl) ?_)
            refine R.go 1 (R.stF eN 5 65 2 ((markTo (jcR n xs) 1 i2).set i2 (1 + 2 * (i2 : Int), ((markTo (jcR n xs) 1 i2).getD i2 (0, 0)).2)) (0, 0) i2 1 (AI ((1 + 2 * (i2 : Int)) + 1)) ((((markTo (jcR n xs) 1 i2).set i2 (1 + 2 * (i2 : Int), ((markTo (jcR n xs) 1 i2).getD i2 (0, 0)).2)).getD i2 (0, 0)).1, (1 + 2 * (i2 : Int)) + 1) (by kernel_rfl) eN_len (by first | omega | (simp <;> omega)) (by decide) rfl (by kernel_rfl) ?_)
            refine R.go 3 (R.ar (((1 + 2 * (i2 : Int)) + 1) + 1) (by kernel_rfl) (by omega) (by omega) (by kernel_rfl) ?_)
            refine R.go 5 (R.ar ((i2 : Int) + 1) (by kernel_rfl) (by omega) (by omega) (by kernel_rfl) ?_)
            exact R.go 2 (R.stop R11 (by kernel_rfl) (N12 (i2 + 1, ((markTo (jcR n xs) 1 i2).set i2 (1 + 2 * (i2 : Int), ((markTo (jcR n xs) 1 i2).getD i2 (0, 0)).2)).set i2 ((((markTo (jcR n xs) 1 i2).set i2 (1 + 2 * (i2 : Int), ((markTo (jcR n xs) 1 i2).getD i2 (0, 0)).2)).getD i2 (0, 0)).1, (1 + 2 * (i2 : Int)) + 1), ((1 + 2 * (i2 : Int)) + 1) + 1) [0, 1, 5] none _ (by kernel_rfl) (by kernel_rfl) ⟨(by omega), (by exact markTo_set _ _ _ (by omega) _ _ (by rw [getD_set_eq _ _ _ _ (by omega)])), (by omega)⟩ (by show ((jcR n xs).length - (i2 + 1)) < ((jcR n xs).length - i2); omega)))
          · refine R.go 6 (R.back (AI (1 + 2 * (i2 : Int))) (frm 96 [(0, .agg [AI n, LI xs]), (1, .ptr 0 0), (2, .bool false), (3, AI ((1048576 : Int) - xs.length)), (4, .ref 2), (5, AI (jkC n xs)), (6, .ptr 4 0), (7, .ref 5), (8, AI (jkC n xs)), (9, AI (1 + (i1 : Int))), (10, AI 1), (14, .agg [AI n, LI xs]), (15, AI 1048576), (16, AI ((1048576 : Int) - xs.length)), (17, AI ((1048576 : Int) - xs.length)), (18, .bool (decide (((1048576 : Int) - xs.length) < 0))), (19, .tup [.ref 2, AI (jkC n xs)]), (20, .agg [AI n, LI xs]), (21, .agg [AI n, .ref 1]), (22, .tup [.ref 2, AI (jkC n xs)]), (23, .ref 2), (24, AI (jkC n xs)), (25, .agg [AI n, LI xs]), (26, .agg [AI n, .ref 3]), (27, .tup [.ref 5, AI (jkC n xs)]), (28, .agg [AI n, .ref 3]), (29, .tup [.ref 5, AI (jkC n xs)]), (30, .ref 5), (31, AI (jkC n xs)), (32, .ref 5), (33, .ref 2), (34, .bool (decide ((jcR n xs) = (jcR n xs)))), (35, .bool (!decide ((jcR n xs) = (jcR n xs)))), (36, .bool (!decide ((jcR n xs) = (jcR n xs)))), (37, AI (jkC n xs)), (38, AI (jkC n xs)), (39, .bool (!decide ((jkC n xs) = (jkC n xs)))), (40, .bool (!decide ((jkC n xs) = (jkC n xs)))), (41, .agg [AI n, .ref 3]), (42, .agg [AI n, LI xs]), (43, .agg [AI n, .ref 6]), (44, .bool true), (45, .bool false), (46, .agg [AI n, .ref 3]), (47, AI 1), (48, AI (1 + (i1 : Int))), (49, AI (1 + (i1 : Int))), (50, .bool (decide ((1 + (i1 : Int)) < 0))), (51, .bool (decide ((1 + (i1 : Int)) < 0))), (52, .ref 5), (53, .ref 2), (54, .bool (decide ((jcR n xs) = (jcR n xs)))), (55, .bool (!decide ((jcR n xs) = (jcR n xs)))), (56, .bool (!decide ((jcR n xs) = (jcR n xs)))), (57, .bool (!decide ((jcR n xs) = (jcR n xs)))), (58, AI (jkC n xs)), (59, AI (jkC n xs)), (60, .bool (!decide ((jkC n xs) = (jkC n xs)))), (61, .bool (!decide ((jkC n xs) = (jkC n xs)))), (62, .ref 5), (63, AI 1)]) (by kernel_rfl) (by kernel_rfl) (by kernel_rfl) ?_)
            have hi2 : i2 = (jcR n xs).length := by omega
            have hx2 : markTo (jcR n xs) 1 i2 = marks (markTo (jcR n xs) 1 i2).length 1 := by rw [hl2, hi2]; exact markTo_all _ _ _ rfl
            refine R.go 10 (R.call false (heldNodeS_c (markTo (jcR n xs) 1 i2) 1 (by first | omega | (simp <;> omega)) (by omega) (by assumption)) (by kernel_rfl) rfl (by kernel_rfl) ?_)
            refine R.go 8 (R.cond ((1 + 2 * ((markTo (jcR n xs) 1 i2).length : Int)) < 0) (by kernel_rfl) (fun c16 => ?_) (fun c16 => ?_))
            · exact R.go 4 (R.retE (.bool false) (by kernel_rfl) (by kernel_rfl) (by first | (rfl) | (exfalso; omega)))
            · refine R.go 8 (R.condN ((1 + 2 * ((markTo (jcR n xs) 1 i2).length : Int)) = (1 + 2 * (i2 : Int))) (by kernel_rfl) (fun c17 => ?_) (fun c17 => ?_))
              · exact R.go 4 (R.retE (.bool false) (by kernel_rfl) (by kernel_rfl) (by first | (rfl) | (exfalso; omega)))
              · refine R.go 4 (R.call true (toPoset_c n xs hl) (by kernel_rfl) rfl (by kernel_rfl) ?_)
                refine R.call false (JC_impl n xs hl) (by kernel_rfl) (by simp [AV.closed, closedL, AI, ownA_closed eN_closed]) (by kernel_rfl) ?_
                refine R.go 11 (R.call false (eqNodeS_c (jcR n xs) (jcR n xs) (by first | omega | (simp <;> omega))) (by kernel_rfl) rfl (by kernel_rfl) ?_)
                refine R.go 2 (R.want (!decide ((jcR n xs) = (jcR n xs))) false (by kernel_rfl) (nF rfl) ?_)
                refine R.go 1 (R.want (!decide ((jcR n xs) = (jcR n xs))) false (by kernel_rfl) (nF rfl) ?_)
                refine R.go 1 (R.want (!decide ((jcR n xs) = (jcR n xs))) false (by kernel_rfl) (nF rfl) ?_)
                refine R.go 1 (R.pick (!decide ((jcR n xs) = (jcR n xs))) false (by kernel_rfl) (nF rfl) (by kernel_rfl) ?_)
                refine R.go 1 (R.els (!decide ((jkC n xs) = (jkC n xs))) (by kernel_rfl) (nF rfl) ?_)
                refine R.go 9 (R.call false (heldNodeS_c (markTo (jcR n xs) 1 i2) 1 (by first | omega | (simp <;> omega)) (by omega) (by assumption)) (by kernel_rfl) rfl (by kernel_rfl) ?_)
                refine R.go 8 (R.els (decide ((1 + 2 * ((markTo (jcR n xs) 1 i2).length : Int)) < 0)) (by kernel_rfl) (dF c16) ?_)
                refine R.go 8 (R.els (!decide ((1 + 2 * ((markTo (jcR n xs) 1 i2).length : Int)) = (1 + 2 * (i2 : Int)))) (by kernel_rfl) (nF c17) ?_)
                exact R.go 5 (R.retE (.bool true) (by kernel_rfl) (by kernel_rfl) (by rfl))

theorem lawJankovConclusion_1 (n : Int) (xs : List Int) (hx : 1048576 < xs.length) (hb : xs.length ≤ 9223372036854775807) : CallA Try.prog 3 [.agg [AI n, LI xs]] (.bool true) := by
  refine CallA.of Try.func3 rfl (by kernel_rfl) ?_
  refine R.go 13 (R.call true (szPoset_no n xs 1048576 (by omega) (by first | omega | (simp <;> omega)) hb) (by kernel_rfl) rfl (by kernel_rfl) ?_)
  exact R.go 13 (R.retE (.bool true) (by kernel_rfl) (by kernel_rfl) (by rfl))

theorem lawJankovConclusion (n : Int) (xs : List Int) (m0 : xs.length ≤ maxLen) : CallA Try.prog 3 [.agg [AI n, LI xs]] (.bool true) := by
  have hm : maxLen ≤ 9223372036854775807 := by decide
  rcases Nat.lt_or_ge 1048576 (xs.length) with h0 | h0
  · exact lawJankovConclusion_1 n xs h0 (by omega)
  exact lawJankovConclusion_in n xs h0

end Go.Proofs.Ytfkdkhlimdkehaa
