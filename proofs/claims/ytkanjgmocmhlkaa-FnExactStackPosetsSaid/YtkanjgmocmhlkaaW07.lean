/- The law of StackPosets. -/
import Derived.Test.YtkanjgmocmhlkaaW06
namespace Go.Proofs.Ytkanjgmocmhlkaa
open Go.RowKit Go.Abs

theorem heldPoset_c (n : Int) (xs : List Int) (k : Int) (lx : xs.length ≤ 1000000000) (hk : 0 ≤ k ∧ k ≤ 1000000) (hx : xs = markC xs.length k) : CallA Try.prog 16 [.agg [AI n, LI xs], AI k] (AI (k + (xs.length : Int))) := by
  refine CallA.of Try.func16 rfl (by kernel_rfl) ?_
  refine R.go 10 (R.call true (heldInt64S_c xs k lx hk hx) (by kernel_rfl) rfl (by kernel_rfl) ?_)
  refine R.go 8 (R.cond ((k + (xs.length : Int)) < 0) (by kernel_rfl) (fun c1 => ?_) (fun c1 => ?_))
  · exact R.go 4 (R.retE (AI (-1)) (by kernel_rfl) (by kernel_rfl) (by first | (rfl) | (exfalso; omega)))
  · exact R.go 6 (R.retE (AI (k + (xs.length : Int))) (by kernel_rfl) (by kernel_rfl) (by rfl))

set_option maxHeartbeats 1000000 in
theorem lawStackPosets_in (n : Int) (xs : List Int) (m : Int) (ys : List Int) (hl : xs.length + ys.length ≤ 1048576) : CallA Try.prog 3 [.agg [AI n, LI xs], .agg [AI m, LI ys]] (.bool true) := by
  have hrl := st_len (n := n) (m := m) (xs := xs) (ys := ys)
  refine CallA.of Try.func3 rfl (by kernel_rfl) ?_
  refine R.go 14 (R.call true (szPoset_c n xs 1048576 (by omega) (by first | omega | (simp <;> omega))) (by kernel_rfl) rfl (by kernel_rfl) ?_)
  refine R.go 8 (R.cond (((1048576 : Int) - xs.length) < 0) (by kernel_rfl) (fun c1 => ?_) (fun c1 => ?_))
  · exact R.go 4 (R.retE (.bool true) (by kernel_rfl) (by kernel_rfl) (by rfl))
  · refine R.go 5 (R.call true (szPoset_c m ys ((1048576 : Int) - xs.length) (by first | omega | (simp <;> omega)) (by first | omega | (simp <;> omega))) (by kernel_rfl) rfl (by kernel_rfl) ?_)
    refine R.go 8 (R.cond (((((1048576 : Int) - xs.length) : Int) - ys.length) < 0) (by kernel_rfl) (fun c2 => ?_) (fun c2 => ?_))
    · exact R.go 4 (R.retE (.bool true) (by kernel_rfl) (by kernel_rfl) (by rfl))
    · refine R.go 2 (R.meet (⟨(frm 119 [(0, .agg [AI n, LI xs]), (1, .agg [AI m, LI ys]), (2, .ptr 0 0), (3, .ptr 1 0), (4, .bool false), (5, AI ((((1048576 : Int) - xs.length) : Int) - ys.length)), (6, .ptr 2 0), (7, AI (stC n xs m ys)), (17, .agg [AI n, LI xs]), (18, AI 1048576), (19, AI ((1048576 : Int) - xs.length)), (20, AI ((1048576 : Int) - xs.length)), (21, .bool (decide (((1048576 : Int) - xs.length) < 0))), (22, .agg [AI m, LI ys]), (23, AI ((1048576 : Int) - xs.length)), (24, AI ((((1048576 : Int) - xs.length) : Int) - ys.length)), (25, AI ((((1048576 : Int) - xs.length) : Int) - ys.length)), (26, .bool (decide (((((1048576 : Int) - xs.length) : Int) - ys.length) < 0))), (27, .tup [.agg [AI (stN n xs m ys), LI (stR n xs m ys)], AI (stC n xs m ys)]), (28, .agg [AI n, LI xs]), (29, .agg [AI n, LI xs]), (30, .agg [AI m, LI ys]), (31, .agg [AI m, LI ys]), (32, .tup [.agg [AI (stN n xs m ys), LI (stR n xs m ys)], AI (stC n xs m ys)]), (33, .agg [AI (stN n xs m ys), LI (stR n xs m ys)]), (34, AI (stC n xs m ys))]), [.box 24 [AI n, LI xs], .box 24 [AI m, LI ys], .box 26 [AI (stN n xs m ys), LI (stR n xs m ys)]]⟩ : St) (by kernel_rfl) ?_ ?_)
      · refine R.any (by decide +kernel) (by kernel_rfl) ?_
        refine R.any3 0 2 8 (by kernel_rfl) (by kernel_rfl) ?_ ?_ ?_
        · refine R.go 2 (R.any3 1 2 8 (by kernel_rfl) (by kernel_rfl) ?_ ?_ ?_)
          · refine R.call true (toPoset_c n xs (by first | omega | (simp <;> omega))).frz (by kernel_rfl) rfl (by kernel_rfl) ?_
            refine R.go 1 (R.any2 2 8 (by kernel_rfl) (by kernel_rfl) ?_ ?_)
            · refine R.go 2 (R.any2 3 8 (by kernel_rfl) (by kernel_rfl) ?_ ?_)
              · refine R.call true (toPoset_c m ys (by first | omega | (simp <;> omega))).frz (by kernel_rfl) rfl (by kernel_rfl) ?_
                refine R.go 1 (R.any2 4 8 (by kernel_rfl) (by kernel_rfl) ?_ ?_)
                · refine R.call true (ST_spec n xs m ys (by first | omega | (simp <;> omega)) (by first | omega | (simp <;> omega))).frz (by kernel_rfl) rfl (by kernel_rfl) ?_
                  refine R.go 1 (R.anyF 5 (by kernel_rfl) (np_meet _) ?_)
                  refine R.anyX 6 (.agg [AI (stN n xs m ys), LI (stR n xs m ys)]) (by kernel_rfl) (np_meet _) ?_
                  refine R.anyX 7 (AI (stC n xs m ys)) (by kernel_rfl) (np_meet _) ?_
                  refine R.any1 8 (by kernel_rfl) (by kernel_rfl) ?_
                  refine R.go 2 (R.any1 9 (by kernel_rfl) (by kernel_rfl) ?_)
                  refine R.go 2 (R.any1 10 (by kernel_rfl) (by kernel_rfl) ?_)
                  refine R.go 2 (R.any0 (by kernel_rfl) ?_)
                  exact R.met (by kernel_rfl) (by kernel_rfl)
                · refine R.go 2 (R.any1 4 (by kernel_rfl) (by kernel_rfl) ?_)
                  refine R.call true (ST_spec n xs m ys (by first | omega | (simp <;> omega)) (by first | omega | (simp <;> omega))).frz (by kernel_rfl) rfl (by kernel_rfl) ?_
                  refine R.go 1 (R.anyF 5 (by kernel_rfl) (np_meet _) ?_)
                  refine R.anyX 6 (.agg [AI (stN n xs m ys), LI (stR n xs m ys)]) (by kernel_rfl) (np_meet _) ?_
                  refine R.anyX 7 (AI (stC n xs m ys)) (by kernel_rfl) (np_meet _) ?_
                  refine R.any1 9 (by kernel_rfl) (by kernel_rfl) ?_
                  refine R.go 2 (R.any1 10 (by kernel_rfl) (by kernel_rfl) ?_)
                  refine R.go 2 (R.any0 (by kernel_rfl) ?_)
                  exact R.met (by kernel_rfl) (by kernel_rfl)
              · refine R.go 2 (R.any1 3 (by kernel_rfl) (by kernel_rfl) ?_)
                refine R.call true (toPoset_c m ys (by first | omega | (simp <;> omega))).frz (by kernel_rfl) rfl (by kernel_rfl) ?_
                refine R.go 1 (R.any1 4 (by kernel_rfl) (by kernel_rfl) ?_)
                refine R.call true (ST_spec n xs m ys (by first | omega | (simp <;> omega)) (by first | omega | (simp <;> omega))).frz (by kernel_rfl) rfl (by kernel_rfl) ?_
                refine R.go 1 (R.anyF 5 (by kernel_rfl) (np_meet _) ?_)
                refine R.anyX 6 (.agg [AI (stN n xs m ys), LI (stR n xs m ys)]) (by kernel_rfl) (np_meet _) ?_
                refine R.anyX 7 (AI (stC n xs m ys)) (by kernel_rfl) (np_meet _) ?_
                refine R.any1 9 (by kernel_rfl) (by kernel_rfl) ?_
                refine R.go 2 (R.any1 10 (by kernel_rfl) (by kernel_rfl) ?_)
                refine R.go 2 (R.any0 (by kernel_rfl) ?_)
                exact R.met (by kernel_rfl) (by kernel_rfl)
            · refine R.go 2 (R.any1 2 (by kernel_rfl) (by kernel_rfl) ?_)
              refine R.go 2 (R.any1 3 (by kernel_rfl) (by kernel_rfl) ?_)
              refine R.call true (toPoset_c m ys (by first | omega | (simp <;> omega))).frz (by kernel_rfl) rfl (by kernel_rfl) ?_
              refine R.go 1 (R.any1 4 (by kernel_rfl) (by kernel_rfl) ?_)
              refine R.call true (ST_spec n xs m ys (by first | omega | (simp <;> omega)) (by first | omega | (simp <;> omega))).frz (by kernel_rfl) rfl (by kernel_rfl) ?_
              refine R.go 1 (R.anyF 5 (by kernel_rfl) (np_meet _) ?_)
              refine R.anyX 6 (.agg [AI (stN n xs m ys), LI (stR n xs m ys)]) (by kernel_rfl) (np_meet _) ?_
              refine R.anyX 7 (AI (stC n xs m ys)) (by kernel_rfl) (np_meet _) ?_
              refine R.any1 9 (by kernel_rfl) (by kernel_rfl) ?_
              refine R.go 2 (R.any1 10 (by kernel_rfl) (by kernel_rfl) ?_)
              refine R.go 2 (R.any0 (by kernel_rfl) ?_)
              exact R.met (by kernel_rfl) (by kernel_rfl)
          · refine R.go 2 (R.any2 1 8 (by kernel_rfl) (by kernel_rfl) ?_ ?_)
            · refine R.call true (toPoset_c n xs (by first | omega | (simp <;> omega))).frz (by kernel_rfl) rfl (by kernel_rfl) ?_
              refine R.go 1 (R.any2 3 8 (by kernel_rfl) (by kernel_rfl) ?_ ?_)
              · refine R.call true (toPoset_c m ys (by first | omega | (simp <;> omega))).frz (by kernel_rfl) rfl (by kernel_rfl) ?_
                refine R.go 1 (R.any2 4 8 (by kernel_rfl) (by kernel_rfl) ?_ ?_)
                · refine R.call true (ST_spec n xs m ys (by first | omega | (simp <;> omega)) (by first | omega | (simp <;> omega))).frz (by kernel_rfl) rfl (by kernel_rfl) ?_
                  refine R.go 1 (R.anyF 5 (by kernel_rfl) (np_meet _) ?_)
                  refine R.anyX 6 (.agg [AI (stN n xs m ys), LI (stR n xs m ys)]) (by kernel_rfl) (np_meet _) ?_
                  refine R.anyX 7 (AI (stC n xs m ys)) (by kernel_rfl) (np_meet _) ?_
                  refine R.any1 8 (by kernel_rfl) (by kernel_rfl) ?_
                  refine R.go 2 (R.any1 9 (by kernel_rfl) (by kernel_rfl) ?_)
                  refine R.go 2 (R.any1 10 (by kernel_rfl) (by kernel_rfl) ?_)
                  refine R.go 2 (R.any0 (by kernel_rfl) ?_)
                  exact R.met (by kernel_rfl) (by kernel_rfl)
                · refine R.go 2 (R.any1 4 (by kernel_rfl) (by kernel_rfl) ?_)
                  refine R.call true (ST_spec n xs m ys (by first | omega | (simp <;> omega)) (by first | omega | (simp <;> omega))).frz (by kernel_rfl) rfl (by kernel_rfl) ?_
                  refine R.go 1 (R.anyF 5 (by kernel_rfl) (np_meet _) ?_)
                  refine R.anyX 6 (.agg [AI (stN n xs m ys), LI (stR n xs m ys)]) (by kernel_rfl) (np_meet _) ?_
                  refine R.anyX 7 (AI (stC n xs m ys)) (by kernel_rfl) (np_meet _) ?_
                  refine R.any1 9 (by kernel_rfl) (by kernel_rfl) ?_
                  refine R.go 2 (R.any1 10 (by kernel_rfl) (by kernel_rfl) ?_)
                  refine R.go 2 (R.any0 (by kernel_rfl) ?_)
                  exact R.met (by kernel_rfl) (by kernel_rfl)
              · refine R.go 2 (R.any1 3 (by kernel_rfl) (by kernel_rfl) ?_)
                refine R.call true (toPoset_c m ys (by first | omega | (simp <;> omega))).frz (by kernel_rfl) rfl (by kernel_rfl) ?_
                refine R.go 1 (R.any1 4 (by kernel_rfl) (by kernel_rfl) ?_)
                refine R.call true (ST_spec n xs m ys (by first | omega | (simp <;> omega)) (by first | omega | (simp <;> omega))).frz (by kernel_rfl) rfl (by kernel_rfl) ?_
                refine R.go 1 (R.anyF 5 (by kernel_rfl) (np_meet _) ?_)
                refine R.anyX 6 (.agg [AI (stN n xs m ys), LI (stR n xs m ys)]) (by kernel_rfl) (np_meet _) ?_
                refine R.anyX 7 (AI (stC n xs m ys)) (by kernel_rfl) (np_meet _) ?_
                refine R.any1 9 (by kernel_rfl) (by kernel_rfl) ?_
                refine R.go 2 (R.any1 10 (by kernel_rfl) (by kernel_rfl) ?_)
                refine R.go 2 (R.any0 (by kernel_rfl) ?_)
                exact R.met (by kernel_rfl) (by kernel_rfl)
            · refine R.go 2 (R.any1 1 (by kernel_rfl) (by kernel_rfl) ?_)
              refine R.call true (toPoset_c n xs (by first | omega | (simp <;> omega))).frz (by kernel_rfl) rfl (by kernel_rfl) ?_
              refine R.go 1 (R.any1 3 (by kernel_rfl) (by kernel_rfl) ?_)
              refine R.call true (toPoset_c m ys (by first | omega | (simp <;> omega))).frz (by kernel_rfl) rfl (by kernel_rfl) ?_
              refine R.go 1 (R.any1 4 (by kernel_rfl) (by kernel_rfl) ?_)
              refine R.call true (ST_spec n xs m ys (by first | omega | (simp <;> omega)) (by first | omega | (simp <;> omega))).frz (by kernel_rfl) rfl (by kernel_rfl) ?_
              refine R.go 1 (R.anyF 5 (by kernel_rfl) (np_meet _) ?_)
              refine R.anyX 6 (.agg [AI (stN n xs m ys), LI (stR n xs m ys)]) (by kernel_rfl) (np_meet _) ?_
              refine R.anyX 7 (AI (stC n xs m ys)) (by kernel_rfl) (np_meet _) ?_
              refine R.any1 9 (by kernel_rfl) (by kernel_rfl) ?_
              refine R.go 2 (R.any1 10 (by kernel_rfl) (by kernel_rfl) ?_)
              refine R.go 2 (R.any0 (by kernel_rfl) ?_)
              exact R.met (by kernel_rfl) (by kernel_rfl)
          · refine R.go 2 (R.any2 1 2 (by kernel_rfl) (by kernel_rfl) ?_ ?_)
            · refine R.call true (toPoset_c n xs (by first | omega | (simp <;> omega))).frz (by kernel_rfl) rfl (by kernel_rfl) ?_
              refine R.go 1 (R.any1 2 (by kernel_rfl) (by kernel_rfl) ?_)
              refine R.go 2 (R.any1 3 (by kernel_rfl) (by kernel_rfl) ?_)
              refine R.call true (toPoset_c m ys (by first | omega | (simp <;> omega))).frz (by kernel_rfl) rfl (by kernel_rfl) ?_
              refine R.go 1 (R.any1 4 (by kernel_rfl) (by kernel_rfl) ?_)
              refine R.call true (ST_spec n xs m ys (by first | omega | (simp <;> omega)) (by first | omega | (simp <;> omega))).frz (by kernel_rfl) rfl (by kernel_rfl) ?_
              refine R.go 1 (R.anyF 5 (by kernel_rfl) (np_meet _) ?_)
              refine R.anyX 6 (.agg [AI (stN n xs m ys), LI (stR n xs m ys)]) (by kernel_rfl) (np_meet _) ?_
              refine R.anyX 7 (AI (stC n xs m ys)) (by kernel_rfl) (np_meet _) ?_
              refine R.any1 9 (by kernel_rfl) (by kernel_rfl) ?_
              refine R.go 2 (R.any1 10 (by kernel_rfl) (by kernel_rfl) ?_)
              refine R.go 2 (R.any0 (by kernel_rfl) ?_)
              exact R.met (by kernel_rfl) (by kernel_rfl)
            · refine R.go 2 (R.any1 1 (by kernel_rfl) (by kernel_rfl) ?_)
              refine R.call true (toPoset_c n xs (by first | omega | (simp <;> omega))).frz (by kernel_rfl) rfl (by kernel_rfl) ?_
              refine R.go 1 (R.any1 3 (by kernel_rfl) (by kernel_rfl) ?_)
              refine R.call true (toPoset_c m ys (by first | omega | (simp <;> omega))).frz (by kernel_rfl) rfl (by kernel_rfl) ?_
              refine R.go 1 (R.any1 4 (by kernel_rfl) (by kernel_rfl) ?_)
              refine R.call true (ST_spec n xs m ys (by first | omega | (simp <;> omega)) (by first | omega | (simp <;> omega))).frz (by kernel_rfl) rfl (by kernel_rfl) ?_
              refine R.go 1 (R.anyF 5 (by kernel_rfl) (np_meet _) ?_)
              refine R.anyX 6 (.agg [AI (stN n xs m ys), LI (stR n xs m ys)]) (by kernel_rfl) (np_meet _) ?_
              refine R.anyX 7 (AI (stC n xs m ys)) (by kernel_rfl) (np_meet _) ?_
              refine R.any1 9 (by kernel_rfl) (by kernel_rfl) ?_
              refine R.go 2 (R.any1 10 (by kernel_rfl) (by kernel_rfl) ?_)
              refine R.go 2 (R.any0 (by kernel_rfl) ?_)
              exact R.met (by kernel_rfl) (by kernel_rfl)
        · refine R.go 2 (R.any2 0 8 (by kernel_rfl) (by kernel_rfl) ?_ ?_)
          · refine R.go 2 (R.any2 1 8 (by kernel_rfl) (by kernel_rfl) ?_ ?_)
            · refine R.call true (toPoset_c n xs (by first | omega | (simp <;> omega))).frz (by kernel_rfl) rfl (by kernel_rfl) ?_
              refine R.go 1 (R.any2 3 8 (by kernel_rfl) (by kernel_rfl) ?_ ?_)
              · refine R.call true (toPoset_c m ys (by first | omega | (simp <;> omega))).frz (by kernel_rfl) rfl (by kernel_rfl) ?_
                refine R.go 1 (R.any2 4 8 (by kernel_rfl) (by kernel_rfl) ?_ ?_)
                · refine R.call true (ST_spec n xs m ys (by first | omega | (simp <;> omega)) (by first | omega | (simp <;> omega))).frz (by kernel_rfl) rfl (by kernel_rfl) ?_
                  refine R.go 1 (R.anyF 5 (by kernel_rfl) (np_meet _) ?_)
                  refine R.anyX 6 (.agg [AI (stN n xs m ys), LI (stR n xs m ys)]) (by kernel_rfl) (np_meet _) ?_
                  refine R.anyX 7 (AI (stC n xs m ys)) (by kernel_rfl) (np_meet _) ?_
                  refine R.any1 8 (by kernel_rfl) (by kernel_rfl) ?_
                  refine R.go 2 (R.any1 9 (by kernel_rfl) (by kernel_rfl) ?_)
                  refine R.go 2 (R.any1 10 (by kernel_rfl) (by kernel_rfl) ?_)
                  refine R.go 2 (R.any0 (by kernel_rfl) ?_)
                  exact R.met (by kernel_rfl) (by kernel_rfl)
                · refine R.go 2 (R.any1 4 (by kernel_rfl) (by kernel_rfl) ?_)
                  refine R.call true (ST_spec n xs m ys (by first | omega | (simp <;> omega)) (by first | omega | (simp <;> omega))).frz (by kernel_rfl) rfl (by kernel_rfl) ?_
                  refine R.go 1 (R.anyF 5 (by kernel_rfl) (np_meet _) ?_)
                  refine R.anyX 6 (.agg [AI (stN n xs m ys), LI (stR n xs m ys)]) (by kernel_rfl) (np_meet _) ?_
                  refine R.anyX 7 (AI (stC n xs m ys)) (by kernel_rfl) (np_meet _) ?_
                  refine R.any1 9 (by kernel_rfl) (by kernel_rfl) ?_
                  refine R.go 2 (R.any1 10 (by kernel_rfl) (by kernel_rfl) ?_)
                  refine R.go 2 (R.any0 (by kernel_rfl) ?_)
                  exact R.met (by kernel_rfl) (by kernel_rfl)
              · refine R.go 2 (R.any1 3 (by kernel_rfl) (by kernel_rfl) ?_)
                refine R.call true (toPoset_c m ys (by first | omega | (simp <;> omega))).frz (by kernel_rfl) rfl (by kernel_rfl) ?_
                refine R.go 1 (R.any1 4 (by kernel_rfl) (by kernel_rfl) ?_)
                refine R.call true (ST_spec n xs m ys (by first | omega | (simp <;> omega)) (by first | omega | (simp <;> omega))).frz (by kernel_rfl) rfl (by kernel_rfl) ?_
                refine R.go 1 (R.anyF 5 (by kernel_rfl) (np_meet _) ?_)
                refine R.anyX 6 (.agg [AI (stN n xs m ys), LI (stR n xs m ys)]) (by kernel_rfl) (np_meet _) ?_
                refine R.anyX 7 (AI (stC n xs m ys)) (by kernel_rfl) (np_meet _) ?_
                refine R.any1 9 (by kernel_rfl) (by kernel_rfl) ?_
                refine R.go 2 (R.any1 10 (by kernel_rfl) (by kernel_rfl) ?_)
                refine R.go 2 (R.any0 (by kernel_rfl) ?_)
                exact R.met (by kernel_rfl) (by kernel_rfl)
            · refine R.go 2 (R.any1 1 (by kernel_rfl) (by kernel_rfl) ?_)
              refine R.call true (toPoset_c n xs (by first | omega | (simp <;> omega))).frz (by kernel_rfl) rfl (by kernel_rfl) ?_
              refine R.go 1 (R.any1 3 (by kernel_rfl) (by kernel_rfl) ?_)
              refine R.call true (toPoset_c m ys (by first | omega | (simp <;> omega))).frz (by kernel_rfl) rfl (by kernel_rfl) ?_
              refine R.go 1 (R.any1 4 (by kernel_rfl) (by kernel_rfl) ?_)
              refine R.call true (ST_spec n xs m ys (by first | omega | (simp <;> omega)) (by first | omega | (simp <;> omega))).frz (by kernel_rfl) rfl (by kernel_rfl) ?_
              refine R.go 1 (R.anyF 5 (by kernel_rfl) (np_meet _) ?_)
              refine R.anyX 6 (.agg [AI (stN n xs m ys), LI (stR n xs m ys)]) (by kernel_rfl) (np_meet _) ?_
              refine R.anyX 7 (AI (stC n xs m ys)) (by kernel_rfl) (np_meet _) ?_
              refine R.any1 9 (by kernel_rfl) (by kernel_rfl) ?_
              refine R.go 2 (R.any1 10 (by kernel_rfl) (by kernel_rfl) ?_)
              refine R.go 2 (R.any0 (by kernel_rfl) ?_)
              exact R.met (by kernel_rfl) (by kernel_rfl)
          · refine R.go 2 (R.any1 0 (by kernel_rfl) (by kernel_rfl) ?_)
            refine R.go 2 (R.any1 1 (by kernel_rfl) (by kernel_rfl) ?_)
            refine R.call true (toPoset_c n xs (by first | omega | (simp <;> omega))).frz (by kernel_rfl) rfl (by kernel_rfl) ?_
            refine R.go 1 (R.any1 3 (by kernel_rfl) (by kernel_rfl) ?_)
            refine R.call true (toPoset_c m ys (by first | omega | (simp <;> omega))).frz (by kernel_rfl) rfl (by kernel_rfl) ?_
            refine R.go 1 (R.any1 4 (by kernel_rfl) (by kernel_rfl) ?_)
            refine R.call true (ST_spec n xs m ys (by first | omega | (simp <;> omega)) (by first | omega | (simp <;> omega))).frz (by kernel_rfl) rfl (by kernel_rfl) ?_
            refine R.go 1 (R.anyF 5 (by kernel_rfl) (np_meet _) ?_)
            refine R.anyX 6 (.agg [AI (stN n xs m ys), LI (stR n xs m ys)]) (by kernel_rfl) (np_meet _) ?_
            refine R.anyX 7 (AI (stC n xs m ys)) (by kernel_rfl) (np_meet _) ?_
            refine R.any1 9 (by kernel_rfl) (by kernel_rfl) ?_
            refine R.go 2 (R.any1 10 (by kernel_rfl) (by kernel_rfl) ?_)
            refine R.go 2 (R.any0 (by kernel_rfl) ?_)
            exact R.met (by kernel_rfl) (by kernel_rfl)
        · refine R.go 2 (R.any2 0 2 (by kernel_rfl) (by kernel_rfl) ?_ ?_)
          · refine R.go 2 (R.any2 1 2 (by kernel_rfl) (by kernel_rfl) ?_ ?_)
            · refine R.call true (toPoset_c n xs (by first | omega | (simp <;> omega))).frz (by kernel_rfl) rfl (by kernel_rfl) ?_
              refine R.go 1 (R.any1 2 (by kernel_rfl) (by kernel_rfl) ?_)
              refine R.go 2 (R.any1 3 (by kernel_rfl) (by kernel_rfl) ?_)
              refine R.call true (toPoset_c m ys (by first | omega | (simp <;> omega))).frz (by kernel_rfl) rfl (by kernel_rfl) ?_
              refine R.go 1 (R.any1 4 (by kernel_rfl) (by kernel_rfl) ?_)
              refine R.call true (ST_spec n xs m ys (by first | omega | (simp <;> omega)) (by first | omega | (simp <;> omega))).frz (by kernel_rfl) rfl (by kernel_rfl) ?_
              refine R.go 1 (R.anyF 5 (by kernel_rfl) (np_meet _) ?_)
              refine R.anyX 6 (.agg [AI (stN n xs m ys), LI (stR n xs m ys)]) (by kernel_rfl) (np_meet _) ?_
              refine R.anyX 7 (AI (stC n xs m ys)) (by kernel_rfl) (np_meet _) ?_
              refine R.any1 9 (by kernel_rfl) (by kernel_rfl) ?_
              refine R.go 2 (R.any1 10 (by kernel_rfl) (by kernel_rfl) ?_)
              refine R.go 2 (R.any0 (by kernel_rfl) ?_)
              exact R.met (by kernel_rfl) (by kernel_rfl)
            · refine R.go 2 (R.any1 1 (by kernel_rfl) (by kernel_rfl) ?_)
              refine R.call true (toPoset_c n xs (by first | omega | (simp <;> omega))).frz (by kernel_rfl) rfl (by kernel_rfl) ?_
              refine R.go 1 (R.any1 3 (by kernel_rfl) (by kernel_rfl) ?_)
              refine R.call true (toPoset_c m ys (by first | omega | (simp <;> omega))).frz (by kernel_rfl) rfl (by kernel_rfl) ?_
              refine R.go 1 (R.any1 4 (by kernel_rfl) (by kernel_rfl) ?_)
              refine R.call true (ST_spec n xs m ys (by first | omega | (simp <;> omega)) (by first | omega | (simp <;> omega))).frz (by kernel_rfl) rfl (by kernel_rfl) ?_
              refine R.go 1 (R.anyF 5 (by kernel_rfl) (np_meet _) ?_)
              refine R.anyX 6 (.agg [AI (stN n xs m ys), LI (stR n xs m ys)]) (by kernel_rfl) (np_meet _) ?_
              refine R.anyX 7 (AI (stC n xs m ys)) (by kernel_rfl) (np_meet _) ?_
              refine R.any1 9 (by kernel_rfl) (by kernel_rfl) ?_
              refine R.go 2 (R.any1 10 (by kernel_rfl) (by kernel_rfl) ?_)
              refine R.go 2 (R.any0 (by kernel_rfl) ?_)
              exact R.met (by kernel_rfl) (by kernel_rfl)
          · refine R.go 2 (R.any1 0 (by kernel_rfl) (by kernel_rfl) ?_)
            refine R.go 2 (R.any1 1 (by kernel_rfl) (by kernel_rfl) ?_)
            refine R.call true (toPoset_c n xs (by first | omega | (simp <;> omega))).frz (by kernel_rfl) rfl (by kernel_rfl) ?_
            refine R.go 1 (R.any1 3 (by kernel_rfl) (by kernel_rfl) ?_)
            refine R.call true (toPoset_c m ys (by first | omega | (simp <;> omega))).frz (by kernel_rfl) rfl (by kernel_rfl) ?_
            refine R.go 1 (R.any1 4 (by kernel_rfl) (by kernel_rfl) ?_)
            refine R.call true (ST_spec n xs m ys (by first | omega | (simp <;> omega)) (by first | omega | (simp <;> omega))).frz (by kernel_rfl) rfl (by kernel_rfl) ?_
            refine R.go 1 (R.anyF 5 (by kernel_rfl) (np_meet _) ?_)
            refine R.anyX 6 (.agg [AI (stN n xs m ys), LI (stR n xs m ys)]) (by kernel_rfl) (np_meet _) ?_
            refine R.anyX 7 (AI (stC n xs m ys)) (by kernel_rfl) (np_meet _) ?_
            refine R.any1 9 (by kernel_rfl) (by kernel_rfl) ?_
            refine R.go 2 (R.any1 10 (by kernel_rfl) (by kernel_rfl) ?_)
            refine R.go 2 (R.any0 (by kernel_rfl) ?_)
            exact R.met (by kernel_rfl) (by kernel_rfl)
      · refine R.go 3 (R.call true (toPoset_c n xs (by first | omega | (simp <;> omega))) (by kernel_rfl) rfl (by kernel_rfl) ?_)
        refine R.go 6 (R.call true (toPoset_c m ys (by first | omega | (simp <;> omega))) (by kernel_rfl) rfl (by kernel_rfl) ?_)
        refine R.go 7 (R.call false (ST_impl n xs m ys (by first | omega | (simp <;> omega)) (by first | omega | (simp <;> omega))) (by kernel_rfl) (by simp [AV.closed, closedL, AI, ownA_closed eI_closed]) (by kernel_rfl) ?_)
        refine R.go 12 (R.call false (eqPoset_c (stN n xs m ys) (stR n xs m ys) (by first | omega | (simp <;> omega))) (by kernel_rfl) rfl (by kernel_rfl) ?_)
        refine R.go 7 (R.els (!decide ((stC n xs m ys) = (stC n xs m ys))) (by kernel_rfl) (nF rfl) ?_)
        refine R.go 3 (R.meet (⟨(frm 119 [(0, .agg [AI n, LI xs]), (1, .agg [AI m, LI ys]), (2, .ptr 0 0), (3, .ptr 1 0), (4, .bool false), (5, AI ((((1048576 : Int) - xs.length) : Int) - ys.length)), (6, .ptr 2 0), (7, AI (stC n xs m ys)), (8, .ptr 4 0), (9, .ptr 6 0), (10, .ptr 8 0), (11, AI (stC n xs m ys)), (17, .agg [AI n, LI xs]), (18, AI 1048576), (19, AI ((1048576 : Int) - xs.length)), (20, AI ((1048576 : Int) - xs.length)), (21, .bool (decide (((1048576 : Int) - xs.length) < 0))), (22, .agg [AI m, LI ys]), (23, AI ((1048576 : Int) - xs.length)), (24, AI ((((1048576 : Int) - xs.length) : Int) - ys.length)), (25, AI ((((1048576 : Int) - xs.length) : Int) - ys.length)), (26, .bool (decide (((((1048576 : Int) - xs.length) : Int) - ys.length) < 0))), (27, .tup [.agg [AI (stN n xs m ys), LI (stR n xs m ys)], AI (stC n xs m ys)]), (28, .agg [AI n, LI xs]), (29, .agg [AI n, LI xs]), (30, .agg [AI m, LI ys]), (31, .agg [AI m, LI ys]), (32, .tup [.agg [AI (stN n xs m ys), LI (stR n xs m ys)], AI (stC n xs m ys)]), (33, .agg [AI (stN n xs m ys), LI (stR n xs m ys)]), (34, AI (stC n xs m ys)), (35, .agg [AI n, LI xs]), (36, .agg [AI n, .ref 3]), (37, .agg [AI m, LI ys]), (38, .agg [AI m, .ref 5]), (39, .tup [.agg [AI (stN n xs m ys), .ref 7], AI (stC n xs m ys)]), (40, .agg [AI n, .ref 3]), (41, .agg [AI m, .ref 5]), (42, .tup [.agg [AI (stN n xs m ys), .ref 7], AI (stC n xs m ys)]), (43, .agg [AI (stN n xs m ys), .ref 7]), (44, AI (stC n xs m ys)), (45, .agg [AI (stN n xs m ys), .ref 7]), (46, .agg [AI (stN n xs m ys), LI (stR n xs m ys)]), (47, .bool true), (48, .bool false), (49, .bool false), (50, AI (stC n xs m ys)), (51, AI (stC n xs m ys)), (52, .bool (!decide ((stC n xs m ys) = (stC n xs m ys)))), (53, .bool (!decide ((stC n xs m ys) = (stC n xs m ys)))), (54, .agg [AI n, .ref 3]), (55, .agg [AI n, LI xs]), (56, .agg [AI n, .ref 9]), (57, .bool true), (58, .bool false)]), [.box 24 [AI n, LI xs], .box 24 [AI m, LI ys], .box 26 [AI (stN n xs m ys), LI (stR n xs m ys)], rowA eI 2 1 xs, .box 26 [AI n, .ref 3], rowA eI 2 1 ys, .box 26 [AI m, .ref 5], rowA eI 2 1 (stR n xs m ys), .box 26 [AI (stN n xs m ys), .ref 7], rowA eI 2 1 xs]⟩ : St) (by kernel_rfl) ?_ ?_)
        · refine R.any (by decide +kernel) (by kernel_rfl) ?_
          refine R.any2 0 1 (by kernel_rfl) (by kernel_rfl) ?_ ?_
          · refine R.go 2 (R.any1 1 (by kernel_rfl) (by kernel_rfl) ?_)
            refine R.go 2 (R.any1 2 (by kernel_rfl) (by kernel_rfl) ?_)
            refine R.call true (toPoset_c n xs (by first | omega | (simp <;> omega))) (by kernel_rfl) rfl (by kernel_rfl) ?_
            refine R.go 1 (R.any1 3 (by kernel_rfl) (by kernel_rfl) ?_)
            refine R.call false (eqPoset_c n xs (by first | omega | (simp <;> omega))) (by kernel_rfl) rfl (by kernel_rfl) ?_
            refine R.go 1 (R.any1 4 (by kernel_rfl) (by kernel_rfl) ?_)
            refine R.go 2 (R.any0 (by kernel_rfl) ?_)
            exact R.met (by kernel_rfl) (by kernel_rfl)
          · refine R.go 2 (R.any2 0 2 (by kernel_rfl) (by kernel_rfl) ?_ ?_)
            · refine R.go 2 (R.any1 2 (by kernel_rfl) (by kernel_rfl) ?_)
              refine R.call true (toPoset_c n xs (by first | omega | (simp <;> omega))) (by kernel_rfl) rfl (by kernel_rfl) ?_
              refine R.go 1 (R.any1 3 (by kernel_rfl) (by kernel_rfl) ?_)
              refine R.call false (eqPoset_c n xs (by first | omega | (simp <;> omega))) (by kernel_rfl) rfl (by kernel_rfl) ?_
              refine R.go 1 (R.any1 4 (by kernel_rfl) (by kernel_rfl) ?_)
              refine R.go 2 (R.any0 (by kernel_rfl) ?_)
              exact R.met (by kernel_rfl) (by kernel_rfl)
            · refine R.call true (toPoset_c n xs (by first | omega | (simp <;> omega))) (by kernel_rfl) rfl (by kernel_rfl) ?_
              refine R.go 1 (R.any1 0 (by kernel_rfl) (by kernel_rfl) ?_)
              refine R.go 2 (R.any1 3 (by kernel_rfl) (by kernel_rfl) ?_)
              refine R.call false (eqPoset_c n xs (by first | omega | (simp <;> omega))) (by kernel_rfl) rfl (by kernel_rfl) ?_
              refine R.go 1 (R.any1 4 (by kernel_rfl) (by kernel_rfl) ?_)
              refine R.go 2 (R.any0 (by kernel_rfl) ?_)
              exact R.met (by kernel_rfl) (by kernel_rfl)
        · refine R.go 4 (R.meet (⟨(frm 119 [(0, .agg [AI n, LI xs]), (1, .agg [AI m, LI ys]), (2, .ptr 0 0), (3, .ptr 1 0), (4, .bool false), (5, AI ((((1048576 : Int) - xs.length) : Int) - ys.length)), (6, .ptr 2 0), (7, AI (stC n xs m ys)), (8, .ptr 4 0), (9, .ptr 6 0), (10, .ptr 8 0), (11, AI (stC n xs m ys)), (17, .agg [AI n, LI xs]), (18, AI 1048576), (19, AI ((1048576 : Int) - xs.length)), (20, AI ((1048576 : Int) - xs.length)), (21, .bool (decide (((1048576 : Int) - xs.length) < 0))), (22, .agg [AI m, LI ys]), (23, AI ((1048576 : Int) - xs.length)), (24, AI ((((1048576 : Int) - xs.length) : Int) - ys.length)), (25, AI ((((1048576 : Int) - xs.length) : Int) - ys.length)), (26, .bool (decide (((((1048576 : Int) - xs.length) : Int) - ys.length) < 0))), (27, .tup [.agg [AI (stN n xs m ys), LI (stR n xs m ys)], AI (stC n xs m ys)]), (28, .agg [AI n, LI xs]), (29, .agg [AI n, LI xs]), (30, .agg [AI m, LI ys]), (31, .agg [AI m, LI ys]), (32, .tup [.agg [AI (stN n xs m ys), LI (stR n xs m ys)], AI (stC n xs m ys)]), (33, .agg [AI (stN n xs m ys), LI (stR n xs m ys)]), (34, AI (stC n xs m ys)), (35, .agg [AI n, LI xs]), (36, .agg [AI n, .ref 3]), (37, .agg [AI m, LI ys]), (38, .agg [AI m, .ref 5]), (39, .tup [.agg [AI (stN n xs m ys), .ref 7], AI (stC n xs m ys)]), (40, .agg [AI n, .ref 3]), (41, .agg [AI m, .ref 5]), (42, .tup [.agg [AI (stN n xs m ys), .ref 7], AI (stC n xs m ys)]), (43, .agg [AI (stN n xs m ys), .ref 7]), (44, AI (stC n xs m ys)), (45, .agg [AI (stN n xs m ys), .ref 7]), (46, .agg [AI (stN n xs m ys), LI (stR n xs m ys)]), (47, .bool true), (48, .bool false), (49, .bool false), (50, AI (stC n xs m ys)), (51, AI (stC n xs m ys)), (52, .bool (!decide ((stC n xs m ys) = (stC n xs m ys)))), (53, .bool (!decide ((stC n xs m ys) = (stC n xs m ys)))), (54, .agg [AI n, .ref 3]), (55, .agg [AI n, LI xs]), (56, .agg [AI n, .ref 9]), (57, .bool true), (58, .bool false), (59, .agg [AI m, .ref 5]), (60, .agg [AI m, LI ys]), (61, .agg [AI m, .ref 10]), (62, .bool true), (63, .bool false)]), [.box 24 [AI n, LI xs], .box 24 [AI m, LI ys], .box 26 [AI (stN n xs m ys), LI (stR n xs m ys)], rowA eI 2 1 xs, .box 26 [AI n, .ref 3], rowA eI 2 1 ys, .box 26 [AI m, .ref 5], rowA eI 2 1 (stR n xs m ys), .box 26 [AI (stN n xs m ys), .ref 7], rowA eI 2 1 xs, rowA eI 2 1 ys]⟩ : St) (by kernel_rfl) ?_ ?_)
          · refine R.any (by decide +kernel) (by kernel_rfl) ?_
            refine R.any2 0 1 (by kernel_rfl) (by kernel_rfl) ?_ ?_
            · refine R.go 2 (R.any1 1 (by kernel_rfl) (by kernel_rfl) ?_)
              refine R.go 2 (R.any1 2 (by kernel_rfl) (by kernel_rfl) ?_)
              refine R.call true (toPoset_c m ys (by first | omega | (simp <;> omega))) (by kernel_rfl) rfl (by kernel_rfl) ?_
              refine R.go 1 (R.any1 3 (by kernel_rfl) (by kernel_rfl) ?_)
              refine R.call false (eqPoset_c m ys (by first | omega | (simp <;> omega))) (by kernel_rfl) rfl (by kernel_rfl) ?_
              refine R.go 1 (R.any1 4 (by kernel_rfl) (by kernel_rfl) ?_)
              refine R.go 2 (R.any0 (by kernel_rfl) ?_)
              exact R.met (by kernel_rfl) (by kernel_rfl)
            · refine R.go 2 (R.any2 0 2 (by kernel_rfl) (by kernel_rfl) ?_ ?_)
              · refine R.go 2 (R.any1 2 (by kernel_rfl) (by kernel_rfl) ?_)
                refine R.call true (toPoset_c m ys (by first | omega | (simp <;> omega))) (by kernel_rfl) rfl (by kernel_rfl) ?_
                refine R.go 1 (R.any1 3 (by kernel_rfl) (by kernel_rfl) ?_)
                refine R.call false (eqPoset_c m ys (by first | omega | (simp <;> omega))) (by kernel_rfl) rfl (by kernel_rfl) ?_
                refine R.go 1 (R.any1 4 (by kernel_rfl) (by kernel_rfl) ?_)
                refine R.go 2 (R.any0 (by kernel_rfl) ?_)
                exact R.met (by kernel_rfl) (by kernel_rfl)
              · refine R.call true (toPoset_c m ys (by first | omega | (simp <;> omega))) (by kernel_rfl) rfl (by kernel_rfl) ?_
                refine R.go 1 (R.any1 0 (by kernel_rfl) (by kernel_rfl) ?_)
                refine R.go 2 (R.any1 3 (by kernel_rfl) (by kernel_rfl) ?_)
                refine R.call false (eqPoset_c m ys (by first | omega | (simp <;> omega))) (by kernel_rfl) rfl (by kernel_rfl) ?_
                refine R.go 1 (R.any1 4 (by kernel_rfl) (by kernel_rfl) ?_)
                refine R.go 2 (R.any0 (by kernel_rfl) ?_)
                exact R.met (by kernel_rfl) (by kernel_rfl)
          · refine R.go 10 (R.enter (avs := [.agg [AI n, .ref 3], AI 1]) Try.func15 rfl (by kernel_rfl) (by kernel_rfl) (by kernel_rfl) ?_)
            intro us3
            refine R.go 10 (R.enter (avs := [.ref 3, AI 1]) Try.func20 rfl (by kernel_rfl) (by kernel_rfl) (by kernel_rfl) ?_)
            intro us4
            refine R.go 10 (R.loop ((fun | (i1, ys1, q1) => (⟨(frm 19 [(0, .ref 3), (1, AI q1), (5, AI (i1 : Int))]), [.box 24 [AI n, LI xs], .box 24 [AI m, LI ys], .box 26 [AI (stN n xs m ys), LI (stR n xs m ys)], rowA eI 2 1 ys1, .box 26 [AI n, .ref 3], rowA eI 2 1 ys, .box 26 [AI m, .ref 5], rowA eI 2 1 (stR n xs m ys), .box 26 [AI (stN n xs m ys), .ref 7], rowA eI 2 1 xs, rowA eI 2 1 ys, .frame us3 (frm 119 [(0, .agg [AI n, LI xs]), (1, .agg [AI m, LI ys]), (2, .ptr 0 0), (3, .ptr 1 0), (4, .bool false), (5, AI ((((1048576 : Int) - xs.length) : Int) - ys.length)), (6, .ptr 2 0), (7, AI (stC n xs m ys)), (8, .ptr 4 0), (9, .ptr 6 0), (10, .ptr 8 0), (11, AI (stC n xs m ys)), (12, AI 1), (17, .agg [AI n, LI xs]), (18, AI 1048576), (19, AI ((1048576 : Int) - xs.length)), (20, AI ((1048576 : Int) - xs.length)), (21, .bool (decide (((1048576 : Int) - xs.length) < 0))), (22, .agg [AI m, LI ys]), (23, AI ((1048576 : Int) - xs.length)), (24, AI ((((1048576 : Int) - xs.length) : Int) - ys.length)), (25, AI ((((1048576 : Int) - xs.length) : Int) - ys.length)), (26, .bool (decide (((((1048576 : Int) - xs.length) : Int) - ys.length) < 0))), (27, .tup [.agg [AI (stN n xs m ys), LI (stR n xs m ys)], AI (stC n xs m ys)]), (28, .agg [AI n, LI xs]), (29, .agg [AI n, LI xs]), (30, .agg [AI m, LI ys]), (31, .agg [AI m, LI ys]), (32, .tup [.agg [AI (stN n xs m ys), LI (stR n xs m ys)], AI (stC n xs m ys)]), (33, .agg [AI (stN n xs m ys), LI (stR n xs m ys)]), (34, AI (stC n xs m ys)), (35, .agg [AI n, LI xs]), (36, .agg [AI n, .ref 3]), (37, .agg [AI m, LI ys]), (38, .agg [AI m, .ref 5]), (39, .tup [.agg [AI (stN n xs m ys), .ref 7], AI (stC n xs m ys)]), (40, .agg [AI n, .ref 3]), (41, .agg [AI m, .ref 5]), (42, .tup [.agg [AI (stN n xs m ys), .ref 7], AI (stC n xs m ys)]), (43, .agg [AI (stN n xs m ys), .ref 7]), (44, AI (stC n xs m ys)), (45, .agg [AI (stN n xs m ys), .ref 7]), (46, .agg [AI (stN n xs m ys), LI (stR n xs m ys)]), (47, .bool true), (48, .bool false), (49, .bool false), (50, AI (stC n xs m ys)), (51, AI (stC n xs m ys)), (52, .bool (!decide ((stC n xs m ys) = (stC n xs m ys)))), (53, .bool (!decide ((stC n xs m ys) = (stC n xs m ys)))), (54, .agg [AI n, .ref 3]), (55, .agg [AI n, LI xs]), (56, .agg [AI n, .ref 9]), (57, .bool true), (58, .bool false), (59, .agg [AI m, .ref 5]), (60, .agg [AI m, LI ys]), (61, .agg [AI m, .ref 10]), (62, .bool true), (63, .bool false), (64, .agg [AI n, .ref 3]), (65, AI 1)]), .box 26 [AI n, .ref 3], .frame us4 (frm 10 [(0, .agg [AI n, .ref 3]), (1, AI 1), (2, .ptr 12 0), (4, AI 0), (5, .ptr 12 1), (6, .ref 3), (7, AI 1)])]⟩ : St) : Nat × (List Int) × Int → St)) (fun | (i1, ys1, q1) => (i1 ≤ xs.length) ∧ (ys1 = markI xs 1 i1) ∧ (q1 = 1 + (i1 : Int))) (fun | (i1, ys1, q1) => xs.length - i1) (0, xs, 1) [0, 1, 5] none (by kernel_rfl) (by kernel_rfl) (by kernel_rfl) ⟨(by omega), (by exact markI_zero _ _), (by simp)⟩ ?_)
            rintro ⟨i1, ys1, q1⟩ ⟨h8_1, rfl, rfl⟩ R5 N6
            have hl1 : (markI xs 1 i1).length = xs.length := markI_length _ _ _ (by assumption)
            refine R.go 8 (R.cond ((i1 : Int) < ((markI xs 1 i1).length : Int)) (by kernel_rfl) (fun c9 => ?_) (fun c9 => ?_))
            · refine R.go 8 (R.idxO 3 1 (markI xs 1 i1).length i1 (i1 : Int) (by kernel_rfl) rfl (by omega) (by kernel_rfl) ?_)
              refine R.stI 3 2 (markI xs 1 i1) i1 (1 + (i1 : Int)) (by kernel_rfl) (by omega) (by kernel_rfl) ?_
              refine R.go 3 (R.ar ((1 + (i1 : Int)) + 1) (by kernel_rfl) (by omega) (by omega) (by kernel_rfl) ?_)
              refine R.go 5 (R.ar ((i1 : Int) + 1) (by kernel_rfl) (by omega) (by omega) (by kernel_rfl) ?_)
              exact R.go 2 (R.stop R5 (by kernel_rfl) (N6 (i1 + 1, (markI xs 1 i1).set i1 (1 + (i1 : Int)), (1 + (i1 : Int)) + 1) [0, 1, 5] none _ (by kernel_rfl) (by kernel_rfl) ⟨(by omega), (by exact markI_set _ _ _ (by omega) _ (by omega)), (by omega)⟩ (by show (xs.length - (i1 + 1)) < (xs.length - i1); omega)))
            · refine R.go 6 (R.back (AI (1 + (i1 : Int))) (frm 10 [(0, .agg [AI n, .ref 3]), (1, AI 1), (2, .ptr 12 0), (4, AI 0), (5, .ptr 12 1), (6, .ref 3), (7, AI 1)]) (by kernel_rfl) (by kernel_rfl) (by kernel_rfl) ?_)
              refine R.go 7 (R.back (AI (1 + (i1 : Int))) (frm 119 [(0, .agg [AI n, LI xs]), (1, .agg [AI m, LI ys]), (2, .ptr 0 0), (3, .ptr 1 0), (4, .bool false), (5, AI ((((1048576 : Int) - xs.length) : Int) - ys.length)), (6, .ptr 2 0), (7, AI (stC n xs m ys)), (8, .ptr 4 0), (9, .ptr 6 0), (10, .ptr 8 0), (11, AI (stC n xs m ys)), (12, AI 1), (17, .agg [AI n, LI xs]), (18, AI 1048576), (19, AI ((1048576 : Int) - xs.length)), (20, AI ((1048576 : Int) - xs.length)), (21, .bool (decide (((1048576 : Int) - xs.length) < 0))), (22, .agg [AI m, LI ys]), (23, AI ((1048576 : Int) - xs.length)), (24, AI ((((1048576 : Int) - xs.length) : Int) - ys.length)), (25, AI ((((1048576 : Int) - xs.length) : Int) - ys.length)), (26, .bool (decide (((((1048576 : Int) - xs.length) : Int) - ys.length) < 0))), (27, .tup [.agg [AI (stN n xs m ys), LI (stR n xs m ys)], AI (stC n xs m ys)]), (28, .agg [AI n, LI xs]), (29, .agg [AI n, LI xs]), (30, .agg [AI m, LI ys]), (31, .agg [AI m, LI ys]), (32, .tup [.agg [AI (stN n xs m ys), LI (stR n xs m ys)], AI (stC n xs m ys)]), (33, .agg [AI (stN n xs m ys), LI (stR n xs m ys)]), (34, AI (stC n xs m ys)), (35, .agg [AI n, LI xs]), (36, .agg [AI n, .ref 3]), (37, .agg [AI m, LI ys]), (38, .agg [AI m, .ref 5]), (39, .tup [.agg [AI (stN n xs m ys), .ref 7], AI (stC n xs m ys)]), (40, .agg [AI n, .ref 3]), (41, .agg [AI m, .ref 5]), (42, .tup [.agg [AI (stN n xs m ys), .ref 7], AI (stC n xs m ys)]), (43, .agg [AI (stN n xs m ys), .ref 7]), (44, AI (stC n xs m ys)), (45, .agg [AI (stN n xs m ys), .ref 7]), (46, .agg [AI (stN n xs m ys), LI (stR n xs m ys)]), (47, .bool true), (48, .bool false), (49, .bool false), (50, AI (stC n xs m ys)), (51, AI (stC n xs m ys)), (52, .bool (!decide ((stC n xs m ys) = (stC n xs m ys)))), (53, .bool (!decide ((stC n xs m ys) = (stC n xs m ys)))), (54, .agg [AI n, .ref 3]), (55, .agg [AI n, LI xs]), (56, .agg [AI n, .ref 9]), (57, .bool true), (58, .bool false), (59, .agg [AI m, .ref 5]), (60, .agg [AI m, LI ys]), (61, .agg [AI m, .ref 10]), (62, .bool true), (63, .bool false), (64, .agg [AI n, .ref 3]), (65, AI 1)]) (by kernel_rfl) (by kernel_rfl) (by kernel_rfl) ?_)
              refine R.go 6 (R.enter (avs := [.agg [AI m, .ref 5], AI (1 + (i1 : Int))]) Try.func15 rfl (by kernel_rfl) (by kernel_rfl) (by kernel_rfl) ?_)
              intro us10
              refine R.go 10 (R.enter (avs := [.ref 5, AI (1 + (i1 : Int))]) Try.func20 rfl (by kernel_rfl) (by kernel_rfl) (by kernel_rfl) ?_)
              intro us11
              refine R.go 10 (R.loop ((fun | (i2, ys2, q2) => (⟨(frm 19 [(0, .ref 5), (1, AI q2), (5, AI (i2 : Int))]), [.box 24 [AI n, LI xs], .box 24 [AI m, LI ys], .box 26 [AI (stN n xs m ys), LI (stR n xs m ys)], rowA eI 2 1 (markI xs 1 i1), .box 26 [AI n, .ref 3], rowA eI 2 1 ys2, .box 26 [AI m, .ref 5], rowA eI 2 1 (stR n xs m ys), .box 26 [AI (stN n xs m ys), .ref 7], rowA eI 2 1 xs, rowA eI 2 1 ys, .dead, .box 26 [AI n, .ref 3], .dead, .frame us10 (frm 119 [(0, .agg [AI n, LI xs]), (1, .agg [AI m, LI ys]), (2, .ptr 0 0), (3, .ptr 1 0), (4, .bool false), (5, AI ((((1048576 : Int) - xs.length) : Int) - ys.length)), (6, .ptr 2 0), (7, AI (stC n xs m ys)), (8, .ptr 4 0), (9, .ptr 6 0), (10, .ptr 8 0), (11, AI (stC n xs m ys)), (12, AI (1 + (i1 : Int))), (17, .agg [AI n, LI xs]), (18, AI 1048576), (19, AI ((1048576 : Int) - xs.length)), (20, AI ((1048576 : Int) - xs.length)), (21, .bool (decide (((1048576 : Int) - xs.length) < 0))), (22, .agg [AI m, LI ys]), (23, AI ((1048576 : Int) - xs.length)), (24, AI ((((1048576 : Int) - xs.length) : Int) - ys.length)), (25, AI ((((1048576 : Int) - xs.length) : Int) - ys.length)), (26, .bool (decide (((((1048576 : Int) - xs.length) : Int) - ys.length) < 0))), (27, .tup [.agg [AI (stN n xs m ys), LI (stR n xs m ys)], AI (stC n xs m ys)]), (28, .agg [AI n, LI xs]), (29, .agg [AI n, LI xs]), (30, .agg [AI m, LI ys]), (31, .agg [AI m, LI ys]), (32, .tup [.agg [AI (stN n xs m ys), LI (stR n xs m ys)], AI (stC n xs m ys)]), (33, .agg [AI (stN n xs m ys), LI (stR n xs m ys)]), (34, AI (stC n xs m ys)), (35, .agg [AI n, LI xs]), (36, .agg [AI n, .ref 3]), (37, .agg [AI m, LI ys]), (38, .agg [AI m, .ref 5]), (39, .tup [.agg [AI (stN n xs m ys), .ref 7], AI (stC n xs m ys)]), (40, .agg [AI n, .ref 3]), (41, .agg [AI m, .ref 5]), (42, .tup [.agg [AI (stN n xs m ys), .ref 7], AI (stC n xs m ys)]), (43, .agg [AI (stN n xs m ys), .ref 7]), (44, AI (stC n xs m ys)), (45, .agg [AI (stN n xs m ys), .ref 7]), (46, .agg [AI (stN n xs m ys), LI (stR n xs m ys)]), (47, .bool true), (48, .bool false), (49, .bool false), (50, AI (stC n xs m ys)), (51, AI (stC n xs m ys)), (52, .bool (!decide ((stC n xs m ys) = (stC n xs m ys)))), (53, .bool (!decide ((stC n xs m ys) = (stC n xs m ys)))), (54, .agg [AI n, .ref 3]), (55, .agg [AI n, LI xs]), (56, .agg [AI n, .ref 9]), (57, .bool true), (58, .bool false), (59, .agg [AI m, .ref 5]), (60, .agg [AI m, LI ys]), (61, .agg [AI m, .ref 10]), (62, .bool true), (63, .bool false), (64, .agg [AI n, .ref 3]), (65, AI 1), (66, AI (1 + (i1 : Int))), (67, .agg [AI m, .ref 5]), (68, AI (1 + (i1 : Int)))]), .box 26 [AI m, .ref 5], .frame us11 (frm 10 [(0, .agg [AI m, .ref 5]), (1, AI (1 + (i1 : Int))), (2, .ptr 15 0), (4, AI 0), (5, .ptr 15 1), (6, .ref 5), (7, AI (1 + (i1 : Int)))])]⟩ : St) : Nat × (List Int) × Int → St)) (fun | (i2, ys2, q2) => (i2 ≤ ys.length) ∧ (ys2 = markI ys (1 + (i1 : Int)) i2) ∧ (q2 = 1 + (i1 : Int) + (i2 : Int))) (fun | (i2, ys2, q2) => ys.length - i2) (0, ys, (1 + (i1 : Int))) [0, 1, 5] none (by kernel_rfl) (by kernel_rfl) (by kernel_rfl) ⟨(by omega), (by exact markI_zero _ _), (by simp)⟩ ?_)
              rintro ⟨i2, ys2, q2⟩ ⟨h15_1, rfl, rfl⟩ R12 N13
              have hl2 : (markI ys (1 + (i1 : Int)) i2).length = ys.length := markI_length _ _ _ (by assumption)
              refine R.go 8 (R.cond ((i2 : Int) < ((markI ys (1 + (i1 : Int)) i2).length : Int)) (by kernel_rfl) (fun c16 => ?_) (fun c16 => ?_))
              · refine R.go 8 (R.idxO 5 1 (markI ys (1 + (i1 : Int)) i2).length i2 (i2 : Int) (by kernel_rfl) rfl (by omega) (by kernel_rfl) ?_)
                refine R.stI 5 2 (markI ys (1 + (i1 : Int)) i2) i2 (1 + (i1 : Int) + (i2 : Int)) (by kernel_rfl) (by omega) (by kernel_rfl) ?_
                refine R.go 3 (R.ar ((1 + (i1 : Int) + (i2 : Int)) + 1) (by kernel_rfl) (by omega) (by omega) (by kernel_rfl) ?_)
                refine R.go 5 (R.ar ((i2 : Int) + 1) (by kernel_rfl) (by omega) (by omega) (by kernel_rfl) ?_)
                exact R.go 2 (R.stop R12 (by kernel_rfl) (N13 (i2 + 1, (markI ys (1 + (i1 : Int)) i2).set i2 (1 + (i1 : Int) + (i2 : Int)), (1 + (i1 : Int) + (i2 : Int)) + 1) [0, 1, 5] none _ (by kernel_rfl) (by kernel_rfl) ⟨(by omega), (by exact markI_set _ _ _ (by omega) _ (by omega)), (by omega)⟩ (by show (ys.length - (i2 + 1)) < (ys.length - i2); omega)))
              · refine R.go 6 (R.back (AI (1 + (i1 : Int) + (i2 : Int))) (frm 10 [(0, .agg [AI m, .ref 5]), (1, AI (1 + (i1 : Int))), (2, .ptr 15 0), (4, AI 0), (5, .ptr 15 1), (6, .ref 5), (7, AI (1 + (i1 : Int)))]) (by kernel_rfl) (by kernel_rfl) (by kernel_rfl) ?_)
                refine R.go 7 (R.back (AI (1 + (i1 : Int) + (i2 : Int))) (frm 119 [(0, .agg [AI n, LI xs]), (1, .agg [AI m, LI ys]), (2, .ptr 0 0), (3, .ptr 1 0), (4, .bool false), (5, AI ((((1048576 : Int) - xs.length) : Int) - ys.length)), (6, .ptr 2 0), (7, AI (stC n xs m ys)), (8, .ptr 4 0), (9, .ptr 6 0), (10, .ptr 8 0), (11, AI (stC n xs m ys)), (12, AI (1 + (i1 : Int))), (17, .agg [AI n, LI xs]), (18, AI 1048576), (19, AI ((1048576 : Int) - xs.length)), (20, AI ((1048576 : Int) - xs.length)), (21, .bool (decide (((1048576 : Int) - xs.length) < 0))), (22, .agg [AI m, LI ys]), (23, AI ((1048576 : Int) - xs.length)), (24, AI ((((1048576 : Int) - xs.length) : Int) - ys.length)), (25, AI ((((1048576 : Int) - xs.length) : Int) - ys.length)), (26, .bool (decide (((((1048576 : Int) - xs.length) : Int) - ys.length) < 0))), (27, .tup [.agg [AI (stN n xs m ys), LI (stR n xs m ys)], AI (stC n xs m ys)]), (28, .agg [AI n, LI xs]), (29, .agg [AI n, LI xs]), (30, .agg [AI m, LI ys]), (31, .agg [AI m, LI ys]), (32, .tup [.agg [AI (stN n xs m ys), LI (stR n xs m ys)], AI (stC n xs m ys)]), (33, .agg [AI (stN n xs m ys), LI (stR n xs m ys)]), (34, AI (stC n xs m ys)), (35, .agg [AI n, LI xs]), (36, .agg [AI n, .ref 3]), (37, .agg [AI m, LI ys]), (38, .agg [AI m, .ref 5]), (39, .tup [.agg [AI (stN n xs m ys), .ref 7], AI (stC n xs m ys)]), (40, .agg [AI n, .ref 3]), (41, .agg [AI m, .ref 5]), (42, .tup [.agg [AI (stN n xs m ys), .ref 7], AI (stC n xs m ys)]), (43, .agg [AI (stN n xs m ys), .ref 7]), (44, AI (stC n xs m ys)), (45, .agg [AI (stN n xs m ys), .ref 7]), (46, .agg [AI (stN n xs m ys), LI (stR n xs m ys)]), (47, .bool true), (48, .bool false), (49, .bool false), (50, AI (stC n xs m ys)), (51, AI (stC n xs m ys)), (52, .bool (!decide ((stC n xs m ys) = (stC n xs m ys)))), (53, .bool (!decide ((stC n xs m ys) = (stC n xs m ys)))), (54, .agg [AI n, .ref 3]), (55, .agg [AI n, LI xs]), (56, .agg [AI n, .ref 9]), (57, .bool true), (58, .bool false), (59, .agg [AI m, .ref 5]), (60, .agg [AI m, LI ys]), (61, .agg [AI m, .ref 10]), (62, .bool true), (63, .bool false), (64, .agg [AI n, .ref 3]), (65, AI 1), (66, AI (1 + (i1 : Int))), (67, .agg [AI m, .ref 5]), (68, AI (1 + (i1 : Int)))]) (by kernel_rfl) (by kernel_rfl) (by kernel_rfl) ?_)
                refine R.go 8 ?_
                by_cases c17 : (1 + (i1 : Int) + (i2 : Int)) < 0
                · refine R.skp (decide ((1 + (i1 : Int) + (i2 : Int)) < 0)) false (by kernel_rfl) (dT c17) (by kernel_rfl) ?_
                  refine R.skp (decide ((1 + (i1 : Int) + (i2 : Int)) < 0)) false (by kernel_rfl) (dT c17) (by kernel_rfl) ?_
                  refine R.skp (decide ((1 + (i1 : Int) + (i2 : Int)) < 0)) false (by kernel_rfl) (dT c17) (by kernel_rfl) ?_
                  refine R.skp (decide ((1 + (i1 : Int) + (i2 : Int)) < 0)) false (by kernel_rfl) (dT c17) (by kernel_rfl) ?_
                  refine R.pick (decide ((1 + (i1 : Int) + (i2 : Int)) < 0)) true (by kernel_rfl) (dT c17) (by kernel_rfl) ?_
                  exact R.go 11 (R.retE (.bool false) (by kernel_rfl) (by kernel_rfl) (by first | (rfl) | (exfalso; omega)))
                · refine R.want (decide ((1 + (i1 : Int) + (i2 : Int)) < 0)) false (by kernel_rfl) (dF c17) ?_
                  refine R.go 1 (R.want (decide ((1 + (i1 : Int) + (i2 : Int)) < 0)) false (by kernel_rfl) (dF c17) ?_)
                  refine R.go 1 (R.want (decide ((1 + (i1 : Int) + (i2 : Int)) < 0)) false (by kernel_rfl) (dF c17) ?_)
                  refine R.call false (eqPoset_c (stN n xs m ys) (stR n xs m ys) (by first | omega | (simp <;> omega))) (by kernel_rfl) rfl (by kernel_rfl) ?_
                  refine R.want (decide ((1 + (i1 : Int) + (i2 : Int)) < 0)) false (by kernel_rfl) (dF c17) ?_
                  refine R.go 1 (R.pick (decide ((1 + (i1 : Int) + (i2 : Int)) < 0)) false (by kernel_rfl) (dF c17) (by kernel_rfl) ?_)
                  refine R.go 6 (R.els (!decide ((stC n xs m ys) = (stC n xs m ys))) (by kernel_rfl) (nF rfl) ?_)
                  refine R.go 9 (R.enter (avs := [.agg [AI (stN n xs m ys), .ref 7], AI 1]) Try.func15 rfl (by kernel_rfl) (by kernel_rfl) (by kernel_rfl) ?_)
                  intro us18
                  refine R.go 10 (R.enter (avs := [.ref 7, AI 1]) Try.func20 rfl (by kernel_rfl) (by kernel_rfl) (by kernel_rfl) ?_)
                  intro us19
                  refine R.go 10 (R.loop ((fun | (i3, ys3, q3) => (⟨(frm 19 [(0, .ref 7), (1, AI q3), (5, AI (i3 : Int))]), [.box 24 [AI n, LI xs], .box 24 [AI m, LI ys], .box 26 [AI (stN n xs m ys), LI (stR n xs m ys)], rowA eI 2 1 (markI xs 1 i1), .box 26 [AI n, .ref 3], rowA eI 2 1 (markI ys (1 + (i1 : Int)) i2), .box 26 [AI m, .ref 5], rowA eI 2 1 ys3, .box 26 [AI (stN n xs m ys), .ref 7], rowA eI 2 1 xs, rowA eI 2 1 ys, .dead, .box 26 [AI n, .ref 3], .dead, .dead, .box 26 [AI m, .ref 5], .dead, .frame us18 (frm 119 [(0, .agg [AI n, LI xs]), (1, .agg [AI m, LI ys]), (2, .ptr 0 0), (3, .ptr 1 0), (4, .bool false), (5, AI ((((1048576 : Int) - xs.length) : Int) - ys.length)), (6, .ptr 2 0), (7, AI (stC n xs m ys)), (8, .ptr 4 0), (9, .ptr 6 0), (10, .ptr 8 0), (11, AI (stC n xs m ys)), (12, AI (1 + (i1 : Int) + (i2 : Int))), (13, AI 1), (17, .agg [AI n, LI xs]), (18, AI 1048576), (19, AI ((1048576 : Int) - xs.length)), (20, AI ((1048576 : Int) - xs.length)), (21, .bool (decide (((1048576 : Int) - xs.length) < 0))), (22, .agg [AI m, LI ys]), (23, AI ((1048576 : Int) - xs.length)), (24, AI ((((1048576 : Int) - xs.length) : Int) - ys.length)), (25, AI ((((1048576 : Int) - xs.length) : Int) - ys.length)), (26, .bool (decide (((((1048576 : Int) - xs.length) : Int) - ys.length) < 0))), (27, .tup [.agg [AI (stN n xs m ys), LI (stR n xs m ys)], AI (stC n xs m ys)]), (28, .agg [AI n, LI xs]), (29, .agg [AI n, LI xs]), (30, .agg [AI m, LI ys]), (31, .agg [AI m, LI ys]), (32, .tup [.agg [AI (stN n xs m ys), LI (stR n xs m ys)], AI (stC n xs m ys)]), (33, .agg [AI (stN n xs m ys), LI (stR n xs m ys)]), (34, AI (stC n xs m ys)), (35, .agg [AI n, LI xs]), (36, .agg [AI n, .ref 3]), (37, .agg [AI m, LI ys]), (38, .agg [AI m, .ref 5]), (39, .tup [.agg [AI (stN n xs m ys), .ref 7], AI (stC n xs m ys)]), (40, .agg [AI n, .ref 3]), (41, .agg [AI m, .ref 5]), (42, .tup [.agg [AI (stN n xs m ys), .ref 7], AI (stC n xs m ys)]), (43, .agg [AI (stN n xs m ys), .ref 7]), (44, AI (stC n xs m ys)), (45, .agg [AI (stN n xs m ys), .ref 7]), (46, .agg [AI (stN n xs m ys), LI (stR n xs m ys)]), (47, .bool true), (48, .bool false), (49, .bool false), (50, AI (stC n xs m ys)), (51, AI (stC n xs m ys)), (52, .bool (!decide ((stC n xs m ys) = (stC n xs m ys)))), (53, .bool (!decide ((stC n xs m ys) = (stC n xs m ys)))), (54, .agg [AI n, .ref 3]), (55, .agg [AI n, LI xs]), (56, .agg [AI n, .ref 9]), (57, .bool true), (58, .bool false), (59, .agg [AI m, .ref 5]), (60, .agg [AI m, LI ys]), (61, .agg [AI m, .ref 10]), (62, .bool true), (63, .bool false), (64, .agg [AI n, .ref 3]), (65, AI 1), (66, AI (1 + (i1 : Int))), (67, .agg [AI m, .ref 5]), (68, AI (1 + (i1 : Int))), (69, AI (1 + (i1 : Int) + (i2 : Int))), (70, AI (1 + (i1 : Int) + (i2 : Int))), (71, .bool (decide ((1 + (i1 : Int) + (i2 : Int)) < 0))), (72, .bool (decide ((1 + (i1 : Int) + (i2 : Int)) < 0))), (73, .agg [AI (stN n xs m ys), .ref 7]), (74, .agg [AI (stN n xs m ys), LI (stR n xs m ys)]), (75, .bool true), (76, .bool false), (77, .bool false), (78, .bool false), (79, AI (stC n xs m ys)), (80, AI (stC n xs m ys)), (81, .bool (!decide ((stC n xs m ys) = (stC n xs m ys)))), (82, .bool (!decide ((stC n xs m ys) = (stC n xs m ys)))), (83, .agg [AI (stN n xs m ys), .ref 7]), (84, AI 1)]), .box 26 [AI (stN n xs m ys), .ref 7], .frame us19 (frm 10 [(0, .agg [AI (stN n xs m ys), .ref 7]), (1, AI 1), (2, .ptr 18 0), (4, AI 0), (5, .ptr 18 1), (6, .ref 7), (7, AI 1)])]⟩ : St) : Nat × (List Int) × Int → St)) (fun | (i3, ys3, q3) => (i3 ≤ (stR n xs m ys).length) ∧ (ys3 = markI (stR n xs m ys) 1 i3) ∧ (q3 = 1 + (i3 : Int))) (fun | (i3, ys3, q3) => (stR n xs m ys).length - i3) (0, (stR n xs m ys), 1) [0, 1, 5] none (by kernel_rfl) (by kernel_rfl) (by kernel_rfl) ⟨(by omega), (by exact markI_zero _ _), (by simp)⟩ ?_)
                  rintro ⟨i3, ys3, q3⟩ ⟨h23_1, rfl, rfl⟩ R20 N21
                  have hl3 : (markI (stR n xs m ys) 1 i3).length = (stR n xs m ys).length := markI_length _ _ _ (by assumption)
                  refine R.go 8 (R.cond ((i3 : Int) < ((markI (stR n xs m ys) 1 i3).length : Int)) (by kernel_rfl) (fun c24 => ?_) (fun c24 => ?_))
                  · refine R.go 8 (R.idxO 7 1 (markI (stR n xs m ys) 1 i3).length i3 (i3 : Int) (by kernel_rfl) rfl (by omega) (by kernel_rfl) ?_)
                    refine R.stI 7 2 (markI (stR n xs m ys) 1 i3) i3 (1 + (i3 : Int)) (by kernel_rfl) (by omega) (by kernel_rfl) ?_
                    refine R.go 3 (R.ar ((1 + (i3 : Int)) + 1) (by kernel_rfl) (by omega) (by omega) (by kernel_rfl) ?_)
                    refine R.go 5 (R.ar ((i3 : Int) + 1) (by kernel_rfl) (by omega) (by omega) (by kernel_rfl) ?_)
                    exact R.go 2 (R.stop R20 (by kernel_rfl) (N21 (i3 + 1, (markI (stR n xs m ys) 1 i3).set i3 (1 + (i3 : Int)), (1 + (i3 : Int)) + 1) [0, 1, 5] none _ (by kernel_rfl) (by kernel_rfl) ⟨(by omega), (by exact markI_set _ _ _ (by omega) _ (by omega)), (by omega)⟩ (by show ((stR n xs m ys).length - (i3 + 1)) < ((stR n xs m ys).length - i3); omega)))
                  · refine R.go 6 (R.back (AI (1 + (i3 : Int))) (frm 10 [(0, .agg [AI (stN n xs m ys), .ref 7]), (1, AI 1), (2, .ptr 18 0), (4, AI 0), (5, .ptr 18 1), (6, .ref 7), (7, AI 1)]) (by kernel_rfl) (by kernel_rfl) (by kernel_rfl) ?_)
                    refine R.go 7 (R.back (AI (1 + (i3 : Int))) (frm 119 [(0, .agg [AI n, LI xs]), (1, .agg [AI m, LI ys]), (2, .ptr 0 0), (3, .ptr 1 0), (4, .bool false), (5, AI ((((1048576 : Int) - xs.length) : Int) - ys.length)), (6, .ptr 2 0), (7, AI (stC n xs m ys)), (8, .ptr 4 0), (9, .ptr 6 0), (10, .ptr 8 0), (11, AI (stC n xs m ys)), (12, AI (1 + (i1 : Int) + (i2 : Int))), (13, AI 1), (17, .agg [AI n, LI xs]), (18, AI 1048576), (19, AI ((1048576 : Int) - xs.length)), (20, AI ((1048576 : Int) - xs.length)), (21, .bool (decide (((1048576 : Int) - xs.length) < 0))), (22, .agg [AI m, LI ys]), (23, AI ((1048576 : Int) - xs.length)), (24, AI ((((1048576 : Int) - xs.length) : Int) - ys.length)), (25, AI ((((1048576 : Int) - xs.length) : Int) - ys.length)), (26, .bool (decide (((((1048576 : Int) - xs.length) : Int) - ys.length) < 0))), (27, .tup [.agg [AI (stN n xs m ys), LI (stR n xs m ys)], AI (stC n xs m ys)]), (28, .agg [AI n, LI xs]), (29, .agg [AI n, LI xs]), (30, .agg [AI m, LI ys]), (31, .agg [AI m, LI ys]), (32, .tup [.agg [AI (stN n xs m ys), LI (stR n xs m ys)], AI (stC n xs m ys)]), (33, .agg [AI (stN n xs m ys), LI (stR n xs m ys)]), (34, AI (stC n xs m ys)), (35, .agg [AI n, LI xs]), (36, .agg [AI n, .ref 3]), (37, .agg [AI m, LI ys]), (38, .agg [AI m, .ref 5]), (39, .tup [.agg [AI (stN n xs m ys), .ref 7], AI (stC n xs m ys)]), (40, .agg [AI n, .ref 3]), (41, .agg [AI m, .ref 5]), (42, .tup [.agg [AI (stN n xs m ys), .ref 7], AI (stC n xs m ys)]), (43, .agg [AI (stN n xs m ys), .ref 7]), (44, AI (stC n xs m ys)), (45, .agg [AI (stN n xs m ys), .ref 7]), (46, .agg [AI (stN n xs m ys), LI (stR n xs m ys)]), (47, .bool true), (48, .bool false), (49, .bool false), (50, AI (stC n xs m ys)), (51, AI (stC n xs m ys)), (52, .bool (!decide ((stC n xs m ys) = (stC n xs m ys)))), (53, .bool (!decide ((stC n xs m ys) = (stC n xs m ys)))), (54, .agg [AI n, .ref 3]), (55, .agg [AI n, LI xs]), (56, .agg [AI n, .ref 9]), (57, .bool true), (58, .bool false), (59, .agg [AI m, .ref 5]), (60, .agg [AI m, LI ys]), (61, .agg [AI m, .ref 10]), (62, .bool true), (63, .bool false), (64, .agg [AI n, .ref 3]), (65, AI 1), (66, AI (1 + (i1 : Int))), (67, .agg [AI m, .ref 5]), (68, AI (1 + (i1 : Int))), (69, AI (1 + (i1 : Int) + (i2 : Int))), (70, AI (1 + (i1 : Int) + (i2 : Int))), (71, .bool (decide ((1 + (i1 : Int) + (i2 : Int)) < 0))), (72, .bool (decide ((1 + (i1 : Int) + (i2 : Int)) < 0))), (73, .agg [AI (stN n xs m ys), .ref 7]), (74, .agg [AI (stN n xs m ys), LI (stR n xs m ys)]), (75, .bool true), (76, .bool false), (77, .bool false), (78, .bool false), (79, AI (stC n xs m ys)), (80, AI (stC n xs m ys)), (81, .bool (!decide ((stC n xs m ys) = (stC n xs m ys)))), (82, .bool (!decide ((stC n xs m ys) = (stC n xs m ys)))), (83, .agg [AI (stN n xs m ys), .ref 7]), (84, AI 1)]) (by kernel_rfl) (by kernel_rfl) (by kernel_rfl) ?_)
                    have hi3 : i3 = (stR n xs m ys).length := by omega
                    have hx3 : markI (stR n xs m ys) 1 i3 = markC (markI (stR n xs m ys) 1 i3).length 1 := by rw [hl3, hi3]; exact markI_all _ _ _ rfl
                    refine R.go 10 (R.call false (heldPoset_c (stN n xs m ys) (markI (stR n xs m ys) 1 i3) 1 (by first | omega | (simp <;> omega)) (by omega) (by assumption)) (by kernel_rfl) rfl (by kernel_rfl) ?_)
                    refine R.go 8 (R.cond ((1 + ((markI (stR n xs m ys) 1 i3).length : Int)) < 0) (by kernel_rfl) (fun c25 => ?_) (fun c25 => ?_))
                    · exact R.go 4 (R.retE (.bool false) (by kernel_rfl) (by kernel_rfl) (by first | (rfl) | (exfalso; omega)))
                    · refine R.go 8 (R.condN ((1 + ((markI (stR n xs m ys) 1 i3).length : Int)) = (1 + (i3 : Int))) (by kernel_rfl) (fun c26 => ?_) (fun c26 => ?_))
                      · exact R.go 4 (R.retE (.bool false) (by kernel_rfl) (by kernel_rfl) (by first | (rfl) | (exfalso; omega)))
                      · refine R.go 2 (R.meet (⟨(frm 119 [(0, .agg [AI n, LI xs]), (1, .agg [AI m, LI ys]), (2, .ptr 0 0), (3, .ptr 1 0), (4, .bool false), (5, AI ((((1048576 : Int) - xs.length) : Int) - ys.length)), (6, .ptr 2 0), (7, AI (stC n xs m ys)), (8, .ptr 4 0), (9, .ptr 6 0), (10, .ptr 8 0), (11, AI (stC n xs m ys)), (12, AI (1 + (i1 : Int) + (i2 : Int))), (13, AI (1 + (i3 : Int))), (14, AI (1 + ((markI (stR n xs m ys) 1 i3).length : Int))), (15, .ptr 20 0), (16, AI (stC n xs m ys)), (17, .agg [AI n, LI xs]), (18, AI 1048576), (19, AI ((1048576 : Int) - xs.length)), (20, AI ((1048576 : Int) - xs.length)), (21, .bool (decide (((1048576 : Int) - xs.length) < 0))), (22, .agg [AI m, LI ys]), (23, AI ((1048576 : Int) - xs.length)), (24, AI ((((1048576 : Int) - xs.length) : Int) - ys.length)), (25, AI ((((1048576 : Int) - xs.length) : Int) - ys.length)), (26, .bool (decide (((((1048576 : Int) - xs.length) : Int) - ys.length) < 0))), (27, .tup [.agg [AI (stN n xs m ys), LI (stR n xs m ys)], AI (stC n xs m ys)]), (28, .agg [AI n, LI xs]), (29, .agg [AI n, LI xs]), (30, .agg [AI m, LI ys]), (31, .agg [AI m, LI ys]), (32, .tup [.agg [AI (stN n xs m ys), LI (stR n xs m ys)], AI (stC n xs m ys)]), (33, .agg [AI (stN n xs m ys), LI (stR n xs m ys)]), (34, AI (stC n xs m ys)), (35, .agg [AI n, LI xs]), (36, .agg [AI n, .ref 3]), (37, .agg [AI m, LI ys]), (38, .agg [AI m, .ref 5]), (39, .tup [.agg [AI (stN n xs m ys), .ref 7], AI (stC n xs m ys)]), (40, .agg [AI n, .ref 3]), (41, .agg [AI m, .ref 5]), (42, .tup [.agg [AI (stN n xs m ys), .ref 7], AI (stC n xs m ys)]), (43, .agg [AI (stN n xs m ys), .ref 7]), (44, AI (stC n xs m ys)), (45, .agg [AI (stN n xs m ys), .ref 7]), (46, .agg [AI (stN n xs m ys), LI (stR n xs m ys)]), (47, .bool true), (48, .bool false), (49, .bool false), (50, AI (stC n xs m ys)), (51, AI (stC n xs m ys)), (52, .bool (!decide ((stC n xs m ys) = (stC n xs m ys)))), (53, .bool (!decide ((stC n xs m ys) = (stC n xs m ys)))), (54, .agg [AI n, .ref 3]), (55, .agg [AI n, LI xs]), (56, .agg [AI n, .ref 9]), (57, .bool true), (58, .bool false), (59, .agg [AI m, .ref 5]), (60, .agg [AI m, LI ys]), (61, .agg [AI m, .ref 10]), (62, .bool true), (63, .bool false), (64, .agg [AI n, .ref 3]), (65, AI 1), (66, AI (1 + (i1 : Int))), (67, .agg [AI m, .ref 5]), (68, AI (1 + (i1 : Int))), (69, AI (1 + (i1 : Int) + (i2 : Int))), (70, AI (1 + (i1 : Int) + (i2 : Int))), (71, .bool (decide ((1 + (i1 : Int) + (i2 : Int)) < 0))), (72, .bool (decide ((1 + (i1 : Int) + (i2 : Int)) < 0))), (73, .agg [AI (stN n xs m ys), .ref 7]), (74, .agg [AI (stN n xs m ys), LI (stR n xs m ys)]), (75, .bool true), (76, .bool false), (77, .bool false), (78, .bool false), (79, AI (stC n xs m ys)), (80, AI (stC n xs m ys)), (81, .bool (!decide ((stC n xs m ys) = (stC n xs m ys)))), (82, .bool (!decide ((stC n xs m ys) = (stC n xs m ys)))), (83, .agg [AI (stN n xs m ys), .ref 7]), (84, AI 1), (85, AI (1 + (i3 : Int))), (86, .agg [AI (stN n xs m ys), .ref 7]), (87, AI 1), (88, AI (1 + ((markI (stR n xs m ys) 1 i3).length : Int))), (89, AI (1 + ((markI (stR n xs m ys) 1 i3).length : Int))), (90, .bool (decide ((1 + ((markI (stR n xs m ys) 1 i3).length : Int)) < 0))), (91, AI (1 + ((markI (stR n xs m ys) 1 i3).length : Int))), (92, AI (1 + (i3 : Int))), (93, .bool (!decide ((1 + ((markI (stR n xs m ys) 1 i3).length : Int)) = (1 + (i3 : Int))))), (94, .tup [.agg [AI (stN n xs m ys), LI (stR n xs m ys)], AI (stC n xs m ys)]), (95, .agg [AI n, LI xs]), (96, .agg [AI n, LI xs]), (97, .agg [AI m, LI ys]), (98, .agg [AI m, LI ys]), (99, .tup [.agg [AI (stN n xs m ys), LI (stR n xs m ys)], AI (stC n xs m ys)]), (100, .agg [AI (stN n xs m ys), LI (stR n xs m ys)]), (101, AI (stC n xs m ys))]), [.box 24 [AI n, LI xs], .box 24 [AI m, LI ys], .box 26 [AI (stN n xs m ys), LI (stR n xs m ys)], rowA eI 2 1 (markI xs 1 i1), .box 26 [AI n, .ref 3], rowA eI 2 1 (markI ys (1 + (i1 : Int)) i2), .box 26 [AI m, .ref 5], rowA eI 2 1 (markI (stR n xs m ys) 1 i3), .box 26 [AI (stN n xs m ys), .ref 7], rowA eI 2 1 xs, rowA eI 2 1 ys, .dead, .box 26 [AI n, .ref 3], .dead, .dead, .box 26 [AI m, .ref 5], .dead, .dead, .box 26 [AI (stN n xs m ys), .ref 7], .dead, .box 26 [AI (stN n xs m ys), LI (stR n xs m ys)]]⟩ : St) (by kernel_rfl) ?_ ?_)
                        · refine R.any (by decide +kernel) (by kernel_rfl) ?_
                          refine R.any3 0 2 8 (by kernel_rfl) (by kernel_rfl) ?_ ?_ ?_
                          · refine R.go 2 (R.any3 1 2 8 (by kernel_rfl) (by kernel_rfl) ?_ ?_ ?_)
                            · refine R.call true (toPoset_c n xs (by first | omega | (simp <;> omega))).frz (by kernel_rfl) rfl (by kernel_rfl) ?_
                              refine R.go 1 (R.any2 2 8 (by kernel_rfl) (by kernel_rfl) ?_ ?_)
                              · refine R.go 2 (R.any2 3 8 (by kernel_rfl) (by kernel_rfl) ?_ ?_)
                                · refine R.call true (toPoset_c m ys (by first | omega | (simp <;> omega))).frz (by kernel_rfl) rfl (by kernel_rfl) ?_
                                  refine R.go 1 (R.any2 4 8 (by kernel_rfl) (by kernel_rfl) ?_ ?_)
                                  · refine R.call true (ST_impl n xs m ys (by first | omega | (simp <;> omega)) (by first | omega | (simp <;> omega))).frz (by kernel_rfl) rfl (by kernel_rfl) ?_
                                    refine R.go 1 (R.anyF 5 (by kernel_rfl) (np_meet _) ?_)
                                    refine R.anyX 6 (.agg [AI (stN n xs m ys), LI (stR n xs m ys)]) (by kernel_rfl) (np_meet _) ?_
                                    refine R.anyX 7 (AI (stC n xs m ys)) (by kernel_rfl) (np_meet _) ?_
                                    refine R.any1 8 (by kernel_rfl) (by kernel_rfl) ?_
                                    refine R.go 2 (R.any1 9 (by kernel_rfl) (by kernel_rfl) ?_)
                                    refine R.go 2 (R.any1 10 (by kernel_rfl) (by kernel_rfl) ?_)
                                    refine R.go 2 (R.any0 (by kernel_rfl) ?_)
                                    exact R.met (by kernel_rfl) (by kernel_rfl)
                                  · refine R.go 2 (R.any1 4 (by kernel_rfl) (by kernel_rfl) ?_)
                                    refine R.call true (ST_impl n xs m ys (by first | omega | (simp <;> omega)) (by first | omega | (simp <;> omega))).frz (by kernel_rfl) rfl (by kernel_rfl) ?_
                                    refine R.go 1 (R.anyF 5 (by kernel_rfl) (np_meet _) ?_)
                                    refine R.anyX 6 (.agg [AI (stN n xs m ys), LI (stR n xs m ys)]) (by kernel_rfl) (np_meet _) ?_
                                    refine R.anyX 7 (AI (stC n xs m ys)) (by kernel_rfl) (np_meet _) ?_
                                    refine R.any1 9 (by kernel_rfl) (by kernel_rfl) ?_
                                    refine R.go 2 (R.any1 10 (by kernel_rfl) (by kernel_rfl) ?_)
                                    refine R.go 2 (R.any0 (by kernel_rfl) ?_)
                                    exact R.met (by kernel_rfl) (by kernel_rfl)
                                · refine R.go 2 (R.any1 3 (by kernel_rfl) (by kernel_rfl) ?_)
                                  refine R.call true (toPoset_c m ys (by first | omega | (simp <;> omega))).frz (by kernel_rfl) rfl (by kernel_rfl) ?_
                                  refine R.go 1 (R.any1 4 (by kernel_rfl) (by kernel_rfl) ?_)
                                  refine R.call true (ST_impl n xs m ys (by first | omega | (simp <;> omega)) (by first | omega | (simp <;> omega))).frz (by kernel_rfl) rfl (by kernel_rfl) ?_
                                  refine R.go 1 (R.anyF 5 (by kernel_rfl) (np_meet _) ?_)
                                  refine R.anyX 6 (.agg [AI (stN n xs m ys), LI (stR n xs m ys)]) (by kernel_rfl) (np_meet _) ?_
                                  refine R.anyX 7 (AI (stC n xs m ys)) (by kernel_rfl) (np_meet _) ?_
                                  refine R.any1 9 (by kernel_rfl) (by kernel_rfl) ?_
                                  refine R.go 2 (R.any1 10 (by kernel_rfl) (by kernel_rfl) ?_)
                                  refine R.go 2 (R.any0 (by kernel_rfl) ?_)
                                  exact R.met (by kernel_rfl) (by kernel_rfl)
                              · refine R.go 2 (R.any1 2 (by kernel_rfl) (by kernel_rfl) ?_)
                                refine R.go 2 (R.any1 3 (by kernel_rfl) (by kernel_rfl) ?_)
                                refine R.call true (toPoset_c m ys (by first | omega | (simp <;> omega))).frz (by kernel_rfl) rfl (by kernel_rfl) ?_
                                refine R.go 1 (R.any1 4 (by kernel_rfl) (by kernel_rfl) ?_)
                                refine R.call true (ST_impl n xs m ys (by first | omega | (simp <;> omega)) (by first | omega | (simp <;> omega))).frz (by kernel_rfl) rfl (by kernel_rfl) ?_
                                refine R.go 1 (R.anyF 5 (by kernel_rfl) (np_meet _) ?_)
                                refine R.anyX 6 (.agg [AI (stN n xs m ys), LI (stR n xs m ys)]) (by kernel_rfl) (np_meet _) ?_
                                refine R.anyX 7 (AI (stC n xs m ys)) (by kernel_rfl) (np_meet _) ?_
                                refine R.any1 9 (by kernel_rfl) (by kernel_rfl) ?_
                                refine R.go 2 (R.any1 10 (by kernel_rfl) (by kernel_rfl) ?_)
                                refine R.go 2 (R.any0 (by kernel_rfl) ?_)
                                exact R.met (by kernel_rfl) (by kernel_rfl)
                            · refine R.go 2 (R.any2 1 8 (by kernel_rfl) (by kernel_rfl) ?_ ?_)
                              · refine R.call true (toPoset_c n xs (by first | omega | (simp <;> omega))).frz (by kernel_rfl) rfl (by kernel_rfl) ?_
                                refine R.go 1 (R.any2 3 8 (by kernel_rfl) (by kernel_rfl) ?_ ?_)
                                · refine R.call true (toPoset_c m ys (by first | omega | (simp <;> omega))).frz (by kernel_rfl) rfl (by kernel_rfl) ?_
                                  refine R.go 1 (R.any2 4 8 (by kernel_rfl) (by kernel_rfl) ?_ ?_)
                                  · refine R.call true (ST_impl n xs m ys (by first | omega | (simp <;> omega)) (by first | omega | (simp <;> omega))).frz (by kernel_rfl) rfl (by kernel_rfl) ?_
                                    refine R.go 1 (R.anyF 5 (by kernel_rfl) (np_meet _) ?_)
                                    refine R.anyX 6 (.agg [AI (stN n xs m ys), LI (stR n xs m ys)]) (by kernel_rfl) (np_meet _) ?_
                                    refine R.anyX 7 (AI (stC n xs m ys)) (by kernel_rfl) (np_meet _) ?_
                                    refine R.any1 8 (by kernel_rfl) (by kernel_rfl) ?_
                                    refine R.go 2 (R.any1 9 (by kernel_rfl) (by kernel_rfl) ?_)
                                    refine R.go 2 (R.any1 10 (by kernel_rfl) (by kernel_rfl) ?_)
                                    refine R.go 2 (R.any0 (by kernel_rfl) ?_)
                                    exact R.met (by kernel_rfl) (by kernel_rfl)
                                  · refine R.go 2 (R.any1 4 (by kernel_rfl) (by kernel_rfl) ?_)
                                    refine R.call true (ST_impl n xs m ys (by first | omega | (simp <;> omega)) (by first | omega | (simp <;> omega))).frz (by kernel_rfl) rfl (by kernel_rfl) ?_
                                    refine R.go 1 (R.anyF 5 (by kernel_rfl) (np_meet _) ?_)
                                    refine R.anyX 6 (.agg [AI (stN n xs m ys), LI (stR n xs m ys)]) (by kernel_rfl) (np_meet _) ?_
                                    refine R.anyX 7 (AI (stC n xs m ys)) (by kernel_rfl) (np_meet _) ?_
                                    refine R.any1 9 (by kernel_rfl) (by kernel_rfl) ?_
                                    refine R.go 2 (R.any1 10 (by kernel_rfl) (by kernel_rfl) ?_)
                                    refine R.go 2 (R.any0 (by kernel_rfl) ?_)
                                    exact R.met (by kernel_rfl) (by kernel_rfl)
                                · refine R.go 2 (R.any1 3 (by kernel_rfl) (by kernel_rfl) ?_)
                                  refine R.call true (toPoset_c m ys (by first | omega | (simp <;> omega))).frz (by kernel_rfl) rfl (by kernel_rfl) ?_
                                  refine R.go 1 (R.any1 4 (by kernel_rfl) (by kernel_rfl) ?_)
                                  refine R.call true (ST_impl n xs m ys (by first | omega | (simp <;> omega)) (by first | omega | (simp <;> omega))).frz (by kernel_rfl) rfl (by kernel_rfl) ?_
                                  refine R.go 1 (R.anyF 5 (by kernel_rfl) (np_meet _) ?_)
                                  refine R.anyX 6 (.agg [AI (stN n xs m ys), LI (stR n xs m ys)]) (by kernel_rfl) (np_meet _) ?_
                                  refine R.anyX 7 (AI (stC n xs m ys)) (by kernel_rfl) (np_meet _) ?_
                                  refine R.any1 9 (by kernel_rfl) (by kernel_rfl) ?_
                                  refine R.go 2 (R.any1 10 (by kernel_rfl) (by kernel_rfl) ?_)
                                  refine R.go 2 (R.any0 (by kernel_rfl) ?_)
                                  exact R.met (by kernel_rfl) (by kernel_rfl)
                              · refine R.go 2 (R.any1 1 (by kernel_rfl) (by kernel_rfl) ?_)
                                refine R.call true (toPoset_c n xs (by first | omega | (simp <;> omega))).frz (by kernel_rfl) rfl (by kernel_rfl) ?_
                                refine R.go 1 (R.any1 3 (by kernel_rfl) (by kernel_rfl) ?_)
                                refine R.call true (toPoset_c m ys (by first | omega | (simp <;> omega))).frz (by kernel_rfl) rfl (by kernel_rfl) ?_
                                refine R.go 1 (R.any1 4 (by kernel_rfl) (by kernel_rfl) ?_)
                                refine R.call true (ST_impl n xs m ys (by first | omega | (simp <;> omega)) (by first | omega | (simp <;> omega))).frz (by kernel_rfl) rfl (by kernel_rfl) ?_
                                refine R.go 1 (R.anyF 5 (by kernel_rfl) (np_meet _) ?_)
                                refine R.anyX 6 (.agg [AI (stN n xs m ys), LI (stR n xs m ys)]) (by kernel_rfl) (np_meet _) ?_
                                refine R.anyX 7 (AI (stC n xs m ys)) (by kernel_rfl) (np_meet _) ?_
                                refine R.any1 9 (by kernel_rfl) (by kernel_rfl) ?_
                                refine R.go 2 (R.any1 10 (by kernel_rfl) (by kernel_rfl) ?_)
                                refine R.go 2 (R.any0 (by kernel_rfl) ?_)
                                exact R.met (by kernel_rfl) (by kernel_rfl)
                            · refine R.go 2 (R.any2 1 2 (by kernel_rfl) (by kernel_rfl) ?_ ?_)
                              · refine R.call true (toPoset_c n xs (by first | omega | (simp <;> omega))).frz (by kernel_rfl) rfl (by kernel_rfl) ?_
                                refine R.go 1 (R.any1 2 (by kernel_rfl) (by kernel_rfl) ?_)
                                refine R.go 2 (R.any1 3 (by kernel_rfl) (by kernel_rfl) ?_)
                                refine R.call true (toPoset_c m ys (by first | omega | (simp <;> omega))).frz (by kernel_rfl) rfl (by kernel_rfl) ?_
                                refine R.go 1 (R.any1 4 (by kernel_rfl) (by kernel_rfl) ?_)
                                refine R.call true (ST_impl n xs m ys (by first | omega | (simp <;> omega)) (by first | omega | (simp <;> omega))).frz (by kernel_rfl) rfl (by kernel_rfl) ?_
                                refine R.go 1 (R.anyF 5 (by kernel_rfl) (np_meet _) ?_)
                                refine R.anyX 6 (.agg [AI (stN n xs m ys), LI (stR n xs m ys)]) (by kernel_rfl) (np_meet _) ?_
                                refine R.anyX 7 (AI (stC n xs m ys)) (by kernel_rfl) (np_meet _) ?_
                                refine R.any1 9 (by kernel_rfl) (by kernel_rfl) ?_
                                refine R.go 2 (R.any1 10 (by kernel_rfl) (by kernel_rfl) ?_)
                                refine R.go 2 (R.any0 (by kernel_rfl) ?_)
                                exact R.met (by kernel_rfl) (by kernel_rfl)
                              · refine R.go 2 (R.any1 1 (by kernel_rfl) (by kernel_rfl) ?_)
                                refine R.call true (toPoset_c n xs (by first | omega | (simp <;> omega))).frz (by kernel_rfl) rfl (by kernel_rfl) ?_
                                refine R.go 1 (R.any1 3 (by kernel_rfl) (by kernel_rfl) ?_)
                                refine R.call true (toPoset_c m ys (by first | omega | (simp <;> omega))).frz (by kernel_rfl) rfl (by kernel_rfl) ?_
                                refine R.go 1 (R.any1 4 (by kernel_rfl) (by kernel_rfl) ?_)
                                refine R.call true (ST_impl n xs m ys (by first | omega | (simp <;> omega)) (by first | omega | (simp <;> omega))).frz (by kernel_rfl) rfl (by kernel_rfl) ?_
                                refine R.go 1 (R.anyF 5 (by kernel_rfl) (np_meet _) ?_)
                                refine R.anyX 6 (.agg [AI (stN n xs m ys), LI (stR n xs m ys)]) (by kernel_rfl) (np_meet _) ?_
                                refine R.anyX 7 (AI (stC n xs m ys)) (by kernel_rfl) (np_meet _) ?_
                                refine R.any1 9 (by kernel_rfl) (by kernel_rfl) ?_
                                refine R.go 2 (R.any1 10 (by kernel_rfl) (by kernel_rfl) ?_)
                                refine R.go 2 (R.any0 (by kernel_rfl) ?_)
                                exact R.met (by kernel_rfl) (by kernel_rfl)
                          · refine R.go 2 (R.any2 0 8 (by kernel_rfl) (by kernel_rfl) ?_ ?_)
                            · refine R.go 2 (R.any2 1 8 (by kernel_rfl) (by kernel_rfl) ?_ ?_)
                              · refine R.call true (toPoset_c n xs (by first | omega | (simp <;> omega))).frz (by kernel_rfl) rfl (by kernel_rfl) ?_
                                refine R.go 1 (R.any2 3 8 (by kernel_rfl) (by kernel_rfl) ?_ ?_)
                                · refine R.call true (toPoset_c m ys (by first | omega | (simp <;> omega))).frz (by kernel_rfl) rfl (by kernel_rfl) ?_
                                  refine R.go 1 (R.any2 4 8 (by kernel_rfl) (by kernel_rfl) ?_ ?_)
                                  · refine R.call true (ST_impl n xs m ys (by first | omega | (simp <;> omega)) (by first | omega | (simp <;> omega))).frz (by kernel_rfl) rfl (by kernel_rfl) ?_
                                    refine R.go 1 (R.anyF 5 (by kernel_rfl) (np_meet _) ?_)
                                    refine R.anyX 6 (.agg [AI (stN n xs m ys), LI (stR n xs m ys)]) (by kernel_rfl) (np_meet _) ?_
                                    refine R.anyX 7 (AI (stC n xs m ys)) (by kernel_rfl) (np_meet _) ?_
                                    refine R.any1 8 (by kernel_rfl) (by kernel_rfl) ?_
                                    refine R.go 2 (R.any1 9 (by kernel_rfl) (by kernel_rfl) ?_)
                                    refine R.go 2 (R.any1 10 (by kernel_rfl) (by kernel_rfl) ?_)
                                    refine R.go 2 (R.any0 (by kernel_rfl) ?_)
                                    exact R.met (by kernel_rfl) (by kernel_rfl)
                                  · refine R.go 2 (R.any1 4 (by kernel_rfl) (by kernel_rfl) ?_)
                                    refine R.call true (ST_impl n xs m ys (by first | omega | (simp <;> omega)) (by first | omega | (simp <;> omega))).frz (by kernel_rfl) rfl (by kernel_rfl) ?_
                                    refine R.go 1 (R.anyF 5 (by kernel_rfl) (np_meet _) ?_)
                                    refine R.anyX 6 (.agg [AI (stN n xs m ys), LI (stR n xs m ys)]) (by kernel_rfl) (np_meet _) ?_
                                    refine R.anyX 7 (AI (stC n xs m ys)) (by kernel_rfl) (np_meet _) ?_
                                    refine R.any1 9 (by kernel_rfl) (by kernel_rfl) ?_
                                    refine R.go 2 (R.any1 10 (by kernel_rfl) (by kernel_rfl) ?_)
                                    refine R.go 2 (R.any0 (by kernel_rfl) ?_)
                                    exact R.met (by kernel_rfl) (by kernel_rfl)
                                · refine R.go 2 (R.any1 3 (by kernel_rfl) (by kernel_rfl) ?_)
                                  refine R.call true (toPoset_c m ys (by first | omega | (simp <;> omega))).frz (by kernel_rfl) rfl (by kernel_rfl) ?_
                                  refine R.go 1 (R.any1 4 (by kernel_rfl) (by kernel_rfl) ?_)
                                  refine R.call true (ST_impl n xs m ys (by first | omega | (simp <;> omega)) (by first | omega | (simp <;> omega))).frz (by kernel_rfl) rfl (by kernel_rfl) ?_
                                  refine R.go 1 (R.anyF 5 (by kernel_rfl) (np_meet _) ?_)
                                  refine R.anyX 6 (.agg [AI (stN n xs m ys), LI (stR n xs m ys)]) (by kernel_rfl) (np_meet _) ?_
                                  refine R.anyX 7 (AI (stC n xs m ys)) (by kernel_rfl) (np_meet _) ?_
                                  refine R.any1 9 (by kernel_rfl) (by kernel_rfl) ?_
                                  refine R.go 2 (R.any1 10 (by kernel_rfl) (by kernel_rfl) ?_)
                                  refine R.go 2 (R.any0 (by kernel_rfl) ?_)
                                  exact R.met (by kernel_rfl) (by kernel_rfl)
                              · refine R.go 2 (R.any1 1 (by kernel_rfl) (by kernel_rfl) ?_)
                                refine R.call true (toPoset_c n xs (by first | omega | (simp <;> omega))).frz (by kernel_rfl) rfl (by kernel_rfl) ?_
                                refine R.go 1 (R.any1 3 (by kernel_rfl) (by kernel_rfl) ?_)
                                refine R.call true (toPoset_c m ys (by first | omega | (simp <;> omega))).frz (by kernel_rfl) rfl (by kernel_rfl) ?_
                                refine R.go 1 (R.any1 4 (by kernel_rfl) (by kernel_rfl) ?_)
                                refine R.call true (ST_impl n xs m ys (by first | omega | (simp <;> omega)) (by first | omega | (simp <;> omega))).frz (by kernel_rfl) rfl (by kernel_rfl) ?_
                                refine R.go 1 (R.anyF 5 (by kernel_rfl) (np_meet _) ?_)
                                refine R.anyX 6 (.agg [AI (stN n xs m ys), LI (stR n xs m ys)]) (by kernel_rfl) (np_meet _) ?_
                                refine R.anyX 7 (AI (stC n xs m ys)) (by kernel_rfl) (np_meet _) ?_
                                refine R.any1 9 (by kernel_rfl) (by kernel_rfl) ?_
                                refine R.go 2 (R.any1 10 (by kernel_rfl) (by kernel_rfl) ?_)
                                refine R.go 2 (R.any0 (by kernel_rfl) ?_)
                                exact R.met (by kernel_rfl) (by kernel_rfl)
                            · refine R.go 2 (R.any1 0 (by kernel_rfl) (by kernel_rfl) ?_)
                              refine R.go 2 (R.any1 1 (by kernel_rfl) (by kernel_rfl) ?_)
                              refine R.call true (toPoset_c n xs (by first | omega | (simp <;> omega))).frz (by kernel_rfl) rfl (by kernel_rfl) ?_
                              refine R.go 1 (R.any1 3 (by kernel_rfl) (by kernel_rfl) ?_)
                              refine R.call true (toPoset_c m ys (by first | omega | (simp <;> omega))).frz (by kernel_rfl) rfl (by kernel_rfl) ?_
                              refine R.go 1 (R.any1 4 (by kernel_rfl) (by kernel_rfl) ?_)
                              refine R.call true (ST_impl n xs m ys (by first | omega | (simp <;> omega)) (by first | omega | (simp <;> omega))).frz (by kernel_rfl) rfl (by kernel_rfl) ?_
                              refine R.go 1 (R.anyF 5 (by kernel_rfl) (np_meet _) ?_)
                              refine R.anyX 6 (.agg [AI (stN n xs m ys), LI (stR n xs m ys)]) (by kernel_rfl) (np_meet _) ?_
                              refine R.anyX 7 (AI (stC n xs m ys)) (by kernel_rfl) (np_meet _) ?_
                              refine R.any1 9 (by kernel_rfl) (by kernel_rfl) ?_
                              refine R.go 2 (R.any1 10 (by kernel_rfl) (by kernel_rfl) ?_)
                              refine R.go 2 (R.any0 (by kernel_rfl) ?_)
                              exact R.met (by kernel_rfl) (by kernel_rfl)
                          · refine R.go 2 (R.any2 0 2 (by kernel_rfl) (by kernel_rfl) ?_ ?_)
                            · refine R.go 2 (R.any2 1 2 (by kernel_rfl) (by kernel_rfl) ?_ ?_)
                              · refine R.call true (toPoset_c n xs (by first | omega | (simp <;> omega))).frz (by kernel_rfl) rfl (by kernel_rfl) ?_
                                refine R.go 1 (R.any1 2 (by kernel_rfl) (by kernel_rfl) ?_)
                                refine R.go 2 (R.any1 3 (by kernel_rfl) (by kernel_rfl) ?_)
                                refine R.call true (toPoset_c m ys (by first | omega | (simp <;> omega))).frz (by kernel_rfl) rfl (by kernel_rfl) ?_
                                refine R.go 1 (R.any1 4 (by kernel_rfl) (by kernel_rfl) ?_)
                                refine R.call true (ST_impl n xs m ys (by first | omega | (simp <;> omega)) (by first | omega | (simp <;> omega))).frz (by kernel_rfl) rfl (by kernel_rfl) ?_
                                refine R.go 1 (R.anyF 5 (by kernel_rfl) (np_meet _) ?_)
                                refine R.anyX 6 (.agg [AI (stN n xs m ys), LI (stR n xs m ys)]) (by kernel_rfl) (np_meet _) ?_
                                refine R.anyX 7 (AI (stC n xs m ys)) (by kernel_rfl) (np_meet _) ?_
                                refine R.any1 9 (by kernel_rfl) (by kernel_rfl) ?_
                                refine R.go 2 (R.any1 10 (by kernel_rfl) (by kernel_rfl) ?_)
                                refine R.go 2 (R.any0 (by kernel_rfl) ?_)
                                exact R.met (by kernel_rfl) (by kernel_rfl)
                              · refine R.go 2 (R.any1 1 (by kernel_rfl) (by kernel_rfl) ?_)
                                refine R.call true (toPoset_c n xs (by first | omega | (simp <;> omega))).frz (by kernel_rfl) rfl (by kernel_rfl) ?_
                                refine R.go 1 (R.any1 3 (by kernel_rfl) (by kernel_rfl) ?_)
                                refine R.call true (toPoset_c m ys (by first | omega | (simp <;> omega))).frz (by kernel_rfl) rfl (by kernel_rfl) ?_
                                refine R.go 1 (R.any1 4 (by kernel_rfl) (by kernel_rfl) ?_)
                                refine R.call true (ST_impl n xs m ys (by first | omega | (simp <;> omega)) (by first | omega | (simp <;> omega))).frz (by kernel_rfl) rfl (by kernel_rfl) ?_
                                refine R.go 1 (R.anyF 5 (by kernel_rfl) (np_meet _) ?_)
                                refine R.anyX 6 (.agg [AI (stN n xs m ys), LI (stR n xs m ys)]) (by kernel_rfl) (np_meet _) ?_
                                refine R.anyX 7 (AI (stC n xs m ys)) (by kernel_rfl) (np_meet _) ?_
                                refine R.any1 9 (by kernel_rfl) (by kernel_rfl) ?_
                                refine R.go 2 (R.any1 10 (by kernel_rfl) (by kernel_rfl) ?_)
                                refine R.go 2 (R.any0 (by kernel_rfl) ?_)
                                exact R.met (by kernel_rfl) (by kernel_rfl)
                            · refine R.go 2 (R.any1 0 (by kernel_rfl) (by kernel_rfl) ?_)
                              refine R.go 2 (R.any1 1 (by kernel_rfl) (by kernel_rfl) ?_)
                              refine R.call true (toPoset_c n xs (by first | omega | (simp <;> omega))).frz (by kernel_rfl) rfl (by kernel_rfl) ?_
                              refine R.go 1 (R.any1 3 (by kernel_rfl) (by kernel_rfl) ?_)
                              refine R.call true (toPoset_c m ys (by first | omega | (simp <;> omega))).frz (by kernel_rfl) rfl (by kernel_rfl) ?_
                              refine R.go 1 (R.any1 4 (by kernel_rfl) (by kernel_rfl) ?_)
                              refine R.call true (ST_impl n xs m ys (by first | omega | (simp <;> omega)) (by first | omega | (simp <;> omega))).frz (by kernel_rfl) rfl (by kernel_rfl) ?_
                              refine R.go 1 (R.anyF 5 (by kernel_rfl) (np_meet _) ?_)
                              refine R.anyX 6 (.agg [AI (stN n xs m ys), LI (stR n xs m ys)]) (by kernel_rfl) (np_meet _) ?_
                              refine R.anyX 7 (AI (stC n xs m ys)) (by kernel_rfl) (np_meet _) ?_
                              refine R.any1 9 (by kernel_rfl) (by kernel_rfl) ?_
                              refine R.go 2 (R.any1 10 (by kernel_rfl) (by kernel_rfl) ?_)
                              refine R.go 2 (R.any0 (by kernel_rfl) ?_)
                              exact R.met (by kernel_rfl) (by kernel_rfl)
                        · refine R.go 5 (R.call true (eqPoset_c (stN n xs m ys) (stR n xs m ys) (by first | omega | (simp <;> omega))) (by kernel_rfl) rfl (by kernel_rfl) ?_)
                          refine R.go 7 (R.els (!decide ((stC n xs m ys) = (stC n xs m ys))) (by kernel_rfl) (nF rfl) ?_)
                          refine R.go 9 (R.call false (heldPoset_c (stN n xs m ys) (markI (stR n xs m ys) 1 i3) 1 (by first | omega | (simp <;> omega)) (by omega) (by assumption)) (by kernel_rfl) rfl (by kernel_rfl) ?_)
                          refine R.go 8 (R.els (decide ((1 + ((markI (stR n xs m ys) 1 i3).length : Int)) < 0)) (by kernel_rfl) (dF c25) ?_)
                          refine R.go 8 (R.els (!decide ((1 + ((markI (stR n xs m ys) 1 i3).length : Int)) = (1 + (i3 : Int)))) (by kernel_rfl) (nF c26) ?_)
                          exact R.go 5 (R.retE (.bool true) (by kernel_rfl) (by kernel_rfl) (by rfl))

theorem lawStackPosets_1 (n : Int) (xs : List Int) (m : Int) (ys : List Int) (hx : 1048576 < xs.length) (hb : xs.length ≤ 9223372036854775807) : CallA Try.prog 3 [.agg [AI n, LI xs], .agg [AI m, LI ys]] (.bool true) := by
  refine CallA.of Try.func3 rfl (by kernel_rfl) ?_
  refine R.go 14 (R.call true (szPoset_no n xs 1048576 (by omega) (by first | omega | (simp <;> omega)) hb) (by kernel_rfl) rfl (by kernel_rfl) ?_)
  exact R.go 13 (R.retE (.bool true) (by kernel_rfl) (by kernel_rfl) (by rfl))

theorem lawStackPosets_2 (n : Int) (xs : List Int) (m : Int) (ys : List Int) (hy : xs.length ≤ 1048576) (hx : 1048576 < xs.length + ys.length) (hb : ys.length ≤ 9223372036854775807) : CallA Try.prog 3 [.agg [AI n, LI xs], .agg [AI m, LI ys]] (.bool true) := by
  refine CallA.of Try.func3 rfl (by kernel_rfl) ?_
  refine R.go 14 (R.call true (szPoset_c n xs 1048576 (by omega) (by first | omega | (simp <;> omega))) (by kernel_rfl) rfl (by kernel_rfl) ?_)
  refine R.go 8 (R.cond (((1048576 : Int) - xs.length) < 0) (by kernel_rfl) (fun c1 => ?_) (fun c1 => ?_))
  · exact R.go 4 (R.retE (.bool true) (by kernel_rfl) (by kernel_rfl) (by rfl))
  · refine R.go 5 (R.call true (szPoset_no m ys ((1048576 : Int) - xs.length) (by first | omega | (simp <;> omega)) (by first | omega | (simp <;> omega)) hb) (by kernel_rfl) rfl (by kernel_rfl) ?_)
    exact R.go 13 (R.retE (.bool true) (by kernel_rfl) (by kernel_rfl) (by rfl))

theorem lawStackPosets (n : Int) (xs : List Int) (m0 : xs.length ≤ maxLen) (m : Int) (ys : List Int) (m1 : ys.length ≤ maxLen) : CallA Try.prog 3 [.agg [AI n, LI xs], .agg [AI m, LI ys]] (.bool true) := by
  have hm : maxLen ≤ 9223372036854775807 := by decide
  rcases Nat.lt_or_ge 1048576 (xs.length) with h0 | h0
  · exact lawStackPosets_1 n xs m ys h0 (by omega)
  rcases Nat.lt_or_ge 1048576 (xs.length + ys.length) with h1 | h1
  · exact lawStackPosets_2 n xs m ys h0 h1 (by omega)
  exact lawStackPosets_in n xs m ys h1

end Go.Proofs.Ytkanjgmocmhlkaa
