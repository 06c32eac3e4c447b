/- Texts of the proof: E08, U01, U02. -/
import Derived.Test.YtejaikeemahobaaPartK

/-! Draws of the laws. -/
namespace Go.Proofs.Ytejaikeemahobaa
open Go.RowKit Go.Abs

theorem drGlobal_c (c : List Int) (hc : BY c) : CallX Try.prog 9 [LB c] [] (fun (resX : AV) (objX : List AObj) => ∃ n : Int, ∃ xs : List Int, ∃ l : List (List (Int × Int)), ∃ a : List (Int × Int), (xs.length ≤ 1000) ∧ (l.length ≤ 1000 ∧ ∀ j : Nat, (l.getD j []).length ≤ 1000) ∧ (a.length ≤ 1000) ∧ resX = .tup [.agg [AI n, LI xs], LLN l, LN a] ∧ objX = []) := by
  have hcl : c.length ≤ 4096 := hc.1
  have hcb := hc.2
  refine CallX.dropE (CallX.ofF Try.func9 rfl (by kernel_rfl) ?_)
  intro usC frC hfC
  refine R.go 9 (R.enter (avs := [LB c]) Try.func40 rfl (by kernel_rfl) (by kernel_rfl) (by kernel_rfl) ?_)
  intro us1
  refine R.go 9 (R.cv .u64 (c.length : Int) (by kernel_rfl) (u64_id (by omega) (by omega)) (by kernel_rfl) ?_)
  refine R.go 11 (R.loop ((fun | (i, hh) => (⟨(frm 38 [(0, LB c), (3, .ptr 3 0), (4, AI (i : Int))]), [.frame usC frC, .box 26 [AI 0, .nil], .frame us1 (frm 48 [(0, LB c), (2, .ptr 1 0), (3, .nil), (4, .nil), (9, LB c)]), .box 106 [LB c, AI 0, .int .u64 hh]]⟩ : St) : Nat × Int → St)) (fun | (i, hh) => i ≤ c.length) (fun | (i, hh) => c.length - i) (0, (IntKind.u64.wrap (7129 + (c.length : Int)))) [0, 3, 4] none (by kernel_rfl) (by kernel_rfl) (by kernel_rfl) (by omega) ?_)
  rintro ⟨i, hh⟩ h5_1 R2 N3
  refine R.go 8 ?_
  by_cases c6 : (i : Int) < (c.length : Int)
  · refine R.want (decide ((i : Int) < (c.length : Int))) true (by kernel_rfl) (dT c6) ?_
    refine R.go 1 (R.want (decide ((i : Int) < (c.length : Int))) true (by kernel_rfl) (dT c6) ?_)
    refine R.go 1 (R.pick (decide ((i : Int) < (c.length : Int))) true (by kernel_rfl) (dT c6) (by kernel_rfl) ?_)
    refine R.go 1 (R.cond ((i : Int) < 4096) (by kernel_rfl) (fun c7 => ?_) (fun c7 => ?_))
    · have hbi := hcb i (by omega)
      refine R.go 12 (R.idx eB c 0 i (i : Int) (by kernel_rfl) rfl eB_len (by omega) (by kernel_rfl) ?_)
      refine R.go 1 (R.cv .u64 (c.getD i 0) (by kernel_rfl) (u64_id (by omega) (by omega)) (by kernel_rfl) ?_)
      refine R.go 9 (R.ar ((i : Int) + 1) (by kernel_rfl) (by omega) (by omega) (by kernel_rfl) ?_)
      exact R.go 2 (R.stop R2 (by kernel_rfl) (N3 (i + 1, IntKind.u64.wrap ((IntKind.u64.wrap ((IntKind.u64.wrap (hh * 1099511628211)) + (c.getD i 0))) + 11)) [0, 3, 4] none _ (by kernel_rfl) (by kernel_rfl) (by omega) (by show (c.length - (i + 1)) < (c.length - i); omega)))
    · refine R.go 6 (R.back (.ptr 3 0) (frm 48 [(0, LB c), (2, .ptr 1 0), (3, .nil), (4, .nil), (9, LB c)]) (by kernel_rfl) (by kernel_rfl) (by kernel_rfl) ?_)
      refine R.go 5 (R.deadF 2 (by kernel_rfl) (by kernel_rfl) ?_)
      refine R.callX (CallX.inF 0 usC frC (CallX.inF 1 [] [] (CallX.perm [1, 0] [1, 0] (CallX.box 1 26 [AI 0, .nil] (pairX_c_r1 c 0 hh 26 2 1 [AI 0, .nil] hc) (by kernel_rfl) (by kernel_rfl) (by kernel_rfl) (by kernel_rfl) (by rintro _ _ ⟨_, _, _, _, _, _, _, rfl, rfl⟩; exact ⟨by kernel_rfl, by kernel_rfl, by kernel_rfl⟩)) (by kernel_rfl) (by kernel_rfl) (by kernel_rfl) (by rintro _ _ ⟨_, ⟨_, _, _, _, _, _, _, rfl, rfl⟩, rfl⟩; exact Nat.le_of_ble_eq_true (by kernel_rfl))) (Nat.le_of_ble_eq_true (by kernel_rfl)) (by kernel_rfl) (by kernel_rfl) (by rintro _ _ ⟨_, _, ⟨_, ⟨_, _, _, _, _, _, _, rfl, rfl⟩, rfl⟩, rfl, rfl⟩; exact Nat.le_of_ble_eq_true (by kernel_rfl))) (Nat.le_of_ble_eq_true (by kernel_rfl)) (by kernel_rfl) (by kernel_rfl) (by rintro _ _ ⟨_, _, ⟨_, _, ⟨_, ⟨_, _, _, _, _, _, _, rfl, rfl⟩, rfl⟩, rfl, rfl⟩, rfl, rfl⟩; exact Nat.le_of_ble_eq_true (by kernel_rfl))) (by kernel_rfl) (by kernel_rfl) (by kernel_rfl) ?_
      rintro _ _ ⟨_, _, ⟨_, _, ⟨_, _, ⟨_, ⟨n_8, xs_9, a_10, p1_11, h1_12, f13, f14, rfl, rfl⟩, rfl⟩, rfl, rfl⟩, rfl, rfl⟩, rfl, rfl⟩
      refine R.go 10 (R.callX (CallX.inF 0 usC frC (CallX.inF 1 [] [] (CallX.perm [1, 0, 2] [1, 0, 2] (CallX.box 2 26 [AI n_8, LI xs_9] (CallX.box 1 26 [AI 0, .nil] (premX_c_r2 c p1_11 h1_12 26 2 1 [AI 0, .nil] 26 2 1 [AI n_8, LI xs_9] hc) (by kernel_rfl) (by kernel_rfl) (by kernel_rfl) (by kernel_rfl) (by rintro _ _ ⟨_, _, _, _, rfl, rfl⟩; exact ⟨by kernel_rfl, by kernel_rfl, by kernel_rfl⟩)) (by kernel_rfl) (by kernel_rfl) (by kernel_rfl) (by kernel_rfl) (by rintro _ _ ⟨_, ⟨_, _, _, _, rfl, rfl⟩, rfl⟩; exact ⟨by kernel_rfl, by kernel_rfl, by kernel_rfl⟩)) (by kernel_rfl) (by kernel_rfl) (by kernel_rfl) (by rintro _ _ ⟨_, ⟨_, ⟨_, _, _, _, rfl, rfl⟩, rfl⟩, rfl⟩; exact Nat.le_of_ble_eq_true (by kernel_rfl))) (Nat.le_of_ble_eq_true (by kernel_rfl)) (by kernel_rfl) (by kernel_rfl) (by rintro _ _ ⟨_, _, ⟨_, ⟨_, ⟨_, _, _, _, rfl, rfl⟩, rfl⟩, rfl⟩, rfl, rfl⟩; exact Nat.le_of_ble_eq_true (by kernel_rfl))) (Nat.le_of_ble_eq_true (by kernel_rfl)) (by kernel_rfl) (by kernel_rfl) (by rintro _ _ ⟨_, _, ⟨_, _, ⟨_, ⟨_, ⟨_, _, _, _, rfl, rfl⟩, rfl⟩, rfl⟩, rfl, rfl⟩, rfl, rfl⟩; exact Nat.le_of_ble_eq_true (by kernel_rfl))) (by kernel_rfl) (by kernel_rfl) (by kernel_rfl) ?_)
      rintro _ _ ⟨_, _, ⟨_, _, ⟨_, _, ⟨_, ⟨_, ⟨l_15, p1_16, h1_17, f18, rfl, rfl⟩, rfl⟩, rfl⟩, rfl, rfl⟩, rfl, rfl⟩, rfl, rfl⟩
      have hl0 := (by assumption : l_15.length ≤ 1000 ∧ ∀ j : Nat, (l_15.getD j []).length ≤ 1000).2 0
      refine R.go 9 ?_
      by_cases c19 : (l_15.length : Int) > 0
      · refine R.want (decide ((l_15.length : Int) > 0)) true (by kernel_rfl) (dT c19) ?_
        refine R.go 1 (R.want (decide ((l_15.length : Int) > 0)) true (by kernel_rfl) (dT c19) ?_)
        refine R.idx eLN l_15 [] 0 0 (by kernel_rfl) rfl eLN_len (by omega) (by kernel_rfl) ?_
        refine R.want (decide ((l_15.length : Int) > 0)) true (by kernel_rfl) (dT c19) ?_
        refine R.go 1 (R.want (decide ((l_15.length : Int) > 0)) true (by kernel_rfl) (dT c19) ?_)
        refine R.call true (l02Is_c (l_15.getD 0 []) (by first | assumption | omega)) (by kernel_rfl) rfl (by kernel_rfl) ?_
        refine R.pick (decide ((l_15.length : Int) > 0)) true (by kernel_rfl) (dT c19) (by kernel_rfl) ?_
        refine R.go 1 ?_
        refine (Bool.eq_false_or_eq_true (isF (l_15.getD 0 []))).elim (fun c20 => ?_) (fun c20 => ?_)
        · refine R.want (isF (l_15.getD 0 [])) true (by kernel_rfl) c20 ?_
          refine R.go 1 (R.want (isF (l_15.getD 0 [])) true (by kernel_rfl) c20 ?_)
          refine R.idx eLN l_15 [] 0 0 (by kernel_rfl) rfl eLN_len (by omega) (by kernel_rfl) ?_
          refine R.want (isF (l_15.getD 0 [])) true (by kernel_rfl) c20 ?_
          refine R.go 1 (R.want (isF (l_15.getD 0 [])) true (by kernel_rfl) c20 ?_)
          refine R.go 1 (R.want (isF (l_15.getD 0 [])) true (by kernel_rfl) c20 ?_)
          refine R.go 1 (R.pick (isF (l_15.getD 0 [])) true (by kernel_rfl) c20 (by kernel_rfl) ?_)
          refine R.go 1 ?_
          by_cases c21 : ((l_15.getD 0 []).length : Int) < 40
          · refine R.want (decide (((l_15.getD 0 []).length : Int) < 40)) true (by kernel_rfl) (dT c21) ?_
            refine R.go 1 (R.want (decide (((l_15.getD 0 []).length : Int) < 40)) true (by kernel_rfl) (dT c21) ?_)
            refine R.callX (CallX.inF 0 usC frC (CallX.inF 1 [] [] (CallX.perm [1, 0, 2] [1, 0, 2] (CallX.box 2 26 [AI n_8, LI xs_9] (CallX.box 1 26 [AI 0, .nil] (nextX_c_r2 c p1_16 h1_17 2 26 2 1 [AI 0, .nil] 26 2 1 [AI n_8, LI xs_9] hc) (by kernel_rfl) (by kernel_rfl) (by kernel_rfl) (by kernel_rfl) (by rintro _ _ ⟨_, _, _, _, rfl, rfl⟩; exact ⟨by kernel_rfl, by kernel_rfl, by kernel_rfl⟩)) (by kernel_rfl) (by kernel_rfl) (by kernel_rfl) (by kernel_rfl) (by rintro _ _ ⟨_, ⟨_, _, _, _, rfl, rfl⟩, rfl⟩; exact ⟨by kernel_rfl, by kernel_rfl, by kernel_rfl⟩)) (by kernel_rfl) (by kernel_rfl) (by kernel_rfl) (by rintro _ _ ⟨_, ⟨_, ⟨_, _, _, _, rfl, rfl⟩, rfl⟩, rfl⟩; exact Nat.le_of_ble_eq_true (by kernel_rfl))) (Nat.le_of_ble_eq_true (by kernel_rfl)) (by kernel_rfl) (by kernel_rfl) (by rintro _ _ ⟨_, _, ⟨_, ⟨_, ⟨_, _, _, _, rfl, rfl⟩, rfl⟩, rfl⟩, rfl, rfl⟩; exact Nat.le_of_ble_eq_true (by kernel_rfl))) (Nat.le_of_ble_eq_true (by kernel_rfl)) (by kernel_rfl) (by kernel_rfl) (by rintro _ _ ⟨_, _, ⟨_, _, ⟨_, ⟨_, ⟨_, _, _, _, rfl, rfl⟩, rfl⟩, rfl⟩, rfl, rfl⟩, rfl, rfl⟩; exact Nat.le_of_ble_eq_true (by kernel_rfl))) (by kernel_rfl) (by kernel_rfl) (by kernel_rfl) ?_
            rintro _ _ ⟨_, _, ⟨_, _, ⟨_, _, ⟨_, ⟨_, ⟨v_22, p1_23, h1_24, f25, rfl, rfl⟩, rfl⟩, rfl⟩, rfl, rfl⟩, rfl, rfl⟩, rfl, rfl⟩
            refine R.want (decide (((l_15.getD 0 []).length : Int) < 40)) true (by kernel_rfl) (dT c21) ?_
            refine R.go 1 (R.pick (decide (((l_15.getD 0 []).length : Int) < 40)) true (by kernel_rfl) (dT c21) (by kernel_rfl) ?_)
            refine R.go 1 (R.cond (v_22 = 0) (by kernel_rfl) (fun c26 => ?_) (fun c26 => ?_))
            · refine R.go 1 (R.any (by decide +kernel) (by kernel_rfl) ?_)
              refine R.anyF 1 (by kernel_rfl) (np_retX _ _ _ _ _ _) ?_
              refine R.anyF 2 (by kernel_rfl) (np_retX _ _ _ _ _ _) ?_
              refine R.any2 0 3 (by kernel_rfl) (by kernel_rfl) ?_ ?_
              · refine R.go 2 (R.any1 3 (by kernel_rfl) (by kernel_rfl) ?_)
                refine R.idx eLN l_15 [] 0 0 (by kernel_rfl) rfl eLN_len (by omega) (by kernel_rfl) ?_
                refine R.go 1 (R.any1 4 (by kernel_rfl) (by kernel_rfl) ?_)
                refine R.go 2 (R.any1 5 (by kernel_rfl) (by kernel_rfl) ?_)
                refine R.call true (l02Pre_c 5 (l_15.getD 0 []) (by first | assumption | omega)).frz (by kernel_rfl) rfl (by kernel_rfl) ?_
                refine R.go 1 (R.any1 6 (by kernel_rfl) (by kernel_rfl) ?_)
                refine R.go 2 (R.any1 7 (by kernel_rfl) (by kernel_rfl) ?_)
                refine R.go 2 (R.any1 8 (by kernel_rfl) (by kernel_rfl) ?_)
                refine R.go 2 (R.any0 (by kernel_rfl) ?_)
                exact R.retX (res := .tup [.agg [AI n_8, LI xs_9], LLN l_15, LN ((5, 0) :: (l_15.getD 0 []))]) (hp' := [.dead, .box 26 [AI n_8, LI xs_9], .frame [] [], .box 106 [LB c, AI (p1_23 : Int), .int .u64 h1_24], .box 26 [AI n_8, LI xs_9]]) (by kernel_rfl) (by kernel_rfl) (by kernel_rfl) (by kernel_rfl) ⟨[], by kernel_rfl, by decide, n_8, xs_9, l_15, (5, 0) :: (l_15.getD 0 []), by first | assumption | omega | (simp only [List.length_cons]; omega), by first | assumption | omega | (simp only [List.length_cons]; omega), by first | assumption | omega | (simp only [List.length_cons]; omega), by kernel_rfl, by kernel_rfl⟩
              · refine R.idx eLN l_15 [] 0 0 (by kernel_rfl) rfl eLN_len (by omega) (by kernel_rfl) ?_
                refine R.go 1 (R.any2 0 4 (by kernel_rfl) (by kernel_rfl) ?_ ?_)
                · refine R.go 2 (R.any1 4 (by kernel_rfl) (by kernel_rfl) ?_)
                  refine R.go 2 (R.any1 5 (by kernel_rfl) (by kernel_rfl) ?_)
                  refine R.call true (l02Pre_c 5 (l_15.getD 0 []) (by first | assumption | omega)).frz (by kernel_rfl) rfl (by kernel_rfl) ?_
                  refine R.go 1 (R.any1 6 (by kernel_rfl) (by kernel_rfl) ?_)
                  refine R.go 2 (R.any1 7 (by kernel_rfl) (by kernel_rfl) ?_)
                  refine R.go 2 (R.any1 8 (by kernel_rfl) (by kernel_rfl) ?_)
                  refine R.go 2 (R.any0 (by kernel_rfl) ?_)
                  exact R.retX (res := .tup [.agg [AI n_8, LI xs_9], LLN l_15, LN ((5, 0) :: (l_15.getD 0 []))]) (hp' := [.dead, .box 26 [AI n_8, LI xs_9], .frame [] [], .box 106 [LB c, AI (p1_23 : Int), .int .u64 h1_24], .box 26 [AI n_8, LI xs_9]]) (by kernel_rfl) (by kernel_rfl) (by kernel_rfl) (by kernel_rfl) ⟨[], by kernel_rfl, by decide, n_8, xs_9, l_15, (5, 0) :: (l_15.getD 0 []), by first | assumption | omega | (simp only [List.length_cons]; omega), by first | assumption | omega | (simp only [List.length_cons]; omega), by first | assumption | omega | (simp only [List.length_cons]; omega), by kernel_rfl, by kernel_rfl⟩
                · refine R.go 2 (R.any2 0 5 (by kernel_rfl) (by kernel_rfl) ?_ ?_)
                  · refine R.go 2 (R.any1 5 (by kernel_rfl) (by kernel_rfl) ?_)
                    refine R.call true (l02Pre_c 5 (l_15.getD 0 []) (by first | assumption | omega)).frz (by kernel_rfl) rfl (by kernel_rfl) ?_
                    refine R.go 1 (R.any1 6 (by kernel_rfl) (by kernel_rfl) ?_)
                    refine R.go 2 (R.any1 7 (by kernel_rfl) (by kernel_rfl) ?_)
                    refine R.go 2 (R.any1 8 (by kernel_rfl) (by kernel_rfl) ?_)
                    refine R.go 2 (R.any0 (by kernel_rfl) ?_)
                    exact R.retX (res := .tup [.agg [AI n_8, LI xs_9], LLN l_15, LN ((5, 0) :: (l_15.getD 0 []))]) (hp' := [.dead, .box 26 [AI n_8, LI xs_9], .frame [] [], .box 106 [LB c, AI (p1_23 : Int), .int .u64 h1_24], .box 26 [AI n_8, LI xs_9]]) (by kernel_rfl) (by kernel_rfl) (by kernel_rfl) (by kernel_rfl) ⟨[], by kernel_rfl, by decide, n_8, xs_9, l_15, (5, 0) :: (l_15.getD 0 []), by first | assumption | omega | (simp only [List.length_cons]; omega), by first | assumption | omega | (simp only [List.length_cons]; omega), by first | assumption | omega | (simp only [List.length_cons]; omega), by kernel_rfl, by kernel_rfl⟩
                  · refine R.call true (l02Pre_c 5 (l_15.getD 0 []) (by first | assumption | omega)).frz (by kernel_rfl) rfl (by kernel_rfl) ?_
                    refine R.go 1 (R.any1 0 (by kernel_rfl) (by kernel_rfl) ?_)
                    refine R.go 2 (R.any1 6 (by kernel_rfl) (by kernel_rfl) ?_)
                    refine R.go 2 (R.any1 7 (by kernel_rfl) (by kernel_rfl) ?_)
                    refine R.go 2 (R.any1 8 (by kernel_rfl) (by kernel_rfl) ?_)
                    refine R.go 2 (R.any0 (by kernel_rfl) ?_)
                    exact R.retX (res := .tup [.agg [AI n_8, LI xs_9], LLN l_15, LN ((5, 0) :: (l_15.getD 0 []))]) (hp' := [.dead, .box 26 [AI n_8, LI xs_9], .frame [] [], .box 106 [LB c, AI (p1_23 : Int), .int .u64 h1_24], .box 26 [AI n_8, LI xs_9]]) (by kernel_rfl) (by kernel_rfl) (by kernel_rfl) (by kernel_rfl) ⟨[], by kernel_rfl, by decide, n_8, xs_9, l_15, (5, 0) :: (l_15.getD 0 []), by first | assumption | omega | (simp only [List.length_cons]; omega), by first | assumption | omega | (simp only [List.length_cons]; omega), by first | assumption | omega | (simp only [List.length_cons]; omega), by kernel_rfl, by kernel_rfl⟩
            · exact R.go 10 (R.retX (res := .tup [.agg [AI n_8, LI xs_9], LLN l_15, LN a_10]) (hp' := [.dead, .box 26 [AI n_8, LI xs_9], .frame [] [], .box 106 [LB c, AI (p1_23 : Int), .int .u64 h1_24], .box 26 [AI n_8, LI xs_9]]) (by kernel_rfl) (by kernel_rfl) (by kernel_rfl) (by kernel_rfl) ⟨[], by kernel_rfl, by decide, n_8, xs_9, l_15, a_10, by first | assumption | omega | (simp only [List.length_cons]; omega), by first | assumption | omega | (simp only [List.length_cons]; omega), by first | assumption | omega | (simp only [List.length_cons]; omega), by kernel_rfl, by kernel_rfl⟩)
          · refine R.skp (decide (((l_15.getD 0 []).length : Int) < 40)) true (by kernel_rfl) (dF c21) (by kernel_rfl) ?_
            refine R.skp (decide (((l_15.getD 0 []).length : Int) < 40)) true (by kernel_rfl) (dF c21) (by kernel_rfl) ?_
            refine R.skp (decide (((l_15.getD 0 []).length : Int) < 40)) true (by kernel_rfl) (dF c21) (by kernel_rfl) ?_
            refine R.pick (decide (((l_15.getD 0 []).length : Int) < 40)) false (by kernel_rfl) (dF c21) (by kernel_rfl) ?_
            exact R.go 12 (R.retX (res := .tup [.agg [AI n_8, LI xs_9], LLN l_15, LN a_10]) (hp' := [.dead, .box 26 [AI n_8, LI xs_9], .frame [] [], .box 106 [LB c, AI (p1_16 : Int), .int .u64 h1_17], .box 26 [AI n_8, LI xs_9]]) (by kernel_rfl) (by kernel_rfl) (by kernel_rfl) (by kernel_rfl) ⟨[], by kernel_rfl, by decide, n_8, xs_9, l_15, a_10, by first | assumption | omega | (simp only [List.length_cons]; omega), by first | assumption | omega | (simp only [List.length_cons]; omega), by first | assumption | omega | (simp only [List.length_cons]; omega), by kernel_rfl, by kernel_rfl⟩)
        · refine R.skp (isF (l_15.getD 0 [])) true (by kernel_rfl) c20 (by kernel_rfl) ?_
          refine R.skp (isF (l_15.getD 0 [])) true (by kernel_rfl) c20 (by kernel_rfl) ?_
          refine R.skp (isF (l_15.getD 0 [])) true (by kernel_rfl) c20 (by kernel_rfl) ?_
          refine R.skp (isF (l_15.getD 0 [])) true (by kernel_rfl) c20 (by kernel_rfl) ?_
          refine R.skp (isF (l_15.getD 0 [])) true (by kernel_rfl) c20 (by kernel_rfl) ?_
          refine R.pick (isF (l_15.getD 0 [])) false (by kernel_rfl) c20 (by kernel_rfl) ?_
          exact R.go 17 (R.retX (res := .tup [.agg [AI n_8, LI xs_9], LLN l_15, LN a_10]) (hp' := [.dead, .box 26 [AI n_8, LI xs_9], .frame [] [], .box 106 [LB c, AI (p1_16 : Int), .int .u64 h1_17], .box 26 [AI n_8, LI xs_9]]) (by kernel_rfl) (by kernel_rfl) (by kernel_rfl) (by kernel_rfl) ⟨[], by kernel_rfl, by decide, n_8, xs_9, l_15, a_10, by first | assumption | omega | (simp only [List.length_cons]; omega), by first | assumption | omega | (simp only [List.length_cons]; omega), by first | assumption | omega | (simp only [List.length_cons]; omega), by kernel_rfl, by kernel_rfl⟩)
      · refine R.skp (decide ((l_15.length : Int) > 0)) true (by kernel_rfl) (dF c19) (by kernel_rfl) ?_
        refine R.skp (decide ((l_15.length : Int) > 0)) true (by kernel_rfl) (dF c19) (by kernel_rfl) ?_
        refine R.skp (decide ((l_15.length : Int) > 0)) true (by kernel_rfl) (dF c19) (by kernel_rfl) ?_
        refine R.skp (decide ((l_15.length : Int) > 0)) true (by kernel_rfl) (dF c19) (by kernel_rfl) ?_
        refine R.pick (decide ((l_15.length : Int) > 0)) false (by kernel_rfl) (dF c19) (by kernel_rfl) ?_
        exact R.go 24 (R.retX (res := .tup [.agg [AI n_8, LI xs_9], LLN l_15, LN a_10]) (hp' := [.dead, .box 26 [AI n_8, LI xs_9], .frame [] [], .box 106 [LB c, AI (p1_16 : Int), .int .u64 h1_17], .box 26 [AI n_8, LI xs_9]]) (by kernel_rfl) (by kernel_rfl) (by kernel_rfl) (by kernel_rfl) ⟨[], by kernel_rfl, by decide, n_8, xs_9, l_15, a_10, by first | assumption | omega | (simp only [List.length_cons]; omega), by first | assumption | omega | (simp only [List.length_cons]; omega), by first | assumption | omega | (simp only [List.length_cons]; omega), by kernel_rfl, by kernel_rfl⟩)
  · refine R.skp (decide ((i : Int) < (c.length : Int))) true (by kernel_rfl) (dF c6) (by kernel_rfl) ?_
    refine R.skp (decide ((i : Int) < (c.length : Int))) true (by kernel_rfl) (dF c6) (by kernel_rfl) ?_
    refine R.pick (decide ((i : Int) < (c.length : Int))) false (by kernel_rfl) (dF c6) (by kernel_rfl) ?_
    refine R.go 8 (R.back (.ptr 3 0) (frm 48 [(0, LB c), (2, .ptr 1 0), (3, .nil), (4, .nil), (9, LB c)]) (by kernel_rfl) (by kernel_rfl) (by kernel_rfl) ?_)
    refine R.go 5 (R.deadF 2 (by kernel_rfl) (by kernel_rfl) ?_)
    refine R.callX (CallX.inF 0 usC frC (CallX.inF 1 [] [] (CallX.perm [1, 0] [1, 0] (CallX.box 1 26 [AI 0, .nil] (pairX_c_r1 c 0 hh 26 2 1 [AI 0, .nil] hc) (by kernel_rfl) (by kernel_rfl) (by kernel_rfl) (by kernel_rfl) (by rintro _ _ ⟨_, _, _, _, _, _, _, rfl, rfl⟩; exact ⟨by kernel_rfl, by kernel_rfl, by kernel_rfl⟩)) (by kernel_rfl) (by kernel_rfl) (by kernel_rfl) (by rintro _ _ ⟨_, ⟨_, _, _, _, _, _, _, rfl, rfl⟩, rfl⟩; exact Nat.le_of_ble_eq_true (by kernel_rfl))) (Nat.le_of_ble_eq_true (by kernel_rfl)) (by kernel_rfl) (by kernel_rfl) (by rintro _ _ ⟨_, _, ⟨_, ⟨_, _, _, _, _, _, _, rfl, rfl⟩, rfl⟩, rfl, rfl⟩; exact Nat.le_of_ble_eq_true (by kernel_rfl))) (Nat.le_of_ble_eq_true (by kernel_rfl)) (by kernel_rfl) (by kernel_rfl) (by rintro _ _ ⟨_, _, ⟨_, _, ⟨_, ⟨_, _, _, _, _, _, _, rfl, rfl⟩, rfl⟩, rfl, rfl⟩, rfl, rfl⟩; exact Nat.le_of_ble_eq_true (by kernel_rfl))) (by kernel_rfl) (by kernel_rfl) (by kernel_rfl) ?_
    rintro _ _ ⟨_, _, ⟨_, _, ⟨_, _, ⟨_, ⟨n_27, xs_28, a_29, p1_30, h1_31, f32, f33, rfl, rfl⟩, rfl⟩, rfl, rfl⟩, rfl, rfl⟩, rfl, rfl⟩
    refine R.go 10 (R.callX (CallX.inF 0 usC frC (CallX.inF 1 [] [] (CallX.perm [1, 0, 2] [1, 0, 2] (CallX.box 2 26 [AI n_27, LI xs_28] (CallX.box 1 26 [AI 0, .nil] (premX_c_r2 c p1_30 h1_31 26 2 1 [AI 0, .nil] 26 2 1 [AI n_27, LI xs_28] hc) (by kernel_rfl) (by kernel_rfl) (by kernel_rfl) (by kernel_rfl) (by rintro _ _ ⟨_, _, _, _, rfl, rfl⟩; exact ⟨by kernel_rfl, by kernel_rfl, by kernel_rfl⟩)) (by kernel_rfl) (by kernel_rfl) (by kernel_rfl) (by kernel_rfl) (by rintro _ _ ⟨_, ⟨_, _, _, _, rfl, rfl⟩, rfl⟩; exact ⟨by kernel_rfl, by kernel_rfl, by kernel_rfl⟩)) (by kernel_rfl) (by kernel_rfl) (by kernel_rfl) (by rintro _ _ ⟨_, ⟨_, ⟨_, _, _, _, rfl, rfl⟩, rfl⟩, rfl⟩; exact Nat.le_of_ble_eq_true (by kernel_rfl))) (Nat.le_of_ble_eq_true (by kernel_rfl)) (by kernel_rfl) (by kernel_rfl) (by rintro _ _ ⟨_, _, ⟨_, ⟨_, ⟨_, _, _, _, rfl, rfl⟩, rfl⟩, rfl⟩, rfl, rfl⟩; exact Nat.le_of_ble_eq_true (by kernel_rfl))) (Nat.le_of_ble_eq_true (by kernel_rfl)) (by kernel_rfl) (by kernel_rfl) (by rintro _ _ ⟨_, _, ⟨_, _, ⟨_, ⟨_, ⟨_, _, _, _, rfl, rfl⟩, rfl⟩, rfl⟩, rfl, rfl⟩, rfl, rfl⟩; exact Nat.le_of_ble_eq_true (by kernel_rfl))) (by kernel_rfl) (by kernel_rfl) (by kernel_rfl) ?_)
    rintro _ _ ⟨_, _, ⟨_, _, ⟨_, _, ⟨_, ⟨_, ⟨l_34, p1_35, h1_36, f37, rfl, rfl⟩, rfl⟩, rfl⟩, rfl, rfl⟩, rfl, rfl⟩, rfl, rfl⟩
    have hl0 := (by assumption : l_34.length ≤ 1000 ∧ ∀ j : Nat, (l_34.getD j []).length ≤ 1000).2 0
    refine R.go 9 ?_
    by_cases c38 : (l_34.length : Int) > 0
    · refine R.want (decide ((l_34.length : Int) > 0)) true (by kernel_rfl) (dT c38) ?_
      refine R.go 1 (R.want (decide ((l_34.length : Int) > 0)) true (by kernel_rfl) (dT c38) ?_)
      refine R.idx eLN l_34 [] 0 0 (by kernel_rfl) rfl eLN_len (by omega) (by kernel_rfl) ?_
      refine R.want (decide ((l_34.length : Int) > 0)) true (by kernel_rfl) (dT c38) ?_
      refine R.go 1 (R.want (decide ((l_34.length : Int) > 0)) true (by kernel_rfl) (dT c38) ?_)
      refine R.call true (l02Is_c (l_34.getD 0 []) (by first | assumption | omega)) (by kernel_rfl) rfl (by kernel_rfl) ?_
      refine R.pick (decide ((l_34.length : Int) > 0)) true (by kernel_rfl) (dT c38) (by kernel_rfl) ?_
      refine R.go 1 ?_
      refine (Bool.eq_false_or_eq_true (isF (l_34.getD 0 []))).elim (fun c39 => ?_) (fun c39 => ?_)
      · refine R.want (isF (l_34.getD 0 [])) true (by kernel_rfl) c39 ?_
        refine R.go 1 (R.want (isF (l_34.getD 0 [])) true (by kernel_rfl) c39 ?_)
        refine R.idx eLN l_34 [] 0 0 (by kernel_rfl) rfl eLN_len (by omega) (by kernel_rfl) ?_
        refine R.want (isF (l_34.getD 0 [])) true (by kernel_rfl) c39 ?_
        refine R.go 1 (R.want (isF (l_34.getD 0 [])) true (by kernel_rfl) c39 ?_)
        refine R.go 1 (R.want (isF (l_34.getD 0 [])) true (by kernel_rfl) c39 ?_)
        refine R.go 1 (R.pick (isF (l_34.getD 0 [])) true (by kernel_rfl) c39 (by kernel_rfl) ?_)
        refine R.go 1 ?_
        by_cases c40 : ((l_34.getD 0 []).length : Int) < 40
        · refine R.want (decide (((l_34.getD 0 []).length : Int) < 40)) true (by kernel_rfl) (dT c40) ?_
          refine R.go 1 (R.want (decide (((l_34.getD 0 []).length : Int) < 40)) true (by kernel_rfl) (dT c40) ?_)
          refine R.callX (CallX.inF 0 usC frC (CallX.inF 1 [] [] (CallX.perm [1, 0, 2] [1, 0, 2] (CallX.box 2 26 [AI n_27, LI xs_28] (CallX.box 1 26 [AI 0, .nil] (nextX_c_r2 c p1_35 h1_36 2 26 2 1 [AI 0, .nil] 26 2 1 [AI n_27, LI xs_28] hc) (by kernel_rfl) (by kernel_rfl) (by kernel_rfl) (by kernel_rfl) (by rintro _ _ ⟨_, _, _, _, rfl, rfl⟩; exact ⟨by kernel_rfl, by kernel_rfl, by kernel_rfl⟩)) (by kernel_rfl) (by kernel_rfl) (by kernel_rfl) (by kernel_rfl) (by rintro _ _ ⟨_, ⟨_, _, _, _, rfl, rfl⟩, rfl⟩; exact ⟨by kernel_rfl, by kernel_rfl, by kernel_rfl⟩)) (by kernel_rfl) (by kernel_rfl) (by kernel_rfl) (by rintro _ _ ⟨_, ⟨_, ⟨_, _, _, _, rfl, rfl⟩, rfl⟩, rfl⟩; exact Nat.le_of_ble_eq_true (by kernel_rfl))) (Nat.le_of_ble_eq_true (by kernel_rfl)) (by kernel_rfl) (by kernel_rfl) (by rintro _ _ ⟨_, _, ⟨_, ⟨_, ⟨_, _, _, _, rfl, rfl⟩, rfl⟩, rfl⟩, rfl, rfl⟩; exact Nat.le_of_ble_eq_true (by kernel_rfl))) (Nat.le_of_ble_eq_true (by kernel_rfl)) (by kernel_rfl) (by kernel_rfl) (by rintro _ _ ⟨_, _, ⟨_, _, ⟨_, ⟨_, ⟨_, _, _, _, rfl, rfl⟩, rfl⟩, rfl⟩, rfl, rfl⟩, rfl, rfl⟩; exact Nat.le_of_ble_eq_true (by kernel_rfl))) (by kernel_rfl) (by kernel_rfl) (by kernel_rfl) ?_
          rintro _ _ ⟨_, _, ⟨_, _, ⟨_, _, ⟨_, ⟨_, ⟨v_41, p1_42, h1_43, f44, rfl, rfl⟩, rfl⟩, rfl⟩, rfl, rfl⟩, rfl, rfl⟩, rfl, rfl⟩
          refine R.want (decide (((l_34.getD 0 []).length : Int) < 40)) true (by kernel_rfl) (dT c40) ?_
          refine R.go 1 (R.pick (decide (((l_34.getD 0 []).length : Int) < 40)) true (by kernel_rfl) (dT c40) (by kernel_rfl) ?_)
          refine R.go 1 (R.cond (v_41 = 0) (by kernel_rfl) (fun c45 => ?_) (fun c45 => ?_))
          · refine R.go 1 (R.any (by decide +kernel) (by kernel_rfl) ?_)
            refine R.anyF 1 (by kernel_rfl) (np_retX _ _ _ _ _ _) ?_
            refine R.anyF 2 (by kernel_rfl) (np_retX _ _ _ _ _ _) ?_
            refine R.any2 0 3 (by kernel_rfl) (by kernel_rfl) ?_ ?_
            · refine R.go 2 (R.any1 3 (by kernel_rfl) (by kernel_rfl) ?_)
              refine R.idx eLN l_34 [] 0 0 (by kernel_rfl) rfl eLN_len (by omega) (by kernel_rfl) ?_
              refine R.go 1 (R.any1 4 (by kernel_rfl) (by kernel_rfl) ?_)
              refine R.go 2 (R.any1 5 (by kernel_rfl) (by kernel_rfl) ?_)
              refine R.call true (l02Pre_c 5 (l_34.getD 0 []) (by first | assumption | omega)).frz (by kernel_rfl) rfl (by kernel_rfl) ?_
              refine R.go 1 (R.any1 6 (by kernel_rfl) (by kernel_rfl) ?_)
              refine R.go 2 (R.any1 7 (by kernel_rfl) (by kernel_rfl) ?_)
              refine R.go 2 (R.any1 8 (by kernel_rfl) (by kernel_rfl) ?_)
              refine R.go 2 (R.any0 (by kernel_rfl) ?_)
              exact R.retX (res := .tup [.agg [AI n_27, LI xs_28], LLN l_34, LN ((5, 0) :: (l_34.getD 0 []))]) (hp' := [.dead, .box 26 [AI n_27, LI xs_28], .frame [] [], .box 106 [LB c, AI (p1_42 : Int), .int .u64 h1_43], .box 26 [AI n_27, LI xs_28]]) (by kernel_rfl) (by kernel_rfl) (by kernel_rfl) (by kernel_rfl) ⟨[], by kernel_rfl, by decide, n_27, xs_28, l_34, (5, 0) :: (l_34.getD 0 []), by first | assumption | omega | (simp only [List.length_cons]; omega), by first | assumption | omega | (simp only [List.length_cons]; omega), by first | assumption | omega | (simp only [List.length_cons]; omega), by kernel_rfl, by kernel_rfl⟩
            · refine R.idx eLN l_34 [] 0 0 (by kernel_rfl) rfl eLN_len (by omega) (by kernel_rfl) ?_
              refine R.go 1 (R.any2 0 4 (by kernel_rfl) (by kernel_rfl) ?_ ?_)
              · refine R.go 2 (R.any1 4 (by kernel_rfl) (by kernel_rfl) ?_)
                refine R.go 2 (R.any1 5 (by kernel_rfl) (by kernel_rfl) ?_)
                refine R.call true (l02Pre_c 5 (l_34.getD 0 []) (by first | assumption | omega)).frz (by kernel_rfl) rfl (by kernel_rfl) ?_
                refine R.go 1 (R.any1 6 (by kernel_rfl) (by kernel_rfl) ?_)
                refine R.go 2 (R.any1 7 (by kernel_rfl) (by kernel_rfl) ?_)
                refine R.go 2 (R.any1 8 (by kernel_rfl) (by kernel_rfl) ?_)
                refine R.go 2 (R.any0 (by kernel_rfl) ?_)
                exact R.retX (res := .tup [.agg [AI n_27, LI xs_28], LLN l_34, LN ((5, 0) :: (l_34.getD 0 []))]) (hp' := [.dead, .box 26 [AI n_27, LI xs_28], .frame [] [], .box 106 [LB c, AI (p1_42 : Int), .int .u64 h1_43], .box 26 [AI n_27, LI xs_28]]) (by kernel_rfl) (by kernel_rfl) (by kernel_rfl) (by kernel_rfl) ⟨[], by kernel_rfl, by decide, n_27, xs_28, l_34, (5, 0) :: (l_34.getD 0 []), by first | assumption | omega | (simp only [List.length_cons]; omega), by first | assumption | omega | (simp only [List.length_cons]; omega), by first | assumption | omega | (simp only [List.length_cons]; omega), by kernel_rfl, by kernel_rfl⟩
              · refine R.go 2 (R.any2 0 5 (by kernel_rfl) (by kernel_rfl) ?_ ?_)
                · refine R.go 2 (R.any1 5 (by kernel_rfl) (by kernel_rfl) ?_)
                  refine R.call true (l02Pre_c 5 (l_34.getD 0 []) (by first | assumption | omega)).frz (by kernel_rfl) rfl (by kernel_rfl) ?_
                  refine R.go 1 (R.any1 6 (by kernel_rfl) (by kernel_rfl) ?_)
                  refine R.go 2 (R.any1 7 (by kernel_rfl) (by kernel_rfl) ?_)
                  refine R.go 2 (R.any1 8 (by kernel_rfl) (by kernel_rfl) ?_)
                  refine R.go 2 (R.any0 (by kernel_rfl) ?_)
                  exact R.retX (res := .tup [.agg [AI n_27, LI xs_28], LLN l_34, LN ((5, 0) :: (l_34.getD 0 []))]) (hp' := [.dead, .box 26 [AI n_27, LI xs_28], .frame [] [], .box 106 [LB c, AI (p1_42 : Int), .int .u64 h1_43], .box 26 [AI n_27, LI xs_28]]) (by kernel_rfl) (by kernel_rfl) (by kernel_rfl) (by kernel_rfl) ⟨[], by kernel_rfl, by decide, n_27, xs_28, l_34, (5, 0) :: (l_34.getD 0 []), by first | assumption | omega | (simp only [List.length_cons]; omega), by first | assumption | omega | (simp only [List.length_cons]; omega), by first | assumption | omega | (simp only [List.length_cons]; omega), by kernel_rfl, by kernel_rfl⟩
                · refine R.call true (l02Pre_c 5 (l_34.getD 0 []) (by first | assumption | omega)).frz (by kernel_rfl) rfl (by kernel_rfl) ?_
                  refine R.go 1 (R.any1 0 (by kernel_rfl) (by kernel_rfl) ?_)
                  refine R.go 2 (R.any1 6 (by kernel_rfl) (by kernel_rfl) ?_)
                  refine R.go 2 (R.any1 7 (by kernel_rfl) (by kernel_rfl) ?_)
                  refine R.go 2 (R.any1 8 (by kernel_rfl) (by kernel_rfl) ?_)
                  refine R.go 2 (R.any0 (by kernel_rfl) ?_)
                  exact R.retX (res := .tup [.agg [AI n_27, LI xs_28], LLN l_34, LN ((5, 0) :: (l_34.getD 0 []))]) (hp' := [.dead, .box 26 [AI n_27, LI xs_28], .frame [] [], .box 106 [LB c, AI (p1_42 : Int), .int .u64 h1_43], .box 26 [AI n_27, LI xs_28]]) (by kernel_rfl) (by kernel_rfl) (by kernel_rfl) (by kernel_rfl) ⟨[], by kernel_rfl, by decide, n_27, xs_28, l_34, (5, 0) :: (l_34.getD 0 []), by first | assumption | omega | (simp only [List.length_cons]; omega), by first | assumption | omega | (simp only [List.length_cons]; omega), by first | assumption | omega | (simp only [List.length_cons]; omega), by kernel_rfl, by kernel_rfl⟩
          · exact R.go 10 (R.retX (res := .tup [.agg [AI n_27, LI xs_28], LLN l_34, LN a_29]) (hp' := [.dead, .box 26 [AI n_27, LI xs_28], .frame [] [], .box 106 [LB c, AI (p1_42 : Int), .int .u64 h1_43], .box 26 [AI n_27, LI xs_28]]) (by kernel_rfl) (by kernel_rfl) (by kernel_rfl) (by kernel_rfl) ⟨[], by kernel_rfl, by decide, n_27, xs_28, l_34, a_29, by first | assumption | omega | (simp only [List.length_cons]; omega), by first | assumption | omega | (simp only [List.length_cons]; omega), by first | assumption | omega | (simp only [List.length_cons]; omega), by kernel_rfl, by kernel_rfl⟩)
        · refine R.skp (decide (((l_34.getD 0 []).length : Int) < 40)) true (by kernel_rfl) (dF c40) (by kernel_rfl) ?_
          refine R.skp (decide (((l_34.getD 0 []).length : Int) < 40)) true (by kernel_rfl) (dF c40) (by kernel_rfl) ?_
          refine R.skp (decide (((l_34.getD 0 []).length : Int) < 40)) true (by kernel_rfl) (dF c40) (by kernel_rfl) ?_
          refine R.pick (decide (((l_34.getD 0 []).length : Int) < 40)) false (by kernel_rfl) (dF c40) (by kernel_rfl) ?_
          exact R.go 12 (R.retX (res := .tup [.agg [AI n_27, LI xs_28], LLN l_34, LN a_29]) (hp' := [.dead, .box 26 [AI n_27, LI xs_28], .frame [] [], .box 106 [LB c, AI (p1_35 : Int), .int .u64 h1_36], .box 26 [AI n_27, LI xs_28]]) (by kernel_rfl) (by kernel_rfl) (by kernel_rfl) (by kernel_rfl) ⟨[], by kernel_rfl, by decide, n_27, xs_28, l_34, a_29, by first | assumption | omega | (simp only [List.length_cons]; omega), by first | assumption | omega | (simp only [List.length_cons]; omega), by first | assumption | omega | (simp only [List.length_cons]; omega), by kernel_rfl, by kernel_rfl⟩)
      · refine R.skp (isF (l_34.getD 0 [])) true (by kernel_rfl) c39 (by kernel_rfl) ?_
        refine R.skp (isF (l_34.getD 0 [])) true (by kernel_rfl) c39 (by kernel_rfl) ?_
        refine R.skp (isF (l_34.getD 0 [])) true (by kernel_rfl) c39 (by kernel_rfl) ?_
        refine R.skp (isF (l_34.getD 0 [])) true (by kernel_rfl) c39 (by kernel_rfl) ?_
        refine R.skp (isF (l_34.getD 0 [])) true (by kernel_rfl) c39 (by kernel_rfl) ?_
        refine R.pick (isF (l_34.getD 0 [])) false (by kernel_rfl) c39 (by kernel_rfl) ?_
        exact R.go 17 (R.retX (res := .tup [.agg [AI n_27, LI xs_28], LLN l_34, LN a_29]) (hp' := [.dead, .box 26 [AI n_27, LI xs_28], .frame [] [], .box 106 [LB c, AI (p1_35 : Int), .int .u64 h1_36], .box 26 [AI n_27, LI xs_28]]) (by kernel_rfl) (by kernel_rfl) (by kernel_rfl) (by kernel_rfl) ⟨[], by kernel_rfl, by decide, n_27, xs_28, l_34, a_29, by first | assumption | omega | (simp only [List.length_cons]; omega), by first | assumption | omega | (simp only [List.length_cons]; omega), by first | assumption | omega | (simp only [List.length_cons]; omega), by kernel_rfl, by kernel_rfl⟩)
    · refine R.skp (decide ((l_34.length : Int) > 0)) true (by kernel_rfl) (dF c38) (by kernel_rfl) ?_
      refine R.skp (decide ((l_34.length : Int) > 0)) true (by kernel_rfl) (dF c38) (by kernel_rfl) ?_
      refine R.skp (decide ((l_34.length : Int) > 0)) true (by kernel_rfl) (dF c38) (by kernel_rfl) ?_
      refine R.skp (decide ((l_34.length : Int) > 0)) true (by kernel_rfl) (dF c38) (by kernel_rfl) ?_
      refine R.pick (decide ((l_34.length : Int) > 0)) false (by kernel_rfl) (dF c38) (by kernel_rfl) ?_
      exact R.go 24 (R.retX (res := .tup [.agg [AI n_27, LI xs_28], LLN l_34, LN a_29]) (hp' := [.dead, .box 26 [AI n_27, LI xs_28], .frame [] [], .box 106 [LB c, AI (p1_35 : Int), .int .u64 h1_36], .box 26 [AI n_27, LI xs_28]]) (by kernel_rfl) (by kernel_rfl) (by kernel_rfl) (by kernel_rfl) ⟨[], by kernel_rfl, by decide, n_27, xs_28, l_34, a_29, by first | assumption | omega | (simp only [List.length_cons]; omega), by first | assumption | omega | (simp only [List.length_cons]; omega), by first | assumption | omega | (simp only [List.length_cons]; omega), by kernel_rfl, by kernel_rfl⟩)

end Go.Proofs.Ytejaikeemahobaa


/-! Local and global consequence; the law FnConsequences. -/
namespace Go.Proofs.Ytejaikeemahobaa
open Go.RowKit Go.Abs

theorem fstN_none {p : Nat → Bool} {t : Nat} : (fstN p t).isNone = true ↔ ∀ M, M < t → p M = false := by
  unfold fstN
  rw [Option.isNone_iff_eq_none, List.find?_eq_none]
  simp only [List.mem_range, Bool.not_eq_true]
theorem bad_GL {n : Int} {xs vs : List Int} {l : List (List (Int × Int))} {a : List (Int × Int)} {N : Nat} (hR : okFr n xs = true) (ha : OKM 6 a) (hN : N ≤ 65536) (h : badC false n xs vs l a N = false) : badC true n xs vs l a N = false := by
  by_cases hp : pmT n xs (vrow n vs (N : Int)) l l.length = (shl64 1 n) - 1
  · rw [badC_ok hR ha hN rfl (fun h => h.2 hp)]
    rwa [badC_ok hR ha hN rfl (by simp)] at h
  · exact badC_go rfl rfl rfl hp
theorem cs_parts {gl : Bool} {n : Int} {xs : List Int} {l : List (List (Int × Int))} {a : List (Int × Int)} : csB gl n xs l a = true ↔ scode n xs (l ++ [a]) = 0 ∧ ∀ N, N < totN n (mem (vmT (l ++ [a]) (l ++ [a]).length)) → badC gl n xs (mem (vmT (l ++ [a]) (l ++ [a]).length)) l a N = false := by
  rw [csB, Bool.and_eq_true, decide_eq_true_eq, fstN_none]
theorem sc_facts {n : Int} {xs : List Int} {l : List (List (Int × Int))} {a : List (Int × Int)} (h : scode n xs (l ++ [a]) = 0) : okFr n xs = true ∧ (∀ j : Nat, j < l.length → isF (l.getD j []) = true) ∧ isF a = true ∧ totN n (mem (vmT (l ++ [a]) (l ++ [a]).length)) ≤ 65536 := by
  obtain ⟨h1, h2, h3⟩ := scode_ok h
  obtain ⟨h4, h5⟩ := allF_app h2
  have hb := okFr_rel h1
  have := totN_le (n := n) (vs := mem (vmT (l ++ [a]) (l ++ [a]).length)) ⟨Int.mul_nonneg hb.1 (by omega), h3⟩
  exact ⟨h1, h4, h5, by omega⟩
theorem csB_GL {n : Int} {xs : List Int} {l : List (List (Int × Int))} {a : List (Int × Int)} (h : csB false n xs l a = true) : csB true n xs l a = true := by
  obtain ⟨h1, h2⟩ := cs_parts.1 h
  obtain ⟨f1, _, f3, f4⟩ := sc_facts h1
  exact cs_parts.2 ⟨h1, fun N hN => bad_GL f1 (isF_okm f3).1 (by omega) (h2 N hN)⟩
theorem csB_nil {n : Int} {xs : List Int} {l : List (List (Int × Int))} {a : List (Int × Int)} (h0 : l.length = 0) : (csB false n xs l a == csB true n xs l a) = true := by
  have h0 : l = [] := List.eq_nil_of_length_eq_zero h0
  subst h0
  rw [beq_iff_eq, Bool.eq_iff_iff]
  refine ⟨csB_GL, fun h => ?_⟩
  obtain ⟨h1, h2⟩ := cs_parts.1 h
  obtain ⟨f1, _, f3, f4⟩ := sc_facts h1
  refine cs_parts.2 ⟨h1, fun N hN => ?_⟩
  have := h2 N hN
  rw [badC_ok f1 (isF_okm f3).1 (by omega) rfl (fun h => h.2 rfl)] at this
  rwa [badC_ok f1 (isF_okm f3).1 (by omega) rfl (by simp)]

/-! The box of a premise. -/
def pfC (a : List (Int × Int)) : Int := if isF a = true then (if a.length + 1 > 40 then 3 else 0) else 1
def pfR (a : List (Int × Int)) : List (Int × Int) := if pfC a = 0 then (5, 0) :: a else []
theorem isF_box {a : List (Int × Int)} (h : isF a = true) (hl : a.length ≤ 39) : isF ((5, 0) :: a) = true := by
  refine isF_mk (okm_mk1 (.inl rfl) (isF_okm h).1) (by simp; omega) ?_
  rw [List.all_cons, okN_all h]
  rfl
theorem pfC_ok {a : List (Int × Int)} (h : pfC a = 0) : isF a = true ∧ a.length ≤ 39 ∧ pfR a = (5, 0) :: a := by
  refine ⟨?_, ?_, if_pos h⟩ <;> unfold pfC at h <;> split at h <;> first | assumption | omega | (split at h <;> omega)
theorem vmTo_tail {x : Int × Int} {b : List (Int × Int)} (hx : ¬ x.1 = 0) : ∀ i, vmTo (x :: b) (i + 1) = vmTo b i
  | 0 => by
    show (if ((x :: b).getD 0 (0, 0)).1 = 0 then bor (vmTo (x :: b) 0) (shl64 1 ((x :: b).getD 0 (0, 0)).2) else vmTo (x :: b) 0) = _
    rw [if_neg (by simpa using hx)]
    rfl
  | i + 1 => by
    rw [vmTo, vmTo_tail hx i]
    conv => rhs; rw [vmTo]
    simp only [List.getD_cons_succ]
theorem vmT_app {l m : List (List (Int × Int))} : ∀ i, i ≤ l.length → vmT (l ++ m) i = vmT l i
  | 0, _ => rfl
  | i + 1, hi => by
    rw [vmT, vmT, vmT_app i (by omega)]
    rw [List.getD_eq_getElem?_getD, List.getElem?_append_left (by omega), ← List.getD_eq_getElem?_getD]
theorem vmT_snoc (l : List (List (Int × Int))) (a : List (Int × Int)) : vmT (l ++ [a]) (l ++ [a]).length = bor (vmT l l.length) (vmTo a a.length) := by
  rw [List.length_append, List.length_singleton, vmT, vmT_app _ (Nat.le_refl _)]
  rw [List.getD_eq_getElem?_getD, List.getElem?_append_right (Nat.le_refl _)]
  simp
theorem vmTo6 {a : List (Int × Int)} (h : isF a = true) : InM 6 (vmTo a a.length) := vm63 (by
  have := okN_all h
  rw [Bool.eq_false_iff]
  intro hb
  rw [List.any_eq_true] at hb
  obtain ⟨x, hx, hb⟩ := hb
  have := List.all_eq_true.1 this x hx
  simp [badN, this] at hb)
theorem vmT6 {l : List (List (Int × Int))} (h : allF l = true) {i : Nat} (hi : i ≤ l.length) : InM 6 (vmT l i) := inM6 (vmT_rng h i hi).1 (vmT_rng h i hi).2
theorem vmT_sub {l : List (List (Int × Int))} (h : allF l = true) {j : Nat} : ∀ i, i ≤ l.length → j < i → ∀ k, tb (vmTo (l.getD j []) (l.getD j []).length) k = true → tb (vmT l i) k = true
  | 0, _, hj, _, _ => by omega
  | i + 1, hi, hj, k, hk => by
    rw [vmT, tb_bor (n := 6) (by omega) (vmT6 h (by omega)) (vmTo6 (allF_get h i (by omega))), Bool.or_eq_true]
    by_cases e : j = i
    · subst e; exact .inr hk
    · exact .inl (vmT_sub h i (by omega) (by omega) k hk)
theorem memN_mono {m m' : Int} (h : ∀ k, tb m k = true → tb m' k = true) : ∀ i, (memN m i).length ≤ (memN m' i).length
  | 0 => by simp [memN]
  | i + 1 => by
    have ih := memN_mono h i
    by_cases e : tb m i = true
    · rw [memN_yes e, memN_yes (h i e)]; simp; omega
    · rw [memN_no e]
      by_cases e2 : tb m' i = true
      · rw [memN_yes e2]; simp; omega
      · rw [memN_no e2]; exact ih
theorem allF_snoc {l : List (List (Int × Int))} {a : List (Int × Int)} (h : ∀ j : Nat, j < l.length → isF (l.getD j []) = true) (ha : isF a = true) : allF (l ++ [a]) = true := by
  refine allF_all fun j hj => ?_
  by_cases e : j < l.length
  · rw [List.getD_eq_getElem?_getD, List.getElem?_append_left e, ← List.getD_eq_getElem?_getD]; exact h j e
  · have : j = l.length := by simp at hj; omega
    subst this
    rw [List.getD_eq_getElem?_getD, List.getElem?_append_right (Nat.le_refl _)]
    simpa using ha
theorem scode_pf {n : Int} {xs : List Int} {l : List (List (Int × Int))} {a : List (Int × Int)} (h : scode n xs (l ++ [a]) = 0) (hl : 0 < l.length) (h39 : (l.getD 0 []).length ≤ 39) : scode n xs (l ++ [(5, 0) :: l.getD 0 []]) = 0 := by
  obtain ⟨h1, h2, h3⟩ := scode_ok h
  obtain ⟨h4, h5⟩ := allF_app h2
  have hb := okFr_rel h1
  have hF0 := h4 0 hl
  have hFp := isF_box hF0 h39
  have hFl : allF l = true := allF_all h4
  have hFs := allF_snoc h4 hFp
  refine (scode_4 h1 hFs ?_).symm
  have e : bor (vmT l l.length) (vmTo ((5, 0) :: l.getD 0 []) ((5, 0) :: l.getD 0 []).length) = vmT l l.length := by
    have i1 := vmT6 hFl (Nat.le_refl l.length)
    have i2 := vmTo6 hFp
    refine tb_ext (inM_bor (by omega) i1 i2).1 i1.1 fun k => ?_
    rw [tb_bor (n := 6) (by omega) i1 i2, List.length_cons, vmTo_tail (by decide)]
    cases e : tb (vmTo (l.getD 0 []) (l.getD 0 []).length) k with
    | false => simp
    | true => simp [vmT_sub hFl l.length (Nat.le_refl _) hl k e]
  rw [vmT_snoc, e]
  have hmono : (mem (vmT l l.length)).length ≤ (mem (vmT (l ++ [a]) (l ++ [a]).length)).length := by
    refine memN_mono (fun k hk => ?_) 62
    rw [vmT_snoc, tb_bor (n := 6) (by omega) (vmT6 hFl (Nat.le_refl _)) (vmTo6 h5), hk]
    rfl
  have := Int.mul_le_mul_of_nonneg_left (Int.ofNat_le.2 hmono) hb.1
  omega
theorem pmT_in {n : Int} {xs X : List Int} {l : List (List (Int × Int))} (hR : okFr n xs = true) (hX : ∀ j : Nat, j < 6 → InM n.toNat (X.getD j 0)) (hF : ∀ j : Nat, j < l.length → isF (l.getD j []) = true) : ∀ i, i ≤ l.length → InM n.toNat (pmT n xs X l i)
  | 0, _ => by
    obtain ⟨h0, h8, _, _⟩ := okFr_rel hR
    have := inM_full (n := n.toNat) (by omega)
    rwa [nn_eq h0] at this
  | i + 1, hi => inM_band (by have := okFr_rel hR; omega) (pmT_in hR hX hF i (by omega)) (tset_in hR (isF_okm (hF i (by omega))).1 hX)
theorem pmT_all {n : Int} {xs X : List Int} {l : List (List (Int × Int))} (hR : okFr n xs = true) (hX : ∀ j : Nat, j < 6 → InM n.toNat (X.getD j 0)) (hF : ∀ j : Nat, j < l.length → isF (l.getD j []) = true) {w : Nat} : ∀ i, i ≤ l.length → tb (pmT n xs X l i) w = true → ∀ j, j < i → tr n xs X (l.getD j []) w = true
  | 0, _, _, j, hj => by omega
  | i + 1, hi, h, j, hj => by
    rw [pmT, tb_band (n := n.toNat) (by have := okFr_rel hR; omega) (pmT_in hR hX hF i (by omega)) (tset_in hR (isF_okm (hF i (by omega))).1 hX), Bool.and_eq_true] at h
    by_cases e : j = i
    · subst e; exact h.2
    · exact pmT_all hR hX hF i (by omega) h.1 j (by omega)
theorem csB_pf {n : Int} {xs : List Int} {l : List (List (Int × Int))} {a : List (Int × Int)} (h : scode n xs (l ++ [a]) = 0) (hl : 0 < l.length) (h39 : (l.getD 0 []).length ≤ 39) : csB true n xs l ((5, 0) :: l.getD 0 []) = true := by
  have hs := scode_pf h hl h39
  obtain ⟨f1, f2, f3, f4⟩ := sc_facts hs
  obtain ⟨h0, h8, hxl, hrr⟩ := okFr_rel f1
  refine cs_parts.2 ⟨hs, fun N hN => ?_⟩
  have hX := fun j hj => vrow_in (n := n) (vs := mem (vmT (l ++ [(5, 0) :: l.getD 0 []]) (l ++ [(5, 0) :: l.getD 0 []]).length)) (N := N) h0 h8 (by omega) j hj
  by_cases hp : pmT n xs (vrow n (mem (vmT (l ++ [(5, 0) :: l.getD 0 []]) (l ++ [(5, 0) :: l.getD 0 []]).length)) (N : Int)) l l.length = (shl64 1 n) - 1
  · rw [badC_ok f1 (isF_okm f3).1 (by omega) rfl (fun h => h.2 hp), hp]
    have ht := tset_in f1 (isF_okm f3).1 hX
    have hb0 := isF_okm (f2 0 hl)
    rw [decide_eq_true ((bnotF f1 ht).2 ((full_iff h0 h8 ht).2 fun w hw => ?_))]
    · rfl
    · refine (tr_box f1 hX hb0.1 hw).2 fun j hj => ?_
      have hjn : j < n.toNat := tb_lt (hrr.2 w hw) hj
      exact pmT_all f1 hX f2 l.length (Nat.le_refl _) ((full_iff h0 h8 (pmT_in f1 hX f2 _ (Nat.le_refl _))).1 hp j hjn) 0 hl
  · exact badC_go rfl rfl rfl hp
theorem pf_three {n : Int} {xs : List Int} {l : List (List (Int × Int))} {a : List (Int × Int)} (h : scode n xs (l ++ [a]) = 0) (hl : ¬ l.length = 0) (hp : ¬ pfC (l.getD 0 []) = 0) : pfC (l.getD 0 []) = 3 := by
  have := (sc_facts h).2.1 0 (by omega)
  unfold pfC at hp ⊢
  rw [if_pos this] at hp ⊢
  split at hp
  · rw [if_pos (by assumption)]
  · exact absurd rfl hp
theorem tupNI {s : Nat} {a c : List (Int × Int)} {b d : Int} (h : a = c) (h' : b = d) : AV.tup [ownA eN s 2 a, AI b] = AV.tup [ownA eN s 2 c, AI d] := by rw [h, h']
theorem neg_of {b : Bool} (h : false = b) : (!b) = true := by subst h; rfl

theorem big_c (c : List Int) : CallA Try.prog 8 [LB c] (.bool (decide ((c.length : Int) > 4096))) := by
  refine CallA.of Try.func8 rfl (by kernel_rfl) ?_
  exact R.go 11 (R.retE (.bool (decide ((c.length : Int) > 4096))) (by kernel_rfl) (by kernel_rfl) (by rfl))

theorem prefix_c (k : Int) (a : List (Int × Int)) (ha : a.length ≤ 1000000) : CallA Try.prog 55 [AI k, LN a] (ownA eN 89 2 ((k, 0) :: a)) := by
  refine CallA.of Try.func55 rfl (by kernel_rfl) ?_
  refine R.go 10 (R.frz 0 (by kernel_rfl) ?_)
  refine R.lit (s := 1) (n := 2) (cs := rows eLN [[(k, 0)], a]) (by kernel_rfl) (by kernel_rfl) ?_
  refine R.call true (concatN_c [[(k, 0)], a] (by simp [lenTo] <;> omega) (by simp [lenTo] <;> omega) (by simp)) (by kernel_rfl) rfl (by kernel_rfl) ?_
  exact R.go 2 (R.retE (ownA eN 89 2 (joinTo [[(k, 0)], a] [[(k, 0)], a].length)) (by kernel_rfl) (by kernel_rfl) (by first | (simp [joinTo]) | (exfalso; omega)))

theorem PF_impl (a : List (Int × Int)) (ha : a.length ≤ 1000000) : CallA Try.prog 13 [AI 5, LN a] (.tup [ownA eN 89 2 (pfR a), AI (pfC a)]) := by
  have hp5 : (partsN 5 : Int) = 1 := by decide
  refine CallA.of Try.func13 rfl (by kernel_rfl) ?_
  refine R.go 10 (R.call true (isFormula_c a (by first | omega | (simp <;> omega))) (by kernel_rfl) rfl (by kernel_rfl) ?_)
  refine R.go 3 (R.condM (isF a) (by kernel_rfl) (fun c1 => ?_) (fun c1 => ?_))
  · refine R.go 5 (R.nil 4 89 2 (by kernel_rfl) ?_)
    exact R.retE (.tup [ownA eN 89 2 [], AI 1]) (by kernel_rfl) (by kernel_rfl) (by first | (refine tupNI ?_ ?_ <;> first | (simp [pfR, pfC, *]; done) | (simp [pfR, pfC, *] at *; omega)) | (exfalso; omega))
  · refine R.go 3 (R.call true (partsOf_c 5) (by kernel_rfl) rfl (by kernel_rfl) ?_)
    refine R.go 3 (R.els (!decide ((partsN 5 : Int) = 1)) (by kernel_rfl) (nF hp5) ?_)
    refine R.go 6 (R.call true (prefix_c 5 a ha) (by kernel_rfl) rfl (by kernel_rfl) ?_)
    refine R.enter (avs := [.ref 0]) Try.func54 rfl (by kernel_rfl) (by kernel_rfl) (by kernel_rfl) ?_
    intro us2
    refine R.go 12 (R.cond ((((5, 0) :: a).length : Int) > 40) (by kernel_rfl) (fun c3 => ?_) (fun c3 => ?_))
    · refine R.go 5 (R.back (.tup [.nil, AI 3]) (frm 20 [(0, AI 5), (1, LN a), (4, .nil), (5, AI 0), (6, .bool (!(isF a))), (7, LN a), (8, .bool (isF a)), (9, .bool (!(isF a))), (10, .bool (!decide ((partsN 5 : Int) = 1))), (11, AI 5), (12, AI (partsN 5 : Int)), (13, .bool (!decide ((partsN 5 : Int) = 1))), (14, AI 5), (15, LN a), (16, .ref 0)]) (by kernel_rfl) (by kernel_rfl) (by kernel_rfl) ?_)
      refine R.go 5 (R.nil 4 89 2 (by kernel_rfl) ?_)
      exact R.retE (.tup [ownA eN 89 2 [], AI 3]) (by kernel_rfl) (by kernel_rfl) (by first | (refine tupNI ?_ ?_ <;> first | (simp [pfR, pfC, *]; done) | (simp [pfR, pfC, *] at *; omega)) | (exfalso; omega))
    · refine R.go 7 (R.back (.tup [.ref 0, AI 0]) (frm 20 [(0, AI 5), (1, LN a), (4, .nil), (5, AI 0), (6, .bool (!(isF a))), (7, LN a), (8, .bool (isF a)), (9, .bool (!(isF a))), (10, .bool (!decide ((partsN 5 : Int) = 1))), (11, AI 5), (12, AI (partsN 5 : Int)), (13, .bool (!decide ((partsN 5 : Int) = 1))), (14, AI 5), (15, LN a), (16, .ref 0)]) (by kernel_rfl) (by kernel_rfl) (by kernel_rfl) ?_)
      exact R.go 5 (R.retE (.tup [ownA eN 89 2 ((5, 0) :: a), AI 0]) (by kernel_rfl) (by kernel_rfl) (by first | (refine tupNI ?_ ?_ <;> first | (simp [pfR, pfC, *]; done) | (simp [pfR, pfC, *] at *; omega)) | (exfalso; omega)))

end Go.Proofs.Ytejaikeemahobaa


/-! The law FnConsequences. -/
namespace Go.Proofs.Ytejaikeemahobaa
open Go.RowKit Go.Abs

theorem lawCons_c (c : List Int) (hcb : ∀ q : Nat, q < c.length → 0 ≤ c.getD q 0 ∧ c.getD q 0 ≤ 255) : CallA Try.prog 3 [LB c] (.bool true) := by
  refine CallA.of Try.func3 rfl (by kernel_rfl) ?_
  refine R.go 8 (R.call true (big_c c) (by kernel_rfl) rfl (by kernel_rfl) ?_)
  refine R.go 1 (R.cond ((c.length : Int) > 4096) (by kernel_rfl) (fun c1 => ?_) (fun c1 => ?_))
  · exact R.go 4 (R.retE (.bool true) (by kernel_rfl) (by kernel_rfl) (by rfl))
  · have hc : BY c := ⟨by omega, hcb⟩
    refine R.go 4 (R.callX (drGlobal_c c hc) (by kernel_rfl) (by kernel_rfl) (by kernel_rfl) ?_)
    rintro _ _ ⟨n_2, xs_3, l_4, a_5, f6, f7, f8, rfl, rfl⟩
    have hll := (by assumption : l_4.length ≤ 1000 ∧ ∀ j : Nat, (l_4.getD j []).length ≤ 1000)
    have hlim : lim l_4 := ⟨by omega, fun j _ => by have := hll.2 j; omega⟩
    have hl0 : (l_4.getD 0 []).length ≤ 1000 := hll.2 0
    refine R.go 14 (R.call true (implGlobal_c n_2 xs_3 l_4 a_5 (by first | omega | (simp <;> omega)) hlim (by first | omega | (simp <;> omega))) (by kernel_rfl) rfl (by kernel_rfl) ?_)
    refine R.go 11 (R.call true (specGlobal_c n_2 xs_3 l_4 a_5 (by first | omega | (simp <;> omega)) hlim (by first | omega | (simp <;> omega))) (by kernel_rfl) rfl (by kernel_rfl) ?_)
    refine R.go 13 (R.want (!decide ((scode n_2 xs_3 (l_4 ++ [a_5])) = (scode n_2 xs_3 (l_4 ++ [a_5])))) false (by kernel_rfl) (nF rfl) ?_)
    refine R.go 1 (R.want (!decide ((scode n_2 xs_3 (l_4 ++ [a_5])) = (scode n_2 xs_3 (l_4 ++ [a_5])))) false (by kernel_rfl) (nF rfl) ?_)
    refine R.go 1 (R.want (!decide ((scode n_2 xs_3 (l_4 ++ [a_5])) = (scode n_2 xs_3 (l_4 ++ [a_5])))) false (by kernel_rfl) (nF rfl) ?_)
    refine R.go 1 (R.pick (!decide ((scode n_2 xs_3 (l_4 ++ [a_5])) = (scode n_2 xs_3 (l_4 ++ [a_5])))) false (by kernel_rfl) (nF rfl) (by kernel_rfl) ?_)
    refine R.go 1 (R.els (!((csB true n_2 xs_3 l_4 a_5) == (csB true n_2 xs_3 l_4 a_5))) (by kernel_rfl) (bnF (beq_self_eq_true _)) ?_)
    refine R.go 7 (R.condN ((scode n_2 xs_3 (l_4 ++ [a_5])) = 0) (by kernel_rfl) (fun c9 => ?_) (fun c9 => ?_))
    · exact R.go 6 (R.retE (.bool (!(csB true n_2 xs_3 l_4 a_5))) (by kernel_rfl) (by kernel_rfl) (by first | (first | rfl | exact congrArg AV.bool hcp | (exfalso; exact absurd hcs (by assumption)) | exact congrArg AV.bool (neg_of (csB_bad (by assumption))) | (exfalso; have hgl := csB_GL (by assumption); simp_all; done) | exact congrArg AV.bool (csB_nil (by omega)) | exact congrArg AV.bool (decide_eq_true (pf_three hsc hlne (by assumption)))) | (exfalso; omega)))
    · refine R.go 6 (R.call true (implLocal_c n_2 xs_3 l_4 a_5 (by first | omega | (simp <;> omega)) hlim (by first | omega | (simp <;> omega))) (by kernel_rfl) rfl (by kernel_rfl) ?_)
      refine R.go 12 (R.want (!decide ((scode n_2 xs_3 (l_4 ++ [a_5])) = 0)) false (by kernel_rfl) (nF c9) ?_)
      refine R.go 1 (R.want (!decide ((scode n_2 xs_3 (l_4 ++ [a_5])) = 0)) false (by kernel_rfl) (nF c9) ?_)
      refine R.go 1 ?_
      refine (Bool.eq_false_or_eq_true (csB false n_2 xs_3 l_4 a_5)).elim (fun c10 => ?_) (fun c10 => ?_)
      · refine R.want (csB false n_2 xs_3 l_4 a_5) true (by kernel_rfl) c10 ?_
        refine R.go 1 (R.want (csB false n_2 xs_3 l_4 a_5) true (by kernel_rfl) c10 ?_)
        refine R.go 1 (R.want (!decide ((scode n_2 xs_3 (l_4 ++ [a_5])) = 0)) false (by kernel_rfl) (nF c9) ?_)
        refine R.pick (csB false n_2 xs_3 l_4 a_5) true (by kernel_rfl) c10 (by kernel_rfl) ?_
        refine R.pick (!decide ((scode n_2 xs_3 (l_4 ++ [a_5])) = 0)) false (by kernel_rfl) (nF c9) (by kernel_rfl) ?_
        refine R.go 1 (R.condM (csB true n_2 xs_3 l_4 a_5) (by kernel_rfl) (fun c11 => ?_) (fun c11 => ?_))
        · exact R.go 4 (R.retE (.bool false) (by kernel_rfl) (by kernel_rfl) (by first | (first | rfl | exact congrArg AV.bool hcp | (exfalso; exact absurd hcs (by assumption)) | exact congrArg AV.bool (neg_of (csB_bad (by assumption))) | (exfalso; have hgl := csB_GL (by assumption); simp_all; done) | exact congrArg AV.bool (csB_nil (by omega)) | exact congrArg AV.bool (decide_eq_true (pf_three hsc hlne (by assumption)))) | (exfalso; omega)))
        · refine R.go 8 (R.cond ((l_4.length : Int) = 0) (by kernel_rfl) (fun c12 => ?_) (fun c12 => ?_))
          · exact R.go 7 (R.retE (.bool ((csB false n_2 xs_3 l_4 a_5) == (csB true n_2 xs_3 l_4 a_5))) (by kernel_rfl) (by kernel_rfl) (by first | (first | rfl | exact congrArg AV.bool hcp | (exfalso; exact absurd hcs (by assumption)) | exact congrArg AV.bool (neg_of (csB_bad (by assumption))) | (exfalso; have hgl := csB_GL (by assumption); simp_all; done) | exact congrArg AV.bool (csB_nil (by omega)) | exact congrArg AV.bool (decide_eq_true (pf_three hsc hlne (by assumption)))) | (exfalso; omega)))
          · refine R.go 4 (R.idx eLN l_4 [] 0 0 (by kernel_rfl) rfl eLN_len (by omega) (by kernel_rfl) ?_)
            refine R.go 1 (R.call true (PF_impl (l_4.getD 0 []) (by first | omega | (simp <;> omega))).frz (by kernel_rfl) rfl (by kernel_rfl) ?_)
            have hsc : scode n_2 xs_3 (l_4 ++ [a_5]) = 0 := by first | assumption | omega
            have hlne : ¬ l_4.length = 0 := by omega
            refine R.go 12 (R.condN ((pfC (l_4.getD 0 [])) = 0) (by kernel_rfl) (fun c13 => ?_) (fun c13 => ?_))
            · exact R.go 6 (R.retE (.bool (decide ((pfC (l_4.getD 0 [])) = 3))) (by kernel_rfl) (by kernel_rfl) (by first | (first | rfl | exact congrArg AV.bool hcp | (exfalso; exact absurd hcs (by assumption)) | exact congrArg AV.bool (neg_of (csB_bad (by assumption))) | (exfalso; have hgl := csB_GL (by assumption); simp_all; done) | exact congrArg AV.bool (csB_nil (by omega)) | exact congrArg AV.bool (decide_eq_true (pf_three hsc hlne (by assumption)))) | (exfalso; omega)))
            · have hpc := pfC_ok (by first | assumption | omega : pfC (l_4.getD 0 []) = 0)
              have hpl : (pfR (l_4.getD 0 [])).length ≤ 1048576 := by rw [hpc.2.2]; simp only [List.length_cons]; omega
              have hcp : csB true n_2 xs_3 l_4 (pfR (l_4.getD 0 [])) = true := by rw [hpc.2.2]; exact csB_pf hsc (by omega) hpc.2.1
              have hcs : scode n_2 xs_3 (l_4 ++ [pfR (l_4.getD 0 [])]) = 0 := by rw [hpc.2.2]; exact scode_pf hsc (by omega) hpc.2.1
              refine R.go 6 (R.call true (implGlobal_c n_2 xs_3 l_4 (pfR (l_4.getD 0 [])) (by first | omega | (simp <;> omega)) hlim hpl) (by kernel_rfl) rfl (by kernel_rfl) ?_)
              refine R.go 11 ?_
              by_cases c14 : (scode n_2 xs_3 (l_4 ++ [(pfR (l_4.getD 0 []))])) = 0
              · refine R.want (decide ((scode n_2 xs_3 (l_4 ++ [(pfR (l_4.getD 0 []))])) = 0)) true (by kernel_rfl) (dT c14) ?_
                refine R.go 1 (R.pick (decide ((scode n_2 xs_3 (l_4 ++ [(pfR (l_4.getD 0 []))])) = 0)) true (by kernel_rfl) (dT c14) (by kernel_rfl) ?_)
                exact R.go 2 (R.retE (.bool (csB true n_2 xs_3 l_4 (pfR (l_4.getD 0 [])))) (by kernel_rfl) (by kernel_rfl) (by first | (first | rfl | exact congrArg AV.bool hcp | (exfalso; exact absurd hcs (by assumption)) | exact congrArg AV.bool (neg_of (csB_bad (by assumption))) | (exfalso; have hgl := csB_GL (by assumption); simp_all; done) | exact congrArg AV.bool (csB_nil (by omega)) | exact congrArg AV.bool (decide_eq_true (pf_three hsc hlne (by assumption)))) | (exfalso; omega)))
              · refine R.skp (decide ((scode n_2 xs_3 (l_4 ++ [(pfR (l_4.getD 0 []))])) = 0)) true (by kernel_rfl) (dF c14) (by kernel_rfl) ?_
                refine R.pick (decide ((scode n_2 xs_3 (l_4 ++ [(pfR (l_4.getD 0 []))])) = 0)) false (by kernel_rfl) (dF c14) (by kernel_rfl) ?_
                exact R.go 2 (R.retE (.bool false) (by kernel_rfl) (by kernel_rfl) (by first | (first | rfl | exact congrArg AV.bool hcp | (exfalso; exact absurd hcs (by assumption)) | exact congrArg AV.bool (neg_of (csB_bad (by assumption))) | (exfalso; have hgl := csB_GL (by assumption); simp_all; done) | exact congrArg AV.bool (csB_nil (by omega)) | exact congrArg AV.bool (decide_eq_true (pf_three hsc hlne (by assumption)))) | (exfalso; omega)))
      · refine R.skp (csB false n_2 xs_3 l_4 a_5) true (by kernel_rfl) c10 (by kernel_rfl) ?_
        refine R.skp (csB false n_2 xs_3 l_4 a_5) true (by kernel_rfl) c10 (by kernel_rfl) ?_
        refine R.want (!decide ((scode n_2 xs_3 (l_4 ++ [a_5])) = 0)) false (by kernel_rfl) (nF c9) ?_
        refine R.pick (csB false n_2 xs_3 l_4 a_5) false (by kernel_rfl) c10 (by kernel_rfl) ?_
        refine R.pick (!decide ((scode n_2 xs_3 (l_4 ++ [a_5])) = 0)) false (by kernel_rfl) (nF c9) (by kernel_rfl) ?_
        refine R.go 10 (R.cond ((l_4.length : Int) = 0) (by kernel_rfl) (fun c15 => ?_) (fun c15 => ?_))
        · exact R.go 7 (R.retE (.bool ((csB false n_2 xs_3 l_4 a_5) == (csB true n_2 xs_3 l_4 a_5))) (by kernel_rfl) (by kernel_rfl) (by first | (first | rfl | exact congrArg AV.bool hcp | (exfalso; exact absurd hcs (by assumption)) | exact congrArg AV.bool (neg_of (csB_bad (by assumption))) | (exfalso; have hgl := csB_GL (by assumption); simp_all; done) | exact congrArg AV.bool (csB_nil (by omega)) | exact congrArg AV.bool (decide_eq_true (pf_three hsc hlne (by assumption)))) | (exfalso; omega)))
        · refine R.go 4 (R.idx eLN l_4 [] 0 0 (by kernel_rfl) rfl eLN_len (by omega) (by kernel_rfl) ?_)
          refine R.go 1 (R.call true (PF_impl (l_4.getD 0 []) (by first | omega | (simp <;> omega))).frz (by kernel_rfl) rfl (by kernel_rfl) ?_)
          have hsc : scode n_2 xs_3 (l_4 ++ [a_5]) = 0 := by first | assumption | omega
          have hlne : ¬ l_4.length = 0 := by omega
          refine R.go 12 (R.condN ((pfC (l_4.getD 0 [])) = 0) (by kernel_rfl) (fun c16 => ?_) (fun c16 => ?_))
          · exact R.go 6 (R.retE (.bool (decide ((pfC (l_4.getD 0 [])) = 3))) (by kernel_rfl) (by kernel_rfl) (by first | (first | rfl | exact congrArg AV.bool hcp | (exfalso; exact absurd hcs (by assumption)) | exact congrArg AV.bool (neg_of (csB_bad (by assumption))) | (exfalso; have hgl := csB_GL (by assumption); simp_all; done) | exact congrArg AV.bool (csB_nil (by omega)) | exact congrArg AV.bool (decide_eq_true (pf_three hsc hlne (by assumption)))) | (exfalso; omega)))
          · have hpc := pfC_ok (by first | assumption | omega : pfC (l_4.getD 0 []) = 0)
            have hpl : (pfR (l_4.getD 0 [])).length ≤ 1048576 := by rw [hpc.2.2]; simp only [List.length_cons]; omega
            have hcp : csB true n_2 xs_3 l_4 (pfR (l_4.getD 0 [])) = true := by rw [hpc.2.2]; exact csB_pf hsc (by omega) hpc.2.1
            have hcs : scode n_2 xs_3 (l_4 ++ [pfR (l_4.getD 0 [])]) = 0 := by rw [hpc.2.2]; exact scode_pf hsc (by omega) hpc.2.1
            refine R.go 6 (R.call true (implGlobal_c n_2 xs_3 l_4 (pfR (l_4.getD 0 [])) (by first | omega | (simp <;> omega)) hlim hpl) (by kernel_rfl) rfl (by kernel_rfl) ?_)
            refine R.go 11 ?_
            by_cases c17 : (scode n_2 xs_3 (l_4 ++ [(pfR (l_4.getD 0 []))])) = 0
            · refine R.want (decide ((scode n_2 xs_3 (l_4 ++ [(pfR (l_4.getD 0 []))])) = 0)) true (by kernel_rfl) (dT c17) ?_
              refine R.go 1 (R.pick (decide ((scode n_2 xs_3 (l_4 ++ [(pfR (l_4.getD 0 []))])) = 0)) true (by kernel_rfl) (dT c17) (by kernel_rfl) ?_)
              exact R.go 2 (R.retE (.bool (csB true n_2 xs_3 l_4 (pfR (l_4.getD 0 [])))) (by kernel_rfl) (by kernel_rfl) (by first | (first | rfl | exact congrArg AV.bool hcp | (exfalso; exact absurd hcs (by assumption)) | exact congrArg AV.bool (neg_of (csB_bad (by assumption))) | (exfalso; have hgl := csB_GL (by assumption); simp_all; done) | exact congrArg AV.bool (csB_nil (by omega)) | exact congrArg AV.bool (decide_eq_true (pf_three hsc hlne (by assumption)))) | (exfalso; omega)))
            · refine R.skp (decide ((scode n_2 xs_3 (l_4 ++ [(pfR (l_4.getD 0 []))])) = 0)) true (by kernel_rfl) (dF c17) (by kernel_rfl) ?_
              refine R.pick (decide ((scode n_2 xs_3 (l_4 ++ [(pfR (l_4.getD 0 []))])) = 0)) false (by kernel_rfl) (dF c17) (by kernel_rfl) ?_
              exact R.go 2 (R.retE (.bool false) (by kernel_rfl) (by kernel_rfl) (by first | (first | rfl | exact congrArg AV.bool hcp | (exfalso; exact absurd hcs (by assumption)) | exact congrArg AV.bool (neg_of (csB_bad (by assumption))) | (exfalso; have hgl := csB_GL (by assumption); simp_all; done) | exact congrArg AV.bool (csB_nil (by omega)) | exact congrArg AV.bool (decide_eq_true (pf_three hsc hlne (by assumption)))) | (exfalso; omega)))

end Go.Proofs.Ytejaikeemahobaa
