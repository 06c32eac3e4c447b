/- Texts of the proof: E04. -/
import Derived.Test.YtgebepfdphmjcaaPartI

/-! Draws of frames, second part. -/
namespace Go.Proofs.Ytgebepfdphmjcaa
open Go.RowKit Go.Abs

theorem frameX_c_r3 (c : List Int) (p : Nat) (h : Int) (worlds : Int) (eo1 : Nat) (so1 : Nat) (no1 : Nat) (co1 : List AV) (eo2 : Nat) (so2 : Nat) (no2 : Nat) (co2 : List AV) (eo3 : Nat) (so3 : Nat) (no3 : Nat) (co3 : List AV) (hc : BY c) (hw : 0 ≤ worlds ∧ worlds ≤ 20) : CallX Try.prog 54 [.ptr 0 0, AI worlds] [.box 112 [LB c, AI (p : Int), .int .u64 h], .list eo1 so1 no1 co1, .list eo2 so2 no2 co2, .list eo3 so3 no3 co3] (fun (resX : AV) (objX : List AObj) => ∃ n : Int, ∃ xs : List Int, ∃ p1 : Nat, ∃ h1 : Int, ((xs.length : Int) ≤ worlds + 1) ∧ resX = .agg [AI n, LI xs] ∧ objX = [.box 112 [LB c, AI (p1 : Int), .int .u64 h1], .list eo1 so1 no1 co1, .list eo2 so2 no2 co2, .list eo3 so3 no3 co3]) := by
  have hcl : c.length ≤ 4096 := hc.1
  have hcb := hc.2
  refine CallX.dropE (CallX.ofF Try.func54 rfl (by kernel_rfl) ?_)
  intro usC frC hfC
  refine R.go 8 (R.callX (CallX.inF 4 usC frC (CallX.box 4 26 [AI 0, .nil] (someO_c_r4 c p h worlds eo1 so1 no1 co1 eo2 so2 no2 co2 eo3 so3 no3 co3 26 2 1 [AI 0, .nil] hc hw) (by kernel_rfl) (by kernel_rfl) (by kernel_rfl) (by kernel_rfl) (by rintro _ _ ⟨_, _, _, _, _, _, rfl, rfl⟩; exact ⟨by kernel_rfl, by kernel_rfl, by kernel_rfl⟩)) (Nat.le_of_ble_eq_true (by kernel_rfl)) (by kernel_rfl) (by kernel_rfl) (by rintro _ _ ⟨_, ⟨_, _, _, _, _, _, rfl, rfl⟩, rfl⟩; exact Nat.le_of_ble_eq_true (by kernel_rfl))) (by kernel_rfl) (by kernel_rfl) (by kernel_rfl) ?_)
  rintro _ _ ⟨_, _, ⟨_, ⟨n_1, xs_2, p1_3, h1_4, f5, f6, rfl, rfl⟩, rfl⟩, rfl, rfl⟩
  refine R.go 7 (R.callX (CallX.inF 4 usC frC (CallX.box 4 26 [AI 0, .nil] (nextX_c_r5b c p1_3 h1_4 40 eo1 so1 no1 co1 eo2 so2 no2 co2 eo3 so3 no3 co3 26 2 1 [AI 0, .nil] 2 1 xs_2.length (rows eI xs_2) 26 n_1 hc) (by kernel_rfl) (by kernel_rfl) (by kernel_rfl) (by kernel_rfl) (by rintro _ _ ⟨_, _, _, _, rfl, rfl⟩; exact ⟨by kernel_rfl, by kernel_rfl, by kernel_rfl⟩)) (Nat.le_of_ble_eq_true (by kernel_rfl)) (by kernel_rfl) (by kernel_rfl) (by rintro _ _ ⟨_, ⟨_, _, _, _, rfl, rfl⟩, rfl⟩; exact Nat.le_of_ble_eq_true (by kernel_rfl))) (by kernel_rfl) (by kernel_rfl) (by kernel_rfl) ?_)
  rintro _ _ ⟨_, _, ⟨_, ⟨v_7, p1_8, h1_9, f10, rfl, rfl⟩, rfl⟩, rfl, rfl⟩
  refine R.go 7 (R.cond (v_7 = 0) (by kernel_rfl) (fun c11 => ?_) (fun c11 => ?_))
  · refine R.go 4 (R.ar (n_1 + 1) (by kernel_rfl) (by omega) (by omega) (by kernel_rfl) ?_)
    refine R.lit (s := 1) (n := 3) (cs := rows eI [(-1), 9, n_1 + 1]) (by kernel_rfl) (by kernel_rfl) ?_
    refine R.callX (CallX.inF 4 usC frC (CallX.box 4 26 [AI 0, .nil] (pickX_c_r5b c p1_8 h1_9 [(-1), 9, n_1 + 1] eo1 so1 no1 co1 eo2 so2 no2 co2 eo3 so3 no3 co3 26 2 1 [AI 0, .nil] 2 1 xs_2.length (rows eI xs_2) 26 n_1 hc (by simp)) (by kernel_rfl) (by kernel_rfl) (by kernel_rfl) (by kernel_rfl) (by rintro _ _ ⟨_, _, _, rfl, rfl⟩; exact ⟨by kernel_rfl, by kernel_rfl, by kernel_rfl⟩)) (Nat.le_of_ble_eq_true (by kernel_rfl)) (by kernel_rfl) (by kernel_rfl) (by rintro _ _ ⟨_, ⟨_, _, _, rfl, rfl⟩, rfl⟩; exact Nat.le_of_ble_eq_true (by kernel_rfl))) (by kernel_rfl) (by kernel_rfl) (by kernel_rfl) ?_
    rintro _ _ ⟨_, _, ⟨_, ⟨v_12, p1_13, h1_14, rfl, rfl⟩, rfl⟩, rfl, rfl⟩
    refine R.go 9 (R.frz 6 (by kernel_rfl) ?_)
    refine R.kfix 4 (us := usC) (by kernel_rfl) (hfC.frz 6 (LI xs_2) (Nat.le_of_ble_eq_true (by kernel_rfl))) ?_
    exact R.retX (res := .agg [AI v_12, LI xs_2]) (hp' := [.box 112 [LB c, AI (p1_13 : Int), .int .u64 h1_14], .list eo1 so1 no1 co1, .list eo2 so2 no2 co2, .list eo3 so3 no3 co3, .dead, .box 26 [AI v_12, LI xs_2], .dead, .box 26 [AI v_12, LI xs_2]]) (by kernel_rfl) (by kernel_rfl) (by kernel_rfl) (by kernel_rfl) ⟨[0, 1, 2, 3], by kernel_rfl, by decide, v_12, xs_2, p1_13, h1_14, by first | omega | (simp; done) | (simp only [List.length_append, List.length_cons, List.length_nil, List.length_set]; omega), by kernel_rfl, by kernel_rfl⟩
  · refine R.go 5 (R.cond (v_7 = 1) (by kernel_rfl) (fun c15 => ?_) (fun c15 => ?_))
    · refine R.go 3 (R.call false (l01Own_c xs_2 (by first | omega | (simp <;> omega))) (by kernel_rfl) (ownA_closed eI_closed 2 1 xs_2) (by kernel_rfl) ?_)
      refine R.go 1 (R.app eI xs_2 [0] 8 2 1 8 (by kernel_rfl) eI_one (by decide) (by first | omega | (simp <;> omega)) (by kernel_rfl) ?_)
      refine R.kfix 4 (us := usC) (by kernel_rfl) (hfC.kill 8 (Nat.le_of_ble_eq_true (by kernel_rfl))) ?_
      refine R.go 9 (R.frz 8 (by kernel_rfl) ?_)
      refine R.kfix 4 (us := usC) (by kernel_rfl) (hfC.frz 8 (LI (xs_2 ++ [0])) (Nat.le_of_ble_eq_true (by kernel_rfl))) ?_
      exact R.retX (res := .agg [AI n_1, LI (xs_2 ++ [0])]) (hp' := [.box 112 [LB c, AI (p1_8 : Int), .int .u64 h1_9], .list eo1 so1 no1 co1, .list eo2 so2 no2 co2, .list eo3 so3 no3 co3, .dead, .box 26 [AI n_1, LI (xs_2 ++ [0])], rowA eI 2 1 xs_2, .box 26 [AI n_1, LI (xs_2 ++ [0])], .dead, rowA eI 2 1 [0]]) (by kernel_rfl) (by kernel_rfl) (by kernel_rfl) (by kernel_rfl) ⟨[0, 1, 2, 3], by kernel_rfl, by decide, n_1, xs_2 ++ [0], p1_8, h1_9, by first | omega | (simp; done) | (simp only [List.length_append, List.length_cons, List.length_nil, List.length_set]; omega), by kernel_rfl, by kernel_rfl⟩
    · refine R.go 5 (R.cond (v_7 = 2) (by kernel_rfl) (fun c16 => ?_) (fun c16 => ?_))
      · have hb : 1 ≤ shl64 1 n_1 ∧ shl64 1 n_1 ≤ 4611686018427387904 := shl_rng n_1 (by omega) (by omega)
        refine R.go 6 (R.cond (n_1 > 0) (by kernel_rfl) (fun c17 => ?_) (fun c17 => ?_))
        · refine R.any (by decide +kernel) (by kernel_rfl) ?_
          refine R.anyF 2 (by kernel_rfl) (np_retX _ _ _ _ _ _) ?_
          refine R.anyF 6 (by kernel_rfl) (np_retX _ _ _ _ _ _) ?_
          refine R.anyA 0 (.ptr 7 1) (by kernel_rfl) (np_retX _ _ _ _ _ _) ?_
          refine R.anyA 3 (.ptr 7 0) (by kernel_rfl) (np_retX _ _ _ _ _ _) ?_
          refine R.anyA 7 (.ptr 7 0) (by kernel_rfl) (np_retX _ _ _ _ _ _) ?_
          refine R.any3 1 4 8 (by kernel_rfl) (by kernel_rfl) ?_ ?_ ?_
          · refine R.go 2 (R.any2 4 8 (by kernel_rfl) (by kernel_rfl) ?_ ?_)
            · refine R.go 2 (R.any2 5 8 (by kernel_rfl) (by kernel_rfl) ?_ ?_)
              · refine R.callX (CallX.inF 4 usC frC (CallX.box 4 26 [AI 0, .nil] (nextX_c_r5b c p1_8 h1_9 n_1 eo1 so1 no1 co1 eo2 so2 no2 co2 eo3 so3 no3 co3 26 2 1 [AI 0, .nil] 2 1 xs_2.length (rows eI xs_2) 26 n_1 hc) (by kernel_rfl) (by kernel_rfl) (by kernel_rfl) (by kernel_rfl) (by rintro _ _ ⟨_, _, _, _, rfl, rfl⟩; exact ⟨by kernel_rfl, by kernel_rfl, by kernel_rfl⟩)) (Nat.le_of_ble_eq_true (by kernel_rfl)) (by kernel_rfl) (by kernel_rfl) (by rintro _ _ ⟨_, ⟨_, _, _, _, rfl, rfl⟩, rfl⟩; exact Nat.le_of_ble_eq_true (by kernel_rfl))) (by kernel_rfl) (by kernel_rfl) (by kernel_rfl) ?_
                rintro _ _ ⟨_, _, ⟨_, ⟨v_18, p1_19, h1_20, f21, rfl, rfl⟩, rfl⟩, rfl, rfl⟩
                refine R.go 1 (R.any1 8 (by kernel_rfl) (by kernel_rfl) ?_)
                refine R.go 2 (R.any1 9 (by kernel_rfl) (by kernel_rfl) ?_)
                refine R.call true (l01Full_c n_1 (by omega) (by omega)) (by kernel_rfl) rfl (by kernel_rfl) ?_
                refine R.go 1 (R.anyI 10 (AI (IntKind.i64.wrap (((shl64 1 n_1) - 1) + 1))) (by kernel_rfl) (np_retX _ _ _ _ _ _) ?_)
                refine R.any1 11 (by kernel_rfl) (by kernel_rfl) ?_
                refine R.lit (s := 1) (n := 2) (cs := rows eI [(-1), IntKind.i64.wrap (((shl64 1 n_1) - 1) + 1)]) (by kernel_rfl) (by kernel_rfl) ?_
                refine R.go 1 (R.any1 12 (by kernel_rfl) (by kernel_rfl) ?_)
                refine R.callX (CallX.inF 4 usC frC (CallX.box 4 26 [AI 0, .nil] (pickX_c_r5b c p1_19 h1_20 [(-1), IntKind.i64.wrap (((shl64 1 n_1) - 1) + 1)] eo1 so1 no1 co1 eo2 so2 no2 co2 eo3 so3 no3 co3 26 2 1 [AI 0, .nil] 2 1 xs_2.length (rows eI xs_2) 26 n_1 hc (by simp)) (by kernel_rfl) (by kernel_rfl) (by kernel_rfl) (by kernel_rfl) (by rintro _ _ ⟨_, _, _, rfl, rfl⟩; exact ⟨by kernel_rfl, by kernel_rfl, by kernel_rfl⟩)) (Nat.le_of_ble_eq_true (by kernel_rfl)) (by kernel_rfl) (by kernel_rfl) (by rintro _ _ ⟨_, ⟨_, _, _, rfl, rfl⟩, rfl⟩; exact Nat.le_of_ble_eq_true (by kernel_rfl))) (by kernel_rfl) (by kernel_rfl) (by kernel_rfl) ?_
                rintro _ _ ⟨_, _, ⟨_, ⟨v_22, p1_23, h1_24, rfl, rfl⟩, rfl⟩, rfl, rfl⟩
                refine R.go 1 (R.any1 13 (by kernel_rfl) (by kernel_rfl) ?_)
                refine R.idxO 6 1 xs_2.length ((v_18).toNat) v_18 (by kernel_rfl) (by omega) (by omega) (by kernel_rfl) ?_
                refine R.go 1 (R.any1 14 (by kernel_rfl) (by kernel_rfl) ?_)
                refine R.stI 6 2 xs_2 ((v_18).toNat) v_22 (by kernel_rfl) (by omega) (by kernel_rfl) ?_
                refine R.go 1 (R.any0 (by kernel_rfl) ?_)
                refine R.go 6 (R.frz 6 (by kernel_rfl) ?_)
                refine R.kfix 4 (us := usC) (by kernel_rfl) (hfC.frz 6 (LI (xs_2.set ((v_18).toNat) v_22)) (Nat.le_of_ble_eq_true (by kernel_rfl))) ?_
                exact R.retX (res := .agg [AI n_1, LI (xs_2.set ((v_18).toNat) v_22)]) (hp' := [.box 112 [LB c, AI (p1_23 : Int), .int .u64 h1_24], .list eo1 so1 no1 co1, .list eo2 so2 no2 co2, .list eo3 so3 no3 co3, .dead, .box 26 [AI n_1, LI (xs_2.set ((v_18).toNat) v_22)], .dead, .box 26 [AI n_1, LI (xs_2.set ((v_18).toNat) v_22)]]) (by kernel_rfl) (by kernel_rfl) (by kernel_rfl) (by kernel_rfl) ⟨[0, 1, 2, 3], by kernel_rfl, by decide, n_1, xs_2.set ((v_18).toNat) v_22, p1_23, h1_24, by first | omega | (simp; done) | (simp only [List.length_append, List.length_cons, List.length_nil, List.length_set]; omega), by kernel_rfl, by kernel_rfl⟩
              · refine R.go 2 (R.any1 5 (by kernel_rfl) (by kernel_rfl) ?_)
                refine R.callX (CallX.inF 4 usC frC (CallX.box 4 26 [AI 0, .nil] (nextX_c_r5b c p1_8 h1_9 n_1 eo1 so1 no1 co1 eo2 so2 no2 co2 eo3 so3 no3 co3 26 2 1 [AI 0, .nil] 2 1 xs_2.length (rows eI xs_2) 26 n_1 hc) (by kernel_rfl) (by kernel_rfl) (by kernel_rfl) (by kernel_rfl) (by rintro _ _ ⟨_, _, _, _, rfl, rfl⟩; exact ⟨by kernel_rfl, by kernel_rfl, by kernel_rfl⟩)) (Nat.le_of_ble_eq_true (by kernel_rfl)) (by kernel_rfl) (by kernel_rfl) (by rintro _ _ ⟨_, ⟨_, _, _, _, rfl, rfl⟩, rfl⟩; exact Nat.le_of_ble_eq_true (by kernel_rfl))) (by kernel_rfl) (by kernel_rfl) (by kernel_rfl) ?_
                rintro _ _ ⟨_, _, ⟨_, ⟨v_25, p1_26, h1_27, f28, rfl, rfl⟩, rfl⟩, rfl, rfl⟩
                refine R.go 1 (R.any1 9 (by kernel_rfl) (by kernel_rfl) ?_)
                refine R.call true (l01Full_c n_1 (by omega) (by omega)) (by kernel_rfl) rfl (by kernel_rfl) ?_
                refine R.go 1 (R.anyI 10 (AI (IntKind.i64.wrap (((shl64 1 n_1) - 1) + 1))) (by kernel_rfl) (np_retX _ _ _ _ _ _) ?_)
                refine R.any1 11 (by kernel_rfl) (by kernel_rfl) ?_
                refine R.lit (s := 1) (n := 2) (cs := rows eI [(-1), IntKind.i64.wrap (((shl64 1 n_1) - 1) + 1)]) (by kernel_rfl) (by kernel_rfl) ?_
                refine R.go 1 (R.any1 12 (by kernel_rfl) (by kernel_rfl) ?_)
                refine R.callX (CallX.inF 4 usC frC (CallX.box 4 26 [AI 0, .nil] (pickX_c_r5b c p1_26 h1_27 [(-1), IntKind.i64.wrap (((shl64 1 n_1) - 1) + 1)] eo1 so1 no1 co1 eo2 so2 no2 co2 eo3 so3 no3 co3 26 2 1 [AI 0, .nil] 2 1 xs_2.length (rows eI xs_2) 26 n_1 hc (by simp)) (by kernel_rfl) (by kernel_rfl) (by kernel_rfl) (by kernel_rfl) (by rintro _ _ ⟨_, _, _, rfl, rfl⟩; exact ⟨by kernel_rfl, by kernel_rfl, by kernel_rfl⟩)) (Nat.le_of_ble_eq_true (by kernel_rfl)) (by kernel_rfl) (by kernel_rfl) (by rintro _ _ ⟨_, ⟨_, _, _, rfl, rfl⟩, rfl⟩; exact Nat.le_of_ble_eq_true (by kernel_rfl))) (by kernel_rfl) (by kernel_rfl) (by kernel_rfl) ?_
                rintro _ _ ⟨_, _, ⟨_, ⟨v_29, p1_30, h1_31, rfl, rfl⟩, rfl⟩, rfl, rfl⟩
                refine R.go 1 (R.any1 13 (by kernel_rfl) (by kernel_rfl) ?_)
                refine R.idxO 6 1 xs_2.length ((v_25).toNat) v_25 (by kernel_rfl) (by omega) (by omega) (by kernel_rfl) ?_
                refine R.go 1 (R.any1 14 (by kernel_rfl) (by kernel_rfl) ?_)
                refine R.stI 6 2 xs_2 ((v_25).toNat) v_29 (by kernel_rfl) (by omega) (by kernel_rfl) ?_
                refine R.go 1 (R.any0 (by kernel_rfl) ?_)
                refine R.go 6 (R.frz 6 (by kernel_rfl) ?_)
                refine R.kfix 4 (us := usC) (by kernel_rfl) (hfC.frz 6 (LI (xs_2.set ((v_25).toNat) v_29)) (Nat.le_of_ble_eq_true (by kernel_rfl))) ?_
                exact R.retX (res := .agg [AI n_1, LI (xs_2.set ((v_25).toNat) v_29)]) (hp' := [.box 112 [LB c, AI (p1_30 : Int), .int .u64 h1_31], .list eo1 so1 no1 co1, .list eo2 so2 no2 co2, .list eo3 so3 no3 co3, .dead, .box 26 [AI n_1, LI (xs_2.set ((v_25).toNat) v_29)], .dead, .box 26 [AI n_1, LI (xs_2.set ((v_25).toNat) v_29)]]) (by kernel_rfl) (by kernel_rfl) (by kernel_rfl) (by kernel_rfl) ⟨[0, 1, 2, 3], by kernel_rfl, by decide, n_1, xs_2.set ((v_25).toNat) v_29, p1_30, h1_31, by first | omega | (simp; done) | (simp only [List.length_append, List.length_cons, List.length_nil, List.length_set]; omega), by kernel_rfl, by kernel_rfl⟩
            · refine R.go 2 (R.any1 4 (by kernel_rfl) (by kernel_rfl) ?_)
              refine R.go 2 (R.any1 5 (by kernel_rfl) (by kernel_rfl) ?_)
              refine R.callX (CallX.inF 4 usC frC (CallX.box 4 26 [AI 0, .nil] (nextX_c_r5b c p1_8 h1_9 n_1 eo1 so1 no1 co1 eo2 so2 no2 co2 eo3 so3 no3 co3 26 2 1 [AI 0, .nil] 2 1 xs_2.length (rows eI xs_2) 26 n_1 hc) (by kernel_rfl) (by kernel_rfl) (by kernel_rfl) (by kernel_rfl) (by rintro _ _ ⟨_, _, _, _, rfl, rfl⟩; exact ⟨by kernel_rfl, by kernel_rfl, by kernel_rfl⟩)) (Nat.le_of_ble_eq_true (by kernel_rfl)) (by kernel_rfl) (by kernel_rfl) (by rintro _ _ ⟨_, ⟨_, _, _, _, rfl, rfl⟩, rfl⟩; exact Nat.le_of_ble_eq_true (by kernel_rfl))) (by kernel_rfl) (by kernel_rfl) (by kernel_rfl) ?_
              rintro _ _ ⟨_, _, ⟨_, ⟨v_32, p1_33, h1_34, f35, rfl, rfl⟩, rfl⟩, rfl, rfl⟩
              refine R.go 1 (R.any1 9 (by kernel_rfl) (by kernel_rfl) ?_)
              refine R.call true (l01Full_c n_1 (by omega) (by omega)) (by kernel_rfl) rfl (by kernel_rfl) ?_
              refine R.go 1 (R.anyI 10 (AI (IntKind.i64.wrap (((shl64 1 n_1) - 1) + 1))) (by kernel_rfl) (np_retX _ _ _ _ _ _) ?_)
              refine R.any1 11 (by kernel_rfl) (by kernel_rfl) ?_
              refine R.lit (s := 1) (n := 2) (cs := rows eI [(-1), IntKind.i64.wrap (((shl64 1 n_1) - 1) + 1)]) (by kernel_rfl) (by kernel_rfl) ?_
              refine R.go 1 (R.any1 12 (by kernel_rfl) (by kernel_rfl) ?_)
              refine R.callX (CallX.inF 4 usC frC (CallX.box 4 26 [AI 0, .nil] (pickX_c_r5b c p1_33 h1_34 [(-1), IntKind.i64.wrap (((shl64 1 n_1) - 1) + 1)] eo1 so1 no1 co1 eo2 so2 no2 co2 eo3 so3 no3 co3 26 2 1 [AI 0, .nil] 2 1 xs_2.length (rows eI xs_2) 26 n_1 hc (by simp)) (by kernel_rfl) (by kernel_rfl) (by kernel_rfl) (by kernel_rfl) (by rintro _ _ ⟨_, _, _, rfl, rfl⟩; exact ⟨by kernel_rfl, by kernel_rfl, by kernel_rfl⟩)) (Nat.le_of_ble_eq_true (by kernel_rfl)) (by kernel_rfl) (by kernel_rfl) (by rintro _ _ ⟨_, ⟨_, _, _, rfl, rfl⟩, rfl⟩; exact Nat.le_of_ble_eq_true (by kernel_rfl))) (by kernel_rfl) (by kernel_rfl) (by kernel_rfl) ?_
              rintro _ _ ⟨_, _, ⟨_, ⟨v_36, p1_37, h1_38, rfl, rfl⟩, rfl⟩, rfl, rfl⟩
              refine R.go 1 (R.any1 13 (by kernel_rfl) (by kernel_rfl) ?_)
              refine R.idxO 6 1 xs_2.length ((v_32).toNat) v_32 (by kernel_rfl) (by omega) (by omega) (by kernel_rfl) ?_
              refine R.go 1 (R.any1 14 (by kernel_rfl) (by kernel_rfl) ?_)
              refine R.stI 6 2 xs_2 ((v_32).toNat) v_36 (by kernel_rfl) (by omega) (by kernel_rfl) ?_
              refine R.go 1 (R.any0 (by kernel_rfl) ?_)
              refine R.go 6 (R.frz 6 (by kernel_rfl) ?_)
              refine R.kfix 4 (us := usC) (by kernel_rfl) (hfC.frz 6 (LI (xs_2.set ((v_32).toNat) v_36)) (Nat.le_of_ble_eq_true (by kernel_rfl))) ?_
              exact R.retX (res := .agg [AI n_1, LI (xs_2.set ((v_32).toNat) v_36)]) (hp' := [.box 112 [LB c, AI (p1_37 : Int), .int .u64 h1_38], .list eo1 so1 no1 co1, .list eo2 so2 no2 co2, .list eo3 so3 no3 co3, .dead, .box 26 [AI n_1, LI (xs_2.set ((v_32).toNat) v_36)], .dead, .box 26 [AI n_1, LI (xs_2.set ((v_32).toNat) v_36)]]) (by kernel_rfl) (by kernel_rfl) (by kernel_rfl) (by kernel_rfl) ⟨[0, 1, 2, 3], by kernel_rfl, by decide, n_1, xs_2.set ((v_32).toNat) v_36, p1_37, h1_38, by first | omega | (simp; done) | (simp only [List.length_append, List.length_cons, List.length_nil, List.length_set]; omega), by kernel_rfl, by kernel_rfl⟩
          · refine R.go 2 (R.any3 1 5 8 (by kernel_rfl) (by kernel_rfl) ?_ ?_ ?_)
            · refine R.go 2 (R.any2 5 8 (by kernel_rfl) (by kernel_rfl) ?_ ?_)
              · refine R.callX (CallX.inF 4 usC frC (CallX.box 4 26 [AI 0, .nil] (nextX_c_r5b c p1_8 h1_9 n_1 eo1 so1 no1 co1 eo2 so2 no2 co2 eo3 so3 no3 co3 26 2 1 [AI 0, .nil] 2 1 xs_2.length (rows eI xs_2) 26 n_1 hc) (by kernel_rfl) (by kernel_rfl) (by kernel_rfl) (by kernel_rfl) (by rintro _ _ ⟨_, _, _, _, rfl, rfl⟩; exact ⟨by kernel_rfl, by kernel_rfl, by kernel_rfl⟩)) (Nat.le_of_ble_eq_true (by kernel_rfl)) (by kernel_rfl) (by kernel_rfl) (by rintro _ _ ⟨_, ⟨_, _, _, _, rfl, rfl⟩, rfl⟩; exact Nat.le_of_ble_eq_true (by kernel_rfl))) (by kernel_rfl) (by kernel_rfl) (by kernel_rfl) ?_
                rintro _ _ ⟨_, _, ⟨_, ⟨v_39, p1_40, h1_41, f42, rfl, rfl⟩, rfl⟩, rfl, rfl⟩
                refine R.go 1 (R.any1 8 (by kernel_rfl) (by kernel_rfl) ?_)
                refine R.go 2 (R.any1 9 (by kernel_rfl) (by kernel_rfl) ?_)
                refine R.call true (l01Full_c n_1 (by omega) (by omega)) (by kernel_rfl) rfl (by kernel_rfl) ?_
                refine R.go 1 (R.anyI 10 (AI (IntKind.i64.wrap (((shl64 1 n_1) - 1) + 1))) (by kernel_rfl) (np_retX _ _ _ _ _ _) ?_)
                refine R.any1 11 (by kernel_rfl) (by kernel_rfl) ?_
                refine R.lit (s := 1) (n := 2) (cs := rows eI [(-1), IntKind.i64.wrap (((shl64 1 n_1) - 1) + 1)]) (by kernel_rfl) (by kernel_rfl) ?_
                refine R.go 1 (R.any1 12 (by kernel_rfl) (by kernel_rfl) ?_)
                refine R.callX (CallX.inF 4 usC frC (CallX.box 4 26 [AI 0, .nil] (pickX_c_r5b c p1_40 h1_41 [(-1), IntKind.i64.wrap (((shl64 1 n_1) - 1) + 1)] eo1 so1 no1 co1 eo2 so2 no2 co2 eo3 so3 no3 co3 26 2 1 [AI 0, .nil] 2 1 xs_2.length (rows eI xs_2) 26 n_1 hc (by simp)) (by kernel_rfl) (by kernel_rfl) (by kernel_rfl) (by kernel_rfl) (by rintro _ _ ⟨_, _, _, rfl, rfl⟩; exact ⟨by kernel_rfl, by kernel_rfl, by kernel_rfl⟩)) (Nat.le_of_ble_eq_true (by kernel_rfl)) (by kernel_rfl) (by kernel_rfl) (by rintro _ _ ⟨_, ⟨_, _, _, rfl, rfl⟩, rfl⟩; exact Nat.le_of_ble_eq_true (by kernel_rfl))) (by kernel_rfl) (by kernel_rfl) (by kernel_rfl) ?_
                rintro _ _ ⟨_, _, ⟨_, ⟨v_43, p1_44, h1_45, rfl, rfl⟩, rfl⟩, rfl, rfl⟩
                refine R.go 1 (R.any1 13 (by kernel_rfl) (by kernel_rfl) ?_)
                refine R.idxO 6 1 xs_2.length ((v_39).toNat) v_39 (by kernel_rfl) (by omega) (by omega) (by kernel_rfl) ?_
                refine R.go 1 (R.any1 14 (by kernel_rfl) (by kernel_rfl) ?_)
                refine R.stI 6 2 xs_2 ((v_39).toNat) v_43 (by kernel_rfl) (by omega) (by kernel_rfl) ?_
                refine R.go 1 (R.any0 (by kernel_rfl) ?_)
                refine R.go 6 (R.frz 6 (by kernel_rfl) ?_)
                refine R.kfix 4 (us := usC) (by kernel_rfl) (hfC.frz 6 (LI (xs_2.set ((v_39).toNat) v_43)) (Nat.le_of_ble_eq_true (by kernel_rfl))) ?_
                exact R.retX (res := .agg [AI n_1, LI (xs_2.set ((v_39).toNat) v_43)]) (hp' := [.box 112 [LB c, AI (p1_44 : Int), .int .u64 h1_45], .list eo1 so1 no1 co1, .list eo2 so2 no2 co2, .list eo3 so3 no3 co3, .dead, .box 26 [AI n_1, LI (xs_2.set ((v_39).toNat) v_43)], .dead, .box 26 [AI n_1, LI (xs_2.set ((v_39).toNat) v_43)]]) (by kernel_rfl) (by kernel_rfl) (by kernel_rfl) (by kernel_rfl) ⟨[0, 1, 2, 3], by kernel_rfl, by decide, n_1, xs_2.set ((v_39).toNat) v_43, p1_44, h1_45, by first | omega | (simp; done) | (simp only [List.length_append, List.length_cons, List.length_nil, List.length_set]; omega), by kernel_rfl, by kernel_rfl⟩
              · refine R.go 2 (R.any1 5 (by kernel_rfl) (by kernel_rfl) ?_)
                refine R.callX (CallX.inF 4 usC frC (CallX.box 4 26 [AI 0, .nil] (nextX_c_r5b c p1_8 h1_9 n_1 eo1 so1 no1 co1 eo2 so2 no2 co2 eo3 so3 no3 co3 26 2 1 [AI 0, .nil] 2 1 xs_2.length (rows eI xs_2) 26 n_1 hc) (by kernel_rfl) (by kernel_rfl) (by kernel_rfl) (by kernel_rfl) (by rintro _ _ ⟨_, _, _, _, rfl, rfl⟩; exact ⟨by kernel_rfl, by kernel_rfl, by kernel_rfl⟩)) (Nat.le_of_ble_eq_true (by kernel_rfl)) (by kernel_rfl) (by kernel_rfl) (by rintro _ _ ⟨_, ⟨_, _, _, _, rfl, rfl⟩, rfl⟩; exact Nat.le_of_ble_eq_true (by kernel_rfl))) (by kernel_rfl) (by kernel_rfl) (by kernel_rfl) ?_
                rintro _ _ ⟨_, _, ⟨_, ⟨v_46, p1_47, h1_48, f49, rfl, rfl⟩, rfl⟩, rfl, rfl⟩
                refine R.go 1 (R.any1 9 (by kernel_rfl) (by kernel_rfl) ?_)
                refine R.call true (l01Full_c n_1 (by omega) (by omega)) (by kernel_rfl) rfl (by kernel_rfl) ?_
                refine R.go 1 (R.anyI 10 (AI (IntKind.i64.wrap (((shl64 1 n_1) - 1) + 1))) (by kernel_rfl) (np_retX _ _ _ _ _ _) ?_)
                refine R.any1 11 (by kernel_rfl) (by kernel_rfl) ?_
                refine R.lit (s := 1) (n := 2) (cs := rows eI [(-1), IntKind.i64.wrap (((shl64 1 n_1) - 1) + 1)]) (by kernel_rfl) (by kernel_rfl) ?_
                refine R.go 1 (R.any1 12 (by kernel_rfl) (by kernel_rfl) ?_)
                refine R.callX (CallX.inF 4 usC frC (CallX.box 4 26 [AI 0, .nil] (pickX_c_r5b c p1_47 h1_48 [(-1), IntKind.i64.wrap (((shl64 1 n_1) - 1) + 1)] eo1 so1 no1 co1 eo2 so2 no2 co2 eo3 so3 no3 co3 26 2 1 [AI 0, .nil] 2 1 xs_2.length (rows eI xs_2) 26 n_1 hc (by simp)) (by kernel_rfl) (by kernel_rfl) (by kernel_rfl) (by kernel_rfl) (by rintro _ _ ⟨_, _, _, rfl, rfl⟩; exact ⟨by kernel_rfl, by kernel_rfl, by kernel_rfl⟩)) (Nat.le_of_ble_eq_true (by kernel_rfl)) (by kernel_rfl) (by kernel_rfl) (by rintro _ _ ⟨_, ⟨_, _, _, rfl, rfl⟩, rfl⟩; exact Nat.le_of_ble_eq_true (by kernel_rfl))) (by kernel_rfl) (by kernel_rfl) (by kernel_rfl) ?_
                rintro _ _ ⟨_, _, ⟨_, ⟨v_50, p1_51, h1_52, rfl, rfl⟩, rfl⟩, rfl, rfl⟩
                refine R.go 1 (R.any1 13 (by kernel_rfl) (by kernel_rfl) ?_)
                refine R.idxO 6 1 xs_2.length ((v_46).toNat) v_46 (by kernel_rfl) (by omega) (by omega) (by kernel_rfl) ?_
                refine R.go 1 (R.any1 14 (by kernel_rfl) (by kernel_rfl) ?_)
                refine R.stI 6 2 xs_2 ((v_46).toNat) v_50 (by kernel_rfl) (by omega) (by kernel_rfl) ?_
                refine R.go 1 (R.any0 (by kernel_rfl) ?_)
                refine R.go 6 (R.frz 6 (by kernel_rfl) ?_)
                refine R.kfix 4 (us := usC) (by kernel_rfl) (hfC.frz 6 (LI (xs_2.set ((v_46).toNat) v_50)) (Nat.le_of_ble_eq_true (by kernel_rfl))) ?_
                exact R.retX (res := .agg [AI n_1, LI (xs_2.set ((v_46).toNat) v_50)]) (hp' := [.box 112 [LB c, AI (p1_51 : Int), .int .u64 h1_52], .list eo1 so1 no1 co1, .list eo2 so2 no2 co2, .list eo3 so3 no3 co3, .dead, .box 26 [AI n_1, LI (xs_2.set ((v_46).toNat) v_50)], .dead, .box 26 [AI n_1, LI (xs_2.set ((v_46).toNat) v_50)]]) (by kernel_rfl) (by kernel_rfl) (by kernel_rfl) (by kernel_rfl) ⟨[0, 1, 2, 3], by kernel_rfl, by decide, n_1, xs_2.set ((v_46).toNat) v_50, p1_51, h1_52, by first | omega | (simp; done) | (simp only [List.length_append, List.length_cons, List.length_nil, List.length_set]; omega), by kernel_rfl, by kernel_rfl⟩
            · refine R.callX (CallX.inF 4 usC frC (CallX.box 4 26 [AI 0, .nil] (nextX_c_r5b c p1_8 h1_9 n_1 eo1 so1 no1 co1 eo2 so2 no2 co2 eo3 so3 no3 co3 26 2 1 [AI 0, .nil] 2 1 xs_2.length (rows eI xs_2) 26 n_1 hc) (by kernel_rfl) (by kernel_rfl) (by kernel_rfl) (by kernel_rfl) (by rintro _ _ ⟨_, _, _, _, rfl, rfl⟩; exact ⟨by kernel_rfl, by kernel_rfl, by kernel_rfl⟩)) (Nat.le_of_ble_eq_true (by kernel_rfl)) (by kernel_rfl) (by kernel_rfl) (by rintro _ _ ⟨_, ⟨_, _, _, _, rfl, rfl⟩, rfl⟩; exact Nat.le_of_ble_eq_true (by kernel_rfl))) (by kernel_rfl) (by kernel_rfl) (by kernel_rfl) ?_
              rintro _ _ ⟨_, _, ⟨_, ⟨v_53, p1_54, h1_55, f56, rfl, rfl⟩, rfl⟩, rfl, rfl⟩
              refine R.go 1 (R.any2 1 8 (by kernel_rfl) (by kernel_rfl) ?_ ?_)
              · refine R.go 2 (R.any1 8 (by kernel_rfl) (by kernel_rfl) ?_)
                refine R.go 2 (R.any1 9 (by kernel_rfl) (by kernel_rfl) ?_)
                refine R.call true (l01Full_c n_1 (by omega) (by omega)) (by kernel_rfl) rfl (by kernel_rfl) ?_
                refine R.go 1 (R.anyI 10 (AI (IntKind.i64.wrap (((shl64 1 n_1) - 1) + 1))) (by kernel_rfl) (np_retX _ _ _ _ _ _) ?_)
                refine R.any1 11 (by kernel_rfl) (by kernel_rfl) ?_
                refine R.lit (s := 1) (n := 2) (cs := rows eI [(-1), IntKind.i64.wrap (((shl64 1 n_1) - 1) + 1)]) (by kernel_rfl) (by kernel_rfl) ?_
                refine R.go 1 (R.any1 12 (by kernel_rfl) (by kernel_rfl) ?_)
                refine R.callX (CallX.inF 4 usC frC (CallX.box 4 26 [AI 0, .nil] (pickX_c_r5b c p1_54 h1_55 [(-1), IntKind.i64.wrap (((shl64 1 n_1) - 1) + 1)] eo1 so1 no1 co1 eo2 so2 no2 co2 eo3 so3 no3 co3 26 2 1 [AI 0, .nil] 2 1 xs_2.length (rows eI xs_2) 26 n_1 hc (by simp)) (by kernel_rfl) (by kernel_rfl) (by kernel_rfl) (by kernel_rfl) (by rintro _ _ ⟨_, _, _, rfl, rfl⟩; exact ⟨by kernel_rfl, by kernel_rfl, by kernel_rfl⟩)) (Nat.le_of_ble_eq_true (by kernel_rfl)) (by kernel_rfl) (by kernel_rfl) (by rintro _ _ ⟨_, ⟨_, _, _, rfl, rfl⟩, rfl⟩; exact Nat.le_of_ble_eq_true (by kernel_rfl))) (by kernel_rfl) (by kernel_rfl) (by kernel_rfl) ?_
                rintro _ _ ⟨_, _, ⟨_, ⟨v_57, p1_58, h1_59, rfl, rfl⟩, rfl⟩, rfl, rfl⟩
                refine R.go 1 (R.any1 13 (by kernel_rfl) (by kernel_rfl) ?_)
                refine R.idxO 6 1 xs_2.length ((v_53).toNat) v_53 (by kernel_rfl) (by omega) (by omega) (by kernel_rfl) ?_
                refine R.go 1 (R.any1 14 (by kernel_rfl) (by kernel_rfl) ?_)
                refine R.stI 6 2 xs_2 ((v_53).toNat) v_57 (by kernel_rfl) (by omega) (by kernel_rfl) ?_
                refine R.go 1 (R.any0 (by kernel_rfl) ?_)
                refine R.go 6 (R.frz 6 (by kernel_rfl) ?_)
                refine R.kfix 4 (us := usC) (by kernel_rfl) (hfC.frz 6 (LI (xs_2.set ((v_53).toNat) v_57)) (Nat.le_of_ble_eq_true (by kernel_rfl))) ?_
                exact R.retX (res := .agg [AI n_1, LI (xs_2.set ((v_53).toNat) v_57)]) (hp' := [.box 112 [LB c, AI (p1_58 : Int), .int .u64 h1_59], .list eo1 so1 no1 co1, .list eo2 so2 no2 co2, .list eo3 so3 no3 co3, .dead, .box 26 [AI n_1, LI (xs_2.set ((v_53).toNat) v_57)], .dead, .box 26 [AI n_1, LI (xs_2.set ((v_53).toNat) v_57)]]) (by kernel_rfl) (by kernel_rfl) (by kernel_rfl) (by kernel_rfl) ⟨[0, 1, 2, 3], by kernel_rfl, by decide, n_1, xs_2.set ((v_53).toNat) v_57, p1_58, h1_59, by first | omega | (simp; done) | (simp only [List.length_append, List.length_cons, List.length_nil, List.length_set]; omega), by kernel_rfl, by kernel_rfl⟩
              · refine R.go 2 (R.any2 1 9 (by kernel_rfl) (by kernel_rfl) ?_ ?_)
                · refine R.go 2 (R.any1 9 (by kernel_rfl) (by kernel_rfl) ?_)
                  refine R.call true (l01Full_c n_1 (by omega) (by omega)) (by kernel_rfl) rfl (by kernel_rfl) ?_
                  refine R.go 1 (R.anyI 10 (AI (IntKind.i64.wrap (((shl64 1 n_1) - 1) + 1))) (by kernel_rfl) (np_retX _ _ _ _ _ _) ?_)
                  refine R.any1 11 (by kernel_rfl) (by kernel_rfl) ?_
                  refine R.lit (s := 1) (n := 2) (cs := rows eI [(-1), IntKind.i64.wrap (((shl64 1 n_1) - 1) + 1)]) (by kernel_rfl) (by kernel_rfl) ?_
                  refine R.go 1 (R.any1 12 (by kernel_rfl) (by kernel_rfl) ?_)
                  refine R.callX (CallX.inF 4 usC frC (CallX.box 4 26 [AI 0, .nil] (pickX_c_r5b c p1_54 h1_55 [(-1), IntKind.i64.wrap (((shl64 1 n_1) - 1) + 1)] eo1 so1 no1 co1 eo2 so2 no2 co2 eo3 so3 no3 co3 26 2 1 [AI 0, .nil] 2 1 xs_2.length (rows eI xs_2) 26 n_1 hc (by simp)) (by kernel_rfl) (by kernel_rfl) (by kernel_rfl) (by kernel_rfl) (by rintro _ _ ⟨_, _, _, rfl, rfl⟩; exact ⟨by kernel_rfl, by kernel_rfl, by kernel_rfl⟩)) (Nat.le_of_ble_eq_true (by kernel_rfl)) (by kernel_rfl) (by kernel_rfl) (by rintro _ _ ⟨_, ⟨_, _, _, rfl, rfl⟩, rfl⟩; exact Nat.le_of_ble_eq_true (by kernel_rfl))) (by kernel_rfl) (by kernel_rfl) (by kernel_rfl) ?_
                  rintro _ _ ⟨_, _, ⟨_, ⟨v_60, p1_61, h1_62, rfl, rfl⟩, rfl⟩, rfl, rfl⟩
                  refine R.go 1 (R.any1 13 (by kernel_rfl) (by kernel_rfl) ?_)
                  refine R.idxO 6 1 xs_2.length ((v_53).toNat) v_53 (by kernel_rfl) (by omega) (by omega) (by kernel_rfl) ?_
                  refine R.go 1 (R.any1 14 (by kernel_rfl) (by kernel_rfl) ?_)
                  refine R.stI 6 2 xs_2 ((v_53).toNat) v_60 (by kernel_rfl) (by omega) (by kernel_rfl) ?_
                  refine R.go 1 (R.any0 (by kernel_rfl) ?_)
                  refine R.go 6 (R.frz 6 (by kernel_rfl) ?_)
                  refine R.kfix 4 (us := usC) (by kernel_rfl) (hfC.frz 6 (LI (xs_2.set ((v_53).toNat) v_60)) (Nat.le_of_ble_eq_true (by kernel_rfl))) ?_
                  exact R.retX (res := .agg [AI n_1, LI (xs_2.set ((v_53).toNat) v_60)]) (hp' := [.box 112 [LB c, AI (p1_61 : Int), .int .u64 h1_62], .list eo1 so1 no1 co1, .list eo2 so2 no2 co2, .list eo3 so3 no3 co3, .dead, .box 26 [AI n_1, LI (xs_2.set ((v_53).toNat) v_60)], .dead, .box 26 [AI n_1, LI (xs_2.set ((v_53).toNat) v_60)]]) (by kernel_rfl) (by kernel_rfl) (by kernel_rfl) (by kernel_rfl) ⟨[0, 1, 2, 3], by kernel_rfl, by decide, n_1, xs_2.set ((v_53).toNat) v_60, p1_61, h1_62, by first | omega | (simp; done) | (simp only [List.length_append, List.length_cons, List.length_nil, List.length_set]; omega), by kernel_rfl, by kernel_rfl⟩
                · refine R.call true (l01Full_c n_1 (by omega) (by omega)) (by kernel_rfl) rfl (by kernel_rfl) ?_
                  refine R.go 1 (R.anyI 10 (AI (IntKind.i64.wrap (((shl64 1 n_1) - 1) + 1))) (by kernel_rfl) (np_retX _ _ _ _ _ _) ?_)
                  refine R.any2 1 11 (by kernel_rfl) (by kernel_rfl) ?_ ?_
                  · refine R.go 2 (R.any1 11 (by kernel_rfl) (by kernel_rfl) ?_)
                    refine R.lit (s := 1) (n := 2) (cs := rows eI [(-1), IntKind.i64.wrap (((shl64 1 n_1) - 1) + 1)]) (by kernel_rfl) (by kernel_rfl) ?_
                    refine R.go 1 (R.any1 12 (by kernel_rfl) (by kernel_rfl) ?_)
                    refine R.callX (CallX.inF 4 usC frC (CallX.box 4 26 [AI 0, .nil] (pickX_c_r5b c p1_54 h1_55 [(-1), IntKind.i64.wrap (((shl64 1 n_1) - 1) + 1)] eo1 so1 no1 co1 eo2 so2 no2 co2 eo3 so3 no3 co3 26 2 1 [AI 0, .nil] 2 1 xs_2.length (rows eI xs_2) 26 n_1 hc (by simp)) (by kernel_rfl) (by kernel_rfl) (by kernel_rfl) (by kernel_rfl) (by rintro _ _ ⟨_, _, _, rfl, rfl⟩; exact ⟨by kernel_rfl, by kernel_rfl, by kernel_rfl⟩)) (Nat.le_of_ble_eq_true (by kernel_rfl)) (by kernel_rfl) (by kernel_rfl) (by rintro _ _ ⟨_, ⟨_, _, _, rfl, rfl⟩, rfl⟩; exact Nat.le_of_ble_eq_true (by kernel_rfl))) (by kernel_rfl) (by kernel_rfl) (by kernel_rfl) ?_
                    rintro _ _ ⟨_, _, ⟨_, ⟨v_63, p1_64, h1_65, rfl, rfl⟩, rfl⟩, rfl, rfl⟩
                    refine R.go 1 (R.any1 13 (by kernel_rfl) (by kernel_rfl) ?_)
                    refine R.idxO 6 1 xs_2.length ((v_53).toNat) v_53 (by kernel_rfl) (by omega) (by omega) (by kernel_rfl) ?_
                    refine R.go 1 (R.any1 14 (by kernel_rfl) (by kernel_rfl) ?_)
                    refine R.stI 6 2 xs_2 ((v_53).toNat) v_63 (by kernel_rfl) (by omega) (by kernel_rfl) ?_
                    refine R.go 1 (R.any0 (by kernel_rfl) ?_)
                    refine R.go 6 (R.frz 6 (by kernel_rfl) ?_)
                    refine R.kfix 4 (us := usC) (by kernel_rfl) (hfC.frz 6 (LI (xs_2.set ((v_53).toNat) v_63)) (Nat.le_of_ble_eq_true (by kernel_rfl))) ?_
                    exact R.retX (res := .agg [AI n_1, LI (xs_2.set ((v_53).toNat) v_63)]) (hp' := [.box 112 [LB c, AI (p1_64 : Int), .int .u64 h1_65], .list eo1 so1 no1 co1, .list eo2 so2 no2 co2, .list eo3 so3 no3 co3, .dead, .box 26 [AI n_1, LI (xs_2.set ((v_53).toNat) v_63)], .dead, .box 26 [AI n_1, LI (xs_2.set ((v_53).toNat) v_63)]]) (by kernel_rfl) (by kernel_rfl) (by kernel_rfl) (by kernel_rfl) ⟨[0, 1, 2, 3], by kernel_rfl, by decide, n_1, xs_2.set ((v_53).toNat) v_63, p1_64, h1_65, by first | omega | (simp; done) | (simp only [List.length_append, List.length_cons, List.length_nil, List.length_set]; omega), by kernel_rfl, by kernel_rfl⟩
                  · refine R.lit (s := 1) (n := 2) (cs := rows eI [(-1), IntKind.i64.wrap (((shl64 1 n_1) - 1) + 1)]) (by kernel_rfl) (by kernel_rfl) ?_
                    refine R.go 1 (R.any2 1 12 (by kernel_rfl) (by kernel_rfl) ?_ ?_)
                    · refine R.go 2 (R.any1 12 (by kernel_rfl) (by kernel_rfl) ?_)
                      refine R.callX (CallX.inF 4 usC frC (CallX.box 4 26 [AI 0, .nil] (pickX_c_r5b c p1_54 h1_55 [(-1), IntKind.i64.wrap (((shl64 1 n_1) - 1) + 1)] eo1 so1 no1 co1 eo2 so2 no2 co2 eo3 so3 no3 co3 26 2 1 [AI 0, .nil] 2 1 xs_2.length (rows eI xs_2) 26 n_1 hc (by simp)) (by kernel_rfl) (by kernel_rfl) (by kernel_rfl) (by kernel_rfl) (by rintro _ _ ⟨_, _, _, rfl, rfl⟩; exact ⟨by kernel_rfl, by kernel_rfl, by kernel_rfl⟩)) (Nat.le_of_ble_eq_true (by kernel_rfl)) (by kernel_rfl) (by kernel_rfl) (by rintro _ _ ⟨_, ⟨_, _, _, rfl, rfl⟩, rfl⟩; exact Nat.le_of_ble_eq_true (by kernel_rfl))) (by kernel_rfl) (by kernel_rfl) (by kernel_rfl) ?_
                      rintro _ _ ⟨_, _, ⟨_, ⟨v_66, p1_67, h1_68, rfl, rfl⟩, rfl⟩, rfl, rfl⟩
                      refine R.go 1 (R.any1 13 (by kernel_rfl) (by kernel_rfl) ?_)
                      refine R.idxO 6 1 xs_2.length ((v_53).toNat) v_53 (by kernel_rfl) (by omega) (by omega) (by kernel_rfl) ?_
                      refine R.go 1 (R.any1 14 (by kernel_rfl) (by kernel_rfl) ?_)
                      refine R.stI 6 2 xs_2 ((v_53).toNat) v_66 (by kernel_rfl) (by omega) (by kernel_rfl) ?_
                      refine R.go 1 (R.any0 (by kernel_rfl) ?_)
                      refine R.go 6 (R.frz 6 (by kernel_rfl) ?_)
                      refine R.kfix 4 (us := usC) (by kernel_rfl) (hfC.frz 6 (LI (xs_2.set ((v_53).toNat) v_66)) (Nat.le_of_ble_eq_true (by kernel_rfl))) ?_
                      exact R.retX (res := .agg [AI n_1, LI (xs_2.set ((v_53).toNat) v_66)]) (hp' := [.box 112 [LB c, AI (p1_67 : Int), .int .u64 h1_68], .list eo1 so1 no1 co1, .list eo2 so2 no2 co2, .list eo3 so3 no3 co3, .dead, .box 26 [AI n_1, LI (xs_2.set ((v_53).toNat) v_66)], .dead, .box 26 [AI n_1, LI (xs_2.set ((v_53).toNat) v_66)]]) (by kernel_rfl) (by kernel_rfl) (by kernel_rfl) (by kernel_rfl) ⟨[0, 1, 2, 3], by kernel_rfl, by decide, n_1, xs_2.set ((v_53).toNat) v_66, p1_67, h1_68, by first | omega | (simp; done) | (simp only [List.length_append, List.length_cons, List.length_nil, List.length_set]; omega), by kernel_rfl, by kernel_rfl⟩
                    · refine R.callX (CallX.inF 4 usC frC (CallX.box 4 26 [AI 0, .nil] (pickX_c_r5b c p1_54 h1_55 [(-1), IntKind.i64.wrap (((shl64 1 n_1) - 1) + 1)] eo1 so1 no1 co1 eo2 so2 no2 co2 eo3 so3 no3 co3 26 2 1 [AI 0, .nil] 2 1 xs_2.length (rows eI xs_2) 26 n_1 hc (by simp)) (by kernel_rfl) (by kernel_rfl) (by kernel_rfl) (by kernel_rfl) (by rintro _ _ ⟨_, _, _, rfl, rfl⟩; exact ⟨by kernel_rfl, by kernel_rfl, by kernel_rfl⟩)) (Nat.le_of_ble_eq_true (by kernel_rfl)) (by kernel_rfl) (by kernel_rfl) (by rintro _ _ ⟨_, ⟨_, _, _, rfl, rfl⟩, rfl⟩; exact Nat.le_of_ble_eq_true (by kernel_rfl))) (by kernel_rfl) (by kernel_rfl) (by kernel_rfl) ?_
                      rintro _ _ ⟨_, _, ⟨_, ⟨v_69, p1_70, h1_71, rfl, rfl⟩, rfl⟩, rfl, rfl⟩
                      refine R.go 1 (R.any1 1 (by kernel_rfl) (by kernel_rfl) ?_)
                      refine R.go 2 (R.any1 13 (by kernel_rfl) (by kernel_rfl) ?_)
                      refine R.idxO 6 1 xs_2.length ((v_53).toNat) v_53 (by kernel_rfl) (by omega) (by omega) (by kernel_rfl) ?_
                      refine R.go 1 (R.any1 14 (by kernel_rfl) (by kernel_rfl) ?_)
                      refine R.stI 6 2 xs_2 ((v_53).toNat) v_69 (by kernel_rfl) (by omega) (by kernel_rfl) ?_
                      refine R.go 1 (R.any0 (by kernel_rfl) ?_)
                      refine R.go 6 (R.frz 6 (by kernel_rfl) ?_)
                      refine R.kfix 4 (us := usC) (by kernel_rfl) (hfC.frz 6 (LI (xs_2.set ((v_53).toNat) v_69)) (Nat.le_of_ble_eq_true (by kernel_rfl))) ?_
                      exact R.retX (res := .agg [AI n_1, LI (xs_2.set ((v_53).toNat) v_69)]) (hp' := [.box 112 [LB c, AI (p1_70 : Int), .int .u64 h1_71], .list eo1 so1 no1 co1, .list eo2 so2 no2 co2, .list eo3 so3 no3 co3, .dead, .box 26 [AI n_1, LI (xs_2.set ((v_53).toNat) v_69)], .dead, .box 26 [AI n_1, LI (xs_2.set ((v_53).toNat) v_69)]]) (by kernel_rfl) (by kernel_rfl) (by kernel_rfl) (by kernel_rfl) ⟨[0, 1, 2, 3], by kernel_rfl, by decide, n_1, xs_2.set ((v_53).toNat) v_69, p1_70, h1_71, by first | omega | (simp; done) | (simp only [List.length_append, List.length_cons, List.length_nil, List.length_set]; omega), by kernel_rfl, by kernel_rfl⟩
            · refine R.go 2 (R.any2 1 5 (by kernel_rfl) (by kernel_rfl) ?_ ?_)
              · refine R.go 2 (R.any1 5 (by kernel_rfl) (by kernel_rfl) ?_)
                refine R.callX (CallX.inF 4 usC frC (CallX.box 4 26 [AI 0, .nil] (nextX_c_r5b c p1_8 h1_9 n_1 eo1 so1 no1 co1 eo2 so2 no2 co2 eo3 so3 no3 co3 26 2 1 [AI 0, .nil] 2 1 xs_2.length (rows eI xs_2) 26 n_1 hc) (by kernel_rfl) (by kernel_rfl) (by kernel_rfl) (by kernel_rfl) (by rintro _ _ ⟨_, _, _, _, rfl, rfl⟩; exact ⟨by kernel_rfl, by kernel_rfl, by kernel_rfl⟩)) (Nat.le_of_ble_eq_true (by kernel_rfl)) (by kernel_rfl) (by kernel_rfl) (by rintro _ _ ⟨_, ⟨_, _, _, _, rfl, rfl⟩, rfl⟩; exact Nat.le_of_ble_eq_true (by kernel_rfl))) (by kernel_rfl) (by kernel_rfl) (by kernel_rfl) ?_
                rintro _ _ ⟨_, _, ⟨_, ⟨v_72, p1_73, h1_74, f75, rfl, rfl⟩, rfl⟩, rfl, rfl⟩
                refine R.go 1 (R.any1 9 (by kernel_rfl) (by kernel_rfl) ?_)
                refine R.call true (l01Full_c n_1 (by omega) (by omega)) (by kernel_rfl) rfl (by kernel_rfl) ?_
                refine R.go 1 (R.anyI 10 (AI (IntKind.i64.wrap (((shl64 1 n_1) - 1) + 1))) (by kernel_rfl) (np_retX _ _ _ _ _ _) ?_)
                refine R.any1 11 (by kernel_rfl) (by kernel_rfl) ?_
                refine R.lit (s := 1) (n := 2) (cs := rows eI [(-1), IntKind.i64.wrap (((shl64 1 n_1) - 1) + 1)]) (by kernel_rfl) (by kernel_rfl) ?_
                refine R.go 1 (R.any1 12 (by kernel_rfl) (by kernel_rfl) ?_)
                refine R.callX (CallX.inF 4 usC frC (CallX.box 4 26 [AI 0, .nil] (pickX_c_r5b c p1_73 h1_74 [(-1), IntKind.i64.wrap (((shl64 1 n_1) - 1) + 1)] eo1 so1 no1 co1 eo2 so2 no2 co2 eo3 so3 no3 co3 26 2 1 [AI 0, .nil] 2 1 xs_2.length (rows eI xs_2) 26 n_1 hc (by simp)) (by kernel_rfl) (by kernel_rfl) (by kernel_rfl) (by kernel_rfl) (by rintro _ _ ⟨_, _, _, rfl, rfl⟩; exact ⟨by kernel_rfl, by kernel_rfl, by kernel_rfl⟩)) (Nat.le_of_ble_eq_true (by kernel_rfl)) (by kernel_rfl) (by kernel_rfl) (by rintro _ _ ⟨_, ⟨_, _, _, rfl, rfl⟩, rfl⟩; exact Nat.le_of_ble_eq_true (by kernel_rfl))) (by kernel_rfl) (by kernel_rfl) (by kernel_rfl) ?_
                rintro _ _ ⟨_, _, ⟨_, ⟨v_76, p1_77, h1_78, rfl, rfl⟩, rfl⟩, rfl, rfl⟩
                refine R.go 1 (R.any1 13 (by kernel_rfl) (by kernel_rfl) ?_)
                refine R.idxO 6 1 xs_2.length ((v_72).toNat) v_72 (by kernel_rfl) (by omega) (by omega) (by kernel_rfl) ?_
                refine R.go 1 (R.any1 14 (by kernel_rfl) (by kernel_rfl) ?_)
                refine R.stI 6 2 xs_2 ((v_72).toNat) v_76 (by kernel_rfl) (by omega) (by kernel_rfl) ?_
                refine R.go 1 (R.any0 (by kernel_rfl) ?_)
                refine R.go 6 (R.frz 6 (by kernel_rfl) ?_)
                refine R.kfix 4 (us := usC) (by kernel_rfl) (hfC.frz 6 (LI (xs_2.set ((v_72).toNat) v_76)) (Nat.le_of_ble_eq_true (by kernel_rfl))) ?_
                exact R.retX (res := .agg [AI n_1, LI (xs_2.set ((v_72).toNat) v_76)]) (hp' := [.box 112 [LB c, AI (p1_77 : Int), .int .u64 h1_78], .list eo1 so1 no1 co1, .list eo2 so2 no2 co2, .list eo3 so3 no3 co3, .dead, .box 26 [AI n_1, LI (xs_2.set ((v_72).toNat) v_76)], .dead, .box 26 [AI n_1, LI (xs_2.set ((v_72).toNat) v_76)]]) (by kernel_rfl) (by kernel_rfl) (by kernel_rfl) (by kernel_rfl) ⟨[0, 1, 2, 3], by kernel_rfl, by decide, n_1, xs_2.set ((v_72).toNat) v_76, p1_77, h1_78, by first | omega | (simp; done) | (simp only [List.length_append, List.length_cons, List.length_nil, List.length_set]; omega), by kernel_rfl, by kernel_rfl⟩
              · refine R.callX (CallX.inF 4 usC frC (CallX.box 4 26 [AI 0, .nil] (nextX_c_r5b c p1_8 h1_9 n_1 eo1 so1 no1 co1 eo2 so2 no2 co2 eo3 so3 no3 co3 26 2 1 [AI 0, .nil] 2 1 xs_2.length (rows eI xs_2) 26 n_1 hc) (by kernel_rfl) (by kernel_rfl) (by kernel_rfl) (by kernel_rfl) (by rintro _ _ ⟨_, _, _, _, rfl, rfl⟩; exact ⟨by kernel_rfl, by kernel_rfl, by kernel_rfl⟩)) (Nat.le_of_ble_eq_true (by kernel_rfl)) (by kernel_rfl) (by kernel_rfl) (by rintro _ _ ⟨_, ⟨_, _, _, _, rfl, rfl⟩, rfl⟩; exact Nat.le_of_ble_eq_true (by kernel_rfl))) (by kernel_rfl) (by kernel_rfl) (by kernel_rfl) ?_
                rintro _ _ ⟨_, _, ⟨_, ⟨v_79, p1_80, h1_81, f82, rfl, rfl⟩, rfl⟩, rfl, rfl⟩
                refine R.go 1 (R.any2 1 9 (by kernel_rfl) (by kernel_rfl) ?_ ?_)
                · refine R.go 2 (R.any1 9 (by kernel_rfl) (by kernel_rfl) ?_)
                  refine R.call true (l01Full_c n_1 (by omega) (by omega)) (by kernel_rfl) rfl (by kernel_rfl) ?_
                  refine R.go 1 (R.anyI 10 (AI (IntKind.i64.wrap (((shl64 1 n_1) - 1) + 1))) (by kernel_rfl) (np_retX _ _ _ _ _ _) ?_)
                  refine R.any1 11 (by kernel_rfl) (by kernel_rfl) ?_
                  refine R.lit (s := 1) (n := 2) (cs := rows eI [(-1), IntKind.i64.wrap (((shl64 1 n_1) - 1) + 1)]) (by kernel_rfl) (by kernel_rfl) ?_
                  refine R.go 1 (R.any1 12 (by kernel_rfl) (by kernel_rfl) ?_)
                  refine R.callX (CallX.inF 4 usC frC (CallX.box 4 26 [AI 0, .nil] (pickX_c_r5b c p1_80 h1_81 [(-1), IntKind.i64.wrap (((shl64 1 n_1) - 1) + 1)] eo1 so1 no1 co1 eo2 so2 no2 co2 eo3 so3 no3 co3 26 2 1 [AI 0, .nil] 2 1 xs_2.length (rows eI xs_2) 26 n_1 hc (by simp)) (by kernel_rfl) (by kernel_rfl) (by kernel_rfl) (by kernel_rfl) (by rintro _ _ ⟨_, _, _, rfl, rfl⟩; exact ⟨by kernel_rfl, by kernel_rfl, by kernel_rfl⟩)) (Nat.le_of_ble_eq_true (by kernel_rfl)) (by kernel_rfl) (by kernel_rfl) (by rintro _ _ ⟨_, ⟨_, _, _, rfl, rfl⟩, rfl⟩; exact Nat.le_of_ble_eq_true (by kernel_rfl))) (by kernel_rfl) (by kernel_rfl) (by kernel_rfl) ?_
                  rintro _ _ ⟨_, _, ⟨_, ⟨v_83, p1_84, h1_85, rfl, rfl⟩, rfl⟩, rfl, rfl⟩
                  refine R.go 1 (R.any1 13 (by kernel_rfl) (by kernel_rfl) ?_)
                  refine R.idxO 6 1 xs_2.length ((v_79).toNat) v_79 (by kernel_rfl) (by omega) (by omega) (by kernel_rfl) ?_
                  refine R.go 1 (R.any1 14 (by kernel_rfl) (by kernel_rfl) ?_)
                  refine R.stI 6 2 xs_2 ((v_79).toNat) v_83 (by kernel_rfl) (by omega) (by kernel_rfl) ?_
                  refine R.go 1 (R.any0 (by kernel_rfl) ?_)
                  refine R.go 6 (R.frz 6 (by kernel_rfl) ?_)
                  refine R.kfix 4 (us := usC) (by kernel_rfl) (hfC.frz 6 (LI (xs_2.set ((v_79).toNat) v_83)) (Nat.le_of_ble_eq_true (by kernel_rfl))) ?_
                  exact R.retX (res := .agg [AI n_1, LI (xs_2.set ((v_79).toNat) v_83)]) (hp' := [.box 112 [LB c, AI (p1_84 : Int), .int .u64 h1_85], .list eo1 so1 no1 co1, .list eo2 so2 no2 co2, .list eo3 so3 no3 co3, .dead, .box 26 [AI n_1, LI (xs_2.set ((v_79).toNat) v_83)], .dead, .box 26 [AI n_1, LI (xs_2.set ((v_79).toNat) v_83)]]) (by kernel_rfl) (by kernel_rfl) (by kernel_rfl) (by kernel_rfl) ⟨[0, 1, 2, 3], by kernel_rfl, by decide, n_1, xs_2.set ((v_79).toNat) v_83, p1_84, h1_85, by first | omega | (simp; done) | (simp only [List.length_append, List.length_cons, List.length_nil, List.length_set]; omega), by kernel_rfl, by kernel_rfl⟩
                · refine R.call true (l01Full_c n_1 (by omega) (by omega)) (by kernel_rfl) rfl (by kernel_rfl) ?_
                  refine R.go 1 (R.anyI 10 (AI (IntKind.i64.wrap (((shl64 1 n_1) - 1) + 1))) (by kernel_rfl) (np_retX _ _ _ _ _ _) ?_)
                  refine R.any2 1 11 (by kernel_rfl) (by kernel_rfl) ?_ ?_
                  · refine R.go 2 (R.any1 11 (by kernel_rfl) (by kernel_rfl) ?_)
                    refine R.lit (s := 1) (n := 2) (cs := rows eI [(-1), IntKind.i64.wrap (((shl64 1 n_1) - 1) + 1)]) (by kernel_rfl) (by kernel_rfl) ?_
                    refine R.go 1 (R.any1 12 (by kernel_rfl) (by kernel_rfl) ?_)
                    refine R.callX (CallX.inF 4 usC frC (CallX.box 4 26 [AI 0, .nil] (pickX_c_r5b c p1_80 h1_81 [(-1), IntKind.i64.wrap (((shl64 1 n_1) - 1) + 1)] eo1 so1 no1 co1 eo2 so2 no2 co2 eo3 so3 no3 co3 26 2 1 [AI 0, .nil] 2 1 xs_2.length (rows eI xs_2) 26 n_1 hc (by simp)) (by kernel_rfl) (by kernel_rfl) (by kernel_rfl) (by kernel_rfl) (by rintro _ _ ⟨_, _, _, rfl, rfl⟩; exact ⟨by kernel_rfl, by kernel_rfl, by kernel_rfl⟩)) (Nat.le_of_ble_eq_true (by kernel_rfl)) (by kernel_rfl) (by kernel_rfl) (by rintro _ _ ⟨_, ⟨_, _, _, rfl, rfl⟩, rfl⟩; exact Nat.le_of_ble_eq_true (by kernel_rfl))) (by kernel_rfl) (by kernel_rfl) (by kernel_rfl) ?_
                    rintro _ _ ⟨_, _, ⟨_, ⟨v_86, p1_87, h1_88, rfl, rfl⟩, rfl⟩, rfl, rfl⟩
                    refine R.go 1 (R.any1 13 (by kernel_rfl) (by kernel_rfl) ?_)
                    refine R.idxO 6 1 xs_2.length ((v_79).toNat) v_79 (by kernel_rfl) (by omega) (by omega) (by kernel_rfl) ?_
                    refine R.go 1 (R.any1 14 (by kernel_rfl) (by kernel_rfl) ?_)
                    refine R.stI 6 2 xs_2 ((v_79).toNat) v_86 (by kernel_rfl) (by omega) (by kernel_rfl) ?_
                    refine R.go 1 (R.any0 (by kernel_rfl) ?_)
                    refine R.go 6 (R.frz 6 (by kernel_rfl) ?_)
                    refine R.kfix 4 (us := usC) (by kernel_rfl) (hfC.frz 6 (LI (xs_2.set ((v_79).toNat) v_86)) (Nat.le_of_ble_eq_true (by kernel_rfl))) ?_
                    exact R.retX (res := .agg [AI n_1, LI (xs_2.set ((v_79).toNat) v_86)]) (hp' := [.box 112 [LB c, AI (p1_87 : Int), .int .u64 h1_88], .list eo1 so1 no1 co1, .list eo2 so2 no2 co2, .list eo3 so3 no3 co3, .dead, .box 26 [AI n_1, LI (xs_2.set ((v_79).toNat) v_86)], .dead, .box 26 [AI n_1, LI (xs_2.set ((v_79).toNat) v_86)]]) (by kernel_rfl) (by kernel_rfl) (by kernel_rfl) (by kernel_rfl) ⟨[0, 1, 2, 3], by kernel_rfl, by decide, n_1, xs_2.set ((v_79).toNat) v_86, p1_87, h1_88, by first | omega | (simp; done) | (simp only [List.length_append, List.length_cons, List.length_nil, List.length_set]; omega), by kernel_rfl, by kernel_rfl⟩
                  · refine R.lit (s := 1) (n := 2) (cs := rows eI [(-1), IntKind.i64.wrap (((shl64 1 n_1) - 1) + 1)]) (by kernel_rfl) (by kernel_rfl) ?_
                    refine R.go 1 (R.any2 1 12 (by kernel_rfl) (by kernel_rfl) ?_ ?_)
                    · refine R.go 2 (R.any1 12 (by kernel_rfl) (by kernel_rfl) ?_)
                      refine R.callX (CallX.inF 4 usC frC (CallX.box 4 26 [AI 0, .nil] (pickX_c_r5b c p1_80 h1_81 [(-1), IntKind.i64.wrap (((shl64 1 n_1) - 1) + 1)] eo1 so1 no1 co1 eo2 so2 no2 co2 eo3 so3 no3 co3 26 2 1 [AI 0, .nil] 2 1 xs_2.length (rows eI xs_2) 26 n_1 hc (by simp)) (by kernel_rfl) (by kernel_rfl) (by kernel_rfl) (by kernel_rfl) (by rintro _ _ ⟨_, _, _, rfl, rfl⟩; exact ⟨by kernel_rfl, by kernel_rfl, by kernel_rfl⟩)) (Nat.le_of_ble_eq_true (by kernel_rfl)) (by kernel_rfl) (by kernel_rfl) (by rintro _ _ ⟨_, ⟨_, _, _, rfl, rfl⟩, rfl⟩; exact Nat.le_of_ble_eq_true (by kernel_rfl))) (by kernel_rfl) (by kernel_rfl) (by kernel_rfl) ?_
                      rintro _ _ ⟨_, _, ⟨_, ⟨v_89, p1_90, h1_91, rfl, rfl⟩, rfl⟩, rfl, rfl⟩
                      refine R.go 1 (R.any1 13 (by kernel_rfl) (by kernel_rfl) ?_)
                      refine R.idxO 6 1 xs_2.length ((v_79).toNat) v_79 (by kernel_rfl) (by omega) (by omega) (by kernel_rfl) ?_
                      refine R.go 1 (R.any1 14 (by kernel_rfl) (by kernel_rfl) ?_)
                      refine R.stI 6 2 xs_2 ((v_79).toNat) v_89 (by kernel_rfl) (by omega) (by kernel_rfl) ?_
                      refine R.go 1 (R.any0 (by kernel_rfl) ?_)
                      refine R.go 6 (R.frz 6 (by kernel_rfl) ?_)
                      refine R.kfix 4 (us := usC) (by kernel_rfl) (hfC.frz 6 (LI (xs_2.set ((v_79).toNat) v_89)) (Nat.le_of_ble_eq_true (by kernel_rfl))) ?_
                      exact R.retX (res := .agg [AI n_1, LI (xs_2.set ((v_79).toNat) v_89)]) (hp' := [.box 112 [LB c, AI (p1_90 : Int), .int .u64 h1_91], .list eo1 so1 no1 co1, .list eo2 so2 no2 co2, .list eo3 so3 no3 co3, .dead, .box 26 [AI n_1, LI (xs_2.set ((v_79).toNat) v_89)], .dead, .box 26 [AI n_1, LI (xs_2.set ((v_79).toNat) v_89)]]) (by kernel_rfl) (by kernel_rfl) (by kernel_rfl) (by kernel_rfl) ⟨[0, 1, 2, 3], by kernel_rfl, by decide, n_1, xs_2.set ((v_79).toNat) v_89, p1_90, h1_91, by first | omega | (simp; done) | (simp only [List.length_append, List.length_cons, List.length_nil, List.length_set]; omega), by kernel_rfl, by kernel_rfl⟩
                    · refine R.callX (CallX.inF 4 usC frC (CallX.box 4 26 [AI 0, .nil] (pickX_c_r5b c p1_80 h1_81 [(-1), IntKind.i64.wrap (((shl64 1 n_1) - 1) + 1)] eo1 so1 no1 co1 eo2 so2 no2 co2 eo3 so3 no3 co3 26 2 1 [AI 0, .nil] 2 1 xs_2.length (rows eI xs_2) 26 n_1 hc (by simp)) (by kernel_rfl) (by kernel_rfl) (by kernel_rfl) (by kernel_rfl) (by rintro _ _ ⟨_, _, _, rfl, rfl⟩; exact ⟨by kernel_rfl, by kernel_rfl, by kernel_rfl⟩)) (Nat.le_of_ble_eq_true (by kernel_rfl)) (by kernel_rfl) (by kernel_rfl) (by rintro _ _ ⟨_, ⟨_, _, _, rfl, rfl⟩, rfl⟩; exact Nat.le_of_ble_eq_true (by kernel_rfl))) (by kernel_rfl) (by kernel_rfl) (by kernel_rfl) ?_
                      rintro _ _ ⟨_, _, ⟨_, ⟨v_92, p1_93, h1_94, rfl, rfl⟩, rfl⟩, rfl, rfl⟩
                      refine R.go 1 (R.any1 1 (by kernel_rfl) (by kernel_rfl) ?_)
                      refine R.go 2 (R.any1 13 (by kernel_rfl) (by kernel_rfl) ?_)
                      refine R.idxO 6 1 xs_2.length ((v_79).toNat) v_79 (by kernel_rfl) (by omega) (by omega) (by kernel_rfl) ?_
                      refine R.go 1 (R.any1 14 (by kernel_rfl) (by kernel_rfl) ?_)
                      refine R.stI 6 2 xs_2 ((v_79).toNat) v_92 (by kernel_rfl) (by omega) (by kernel_rfl) ?_
                      refine R.go 1 (R.any0 (by kernel_rfl) ?_)
                      refine R.go 6 (R.frz 6 (by kernel_rfl) ?_)
                      refine R.kfix 4 (us := usC) (by kernel_rfl) (hfC.frz 6 (LI (xs_2.set ((v_79).toNat) v_92)) (Nat.le_of_ble_eq_true (by kernel_rfl))) ?_
                      exact R.retX (res := .agg [AI n_1, LI (xs_2.set ((v_79).toNat) v_92)]) (hp' := [.box 112 [LB c, AI (p1_93 : Int), .int .u64 h1_94], .list eo1 so1 no1 co1, .list eo2 so2 no2 co2, .list eo3 so3 no3 co3, .dead, .box 26 [AI n_1, LI (xs_2.set ((v_79).toNat) v_92)], .dead, .box 26 [AI n_1, LI (xs_2.set ((v_79).toNat) v_92)]]) (by kernel_rfl) (by kernel_rfl) (by kernel_rfl) (by kernel_rfl) ⟨[0, 1, 2, 3], by kernel_rfl, by decide, n_1, xs_2.set ((v_79).toNat) v_92, p1_93, h1_94, by first | omega | (simp; done) | (simp only [List.length_append, List.length_cons, List.length_nil, List.length_set]; omega), by kernel_rfl, by kernel_rfl⟩
          · refine R.go 2 (R.any2 1 4 (by kernel_rfl) (by kernel_rfl) ?_ ?_)
            · refine R.go 2 (R.any1 4 (by kernel_rfl) (by kernel_rfl) ?_)
              refine R.go 2 (R.any1 5 (by kernel_rfl) (by kernel_rfl) ?_)
              refine R.callX (CallX.inF 4 usC frC (CallX.box 4 26 [AI 0, .nil] (nextX_c_r5b c p1_8 h1_9 n_1 eo1 so1 no1 co1 eo2 so2 no2 co2 eo3 so3 no3 co3 26 2 1 [AI 0, .nil] 2 1 xs_2.length (rows eI xs_2) 26 n_1 hc) (by kernel_rfl) (by kernel_rfl) (by kernel_rfl) (by kernel_rfl) (by rintro _ _ ⟨_, _, _, _, rfl, rfl⟩; exact ⟨by kernel_rfl, by kernel_rfl, by kernel_rfl⟩)) (Nat.le_of_ble_eq_true (by kernel_rfl)) (by kernel_rfl) (by kernel_rfl) (by rintro _ _ ⟨_, ⟨_, _, _, _, rfl, rfl⟩, rfl⟩; exact Nat.le_of_ble_eq_true (by kernel_rfl))) (by kernel_rfl) (by kernel_rfl) (by kernel_rfl) ?_
              rintro _ _ ⟨_, _, ⟨_, ⟨v_95, p1_96, h1_97, f98, rfl, rfl⟩, rfl⟩, rfl, rfl⟩
              refine R.go 1 (R.any1 9 (by kernel_rfl) (by kernel_rfl) ?_)
              refine R.call true (l01Full_c n_1 (by omega) (by omega)) (by kernel_rfl) rfl (by kernel_rfl) ?_
              refine R.go 1 (R.anyI 10 (AI (IntKind.i64.wrap (((shl64 1 n_1) - 1) + 1))) (by kernel_rfl) (np_retX _ _ _ _ _ _) ?_)
              refine R.any1 11 (by kernel_rfl) (by kernel_rfl) ?_
              refine R.lit (s := 1) (n := 2) (cs := rows eI [(-1), IntKind.i64.wrap (((shl64 1 n_1) - 1) + 1)]) (by kernel_rfl) (by kernel_rfl) ?_
              refine R.go 1 (R.any1 12 (by kernel_rfl) (by kernel_rfl) ?_)
              refine R.callX (CallX.inF 4 usC frC (CallX.box 4 26 [AI 0, .nil] (pickX_c_r5b c p1_96 h1_97 [(-1), IntKind.i64.wrap (((shl64 1 n_1) - 1) + 1)] eo1 so1 no1 co1 eo2 so2 no2 co2 eo3 so3 no3 co3 26 2 1 [AI 0, .nil] 2 1 xs_2.length (rows eI xs_2) 26 n_1 hc (by simp)) (by kernel_rfl) (by kernel_rfl) (by kernel_rfl) (by kernel_rfl) (by rintro _ _ ⟨_, _, _, rfl, rfl⟩; exact ⟨by kernel_rfl, by kernel_rfl, by kernel_rfl⟩)) (Nat.le_of_ble_eq_true (by kernel_rfl)) (by kernel_rfl) (by kernel_rfl) (by rintro _ _ ⟨_, ⟨_, _, _, rfl, rfl⟩, rfl⟩; exact Nat.le_of_ble_eq_true (by kernel_rfl))) (by kernel_rfl) (by kernel_rfl) (by kernel_rfl) ?_
              rintro _ _ ⟨_, _, ⟨_, ⟨v_99, p1_100, h1_101, rfl, rfl⟩, rfl⟩, rfl, rfl⟩
              refine R.go 1 (R.any1 13 (by kernel_rfl) (by kernel_rfl) ?_)
              refine R.idxO 6 1 xs_2.length ((v_95).toNat) v_95 (by kernel_rfl) (by omega) (by omega) (by kernel_rfl) ?_
              refine R.go 1 (R.any1 14 (by kernel_rfl) (by kernel_rfl) ?_)
              refine R.stI 6 2 xs_2 ((v_95).toNat) v_99 (by kernel_rfl) (by omega) (by kernel_rfl) ?_
              refine R.go 1 (R.any0 (by kernel_rfl) ?_)
              refine R.go 6 (R.frz 6 (by kernel_rfl) ?_)
              refine R.kfix 4 (us := usC) (by kernel_rfl) (hfC.frz 6 (LI (xs_2.set ((v_95).toNat) v_99)) (Nat.le_of_ble_eq_true (by kernel_rfl))) ?_
              exact R.retX (res := .agg [AI n_1, LI (xs_2.set ((v_95).toNat) v_99)]) (hp' := [.box 112 [LB c, AI (p1_100 : Int), .int .u64 h1_101], .list eo1 so1 no1 co1, .list eo2 so2 no2 co2, .list eo3 so3 no3 co3, .dead, .box 26 [AI n_1, LI (xs_2.set ((v_95).toNat) v_99)], .dead, .box 26 [AI n_1, LI (xs_2.set ((v_95).toNat) v_99)]]) (by kernel_rfl) (by kernel_rfl) (by kernel_rfl) (by kernel_rfl) ⟨[0, 1, 2, 3], by kernel_rfl, by decide, n_1, xs_2.set ((v_95).toNat) v_99, p1_100, h1_101, by first | omega | (simp; done) | (simp only [List.length_append, List.length_cons, List.length_nil, List.length_set]; omega), by kernel_rfl, by kernel_rfl⟩
            · refine R.go 2 (R.any2 1 5 (by kernel_rfl) (by kernel_rfl) ?_ ?_)
              · refine R.go 2 (R.any1 5 (by kernel_rfl) (by kernel_rfl) ?_)
                refine R.callX (CallX.inF 4 usC frC (CallX.box 4 26 [AI 0, .nil] (nextX_c_r5b c p1_8 h1_9 n_1 eo1 so1 no1 co1 eo2 so2 no2 co2 eo3 so3 no3 co3 26 2 1 [AI 0, .nil] 2 1 xs_2.length (rows eI xs_2) 26 n_1 hc) (by kernel_rfl) (by kernel_rfl) (by kernel_rfl) (by kernel_rfl) (by rintro _ _ ⟨_, _, _, _, rfl, rfl⟩; exact ⟨by kernel_rfl, by kernel_rfl, by kernel_rfl⟩)) (Nat.le_of_ble_eq_true (by kernel_rfl)) (by kernel_rfl) (by kernel_rfl) (by rintro _ _ ⟨_, ⟨_, _, _, _, rfl, rfl⟩, rfl⟩; exact Nat.le_of_ble_eq_true (by kernel_rfl))) (by kernel_rfl) (by kernel_rfl) (by kernel_rfl) ?_
                rintro _ _ ⟨_, _, ⟨_, ⟨v_102, p1_103, h1_104, f105, rfl, rfl⟩, rfl⟩, rfl, rfl⟩
                refine R.go 1 (R.any1 9 (by kernel_rfl) (by kernel_rfl) ?_)
                refine R.call true (l01Full_c n_1 (by omega) (by omega)) (by kernel_rfl) rfl (by kernel_rfl) ?_
                refine R.go 1 (R.anyI 10 (AI (IntKind.i64.wrap (((shl64 1 n_1) - 1) + 1))) (by kernel_rfl) (np_retX _ _ _ _ _ _) ?_)
                refine R.any1 11 (by kernel_rfl) (by kernel_rfl) ?_
                refine R.lit (s := 1) (n := 2) (cs := rows eI [(-1), IntKind.i64.wrap (((shl64 1 n_1) - 1) + 1)]) (by kernel_rfl) (by kernel_rfl) ?_
                refine R.go 1 (R.any1 12 (by kernel_rfl) (by kernel_rfl) ?_)
                refine R.callX (CallX.inF 4 usC frC (CallX.box 4 26 [AI 0, .nil] (pickX_c_r5b c p1_103 h1_104 [(-1), IntKind.i64.wrap (((shl64 1 n_1) - 1) + 1)] eo1 so1 no1 co1 eo2 so2 no2 co2 eo3 so3 no3 co3 26 2 1 [AI 0, .nil] 2 1 xs_2.length (rows eI xs_2) 26 n_1 hc (by simp)) (by kernel_rfl) (by kernel_rfl) (by kernel_rfl) (by kernel_rfl) (by rintro _ _ ⟨_, _, _, rfl, rfl⟩; exact ⟨by kernel_rfl, by kernel_rfl, by kernel_rfl⟩)) (Nat.le_of_ble_eq_true (by kernel_rfl)) (by kernel_rfl) (by kernel_rfl) (by rintro _ _ ⟨_, ⟨_, _, _, rfl, rfl⟩, rfl⟩; exact Nat.le_of_ble_eq_true (by kernel_rfl))) (by kernel_rfl) (by kernel_rfl) (by kernel_rfl) ?_
                rintro _ _ ⟨_, _, ⟨_, ⟨v_106, p1_107, h1_108, rfl, rfl⟩, rfl⟩, rfl, rfl⟩
                refine R.go 1 (R.any1 13 (by kernel_rfl) (by kernel_rfl) ?_)
                refine R.idxO 6 1 xs_2.length ((v_102).toNat) v_102 (by kernel_rfl) (by omega) (by omega) (by kernel_rfl) ?_
                refine R.go 1 (R.any1 14 (by kernel_rfl) (by kernel_rfl) ?_)
                refine R.stI 6 2 xs_2 ((v_102).toNat) v_106 (by kernel_rfl) (by omega) (by kernel_rfl) ?_
                refine R.go 1 (R.any0 (by kernel_rfl) ?_)
                refine R.go 6 (R.frz 6 (by kernel_rfl) ?_)
                refine R.kfix 4 (us := usC) (by kernel_rfl) (hfC.frz 6 (LI (xs_2.set ((v_102).toNat) v_106)) (Nat.le_of_ble_eq_true (by kernel_rfl))) ?_
                exact R.retX (res := .agg [AI n_1, LI (xs_2.set ((v_102).toNat) v_106)]) (hp' := [.box 112 [LB c, AI (p1_107 : Int), .int .u64 h1_108], .list eo1 so1 no1 co1, .list eo2 so2 no2 co2, .list eo3 so3 no3 co3, .dead, .box 26 [AI n_1, LI (xs_2.set ((v_102).toNat) v_106)], .dead, .box 26 [AI n_1, LI (xs_2.set ((v_102).toNat) v_106)]]) (by kernel_rfl) (by kernel_rfl) (by kernel_rfl) (by kernel_rfl) ⟨[0, 1, 2, 3], by kernel_rfl, by decide, n_1, xs_2.set ((v_102).toNat) v_106, p1_107, h1_108, by first | omega | (simp; done) | (simp only [List.length_append, List.length_cons, List.length_nil, List.length_set]; omega), by kernel_rfl, by kernel_rfl⟩
              · refine R.callX (CallX.inF 4 usC frC (CallX.box 4 26 [AI 0, .nil] (nextX_c_r5b c p1_8 h1_9 n_1 eo1 so1 no1 co1 eo2 so2 no2 co2 eo3 so3 no3 co3 26 2 1 [AI 0, .nil] 2 1 xs_2.length (rows eI xs_2) 26 n_1 hc) (by kernel_rfl) (by kernel_rfl) (by kernel_rfl) (by kernel_rfl) (by rintro _ _ ⟨_, _, _, _, rfl, rfl⟩; exact ⟨by kernel_rfl, by kernel_rfl, by kernel_rfl⟩)) (Nat.le_of_ble_eq_true (by kernel_rfl)) (by kernel_rfl) (by kernel_rfl) (by rintro _ _ ⟨_, ⟨_, _, _, _, rfl, rfl⟩, rfl⟩; exact Nat.le_of_ble_eq_true (by kernel_rfl))) (by kernel_rfl) (by kernel_rfl) (by kernel_rfl) ?_
                rintro _ _ ⟨_, _, ⟨_, ⟨v_109, p1_110, h1_111, f112, rfl, rfl⟩, rfl⟩, rfl, rfl⟩
                refine R.go 1 (R.any2 1 9 (by kernel_rfl) (by kernel_rfl) ?_ ?_)
                · refine R.go 2 (R.any1 9 (by kernel_rfl) (by kernel_rfl) ?_)
                  refine R.call true (l01Full_c n_1 (by omega) (by omega)) (by kernel_rfl) rfl (by kernel_rfl) ?_
                  refine R.go 1 (R.anyI 10 (AI (IntKind.i64.wrap (((shl64 1 n_1) - 1) + 1))) (by kernel_rfl) (np_retX _ _ _ _ _ _) ?_)
                  refine R.any1 11 (by kernel_rfl) (by kernel_rfl) ?_
                  refine R.lit (s := 1) (n := 2) (cs := rows eI [(-1), IntKind.i64.wrap (((shl64 1 n_1) - 1) + 1)]) (by kernel_rfl) (by kernel_rfl) ?_
                  refine R.go 1 (R.any1 12 (by kernel_rfl) (by kernel_rfl) ?_)
                  refine R.callX (CallX.inF 4 usC frC (CallX.box 4 26 [AI 0, .nil] (pickX_c_r5b c p1_110 h1_111 [(-1), IntKind.i64.wrap (((shl64 1 n_1) - 1) + 1)] eo1 so1 no1 co1 eo2 so2 no2 co2 eo3 so3 no3 co3 26 2 1 [AI 0, .nil] 2 1 xs_2.length (rows eI xs_2) 26 n_1 hc (by simp)) (by kernel_rfl) (by kernel_rfl) (by kernel_rfl) (by kernel_rfl) (by rintro _ _ ⟨_, _, _, rfl, rfl⟩; exact ⟨by kernel_rfl, by kernel_rfl, by kernel_rfl⟩)) (Nat.le_of_ble_eq_true (by kernel_rfl)) (by kernel_rfl) (by kernel_rfl) (by rintro _ _ ⟨_, ⟨_, _, _, rfl, rfl⟩, rfl⟩; exact Nat.le_of_ble_eq_true (by kernel_rfl))) (by kernel_rfl) (by kernel_rfl) (by kernel_rfl) ?_
                  rintro _ _ ⟨_, _, ⟨_, ⟨v_113, p1_114, h1_115, rfl, rfl⟩, rfl⟩, rfl, rfl⟩
                  refine R.go 1 (R.any1 13 (by kernel_rfl) (by kernel_rfl) ?_)
                  refine R.idxO 6 1 xs_2.length ((v_109).toNat) v_109 (by kernel_rfl) (by omega) (by omega) (by kernel_rfl) ?_
                  refine R.go 1 (R.any1 14 (by kernel_rfl) (by kernel_rfl) ?_)
                  refine R.stI 6 2 xs_2 ((v_109).toNat) v_113 (by kernel_rfl) (by omega) (by kernel_rfl) ?_
                  refine R.go 1 (R.any0 (by kernel_rfl) ?_)
                  refine R.go 6 (R.frz 6 (by kernel_rfl) ?_)
                  refine R.kfix 4 (us := usC) (by kernel_rfl) (hfC.frz 6 (LI (xs_2.set ((v_109).toNat) v_113)) (Nat.le_of_ble_eq_true (by kernel_rfl))) ?_
                  exact R.retX (res := .agg [AI n_1, LI (xs_2.set ((v_109).toNat) v_113)]) (hp' := [.box 112 [LB c, AI (p1_114 : Int), .int .u64 h1_115], .list eo1 so1 no1 co1, .list eo2 so2 no2 co2, .list eo3 so3 no3 co3, .dead, .box 26 [AI n_1, LI (xs_2.set ((v_109).toNat) v_113)], .dead, .box 26 [AI n_1, LI (xs_2.set ((v_109).toNat) v_113)]]) (by kernel_rfl) (by kernel_rfl) (by kernel_rfl) (by kernel_rfl) ⟨[0, 1, 2, 3], by kernel_rfl, by decide, n_1, xs_2.set ((v_109).toNat) v_113, p1_114, h1_115, by first | omega | (simp; done) | (simp only [List.length_append, List.length_cons, List.length_nil, List.length_set]; omega), by kernel_rfl, by kernel_rfl⟩
                · refine R.call true (l01Full_c n_1 (by omega) (by omega)) (by kernel_rfl) rfl (by kernel_rfl) ?_
                  refine R.go 1 (R.anyI 10 (AI (IntKind.i64.wrap (((shl64 1 n_1) - 1) + 1))) (by kernel_rfl) (np_retX _ _ _ _ _ _) ?_)
                  refine R.any2 1 11 (by kernel_rfl) (by kernel_rfl) ?_ ?_
                  · refine R.go 2 (R.any1 11 (by kernel_rfl) (by kernel_rfl) ?_)
                    refine R.lit (s := 1) (n := 2) (cs := rows eI [(-1), IntKind.i64.wrap (((shl64 1 n_1) - 1) + 1)]) (by kernel_rfl) (by kernel_rfl) ?_
                    refine R.go 1 (R.any1 12 (by kernel_rfl) (by kernel_rfl) ?_)
                    refine R.callX (CallX.inF 4 usC frC (CallX.box 4 26 [AI 0, .nil] (pickX_c_r5b c p1_110 h1_111 [(-1), IntKind.i64.wrap (((shl64 1 n_1) - 1) + 1)] eo1 so1 no1 co1 eo2 so2 no2 co2 eo3 so3 no3 co3 26 2 1 [AI 0, .nil] 2 1 xs_2.length (rows eI xs_2) 26 n_1 hc (by simp)) (by kernel_rfl) (by kernel_rfl) (by kernel_rfl) (by kernel_rfl) (by rintro _ _ ⟨_, _, _, rfl, rfl⟩; exact ⟨by kernel_rfl, by kernel_rfl, by kernel_rfl⟩)) (Nat.le_of_ble_eq_true (by kernel_rfl)) (by kernel_rfl) (by kernel_rfl) (by rintro _ _ ⟨_, ⟨_, _, _, rfl, rfl⟩, rfl⟩; exact Nat.le_of_ble_eq_true (by kernel_rfl))) (by kernel_rfl) (by kernel_rfl) (by kernel_rfl) ?_
                    rintro _ _ ⟨_, _, ⟨_, ⟨v_116, p1_117, h1_118, rfl, rfl⟩, rfl⟩, rfl, rfl⟩
                    refine R.go 1 (R.any1 13 (by kernel_rfl) (by kernel_rfl) ?_)
                    refine R.idxO 6 1 xs_2.length ((v_109).toNat) v_109 (by kernel_rfl) (by omega) (by omega) (by kernel_rfl) ?_
                    refine R.go 1 (R.any1 14 (by kernel_rfl) (by kernel_rfl) ?_)
                    refine R.stI 6 2 xs_2 ((v_109).toNat) v_116 (by kernel_rfl) (by omega) (by kernel_rfl) ?_
                    refine R.go 1 (R.any0 (by kernel_rfl) ?_)
                    refine R.go 6 (R.frz 6 (by kernel_rfl) ?_)
                    refine R.kfix 4 (us := usC) (by kernel_rfl) (hfC.frz 6 (LI (xs_2.set ((v_109).toNat) v_116)) (Nat.le_of_ble_eq_true (by kernel_rfl))) ?_
                    exact R.retX (res := .agg [AI n_1, LI (xs_2.set ((v_109).toNat) v_116)]) (hp' := [.box 112 [LB c, AI (p1_117 : Int), .int .u64 h1_118], .list eo1 so1 no1 co1, .list eo2 so2 no2 co2, .list eo3 so3 no3 co3, .dead, .box 26 [AI n_1, LI (xs_2.set ((v_109).toNat) v_116)], .dead, .box 26 [AI n_1, LI (xs_2.set ((v_109).toNat) v_116)]]) (by kernel_rfl) (by kernel_rfl) (by kernel_rfl) (by kernel_rfl) ⟨[0, 1, 2, 3], by kernel_rfl, by decide, n_1, xs_2.set ((v_109).toNat) v_116, p1_117, h1_118, by first | omega | (simp; done) | (simp only [List.length_append, List.length_cons, List.length_nil, List.length_set]; omega), by kernel_rfl, by kernel_rfl⟩
                  · refine R.lit (s := 1) (n := 2) (cs := rows eI [(-1), IntKind.i64.wrap (((shl64 1 n_1) - 1) + 1)]) (by kernel_rfl) (by kernel_rfl) ?_
                    refine R.go 1 (R.any2 1 12 (by kernel_rfl) (by kernel_rfl) ?_ ?_)
                    · refine R.go 2 (R.any1 12 (by kernel_rfl) (by kernel_rfl) ?_)
                      refine R.callX (CallX.inF 4 usC frC (CallX.box 4 26 [AI 0, .nil] (pickX_c_r5b c p1_110 h1_111 [(-1), IntKind.i64.wrap (((shl64 1 n_1) - 1) + 1)] eo1 so1 no1 co1 eo2 so2 no2 co2 eo3 so3 no3 co3 26 2 1 [AI 0, .nil] 2 1 xs_2.length (rows eI xs_2) 26 n_1 hc (by simp)) (by kernel_rfl) (by kernel_rfl) (by kernel_rfl) (by kernel_rfl) (by rintro _ _ ⟨_, _, _, rfl, rfl⟩; exact ⟨by kernel_rfl, by kernel_rfl, by kernel_rfl⟩)) (Nat.le_of_ble_eq_true (by kernel_rfl)) (by kernel_rfl) (by kernel_rfl) (by rintro _ _ ⟨_, ⟨_, _, _, rfl, rfl⟩, rfl⟩; exact Nat.le_of_ble_eq_true (by kernel_rfl))) (by kernel_rfl) (by kernel_rfl) (by kernel_rfl) ?_
                      rintro _ _ ⟨_, _, ⟨_, ⟨v_119, p1_120, h1_121, rfl, rfl⟩, rfl⟩, rfl, rfl⟩
                      refine R.go 1 (R.any1 13 (by kernel_rfl) (by kernel_rfl) ?_)
                      refine R.idxO 6 1 xs_2.length ((v_109).toNat) v_109 (by kernel_rfl) (by omega) (by omega) (by kernel_rfl) ?_
                      refine R.go 1 (R.any1 14 (by kernel_rfl) (by kernel_rfl) ?_)
                      refine R.stI 6 2 xs_2 ((v_109).toNat) v_119 (by kernel_rfl) (by omega) (by kernel_rfl) ?_
                      refine R.go 1 (R.any0 (by kernel_rfl) ?_)
                      refine R.go 6 (R.frz 6 (by kernel_rfl) ?_)
                      refine R.kfix 4 (us := usC) (by kernel_rfl) (hfC.frz 6 (LI (xs_2.set ((v_109).toNat) v_119)) (Nat.le_of_ble_eq_true (by kernel_rfl))) ?_
                      exact R.retX (res := .agg [AI n_1, LI (xs_2.set ((v_109).toNat) v_119)]) (hp' := [.box 112 [LB c, AI (p1_120 : Int), .int .u64 h1_121], .list eo1 so1 no1 co1, .list eo2 so2 no2 co2, .list eo3 so3 no3 co3, .dead, .box 26 [AI n_1, LI (xs_2.set ((v_109).toNat) v_119)], .dead, .box 26 [AI n_1, LI (xs_2.set ((v_109).toNat) v_119)]]) (by kernel_rfl) (by kernel_rfl) (by kernel_rfl) (by kernel_rfl) ⟨[0, 1, 2, 3], by kernel_rfl, by decide, n_1, xs_2.set ((v_109).toNat) v_119, p1_120, h1_121, by first | omega | (simp; done) | (simp only [List.length_append, List.length_cons, List.length_nil, List.length_set]; omega), by kernel_rfl, by kernel_rfl⟩
                    · refine R.callX (CallX.inF 4 usC frC (CallX.box 4 26 [AI 0, .nil] (pickX_c_r5b c p1_110 h1_111 [(-1), IntKind.i64.wrap (((shl64 1 n_1) - 1) + 1)] eo1 so1 no1 co1 eo2 so2 no2 co2 eo3 so3 no3 co3 26 2 1 [AI 0, .nil] 2 1 xs_2.length (rows eI xs_2) 26 n_1 hc (by simp)) (by kernel_rfl) (by kernel_rfl) (by kernel_rfl) (by kernel_rfl) (by rintro _ _ ⟨_, _, _, rfl, rfl⟩; exact ⟨by kernel_rfl, by kernel_rfl, by kernel_rfl⟩)) (Nat.le_of_ble_eq_true (by kernel_rfl)) (by kernel_rfl) (by kernel_rfl) (by rintro _ _ ⟨_, ⟨_, _, _, rfl, rfl⟩, rfl⟩; exact Nat.le_of_ble_eq_true (by kernel_rfl))) (by kernel_rfl) (by kernel_rfl) (by kernel_rfl) ?_
                      rintro _ _ ⟨_, _, ⟨_, ⟨v_122, p1_123, h1_124, rfl, rfl⟩, rfl⟩, rfl, rfl⟩
                      refine R.go 1 (R.any1 1 (by kernel_rfl) (by kernel_rfl) ?_)
                      refine R.go 2 (R.any1 13 (by kernel_rfl) (by kernel_rfl) ?_)
                      refine R.idxO 6 1 xs_2.length ((v_109).toNat) v_109 (by kernel_rfl) (by omega) (by omega) (by kernel_rfl) ?_
                      refine R.go 1 (R.any1 14 (by kernel_rfl) (by kernel_rfl) ?_)
                      refine R.stI 6 2 xs_2 ((v_109).toNat) v_122 (by kernel_rfl) (by omega) (by kernel_rfl) ?_
                      refine R.go 1 (R.any0 (by kernel_rfl) ?_)
                      refine R.go 6 (R.frz 6 (by kernel_rfl) ?_)
                      refine R.kfix 4 (us := usC) (by kernel_rfl) (hfC.frz 6 (LI (xs_2.set ((v_109).toNat) v_122)) (Nat.le_of_ble_eq_true (by kernel_rfl))) ?_
                      exact R.retX (res := .agg [AI n_1, LI (xs_2.set ((v_109).toNat) v_122)]) (hp' := [.box 112 [LB c, AI (p1_123 : Int), .int .u64 h1_124], .list eo1 so1 no1 co1, .list eo2 so2 no2 co2, .list eo3 so3 no3 co3, .dead, .box 26 [AI n_1, LI (xs_2.set ((v_109).toNat) v_122)], .dead, .box 26 [AI n_1, LI (xs_2.set ((v_109).toNat) v_122)]]) (by kernel_rfl) (by kernel_rfl) (by kernel_rfl) (by kernel_rfl) ⟨[0, 1, 2, 3], by kernel_rfl, by decide, n_1, xs_2.set ((v_109).toNat) v_122, p1_123, h1_124, by first | omega | (simp; done) | (simp only [List.length_append, List.length_cons, List.length_nil, List.length_set]; omega), by kernel_rfl, by kernel_rfl⟩
        · refine R.go 7 (R.frz 6 (by kernel_rfl) ?_)
          refine R.kfix 4 (us := usC) (by kernel_rfl) (hfC.frz 6 (LI xs_2) (Nat.le_of_ble_eq_true (by kernel_rfl))) ?_
          exact R.retX (res := .agg [AI n_1, LI xs_2]) (hp' := [.box 112 [LB c, AI (p1_8 : Int), .int .u64 h1_9], .list eo1 so1 no1 co1, .list eo2 so2 no2 co2, .list eo3 so3 no3 co3, .dead, .box 26 [AI n_1, LI xs_2], .dead, .box 26 [AI n_1, LI xs_2]]) (by kernel_rfl) (by kernel_rfl) (by kernel_rfl) (by kernel_rfl) ⟨[0, 1, 2, 3], by kernel_rfl, by decide, n_1, xs_2, p1_8, h1_9, by first | omega | (simp; done) | (simp only [List.length_append, List.length_cons, List.length_nil, List.length_set]; omega), by kernel_rfl, by kernel_rfl⟩
      · refine R.go 7 (R.frz 6 (by kernel_rfl) ?_)
        refine R.kfix 4 (us := usC) (by kernel_rfl) (hfC.frz 6 (LI xs_2) (Nat.le_of_ble_eq_true (by kernel_rfl))) ?_
        exact R.retX (res := .agg [AI n_1, LI xs_2]) (hp' := [.box 112 [LB c, AI (p1_8 : Int), .int .u64 h1_9], .list eo1 so1 no1 co1, .list eo2 so2 no2 co2, .list eo3 so3 no3 co3, .dead, .box 26 [AI n_1, LI xs_2], .dead, .box 26 [AI n_1, LI xs_2]]) (by kernel_rfl) (by kernel_rfl) (by kernel_rfl) (by kernel_rfl) ⟨[0, 1, 2, 3], by kernel_rfl, by decide, n_1, xs_2, p1_8, h1_9, by first | omega | (simp; done) | (simp only [List.length_append, List.length_cons, List.length_nil, List.length_set]; omega), by kernel_rfl, by kernel_rfl⟩

end Go.Proofs.Ytgebepfdphmjcaa
