/- Texts of the proof: E04. -/
import Derived.Test.YtpalghbfhgimkaaPartH

/-! Draws of frames, second part. -/
namespace Go.Proofs.Ytpalghbfhgimkaa
open Go.RowKit Go.Abs

theorem frameX_c_r3 (c : List Int) (p : Nat) (h : Int) (worlds : Int) (eo1 : Nat) (so1 : Nat) (no1 : Nat) (co1 : List AV) (eo2 : Nat) (so2 : Nat) (no2 : Nat) (co2 : List AV) (eo3 : Nat) (so3 : Nat) (no3 : Nat) (co3 : List AV) (hc : BY c) (hw : 0 ≤ worlds ∧ worlds ≤ 20) : CallX Try.prog 72 [.ptr 0 0, AI worlds] [.box 98 [LB c, AI (p : Int), .int .u64 h], .list eo1 so1 no1 co1, .list eo2 so2 no2 co2, .list eo3 so3 no3 co3] (fun (resX : AV) (objX : List AObj) => ∃ n : Int, ∃ xs : List Int, ∃ p1 : Nat, ∃ h1 : Int, ((xs.length : Int) ≤ worlds + 1) ∧ resX = .agg [AI n, LI xs] ∧ objX = [.box 98 [LB c, AI (p1 : Int), .int .u64 h1], .list eo1 so1 no1 co1, .list eo2 so2 no2 co2, .list eo3 so3 no3 co3]) := by
  have hcl : c.length ≤ 4096 := hc.1
  have hcb := hc.2
  refine CallX.dropE (CallX.ofF Try.func72 rfl (by kernel_rfl) ?_)
  intro usC frC hfC
  refine R.go 8 (R.callX (CallX.inF 4 usC frC (CallX.box 4 32 [AI 0, .nil] (someO_c_r4 c p h worlds eo1 so1 no1 co1 eo2 so2 no2 co2 eo3 so3 no3 co3 32 2 1 [AI 0, .nil] hc hw) (by kernel_rfl) (by kernel_rfl) (by kernel_rfl) (by kernel_rfl) (by rintro _ _ ⟨_, _, _, _, _, _, rfl, rfl⟩; exact ⟨by kernel_rfl, by kernel_rfl, by kernel_rfl⟩)) (Nat.le_of_ble_eq_true (by kernel_rfl)) (by kernel_rfl) (by kernel_rfl) (by rintro _ _ ⟨_, ⟨_, _, _, _, _, _, rfl, rfl⟩, rfl⟩; exact Nat.le_of_ble_eq_true (by kernel_rfl))) (by kernel_rfl) (by kernel_rfl) (by kernel_rfl) ?_)
  rintro _ _ ⟨_, _, ⟨_, ⟨n_1, xs_2, p1_3, h1_4, f5, f6, rfl, rfl⟩, rfl⟩, rfl, rfl⟩
  refine R.go 7 (R.callX (CallX.inF 4 usC frC (CallX.box 4 32 [AI 0, .nil] (nextX_c_r5b c p1_3 h1_4 40 eo1 so1 no1 co1 eo2 so2 no2 co2 eo3 so3 no3 co3 32 2 1 [AI 0, .nil] 2 1 xs_2.length (rows eI xs_2) 32 n_1 hc) (by kernel_rfl) (by kernel_rfl) (by kernel_rfl) (by kernel_rfl) (by rintro _ _ ⟨_, _, _, _, rfl, rfl⟩; exact ⟨by kernel_rfl, by kernel_rfl, by kernel_rfl⟩)) (Nat.le_of_ble_eq_true (by kernel_rfl)) (by kernel_rfl) (by kernel_rfl) (by rintro _ _ ⟨_, ⟨_, _, _, _, rfl, rfl⟩, rfl⟩; exact Nat.le_of_ble_eq_true (by kernel_rfl))) (by kernel_rfl) (by kernel_rfl) (by kernel_rfl) ?_)
  rintro _ _ ⟨_, _, ⟨_, ⟨v_7, p1_8, h1_9, f10, rfl, rfl⟩, rfl⟩, rfl, rfl⟩
  refine R.go 7 (R.cond (v_7 = 0) (by kernel_rfl) (fun c11 => ?_) (fun c11 => ?_))
  · refine R.go 4 (R.ar (n_1 + 1) (by kernel_rfl) (by omega) (by omega) (by kernel_rfl) ?_)
    refine R.lit (s := 1) (n := 3) (cs := rows eI [(-1), 9, n_1 + 1]) (by kernel_rfl) (by kernel_rfl) ?_
    refine R.callX (CallX.inF 4 usC frC (CallX.box 4 32 [AI 0, .nil] (pickX_c_r5b c p1_8 h1_9 [(-1), 9, n_1 + 1] eo1 so1 no1 co1 eo2 so2 no2 co2 eo3 so3 no3 co3 32 2 1 [AI 0, .nil] 2 1 xs_2.length (rows eI xs_2) 32 n_1 hc (by simp)) (by kernel_rfl) (by kernel_rfl) (by kernel_rfl) (by kernel_rfl) (by rintro _ _ ⟨_, _, _, rfl, rfl⟩; exact ⟨by kernel_rfl, by kernel_rfl, by kernel_rfl⟩)) (Nat.le_of_ble_eq_true (by kernel_rfl)) (by kernel_rfl) (by kernel_rfl) (by rintro _ _ ⟨_, ⟨_, _, _, rfl, rfl⟩, rfl⟩; exact Nat.le_of_ble_eq_true (by kernel_rfl))) (by kernel_rfl) (by kernel_rfl) (by kernel_rfl) ?_
    rintro _ _ ⟨_, _, ⟨_, ⟨v_12, p1_13, h1_14, rfl, rfl⟩, rfl⟩, rfl, rfl⟩
    refine R.go 9 (R.frz 6 (by kernel_rfl) ?_)
    refine R.kfix 4 (us := usC) (by kernel_rfl) (hfC.frz 6 (LI xs_2) (Nat.le_of_ble_eq_true (by kernel_rfl))) ?_
    exact R.retX (res := .agg [AI v_12, LI xs_2]) (hp' := [.box 98 [LB c, AI (p1_13 : Int), .int .u64 h1_14], .list eo1 so1 no1 co1, .list eo2 so2 no2 co2, .list eo3 so3 no3 co3, .dead, .box 32 [AI v_12, LI xs_2], .dead, .box 32 [AI v_12, LI xs_2]]) (by kernel_rfl) (by kernel_rfl) (by kernel_rfl) (by kernel_rfl) ⟨[0, 1, 2, 3], by kernel_rfl, by decide, v_12, xs_2, p1_13, h1_14, by first | omega | (simp; done) | (simp only [List.length_append, List.length_cons, List.length_nil, List.length_set]; omega), by kernel_rfl, by kernel_rfl⟩
  · refine R.go 5 (R.cond (v_7 = 1) (by kernel_rfl) (fun c15 => ?_) (fun c15 => ?_))
    · refine R.go 3 (R.call false (l01Own_c xs_2 (by first | omega | (simp <;> omega))) (by kernel_rfl) (ownA_closed eI_closed 2 1 xs_2) (by kernel_rfl) ?_)
      refine R.go 1 (R.app eI xs_2 [0] 8 2 1 8 (by kernel_rfl) eI_one (by decide) (by first | omega | (simp <;> omega)) (by kernel_rfl) ?_)
      refine R.kfix 4 (us := usC) (by kernel_rfl) (hfC.kill 8 (Nat.le_of_ble_eq_true (by kernel_rfl))) ?_
      refine R.go 9 (R.frz 8 (by kernel_rfl) ?_)
      refine R.kfix 4 (us := usC) (by kernel_rfl) (hfC.frz 8 (LI (xs_2 ++ [0])) (Nat.le_of_ble_eq_true (by kernel_rfl))) ?_
      exact R.retX (res := .agg [AI n_1, LI (xs_2 ++ [0])]) (hp' := [.box 98 [LB c, AI (p1_8 : Int), .int .u64 h1_9], .list eo1 so1 no1 co1, .list eo2 so2 no2 co2, .list eo3 so3 no3 co3, .dead, .box 32 [AI n_1, LI (xs_2 ++ [0])], rowA eI 2 1 xs_2, .box 32 [AI n_1, LI (xs_2 ++ [0])], .dead, rowA eI 2 1 [0]]) (by kernel_rfl) (by kernel_rfl) (by kernel_rfl) (by kernel_rfl) ⟨[0, 1, 2, 3], by kernel_rfl, by decide, n_1, xs_2 ++ [0], p1_8, h1_9, by first | omega | (simp; done) | (simp only [List.length_append, List.length_cons, List.length_nil, List.length_set]; omega), by kernel_rfl, by kernel_rfl⟩
    · refine R.go 5 (R.cond (v_7 = 2) (by kernel_rfl) (fun c16 => ?_) (fun c16 => ?_))
      · have hb : 1 ≤ shl64 1 n_1 ∧ shl64 1 n_1 ≤ 4611686018427387904 := shl_rng n_1 (by omega) (by omega)
        refine R.go 6 (R.cond (n_1 > 0) (by kernel_rfl) (fun c17 => ?_) (fun c17 => ?_))
        · refine R.meetF (α := Int × Nat × Int × Int × Nat × Int) (fun | (v_18, p1_19, h1_20, v_22, p1_23, h1_24) => ((n_1 < 1 → v_18 = 0) ∧ (1 ≤ n_1 → 0 ≤ v_18 ∧ v_18 < n_1))) (fun | (v_18, p1_19, h1_20, v_22, p1_23, h1_24) => (⟨(frm 48 [(0, .ptr 0 0), (1, AI worlds), (4, .ptr 5 0), (5, .ptr 7 0), (6, .ptr 0 0), (7, AI worlds), (8, .agg [AI n_1, .ref 6]), (9, .ptr 0 0), (10, AI v_7), (11, .bool (decide (v_7 = 0))), (12, .bool (decide (v_7 = 0))), (20, .bool (decide (v_7 = 1))), (21, .bool (decide (v_7 = 1))), (28, .bool (decide (v_7 = 2))), (29, .bool (decide (v_7 = 2))), (30, .ptr 7 0), (31, AI n_1), (32, .bool (decide (n_1 > 0))), (33, .ptr 7 1), (34, .ref 6), (35, .ptr 0 0), (36, .ptr 7 0), (37, AI n_1), (38, AI v_18), (39, .ptr 0 0), (40, .ptr 7 0), (41, AI n_1), (42, AI ((shl64 1 n_1) - 1)), (43, AI (((shl64 1 n_1) - 1) + 1)), (44, LI [(-1), ((shl64 1 n_1) - 1) + 1]), (45, AI v_22), (46, .ptr 6 (((v_18).toNat) * 1))]), [.box 98 [LB c, AI (p1_23 : Int), .int .u64 h1_24], .list eo1 so1 no1 co1, .list eo2 so2 no2 co2, .list eo3 so3 no3 co3, .frame usC frC, .box 32 [AI 0, .nil], rowA eI 2 1 (xs_2.set ((v_18).toNat) v_22), .box 32 [AI n_1, .ref 6]]⟩ : St)) (by kernel_rfl) ?_ ?_
          · refine R.any (by decide +kernel) (by kernel_rfl) ?_
            refine R.anyF 2 (by kernel_rfl) (np_meetF _ _) ?_
            refine R.anyF 6 (by kernel_rfl) (np_meetF _ _) ?_
            refine R.anyA 0 (.ptr 7 1) (by kernel_rfl) (np_meetF _ _) ?_
            refine R.anyA 3 (.ptr 7 0) (by kernel_rfl) (np_meetF _ _) ?_
            refine R.anyA 7 (.ptr 7 0) (by kernel_rfl) (np_meetF _ _) ?_
            refine R.any3 1 4 8 (by kernel_rfl) (by kernel_rfl) ?_ ?_ ?_
            · refine R.go 2 (R.any2 4 8 (by kernel_rfl) (by kernel_rfl) ?_ ?_)
              · refine R.go 2 (R.any2 5 8 (by kernel_rfl) (by kernel_rfl) ?_ ?_)
                · refine R.callX (CallX.inF 4 usC frC (CallX.box 4 32 [AI 0, .nil] (nextX_c_r5b c p1_8 h1_9 n_1 eo1 so1 no1 co1 eo2 so2 no2 co2 eo3 so3 no3 co3 32 2 1 [AI 0, .nil] 2 1 xs_2.length (rows eI xs_2) 32 n_1 hc) (by kernel_rfl) (by kernel_rfl) (by kernel_rfl) (by kernel_rfl) (by rintro _ _ ⟨_, _, _, _, rfl, rfl⟩; exact ⟨by kernel_rfl, by kernel_rfl, by kernel_rfl⟩)) (Nat.le_of_ble_eq_true (by kernel_rfl)) (by kernel_rfl) (by kernel_rfl) (by rintro _ _ ⟨_, ⟨_, _, _, _, rfl, rfl⟩, rfl⟩; exact Nat.le_of_ble_eq_true (by kernel_rfl))) (by kernel_rfl) (by kernel_rfl) (by kernel_rfl) ?_
                  rintro _ _ ⟨_, _, ⟨_, ⟨v_18, p1_19, h1_20, f21, rfl, rfl⟩, rfl⟩, rfl, rfl⟩
                  refine R.go 1 (R.any1 8 (by kernel_rfl) (by kernel_rfl) ?_)
                  refine R.go 2 (R.any1 9 (by kernel_rfl) (by kernel_rfl) ?_)
                  refine R.call true (l01Full_c n_1 (by omega) (by omega)) (by kernel_rfl) rfl (by kernel_rfl) ?_
                  refine R.go 1 (R.any1 10 (by kernel_rfl) (by kernel_rfl) ?_)
                  refine R.ar (((shl64 1 n_1) - 1) + 1) (by kernel_rfl) (by omega) (by omega) (by kernel_rfl) ?_
                  refine R.go 1 (R.any1 11 (by kernel_rfl) (by kernel_rfl) ?_)
                  refine R.lit (s := 1) (n := 2) (cs := rows eI [(-1), ((shl64 1 n_1) - 1) + 1]) (by kernel_rfl) (by kernel_rfl) ?_
                  refine R.go 1 (R.any1 12 (by kernel_rfl) (by kernel_rfl) ?_)
                  refine R.callX (CallX.inF 4 usC frC (CallX.box 4 32 [AI 0, .nil] (pickX_c_r5b c p1_19 h1_20 [(-1), ((shl64 1 n_1) - 1) + 1] eo1 so1 no1 co1 eo2 so2 no2 co2 eo3 so3 no3 co3 32 2 1 [AI 0, .nil] 2 1 xs_2.length (rows eI xs_2) 32 n_1 hc (by simp)) (by kernel_rfl) (by kernel_rfl) (by kernel_rfl) (by kernel_rfl) (by rintro _ _ ⟨_, _, _, rfl, rfl⟩; exact ⟨by kernel_rfl, by kernel_rfl, by kernel_rfl⟩)) (Nat.le_of_ble_eq_true (by kernel_rfl)) (by kernel_rfl) (by kernel_rfl) (by rintro _ _ ⟨_, ⟨_, _, _, rfl, rfl⟩, rfl⟩; exact Nat.le_of_ble_eq_true (by kernel_rfl))) (by kernel_rfl) (by kernel_rfl) (by kernel_rfl) ?_
                  rintro _ _ ⟨_, _, ⟨_, ⟨v_22, p1_23, h1_24, rfl, rfl⟩, rfl⟩, rfl, rfl⟩
                  refine R.go 1 (R.any1 13 (by kernel_rfl) (by kernel_rfl) ?_)
                  refine R.idxO 6 1 xs_2.length ((v_18).toNat) v_18 (by kernel_rfl) (by omega) (by omega) (by kernel_rfl) ?_
                  refine R.go 1 (R.any1 14 (by kernel_rfl) (by kernel_rfl) ?_)
                  refine R.stI 6 2 xs_2 ((v_18).toNat) v_22 (by kernel_rfl) (by omega) (by kernel_rfl) ?_
                  refine R.go 1 (R.any0 (by kernel_rfl) ?_)
                  exact R.metF (v_18, p1_19, h1_20, v_22, p1_23, h1_24) (by kernel_rfl) (by first | assumption | omega) (by kernel_rfl)
                · refine R.go 2 (R.any1 5 (by kernel_rfl) (by kernel_rfl) ?_)
                  refine R.callX (CallX.inF 4 usC frC (CallX.box 4 32 [AI 0, .nil] (nextX_c_r5b c p1_8 h1_9 n_1 eo1 so1 no1 co1 eo2 so2 no2 co2 eo3 so3 no3 co3 32 2 1 [AI 0, .nil] 2 1 xs_2.length (rows eI xs_2) 32 n_1 hc) (by kernel_rfl) (by kernel_rfl) (by kernel_rfl) (by kernel_rfl) (by rintro _ _ ⟨_, _, _, _, rfl, rfl⟩; exact ⟨by kernel_rfl, by kernel_rfl, by kernel_rfl⟩)) (Nat.le_of_ble_eq_true (by kernel_rfl)) (by kernel_rfl) (by kernel_rfl) (by rintro _ _ ⟨_, ⟨_, _, _, _, rfl, rfl⟩, rfl⟩; exact Nat.le_of_ble_eq_true (by kernel_rfl))) (by kernel_rfl) (by kernel_rfl) (by kernel_rfl) ?_
                  rintro _ _ ⟨_, _, ⟨_, ⟨v_25, p1_26, h1_27, f28, rfl, rfl⟩, rfl⟩, rfl, rfl⟩
                  refine R.go 1 (R.any1 9 (by kernel_rfl) (by kernel_rfl) ?_)
                  refine R.call true (l01Full_c n_1 (by omega) (by omega)) (by kernel_rfl) rfl (by kernel_rfl) ?_
                  refine R.go 1 (R.any1 10 (by kernel_rfl) (by kernel_rfl) ?_)
                  refine R.ar (((shl64 1 n_1) - 1) + 1) (by kernel_rfl) (by omega) (by omega) (by kernel_rfl) ?_
                  refine R.go 1 (R.any1 11 (by kernel_rfl) (by kernel_rfl) ?_)
                  refine R.lit (s := 1) (n := 2) (cs := rows eI [(-1), ((shl64 1 n_1) - 1) + 1]) (by kernel_rfl) (by kernel_rfl) ?_
                  refine R.go 1 (R.any1 12 (by kernel_rfl) (by kernel_rfl) ?_)
                  refine R.callX (CallX.inF 4 usC frC (CallX.box 4 32 [AI 0, .nil] (pickX_c_r5b c p1_26 h1_27 [(-1), ((shl64 1 n_1) - 1) + 1] eo1 so1 no1 co1 eo2 so2 no2 co2 eo3 so3 no3 co3 32 2 1 [AI 0, .nil] 2 1 xs_2.length (rows eI xs_2) 32 n_1 hc (by simp)) (by kernel_rfl) (by kernel_rfl) (by kernel_rfl) (by kernel_rfl) (by rintro _ _ ⟨_, _, _, rfl, rfl⟩; exact ⟨by kernel_rfl, by kernel_rfl, by kernel_rfl⟩)) (Nat.le_of_ble_eq_true (by kernel_rfl)) (by kernel_rfl) (by kernel_rfl) (by rintro _ _ ⟨_, ⟨_, _, _, rfl, rfl⟩, rfl⟩; exact Nat.le_of_ble_eq_true (by kernel_rfl))) (by kernel_rfl) (by kernel_rfl) (by kernel_rfl) ?_
                  rintro _ _ ⟨_, _, ⟨_, ⟨v_29, p1_30, h1_31, rfl, rfl⟩, rfl⟩, rfl, rfl⟩
                  refine R.go 1 (R.any1 13 (by kernel_rfl) (by kernel_rfl) ?_)
                  refine R.idxO 6 1 xs_2.length ((v_25).toNat) v_25 (by kernel_rfl) (by omega) (by omega) (by kernel_rfl) ?_
                  refine R.go 1 (R.any1 14 (by kernel_rfl) (by kernel_rfl) ?_)
                  refine R.stI 6 2 xs_2 ((v_25).toNat) v_29 (by kernel_rfl) (by omega) (by kernel_rfl) ?_
                  refine R.go 1 (R.any0 (by kernel_rfl) ?_)
                  exact R.metF (v_25, p1_26, h1_27, v_29, p1_30, h1_31) (by kernel_rfl) (by first | assumption | omega) (by kernel_rfl)
              · refine R.go 2 (R.any1 4 (by kernel_rfl) (by kernel_rfl) ?_)
                refine R.go 2 (R.any1 5 (by kernel_rfl) (by kernel_rfl) ?_)
                refine R.callX (CallX.inF 4 usC frC (CallX.box 4 32 [AI 0, .nil] (nextX_c_r5b c p1_8 h1_9 n_1 eo1 so1 no1 co1 eo2 so2 no2 co2 eo3 so3 no3 co3 32 2 1 [AI 0, .nil] 2 1 xs_2.length (rows eI xs_2) 32 n_1 hc) (by kernel_rfl) (by kernel_rfl) (by kernel_rfl) (by kernel_rfl) (by rintro _ _ ⟨_, _, _, _, rfl, rfl⟩; exact ⟨by kernel_rfl, by kernel_rfl, by kernel_rfl⟩)) (Nat.le_of_ble_eq_true (by kernel_rfl)) (by kernel_rfl) (by kernel_rfl) (by rintro _ _ ⟨_, ⟨_, _, _, _, rfl, rfl⟩, rfl⟩; exact Nat.le_of_ble_eq_true (by kernel_rfl))) (by kernel_rfl) (by kernel_rfl) (by kernel_rfl) ?_
                rintro _ _ ⟨_, _, ⟨_, ⟨v_32, p1_33, h1_34, f35, rfl, rfl⟩, rfl⟩, rfl, rfl⟩
                refine R.go 1 (R.any1 9 (by kernel_rfl) (by kernel_rfl) ?_)
                refine R.call true (l01Full_c n_1 (by omega) (by omega)) (by kernel_rfl) rfl (by kernel_rfl) ?_
                refine R.go 1 (R.any1 10 (by kernel_rfl) (by kernel_rfl) ?_)
                refine R.ar (((shl64 1 n_1) - 1) + 1) (by kernel_rfl) (by omega) (by omega) (by kernel_rfl) ?_
                refine R.go 1 (R.any1 11 (by kernel_rfl) (by kernel_rfl) ?_)
                refine R.lit (s := 1) (n := 2) (cs := rows eI [(-1), ((shl64 1 n_1) - 1) + 1]) (by kernel_rfl) (by kernel_rfl) ?_
                refine R.go 1 (R.any1 12 (by kernel_rfl) (by kernel_rfl) ?_)
                refine R.callX (CallX.inF 4 usC frC (CallX.box 4 32 [AI 0, .nil] (pickX_c_r5b c p1_33 h1_34 [(-1), ((shl64 1 n_1) - 1) + 1] eo1 so1 no1 co1 eo2 so2 no2 co2 eo3 so3 no3 co3 32 2 1 [AI 0, .nil] 2 1 xs_2.length (rows eI xs_2) 32 n_1 hc (by simp)) (by kernel_rfl) (by kernel_rfl) (by kernel_rfl) (by kernel_rfl) (by rintro _ _ ⟨_, _, _, rfl, rfl⟩; exact ⟨by kernel_rfl, by kernel_rfl, by kernel_rfl⟩)) (Nat.le_of_ble_eq_true (by kernel_rfl)) (by kernel_rfl) (by kernel_rfl) (by rintro _ _ ⟨_, ⟨_, _, _, rfl, rfl⟩, rfl⟩; exact Nat.le_of_ble_eq_true (by kernel_rfl))) (by kernel_rfl) (by kernel_rfl) (by kernel_rfl) ?_
                rintro _ _ ⟨_, _, ⟨_, ⟨v_36, p1_37, h1_38, rfl, rfl⟩, rfl⟩, rfl, rfl⟩
                refine R.go 1 (R.any1 13 (by kernel_rfl) (by kernel_rfl) ?_)
                refine R.idxO 6 1 xs_2.length ((v_32).toNat) v_32 (by kernel_rfl) (by omega) (by omega) (by kernel_rfl) ?_
                refine R.go 1 (R.any1 14 (by kernel_rfl) (by kernel_rfl) ?_)
                refine R.stI 6 2 xs_2 ((v_32).toNat) v_36 (by kernel_rfl) (by omega) (by kernel_rfl) ?_
                refine R.go 1 (R.any0 (by kernel_rfl) ?_)
                exact R.metF (v_32, p1_33, h1_34, v_36, p1_37, h1_38) (by kernel_rfl) (by first | assumption | omega) (by kernel_rfl)
            · refine R.go 2 (R.any3 1 5 8 (by kernel_rfl) (by kernel_rfl) ?_ ?_ ?_)
              · refine R.go 2 (R.any2 5 8 (by kernel_rfl) (by kernel_rfl) ?_ ?_)
                · refine R.callX (CallX.inF 4 usC frC (CallX.box 4 32 [AI 0, .nil] (nextX_c_r5b c p1_8 h1_9 n_1 eo1 so1 no1 co1 eo2 so2 no2 co2 eo3 so3 no3 co3 32 2 1 [AI 0, .nil] 2 1 xs_2.length (rows eI xs_2) 32 n_1 hc) (by kernel_rfl) (by kernel_rfl) (by kernel_rfl) (by kernel_rfl) (by rintro _ _ ⟨_, _, _, _, rfl, rfl⟩; exact ⟨by kernel_rfl, by kernel_rfl, by kernel_rfl⟩)) (Nat.le_of_ble_eq_true (by kernel_rfl)) (by kernel_rfl) (by kernel_rfl) (by rintro _ _ ⟨_, ⟨_, _, _, _, rfl, rfl⟩, rfl⟩; exact Nat.le_of_ble_eq_true (by kernel_rfl))) (by kernel_rfl) (by kernel_rfl) (by kernel_rfl) ?_
                  rintro _ _ ⟨_, _, ⟨_, ⟨v_39, p1_40, h1_41, f42, rfl, rfl⟩, rfl⟩, rfl, rfl⟩
                  refine R.go 1 (R.any1 8 (by kernel_rfl) (by kernel_rfl) ?_)
                  refine R.go 2 (R.any1 9 (by kernel_rfl) (by kernel_rfl) ?_)
                  refine R.call true (l01Full_c n_1 (by omega) (by omega)) (by kernel_rfl) rfl (by kernel_rfl) ?_
                  refine R.go 1 (R.any1 10 (by kernel_rfl) (by kernel_rfl) ?_)
                  refine R.ar (((shl64 1 n_1) - 1) + 1) (by kernel_rfl) (by omega) (by omega) (by kernel_rfl) ?_
                  refine R.go 1 (R.any1 11 (by kernel_rfl) (by kernel_rfl) ?_)
                  refine R.lit (s := 1) (n := 2) (cs := rows eI [(-1), ((shl64 1 n_1) - 1) + 1]) (by kernel_rfl) (by kernel_rfl) ?_
                  refine R.go 1 (R.any1 12 (by kernel_rfl) (by kernel_rfl) ?_)
                  refine R.callX (CallX.inF 4 usC frC (CallX.box 4 32 [AI 0, .nil] (pickX_c_r5b c p1_40 h1_41 [(-1), ((shl64 1 n_1) - 1) + 1] eo1 so1 no1 co1 eo2 so2 no2 co2 eo3 so3 no3 co3 32 2 1 [AI 0, .nil] 2 1 xs_2.length (rows eI xs_2) 32 n_1 hc (by simp)) (by kernel_rfl) (by kernel_rfl) (by kernel_rfl) (by kernel_rfl) (by rintro _ _ ⟨_, _, _, rfl, rfl⟩; exact ⟨by kernel_rfl, by kernel_rfl, by kernel_rfl⟩)) (Nat.le_of_ble_eq_true (by kernel_rfl)) (by kernel_rfl) (by kernel_rfl) (by rintro _ _ ⟨_, ⟨_, _, _, rfl, rfl⟩, rfl⟩; exact Nat.le_of_ble_eq_true (by kernel_rfl))) (by kernel_rfl) (by kernel_rfl) (by kernel_rfl) ?_
                  rintro _ _ ⟨_, _, ⟨_, ⟨v_43, p1_44, h1_45, rfl, rfl⟩, rfl⟩, rfl, rfl⟩
                  refine R.go 1 (R.any1 13 (by kernel_rfl) (by kernel_rfl) ?_)
                  refine R.idxO 6 1 xs_2.length ((v_39).toNat) v_39 (by kernel_rfl) (by omega) (by omega) (by kernel_rfl) ?_
                  refine R.go 1 (R.any1 14 (by kernel_rfl) (by kernel_rfl) ?_)
                  refine R.stI 6 2 xs_2 ((v_39).toNat) v_43 (by kernel_rfl) (by omega) (by kernel_rfl) ?_
                  refine R.go 1 (R.any0 (by kernel_rfl) ?_)
                  exact R.metF (v_39, p1_40, h1_41, v_43, p1_44, h1_45) (by kernel_rfl) (by first | assumption | omega) (by kernel_rfl)
                · refine R.go 2 (R.any1 5 (by kernel_rfl) (by kernel_rfl) ?_)
                  refine R.callX (CallX.inF 4 usC frC (CallX.box 4 32 [AI 0, .nil] (nextX_c_r5b c p1_8 h1_9 n_1 eo1 so1 no1 co1 eo2 so2 no2 co2 eo3 so3 no3 co3 32 2 1 [AI 0, .nil] 2 1 xs_2.length (rows eI xs_2) 32 n_1 hc) (by kernel_rfl) (by kernel_rfl) (by kernel_rfl) (by kernel_rfl) (by rintro _ _ ⟨_, _, _, _, rfl, rfl⟩; exact ⟨by kernel_rfl, by kernel_rfl, by kernel_rfl⟩)) (Nat.le_of_ble_eq_true (by kernel_rfl)) (by kernel_rfl) (by kernel_rfl) (by rintro _ _ ⟨_, ⟨_, _, _, _, rfl, rfl⟩, rfl⟩; exact Nat.le_of_ble_eq_true (by kernel_rfl))) (by kernel_rfl) (by kernel_rfl) (by kernel_rfl) ?_
                  rintro _ _ ⟨_, _, ⟨_, ⟨v_46, p1_47, h1_48, f49, rfl, rfl⟩, rfl⟩, rfl, rfl⟩
                  refine R.go 1 (R.any1 9 (by kernel_rfl) (by kernel_rfl) ?_)
                  refine R.call true (l01Full_c n_1 (by omega) (by omega)) (by kernel_rfl) rfl (by kernel_rfl) ?_
                  refine R.go 1 (R.any1 10 (by kernel_rfl) (by kernel_rfl) ?_)
                  refine R.ar (((shl64 1 n_1) - 1) + 1) (by kernel_rfl) (by omega) (by omega) (by kernel_rfl) ?_
                  refine R.go 1 (R.any1 11 (by kernel_rfl) (by kernel_rfl) ?_)
                  refine R.lit (s := 1) (n := 2) (cs := rows eI [(-1), ((shl64 1 n_1) - 1) + 1]) (by kernel_rfl) (by kernel_rfl) ?_
                  refine R.go 1 (R.any1 12 (by kernel_rfl) (by kernel_rfl) ?_)
                  refine R.callX (CallX.inF 4 usC frC (CallX.box 4 32 [AI 0, .nil] (pickX_c_r5b c p1_47 h1_48 [(-1), ((shl64 1 n_1) - 1) + 1] eo1 so1 no1 co1 eo2 so2 no2 co2 eo3 so3 no3 co3 32 2 1 [AI 0, .nil] 2 1 xs_2.length (rows eI xs_2) 32 n_1 hc (by simp)) (by kernel_rfl) (by kernel_rfl) (by kernel_rfl) (by kernel_rfl) (by rintro _ _ ⟨_, _, _, rfl, rfl⟩; exact ⟨by kernel_rfl, by kernel_rfl, by kernel_rfl⟩)) (Nat.le_of_ble_eq_true (by kernel_rfl)) (by kernel_rfl) (by kernel_rfl) (by rintro _ _ ⟨_, ⟨_, _, _, rfl, rfl⟩, rfl⟩; exact Nat.le_of_ble_eq_true (by kernel_rfl))) (by kernel_rfl) (by kernel_rfl) (by kernel_rfl) ?_
                  rintro _ _ ⟨_, _, ⟨_, ⟨v_50, p1_51, h1_52, rfl, rfl⟩, rfl⟩, rfl, rfl⟩
                  refine R.go 1 (R.any1 13 (by kernel_rfl) (by kernel_rfl) ?_)
                  refine R.idxO 6 1 xs_2.length ((v_46).toNat) v_46 (by kernel_rfl) (by omega) (by omega) (by kernel_rfl) ?_
                  refine R.go 1 (R.any1 14 (by kernel_rfl) (by kernel_rfl) ?_)
                  refine R.stI 6 2 xs_2 ((v_46).toNat) v_50 (by kernel_rfl) (by omega) (by kernel_rfl) ?_
                  refine R.go 1 (R.any0 (by kernel_rfl) ?_)
                  exact R.metF (v_46, p1_47, h1_48, v_50, p1_51, h1_52) (by kernel_rfl) (by first | assumption | omega) (by kernel_rfl)
              · refine R.callX (CallX.inF 4 usC frC (CallX.box 4 32 [AI 0, .nil] (nextX_c_r5b c p1_8 h1_9 n_1 eo1 so1 no1 co1 eo2 so2 no2 co2 eo3 so3 no3 co3 32 2 1 [AI 0, .nil] 2 1 xs_2.length (rows eI xs_2) 32 n_1 hc) (by kernel_rfl) (by kernel_rfl) (by kernel_rfl) (by kernel_rfl) (by rintro _ _ ⟨_, _, _, _, rfl, rfl⟩; exact ⟨by kernel_rfl, by kernel_rfl, by kernel_rfl⟩)) (Nat.le_of_ble_eq_true (by kernel_rfl)) (by kernel_rfl) (by kernel_rfl) (by rintro _ _ ⟨_, ⟨_, _, _, _, rfl, rfl⟩, rfl⟩; exact Nat.le_of_ble_eq_true (by kernel_rfl))) (by kernel_rfl) (by kernel_rfl) (by kernel_rfl) ?_
                rintro _ _ ⟨_, _, ⟨_, ⟨v_53, p1_54, h1_55, f56, rfl, rfl⟩, rfl⟩, rfl, rfl⟩
                refine R.go 1 (R.any2 1 8 (by kernel_rfl) (by kernel_rfl) ?_ ?_)
                · refine R.go 2 (R.any1 8 (by kernel_rfl) (by kernel_rfl) ?_)
                  refine R.go 2 (R.any1 9 (by kernel_rfl) (by kernel_rfl) ?_)
                  refine R.call true (l01Full_c n_1 (by omega) (by omega)) (by kernel_rfl) rfl (by kernel_rfl) ?_
                  refine R.go 1 (R.any1 10 (by kernel_rfl) (by kernel_rfl) ?_)
                  refine R.ar (((shl64 1 n_1) - 1) + 1) (by kernel_rfl) (by omega) (by omega) (by kernel_rfl) ?_
                  refine R.go 1 (R.any1 11 (by kernel_rfl) (by kernel_rfl) ?_)
                  refine R.lit (s := 1) (n := 2) (cs := rows eI [(-1), ((shl64 1 n_1) - 1) + 1]) (by kernel_rfl) (by kernel_rfl) ?_
                  refine R.go 1 (R.any1 12 (by kernel_rfl) (by kernel_rfl) ?_)
                  refine R.callX (CallX.inF 4 usC frC (CallX.box 4 32 [AI 0, .nil] (pickX_c_r5b c p1_54 h1_55 [(-1), ((shl64 1 n_1) - 1) + 1] eo1 so1 no1 co1 eo2 so2 no2 co2 eo3 so3 no3 co3 32 2 1 [AI 0, .nil] 2 1 xs_2.length (rows eI xs_2) 32 n_1 hc (by simp)) (by kernel_rfl) (by kernel_rfl) (by kernel_rfl) (by kernel_rfl) (by rintro _ _ ⟨_, _, _, rfl, rfl⟩; exact ⟨by kernel_rfl, by kernel_rfl, by kernel_rfl⟩)) (Nat.le_of_ble_eq_true (by kernel_rfl)) (by kernel_rfl) (by kernel_rfl) (by rintro _ _ ⟨_, ⟨_, _, _, rfl, rfl⟩, rfl⟩; exact Nat.le_of_ble_eq_true (by kernel_rfl))) (by kernel_rfl) (by kernel_rfl) (by kernel_rfl) ?_
                  rintro _ _ ⟨_, _, ⟨_, ⟨v_57, p1_58, h1_59, rfl, rfl⟩, rfl⟩, rfl, rfl⟩
                  refine R.go 1 (R.any1 13 (by kernel_rfl) (by kernel_rfl) ?_)
                  refine R.idxO 6 1 xs_2.length ((v_53).toNat) v_53 (by kernel_rfl) (by omega) (by omega) (by kernel_rfl) ?_
                  refine R.go 1 (R.any1 14 (by kernel_rfl) (by kernel_rfl) ?_)
                  refine R.stI 6 2 xs_2 ((v_53).toNat) v_57 (by kernel_rfl) (by omega) (by kernel_rfl) ?_
                  refine R.go 1 (R.any0 (by kernel_rfl) ?_)
                  exact R.metF (v_53, p1_54, h1_55, v_57, p1_58, h1_59) (by kernel_rfl) (by first | assumption | omega) (by kernel_rfl)
                · refine R.go 2 (R.any2 1 9 (by kernel_rfl) (by kernel_rfl) ?_ ?_)
                  · refine R.go 2 (R.any1 9 (by kernel_rfl) (by kernel_rfl) ?_)
                    refine R.call true (l01Full_c n_1 (by omega) (by omega)) (by kernel_rfl) rfl (by kernel_rfl) ?_
                    refine R.go 1 (R.any1 10 (by kernel_rfl) (by kernel_rfl) ?_)
                    refine R.ar (((shl64 1 n_1) - 1) + 1) (by kernel_rfl) (by omega) (by omega) (by kernel_rfl) ?_
                    refine R.go 1 (R.any1 11 (by kernel_rfl) (by kernel_rfl) ?_)
                    refine R.lit (s := 1) (n := 2) (cs := rows eI [(-1), ((shl64 1 n_1) - 1) + 1]) (by kernel_rfl) (by kernel_rfl) ?_
                    refine R.go 1 (R.any1 12 (by kernel_rfl) (by kernel_rfl) ?_)
                    refine R.callX (CallX.inF 4 usC frC (CallX.box 4 32 [AI 0, .nil] (pickX_c_r5b c p1_54 h1_55 [(-1), ((shl64 1 n_1) - 1) + 1] eo1 so1 no1 co1 eo2 so2 no2 co2 eo3 so3 no3 co3 32 2 1 [AI 0, .nil] 2 1 xs_2.length (rows eI xs_2) 32 n_1 hc (by simp)) (by kernel_rfl) (by kernel_rfl) (by kernel_rfl) (by kernel_rfl) (by rintro _ _ ⟨_, _, _, rfl, rfl⟩; exact ⟨by kernel_rfl, by kernel_rfl, by kernel_rfl⟩)) (Nat.le_of_ble_eq_true (by kernel_rfl)) (by kernel_rfl) (by kernel_rfl) (by rintro _ _ ⟨_, ⟨_, _, _, rfl, rfl⟩, rfl⟩; exact Nat.le_of_ble_eq_true (by kernel_rfl))) (by kernel_rfl) (by kernel_rfl) (by kernel_rfl) ?_
                    rintro _ _ ⟨_, _, ⟨_, ⟨v_60, p1_61, h1_62, rfl, rfl⟩, rfl⟩, rfl, rfl⟩
                    refine R.go 1 (R.any1 13 (by kernel_rfl) (by kernel_rfl) ?_)
                    refine R.idxO 6 1 xs_2.length ((v_53).toNat) v_53 (by kernel_rfl) (by omega) (by omega) (by kernel_rfl) ?_
                    refine R.go 1 (R.any1 14 (by kernel_rfl) (by kernel_rfl) ?_)
                    refine R.stI 6 2 xs_2 ((v_53).toNat) v_60 (by kernel_rfl) (by omega) (by kernel_rfl) ?_
                    refine R.go 1 (R.any0 (by kernel_rfl) ?_)
                    exact R.metF (v_53, p1_54, h1_55, v_60, p1_61, h1_62) (by kernel_rfl) (by first | assumption | omega) (by kernel_rfl)
                  · refine R.call true (l01Full_c n_1 (by omega) (by omega)) (by kernel_rfl) rfl (by kernel_rfl) ?_
                    refine R.go 1 (R.any2 1 10 (by kernel_rfl) (by kernel_rfl) ?_ ?_)
                    · refine R.go 2 (R.any1 10 (by kernel_rfl) (by kernel_rfl) ?_)
                      refine R.ar (((shl64 1 n_1) - 1) + 1) (by kernel_rfl) (by omega) (by omega) (by kernel_rfl) ?_
                      refine R.go 1 (R.any1 11 (by kernel_rfl) (by kernel_rfl) ?_)
                      refine R.lit (s := 1) (n := 2) (cs := rows eI [(-1), ((shl64 1 n_1) - 1) + 1]) (by kernel_rfl) (by kernel_rfl) ?_
                      refine R.go 1 (R.any1 12 (by kernel_rfl) (by kernel_rfl) ?_)
                      refine R.callX (CallX.inF 4 usC frC (CallX.box 4 32 [AI 0, .nil] (pickX_c_r5b c p1_54 h1_55 [(-1), ((shl64 1 n_1) - 1) + 1] eo1 so1 no1 co1 eo2 so2 no2 co2 eo3 so3 no3 co3 32 2 1 [AI 0, .nil] 2 1 xs_2.length (rows eI xs_2) 32 n_1 hc (by simp)) (by kernel_rfl) (by kernel_rfl) (by kernel_rfl) (by kernel_rfl) (by rintro _ _ ⟨_, _, _, rfl, rfl⟩; exact ⟨by kernel_rfl, by kernel_rfl, by kernel_rfl⟩)) (Nat.le_of_ble_eq_true (by kernel_rfl)) (by kernel_rfl) (by kernel_rfl) (by rintro _ _ ⟨_, ⟨_, _, _, rfl, rfl⟩, rfl⟩; exact Nat.le_of_ble_eq_true (by kernel_rfl))) (by kernel_rfl) (by kernel_rfl) (by kernel_rfl) ?_
                      rintro _ _ ⟨_, _, ⟨_, ⟨v_63, p1_64, h1_65, rfl, rfl⟩, rfl⟩, rfl, rfl⟩
                      refine R.go 1 (R.any1 13 (by kernel_rfl) (by kernel_rfl) ?_)
                      refine R.idxO 6 1 xs_2.length ((v_53).toNat) v_53 (by kernel_rfl) (by omega) (by omega) (by kernel_rfl) ?_
                      refine R.go 1 (R.any1 14 (by kernel_rfl) (by kernel_rfl) ?_)
                      refine R.stI 6 2 xs_2 ((v_53).toNat) v_63 (by kernel_rfl) (by omega) (by kernel_rfl) ?_
                      refine R.go 1 (R.any0 (by kernel_rfl) ?_)
                      exact R.metF (v_53, p1_54, h1_55, v_63, p1_64, h1_65) (by kernel_rfl) (by first | assumption | omega) (by kernel_rfl)
                    · refine R.ar (((shl64 1 n_1) - 1) + 1) (by kernel_rfl) (by omega) (by omega) (by kernel_rfl) ?_
                      refine R.go 1 (R.any2 1 11 (by kernel_rfl) (by kernel_rfl) ?_ ?_)
                      · refine R.go 2 (R.any1 11 (by kernel_rfl) (by kernel_rfl) ?_)
                        refine R.lit (s := 1) (n := 2) (cs := rows eI [(-1), ((shl64 1 n_1) - 1) + 1]) (by kernel_rfl) (by kernel_rfl) ?_
                        refine R.go 1 (R.any1 12 (by kernel_rfl) (by kernel_rfl) ?_)
                        refine R.callX (CallX.inF 4 usC frC (CallX.box 4 32 [AI 0, .nil] (pickX_c_r5b c p1_54 h1_55 [(-1), ((shl64 1 n_1) - 1) + 1] eo1 so1 no1 co1 eo2 so2 no2 co2 eo3 so3 no3 co3 32 2 1 [AI 0, .nil] 2 1 xs_2.length (rows eI xs_2) 32 n_1 hc (by simp)) (by kernel_rfl) (by kernel_rfl) (by kernel_rfl) (by kernel_rfl) (by rintro _ _ ⟨_, _, _, rfl, rfl⟩; exact ⟨by kernel_rfl, by kernel_rfl, by kernel_rfl⟩)) (Nat.le_of_ble_eq_true (by kernel_rfl)) (by kernel_rfl) (by kernel_rfl) (by rintro _ _ ⟨_, ⟨_, _, _, rfl, rfl⟩, rfl⟩; exact Nat.le_of_ble_eq_true (by kernel_rfl))) (by kernel_rfl) (by kernel_rfl) (by kernel_rfl) ?_
                        rintro _ _ ⟨_, _, ⟨_, ⟨v_66, p1_67, h1_68, rfl, rfl⟩, rfl⟩, rfl, rfl⟩
                        refine R.go 1 (R.any1 13 (by kernel_rfl) (by kernel_rfl) ?_)
                        refine R.idxO 6 1 xs_2.length ((v_53).toNat) v_53 (by kernel_rfl) (by omega) (by omega) (by kernel_rfl) ?_
                        refine R.go 1 (R.any1 14 (by kernel_rfl) (by kernel_rfl) ?_)
                        refine R.stI 6 2 xs_2 ((v_53).toNat) v_66 (by kernel_rfl) (by omega) (by kernel_rfl) ?_
                        refine R.go 1 (R.any0 (by kernel_rfl) ?_)
                        exact R.metF (v_53, p1_54, h1_55, v_66, p1_67, h1_68) (by kernel_rfl) (by first | assumption | omega) (by kernel_rfl)
                      · refine R.lit (s := 1) (n := 2) (cs := rows eI [(-1), ((shl64 1 n_1) - 1) + 1]) (by kernel_rfl) (by kernel_rfl) ?_
                        refine R.go 1 (R.any2 1 12 (by kernel_rfl) (by kernel_rfl) ?_ ?_)
                        · refine R.go 2 (R.any1 12 (by kernel_rfl) (by kernel_rfl) ?_)
                          refine R.callX (CallX.inF 4 usC frC (CallX.box 4 32 [AI 0, .nil] (pickX_c_r5b c p1_54 h1_55 [(-1), ((shl64 1 n_1) - 1) + 1] eo1 so1 no1 co1 eo2 so2 no2 co2 eo3 so3 no3 co3 32 2 1 [AI 0, .nil] 2 1 xs_2.length (rows eI xs_2) 32 n_1 hc (by simp)) (by kernel_rfl) (by kernel_rfl) (by kernel_rfl) (by kernel_rfl) (by rintro _ _ ⟨_, _, _, rfl, rfl⟩; exact ⟨by kernel_rfl, by kernel_rfl, by kernel_rfl⟩)) (Nat.le_of_ble_eq_true (by kernel_rfl)) (by kernel_rfl) (by kernel_rfl) (by rintro _ _ ⟨_, ⟨_, _, _, rfl, rfl⟩, rfl⟩; exact Nat.le_of_ble_eq_true (by kernel_rfl))) (by kernel_rfl) (by kernel_rfl) (by kernel_rfl) ?_
                          rintro _ _ ⟨_, _, ⟨_, ⟨v_69, p1_70, h1_71, rfl, rfl⟩, rfl⟩, rfl, rfl⟩
                          refine R.go 1 (R.any1 13 (by kernel_rfl) (by kernel_rfl) ?_)
                          refine R.idxO 6 1 xs_2.length ((v_53).toNat) v_53 (by kernel_rfl) (by omega) (by omega) (by kernel_rfl) ?_
                          refine R.go 1 (R.any1 14 (by kernel_rfl) (by kernel_rfl) ?_)
                          refine R.stI 6 2 xs_2 ((v_53).toNat) v_69 (by kernel_rfl) (by omega) (by kernel_rfl) ?_
                          refine R.go 1 (R.any0 (by kernel_rfl) ?_)
                          exact R.metF (v_53, p1_54, h1_55, v_69, p1_70, h1_71) (by kernel_rfl) (by first | assumption | omega) (by kernel_rfl)
                        · refine R.callX (CallX.inF 4 usC frC (CallX.box 4 32 [AI 0, .nil] (pickX_c_r5b c p1_54 h1_55 [(-1), ((shl64 1 n_1) - 1) + 1] eo1 so1 no1 co1 eo2 so2 no2 co2 eo3 so3 no3 co3 32 2 1 [AI 0, .nil] 2 1 xs_2.length (rows eI xs_2) 32 n_1 hc (by simp)) (by kernel_rfl) (by kernel_rfl) (by kernel_rfl) (by kernel_rfl) (by rintro _ _ ⟨_, _, _, rfl, rfl⟩; exact ⟨by kernel_rfl, by kernel_rfl, by kernel_rfl⟩)) (Nat.le_of_ble_eq_true (by kernel_rfl)) (by kernel_rfl) (by kernel_rfl) (by rintro _ _ ⟨_, ⟨_, _, _, rfl, rfl⟩, rfl⟩; exact Nat.le_of_ble_eq_true (by kernel_rfl))) (by kernel_rfl) (by kernel_rfl) (by kernel_rfl) ?_
                          rintro _ _ ⟨_, _, ⟨_, ⟨v_72, p1_73, h1_74, rfl, rfl⟩, rfl⟩, rfl, rfl⟩
                          refine R.go 1 (R.any1 1 (by kernel_rfl) (by kernel_rfl) ?_)
                          refine R.go 2 (R.any1 13 (by kernel_rfl) (by kernel_rfl) ?_)
                          refine R.idxO 6 1 xs_2.length ((v_53).toNat) v_53 (by kernel_rfl) (by omega) (by omega) (by kernel_rfl) ?_
                          refine R.go 1 (R.any1 14 (by kernel_rfl) (by kernel_rfl) ?_)
                          refine R.stI 6 2 xs_2 ((v_53).toNat) v_72 (by kernel_rfl) (by omega) (by kernel_rfl) ?_
                          refine R.go 1 (R.any0 (by kernel_rfl) ?_)
                          exact R.metF (v_53, p1_54, h1_55, v_72, p1_73, h1_74) (by kernel_rfl) (by first | assumption | omega) (by kernel_rfl)
              · refine R.go 2 (R.any2 1 5 (by kernel_rfl) (by kernel_rfl) ?_ ?_)
                · refine R.go 2 (R.any1 5 (by kernel_rfl) (by kernel_rfl) ?_)
                  refine R.callX (CallX.inF 4 usC frC (CallX.box 4 32 [AI 0, .nil] (nextX_c_r5b c p1_8 h1_9 n_1 eo1 so1 no1 co1 eo2 so2 no2 co2 eo3 so3 no3 co3 32 2 1 [AI 0, .nil] 2 1 xs_2.length (rows eI xs_2) 32 n_1 hc) (by kernel_rfl) (by kernel_rfl) (by kernel_rfl) (by kernel_rfl) (by rintro _ _ ⟨_, _, _, _, rfl, rfl⟩; exact ⟨by kernel_rfl, by kernel_rfl, by kernel_rfl⟩)) (Nat.le_of_ble_eq_true (by kernel_rfl)) (by kernel_rfl) (by kernel_rfl) (by rintro _ _ ⟨_, ⟨_, _, _, _, rfl, rfl⟩, rfl⟩; exact Nat.le_of_ble_eq_true (by kernel_rfl))) (by kernel_rfl) (by kernel_rfl) (by kernel_rfl) ?_
                  rintro _ _ ⟨_, _, ⟨_, ⟨v_75, p1_76, h1_77, f78, rfl, rfl⟩, rfl⟩, rfl, rfl⟩
                  refine R.go 1 (R.any1 9 (by kernel_rfl) (by kernel_rfl) ?_)
                  refine R.call true (l01Full_c n_1 (by omega) (by omega)) (by kernel_rfl) rfl (by kernel_rfl) ?_
                  refine R.go 1 (R.any1 10 (by kernel_rfl) (by kernel_rfl) ?_)
                  refine R.ar (((shl64 1 n_1) - 1) + 1) (by kernel_rfl) (by omega) (by omega) (by kernel_rfl) ?_
                  refine R.go 1 (R.any1 11 (by kernel_rfl) (by kernel_rfl) ?_)
                  refine R.lit (s := 1) (n := 2) (cs := rows eI [(-1), ((shl64 1 n_1) - 1) + 1]) (by kernel_rfl) (by kernel_rfl) ?_
                  refine R.go 1 (R.any1 12 (by kernel_rfl) (by kernel_rfl) ?_)
                  refine R.callX (CallX.inF 4 usC frC (CallX.box 4 32 [AI 0, .nil] (pickX_c_r5b c p1_76 h1_77 [(-1), ((shl64 1 n_1) - 1) + 1] eo1 so1 no1 co1 eo2 so2 no2 co2 eo3 so3 no3 co3 32 2 1 [AI 0, .nil] 2 1 xs_2.length (rows eI xs_2) 32 n_1 hc (by simp)) (by kernel_rfl) (by kernel_rfl) (by kernel_rfl) (by kernel_rfl) (by rintro _ _ ⟨_, _, _, rfl, rfl⟩; exact ⟨by kernel_rfl, by kernel_rfl, by kernel_rfl⟩)) (Nat.le_of_ble_eq_true (by kernel_rfl)) (by kernel_rfl) (by kernel_rfl) (by rintro _ _ ⟨_, ⟨_, _, _, rfl, rfl⟩, rfl⟩; exact Nat.le_of_ble_eq_true (by kernel_rfl))) (by kernel_rfl) (by kernel_rfl) (by kernel_rfl) ?_
                  rintro _ _ ⟨_, _, ⟨_, ⟨v_79, p1_80, h1_81, rfl, rfl⟩, rfl⟩, rfl, rfl⟩
                  refine R.go 1 (R.any1 13 (by kernel_rfl) (by kernel_rfl) ?_)
                  refine R.idxO 6 1 xs_2.length ((v_75).toNat) v_75 (by kernel_rfl) (by omega) (by omega) (by kernel_rfl) ?_
                  refine R.go 1 (R.any1 14 (by kernel_rfl) (by kernel_rfl) ?_)
                  refine R.stI 6 2 xs_2 ((v_75).toNat) v_79 (by kernel_rfl) (by omega) (by kernel_rfl) ?_
                  refine R.go 1 (R.any0 (by kernel_rfl) ?_)
                  exact R.metF (v_75, p1_76, h1_77, v_79, p1_80, h1_81) (by kernel_rfl) (by first | assumption | omega) (by kernel_rfl)
                · refine R.callX (CallX.inF 4 usC frC (CallX.box 4 32 [AI 0, .nil] (nextX_c_r5b c p1_8 h1_9 n_1 eo1 so1 no1 co1 eo2 so2 no2 co2 eo3 so3 no3 co3 32 2 1 [AI 0, .nil] 2 1 xs_2.length (rows eI xs_2) 32 n_1 hc) (by kernel_rfl) (by kernel_rfl) (by kernel_rfl) (by kernel_rfl) (by rintro _ _ ⟨_, _, _, _, rfl, rfl⟩; exact ⟨by kernel_rfl, by kernel_rfl, by kernel_rfl⟩)) (Nat.le_of_ble_eq_true (by kernel_rfl)) (by kernel_rfl) (by kernel_rfl) (by rintro _ _ ⟨_, ⟨_, _, _, _, rfl, rfl⟩, rfl⟩; exact Nat.le_of_ble_eq_true (by kernel_rfl))) (by kernel_rfl) (by kernel_rfl) (by kernel_rfl) ?_
                  rintro _ _ ⟨_, _, ⟨_, ⟨v_82, p1_83, h1_84, f85, rfl, rfl⟩, rfl⟩, rfl, rfl⟩
                  refine R.go 1 (R.any2 1 9 (by kernel_rfl) (by kernel_rfl) ?_ ?_)
                  · refine R.go 2 (R.any1 9 (by kernel_rfl) (by kernel_rfl) ?_)
                    refine R.call true (l01Full_c n_1 (by omega) (by omega)) (by kernel_rfl) rfl (by kernel_rfl) ?_
                    refine R.go 1 (R.any1 10 (by kernel_rfl) (by kernel_rfl) ?_)
                    refine R.ar (((shl64 1 n_1) - 1) + 1) (by kernel_rfl) (by omega) (by omega) (by kernel_rfl) ?_
                    refine R.go 1 (R.any1 11 (by kernel_rfl) (by kernel_rfl) ?_)
                    refine R.lit (s := 1) (n := 2) (cs := rows eI [(-1), ((shl64 1 n_1) - 1) + 1]) (by kernel_rfl) (by kernel_rfl) ?_
                    refine R.go 1 (R.any1 12 (by kernel_rfl) (by kernel_rfl) ?_)
                    refine R.callX (CallX.inF 4 usC frC (CallX.box 4 32 [AI 0, .nil] (pickX_c_r5b c p1_83 h1_84 [(-1), ((shl64 1 n_1) - 1) + 1] eo1 so1 no1 co1 eo2 so2 no2 co2 eo3 so3 no3 co3 32 2 1 [AI 0, .nil] 2 1 xs_2.length (rows eI xs_2) 32 n_1 hc (by simp)) (by kernel_rfl) (by kernel_rfl) (by kernel_rfl) (by kernel_rfl) (by rintro _ _ ⟨_, _, _, rfl, rfl⟩; exact ⟨by kernel_rfl, by kernel_rfl, by kernel_rfl⟩)) (Nat.le_of_ble_eq_true (by kernel_rfl)) (by kernel_rfl) (by kernel_rfl) (by rintro _ _ ⟨_, ⟨_, _, _, rfl, rfl⟩, rfl⟩; exact Nat.le_of_ble_eq_true (by kernel_rfl))) (by kernel_rfl) (by kernel_rfl) (by kernel_rfl) ?_
                    rintro _ _ ⟨_, _, ⟨_, ⟨v_86, p1_87, h1_88, rfl, rfl⟩, rfl⟩, rfl, rfl⟩
                    refine R.go 1 (R.any1 13 (by kernel_rfl) (by kernel_rfl) ?_)
                    refine R.idxO 6 1 xs_2.length ((v_82).toNat) v_82 (by kernel_rfl) (by omega) (by omega) (by kernel_rfl) ?_
                    refine R.go 1 (R.any1 14 (by kernel_rfl) (by kernel_rfl) ?_)
                    refine R.stI 6 2 xs_2 ((v_82).toNat) v_86 (by kernel_rfl) (by omega) (by kernel_rfl) ?_
                    refine R.go 1 (R.any0 (by kernel_rfl) ?_)
                    exact R.metF (v_82, p1_83, h1_84, v_86, p1_87, h1_88) (by kernel_rfl) (by first | assumption | omega) (by kernel_rfl)
                  · refine R.call true (l01Full_c n_1 (by omega) (by omega)) (by kernel_rfl) rfl (by kernel_rfl) ?_
                    refine R.go 1 (R.any2 1 10 (by kernel_rfl) (by kernel_rfl) ?_ ?_)
                    · refine R.go 2 (R.any1 10 (by kernel_rfl) (by kernel_rfl) ?_)
                      refine R.ar (((shl64 1 n_1) - 1) + 1) (by kernel_rfl) (by omega) (by omega) (by kernel_rfl) ?_
                      refine R.go 1 (R.any1 11 (by kernel_rfl) (by kernel_rfl) ?_)
                      refine R.lit (s := 1) (n := 2) (cs := rows eI [(-1), ((shl64 1 n_1) - 1) + 1]) (by kernel_rfl) (by kernel_rfl) ?_
                      refine R.go 1 (R.any1 12 (by kernel_rfl) (by kernel_rfl) ?_)
                      refine R.callX (CallX.inF 4 usC frC (CallX.box 4 32 [AI 0, .nil] (pickX_c_r5b c p1_83 h1_84 [(-1), ((shl64 1 n_1) - 1) + 1] eo1 so1 no1 co1 eo2 so2 no2 co2 eo3 so3 no3 co3 32 2 1 [AI 0, .nil] 2 1 xs_2.length (rows eI xs_2) 32 n_1 hc (by simp)) (by kernel_rfl) (by kernel_rfl) (by kernel_rfl) (by kernel_rfl) (by rintro _ _ ⟨_, _, _, rfl, rfl⟩; exact ⟨by kernel_rfl, by kernel_rfl, by kernel_rfl⟩)) (Nat.le_of_ble_eq_true (by kernel_rfl)) (by kernel_rfl) (by kernel_rfl) (by rintro _ _ ⟨_, ⟨_, _, _, rfl, rfl⟩, rfl⟩; exact Nat.le_of_ble_eq_true (by kernel_rfl))) (by kernel_rfl) (by kernel_rfl) (by kernel_rfl) ?_
                      rintro _ _ ⟨_, _, ⟨_, ⟨v_89, p1_90, h1_91, rfl, rfl⟩, rfl⟩, rfl, rfl⟩
                      refine R.go 1 (R.any1 13 (by kernel_rfl) (by kernel_rfl) ?_)
                      refine R.idxO 6 1 xs_2.length ((v_82).toNat) v_82 (by kernel_rfl) (by omega) (by omega) (by kernel_rfl) ?_
                      refine R.go 1 (R.any1 14 (by kernel_rfl) (by kernel_rfl) ?_)
                      refine R.stI 6 2 xs_2 ((v_82).toNat) v_89 (by kernel_rfl) (by omega) (by kernel_rfl) ?_
                      refine R.go 1 (R.any0 (by kernel_rfl) ?_)
                      exact R.metF (v_82, p1_83, h1_84, v_89, p1_90, h1_91) (by kernel_rfl) (by first | assumption | omega) (by kernel_rfl)
                    · refine R.ar (((shl64 1 n_1) - 1) + 1) (by kernel_rfl) (by omega) (by omega) (by kernel_rfl) ?_
                      refine R.go 1 (R.any2 1 11 (by kernel_rfl) (by kernel_rfl) ?_ ?_)
                      · refine R.go 2 (R.any1 11 (by kernel_rfl) (by kernel_rfl) ?_)
                        refine R.lit (s := 1) (n := 2) (cs := rows eI [(-1), ((shl64 1 n_1) - 1) + 1]) (by kernel_rfl) (by kernel_rfl) ?_
                        refine R.go 1 (R.any1 12 (by kernel_rfl) (by kernel_rfl) ?_)
                        refine R.callX (CallX.inF 4 usC frC (CallX.box 4 32 [AI 0, .nil] (pickX_c_r5b c p1_83 h1_84 [(-1), ((shl64 1 n_1) - 1) + 1] eo1 so1 no1 co1 eo2 so2 no2 co2 eo3 so3 no3 co3 32 2 1 [AI 0, .nil] 2 1 xs_2.length (rows eI xs_2) 32 n_1 hc (by simp)) (by kernel_rfl) (by kernel_rfl) (by kernel_rfl) (by kernel_rfl) (by rintro _ _ ⟨_, _, _, rfl, rfl⟩; exact ⟨by kernel_rfl, by kernel_rfl, by kernel_rfl⟩)) (Nat.le_of_ble_eq_true (by kernel_rfl)) (by kernel_rfl) (by kernel_rfl) (by rintro _ _ ⟨_, ⟨_, _, _, rfl, rfl⟩, rfl⟩; exact Nat.le_of_ble_eq_true (by kernel_rfl))) (by kernel_rfl) (by kernel_rfl) (by kernel_rfl) ?_
                        rintro _ _ ⟨_, _, ⟨_, ⟨v_92, p1_93, h1_94, rfl, rfl⟩, rfl⟩, rfl, rfl⟩
                        refine R.go 1 (R.any1 13 (by kernel_rfl) (by kernel_rfl) ?_)
                        refine R.idxO 6 1 xs_2.length ((v_82).toNat) v_82 (by kernel_rfl) (by omega) (by omega) (by kernel_rfl) ?_
                        refine R.go 1 (R.any1 14 (by kernel_rfl) (by kernel_rfl) ?_)
                        refine R.stI 6 2 xs_2 ((v_82).toNat) v_92 (by kernel_rfl) (by omega) (by kernel_rfl) ?_
                        refine R.go 1 (R.any0 (by kernel_rfl) ?_)
                        exact R.metF (v_82, p1_83, h1_84, v_92, p1_93, h1_94) (by kernel_rfl) (by first | assumption | omega) (by kernel_rfl)
                      · refine R.lit (s := 1) (n := 2) (cs := rows eI [(-1), ((shl64 1 n_1) - 1) + 1]) (by kernel_rfl) (by kernel_rfl) ?_
                        refine R.go 1 (R.any2 1 12 (by kernel_rfl) (by kernel_rfl) ?_ ?_)
                        · refine R.go 2 (R.any1 12 (by kernel_rfl) (by kernel_rfl) ?_)
                          refine R.callX (CallX.inF 4 usC frC (CallX.box 4 32 [AI 0, .nil] (pickX_c_r5b c p1_83 h1_84 [(-1), ((shl64 1 n_1) - 1) + 1] eo1 so1 no1 co1 eo2 so2 no2 co2 eo3 so3 no3 co3 32 2 1 [AI 0, .nil] 2 1 xs_2.length (rows eI xs_2) 32 n_1 hc (by simp)) (by kernel_rfl) (by kernel_rfl) (by kernel_rfl) (by kernel_rfl) (by rintro _ _ ⟨_, _, _, rfl, rfl⟩; exact ⟨by kernel_rfl, by kernel_rfl, by kernel_rfl⟩)) (Nat.le_of_ble_eq_true (by kernel_rfl)) (by kernel_rfl) (by kernel_rfl) (by rintro _ _ ⟨_, ⟨_, _, _, rfl, rfl⟩, rfl⟩; exact Nat.le_of_ble_eq_true (by kernel_rfl))) (by kernel_rfl) (by kernel_rfl) (by kernel_rfl) ?_
                          rintro _ _ ⟨_, _, ⟨_, ⟨v_95, p1_96, h1_97, rfl, rfl⟩, rfl⟩, rfl, rfl⟩
                          refine R.go 1 (R.any1 13 (by kernel_rfl) (by kernel_rfl) ?_)
                          refine R.idxO 6 1 xs_2.length ((v_82).toNat) v_82 (by kernel_rfl) (by omega) (by omega) (by kernel_rfl) ?_
                          refine R.go 1 (R.any1 14 (by kernel_rfl) (by kernel_rfl) ?_)
                          refine R.stI 6 2 xs_2 ((v_82).toNat) v_95 (by kernel_rfl) (by omega) (by kernel_rfl) ?_
                          refine R.go 1 (R.any0 (by kernel_rfl) ?_)
                          exact R.metF (v_82, p1_83, h1_84, v_95, p1_96, h1_97) (by kernel_rfl) (by first | assumption | omega) (by kernel_rfl)
                        · refine R.callX (CallX.inF 4 usC frC (CallX.box 4 32 [AI 0, .nil] (pickX_c_r5b c p1_83 h1_84 [(-1), ((shl64 1 n_1) - 1) + 1] eo1 so1 no1 co1 eo2 so2 no2 co2 eo3 so3 no3 co3 32 2 1 [AI 0, .nil] 2 1 xs_2.length (rows eI xs_2) 32 n_1 hc (by simp)) (by kernel_rfl) (by kernel_rfl) (by kernel_rfl) (by kernel_rfl) (by rintro _ _ ⟨_, _, _, rfl, rfl⟩; exact ⟨by kernel_rfl, by kernel_rfl, by kernel_rfl⟩)) (Nat.le_of_ble_eq_true (by kernel_rfl)) (by kernel_rfl) (by kernel_rfl) (by rintro _ _ ⟨_, ⟨_, _, _, rfl, rfl⟩, rfl⟩; exact Nat.le_of_ble_eq_true (by kernel_rfl))) (by kernel_rfl) (by kernel_rfl) (by kernel_rfl) ?_
                          rintro _ _ ⟨_, _, ⟨_, ⟨v_98, p1_99, h1_100, rfl, rfl⟩, rfl⟩, rfl, rfl⟩
                          refine R.go 1 (R.any1 1 (by kernel_rfl) (by kernel_rfl) ?_)
                          refine R.go 2 (R.any1 13 (by kernel_rfl) (by kernel_rfl) ?_)
                          refine R.idxO 6 1 xs_2.length ((v_82).toNat) v_82 (by kernel_rfl) (by omega) (by omega) (by kernel_rfl) ?_
                          refine R.go 1 (R.any1 14 (by kernel_rfl) (by kernel_rfl) ?_)
                          refine R.stI 6 2 xs_2 ((v_82).toNat) v_98 (by kernel_rfl) (by omega) (by kernel_rfl) ?_
                          refine R.go 1 (R.any0 (by kernel_rfl) ?_)
                          exact R.metF (v_82, p1_83, h1_84, v_98, p1_99, h1_100) (by kernel_rfl) (by first | assumption | omega) (by kernel_rfl)
            · refine R.go 2 (R.any2 1 4 (by kernel_rfl) (by kernel_rfl) ?_ ?_)
              · refine R.go 2 (R.any1 4 (by kernel_rfl) (by kernel_rfl) ?_)
                refine R.go 2 (R.any1 5 (by kernel_rfl) (by kernel_rfl) ?_)
                refine R.callX (CallX.inF 4 usC frC (CallX.box 4 32 [AI 0, .nil] (nextX_c_r5b c p1_8 h1_9 n_1 eo1 so1 no1 co1 eo2 so2 no2 co2 eo3 so3 no3 co3 32 2 1 [AI 0, .nil] 2 1 xs_2.length (rows eI xs_2) 32 n_1 hc) (by kernel_rfl) (by kernel_rfl) (by kernel_rfl) (by kernel_rfl) (by rintro _ _ ⟨_, _, _, _, rfl, rfl⟩; exact ⟨by kernel_rfl, by kernel_rfl, by kernel_rfl⟩)) (Nat.le_of_ble_eq_true (by kernel_rfl)) (by kernel_rfl) (by kernel_rfl) (by rintro _ _ ⟨_, ⟨_, _, _, _, rfl, rfl⟩, rfl⟩; exact Nat.le_of_ble_eq_true (by kernel_rfl))) (by kernel_rfl) (by kernel_rfl) (by kernel_rfl) ?_
                rintro _ _ ⟨_, _, ⟨_, ⟨v_101, p1_102, h1_103, f104, rfl, rfl⟩, rfl⟩, rfl, rfl⟩
                refine R.go 1 (R.any1 9 (by kernel_rfl) (by kernel_rfl) ?_)
                refine R.call true (l01Full_c n_1 (by omega) (by omega)) (by kernel_rfl) rfl (by kernel_rfl) ?_
                refine R.go 1 (R.any1 10 (by kernel_rfl) (by kernel_rfl) ?_)
                refine R.ar (((shl64 1 n_1) - 1) + 1) (by kernel_rfl) (by omega) (by omega) (by kernel_rfl) ?_
                refine R.go 1 (R.any1 11 (by kernel_rfl) (by kernel_rfl) ?_)
                refine R.lit (s := 1) (n := 2) (cs := rows eI [(-1), ((shl64 1 n_1) - 1) + 1]) (by kernel_rfl) (by kernel_rfl) ?_
                refine R.go 1 (R.any1 12 (by kernel_rfl) (by kernel_rfl) ?_)
                refine R.callX (CallX.inF 4 usC frC (CallX.box 4 32 [AI 0, .nil] (pickX_c_r5b c p1_102 h1_103 [(-1), ((shl64 1 n_1) - 1) + 1] eo1 so1 no1 co1 eo2 so2 no2 co2 eo3 so3 no3 co3 32 2 1 [AI 0, .nil] 2 1 xs_2.length (rows eI xs_2) 32 n_1 hc (by simp)) (by kernel_rfl) (by kernel_rfl) (by kernel_rfl) (by kernel_rfl) (by rintro _ _ ⟨_, _, _, rfl, rfl⟩; exact ⟨by kernel_rfl, by kernel_rfl, by kernel_rfl⟩)) (Nat.le_of_ble_eq_true (by kernel_rfl)) (by kernel_rfl) (by kernel_rfl) (by rintro _ _ ⟨_, ⟨_, _, _, rfl, rfl⟩, rfl⟩; exact Nat.le_of_ble_eq_true (by kernel_rfl))) (by kernel_rfl) (by kernel_rfl) (by kernel_rfl) ?_
                rintro _ _ ⟨_, _, ⟨_, ⟨v_105, p1_106, h1_107, rfl, rfl⟩, rfl⟩, rfl, rfl⟩
                refine R.go 1 (R.any1 13 (by kernel_rfl) (by kernel_rfl) ?_)
                refine R.idxO 6 1 xs_2.length ((v_101).toNat) v_101 (by kernel_rfl) (by omega) (by omega) (by kernel_rfl) ?_
                refine R.go 1 (R.any1 14 (by kernel_rfl) (by kernel_rfl) ?_)
                refine R.stI 6 2 xs_2 ((v_101).toNat) v_105 (by kernel_rfl) (by omega) (by kernel_rfl) ?_
                refine R.go 1 (R.any0 (by kernel_rfl) ?_)
                exact R.metF (v_101, p1_102, h1_103, v_105, p1_106, h1_107) (by kernel_rfl) (by first | assumption | omega) (by kernel_rfl)
              · refine R.go 2 (R.any2 1 5 (by kernel_rfl) (by kernel_rfl) ?_ ?_)
                · refine R.go 2 (R.any1 5 (by kernel_rfl) (by kernel_rfl) ?_)
                  refine R.callX (CallX.inF 4 usC frC (CallX.box 4 32 [AI 0, .nil] (nextX_c_r5b c p1_8 h1_9 n_1 eo1 so1 no1 co1 eo2 so2 no2 co2 eo3 so3 no3 co3 32 2 1 [AI 0, .nil] 2 1 xs_2.length (rows eI xs_2) 32 n_1 hc) (by kernel_rfl) (by kernel_rfl) (by kernel_rfl) (by kernel_rfl) (by rintro _ _ ⟨_, _, _, _, rfl, rfl⟩; exact ⟨by kernel_rfl, by kernel_rfl, by kernel_rfl⟩)) (Nat.le_of_ble_eq_true (by kernel_rfl)) (by kernel_rfl) (by kernel_rfl) (by rintro _ _ ⟨_, ⟨_, _, _, _, rfl, rfl⟩, rfl⟩; exact Nat.le_of_ble_eq_true (by kernel_rfl))) (by kernel_rfl) (by kernel_rfl) (by kernel_rfl) ?_
                  rintro _ _ ⟨_, _, ⟨_, ⟨v_108, p1_109, h1_110, f111, rfl, rfl⟩, rfl⟩, rfl, rfl⟩
                  refine R.go 1 (R.any1 9 (by kernel_rfl) (by kernel_rfl) ?_)
                  refine R.call true (l01Full_c n_1 (by omega) (by omega)) (by kernel_rfl) rfl (by kernel_rfl) ?_
                  refine R.go 1 (R.any1 10 (by kernel_rfl) (by kernel_rfl) ?_)
                  refine R.ar (((shl64 1 n_1) - 1) + 1) (by kernel_rfl) (by omega) (by omega) (by kernel_rfl) ?_
                  refine R.go 1 (R.any1 11 (by kernel_rfl) (by kernel_rfl) ?_)
                  refine R.lit (s := 1) (n := 2) (cs := rows eI [(-1), ((shl64 1 n_1) - 1) + 1]) (by kernel_rfl) (by kernel_rfl) ?_
                  refine R.go 1 (R.any1 12 (by kernel_rfl) (by kernel_rfl) ?_)
                  refine R.callX (CallX.inF 4 usC frC (CallX.box 4 32 [AI 0, .nil] (pickX_c_r5b c p1_109 h1_110 [(-1), ((shl64 1 n_1) - 1) + 1] eo1 so1 no1 co1 eo2 so2 no2 co2 eo3 so3 no3 co3 32 2 1 [AI 0, .nil] 2 1 xs_2.length (rows eI xs_2) 32 n_1 hc (by simp)) (by kernel_rfl) (by kernel_rfl) (by kernel_rfl) (by kernel_rfl) (by rintro _ _ ⟨_, _, _, rfl, rfl⟩; exact ⟨by kernel_rfl, by kernel_rfl, by kernel_rfl⟩)) (Nat.le_of_ble_eq_true (by kernel_rfl)) (by kernel_rfl) (by kernel_rfl) (by rintro _ _ ⟨_, ⟨_, _, _, rfl, rfl⟩, rfl⟩; exact Nat.le_of_ble_eq_true (by kernel_rfl))) (by kernel_rfl) (by kernel_rfl) (by kernel_rfl) ?_
                  rintro _ _ ⟨_, _, ⟨_, ⟨v_112, p1_113, h1_114, rfl, rfl⟩, rfl⟩, rfl, rfl⟩
                  refine R.go 1 (R.any1 13 (by kernel_rfl) (by kernel_rfl) ?_)
                  refine R.idxO 6 1 xs_2.length ((v_108).toNat) v_108 (by kernel_rfl) (by omega) (by omega) (by kernel_rfl) ?_
                  refine R.go 1 (R.any1 14 (by kernel_rfl) (by kernel_rfl) ?_)
                  refine R.stI 6 2 xs_2 ((v_108).toNat) v_112 (by kernel_rfl) (by omega) (by kernel_rfl) ?_
                  refine R.go 1 (R.any0 (by kernel_rfl) ?_)
                  exact R.metF (v_108, p1_109, h1_110, v_112, p1_113, h1_114) (by kernel_rfl) (by first | assumption | omega) (by kernel_rfl)
                · refine R.callX (CallX.inF 4 usC frC (CallX.box 4 32 [AI 0, .nil] (nextX_c_r5b c p1_8 h1_9 n_1 eo1 so1 no1 co1 eo2 so2 no2 co2 eo3 so3 no3 co3 32 2 1 [AI 0, .nil] 2 1 xs_2.length (rows eI xs_2) 32 n_1 hc) (by kernel_rfl) (by kernel_rfl) (by kernel_rfl) (by kernel_rfl) (by rintro _ _ ⟨_, _, _, _, rfl, rfl⟩; exact ⟨by kernel_rfl, by kernel_rfl, by kernel_rfl⟩)) (Nat.le_of_ble_eq_true (by kernel_rfl)) (by kernel_rfl) (by kernel_rfl) (by rintro _ _ ⟨_, ⟨_, _, _, _, rfl, rfl⟩, rfl⟩; exact Nat.le_of_ble_eq_true (by kernel_rfl))) (by kernel_rfl) (by kernel_rfl) (by kernel_rfl) ?_
                  rintro _ _ ⟨_, _, ⟨_, ⟨v_115, p1_116, h1_117, f118, rfl, rfl⟩, rfl⟩, rfl, rfl⟩
                  refine R.go 1 (R.any2 1 9 (by kernel_rfl) (by kernel_rfl) ?_ ?_)
                  · refine R.go 2 (R.any1 9 (by kernel_rfl) (by kernel_rfl) ?_)
                    refine R.call true (l01Full_c n_1 (by omega) (by omega)) (by kernel_rfl) rfl (by kernel_rfl) ?_
                    refine R.go 1 (R.any1 10 (by kernel_rfl) (by kernel_rfl) ?_)
                    refine R.ar (((shl64 1 n_1) - 1) + 1) (by kernel_rfl) (by omega) (by omega) (by kernel_rfl) ?_
                    refine R.go 1 (R.any1 11 (by kernel_rfl) (by kernel_rfl) ?_)
                    refine R.lit (s := 1) (n := 2) (cs := rows eI [(-1), ((shl64 1 n_1) - 1) + 1]) (by kernel_rfl) (by kernel_rfl) ?_
                    refine R.go 1 (R.any1 12 (by kernel_rfl) (by kernel_rfl) ?_)
                    refine R.callX (CallX.inF 4 usC frC (CallX.box 4 32 [AI 0, .nil] (pickX_c_r5b c p1_116 h1_117 [(-1), ((shl64 1 n_1) - 1) + 1] eo1 so1 no1 co1 eo2 so2 no2 co2 eo3 so3 no3 co3 32 2 1 [AI 0, .nil] 2 1 xs_2.length (rows eI xs_2) 32 n_1 hc (by simp)) (by kernel_rfl) (by kernel_rfl) (by kernel_rfl) (by kernel_rfl) (by rintro _ _ ⟨_, _, _, rfl, rfl⟩; exact ⟨by kernel_rfl, by kernel_rfl, by kernel_rfl⟩)) (Nat.le_of_ble_eq_true (by kernel_rfl)) (by kernel_rfl) (by kernel_rfl) (by rintro _ _ ⟨_, ⟨_, _, _, rfl, rfl⟩, rfl⟩; exact Nat.le_of_ble_eq_true (by kernel_rfl))) (by kernel_rfl) (by kernel_rfl) (by kernel_rfl) ?_
                    rintro _ _ ⟨_, _, ⟨_, ⟨v_119, p1_120, h1_121, rfl, rfl⟩, rfl⟩, rfl, rfl⟩
                    refine R.go 1 (R.any1 13 (by kernel_rfl) (by kernel_rfl) ?_)
                    refine R.idxO 6 1 xs_2.length ((v_115).toNat) v_115 (by kernel_rfl) (by omega) (by omega) (by kernel_rfl) ?_
                    refine R.go 1 (R.any1 14 (by kernel_rfl) (by kernel_rfl) ?_)
                    refine R.stI 6 2 xs_2 ((v_115).toNat) v_119 (by kernel_rfl) (by omega) (by kernel_rfl) ?_
                    refine R.go 1 (R.any0 (by kernel_rfl) ?_)
                    exact R.metF (v_115, p1_116, h1_117, v_119, p1_120, h1_121) (by kernel_rfl) (by first | assumption | omega) (by kernel_rfl)
                  · refine R.call true (l01Full_c n_1 (by omega) (by omega)) (by kernel_rfl) rfl (by kernel_rfl) ?_
                    refine R.go 1 (R.any2 1 10 (by kernel_rfl) (by kernel_rfl) ?_ ?_)
                    · refine R.go 2 (R.any1 10 (by kernel_rfl) (by kernel_rfl) ?_)
                      refine R.ar (((shl64 1 n_1) - 1) + 1) (by kernel_rfl) (by omega) (by omega) (by kernel_rfl) ?_
                      refine R.go 1 (R.any1 11 (by kernel_rfl) (by kernel_rfl) ?_)
                      refine R.lit (s := 1) (n := 2) (cs := rows eI [(-1), ((shl64 1 n_1) - 1) + 1]) (by kernel_rfl) (by kernel_rfl) ?_
                      refine R.go 1 (R.any1 12 (by kernel_rfl) (by kernel_rfl) ?_)
                      refine R.callX (CallX.inF 4 usC frC (CallX.box 4 32 [AI 0, .nil] (pickX_c_r5b c p1_116 h1_117 [(-1), ((shl64 1 n_1) - 1) + 1] eo1 so1 no1 co1 eo2 so2 no2 co2 eo3 so3 no3 co3 32 2 1 [AI 0, .nil] 2 1 xs_2.length (rows eI xs_2) 32 n_1 hc (by simp)) (by kernel_rfl) (by kernel_rfl) (by kernel_rfl) (by kernel_rfl) (by rintro _ _ ⟨_, _, _, rfl, rfl⟩; exact ⟨by kernel_rfl, by kernel_rfl, by kernel_rfl⟩)) (Nat.le_of_ble_eq_true (by kernel_rfl)) (by kernel_rfl) (by kernel_rfl) (by rintro _ _ ⟨_, ⟨_, _, _, rfl, rfl⟩, rfl⟩; exact Nat.le_of_ble_eq_true (by kernel_rfl))) (by kernel_rfl) (by kernel_rfl) (by kernel_rfl) ?_
                      rintro _ _ ⟨_, _, ⟨_, ⟨v_122, p1_123, h1_124, rfl, rfl⟩, rfl⟩, rfl, rfl⟩
                      refine R.go 1 (R.any1 13 (by kernel_rfl) (by kernel_rfl) ?_)
                      refine R.idxO 6 1 xs_2.length ((v_115).toNat) v_115 (by kernel_rfl) (by omega) (by omega) (by kernel_rfl) ?_
                      refine R.go 1 (R.any1 14 (by kernel_rfl) (by kernel_rfl) ?_)
                      refine R.stI 6 2 xs_2 ((v_115).toNat) v_122 (by kernel_rfl) (by omega) (by kernel_rfl) ?_
                      refine R.go 1 (R.any0 (by kernel_rfl) ?_)
                      exact R.metF (v_115, p1_116, h1_117, v_122, p1_123, h1_124) (by kernel_rfl) (by first | assumption | omega) (by kernel_rfl)
                    · refine R.ar (((shl64 1 n_1) - 1) + 1) (by kernel_rfl) (by omega) (by omega) (by kernel_rfl) ?_
                      refine R.go 1 (R.any2 1 11 (by kernel_rfl) (by kernel_rfl) ?_ ?_)
                      · refine R.go 2 (R.any1 11 (by kernel_rfl) (by kernel_rfl) ?_)
                        refine R.lit (s := 1) (n := 2) (cs := rows eI [(-1), ((shl64 1 n_1) - 1) + 1]) (by kernel_rfl) (by kernel_rfl) ?_
                        refine R.go 1 (R.any1 12 (by kernel_rfl) (by kernel_rfl) ?_)
                        refine R.callX (CallX.inF 4 usC frC (CallX.box 4 32 [AI 0, .nil] (pickX_c_r5b c p1_116 h1_117 [(-1), ((shl64 1 n_1) - 1) + 1] eo1 so1 no1 co1 eo2 so2 no2 co2 eo3 so3 no3 co3 32 2 1 [AI 0, .nil] 2 1 xs_2.length (rows eI xs_2) 32 n_1 hc (by simp)) (by kernel_rfl) (by kernel_rfl) (by kernel_rfl) (by kernel_rfl) (by rintro _ _ ⟨_, _, _, rfl, rfl⟩; exact ⟨by kernel_rfl, by kernel_rfl, by kernel_rfl⟩)) (Nat.le_of_ble_eq_true (by kernel_rfl)) (by kernel_rfl) (by kernel_rfl) (by rintro _ _ ⟨_, ⟨_, _, _, rfl, rfl⟩, rfl⟩; exact Nat.le_of_ble_eq_true (by kernel_rfl))) (by kernel_rfl) (by kernel_rfl) (by kernel_rfl) ?_
                        rintro _ _ ⟨_, _, ⟨_, ⟨v_125, p1_126, h1_127, rfl, rfl⟩, rfl⟩, rfl, rfl⟩
                        refine R.go 1 (R.any1 13 (by kernel_rfl) (by kernel_rfl) ?_)
                        refine R.idxO 6 1 xs_2.length ((v_115).toNat) v_115 (by kernel_rfl) (by omega) (by omega) (by kernel_rfl) ?_
                        refine R.go 1 (R.any1 14 (by kernel_rfl) (by kernel_rfl) ?_)
                        refine R.stI 6 2 xs_2 ((v_115).toNat) v_125 (by kernel_rfl) (by omega) (by kernel_rfl) ?_
                        refine R.go 1 (R.any0 (by kernel_rfl) ?_)
                        exact R.metF (v_115, p1_116, h1_117, v_125, p1_126, h1_127) (by kernel_rfl) (by first | assumption | omega) (by kernel_rfl)
                      · refine R.lit (s := 1) (n := 2) (cs := rows eI [(-1), ((shl64 1 n_1) - 1) + 1]) (by kernel_rfl) (by kernel_rfl) ?_
                        refine R.go 1 (R.any2 1 12 (by kernel_rfl) (by kernel_rfl) ?_ ?_)
                        · refine R.go 2 (R.any1 12 (by kernel_rfl) (by kernel_rfl) ?_)
                          refine R.callX (CallX.inF 4 usC frC (CallX.box 4 32 [AI 0, .nil] (pickX_c_r5b c p1_116 h1_117 [(-1), ((shl64 1 n_1) - 1) + 1] eo1 so1 no1 co1 eo2 so2 no2 co2 eo3 so3 no3 co3 32 2 1 [AI 0, .nil] 2 1 xs_2.length (rows eI xs_2) 32 n_1 hc (by simp)) (by kernel_rfl) (by kernel_rfl) (by kernel_rfl) (by kernel_rfl) (by rintro _ _ ⟨_, _, _, rfl, rfl⟩; exact ⟨by kernel_rfl, by kernel_rfl, by kernel_rfl⟩)) (Nat.le_of_ble_eq_true (by kernel_rfl)) (by kernel_rfl) (by kernel_rfl) (by rintro _ _ ⟨_, ⟨_, _, _, rfl, rfl⟩, rfl⟩; exact Nat.le_of_ble_eq_true (by kernel_rfl))) (by kernel_rfl) (by kernel_rfl) (by kernel_rfl) ?_
                          rintro _ _ ⟨_, _, ⟨_, ⟨v_128, p1_129, h1_130, rfl, rfl⟩, rfl⟩, rfl, rfl⟩
                          refine R.go 1 (R.any1 13 (by kernel_rfl) (by kernel_rfl) ?_)
                          refine R.idxO 6 1 xs_2.length ((v_115).toNat) v_115 (by kernel_rfl) (by omega) (by omega) (by kernel_rfl) ?_
                          refine R.go 1 (R.any1 14 (by kernel_rfl) (by kernel_rfl) ?_)
                          refine R.stI 6 2 xs_2 ((v_115).toNat) v_128 (by kernel_rfl) (by omega) (by kernel_rfl) ?_
                          refine R.go 1 (R.any0 (by kernel_rfl) ?_)
                          exact R.metF (v_115, p1_116, h1_117, v_128, p1_129, h1_130) (by kernel_rfl) (by first | assumption | omega) (by kernel_rfl)
                        · refine R.callX (CallX.inF 4 usC frC (CallX.box 4 32 [AI 0, .nil] (pickX_c_r5b c p1_116 h1_117 [(-1), ((shl64 1 n_1) - 1) + 1] eo1 so1 no1 co1 eo2 so2 no2 co2 eo3 so3 no3 co3 32 2 1 [AI 0, .nil] 2 1 xs_2.length (rows eI xs_2) 32 n_1 hc (by simp)) (by kernel_rfl) (by kernel_rfl) (by kernel_rfl) (by kernel_rfl) (by rintro _ _ ⟨_, _, _, rfl, rfl⟩; exact ⟨by kernel_rfl, by kernel_rfl, by kernel_rfl⟩)) (Nat.le_of_ble_eq_true (by kernel_rfl)) (by kernel_rfl) (by kernel_rfl) (by rintro _ _ ⟨_, ⟨_, _, _, rfl, rfl⟩, rfl⟩; exact Nat.le_of_ble_eq_true (by kernel_rfl))) (by kernel_rfl) (by kernel_rfl) (by kernel_rfl) ?_
                          rintro _ _ ⟨_, _, ⟨_, ⟨v_131, p1_132, h1_133, rfl, rfl⟩, rfl⟩, rfl, rfl⟩
                          refine R.go 1 (R.any1 1 (by kernel_rfl) (by kernel_rfl) ?_)
                          refine R.go 2 (R.any1 13 (by kernel_rfl) (by kernel_rfl) ?_)
                          refine R.idxO 6 1 xs_2.length ((v_115).toNat) v_115 (by kernel_rfl) (by omega) (by omega) (by kernel_rfl) ?_
                          refine R.go 1 (R.any1 14 (by kernel_rfl) (by kernel_rfl) ?_)
                          refine R.stI 6 2 xs_2 ((v_115).toNat) v_131 (by kernel_rfl) (by omega) (by kernel_rfl) ?_
                          refine R.go 1 (R.any0 (by kernel_rfl) ?_)
                          exact R.metF (v_115, p1_116, h1_117, v_131, p1_132, h1_133) (by kernel_rfl) (by first | assumption | omega) (by kernel_rfl)
          · rintro ⟨v_18, p1_19, h1_20, v_22, p1_23, h1_24⟩ f21
            refine R.go 6 (R.frz 6 (by kernel_rfl) ?_)
            refine R.kfix 4 (us := usC) (by kernel_rfl) (hfC.frz 6 (LI (xs_2.set ((v_18).toNat) v_22)) (Nat.le_of_ble_eq_true (by kernel_rfl))) ?_
            exact R.retX (res := .agg [AI n_1, LI (xs_2.set ((v_18).toNat) v_22)]) (hp' := [.box 98 [LB c, AI (p1_23 : Int), .int .u64 h1_24], .list eo1 so1 no1 co1, .list eo2 so2 no2 co2, .list eo3 so3 no3 co3, .dead, .box 32 [AI n_1, LI (xs_2.set ((v_18).toNat) v_22)], .dead, .box 32 [AI n_1, LI (xs_2.set ((v_18).toNat) v_22)]]) (by kernel_rfl) (by kernel_rfl) (by kernel_rfl) (by kernel_rfl) ⟨[0, 1, 2, 3], by kernel_rfl, by decide, n_1, xs_2.set ((v_18).toNat) v_22, p1_23, h1_24, by first | omega | (simp; done) | (simp only [List.length_append, List.length_cons, List.length_nil, List.length_set]; omega), by kernel_rfl, by kernel_rfl⟩
        · refine R.go 7 (R.frz 6 (by kernel_rfl) ?_)
          refine R.kfix 4 (us := usC) (by kernel_rfl) (hfC.frz 6 (LI xs_2) (Nat.le_of_ble_eq_true (by kernel_rfl))) ?_
          exact R.retX (res := .agg [AI n_1, LI xs_2]) (hp' := [.box 98 [LB c, AI (p1_8 : Int), .int .u64 h1_9], .list eo1 so1 no1 co1, .list eo2 so2 no2 co2, .list eo3 so3 no3 co3, .dead, .box 32 [AI n_1, LI xs_2], .dead, .box 32 [AI n_1, LI xs_2]]) (by kernel_rfl) (by kernel_rfl) (by kernel_rfl) (by kernel_rfl) ⟨[0, 1, 2, 3], by kernel_rfl, by decide, n_1, xs_2, p1_8, h1_9, by first | omega | (simp; done) | (simp only [List.length_append, List.length_cons, List.length_nil, List.length_set]; omega), by kernel_rfl, by kernel_rfl⟩
      · refine R.go 7 (R.frz 6 (by kernel_rfl) ?_)
        refine R.kfix 4 (us := usC) (by kernel_rfl) (hfC.frz 6 (LI xs_2) (Nat.le_of_ble_eq_true (by kernel_rfl))) ?_
        exact R.retX (res := .agg [AI n_1, LI xs_2]) (hp' := [.box 98 [LB c, AI (p1_8 : Int), .int .u64 h1_9], .list eo1 so1 no1 co1, .list eo2 so2 no2 co2, .list eo3 so3 no3 co3, .dead, .box 32 [AI n_1, LI xs_2], .dead, .box 32 [AI n_1, LI xs_2]]) (by kernel_rfl) (by kernel_rfl) (by kernel_rfl) (by kernel_rfl) ⟨[0, 1, 2, 3], by kernel_rfl, by decide, n_1, xs_2, p1_8, h1_9, by first | omega | (simp; done) | (simp only [List.length_append, List.length_cons, List.length_nil, List.length_set]; omega), by kernel_rfl, by kernel_rfl⟩

end Go.Proofs.Ytpalghbfhgimkaa
