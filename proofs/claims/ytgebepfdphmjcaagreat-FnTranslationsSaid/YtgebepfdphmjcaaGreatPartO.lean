/- Texts of the proof: TR9, TR10. -/
import Derived.Test.YtgebepfdphmjcaaGreatPartN

/-! Draws of models with point formulas and worlds. -/
namespace Go.Proofs.YtgebepfdphmjcaaGreat
open Go.RowKit Go.Abs

theorem numX_c_r3 (c : List Int) (p : Nat) (h : Int) (n : Int) (eo1 : Nat) (so1 : Nat) (no1 : Nat) (co1 : List AV) (eo2 : Nat) (so2 : Nat) (no2 : Nat) (co2 : List AV) (eo3 : Nat) (so3 : Nat) (no3 : Nat) (co3 : List AV) (hc : BY c) : CallX Tryz.prog 63 [.ptr 0 0, AI n] [.box 120 [LB c, AI (p : Int), .int .u64 h], .list eo1 so1 no1 co1, .list eo2 so2 no2 co2, .list eo3 so3 no3 co3] (fun (resX : AV) (objX : List AObj) => ∃ v : Int, ∃ p1 : Nat, ∃ h1 : Int, resX = AI v ∧ objX = [.box 120 [LB c, AI (p1 : Int), .int .u64 h1], .list eo1 so1 no1 co1, .list eo2 so2 no2 co2, .list eo3 so3 no3 co3]) := by
  have hcl : c.length ≤ 4096 := hc.1
  have hcb := hc.2
  refine CallX.dropE (CallX.ofF Tryz.func63 rfl (by kernel_rfl) ?_)
  intro usC frC hfC
  refine R.go 8 (R.callX (CallX.inF 4 usC frC (nextX_c_r3 c p h 40 eo1 so1 no1 co1 eo2 so2 no2 co2 eo3 so3 no3 co3 hc) (Nat.le_of_ble_eq_true (by kernel_rfl)) (by kernel_rfl) (by kernel_rfl) (by rintro _ _ ⟨_, _, _, _, rfl, rfl⟩; exact Nat.le_of_ble_eq_true (by kernel_rfl))) (by kernel_rfl) (by kernel_rfl) (by kernel_rfl) ?_)
  rintro _ _ ⟨_, _, ⟨v_1, p1_2, h1_3, f4, rfl, rfl⟩, rfl, rfl⟩
  refine R.go 2 (R.cond (v_1 = 0) (by kernel_rfl) (fun c5 => ?_) (fun c5 => ?_))
  · refine R.go 4 (R.lit (s := 1) (n := 4) (cs := rows eI [(-1), n, 9223372036854775807, (-9223372036854775808)]) (by kernel_rfl) (by kernel_rfl) ?_)
    refine R.callX (CallX.inF 4 usC frC (pickX_c_r3 c p1_2 h1_3 [(-1), n, 9223372036854775807, (-9223372036854775808)] eo1 so1 no1 co1 eo2 so2 no2 co2 eo3 so3 no3 co3 hc (by simp)) (Nat.le_of_ble_eq_true (by kernel_rfl)) (by kernel_rfl) (by kernel_rfl) (by rintro _ _ ⟨_, _, _, rfl, rfl⟩; exact Nat.le_of_ble_eq_true (by kernel_rfl))) (by kernel_rfl) (by kernel_rfl) (by kernel_rfl) ?_
    rintro _ _ ⟨_, _, ⟨v_6, p1_7, h1_8, rfl, rfl⟩, rfl, rfl⟩
    exact R.go 2 (R.retX (res := AI v_6) (hp' := [.box 120 [LB c, AI (p1_7 : Int), .int .u64 h1_8], .list eo1 so1 no1 co1, .list eo2 so2 no2 co2, .list eo3 so3 no3 co3, .dead]) (by kernel_rfl) (by kernel_rfl) (by kernel_rfl) (by kernel_rfl) ⟨[0, 1, 2, 3], by kernel_rfl, by decide, v_6, p1_7, h1_8, by kernel_rfl, by kernel_rfl⟩)
  · refine R.go 5 (R.callX (CallX.inF 4 usC frC (nextX_c_r3 c p1_2 h1_3 n eo1 so1 no1 co1 eo2 so2 no2 co2 eo3 so3 no3 co3 hc) (Nat.le_of_ble_eq_true (by kernel_rfl)) (by kernel_rfl) (by kernel_rfl) (by rintro _ _ ⟨_, _, _, _, rfl, rfl⟩; exact Nat.le_of_ble_eq_true (by kernel_rfl))) (by kernel_rfl) (by kernel_rfl) (by kernel_rfl) ?_)
    rintro _ _ ⟨_, _, ⟨v_9, p1_10, h1_11, f12, rfl, rfl⟩, rfl, rfl⟩
    exact R.go 2 (R.retX (res := AI v_9) (hp' := [.box 120 [LB c, AI (p1_10 : Int), .int .u64 h1_11], .list eo1 so1 no1 co1, .list eo2 so2 no2 co2, .list eo3 so3 no3 co3, .dead]) (by kernel_rfl) (by kernel_rfl) (by kernel_rfl) (by kernel_rfl) ⟨[0, 1, 2, 3], by kernel_rfl, by decide, v_9, p1_10, h1_11, by kernel_rfl, by kernel_rfl⟩)

theorem drPH_c (c : List Int) (hc : BY c) : CallX Tryz.prog 23 [LB c] [] (fun (resX : AV) (objX : List AObj) => ∃ n : Int, ∃ xs : List Int, ∃ vs : List Int, ∃ l : List (Int × Int × Int), ∃ ws : List Int, (xs.length ≤ 100) ∧ (vs.length ≤ 6) ∧ (ws.length ≤ 100) ∧ resX = .tup [.agg [AI n, LI xs, LI vs], LT l, LI ws] ∧ objX = []) := by
  have hcl : c.length ≤ 4096 := hc.1
  have hcb := hc.2
  refine CallX.dropE (CallX.ofF Tryz.func23 rfl (by kernel_rfl) ?_)
  intro usC frC hfC
  refine R.go 9 (R.enter (avs := [LB c]) Tryz.func36 rfl (by kernel_rfl) (by kernel_rfl) (by kernel_rfl) ?_)
  intro us1
  refine R.go 9 (R.cv .u64 (c.length : Int) (by kernel_rfl) (u64_id (by omega) (by omega)) (by kernel_rfl) ?_)
  refine R.go 11 (R.loop ((fun | (i, hh) => (⟨(frm 38 [(0, LB c), (3, .ptr 3 0), (4, AI (i : Int))]), [.frame usC frC, .box 43 [AI 0, .nil, .nil], .frame us1 (frm 60 [(0, LB c), (2, .ptr 1 0), (3, .nil), (4, .nil), (11, LB c)]), .box 120 [LB c, AI 0, .int .u64 hh]]⟩ : St) : Nat × Int → St)) (fun | (i, hh) => i ≤ c.length) (fun | (i, hh) => c.length - i) (0, (IntKind.u64.wrap (7129 + (c.length : Int)))) [0, 3, 4] none (by kernel_rfl) (by kernel_rfl) (by kernel_rfl) (by omega) ?_)
  rintro ⟨i, hh⟩ h5_1 R2 N3
  refine R.go 8 ?_
  by_cases c6 : (i : Int) < (c.length : Int)
  · refine R.want (decide ((i : Int) < (c.length : Int))) true (by kernel_rfl) (dT c6) ?_
    refine R.go 1 (R.want (decide ((i : Int) < (c.length : Int))) true (by kernel_rfl) (dT c6) ?_)
    refine R.go 1 (R.pick (decide ((i : Int) < (c.length : Int))) true (by kernel_rfl) (dT c6) (by kernel_rfl) ?_)
    refine R.go 1 (R.cond ((i : Int) < 4096) (by kernel_rfl) (fun c7 => ?_) (fun c7 => ?_))
    · have hbi := hcb i (by omega)
      refine R.go 12 (R.idx eB c 0 i (i : Int) (by kernel_rfl) rfl eB_len (by omega) (by kernel_rfl) ?_)
      refine R.go 1 (R.cv .u64 (c.getD i 0) (by kernel_rfl) (u64_id (by omega) (by omega)) (by kernel_rfl) ?_)
      refine R.go 9 (R.ar ((i : Int) + 1) (by kernel_rfl) (by omega) (by omega) (by kernel_rfl) ?_)
      exact R.go 2 (R.stop R2 (by kernel_rfl) (N3 (i + 1, IntKind.u64.wrap ((IntKind.u64.wrap ((IntKind.u64.wrap (hh * 1099511628211)) + (c.getD i 0))) + 11)) [0, 3, 4] none _ (by kernel_rfl) (by kernel_rfl) (by omega) (by show (c.length - (i + 1)) < (c.length - i); omega)))
    · refine R.go 6 (R.back (.ptr 3 0) (frm 60 [(0, LB c), (2, .ptr 1 0), (3, .nil), (4, .nil), (11, LB c)]) (by kernel_rfl) (by kernel_rfl) (by kernel_rfl) ?_)
      refine R.go 5 (R.deadF 2 (by kernel_rfl) (by kernel_rfl) ?_)
      refine R.callX (CallX.inF 0 usC frC (CallX.inF 1 [] [] (CallX.perm [1, 0] [1, 0] (CallX.box 1 43 [AI 0, .nil, .nil] (modelX_c_r1 c 0 hh 4 43 3 1 [AI 0, .nil, .nil] hc (by omega)) (by kernel_rfl) (by kernel_rfl) (by kernel_rfl) (by kernel_rfl) (by rintro _ _ ⟨_, _, _, _, _, _, _, rfl, rfl⟩; exact ⟨by kernel_rfl, by kernel_rfl, by kernel_rfl⟩)) (by kernel_rfl) (by kernel_rfl) (by kernel_rfl) (by rintro _ _ ⟨_, ⟨_, _, _, _, _, _, _, rfl, rfl⟩, rfl⟩; exact Nat.le_of_ble_eq_true (by kernel_rfl))) (Nat.le_of_ble_eq_true (by kernel_rfl)) (by kernel_rfl) (by kernel_rfl) (by rintro _ _ ⟨_, _, ⟨_, ⟨_, _, _, _, _, _, _, rfl, rfl⟩, rfl⟩, rfl, rfl⟩; exact Nat.le_of_ble_eq_true (by kernel_rfl))) (Nat.le_of_ble_eq_true (by kernel_rfl)) (by kernel_rfl) (by kernel_rfl) (by rintro _ _ ⟨_, _, ⟨_, _, ⟨_, ⟨_, _, _, _, _, _, _, rfl, rfl⟩, rfl⟩, rfl, rfl⟩, rfl, rfl⟩; exact Nat.le_of_ble_eq_true (by kernel_rfl))) (by kernel_rfl) (by kernel_rfl) (by kernel_rfl) ?_
      rintro _ _ ⟨_, _, ⟨_, _, ⟨_, _, ⟨_, ⟨n_8, xs_9, vs_10, p1_11, h1_12, f13, f14, rfl, rfl⟩, rfl⟩, rfl, rfl⟩, rfl, rfl⟩, rfl, rfl⟩
      refine R.go 1 (R.callX (CallX.inF 0 usC frC (CallX.inF 1 [] [] (CallX.perm [1, 0] [1, 0] (CallX.box 1 43 [AI 0, .nil, .nil] (drawnT_c_r1 c p1_11 h1_12 43 3 1 [AI 0, .nil, .nil] hc) (by kernel_rfl) (by kernel_rfl) (by kernel_rfl) (by kernel_rfl) (by rintro _ _ ⟨_, _, _, _, rfl, rfl⟩; exact ⟨by kernel_rfl, by kernel_rfl, by kernel_rfl⟩)) (by kernel_rfl) (by kernel_rfl) (by kernel_rfl) (by rintro _ _ ⟨_, ⟨_, _, _, _, rfl, rfl⟩, rfl⟩; exact Nat.le_of_ble_eq_true (by kernel_rfl))) (Nat.le_of_ble_eq_true (by kernel_rfl)) (by kernel_rfl) (by kernel_rfl) (by rintro _ _ ⟨_, _, ⟨_, ⟨_, _, _, _, rfl, rfl⟩, rfl⟩, rfl, rfl⟩; exact Nat.le_of_ble_eq_true (by kernel_rfl))) (Nat.le_of_ble_eq_true (by kernel_rfl)) (by kernel_rfl) (by kernel_rfl) (by rintro _ _ ⟨_, _, ⟨_, _, ⟨_, ⟨_, _, _, _, rfl, rfl⟩, rfl⟩, rfl, rfl⟩, rfl, rfl⟩; exact Nat.le_of_ble_eq_true (by kernel_rfl))) (by kernel_rfl) (by kernel_rfl) (by kernel_rfl) ?_)
      rintro _ _ ⟨_, _, ⟨_, _, ⟨_, _, ⟨_, ⟨r_15, p1_16, h1_17, f18, rfl, rfl⟩, rfl⟩, rfl, rfl⟩, rfl, rfl⟩, rfl, rfl⟩
      refine R.go 12 (R.loop ((fun | (k, us, q, hq) => (⟨(frm 60 [(2, .ptr 1 0), (5, .ptr 2 0), (6, .ptr 3 0), (7, LT r_15), (8, .ref 4), (9, AI (k : Int))]), [.frame usC frC, .box 43 [AI 0, .nil, .nil], .box 120 [LB c, AI (q : Int), .int .u64 hq], .box 43 [AI n_8, LI xs_9, LI vs_10], rowA eI 2 1 us]⟩ : St) : Nat × (List Int) × Nat × Int → St)) (fun | (k, us, q, hq) => (k ≤ 10) ∧ (us.length = k)) (fun | (k, us, q, hq) => 10 - k) (0, [], p1_16, h1_17) [2, 5, 6, 7, 8, 9] (some [0, 1, 3, 5, 4]) (by kernel_rfl) (by kernel_rfl) (canonF (fr := frC) (fun (frX : List AV) => (⟨(frm 60 [(2, .ptr 1 0), (5, .ptr 2 0), (6, .ptr 3 0), (7, LT r_15), (8, .ref 4), (9, AI 0)]), [.frame usC frX, .box 43 [AI 0, .nil, .nil], .box 120 [LB c, AI (p1_16 : Int), .int .u64 h1_17], .box 43 [AI n_8, LI xs_9, LI vs_10], rowA eI 2 1 []]⟩ : St)) (hfC.ren _ (by kernel_rfl)) (by kernel_rfl) (by kernel_rfl)) ⟨(by omega), (by rfl)⟩ ?_)
      rintro ⟨k, us, q, hq⟩ ⟨h22_1, h22_2⟩ R19 N20
      refine R.go 6 (R.cond ((k : Int) < 10) (by kernel_rfl) (fun c23 => ?_) (fun c23 => ?_))
      · refine R.go 10 (R.callX (CallX.inF 0 usC frC (CallX.perm [1, 0, 2, 3] [1, 0, 2, 3] (CallX.box 2 43 [AI n_8, LI xs_9, LI vs_10] (CallX.box 1 43 [AI 0, .nil, .nil] (nextX_c_r3 c q hq (if n_8 > 1 then n_8 else 1) 43 3 1 [AI 0, .nil, .nil] 43 3 1 [AI n_8, LI xs_9, LI vs_10] 2 1 us.length (rows eI us) hc) (by kernel_rfl) (by kernel_rfl) (by kernel_rfl) (by kernel_rfl) (by rintro _ _ ⟨_, _, _, _, rfl, rfl⟩; exact ⟨by kernel_rfl, by kernel_rfl, by kernel_rfl⟩)) (by kernel_rfl) (by kernel_rfl) (by kernel_rfl) (by kernel_rfl) (by rintro _ _ ⟨_, ⟨_, _, _, _, rfl, rfl⟩, rfl⟩; exact ⟨by kernel_rfl, by kernel_rfl, by kernel_rfl⟩)) (by kernel_rfl) (by kernel_rfl) (by kernel_rfl) (by rintro _ _ ⟨_, ⟨_, ⟨_, _, _, _, rfl, rfl⟩, rfl⟩, rfl⟩; exact Nat.le_of_ble_eq_true (by kernel_rfl))) (Nat.le_of_ble_eq_true (by kernel_rfl)) (by kernel_rfl) (by kernel_rfl) (by rintro _ _ ⟨_, _, ⟨_, ⟨_, ⟨_, _, _, _, rfl, rfl⟩, rfl⟩, rfl⟩, rfl, rfl⟩; exact Nat.le_of_ble_eq_true (by kernel_rfl))) (by kernel_rfl) (by kernel_rfl) (by kernel_rfl) ?_)
        rintro _ _ ⟨_, _, ⟨_, _, ⟨_, ⟨_, ⟨v_24, p1_25, h1_26, f27, rfl, rfl⟩, rfl⟩, rfl⟩, rfl, rfl⟩, rfl, rfl⟩
        refine R.go 1 (R.app eI us [v_24] 4 2 1 8 (by kernel_rfl) eI_one (by decide) (by first | omega | (simp <;> omega)) (by kernel_rfl) ?_)
        refine R.kfix 0 (us := usC) (by kernel_rfl) (hfC.kill 4 (Nat.le_of_ble_eq_true (by kernel_rfl))) ?_
        refine R.go 5 (R.ar ((k : Int) + 1) (by kernel_rfl) (by omega) (by omega) (by kernel_rfl) ?_)
        exact R.go 2 (R.stop R19 (by kernel_rfl) (N20 (k + 1, us ++ [v_24], p1_25, h1_26) [2, 5, 6, 7, 8, 9] (some [0, 1, 2, 3, 4]) _ (by kernel_rfl) (canonF (fr := frC) (fun (frX : List AV) => (⟨(frm 60 [(2, .ptr 1 0), (5, .ptr 2 0), (6, .ptr 3 0), (7, LT r_15), (8, .ref 4), (9, AI ((k : Int) + 1))]), [.frame usC frX, .box 43 [AI 0, .nil, .nil], .box 120 [LB c, AI (p1_25 : Int), .int .u64 h1_26], .box 43 [AI n_8, LI xs_9, LI vs_10], rowA eI 2 1 (us ++ [v_24])]⟩ : St)) (hfC.ren _ (by kernel_rfl)) (by kernel_rfl) (by kernel_rfl)) ⟨(by omega), (by (simp <;> omega))⟩ (by show (10 - (k + 1)) < (10 - k); omega)))
      · refine R.go 5 (R.callX (CallX.inF 0 usC frC (CallX.perm [1, 0, 2, 3] [1, 0, 2, 3] (CallX.box 2 43 [AI n_8, LI xs_9, LI vs_10] (CallX.box 1 43 [AI 0, .nil, .nil] (nextX_c_r3 c q hq 20 43 3 1 [AI 0, .nil, .nil] 43 3 1 [AI n_8, LI xs_9, LI vs_10] 2 1 us.length (rows eI us) hc) (by kernel_rfl) (by kernel_rfl) (by kernel_rfl) (by kernel_rfl) (by rintro _ _ ⟨_, _, _, _, rfl, rfl⟩; exact ⟨by kernel_rfl, by kernel_rfl, by kernel_rfl⟩)) (by kernel_rfl) (by kernel_rfl) (by kernel_rfl) (by kernel_rfl) (by rintro _ _ ⟨_, ⟨_, _, _, _, rfl, rfl⟩, rfl⟩; exact ⟨by kernel_rfl, by kernel_rfl, by kernel_rfl⟩)) (by kernel_rfl) (by kernel_rfl) (by kernel_rfl) (by rintro _ _ ⟨_, ⟨_, ⟨_, _, _, _, rfl, rfl⟩, rfl⟩, rfl⟩; exact Nat.le_of_ble_eq_true (by kernel_rfl))) (Nat.le_of_ble_eq_true (by kernel_rfl)) (by kernel_rfl) (by kernel_rfl) (by rintro _ _ ⟨_, _, ⟨_, ⟨_, ⟨_, _, _, _, rfl, rfl⟩, rfl⟩, rfl⟩, rfl, rfl⟩; exact Nat.le_of_ble_eq_true (by kernel_rfl))) (by kernel_rfl) (by kernel_rfl) (by kernel_rfl) ?_)
        rintro _ _ ⟨_, _, ⟨_, _, ⟨_, ⟨_, ⟨v_28, p1_29, h1_30, f31, rfl, rfl⟩, rfl⟩, rfl⟩, rfl, rfl⟩, rfl, rfl⟩
        refine R.go 7 (R.cond (v_28 = 0) (by kernel_rfl) (fun c32 => ?_) (fun c32 => ?_))
        · refine R.go 2 (R.frz 4 (by kernel_rfl) ?_)
          refine R.kfix 0 (us := usC) (by kernel_rfl) (hfC.frz 4 (LI us) (Nat.le_of_ble_eq_true (by kernel_rfl))) ?_
          refine R.slL eI us 1 1 (by kernel_rfl) rfl eI_len (by omega) (by kernel_rfl) ?_
          refine R.go 7 (R.deadF 4 (by kernel_rfl) (by kernel_rfl) ?_)
          refine R.callX (CallX.inF 0 usC frC (CallX.inF 3 [] [] (CallX.perm [1, 0, 2] [1, 0, 2] (CallX.box 2 43 [AI n_8, LI xs_9, LI vs_10] (CallX.box 1 43 [AI 0, .nil, .nil] (nextX_c_r2 c p1_29 h1_30 20 43 3 1 [AI 0, .nil, .nil] 43 3 1 [AI n_8, LI xs_9, LI vs_10] hc) (by kernel_rfl) (by kernel_rfl) (by kernel_rfl) (by kernel_rfl) (by rintro _ _ ⟨_, _, _, _, rfl, rfl⟩; exact ⟨by kernel_rfl, by kernel_rfl, by kernel_rfl⟩)) (by kernel_rfl) (by kernel_rfl) (by kernel_rfl) (by kernel_rfl) (by rintro _ _ ⟨_, ⟨_, _, _, _, rfl, rfl⟩, rfl⟩; exact ⟨by kernel_rfl, by kernel_rfl, by kernel_rfl⟩)) (by kernel_rfl) (by kernel_rfl) (by kernel_rfl) (by rintro _ _ ⟨_, ⟨_, ⟨_, _, _, _, rfl, rfl⟩, rfl⟩, rfl⟩; exact Nat.le_of_ble_eq_true (by kernel_rfl))) (Nat.le_of_ble_eq_true (by kernel_rfl)) (by kernel_rfl) (by kernel_rfl) (by rintro _ _ ⟨_, _, ⟨_, ⟨_, ⟨_, _, _, _, rfl, rfl⟩, rfl⟩, rfl⟩, rfl, rfl⟩; exact Nat.le_of_ble_eq_true (by kernel_rfl))) (Nat.le_of_ble_eq_true (by kernel_rfl)) (by kernel_rfl) (by kernel_rfl) (by rintro _ _ ⟨_, _, ⟨_, _, ⟨_, ⟨_, ⟨_, _, _, _, rfl, rfl⟩, rfl⟩, rfl⟩, rfl, rfl⟩, rfl, rfl⟩; exact Nat.le_of_ble_eq_true (by kernel_rfl))) (by kernel_rfl) (by kernel_rfl) (by kernel_rfl) ?_
          rintro _ _ ⟨_, _, ⟨_, _, ⟨_, _, ⟨_, ⟨_, ⟨v_33, p1_34, h1_35, f36, rfl, rfl⟩, rfl⟩, rfl⟩, rfl, rfl⟩, rfl, rfl⟩, rfl, rfl⟩
          refine R.go 2 (R.cond (v_33 = 0) (by kernel_rfl) (fun c37 => ?_) (fun c37 => ?_))
          · refine R.go 5 (R.loop ((fun | (j, lz) => (⟨(frm 60 [(2, .ptr 1 0), (6, .ptr 2 0), (7, LT lz), (8, LI (us.drop 1)), (10, AI (j : Int))]), [.frame usC frC, .box 43 [AI 0, .nil, .nil], .box 43 [AI n_8, LI xs_9, LI vs_10]]⟩ : St) : Nat × (List (Int × Int × Int)) → St)) (fun | (j, lz) => (j ≤ 7) ∧ (lz.length ≤ 1000 + j)) (fun | (j, lz) => 7 - j) (0, r_15) [2, 6, 7, 8, 10] (some [0, 1, 3]) (by kernel_rfl) (by kernel_rfl) (canonF (fr := frC) (fun (frX : List AV) => (⟨(frm 60 [(2, .ptr 1 0), (6, .ptr 2 0), (7, LT r_15), (8, LI (us.drop 1)), (10, AI 0)]), [.frame usC frX, .box 43 [AI 0, .nil, .nil], .box 43 [AI n_8, LI xs_9, LI vs_10]]⟩ : St)) (hfC.ren _ (by kernel_rfl)) (by kernel_rfl) (by kernel_rfl)) ⟨(by omega), (by omega)⟩ ?_)
            rintro ⟨j, lz⟩ ⟨h41_1, h41_2⟩ R38 N39
            refine R.go 6 (R.cond ((j : Int) < 7) (by kernel_rfl) (fun c42 => ?_) (fun c42 => ?_))
            · refine R.go 5 (R.rem (j : Int) 3 (by kernel_rfl) (by omega) (by omega) (by kernel_rfl) ?_)
              refine R.go 1 (R.call true (l10Bind_c 7 ((j : Int) % 3) lz (by first | omega | (simp <;> omega))).frz (by kernel_rfl) rfl (by kernel_rfl) ?_)
              refine R.go 5 (R.ar ((j : Int) + 1) (by kernel_rfl) (by omega) (by omega) (by kernel_rfl) ?_)
              exact R.go 2 (R.stop R38 (by kernel_rfl) (N39 (j + 1, (7, ((j : Int) % 3), 0) :: lz) [2, 6, 7, 8, 10] none _ (by kernel_rfl) (by kernel_rfl) ⟨(by omega), (by (simp only [List.length_cons]; omega))⟩ (by show (7 - (j + 1)) < (7 - j); omega)))
            · exact R.go 10 (R.retX (res := .tup [.agg [AI n_8, LI xs_9, LI vs_10], LT lz, LI (us.drop 1)]) (hp' := [.dead, .box 43 [AI n_8, LI xs_9, LI vs_10], .box 43 [AI n_8, LI xs_9, LI vs_10]]) (by kernel_rfl) (by kernel_rfl) (by kernel_rfl) (by kernel_rfl) ⟨[], by kernel_rfl, by decide, n_8, xs_9, vs_10, lz, us.drop 1, by first | assumption | omega | (simp only [List.length_drop, List.length_set]; omega) | (have h5 : us.length = k := (by assumption); simp only [List.length_drop, List.length_set]; omega), by first | assumption | omega | (simp only [List.length_drop, List.length_set]; omega) | (have h5 : us.length = k := (by assumption); simp only [List.length_drop, List.length_set]; omega), by first | assumption | omega | (simp only [List.length_drop, List.length_set]; omega) | (have h5 : us.length = k := (by assumption); simp only [List.length_drop, List.length_set]; omega), by kernel_rfl, by kernel_rfl⟩)
          · exact R.go 10 (R.retX (res := .tup [.agg [AI n_8, LI xs_9, LI vs_10], LT r_15, LI (us.drop 1)]) (hp' := [.dead, .box 43 [AI n_8, LI xs_9, LI vs_10], .box 120 [LB c, AI (p1_34 : Int), .int .u64 h1_35], .box 43 [AI n_8, LI xs_9, LI vs_10], .frame [] []]) (by kernel_rfl) (by kernel_rfl) (by kernel_rfl) (by kernel_rfl) ⟨[], by kernel_rfl, by decide, n_8, xs_9, vs_10, r_15, us.drop 1, by first | assumption | omega | (simp only [List.length_drop, List.length_set]; omega) | (have h5 : us.length = k := (by assumption); simp only [List.length_drop, List.length_set]; omega), by first | assumption | omega | (simp only [List.length_drop, List.length_set]; omega) | (have h5 : us.length = k := (by assumption); simp only [List.length_drop, List.length_set]; omega), by first | assumption | omega | (simp only [List.length_drop, List.length_set]; omega) | (have h5 : us.length = k := (by assumption); simp only [List.length_drop, List.length_set]; omega), by kernel_rfl, by kernel_rfl⟩)
        · refine R.go 5 (R.cond (v_28 = 1) (by kernel_rfl) (fun c43 => ?_) (fun c43 => ?_))
          · refine R.go 6 (R.callX (CallX.inF 0 usC frC (CallX.perm [1, 0, 2, 3] [1, 0, 2, 3] (CallX.box 2 43 [AI n_8, LI xs_9, LI vs_10] (CallX.box 1 43 [AI 0, .nil, .nil] (numX_c_r3 c p1_29 h1_30 n_8 43 3 1 [AI 0, .nil, .nil] 43 3 1 [AI n_8, LI xs_9, LI vs_10] 2 1 us.length (rows eI us) hc) (by kernel_rfl) (by kernel_rfl) (by kernel_rfl) (by kernel_rfl) (by rintro _ _ ⟨_, _, _, rfl, rfl⟩; exact ⟨by kernel_rfl, by kernel_rfl, by kernel_rfl⟩)) (by kernel_rfl) (by kernel_rfl) (by kernel_rfl) (by kernel_rfl) (by rintro _ _ ⟨_, ⟨_, _, _, rfl, rfl⟩, rfl⟩; exact ⟨by kernel_rfl, by kernel_rfl, by kernel_rfl⟩)) (by kernel_rfl) (by kernel_rfl) (by kernel_rfl) (by rintro _ _ ⟨_, ⟨_, ⟨_, _, _, rfl, rfl⟩, rfl⟩, rfl⟩; exact Nat.le_of_ble_eq_true (by kernel_rfl))) (Nat.le_of_ble_eq_true (by kernel_rfl)) (by kernel_rfl) (by kernel_rfl) (by rintro _ _ ⟨_, _, ⟨_, ⟨_, ⟨_, _, _, rfl, rfl⟩, rfl⟩, rfl⟩, rfl, rfl⟩; exact Nat.le_of_ble_eq_true (by kernel_rfl))) (by kernel_rfl) (by kernel_rfl) (by kernel_rfl) ?_)
            rintro _ _ ⟨_, _, ⟨_, _, ⟨_, ⟨_, ⟨v_44, p1_45, h1_46, rfl, rfl⟩, rfl⟩, rfl⟩, rfl, rfl⟩, rfl, rfl⟩
            refine R.idxO 4 1 us.length 9 9 (by kernel_rfl) rfl (by omega) (by kernel_rfl) ?_
            refine R.stI 4 2 us 9 v_44 (by kernel_rfl) (by omega) (by kernel_rfl) ?_
            refine R.go 6 (R.callX (CallX.inF 0 usC frC (CallX.perm [1, 0, 2, 3] [1, 0, 2, 3] (CallX.box 2 43 [AI n_8, LI xs_9, LI vs_10] (CallX.box 1 43 [AI 0, .nil, .nil] (nextX_c_r3 c p1_45 h1_46 20 43 3 1 [AI 0, .nil, .nil] 43 3 1 [AI n_8, LI xs_9, LI vs_10] 2 1 ((us.set 9 v_44).length) (rows eI (us.set 9 v_44)) hc) (by kernel_rfl) (by kernel_rfl) (by kernel_rfl) (by kernel_rfl) (by rintro _ _ ⟨_, _, _, _, rfl, rfl⟩; exact ⟨by kernel_rfl, by kernel_rfl, by kernel_rfl⟩)) (by kernel_rfl) (by kernel_rfl) (by kernel_rfl) (by kernel_rfl) (by rintro _ _ ⟨_, ⟨_, _, _, _, rfl, rfl⟩, rfl⟩; exact ⟨by kernel_rfl, by kernel_rfl, by kernel_rfl⟩)) (by kernel_rfl) (by kernel_rfl) (by kernel_rfl) (by rintro _ _ ⟨_, ⟨_, ⟨_, _, _, _, rfl, rfl⟩, rfl⟩, rfl⟩; exact Nat.le_of_ble_eq_true (by kernel_rfl))) (Nat.le_of_ble_eq_true (by kernel_rfl)) (by kernel_rfl) (by kernel_rfl) (by rintro _ _ ⟨_, _, ⟨_, ⟨_, ⟨_, _, _, _, rfl, rfl⟩, rfl⟩, rfl⟩, rfl, rfl⟩; exact Nat.le_of_ble_eq_true (by kernel_rfl))) (by kernel_rfl) (by kernel_rfl) (by kernel_rfl) ?_)
            rintro _ _ ⟨_, _, ⟨_, _, ⟨_, ⟨_, ⟨v_47, p1_48, h1_49, f50, rfl, rfl⟩, rfl⟩, rfl⟩, rfl, rfl⟩, rfl, rfl⟩
            refine R.go 2 (R.cond (v_47 = 0) (by kernel_rfl) (fun c51 => ?_) (fun c51 => ?_))
            · refine R.go 5 (R.loop ((fun | (j, lz) => (⟨(frm 60 [(2, .ptr 1 0), (6, .ptr 2 0), (7, LT lz), (8, .ref 3), (10, AI (j : Int))]), [.frame usC frC, .box 43 [AI 0, .nil, .nil], .box 43 [AI n_8, LI xs_9, LI vs_10], rowA eI 2 1 (us.set 9 v_44)]⟩ : St) : Nat × (List (Int × Int × Int)) → St)) (fun | (j, lz) => (j ≤ 7) ∧ (lz.length ≤ 1000 + j)) (fun | (j, lz) => 7 - j) (0, r_15) [2, 6, 7, 8, 10] (some [0, 1, 3, 4]) (by kernel_rfl) (by kernel_rfl) (canonF (fr := frC) (fun (frX : List AV) => (⟨(frm 60 [(2, .ptr 1 0), (6, .ptr 2 0), (7, LT r_15), (8, .ref 3), (10, AI 0)]), [.frame usC frX, .box 43 [AI 0, .nil, .nil], .box 43 [AI n_8, LI xs_9, LI vs_10], rowA eI 2 1 (us.set 9 v_44)]⟩ : St)) (hfC.ren _ (by kernel_rfl)) (by kernel_rfl) (by kernel_rfl)) ⟨(by omega), (by omega)⟩ ?_)
              rintro ⟨j, lz⟩ ⟨h55_1, h55_2⟩ R52 N53
              refine R.go 6 (R.cond ((j : Int) < 7) (by kernel_rfl) (fun c56 => ?_) (fun c56 => ?_))
              · refine R.go 5 (R.rem (j : Int) 3 (by kernel_rfl) (by omega) (by omega) (by kernel_rfl) ?_)
                refine R.go 1 (R.call true (l10Bind_c 7 ((j : Int) % 3) lz (by first | omega | (simp <;> omega))).frz (by kernel_rfl) rfl (by kernel_rfl) ?_)
                refine R.go 5 (R.ar ((j : Int) + 1) (by kernel_rfl) (by omega) (by omega) (by kernel_rfl) ?_)
                exact R.go 2 (R.stop R52 (by kernel_rfl) (N53 (j + 1, (7, ((j : Int) % 3), 0) :: lz) [2, 6, 7, 8, 10] none _ (by kernel_rfl) (by kernel_rfl) ⟨(by omega), (by (simp only [List.length_cons]; omega))⟩ (by show (7 - (j + 1)) < (7 - j); omega)))
              · refine R.go 10 (R.frz 3 (by kernel_rfl) ?_)
                refine R.kfix 0 (us := usC) (by kernel_rfl) (hfC.frz 3 (LI (us.set 9 v_44)) (Nat.le_of_ble_eq_true (by kernel_rfl))) ?_
                exact R.retX (res := .tup [.agg [AI n_8, LI xs_9, LI vs_10], LT lz, LI (us.set 9 v_44)]) (hp' := [.dead, .box 43 [AI n_8, LI xs_9, LI vs_10], .box 43 [AI n_8, LI xs_9, LI vs_10], .dead]) (by kernel_rfl) (by kernel_rfl) (by kernel_rfl) (by kernel_rfl) ⟨[], by kernel_rfl, by decide, n_8, xs_9, vs_10, lz, us.set 9 v_44, by first | assumption | omega | (simp only [List.length_drop, List.length_set]; omega) | (have h5 : us.length = k := (by assumption); simp only [List.length_drop, List.length_set]; omega), by first | assumption | omega | (simp only [List.length_drop, List.length_set]; omega) | (have h5 : us.length = k := (by assumption); simp only [List.length_drop, List.length_set]; omega), by first | assumption | omega | (simp only [List.length_drop, List.length_set]; omega) | (have h5 : us.length = k := (by assumption); simp only [List.length_drop, List.length_set]; omega), by kernel_rfl, by kernel_rfl⟩
            · refine R.go 10 (R.frz 4 (by kernel_rfl) ?_)
              refine R.kfix 0 (us := usC) (by kernel_rfl) (hfC.frz 4 (LI (us.set 9 v_44)) (Nat.le_of_ble_eq_true (by kernel_rfl))) ?_
              exact R.retX (res := .tup [.agg [AI n_8, LI xs_9, LI vs_10], LT r_15, LI (us.set 9 v_44)]) (hp' := [.dead, .box 43 [AI n_8, LI xs_9, LI vs_10], .box 120 [LB c, AI (p1_48 : Int), .int .u64 h1_49], .box 43 [AI n_8, LI xs_9, LI vs_10], .dead]) (by kernel_rfl) (by kernel_rfl) (by kernel_rfl) (by kernel_rfl) ⟨[], by kernel_rfl, by decide, n_8, xs_9, vs_10, r_15, us.set 9 v_44, by first | assumption | omega | (simp only [List.length_drop, List.length_set]; omega) | (have h5 : us.length = k := (by assumption); simp only [List.length_drop, List.length_set]; omega), by first | assumption | omega | (simp only [List.length_drop, List.length_set]; omega) | (have h5 : us.length = k := (by assumption); simp only [List.length_drop, List.length_set]; omega), by first | assumption | omega | (simp only [List.length_drop, List.length_set]; omega) | (have h5 : us.length = k := (by assumption); simp only [List.length_drop, List.length_set]; omega), by kernel_rfl, by kernel_rfl⟩
          · refine R.go 6 (R.callX (CallX.inF 0 usC frC (CallX.perm [1, 0, 2, 3] [1, 0, 2, 3] (CallX.box 2 43 [AI n_8, LI xs_9, LI vs_10] (CallX.box 1 43 [AI 0, .nil, .nil] (nextX_c_r3 c p1_29 h1_30 20 43 3 1 [AI 0, .nil, .nil] 43 3 1 [AI n_8, LI xs_9, LI vs_10] 2 1 us.length (rows eI us) hc) (by kernel_rfl) (by kernel_rfl) (by kernel_rfl) (by kernel_rfl) (by rintro _ _ ⟨_, _, _, _, rfl, rfl⟩; exact ⟨by kernel_rfl, by kernel_rfl, by kernel_rfl⟩)) (by kernel_rfl) (by kernel_rfl) (by kernel_rfl) (by kernel_rfl) (by rintro _ _ ⟨_, ⟨_, _, _, _, rfl, rfl⟩, rfl⟩; exact ⟨by kernel_rfl, by kernel_rfl, by kernel_rfl⟩)) (by kernel_rfl) (by kernel_rfl) (by kernel_rfl) (by rintro _ _ ⟨_, ⟨_, ⟨_, _, _, _, rfl, rfl⟩, rfl⟩, rfl⟩; exact Nat.le_of_ble_eq_true (by kernel_rfl))) (Nat.le_of_ble_eq_true (by kernel_rfl)) (by kernel_rfl) (by kernel_rfl) (by rintro _ _ ⟨_, _, ⟨_, ⟨_, ⟨_, _, _, _, rfl, rfl⟩, rfl⟩, rfl⟩, rfl, rfl⟩; exact Nat.le_of_ble_eq_true (by kernel_rfl))) (by kernel_rfl) (by kernel_rfl) (by kernel_rfl) ?_)
            rintro _ _ ⟨_, _, ⟨_, _, ⟨_, ⟨_, ⟨v_57, p1_58, h1_59, f60, rfl, rfl⟩, rfl⟩, rfl⟩, rfl, rfl⟩, rfl, rfl⟩
            refine R.go 2 (R.cond (v_57 = 0) (by kernel_rfl) (fun c61 => ?_) (fun c61 => ?_))
            · refine R.go 5 (R.loop ((fun | (j, lz) => (⟨(frm 60 [(2, .ptr 1 0), (6, .ptr 2 0), (7, LT lz), (8, .ref 3), (10, AI (j : Int))]), [.frame usC frC, .box 43 [AI 0, .nil, .nil], .box 43 [AI n_8, LI xs_9, LI vs_10], rowA eI 2 1 us]⟩ : St) : Nat × (List (Int × Int × Int)) → St)) (fun | (j, lz) => (j ≤ 7) ∧ (lz.length ≤ 1000 + j)) (fun | (j, lz) => 7 - j) (0, r_15) [2, 6, 7, 8, 10] (some [0, 1, 3, 4]) (by kernel_rfl) (by kernel_rfl) (canonF (fr := frC) (fun (frX : List AV) => (⟨(frm 60 [(2, .ptr 1 0), (6, .ptr 2 0), (7, LT r_15), (8, .ref 3), (10, AI 0)]), [.frame usC frX, .box 43 [AI 0, .nil, .nil], .box 43 [AI n_8, LI xs_9, LI vs_10], rowA eI 2 1 us]⟩ : St)) (hfC.ren _ (by kernel_rfl)) (by kernel_rfl) (by kernel_rfl)) ⟨(by omega), (by omega)⟩ ?_)
              rintro ⟨j, lz⟩ ⟨h65_1, h65_2⟩ R62 N63
              refine R.go 6 (R.cond ((j : Int) < 7) (by kernel_rfl) (fun c66 => ?_) (fun c66 => ?_))
              · refine R.go 5 (R.rem (j : Int) 3 (by kernel_rfl) (by omega) (by omega) (by kernel_rfl) ?_)
                refine R.go 1 (R.call true (l10Bind_c 7 ((j : Int) % 3) lz (by first | omega | (simp <;> omega))).frz (by kernel_rfl) rfl (by kernel_rfl) ?_)
                refine R.go 5 (R.ar ((j : Int) + 1) (by kernel_rfl) (by omega) (by omega) (by kernel_rfl) ?_)
                exact R.go 2 (R.stop R62 (by kernel_rfl) (N63 (j + 1, (7, ((j : Int) % 3), 0) :: lz) [2, 6, 7, 8, 10] none _ (by kernel_rfl) (by kernel_rfl) ⟨(by omega), (by (simp only [List.length_cons]; omega))⟩ (by show (7 - (j + 1)) < (7 - j); omega)))
              · refine R.go 10 (R.frz 3 (by kernel_rfl) ?_)
                refine R.kfix 0 (us := usC) (by kernel_rfl) (hfC.frz 3 (LI us) (Nat.le_of_ble_eq_true (by kernel_rfl))) ?_
                exact R.retX (res := .tup [.agg [AI n_8, LI xs_9, LI vs_10], LT lz, LI us]) (hp' := [.dead, .box 43 [AI n_8, LI xs_9, LI vs_10], .box 43 [AI n_8, LI xs_9, LI vs_10], .dead]) (by kernel_rfl) (by kernel_rfl) (by kernel_rfl) (by kernel_rfl) ⟨[], by kernel_rfl, by decide, n_8, xs_9, vs_10, lz, us, by first | assumption | omega | (simp only [List.length_drop, List.length_set]; omega) | (have h5 : us.length = k := (by assumption); simp only [List.length_drop, List.length_set]; omega), by first | assumption | omega | (simp only [List.length_drop, List.length_set]; omega) | (have h5 : us.length = k := (by assumption); simp only [List.length_drop, List.length_set]; omega), by first | assumption | omega | (simp only [List.length_drop, List.length_set]; omega) | (have h5 : us.length = k := (by assumption); simp only [List.length_drop, List.length_set]; omega), by kernel_rfl, by kernel_rfl⟩
            · refine R.go 10 (R.frz 4 (by kernel_rfl) ?_)
              refine R.kfix 0 (us := usC) (by kernel_rfl) (hfC.frz 4 (LI us) (Nat.le_of_ble_eq_true (by kernel_rfl))) ?_
              exact R.retX (res := .tup [.agg [AI n_8, LI xs_9, LI vs_10], LT r_15, LI us]) (hp' := [.dead, .box 43 [AI n_8, LI xs_9, LI vs_10], .box 120 [LB c, AI (p1_58 : Int), .int .u64 h1_59], .box 43 [AI n_8, LI xs_9, LI vs_10], .dead]) (by kernel_rfl) (by kernel_rfl) (by kernel_rfl) (by kernel_rfl) ⟨[], by kernel_rfl, by decide, n_8, xs_9, vs_10, r_15, us, by first | assumption | omega | (simp only [List.length_drop, List.length_set]; omega) | (have h5 : us.length = k := (by assumption); simp only [List.length_drop, List.length_set]; omega), by first | assumption | omega | (simp only [List.length_drop, List.length_set]; omega) | (have h5 : us.length = k := (by assumption); simp only [List.length_drop, List.length_set]; omega), by first | assumption | omega | (simp only [List.length_drop, List.length_set]; omega) | (have h5 : us.length = k := (by assumption); simp only [List.length_drop, List.length_set]; omega), by kernel_rfl, by kernel_rfl⟩
  · refine R.skp (decide ((i : Int) < (c.length : Int))) true (by kernel_rfl) (dF c6) (by kernel_rfl) ?_
    refine R.skp (decide ((i : Int) < (c.length : Int))) true (by kernel_rfl) (dF c6) (by kernel_rfl) ?_
    refine R.pick (decide ((i : Int) < (c.length : Int))) false (by kernel_rfl) (dF c6) (by kernel_rfl) ?_
    refine R.go 8 (R.back (.ptr 3 0) (frm 60 [(0, LB c), (2, .ptr 1 0), (3, .nil), (4, .nil), (11, LB c)]) (by kernel_rfl) (by kernel_rfl) (by kernel_rfl) ?_)
    refine R.go 5 (R.deadF 2 (by kernel_rfl) (by kernel_rfl) ?_)
    refine R.callX (CallX.inF 0 usC frC (CallX.inF 1 [] [] (CallX.perm [1, 0] [1, 0] (CallX.box 1 43 [AI 0, .nil, .nil] (modelX_c_r1 c 0 hh 4 43 3 1 [AI 0, .nil, .nil] hc (by omega)) (by kernel_rfl) (by kernel_rfl) (by kernel_rfl) (by kernel_rfl) (by rintro _ _ ⟨_, _, _, _, _, _, _, rfl, rfl⟩; exact ⟨by kernel_rfl, by kernel_rfl, by kernel_rfl⟩)) (by kernel_rfl) (by kernel_rfl) (by kernel_rfl) (by rintro _ _ ⟨_, ⟨_, _, _, _, _, _, _, rfl, rfl⟩, rfl⟩; exact Nat.le_of_ble_eq_true (by kernel_rfl))) (Nat.le_of_ble_eq_true (by kernel_rfl)) (by kernel_rfl) (by kernel_rfl) (by rintro _ _ ⟨_, _, ⟨_, ⟨_, _, _, _, _, _, _, rfl, rfl⟩, rfl⟩, rfl, rfl⟩; exact Nat.le_of_ble_eq_true (by kernel_rfl))) (Nat.le_of_ble_eq_true (by kernel_rfl)) (by kernel_rfl) (by kernel_rfl) (by rintro _ _ ⟨_, _, ⟨_, _, ⟨_, ⟨_, _, _, _, _, _, _, rfl, rfl⟩, rfl⟩, rfl, rfl⟩, rfl, rfl⟩; exact Nat.le_of_ble_eq_true (by kernel_rfl))) (by kernel_rfl) (by kernel_rfl) (by kernel_rfl) ?_
    rintro _ _ ⟨_, _, ⟨_, _, ⟨_, _, ⟨_, ⟨n_67, xs_68, vs_69, p1_70, h1_71, f72, f73, rfl, rfl⟩, rfl⟩, rfl, rfl⟩, rfl, rfl⟩, rfl, rfl⟩
    refine R.go 1 (R.callX (CallX.inF 0 usC frC (CallX.inF 1 [] [] (CallX.perm [1, 0] [1, 0] (CallX.box 1 43 [AI 0, .nil, .nil] (drawnT_c_r1 c p1_70 h1_71 43 3 1 [AI 0, .nil, .nil] hc) (by kernel_rfl) (by kernel_rfl) (by kernel_rfl) (by kernel_rfl) (by rintro _ _ ⟨_, _, _, _, rfl, rfl⟩; exact ⟨by kernel_rfl, by kernel_rfl, by kernel_rfl⟩)) (by kernel_rfl) (by kernel_rfl) (by kernel_rfl) (by rintro _ _ ⟨_, ⟨_, _, _, _, rfl, rfl⟩, rfl⟩; exact Nat.le_of_ble_eq_true (by kernel_rfl))) (Nat.le_of_ble_eq_true (by kernel_rfl)) (by kernel_rfl) (by kernel_rfl) (by rintro _ _ ⟨_, _, ⟨_, ⟨_, _, _, _, rfl, rfl⟩, rfl⟩, rfl, rfl⟩; exact Nat.le_of_ble_eq_true (by kernel_rfl))) (Nat.le_of_ble_eq_true (by kernel_rfl)) (by kernel_rfl) (by kernel_rfl) (by rintro _ _ ⟨_, _, ⟨_, _, ⟨_, ⟨_, _, _, _, rfl, rfl⟩, rfl⟩, rfl, rfl⟩, rfl, rfl⟩; exact Nat.le_of_ble_eq_true (by kernel_rfl))) (by kernel_rfl) (by kernel_rfl) (by kernel_rfl) ?_)
    rintro _ _ ⟨_, _, ⟨_, _, ⟨_, _, ⟨_, ⟨r_74, p1_75, h1_76, f77, rfl, rfl⟩, rfl⟩, rfl, rfl⟩, rfl, rfl⟩, rfl, rfl⟩
    refine R.go 12 (R.loop ((fun | (k, us, q, hq) => (⟨(frm 60 [(2, .ptr 1 0), (5, .ptr 2 0), (6, .ptr 3 0), (7, LT r_74), (8, .ref 4), (9, AI (k : Int))]), [.frame usC frC, .box 43 [AI 0, .nil, .nil], .box 120 [LB c, AI (q : Int), .int .u64 hq], .box 43 [AI n_67, LI xs_68, LI vs_69], rowA eI 2 1 us]⟩ : St) : Nat × (List Int) × Nat × Int → St)) (fun | (k, us, q, hq) => (k ≤ 10) ∧ (us.length = k)) (fun | (k, us, q, hq) => 10 - k) (0, [], p1_75, h1_76) [2, 5, 6, 7, 8, 9] (some [0, 1, 3, 5, 4]) (by kernel_rfl) (by kernel_rfl) (canonF (fr := frC) (fun (frX : List AV) => (⟨(frm 60 [(2, .ptr 1 0), (5, .ptr 2 0), (6, .ptr 3 0), (7, LT r_74), (8, .ref 4), (9, AI 0)]), [.frame usC frX, .box 43 [AI 0, .nil, .nil], .box 120 [LB c, AI (p1_75 : Int), .int .u64 h1_76], .box 43 [AI n_67, LI xs_68, LI vs_69], rowA eI 2 1 []]⟩ : St)) (hfC.ren _ (by kernel_rfl)) (by kernel_rfl) (by kernel_rfl)) ⟨(by omega), (by rfl)⟩ ?_)
    rintro ⟨k, us, q, hq⟩ ⟨h81_1, h81_2⟩ R78 N79
    refine R.go 6 (R.cond ((k : Int) < 10) (by kernel_rfl) (fun c82 => ?_) (fun c82 => ?_))
    · refine R.go 10 (R.callX (CallX.inF 0 usC frC (CallX.perm [1, 0, 2, 3] [1, 0, 2, 3] (CallX.box 2 43 [AI n_67, LI xs_68, LI vs_69] (CallX.box 1 43 [AI 0, .nil, .nil] (nextX_c_r3 c q hq (if n_67 > 1 then n_67 else 1) 43 3 1 [AI 0, .nil, .nil] 43 3 1 [AI n_67, LI xs_68, LI vs_69] 2 1 us.length (rows eI us) hc) (by kernel_rfl) (by kernel_rfl) (by kernel_rfl) (by kernel_rfl) (by rintro _ _ ⟨_, _, _, _, rfl, rfl⟩; exact ⟨by kernel_rfl, by kernel_rfl, by kernel_rfl⟩)) (by kernel_rfl) (by kernel_rfl) (by kernel_rfl) (by kernel_rfl) (by rintro _ _ ⟨_, ⟨_, _, _, _, rfl, rfl⟩, rfl⟩; exact ⟨by kernel_rfl, by kernel_rfl, by kernel_rfl⟩)) (by kernel_rfl) (by kernel_rfl) (by kernel_rfl) (by rintro _ _ ⟨_, ⟨_, ⟨_, _, _, _, rfl, rfl⟩, rfl⟩, rfl⟩; exact Nat.le_of_ble_eq_true (by kernel_rfl))) (Nat.le_of_ble_eq_true (by kernel_rfl)) (by kernel_rfl) (by kernel_rfl) (by rintro _ _ ⟨_, _, ⟨_, ⟨_, ⟨_, _, _, _, rfl, rfl⟩, rfl⟩, rfl⟩, rfl, rfl⟩; exact Nat.le_of_ble_eq_true (by kernel_rfl))) (by kernel_rfl) (by kernel_rfl) (by kernel_rfl) ?_)
      rintro _ _ ⟨_, _, ⟨_, _, ⟨_, ⟨_, ⟨v_83, p1_84, h1_85, f86, rfl, rfl⟩, rfl⟩, rfl⟩, rfl, rfl⟩, rfl, rfl⟩
      refine R.go 1 (R.app eI us [v_83] 4 2 1 8 (by kernel_rfl) eI_one (by decide) (by first | omega | (simp <;> omega)) (by kernel_rfl) ?_)
      refine R.kfix 0 (us := usC) (by kernel_rfl) (hfC.kill 4 (Nat.le_of_ble_eq_true (by kernel_rfl))) ?_
      refine R.go 5 (R.ar ((k : Int) + 1) (by kernel_rfl) (by omega) (by omega) (by kernel_rfl) ?_)
      exact R.go 2 (R.stop R78 (by kernel_rfl) (N79 (k + 1, us ++ [v_83], p1_84, h1_85) [2, 5, 6, 7, 8, 9] (some [0, 1, 2, 3, 4]) _ (by kernel_rfl) (canonF (fr := frC) (fun (frX : List AV) => (⟨(frm 60 [(2, .ptr 1 0), (5, .ptr 2 0), (6, .ptr 3 0), (7, LT r_74), (8, .ref 4), (9, AI ((k : Int) + 1))]), [.frame usC frX, .box 43 [AI 0, .nil, .nil], .box 120 [LB c, AI (p1_84 : Int), .int .u64 h1_85], .box 43 [AI n_67, LI xs_68, LI vs_69], rowA eI 2 1 (us ++ [v_83])]⟩ : St)) (hfC.ren _ (by kernel_rfl)) (by kernel_rfl) (by kernel_rfl)) ⟨(by omega), (by (simp <;> omega))⟩ (by show (10 - (k + 1)) < (10 - k); omega)))
    · refine R.go 5 (R.callX (CallX.inF 0 usC frC (CallX.perm [1, 0, 2, 3] [1, 0, 2, 3] (CallX.box 2 43 [AI n_67, LI xs_68, LI vs_69] (CallX.box 1 43 [AI 0, .nil, .nil] (nextX_c_r3 c q hq 20 43 3 1 [AI 0, .nil, .nil] 43 3 1 [AI n_67, LI xs_68, LI vs_69] 2 1 us.length (rows eI us) hc) (by kernel_rfl) (by kernel_rfl) (by kernel_rfl) (by kernel_rfl) (by rintro _ _ ⟨_, _, _, _, rfl, rfl⟩; exact ⟨by kernel_rfl, by kernel_rfl, by kernel_rfl⟩)) (by kernel_rfl) (by kernel_rfl) (by kernel_rfl) (by kernel_rfl) (by rintro _ _ ⟨_, ⟨_, _, _, _, rfl, rfl⟩, rfl⟩; exact ⟨by kernel_rfl, by kernel_rfl, by kernel_rfl⟩)) (by kernel_rfl) (by kernel_rfl) (by kernel_rfl) (by rintro _ _ ⟨_, ⟨_, ⟨_, _, _, _, rfl, rfl⟩, rfl⟩, rfl⟩; exact Nat.le_of_ble_eq_true (by kernel_rfl))) (Nat.le_of_ble_eq_true (by kernel_rfl)) (by kernel_rfl) (by kernel_rfl) (by rintro _ _ ⟨_, _, ⟨_, ⟨_, ⟨_, _, _, _, rfl, rfl⟩, rfl⟩, rfl⟩, rfl, rfl⟩; exact Nat.le_of_ble_eq_true (by kernel_rfl))) (by kernel_rfl) (by kernel_rfl) (by kernel_rfl) ?_)
      rintro _ _ ⟨_, _, ⟨_, _, ⟨_, ⟨_, ⟨v_87, p1_88, h1_89, f90, rfl, rfl⟩, rfl⟩, rfl⟩, rfl, rfl⟩, rfl, rfl⟩
      refine R.go 7 (R.cond (v_87 = 0) (by kernel_rfl) (fun c91 => ?_) (fun c91 => ?_))
      · refine R.go 2 (R.frz 4 (by kernel_rfl) ?_)
        refine R.kfix 0 (us := usC) (by kernel_rfl) (hfC.frz 4 (LI us) (Nat.le_of_ble_eq_true (by kernel_rfl))) ?_
        refine R.slL eI us 1 1 (by kernel_rfl) rfl eI_len (by omega) (by kernel_rfl) ?_
        refine R.go 7 (R.deadF 4 (by kernel_rfl) (by kernel_rfl) ?_)
        refine R.callX (CallX.inF 0 usC frC (CallX.inF 3 [] [] (CallX.perm [1, 0, 2] [1, 0, 2] (CallX.box 2 43 [AI n_67, LI xs_68, LI vs_69] (CallX.box 1 43 [AI 0, .nil, .nil] (nextX_c_r2 c p1_88 h1_89 20 43 3 1 [AI 0, .nil, .nil] 43 3 1 [AI n_67, LI xs_68, LI vs_69] hc) (by kernel_rfl) (by kernel_rfl) (by kernel_rfl) (by kernel_rfl) (by rintro _ _ ⟨_, _, _, _, rfl, rfl⟩; exact ⟨by kernel_rfl, by kernel_rfl, by kernel_rfl⟩)) (by kernel_rfl) (by kernel_rfl) (by kernel_rfl) (by kernel_rfl) (by rintro _ _ ⟨_, ⟨_, _, _, _, rfl, rfl⟩, rfl⟩; exact ⟨by kernel_rfl, by kernel_rfl, by kernel_rfl⟩)) (by kernel_rfl) (by kernel_rfl) (by kernel_rfl) (by rintro _ _ ⟨_, ⟨_, ⟨_, _, _, _, rfl, rfl⟩, rfl⟩, rfl⟩; exact Nat.le_of_ble_eq_true (by kernel_rfl))) (Nat.le_of_ble_eq_true (by kernel_rfl)) (by kernel_rfl) (by kernel_rfl) (by rintro _ _ ⟨_, _, ⟨_, ⟨_, ⟨_, _, _, _, rfl, rfl⟩, rfl⟩, rfl⟩, rfl, rfl⟩; exact Nat.le_of_ble_eq_true (by kernel_rfl))) (Nat.le_of_ble_eq_true (by kernel_rfl)) (by kernel_rfl) (by kernel_rfl) (by rintro _ _ ⟨_, _, ⟨_, _, ⟨_, ⟨_, ⟨_, _, _, _, rfl, rfl⟩, rfl⟩, rfl⟩, rfl, rfl⟩, rfl, rfl⟩; exact Nat.le_of_ble_eq_true (by kernel_rfl))) (by kernel_rfl) (by kernel_rfl) (by kernel_rfl) ?_
        rintro _ _ ⟨_, _, ⟨_, _, ⟨_, _, ⟨_, ⟨_, ⟨v_92, p1_93, h1_94, f95, rfl, rfl⟩, rfl⟩, rfl⟩, rfl, rfl⟩, rfl, rfl⟩, rfl, rfl⟩
        refine R.go 2 (R.cond (v_92 = 0) (by kernel_rfl) (fun c96 => ?_) (fun c96 => ?_))
        · refine R.go 5 (R.loop ((fun | (j, lz) => (⟨(frm 60 [(2, .ptr 1 0), (6, .ptr 2 0), (7, LT lz), (8, LI (us.drop 1)), (10, AI (j : Int))]), [.frame usC frC, .box 43 [AI 0, .nil, .nil], .box 43 [AI n_67, LI xs_68, LI vs_69]]⟩ : St) : Nat × (List (Int × Int × Int)) → St)) (fun | (j, lz) => (j ≤ 7) ∧ (lz.length ≤ 1000 + j)) (fun | (j, lz) => 7 - j) (0, r_74) [2, 6, 7, 8, 10] (some [0, 1, 3]) (by kernel_rfl) (by kernel_rfl) (canonF (fr := frC) (fun (frX : List AV) => (⟨(frm 60 [(2, .ptr 1 0), (6, .ptr 2 0), (7, LT r_74), (8, LI (us.drop 1)), (10, AI 0)]), [.frame usC frX, .box 43 [AI 0, .nil, .nil], .box 43 [AI n_67, LI xs_68, LI vs_69]]⟩ : St)) (hfC.ren _ (by kernel_rfl)) (by kernel_rfl) (by kernel_rfl)) ⟨(by omega), (by omega)⟩ ?_)
          rintro ⟨j, lz⟩ ⟨h100_1, h100_2⟩ R97 N98
          refine R.go 6 (R.cond ((j : Int) < 7) (by kernel_rfl) (fun c101 => ?_) (fun c101 => ?_))
          · refine R.go 5 (R.rem (j : Int) 3 (by kernel_rfl) (by omega) (by omega) (by kernel_rfl) ?_)
            refine R.go 1 (R.call true (l10Bind_c 7 ((j : Int) % 3) lz (by first | omega | (simp <;> omega))).frz (by kernel_rfl) rfl (by kernel_rfl) ?_)
            refine R.go 5 (R.ar ((j : Int) + 1) (by kernel_rfl) (by omega) (by omega) (by kernel_rfl) ?_)
            exact R.go 2 (R.stop R97 (by kernel_rfl) (N98 (j + 1, (7, ((j : Int) % 3), 0) :: lz) [2, 6, 7, 8, 10] none _ (by kernel_rfl) (by kernel_rfl) ⟨(by omega), (by (simp only [List.length_cons]; omega))⟩ (by show (7 - (j + 1)) < (7 - j); omega)))
          · exact R.go 10 (R.retX (res := .tup [.agg [AI n_67, LI xs_68, LI vs_69], LT lz, LI (us.drop 1)]) (hp' := [.dead, .box 43 [AI n_67, LI xs_68, LI vs_69], .box 43 [AI n_67, LI xs_68, LI vs_69]]) (by kernel_rfl) (by kernel_rfl) (by kernel_rfl) (by kernel_rfl) ⟨[], by kernel_rfl, by decide, n_67, xs_68, vs_69, lz, us.drop 1, by first | assumption | omega | (simp only [List.length_drop, List.length_set]; omega) | (have h5 : us.length = k := (by assumption); simp only [List.length_drop, List.length_set]; omega), by first | assumption | omega | (simp only [List.length_drop, List.length_set]; omega) | (have h5 : us.length = k := (by assumption); simp only [List.length_drop, List.length_set]; omega), by first | assumption | omega | (simp only [List.length_drop, List.length_set]; omega) | (have h5 : us.length = k := (by assumption); simp only [List.length_drop, List.length_set]; omega), by kernel_rfl, by kernel_rfl⟩)
        · exact R.go 10 (R.retX (res := .tup [.agg [AI n_67, LI xs_68, LI vs_69], LT r_74, LI (us.drop 1)]) (hp' := [.dead, .box 43 [AI n_67, LI xs_68, LI vs_69], .box 120 [LB c, AI (p1_93 : Int), .int .u64 h1_94], .box 43 [AI n_67, LI xs_68, LI vs_69], .frame [] []]) (by kernel_rfl) (by kernel_rfl) (by kernel_rfl) (by kernel_rfl) ⟨[], by kernel_rfl, by decide, n_67, xs_68, vs_69, r_74, us.drop 1, by first | assumption | omega | (simp only [List.length_drop, List.length_set]; omega) | (have h5 : us.length = k := (by assumption); simp only [List.length_drop, List.length_set]; omega), by first | assumption | omega | (simp only [List.length_drop, List.length_set]; omega) | (have h5 : us.length = k := (by assumption); simp only [List.length_drop, List.length_set]; omega), by first | assumption | omega | (simp only [List.length_drop, List.length_set]; omega) | (have h5 : us.length = k := (by assumption); simp only [List.length_drop, List.length_set]; omega), by kernel_rfl, by kernel_rfl⟩)
      · refine R.go 5 (R.cond (v_87 = 1) (by kernel_rfl) (fun c102 => ?_) (fun c102 => ?_))
        · refine R.go 6 (R.callX (CallX.inF 0 usC frC (CallX.perm [1, 0, 2, 3] [1, 0, 2, 3] (CallX.box 2 43 [AI n_67, LI xs_68, LI vs_69] (CallX.box 1 43 [AI 0, .nil, .nil] (numX_c_r3 c p1_88 h1_89 n_67 43 3 1 [AI 0, .nil, .nil] 43 3 1 [AI n_67, LI xs_68, LI vs_69] 2 1 us.length (rows eI us) hc) (by kernel_rfl) (by kernel_rfl) (by kernel_rfl) (by kernel_rfl) (by rintro _ _ ⟨_, _, _, rfl, rfl⟩; exact ⟨by kernel_rfl, by kernel_rfl, by kernel_rfl⟩)) (by kernel_rfl) (by kernel_rfl) (by kernel_rfl) (by kernel_rfl) (by rintro _ _ ⟨_, ⟨_, _, _, rfl, rfl⟩, rfl⟩; exact ⟨by kernel_rfl, by kernel_rfl, by kernel_rfl⟩)) (by kernel_rfl) (by kernel_rfl) (by kernel_rfl) (by rintro _ _ ⟨_, ⟨_, ⟨_, _, _, rfl, rfl⟩, rfl⟩, rfl⟩; exact Nat.le_of_ble_eq_true (by kernel_rfl))) (Nat.le_of_ble_eq_true (by kernel_rfl)) (by kernel_rfl) (by kernel_rfl) (by rintro _ _ ⟨_, _, ⟨_, ⟨_, ⟨_, _, _, rfl, rfl⟩, rfl⟩, rfl⟩, rfl, rfl⟩; exact Nat.le_of_ble_eq_true (by kernel_rfl))) (by kernel_rfl) (by kernel_rfl) (by kernel_rfl) ?_)
          rintro _ _ ⟨_, _, ⟨_, _, ⟨_, ⟨_, ⟨v_103, p1_104, h1_105, rfl, rfl⟩, rfl⟩, rfl⟩, rfl, rfl⟩, rfl, rfl⟩
          refine R.idxO 4 1 us.length 9 9 (by kernel_rfl) rfl (by omega) (by kernel_rfl) ?_
          refine R.stI 4 2 us 9 v_103 (by kernel_rfl) (by omega) (by kernel_rfl) ?_
          refine R.go 6 (R.callX (CallX.inF 0 usC frC (CallX.perm [1, 0, 2, 3] [1, 0, 2, 3] (CallX.box 2 43 [AI n_67, LI xs_68, LI vs_69] (CallX.box 1 43 [AI 0, .nil, .nil] (nextX_c_r3 c p1_104 h1_105 20 43 3 1 [AI 0, .nil, .nil] 43 3 1 [AI n_67, LI xs_68, LI vs_69] 2 1 ((us.set 9 v_103).length) (rows eI (us.set 9 v_103)) hc) (by kernel_rfl) (by kernel_rfl) (by kernel_rfl) (by kernel_rfl) (by rintro _ _ ⟨_, _, _, _, rfl, rfl⟩; exact ⟨by kernel_rfl, by kernel_rfl, by kernel_rfl⟩)) (by kernel_rfl) (by kernel_rfl) (by kernel_rfl) (by kernel_rfl) (by rintro _ _ ⟨_, ⟨_, _, _, _, rfl, rfl⟩, rfl⟩; exact ⟨by kernel_rfl, by kernel_rfl, by kernel_rfl⟩)) (by kernel_rfl) (by kernel_rfl) (by kernel_rfl) (by rintro _ _ ⟨_, ⟨_, ⟨_, _, _, _, rfl, rfl⟩, rfl⟩, rfl⟩; exact Nat.le_of_ble_eq_true (by kernel_rfl))) (Nat.le_of_ble_eq_true (by kernel_rfl)) (by kernel_rfl) (by kernel_rfl) (by rintro _ _ ⟨_, _, ⟨_, ⟨_, ⟨_, _, _, _, rfl, rfl⟩, rfl⟩, rfl⟩, rfl, rfl⟩; exact Nat.le_of_ble_eq_true (by kernel_rfl))) (by kernel_rfl) (by kernel_rfl) (by kernel_rfl) ?_)
          rintro _ _ ⟨_, _, ⟨_, _, ⟨_, ⟨_, ⟨v_106, p1_107, h1_108, f109, rfl, rfl⟩, rfl⟩, rfl⟩, rfl, rfl⟩, rfl, rfl⟩
          refine R.go 2 (R.cond (v_106 = 0) (by kernel_rfl) (fun c110 => ?_) (fun c110 => ?_))
          · refine R.go 5 (R.loop ((fun | (j, lz) => (⟨(frm 60 [(2, .ptr 1 0), (6, .ptr 2 0), (7, LT lz), (8, .ref 3), (10, AI (j : Int))]), [.frame usC frC, .box 43 [AI 0, .nil, .nil], .box 43 [AI n_67, LI xs_68, LI vs_69], rowA eI 2 1 (us.set 9 v_103)]⟩ : St) : Nat × (List (Int × Int × Int)) → St)) (fun | (j, lz) => (j ≤ 7) ∧ (lz.length ≤ 1000 + j)) (fun | (j, lz) => 7 - j) (0, r_74) [2, 6, 7, 8, 10] (some [0, 1, 3, 4]) (by kernel_rfl) (by kernel_rfl) (canonF (fr := frC) (fun (frX : List AV) => (⟨(frm 60 [(2, .ptr 1 0), (6, .ptr 2 0), (7, LT r_74), (8, .ref 3), (10, AI 0)]), [.frame usC frX, .box 43 [AI 0, .nil, .nil], .box 43 [AI n_67, LI xs_68, LI vs_69], rowA eI 2 1 (us.set 9 v_103)]⟩ : St)) (hfC.ren _ (by kernel_rfl)) (by kernel_rfl) (by kernel_rfl)) ⟨(by omega), (by omega)⟩ ?_)
            rintro ⟨j, lz⟩ ⟨h114_1, h114_2⟩ R111 N112
            refine R.go 6 (R.cond ((j : Int) < 7) (by kernel_rfl) (fun c115 => ?_) (fun c115 => ?_))
            · refine R.go 5 (R.rem (j : Int) 3 (by kernel_rfl) (by omega) (by omega) (by kernel_rfl) ?_)
              refine R.go 1 (R.call true (l10Bind_c 7 ((j : Int) % 3) lz (by first | omega | (simp <;> omega))).frz (by kernel_rfl) rfl (by kernel_rfl) ?_)
              refine R.go 5 (R.ar ((j : Int) + 1) (by kernel_rfl) (by omega) (by omega) (by kernel_rfl) ?_)
              exact R.go 2 (R.stop R111 (by kernel_rfl) (N112 (j + 1, (7, ((j : Int) % 3), 0) :: lz) [2, 6, 7, 8, 10] none _ (by kernel_rfl) (by kernel_rfl) ⟨(by omega), (by (simp only [List.length_cons]; omega))⟩ (by show (7 - (j + 1)) < (7 - j); omega)))
            · refine R.go 10 (R.frz 3 (by kernel_rfl) ?_)
              refine R.kfix 0 (us := usC) (by kernel_rfl) (hfC.frz 3 (LI (us.set 9 v_103)) (Nat.le_of_ble_eq_true (by kernel_rfl))) ?_
              exact R.retX (res := .tup [.agg [AI n_67, LI xs_68, LI vs_69], LT lz, LI (us.set 9 v_103)]) (hp' := [.dead, .box 43 [AI n_67, LI xs_68, LI vs_69], .box 43 [AI n_67, LI xs_68, LI vs_69], .dead]) (by kernel_rfl) (by kernel_rfl) (by kernel_rfl) (by kernel_rfl) ⟨[], by kernel_rfl, by decide, n_67, xs_68, vs_69, lz, us.set 9 v_103, by first | assumption | omega | (simp only [List.length_drop, List.length_set]; omega) | (have h5 : us.length = k := (by assumption); simp only [List.length_drop, List.length_set]; omega), by first | assumption | omega | (simp only [List.length_drop, List.length_set]; omega) | (have h5 : us.length = k := (by assumption); simp only [List.length_drop, List.length_set]; omega), by first | assumption | omega | (simp only [List.length_drop, List.length_set]; omega) | (have h5 : us.length = k := (by assumption); simp only [List.length_drop, List.length_set]; omega), by kernel_rfl, by kernel_rfl⟩
          · refine R.go 10 (R.frz 4 (by kernel_rfl) ?_)
            refine R.kfix 0 (us := usC) (by kernel_rfl) (hfC.frz 4 (LI (us.set 9 v_103)) (Nat.le_of_ble_eq_true (by kernel_rfl))) ?_
            exact R.retX (res := .tup [.agg [AI n_67, LI xs_68, LI vs_69], LT r_74, LI (us.set 9 v_103)]) (hp' := [.dead, .box 43 [AI n_67, LI xs_68, LI vs_69], .box 120 [LB c, AI (p1_107 : Int), .int .u64 h1_108], .box 43 [AI n_67, LI xs_68, LI vs_69], .dead]) (by kernel_rfl) (by kernel_rfl) (by kernel_rfl) (by kernel_rfl) ⟨[], by kernel_rfl, by decide, n_67, xs_68, vs_69, r_74, us.set 9 v_103, by first | assumption | omega | (simp only [List.length_drop, List.length_set]; omega) | (have h5 : us.length = k := (by assumption); simp only [List.length_drop, List.length_set]; omega), by first | assumption | omega | (simp only [List.length_drop, List.length_set]; omega) | (have h5 : us.length = k := (by assumption); simp only [List.length_drop, List.length_set]; omega), by first | assumption | omega | (simp only [List.length_drop, List.length_set]; omega) | (have h5 : us.length = k := (by assumption); simp only [List.length_drop, List.length_set]; omega), by kernel_rfl, by kernel_rfl⟩
        · refine R.go 6 (R.callX (CallX.inF 0 usC frC (CallX.perm [1, 0, 2, 3] [1, 0, 2, 3] (CallX.box 2 43 [AI n_67, LI xs_68, LI vs_69] (CallX.box 1 43 [AI 0, .nil, .nil] (nextX_c_r3 c p1_88 h1_89 20 43 3 1 [AI 0, .nil, .nil] 43 3 1 [AI n_67, LI xs_68, LI vs_69] 2 1 us.length (rows eI us) hc) (by kernel_rfl) (by kernel_rfl) (by kernel_rfl) (by kernel_rfl) (by rintro _ _ ⟨_, _, _, _, rfl, rfl⟩; exact ⟨by kernel_rfl, by kernel_rfl, by kernel_rfl⟩)) (by kernel_rfl) (by kernel_rfl) (by kernel_rfl) (by kernel_rfl) (by rintro _ _ ⟨_, ⟨_, _, _, _, rfl, rfl⟩, rfl⟩; exact ⟨by kernel_rfl, by kernel_rfl, by kernel_rfl⟩)) (by kernel_rfl) (by kernel_rfl) (by kernel_rfl) (by rintro _ _ ⟨_, ⟨_, ⟨_, _, _, _, rfl, rfl⟩, rfl⟩, rfl⟩; exact Nat.le_of_ble_eq_true (by kernel_rfl))) (Nat.le_of_ble_eq_true (by kernel_rfl)) (by kernel_rfl) (by kernel_rfl) (by rintro _ _ ⟨_, _, ⟨_, ⟨_, ⟨_, _, _, _, rfl, rfl⟩, rfl⟩, rfl⟩, rfl, rfl⟩; exact Nat.le_of_ble_eq_true (by kernel_rfl))) (by kernel_rfl) (by kernel_rfl) (by kernel_rfl) ?_)
          rintro _ _ ⟨_, _, ⟨_, _, ⟨_, ⟨_, ⟨v_116, p1_117, h1_118, f119, rfl, rfl⟩, rfl⟩, rfl⟩, rfl, rfl⟩, rfl, rfl⟩
          refine R.go 2 (R.cond (v_116 = 0) (by kernel_rfl) (fun c120 => ?_) (fun c120 => ?_))
          · refine R.go 5 (R.loop ((fun | (j, lz) => (⟨(frm 60 [(2, .ptr 1 0), (6, .ptr 2 0), (7, LT lz), (8, .ref 3), (10, AI (j : Int))]), [.frame usC frC, .box 43 [AI 0, .nil, .nil], .box 43 [AI n_67, LI xs_68, LI vs_69], rowA eI 2 1 us]⟩ : St) : Nat × (List (Int × Int × Int)) → St)) (fun | (j, lz) => (j ≤ 7) ∧ (lz.length ≤ 1000 + j)) (fun | (j, lz) => 7 - j) (0, r_74) [2, 6, 7, 8, 10] (some [0, 1, 3, 4]) (by kernel_rfl) (by kernel_rfl) (canonF (fr := frC) (fun (frX : List AV) => (⟨(frm 60 [(2, .ptr 1 0), (6, .ptr 2 0), (7, LT r_74), (8, .ref 3), (10, AI 0)]), [.frame usC frX, .box 43 [AI 0, .nil, .nil], .box 43 [AI n_67, LI xs_68, LI vs_69], rowA eI 2 1 us]⟩ : St)) (hfC.ren _ (by kernel_rfl)) (by kernel_rfl) (by kernel_rfl)) ⟨(by omega), (by omega)⟩ ?_)
            rintro ⟨j, lz⟩ ⟨h124_1, h124_2⟩ R121 N122
            refine R.go 6 (R.cond ((j : Int) < 7) (by kernel_rfl) (fun c125 => ?_) (fun c125 => ?_))
            · refine R.go 5 (R.rem (j : Int) 3 (by kernel_rfl) (by omega) (by omega) (by kernel_rfl) ?_)
              refine R.go 1 (R.call true (l10Bind_c 7 ((j : Int) % 3) lz (by first | omega | (simp <;> omega))).frz (by kernel_rfl) rfl (by kernel_rfl) ?_)
              refine R.go 5 (R.ar ((j : Int) + 1) (by kernel_rfl) (by omega) (by omega) (by kernel_rfl) ?_)
              exact R.go 2 (R.stop R121 (by kernel_rfl) (N122 (j + 1, (7, ((j : Int) % 3), 0) :: lz) [2, 6, 7, 8, 10] none _ (by kernel_rfl) (by kernel_rfl) ⟨(by omega), (by (simp only [List.length_cons]; omega))⟩ (by show (7 - (j + 1)) < (7 - j); omega)))
            · refine R.go 10 (R.frz 3 (by kernel_rfl) ?_)
              refine R.kfix 0 (us := usC) (by kernel_rfl) (hfC.frz 3 (LI us) (Nat.le_of_ble_eq_true (by kernel_rfl))) ?_
              exact R.retX (res := .tup [.agg [AI n_67, LI xs_68, LI vs_69], LT lz, LI us]) (hp' := [.dead, .box 43 [AI n_67, LI xs_68, LI vs_69], .box 43 [AI n_67, LI xs_68, LI vs_69], .dead]) (by kernel_rfl) (by kernel_rfl) (by kernel_rfl) (by kernel_rfl) ⟨[], by kernel_rfl, by decide, n_67, xs_68, vs_69, lz, us, by first | assumption | omega | (simp only [List.length_drop, List.length_set]; omega) | (have h5 : us.length = k := (by assumption); simp only [List.length_drop, List.length_set]; omega), by first | assumption | omega | (simp only [List.length_drop, List.length_set]; omega) | (have h5 : us.length = k := (by assumption); simp only [List.length_drop, List.length_set]; omega), by first | assumption | omega | (simp only [List.length_drop, List.length_set]; omega) | (have h5 : us.length = k := (by assumption); simp only [List.length_drop, List.length_set]; omega), by kernel_rfl, by kernel_rfl⟩
          · refine R.go 10 (R.frz 4 (by kernel_rfl) ?_)
            refine R.kfix 0 (us := usC) (by kernel_rfl) (hfC.frz 4 (LI us) (Nat.le_of_ble_eq_true (by kernel_rfl))) ?_
            exact R.retX (res := .tup [.agg [AI n_67, LI xs_68, LI vs_69], LT r_74, LI us]) (hp' := [.dead, .box 43 [AI n_67, LI xs_68, LI vs_69], .box 120 [LB c, AI (p1_117 : Int), .int .u64 h1_118], .box 43 [AI n_67, LI xs_68, LI vs_69], .dead]) (by kernel_rfl) (by kernel_rfl) (by kernel_rfl) (by kernel_rfl) ⟨[], by kernel_rfl, by decide, n_67, xs_68, vs_69, r_74, us, by first | assumption | omega | (simp only [List.length_drop, List.length_set]; omega) | (have h5 : us.length = k := (by assumption); simp only [List.length_drop, List.length_set]; omega), by first | assumption | omega | (simp only [List.length_drop, List.length_set]; omega) | (have h5 : us.length = k := (by assumption); simp only [List.length_drop, List.length_set]; omega), by first | assumption | omega | (simp only [List.length_drop, List.length_set]; omega) | (have h5 : us.length = k := (by assumption); simp only [List.length_drop, List.length_set]; omega), by kernel_rfl, by kernel_rfl⟩

end Go.Proofs.YtgebepfdphmjcaaGreat


/-! The law FnTranslations. -/
namespace Go.Proofs.YtgebepfdphmjcaaGreat
open Go.RowKit Go.Abs

theorem okMo_in {n : Int} {xs vs : List Int} (h : okMo n xs vs = true) : okFr n xs = true ∧ vs.length = 6 ∧ ∀ j : Nat, j < 6 → InM n.toNat (vs.getD j 0) := by
  obtain ⟨h1, h2⟩ := okMo_fr h
  obtain ⟨h0, h8, _, _⟩ := okFr_rel h1
  refine ⟨h1, h2, fun j hj => ?_⟩
  simp only [okMo, Bool.and_eq_true, Bool.not_eq_true'] at h
  have := h.2
  rw [List.any_eq_false] at this
  have hm : vs.getD j 0 ∈ vs := by
    rw [List.getD_eq_getElem?_getD, List.getElem?_eq_getElem (by omega)]
    exact List.getElem_mem _
  have := this _ hm
  simp only [Bool.not_eq_true', Bool.not_eq_false] at this
  refine (full_rng (n := n.toNat) (by omega)).2 ?_
  rw [nn_eq h0]
  exact this

theorem law_tf {a : List (Int × Int)} {x : Int} (h : ptC a x = 0) : isF a = true ∧ (x = 0 ∨ x = 1) ∧ ptR a x = trnL a x ∧ (trnL a x).length ≤ 120 := by
  have hR : ptR a x = trnL a x := by rw [ptR, if_pos h]
  unfold ptC at h
  split at h
  · rename_i h1
    split at h
    · rename_i h2
      split at h
      · cases h
      · rename_i h3; exact ⟨h1, inR01.1 h2, hR, by omega⟩
    · cases h
  · cases h
theorem ptR_le (a : List (Int × Int)) (x : Int) : (ptR a x).length ≤ 120 := by
  by_cases h : ptC a x = 0
  · have := law_tf h
    rw [this.2.2.1]; exact this.2.2.2
  · rw [ptR, if_neg h]; simp
theorem okp_any {a : List (Int × Int)} {x : Int} (h : isF a = true) (hx : x = 0 ∨ x = 1) : OKP (trnL a x) := by
  have hz : okFr 0 [] = true := by decide +kernel
  obtain ⟨t, h1, h2, _⟩ := trn_true (vs := List.replicate 6 0) hz (fun j hj => by
    have : (List.replicate 6 (0 : Int)).getD j 0 = 0 := by
      rw [List.getD_eq_getElem?_getD, List.getElem?_replicate]
      split <;> rfl
    rw [this]; exact inM_zero _) (isF_okm h).1 x hx
  exact ⟨t, h1, h2⟩
theorem law_ws {n : Int} {x w : Nat} (hn : (w : Int) < n) : WS n ((List.replicate 10 (0 : Int)).set x (w : Int)) := by
  refine ⟨by simp, fun j hj => ?_⟩
  by_cases hx : x < 10
  · rw [getD_set_if _ _ _ _ _ (by simpa using hx)]
    split
    · omega
    · rw [List.getD_eq_getElem?_getD, List.getElem?_replicate]
      split <;> simp <;> omega
  · rw [List.set_eq_of_length_le (by simp; omega), List.getD_eq_getElem?_getD, List.getElem?_replicate]
    split <;> simp <;> omega
theorem law_b {n : Int} {xs vs : List Int} {a : List (Int × Int)} {x : Int} {w : Nat} {b : Bool} {c : Int} {r : List (Int × Int × Int)} (hM : okMo n xs vs = true) (hF : isF a = true) (hx : x = 0 ∨ x = 1) (hr : r = trnL a x) (hw : (w : Int) < n) (h3 : ¬ c = 3) (h : c = 3 ∨ (c = 0 ∧ b = evL n xs vs r ((List.replicate 10 (0 : Int)).set x.toNat (w : Int)))) : c = 0 ∧ (b == decide (band (shr64 (tval n xs vs a) (w : Int)) 1 = 1)) = true := by
  subst hr
  obtain ⟨hR, hv, hX⟩ := okMo_in hM
  obtain ⟨h0, h8, _⟩ := okFr_rel hR
  rcases h with h | ⟨h, hb⟩
  · exact absurd h h3
  · refine ⟨h, ?_⟩
    obtain ⟨t, t1, t2, t3⟩ := trn_true hR hX (isF_okm hF).1 x hx
    have hws := law_ws (x := x.toNat) hw
    have e1 : ((List.replicate 10 (0 : Int)).set x.toNat (w : Int)).getD x.toNat 0 = (w : Int) := st_same (by simp; omega)
    have et : tval n xs vs a = tset n xs vs a := if_pos (mcode_good hM hF)
    rw [beq_iff_eq, hb, t2, evL_fl t1, t3 _ hws, e1, Int.toNat_natCast, et, Bool.eq_iff_iff, decide_eq_true_iff, has_tb (n := n.toNat) (by omega) (tset_in hR (isF_okm hF).1 hX) (by omega)]
    rfl
theorem law_mo {n : Int} {xs vs : List Int} (hM : okMo n xs vs = true) : 0 ≤ n ∧ n ≤ 8 ∧ (xs.length : Int) = n ∧ vs.length = 6 := by
  obtain ⟨hR, hv, _⟩ := okMo_in hM
  obtain ⟨h0, h8, hl, _⟩ := okFr_rel hR
  exact ⟨h0, h8, hl, hv⟩

theorem bit5_c (k : Int) (i : Int) (h0 : 0 ≤ i) (h1 : i < 62) : CallA Tryz.prog 18 [AI k, AI i] (.bool (decide (band (shr64 k i) 1 = 1))) := by
  refine CallA.of Tryz.func18 rfl (by kernel_rfl) ?_
  refine R.go 8 (R.cv .u64 i (by kernel_rfl) (u64_id (by omega) (by omega)) (by kernel_rfl) ?_)
  refine R.shr k i (by kernel_rfl) (by omega) (by kernel_rfl) ?_
  exact R.go 4 (R.retE (.bool (decide ((band (shr64 k i) 1) = 1))) (by kernel_rfl) (by kernel_rfl) (by first | (rfl) | (exfalso; omega)))

theorem IsModelS_c (n : Int) (xs : List Int) (vs : List Int) (l1 : xs.length ≤ 1000000) (l2 : vs.length ≤ 1000000) : CallA Tryz.prog 25 [.agg [AI n, LI xs, LI vs]] (.bool (okMo n xs vs)) := by
  refine CallA.of Tryz.func25 rfl (by kernel_rfl) ?_
  refine R.go 8 (R.call true (l06Is_c n xs vs (by first | omega | (simp <;> omega)) (by first | omega | (simp <;> omega))) (by kernel_rfl) rfl (by kernel_rfl) ?_)
  exact R.go 2 (R.retE (.bool (okMo n xs vs)) (by kernel_rfl) (by kernel_rfl) (by rfl))

theorem big_c (c : List Int) : CallA Tryz.prog 6 [LB c] (.bool (decide ((c.length : Int) > 4096))) := by
  refine CallA.of Tryz.func6 rfl (by kernel_rfl) ?_
  exact R.go 11 (R.retE (.bool (decide ((c.length : Int) > 4096))) (by kernel_rfl) (by kernel_rfl) (by rfl))

set_option maxHeartbeats 4000000 in
theorem lawTr_c (c : List Int) (hcb : ∀ q : Nat, q < c.length → 0 ≤ c.getD q 0 ∧ c.getD q 0 ≤ 255) : CallA Tryz.prog 4 [LB c] (.bool true) := by
  refine CallA.of Tryz.func4 rfl (by kernel_rfl) ?_
  refine R.go 8 (R.call true (big_c c) (by kernel_rfl) rfl (by kernel_rfl) ?_)
  refine R.go 1 (R.cond ((c.length : Int) > 4096) (by kernel_rfl) (fun c1 => ?_) (fun c1 => ?_))
  · exact R.go 4 (R.retE (.bool true) (by kernel_rfl) (by kernel_rfl) (by rfl))
  · have hc : BY c := ⟨by omega, hcb⟩
    refine R.go 4 (R.callX (drTF_c c hc) (by kernel_rfl) (by kernel_rfl) (by kernel_rfl) ?_)
    rintro _ _ ⟨a_2, x_3, f4, rfl, rfl⟩
    refine R.go 10 (R.call true (TF_impl a_2 x_3 (by first | omega | (simp <;> omega))).frz (by kernel_rfl) rfl (by kernel_rfl) ?_)
    refine R.go 10 (R.call true (TF_spec a_2 x_3 (by first | omega | (simp <;> omega))).frz (by kernel_rfl) rfl (by kernel_rfl) ?_)
    have hpl := ptR_le a_2 x_3
    refine R.go 13 (R.want (!decide ((ptC a_2 x_3) = (ptC a_2 x_3))) false (by kernel_rfl) (nF rfl) ?_)
    refine R.go 1 (R.want (!decide ((ptC a_2 x_3) = (ptC a_2 x_3))) false (by kernel_rfl) (nF rfl) ?_)
    refine R.go 1 (R.want (!decide ((ptC a_2 x_3) = (ptC a_2 x_3))) false (by kernel_rfl) (nF rfl) ?_)
    refine R.call true (likePt_c (ptR a_2 x_3) (by first | omega | (simp <;> omega))) (by kernel_rfl) rfl (by kernel_rfl) ?_
    refine R.want (!decide ((ptC a_2 x_3) = (ptC a_2 x_3))) false (by kernel_rfl) (nF rfl) ?_
    refine R.go 1 (R.pick (!decide ((ptC a_2 x_3) = (ptC a_2 x_3))) false (by kernel_rfl) (nF rfl) (by kernel_rfl) ?_)
    refine R.go 9 (R.condN ((ptC a_2 x_3) = 0) (by kernel_rfl) (fun c5 => ?_) (fun c5 => ?_))
    · exact R.go 4 (R.retE (.bool true) (by kernel_rfl) (by kernel_rfl) (by rfl))
    · have htf := law_tf (by assumption : ptC a_2 x_3 = 0)
      have hF := htf.1
      have hx := htf.2.1
      have hRt := htf.2.2.1
      have hok : OKP (ptR a_2 x_3) := by rw [hRt]; exact okp_any hF hx
      have hl120 : (ptR a_2 x_3).length ≤ 120 := by rw [hRt]; exact htf.2.2.2
      refine R.go 4 (R.callX (drPH_c c hc) (by kernel_rfl) (by kernel_rfl) (by kernel_rfl) ?_)
      rintro _ _ ⟨n_6, xs_7, vs_8, l_9, ws_10, f11, f12, f13, rfl, rfl⟩
      refine R.go 13 (R.call true (IPF_c (ptR a_2 x_3) hok hl120) (by kernel_rfl) rfl (by kernel_rfl) ?_)
      refine R.go 3 (R.call true (IsModelS_c n_6 xs_7 vs_8 (by first | omega | (simp <;> omega)) (by first | omega | (simp <;> omega))) (by kernel_rfl) rfl (by kernel_rfl) ?_)
      refine R.go 3 ?_
      refine (Bool.eq_false_or_eq_true (okMo n_6 xs_7 vs_8)).elim (fun c14 => ?_) (fun c14 => ?_)
      · refine R.want (!(okMo n_6 xs_7 vs_8)) false (by kernel_rfl) (bnF c14) ?_
        refine R.go 1 (R.want (!(okMo n_6 xs_7 vs_8)) false (by kernel_rfl) (bnF c14) ?_)
        refine R.go 1 (R.want (!(okMo n_6 xs_7 vs_8)) false (by kernel_rfl) (bnF c14) ?_)
        refine R.go 1 (R.pick (!(okMo n_6 xs_7 vs_8)) false (by kernel_rfl) (bnF c14) (by kernel_rfl) ?_)
        refine R.go 1 ?_
        by_cases c15 : (ws_10.length : Int) = 10
        · refine R.want (!decide ((ws_10.length : Int) = 10)) false (by kernel_rfl) (nF c15) ?_
          refine R.go 1 (R.want (!decide ((ws_10.length : Int) = 10)) false (by kernel_rfl) (nF c15) ?_)
          refine R.go 1 (R.want (!decide ((ws_10.length : Int) = 10)) false (by kernel_rfl) (nF c15) ?_)
          refine R.go 1 (R.want (!decide ((ws_10.length : Int) = 10)) false (by kernel_rfl) (nF c15) ?_)
          refine R.go 1 (R.pick (!decide ((ws_10.length : Int) = 10)) false (by kernel_rfl) (nF c15) (by kernel_rfl) ?_)
          refine R.go 1 (R.cond (n_6 = 0) (by kernel_rfl) (fun c16 => ?_) (fun c16 => ?_))
          · refine R.go 3 (R.call true (IPF_c (ptR a_2 x_3) hok hl120) (by kernel_rfl) rfl (by kernel_rfl) ?_)
            exact R.go 2 (R.retE (.bool true) (by kernel_rfl) (by kernel_rfl) (by rfl))
          · have hMo : okMo n_6 xs_7 vs_8 = true := by assumption
            have hM := law_mo hMo
            have hmc : mcode n_6 xs_7 vs_8 a_2 = 0 := mcode_good hMo hF
            refine R.go 5 (R.call true (TS_impl n_6 xs_7 vs_8 a_2 (by first | omega | (simp <;> omega)) (by first | omega | (simp <;> omega)) (by first | omega | (simp <;> omega))) (by kernel_rfl) rfl (by kernel_rfl) ?_)
            refine R.go 10 (R.call true (TS_spec n_6 xs_7 vs_8 a_2 (by first | omega | (simp <;> omega)) (by first | omega | (simp <;> omega)) (by first | omega | (simp <;> omega))) (by kernel_rfl) rfl (by kernel_rfl) ?_)
            refine R.go 12 ?_
            by_cases c17 : (mcode n_6 xs_7 vs_8 a_2) = 0
            · refine R.want (!decide ((mcode n_6 xs_7 vs_8 a_2) = 0)) false (by kernel_rfl) (nF c17) ?_
              refine R.go 1 (R.want (!decide ((mcode n_6 xs_7 vs_8 a_2) = 0)) false (by kernel_rfl) (nF c17) ?_)
              refine R.go 1 (R.want (!decide ((mcode n_6 xs_7 vs_8 a_2) = 0)) false (by kernel_rfl) (nF c17) ?_)
              refine R.go 1 (R.pick (!decide ((mcode n_6 xs_7 vs_8 a_2) = 0)) false (by kernel_rfl) (nF c17) (by kernel_rfl) ?_)
              refine R.go 1 (R.els (!decide ((tval n_6 xs_7 vs_8 a_2) = (tval n_6 xs_7 vs_8 a_2))) (by kernel_rfl) (nF rfl) ?_)
              refine R.go 7 (R.loop (fun (w : Nat) => (⟨(frm 126 [(4, AI x_3), (7, LT (ptR a_2 x_3)), (9, .ptr 0 0), (14, AI (tval n_6 xs_7 vs_8 a_2)), (16, AI (w : Int))]), [.box 43 [AI n_6, LI xs_7, LI vs_8]]⟩ : St)) (fun (w : Nat) => (w : Int) ≤ n_6) (fun (w : Nat) => (n_6 - w).toNat) 0 [4, 7, 9, 14, 16] none (by kernel_rfl) (by kernel_rfl) (by kernel_rfl) (by omega) ?_)
              rintro w h20_1 R18 N19
              refine R.go 9 (R.cond ((w : Int) < n_6) (by kernel_rfl) (fun c21 => ?_) (fun c21 => ?_))
              · refine R.go 13 (R.idxO 1 1 (List.replicate 10 0).length ((x_3).toNat) x_3 (by kernel_rfl) (by omega) (by first | omega | (simp <;> omega)) (by kernel_rfl) ?_)
                refine R.stI 1 2 (List.replicate 10 0) ((x_3).toNat) (w : Int) (by kernel_rfl) (by first | omega | (simp <;> omega)) (by kernel_rfl) ?_
                have hws : WS n_6 ((List.replicate 10 (0 : Int)).set (x_3).toNat (w : Int)) := law_ws (by omega)
                refine R.go 6 (R.frz 1 (by kernel_rfl) ?_)
                refine R.callX0 (PH_c n_6 xs_7 vs_8 (ptR a_2 x_3) ((List.replicate 10 0).set ((x_3).toNat) (w : Int)) (by assumption) hok hl120 (by assumption) (by assumption)) (by kernel_rfl) (by rintro _ _ ⟨_, _, _, rfl, rfl⟩; rfl) (by kernel_rfl) (by kernel_rfl) ?_
                rintro _ ⟨b_22, c_23, f24, rfl, _⟩
                refine R.go 12 (R.cond (c_23 = 3) (by kernel_rfl) (fun c25 => ?_) (fun c25 => ?_))
                · exact R.go 4 (R.retE (.bool true) (by kernel_rfl) (by kernel_rfl) (by rfl))
                · have hlb := law_b hMo hF hx hRt (show (w : Int) < n_6 by omega) (by assumption) (by assumption : c_23 = 3 ∨ (c_23 = 0 ∧ b_22 = evL n_6 xs_7 vs_8 (ptR a_2 x_3) ((List.replicate 10 (0 : Int)).set (x_3).toNat (w : Int))))
                  have hlb1 := hlb.1
                  have hlb2 := hlb.2
                  refine R.go 6 ?_
                  by_cases c26 : c_23 = 0
                  · refine R.want (!decide (c_23 = 0)) false (by kernel_rfl) (nF c26) ?_
                    refine R.go 1 (R.want (!decide (c_23 = 0)) false (by kernel_rfl) (nF c26) ?_)
                    refine R.go 1 (R.want (!decide (c_23 = 0)) false (by kernel_rfl) (nF c26) ?_)
                    refine R.go 1 (R.want (!decide (c_23 = 0)) false (by kernel_rfl) (nF c26) ?_)
                    refine R.call true (bit5_c (tval n_6 xs_7 vs_8 a_2) (w : Int) (by omega) (by omega)) (by kernel_rfl) rfl (by kernel_rfl) ?_
                    refine R.want (!decide (c_23 = 0)) false (by kernel_rfl) (nF c26) ?_
                    refine R.go 1 (R.pick (!decide (c_23 = 0)) false (by kernel_rfl) (nF c26) (by kernel_rfl) ?_)
                    refine R.go 1 (R.condM ((b_22 == (decide (band (shr64 (tval n_6 xs_7 vs_8 a_2) (w : Int)) 1 = 1)))) (by kernel_rfl) (fun c27 => ?_) (fun c27 => ?_))
                    · exact R.go 4 (R.retE (.bool false) (by kernel_rfl) (by kernel_rfl) (by first | (first | rfl | exact absurd (hlb2.symm.trans (by assumption : _ = false)) (by decide) | (exfalso; omega)) | (exfalso; omega)))
                    · refine R.go 4 (R.ar ((w : Int) + 1) (by kernel_rfl) (by omega) (by omega) (by kernel_rfl) ?_)
                      exact R.go 2 (R.stop R18 (by kernel_rfl) (N19 (w + 1) [4, 7, 9, 14, 16] (some [0]) _ (by kernel_rfl) (by kernel_rfl) (by omega) (by show ((n_6 - (w + 1)).toNat) < ((n_6 - w).toNat); omega)))
                  · refine R.skp (!decide (c_23 = 0)) false (by kernel_rfl) (nT c26) (by kernel_rfl) ?_
                    refine R.skp (!decide (c_23 = 0)) false (by kernel_rfl) (nT c26) (by kernel_rfl) ?_
                    refine R.skp (!decide (c_23 = 0)) false (by kernel_rfl) (nT c26) (by kernel_rfl) ?_
                    refine R.skp (!decide (c_23 = 0)) false (by kernel_rfl) (nT c26) (by kernel_rfl) ?_
                    refine R.skp (!decide (c_23 = 0)) false (by kernel_rfl) (nT c26) (by kernel_rfl) ?_
                    refine R.pick (!decide (c_23 = 0)) true (by kernel_rfl) (nT c26) (by kernel_rfl) ?_
                    exact R.go 6 (R.retE (.bool false) (by kernel_rfl) (by kernel_rfl) (by first | (first | rfl | exact absurd (hlb2.symm.trans (by assumption : _ = false)) (by decide) | (exfalso; omega)) | (exfalso; omega)))
              · exact R.go 5 (R.retE (.bool true) (by kernel_rfl) (by kernel_rfl) (by rfl))
            · refine R.skp (!decide ((mcode n_6 xs_7 vs_8 a_2) = 0)) false (by kernel_rfl) (nT c17) (by kernel_rfl) ?_
              refine R.skp (!decide ((mcode n_6 xs_7 vs_8 a_2) = 0)) false (by kernel_rfl) (nT c17) (by kernel_rfl) ?_
              refine R.skp (!decide ((mcode n_6 xs_7 vs_8 a_2) = 0)) false (by kernel_rfl) (nT c17) (by kernel_rfl) ?_
              refine R.pick (!decide ((mcode n_6 xs_7 vs_8 a_2) = 0)) true (by kernel_rfl) (nT c17) (by kernel_rfl) ?_
              exact R.go 6 (R.retE (.bool false) (by kernel_rfl) (by kernel_rfl) (by first | (first | rfl | exact absurd (hlb2.symm.trans (by assumption : _ = false)) (by decide) | (exfalso; omega)) | (exfalso; omega)))
        · refine R.skp (!decide ((ws_10.length : Int) = 10)) false (by kernel_rfl) (nT c15) (by kernel_rfl) ?_
          refine R.skp (!decide ((ws_10.length : Int) = 10)) false (by kernel_rfl) (nT c15) (by kernel_rfl) ?_
          refine R.skp (!decide ((ws_10.length : Int) = 10)) false (by kernel_rfl) (nT c15) (by kernel_rfl) ?_
          refine R.skp (!decide ((ws_10.length : Int) = 10)) false (by kernel_rfl) (nT c15) (by kernel_rfl) ?_
          refine R.pick (!decide ((ws_10.length : Int) = 10)) true (by kernel_rfl) (nT c15) (by kernel_rfl) ?_
          refine R.go 5 (R.call true (IPF_c (ptR a_2 x_3) hok hl120) (by kernel_rfl) rfl (by kernel_rfl) ?_)
          exact R.go 2 (R.retE (.bool true) (by kernel_rfl) (by kernel_rfl) (by rfl))
      · refine R.skp (!(okMo n_6 xs_7 vs_8)) false (by kernel_rfl) (bnT c14) (by kernel_rfl) ?_
        refine R.skp (!(okMo n_6 xs_7 vs_8)) false (by kernel_rfl) (bnT c14) (by kernel_rfl) ?_
        refine R.skp (!(okMo n_6 xs_7 vs_8)) false (by kernel_rfl) (bnT c14) (by kernel_rfl) ?_
        refine R.pick (!(okMo n_6 xs_7 vs_8)) true (by kernel_rfl) (bnT c14) (by kernel_rfl) ?_
        refine R.go 11 (R.call true (IPF_c (ptR a_2 x_3) hok hl120) (by kernel_rfl) rfl (by kernel_rfl) ?_)
        exact R.go 2 (R.retE (.bool true) (by kernel_rfl) (by kernel_rfl) (by rfl))

end Go.Proofs.YtgebepfdphmjcaaGreat
