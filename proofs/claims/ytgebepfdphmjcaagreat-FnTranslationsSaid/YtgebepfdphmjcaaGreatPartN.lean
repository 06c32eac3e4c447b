/- Texts of the proof: E06, TR8. -/
import Derived.Test.YtgebepfdphmjcaaGreatPartM

/-! Draws of models. -/
namespace Go.Proofs.YtgebepfdphmjcaaGreat
open Go.RowKit Go.Abs

theorem someM_c_r2 (c : List Int) (p : Nat) (h : Int) (worlds : Int) (eo1 : Nat) (so1 : Nat) (no1 : Nat) (co1 : List AV) (eo2 : Nat) (so2 : Nat) (no2 : Nat) (co2 : List AV) (hc : BY c) (hw : 0 ≤ worlds ∧ worlds ≤ 20) : CallX Tryz.prog 123 [.ptr 0 0, AI worlds] [.box 120 [LB c, AI (p : Int), .int .u64 h], .list eo1 so1 no1 co1, .list eo2 so2 no2 co2] (fun (resX : AV) (objX : List AObj) => ∃ n : Int, ∃ xs : List Int, ∃ vs : List Int, ∃ p1 : Nat, ∃ h1 : Int, (0 ≤ n ∧ n ≤ worlds) ∧ ((xs.length : Int) = n) ∧ (vs.length = 6) ∧ resX = .agg [AI n, LI xs, .ref 3] ∧ objX = [.box 120 [LB c, AI (p1 : Int), .int .u64 h1], .list eo1 so1 no1 co1, .list eo2 so2 no2 co2, rowA eI 2 1 vs]) := by
  have hcl : c.length ≤ 4096 := hc.1
  have hcb := hc.2
  refine CallX.dropE (CallX.ofF Tryz.func123 rfl (by kernel_rfl) ?_)
  intro usC frC hfC
  refine R.go 8 (R.callX (CallX.inF 3 usC frC (CallX.box 3 43 [AI 0, .nil, .nil] (someX_c_r3 c p h worlds eo1 so1 no1 co1 eo2 so2 no2 co2 43 3 1 [AI 0, .nil, .nil] hc hw) (by kernel_rfl) (by kernel_rfl) (by kernel_rfl) (by kernel_rfl) (by rintro _ _ ⟨_, _, _, _, _, _, rfl, rfl⟩; exact ⟨by kernel_rfl, by kernel_rfl, by kernel_rfl⟩)) (Nat.le_of_ble_eq_true (by kernel_rfl)) (by kernel_rfl) (by kernel_rfl) (by rintro _ _ ⟨_, ⟨_, _, _, _, _, _, rfl, rfl⟩, rfl⟩; exact Nat.le_of_ble_eq_true (by kernel_rfl))) (by kernel_rfl) (by kernel_rfl) (by kernel_rfl) ?_)
  rintro _ _ ⟨_, _, ⟨_, ⟨n_1, xs_2, p1_3, h1_4, f5, f6, rfl, rfl⟩, rfl⟩, rfl, rfl⟩
  refine R.go 16 (R.nilB 6 2 2 1 (by kernel_rfl) ?_)
  refine R.loop ((fun | (i, us, q, k) => (⟨(frm 30 [(0, .ptr 0 0), (4, .ptr 4 0), (5, .ptr 5 0), (6, .ptr 6 0), (7, AI (i : Int))]), [.box 120 [LB c, AI (q : Int), .int .u64 k], .list eo1 so1 no1 co1, .list eo2 so2 no2 co2, .frame usC frC, .box 43 [AI 0, .nil, .nil], .box 26 [AI n_1, LI xs_2], .box 43 [AI n_1, LI xs_2, .ref 7], rowA eI 2 1 us]⟩ : St) : Nat × (List Int) × Nat × Int → St)) (fun | (i, us, q, k) => (i ≤ 6) ∧ (us.length = i)) (fun | (i, us, q, k) => 6 - i) (0, [], p1_3, h1_4) [0, 4, 5, 6, 7] none (by kernel_rfl) (by kernel_rfl) (by kernel_rfl) ⟨(by omega), (by rfl)⟩ ?_
  rintro ⟨i, us, q, k⟩ ⟨h10_1, h10_2⟩ R7 N8
  have hb : 1 ≤ shl64 1 n_1 ∧ shl64 1 n_1 ≤ 4611686018427387904 := shl_rng n_1 (by omega) (by omega)
  refine R.go 6 (R.cond ((i : Int) < 6) (by kernel_rfl) (fun c11 => ?_) (fun c11 => ?_))
  · refine R.go 3 (R.any (by decide +kernel) (by kernel_rfl) ?_)
    refine R.anyF 3 (by kernel_rfl) (np_retX _ _ _ _ _ _) ?_
    refine R.anyA 0 (.ptr 6 2) (by kernel_rfl) (np_retX _ _ _ _ _ _) ?_
    refine R.anyA 4 (.ptr 5 0) (by kernel_rfl) (np_retX _ _ _ _ _ _) ?_
    refine R.any2 1 5 (by kernel_rfl) (by kernel_rfl) ?_ ?_
    · refine R.go 2 (R.any2 2 5 (by kernel_rfl) (by kernel_rfl) ?_ ?_)
      · refine R.call false (l01Own_c us (by first | omega | (simp only [refI_len, wout_len]; omega) | (simp <;> omega))) (by kernel_rfl) (ownA_closed eI_closed 2 1 us) (by kernel_rfl) ?_
        refine R.go 1 (R.any1 5 (by kernel_rfl) (by kernel_rfl) ?_)
        refine R.go 2 (R.any1 6 (by kernel_rfl) (by kernel_rfl) ?_)
        refine R.call true (l01Full_c n_1 (by first | omega | (simp only [refI_len, wout_len]; omega) | (simp <;> omega)) (by first | omega | (simp only [refI_len, wout_len]; omega) | (simp <;> omega))) (by kernel_rfl) rfl (by kernel_rfl) ?_
        refine R.go 1 (R.anyI 7 (AI (IntKind.i64.wrap (((shl64 1 n_1) - 1) + 1))) (by kernel_rfl) (np_retX _ _ _ _ _ _) ?_)
        refine R.any1 8 (by kernel_rfl) (by kernel_rfl) ?_
        refine R.callX (CallX.inF 3 usC frC (CallX.box 4 26 [AI n_1, LI xs_2] (CallX.box 3 43 [AI 0, .nil, .nil] (nextX_c_rooooCoo c q k (IntKind.i64.wrap (((shl64 1 n_1) - 1) + 1)) eo1 so1 no1 co1 eo2 so2 no2 co2 43 3 1 [AI 0, .nil, .nil] 26 2 1 [AI n_1, LI xs_2] 43 n_1 xs_2 2 1 us.length (rows eI us) 2 1 us.length (rows eI us) hc) (by kernel_rfl) (by kernel_rfl) (by kernel_rfl) (by kernel_rfl) (by rintro _ _ ⟨_, _, _, _, rfl, rfl⟩; exact ⟨by kernel_rfl, by kernel_rfl, by kernel_rfl⟩)) (by kernel_rfl) (by kernel_rfl) (by kernel_rfl) (by kernel_rfl) (by rintro _ _ ⟨_, ⟨_, _, _, _, rfl, rfl⟩, rfl⟩; exact ⟨by kernel_rfl, by kernel_rfl, by kernel_rfl⟩)) (Nat.le_of_ble_eq_true (by kernel_rfl)) (by kernel_rfl) (by kernel_rfl) (by rintro _ _ ⟨_, ⟨_, ⟨_, _, _, _, rfl, rfl⟩, rfl⟩, rfl⟩; exact Nat.le_of_ble_eq_true (by kernel_rfl))) (by kernel_rfl) (by kernel_rfl) (by kernel_rfl) ?_
        rintro _ _ ⟨_, _, ⟨_, ⟨_, ⟨v_12, p1_13, h1_14, f15, rfl, rfl⟩, rfl⟩, rfl⟩, rfl, rfl⟩
        refine R.go 1 (R.any1 9 (by kernel_rfl) (by kernel_rfl) ?_)
        refine R.go 2 (R.any1 10 (by kernel_rfl) (by kernel_rfl) ?_)
        refine R.app eI us [v_12] 8 2 1 8 (by kernel_rfl) eI_one (by decide) (by first | omega | (simp <;> omega)) (by kernel_rfl) ?_
        refine R.kfix 3 (us := usC) (by kernel_rfl) (hfC.kill 8 (Nat.le_of_ble_eq_true (by kernel_rfl))) ?_
        refine R.go 1 (R.anyA 11 (.ptr 6 2) (by kernel_rfl) (np_retX _ _ _ _ _ _) ?_)
        refine R.any1 12 (by kernel_rfl) (by kernel_rfl) ?_
        refine R.go 2 (R.any0 (by kernel_rfl) ?_)
        refine R.go 3 (R.ar ((i : Int) + 1) (by kernel_rfl) (by omega) (by omega) (by kernel_rfl) ?_)
        exact R.go 2 (R.stop R7 (by kernel_rfl) (N8 (i + 1, us ++ [v_12], p1_13, h1_14) [0, 4, 5, 6, 7] (some [0, 1, 2, 3, 4, 5, 6, 8]) _ (by kernel_rfl) (canonF (fr := frC) (fun (frX : List AV) => (⟨(frm 30 [(0, .ptr 0 0), (4, .ptr 4 0), (5, .ptr 5 0), (6, .ptr 6 0), (7, AI ((i : Int) + 1))]), [.box 120 [LB c, AI (p1_13 : Int), .int .u64 h1_14], .list eo1 so1 no1 co1, .list eo2 so2 no2 co2, .frame usC frX, .box 43 [AI 0, .nil, .nil], .box 26 [AI n_1, LI xs_2], .box 43 [AI n_1, LI xs_2, .ref 7], rowA eI 2 1 (us ++ [v_12])]⟩ : St)) (hfC.ren _ (by kernel_rfl)) (by kernel_rfl) (by kernel_rfl)) ⟨(by omega), (by (simp <;> omega))⟩ (by show (6 - (i + 1)) < (6 - i); omega)))
      · refine R.go 2 (R.any1 2 (by kernel_rfl) (by kernel_rfl) ?_)
        refine R.call false (l01Own_c us (by first | omega | (simp only [refI_len, wout_len]; omega) | (simp <;> omega))) (by kernel_rfl) (ownA_closed eI_closed 2 1 us) (by kernel_rfl) ?_
        refine R.go 1 (R.any1 6 (by kernel_rfl) (by kernel_rfl) ?_)
        refine R.call true (l01Full_c n_1 (by first | omega | (simp only [refI_len, wout_len]; omega) | (simp <;> omega)) (by first | omega | (simp only [refI_len, wout_len]; omega) | (simp <;> omega))) (by kernel_rfl) rfl (by kernel_rfl) ?_
        refine R.go 1 (R.anyI 7 (AI (IntKind.i64.wrap (((shl64 1 n_1) - 1) + 1))) (by kernel_rfl) (np_retX _ _ _ _ _ _) ?_)
        refine R.any1 8 (by kernel_rfl) (by kernel_rfl) ?_
        refine R.callX (CallX.inF 3 usC frC (CallX.box 4 26 [AI n_1, LI xs_2] (CallX.box 3 43 [AI 0, .nil, .nil] (nextX_c_rooooCoo c q k (IntKind.i64.wrap (((shl64 1 n_1) - 1) + 1)) eo1 so1 no1 co1 eo2 so2 no2 co2 43 3 1 [AI 0, .nil, .nil] 26 2 1 [AI n_1, LI xs_2] 43 n_1 xs_2 2 1 us.length (rows eI us) 2 1 us.length (rows eI us) hc) (by kernel_rfl) (by kernel_rfl) (by kernel_rfl) (by kernel_rfl) (by rintro _ _ ⟨_, _, _, _, rfl, rfl⟩; exact ⟨by kernel_rfl, by kernel_rfl, by kernel_rfl⟩)) (by kernel_rfl) (by kernel_rfl) (by kernel_rfl) (by kernel_rfl) (by rintro _ _ ⟨_, ⟨_, _, _, _, rfl, rfl⟩, rfl⟩; exact ⟨by kernel_rfl, by kernel_rfl, by kernel_rfl⟩)) (Nat.le_of_ble_eq_true (by kernel_rfl)) (by kernel_rfl) (by kernel_rfl) (by rintro _ _ ⟨_, ⟨_, ⟨_, _, _, _, rfl, rfl⟩, rfl⟩, rfl⟩; exact Nat.le_of_ble_eq_true (by kernel_rfl))) (by kernel_rfl) (by kernel_rfl) (by kernel_rfl) ?_
        rintro _ _ ⟨_, _, ⟨_, ⟨_, ⟨v_16, p1_17, h1_18, f19, rfl, rfl⟩, rfl⟩, rfl⟩, rfl, rfl⟩
        refine R.go 1 (R.any1 9 (by kernel_rfl) (by kernel_rfl) ?_)
        refine R.go 2 (R.any1 10 (by kernel_rfl) (by kernel_rfl) ?_)
        refine R.app eI us [v_16] 8 2 1 8 (by kernel_rfl) eI_one (by decide) (by first | omega | (simp <;> omega)) (by kernel_rfl) ?_
        refine R.kfix 3 (us := usC) (by kernel_rfl) (hfC.kill 8 (Nat.le_of_ble_eq_true (by kernel_rfl))) ?_
        refine R.go 1 (R.anyA 11 (.ptr 6 2) (by kernel_rfl) (np_retX _ _ _ _ _ _) ?_)
        refine R.any1 12 (by kernel_rfl) (by kernel_rfl) ?_
        refine R.go 2 (R.any0 (by kernel_rfl) ?_)
        refine R.go 3 (R.ar ((i : Int) + 1) (by kernel_rfl) (by omega) (by omega) (by kernel_rfl) ?_)
        exact R.go 2 (R.stop R7 (by kernel_rfl) (N8 (i + 1, us ++ [v_16], p1_17, h1_18) [0, 4, 5, 6, 7] (some [0, 1, 2, 3, 4, 5, 6, 8]) _ (by kernel_rfl) (canonF (fr := frC) (fun (frX : List AV) => (⟨(frm 30 [(0, .ptr 0 0), (4, .ptr 4 0), (5, .ptr 5 0), (6, .ptr 6 0), (7, AI ((i : Int) + 1))]), [.box 120 [LB c, AI (p1_17 : Int), .int .u64 h1_18], .list eo1 so1 no1 co1, .list eo2 so2 no2 co2, .frame usC frX, .box 43 [AI 0, .nil, .nil], .box 26 [AI n_1, LI xs_2], .box 43 [AI n_1, LI xs_2, .ref 7], rowA eI 2 1 (us ++ [v_16])]⟩ : St)) (hfC.ren _ (by kernel_rfl)) (by kernel_rfl) (by kernel_rfl)) ⟨(by omega), (by (simp <;> omega))⟩ (by show (6 - (i + 1)) < (6 - i); omega)))
    · refine R.go 2 (R.any1 1 (by kernel_rfl) (by kernel_rfl) ?_)
      refine R.go 2 (R.any1 2 (by kernel_rfl) (by kernel_rfl) ?_)
      refine R.call false (l01Own_c us (by first | omega | (simp only [refI_len, wout_len]; omega) | (simp <;> omega))) (by kernel_rfl) (ownA_closed eI_closed 2 1 us) (by kernel_rfl) ?_
      refine R.go 1 (R.any1 6 (by kernel_rfl) (by kernel_rfl) ?_)
      refine R.call true (l01Full_c n_1 (by first | omega | (simp only [refI_len, wout_len]; omega) | (simp <;> omega)) (by first | omega | (simp only [refI_len, wout_len]; omega) | (simp <;> omega))) (by kernel_rfl) rfl (by kernel_rfl) ?_
      refine R.go 1 (R.anyI 7 (AI (IntKind.i64.wrap (((shl64 1 n_1) - 1) + 1))) (by kernel_rfl) (np_retX _ _ _ _ _ _) ?_)
      refine R.any1 8 (by kernel_rfl) (by kernel_rfl) ?_
      refine R.callX (CallX.inF 3 usC frC (CallX.box 4 26 [AI n_1, LI xs_2] (CallX.box 3 43 [AI 0, .nil, .nil] (nextX_c_rooooCoo c q k (IntKind.i64.wrap (((shl64 1 n_1) - 1) + 1)) eo1 so1 no1 co1 eo2 so2 no2 co2 43 3 1 [AI 0, .nil, .nil] 26 2 1 [AI n_1, LI xs_2] 43 n_1 xs_2 2 1 us.length (rows eI us) 2 1 us.length (rows eI us) hc) (by kernel_rfl) (by kernel_rfl) (by kernel_rfl) (by kernel_rfl) (by rintro _ _ ⟨_, _, _, _, rfl, rfl⟩; exact ⟨by kernel_rfl, by kernel_rfl, by kernel_rfl⟩)) (by kernel_rfl) (by kernel_rfl) (by kernel_rfl) (by kernel_rfl) (by rintro _ _ ⟨_, ⟨_, _, _, _, rfl, rfl⟩, rfl⟩; exact ⟨by kernel_rfl, by kernel_rfl, by kernel_rfl⟩)) (Nat.le_of_ble_eq_true (by kernel_rfl)) (by kernel_rfl) (by kernel_rfl) (by rintro _ _ ⟨_, ⟨_, ⟨_, _, _, _, rfl, rfl⟩, rfl⟩, rfl⟩; exact Nat.le_of_ble_eq_true (by kernel_rfl))) (by kernel_rfl) (by kernel_rfl) (by kernel_rfl) ?_
      rintro _ _ ⟨_, _, ⟨_, ⟨_, ⟨v_20, p1_21, h1_22, f23, rfl, rfl⟩, rfl⟩, rfl⟩, rfl, rfl⟩
      refine R.go 1 (R.any1 9 (by kernel_rfl) (by kernel_rfl) ?_)
      refine R.go 2 (R.any1 10 (by kernel_rfl) (by kernel_rfl) ?_)
      refine R.app eI us [v_20] 8 2 1 8 (by kernel_rfl) eI_one (by decide) (by first | omega | (simp <;> omega)) (by kernel_rfl) ?_
      refine R.kfix 3 (us := usC) (by kernel_rfl) (hfC.kill 8 (Nat.le_of_ble_eq_true (by kernel_rfl))) ?_
      refine R.go 1 (R.anyA 11 (.ptr 6 2) (by kernel_rfl) (np_retX _ _ _ _ _ _) ?_)
      refine R.any1 12 (by kernel_rfl) (by kernel_rfl) ?_
      refine R.go 2 (R.any0 (by kernel_rfl) ?_)
      refine R.go 3 (R.ar ((i : Int) + 1) (by kernel_rfl) (by omega) (by omega) (by kernel_rfl) ?_)
      exact R.go 2 (R.stop R7 (by kernel_rfl) (N8 (i + 1, us ++ [v_20], p1_21, h1_22) [0, 4, 5, 6, 7] (some [0, 1, 2, 3, 4, 5, 6, 8]) _ (by kernel_rfl) (canonF (fr := frC) (fun (frX : List AV) => (⟨(frm 30 [(0, .ptr 0 0), (4, .ptr 4 0), (5, .ptr 5 0), (6, .ptr 6 0), (7, AI ((i : Int) + 1))]), [.box 120 [LB c, AI (p1_21 : Int), .int .u64 h1_22], .list eo1 so1 no1 co1, .list eo2 so2 no2 co2, .frame usC frX, .box 43 [AI 0, .nil, .nil], .box 26 [AI n_1, LI xs_2], .box 43 [AI n_1, LI xs_2, .ref 7], rowA eI 2 1 (us ++ [v_20])]⟩ : St)) (hfC.ren _ (by kernel_rfl)) (by kernel_rfl) (by kernel_rfl)) ⟨(by omega), (by (simp <;> omega))⟩ (by show (6 - (i + 1)) < (6 - i); omega)))
  · exact R.go 6 (R.retX (res := .agg [AI n_1, LI xs_2, .ref 7]) (hp' := [.box 120 [LB c, AI (q : Int), .int .u64 k], .list eo1 so1 no1 co1, .list eo2 so2 no2 co2, .dead, .box 43 [AI n_1, LI xs_2, .ref 7], .box 26 [AI n_1, LI xs_2], .box 43 [AI n_1, LI xs_2, .ref 7], rowA eI 2 1 us]) (by kernel_rfl) (by kernel_rfl) (by kernel_rfl) (by kernel_rfl) ⟨[0, 1, 2, 7], by kernel_rfl, by decide, n_1, xs_2, us, q, k, by first | omega | (simp only [refI_len, wout_len]; done) | (simp only [refI_len, wout_len]; omega), by first | omega | (simp only [refI_len, wout_len]; done) | (simp only [refI_len, wout_len]; omega), by first | omega | (simp only [refI_len, wout_len]; done) | (simp only [refI_len, wout_len]; omega), by kernel_rfl, by kernel_rfl⟩)

theorem modelX_c_r1 (c : List Int) (p : Nat) (h : Int) (worlds : Int) (eo1 : Nat) (so1 : Nat) (no1 : Nat) (co1 : List AV) (hc : BY c) (hw : 0 ≤ worlds ∧ worlds ≤ 20) : CallX Tryz.prog 61 [.ptr 0 0, AI worlds] [.box 120 [LB c, AI (p : Int), .int .u64 h], .list eo1 so1 no1 co1] (fun (resX : AV) (objX : List AObj) => ∃ n : Int, ∃ xs : List Int, ∃ vs : List Int, ∃ p1 : Nat, ∃ h1 : Int, ((xs.length : Int) ≤ worlds + 1) ∧ (vs.length ≤ 6) ∧ resX = .agg [AI n, LI xs, LI vs] ∧ objX = [.box 120 [LB c, AI (p1 : Int), .int .u64 h1], .list eo1 so1 no1 co1]) := by
  have hcl : c.length ≤ 4096 := hc.1
  have hcb := hc.2
  refine CallX.dropE (CallX.ofF Tryz.func61 rfl (by kernel_rfl) ?_)
  intro usC frC hfC
  refine R.go 8 (R.callX (CallX.inF 2 usC frC (CallX.box 2 43 [AI 0, .nil, .nil] (someM_c_r2 c p h worlds eo1 so1 no1 co1 43 3 1 [AI 0, .nil, .nil] hc hw) (by kernel_rfl) (by kernel_rfl) (by kernel_rfl) (by kernel_rfl) (by rintro _ _ ⟨_, _, _, _, _, _, _, _, rfl, rfl⟩; exact ⟨by kernel_rfl, by kernel_rfl, by kernel_rfl⟩)) (Nat.le_of_ble_eq_true (by kernel_rfl)) (by kernel_rfl) (by kernel_rfl) (by rintro _ _ ⟨_, ⟨_, _, _, _, _, _, _, _, rfl, rfl⟩, rfl⟩; exact Nat.le_of_ble_eq_true (by kernel_rfl))) (by kernel_rfl) (by kernel_rfl) (by kernel_rfl) ?_)
  rintro _ _ ⟨_, _, ⟨_, ⟨n_1, xs_2, vs_3, p1_4, h1_5, f6, f7, f8, rfl, rfl⟩, rfl⟩, rfl, rfl⟩
  refine R.go 7 (R.callX (CallX.inF 2 usC frC (CallX.box 2 43 [AI 0, .nil, .nil] (nextX_c_r3c c p1_4 h1_5 50 eo1 so1 no1 co1 43 3 1 [AI 0, .nil, .nil] 2 1 vs_3.length (rows eI vs_3) 43 n_1 xs_2 hc) (by kernel_rfl) (by kernel_rfl) (by kernel_rfl) (by kernel_rfl) (by rintro _ _ ⟨_, _, _, _, rfl, rfl⟩; exact ⟨by kernel_rfl, by kernel_rfl, by kernel_rfl⟩)) (Nat.le_of_ble_eq_true (by kernel_rfl)) (by kernel_rfl) (by kernel_rfl) (by rintro _ _ ⟨_, ⟨_, _, _, _, rfl, rfl⟩, rfl⟩; exact Nat.le_of_ble_eq_true (by kernel_rfl))) (by kernel_rfl) (by kernel_rfl) (by kernel_rfl) ?_)
  rintro _ _ ⟨_, _, ⟨_, ⟨v_9, p1_10, h1_11, f12, rfl, rfl⟩, rfl⟩, rfl, rfl⟩
  refine R.go 7 (R.cond (v_9 = 0) (by kernel_rfl) (fun c13 => ?_) (fun c13 => ?_))
  · refine R.go 1 (R.frz 4 (by kernel_rfl) ?_)
    refine R.kfix 2 (us := usC) (by kernel_rfl) (hfC.frz 4 (LI vs_3) (Nat.le_of_ble_eq_true (by kernel_rfl))) ?_
    refine R.go 2 (R.deadF 4 (by kernel_rfl) (by kernel_rfl) ?_)
    refine R.callX (CallX.inF 2 usC frC (CallX.inF 3 [] [] (CallX.box 3 43 [AI n_1, LI xs_2, LI vs_3] (CallX.box 2 43 [AI 0, .nil, .nil] (frameX_c_r3 c p1_10 h1_11 worlds eo1 so1 no1 co1 43 3 1 [AI 0, .nil, .nil] 43 3 1 [AI n_1, LI xs_2, LI vs_3] hc hw) (by kernel_rfl) (by kernel_rfl) (by kernel_rfl) (by kernel_rfl) (by rintro _ _ ⟨_, _, _, _, _, rfl, rfl⟩; exact ⟨by kernel_rfl, by kernel_rfl, by kernel_rfl⟩)) (by kernel_rfl) (by kernel_rfl) (by kernel_rfl) (by kernel_rfl) (by rintro _ _ ⟨_, ⟨_, _, _, _, _, rfl, rfl⟩, rfl⟩; exact ⟨by kernel_rfl, by kernel_rfl, by kernel_rfl⟩)) (Nat.le_of_ble_eq_true (by kernel_rfl)) (by kernel_rfl) (by kernel_rfl) (by rintro _ _ ⟨_, ⟨_, ⟨_, _, _, _, _, rfl, rfl⟩, rfl⟩, rfl⟩; exact Nat.le_of_ble_eq_true (by kernel_rfl))) (Nat.le_of_ble_eq_true (by kernel_rfl)) (by kernel_rfl) (by kernel_rfl) (by rintro _ _ ⟨_, _, ⟨_, ⟨_, ⟨_, _, _, _, _, rfl, rfl⟩, rfl⟩, rfl⟩, rfl, rfl⟩; exact Nat.le_of_ble_eq_true (by kernel_rfl))) (by kernel_rfl) (by kernel_rfl) (by kernel_rfl) ?_
    rintro _ _ ⟨_, _, ⟨_, _, ⟨_, ⟨_, ⟨n_14, xs_15, p1_16, h1_17, f18, rfl, rfl⟩, rfl⟩, rfl⟩, rfl, rfl⟩, rfl, rfl⟩
    exact R.go 9 (R.retX (res := .agg [AI n_14, LI xs_15, LI vs_3]) (hp' := [.box 120 [LB c, AI (p1_16 : Int), .int .u64 h1_17], .list eo1 so1 no1 co1, .dead, .box 43 [AI n_14, LI xs_15, LI vs_3], .frame [] [], .box 43 [AI n_14, LI xs_15, LI vs_3]]) (by kernel_rfl) (by kernel_rfl) (by kernel_rfl) (by kernel_rfl) ⟨[0, 1], by kernel_rfl, by decide, n_14, xs_15, vs_3, p1_16, h1_17, by first | omega | (simp only [List.length_drop, List.length_set]; omega), by first | omega | (simp only [List.length_drop, List.length_set]; omega), by kernel_rfl, by kernel_rfl⟩)
  · refine R.go 5 (R.cond (v_9 = 1) (by kernel_rfl) (fun c19 => ?_) (fun c19 => ?_))
    · refine R.go 3 (R.frz 4 (by kernel_rfl) ?_)
      refine R.kfix 2 (us := usC) (by kernel_rfl) (hfC.frz 4 (LI vs_3) (Nat.le_of_ble_eq_true (by kernel_rfl))) ?_
      refine R.slL eI vs_3 1 1 (by kernel_rfl) rfl eI_len (by omega) (by kernel_rfl) ?_
      exact R.go 9 (R.retX (res := .agg [AI n_1, LI xs_2, LI (vs_3.drop 1)]) (hp' := [.box 120 [LB c, AI (p1_10 : Int), .int .u64 h1_11], .list eo1 so1 no1 co1, .dead, .box 43 [AI n_1, LI xs_2, LI (vs_3.drop 1)], .dead, .box 43 [AI n_1, LI xs_2, LI (vs_3.drop 1)]]) (by kernel_rfl) (by kernel_rfl) (by kernel_rfl) (by kernel_rfl) ⟨[0, 1], by kernel_rfl, by decide, n_1, xs_2, vs_3.drop 1, p1_10, h1_11, by first | omega | (simp only [List.length_drop, List.length_set]; omega), by first | omega | (simp only [List.length_drop, List.length_set]; omega), by kernel_rfl, by kernel_rfl⟩)
    · have hb : 1 ≤ shl64 1 n_1 ∧ shl64 1 n_1 ≤ 4611686018427387904 := shl_rng n_1 (by omega) (by omega)
      refine R.go 5 (R.cond (v_9 = 2) (by kernel_rfl) (fun c20 => ?_) (fun c20 => ?_))
      · refine R.any (by decide +kernel) (by kernel_rfl) ?_
        refine R.anyF 2 (by kernel_rfl) (np_retX _ _ _ _ _ _) ?_
        refine R.anyF 4 (by kernel_rfl) (np_retX _ _ _ _ _ _) ?_
        refine R.anyA 0 (.ptr 5 2) (by kernel_rfl) (np_retX _ _ _ _ _ _) ?_
        refine R.anyA 5 (.ptr 5 0) (by kernel_rfl) (np_retX _ _ _ _ _ _) ?_
        refine R.anyA 6 (.ptr 5 0) (by kernel_rfl) (np_retX _ _ _ _ _ _) ?_
        refine R.any3 1 3 7 (by kernel_rfl) (by kernel_rfl) ?_ ?_ ?_
        · refine R.go 2 (R.any2 3 7 (by kernel_rfl) (by kernel_rfl) ?_ ?_)
          · refine R.callX (CallX.inF 2 usC frC (CallX.box 2 43 [AI 0, .nil, .nil] (nextX_c_r3c c p1_10 h1_11 6 eo1 so1 no1 co1 43 3 1 [AI 0, .nil, .nil] 2 1 vs_3.length (rows eI vs_3) 43 n_1 xs_2 hc) (by kernel_rfl) (by kernel_rfl) (by kernel_rfl) (by kernel_rfl) (by rintro _ _ ⟨_, _, _, _, rfl, rfl⟩; exact ⟨by kernel_rfl, by kernel_rfl, by kernel_rfl⟩)) (Nat.le_of_ble_eq_true (by kernel_rfl)) (by kernel_rfl) (by kernel_rfl) (by rintro _ _ ⟨_, ⟨_, _, _, _, rfl, rfl⟩, rfl⟩; exact Nat.le_of_ble_eq_true (by kernel_rfl))) (by kernel_rfl) (by kernel_rfl) (by kernel_rfl) ?_
            rintro _ _ ⟨_, _, ⟨_, ⟨v_21, p1_22, h1_23, f24, rfl, rfl⟩, rfl⟩, rfl, rfl⟩
            refine R.go 1 (R.any1 7 (by kernel_rfl) (by kernel_rfl) ?_)
            refine R.go 2 (R.any1 8 (by kernel_rfl) (by kernel_rfl) ?_)
            refine R.call true (l01Full_c n_1 (by omega) (by omega)) (by kernel_rfl) rfl (by kernel_rfl) ?_
            refine R.go 1 (R.anyI 9 (AI (IntKind.i64.wrap (((shl64 1 n_1) - 1) + 1))) (by kernel_rfl) (np_retX _ _ _ _ _ _) ?_)
            refine R.any1 10 (by kernel_rfl) (by kernel_rfl) ?_
            refine R.lit (s := 1) (n := 2) (cs := rows eI [(-1), IntKind.i64.wrap (((shl64 1 n_1) - 1) + 1)]) (by kernel_rfl) (by kernel_rfl) ?_
            refine R.go 1 (R.any1 11 (by kernel_rfl) (by kernel_rfl) ?_)
            refine R.callX (CallX.inF 2 usC frC (CallX.box 2 43 [AI 0, .nil, .nil] (pickX_c_r3c c p1_22 h1_23 [(-1), IntKind.i64.wrap (((shl64 1 n_1) - 1) + 1)] eo1 so1 no1 co1 43 3 1 [AI 0, .nil, .nil] 2 1 vs_3.length (rows eI vs_3) 43 n_1 xs_2 hc (by simp)) (by kernel_rfl) (by kernel_rfl) (by kernel_rfl) (by kernel_rfl) (by rintro _ _ ⟨_, _, _, rfl, rfl⟩; exact ⟨by kernel_rfl, by kernel_rfl, by kernel_rfl⟩)) (Nat.le_of_ble_eq_true (by kernel_rfl)) (by kernel_rfl) (by kernel_rfl) (by rintro _ _ ⟨_, ⟨_, _, _, rfl, rfl⟩, rfl⟩; exact Nat.le_of_ble_eq_true (by kernel_rfl))) (by kernel_rfl) (by kernel_rfl) (by kernel_rfl) ?_
            rintro _ _ ⟨_, _, ⟨_, ⟨v_25, p1_26, h1_27, rfl, rfl⟩, rfl⟩, rfl, rfl⟩
            refine R.go 1 (R.any1 12 (by kernel_rfl) (by kernel_rfl) ?_)
            refine R.idxO 4 1 vs_3.length ((v_21).toNat) v_21 (by kernel_rfl) (by omega) (by omega) (by kernel_rfl) ?_
            refine R.go 1 (R.any1 13 (by kernel_rfl) (by kernel_rfl) ?_)
            refine R.stI 4 2 vs_3 ((v_21).toNat) v_25 (by kernel_rfl) (by omega) (by kernel_rfl) ?_
            refine R.go 1 (R.any0 (by kernel_rfl) ?_)
            refine R.go 6 (R.frz 4 (by kernel_rfl) ?_)
            refine R.kfix 2 (us := usC) (by kernel_rfl) (hfC.frz 4 (LI (vs_3.set ((v_21).toNat) v_25)) (Nat.le_of_ble_eq_true (by kernel_rfl))) ?_
            exact R.retX (res := .agg [AI n_1, LI xs_2, LI (vs_3.set ((v_21).toNat) v_25)]) (hp' := [.box 120 [LB c, AI (p1_26 : Int), .int .u64 h1_27], .list eo1 so1 no1 co1, .dead, .box 43 [AI n_1, LI xs_2, LI (vs_3.set ((v_21).toNat) v_25)], .dead, .box 43 [AI n_1, LI xs_2, LI (vs_3.set ((v_21).toNat) v_25)]]) (by kernel_rfl) (by kernel_rfl) (by kernel_rfl) (by kernel_rfl) ⟨[0, 1], by kernel_rfl, by decide, n_1, xs_2, vs_3.set ((v_21).toNat) v_25, p1_26, h1_27, by first | omega | (simp only [List.length_drop, List.length_set]; omega), by first | omega | (simp only [List.length_drop, List.length_set]; omega), by kernel_rfl, by kernel_rfl⟩
          · refine R.go 2 (R.any1 3 (by kernel_rfl) (by kernel_rfl) ?_)
            refine R.callX (CallX.inF 2 usC frC (CallX.box 2 43 [AI 0, .nil, .nil] (nextX_c_r3c c p1_10 h1_11 6 eo1 so1 no1 co1 43 3 1 [AI 0, .nil, .nil] 2 1 vs_3.length (rows eI vs_3) 43 n_1 xs_2 hc) (by kernel_rfl) (by kernel_rfl) (by kernel_rfl) (by kernel_rfl) (by rintro _ _ ⟨_, _, _, _, rfl, rfl⟩; exact ⟨by kernel_rfl, by kernel_rfl, by kernel_rfl⟩)) (Nat.le_of_ble_eq_true (by kernel_rfl)) (by kernel_rfl) (by kernel_rfl) (by rintro _ _ ⟨_, ⟨_, _, _, _, rfl, rfl⟩, rfl⟩; exact Nat.le_of_ble_eq_true (by kernel_rfl))) (by kernel_rfl) (by kernel_rfl) (by kernel_rfl) ?_
            rintro _ _ ⟨_, _, ⟨_, ⟨v_28, p1_29, h1_30, f31, rfl, rfl⟩, rfl⟩, rfl, rfl⟩
            refine R.go 1 (R.any1 8 (by kernel_rfl) (by kernel_rfl) ?_)
            refine R.call true (l01Full_c n_1 (by omega) (by omega)) (by kernel_rfl) rfl (by kernel_rfl) ?_
            refine R.go 1 (R.anyI 9 (AI (IntKind.i64.wrap (((shl64 1 n_1) - 1) + 1))) (by kernel_rfl) (np_retX _ _ _ _ _ _) ?_)
            refine R.any1 10 (by kernel_rfl) (by kernel_rfl) ?_
            refine R.lit (s := 1) (n := 2) (cs := rows eI [(-1), IntKind.i64.wrap (((shl64 1 n_1) - 1) + 1)]) (by kernel_rfl) (by kernel_rfl) ?_
            refine R.go 1 (R.any1 11 (by kernel_rfl) (by kernel_rfl) ?_)
            refine R.callX (CallX.inF 2 usC frC (CallX.box 2 43 [AI 0, .nil, .nil] (pickX_c_r3c c p1_29 h1_30 [(-1), IntKind.i64.wrap (((shl64 1 n_1) - 1) + 1)] eo1 so1 no1 co1 43 3 1 [AI 0, .nil, .nil] 2 1 vs_3.length (rows eI vs_3) 43 n_1 xs_2 hc (by simp)) (by kernel_rfl) (by kernel_rfl) (by kernel_rfl) (by kernel_rfl) (by rintro _ _ ⟨_, _, _, rfl, rfl⟩; exact ⟨by kernel_rfl, by kernel_rfl, by kernel_rfl⟩)) (Nat.le_of_ble_eq_true (by kernel_rfl)) (by kernel_rfl) (by kernel_rfl) (by rintro _ _ ⟨_, ⟨_, _, _, rfl, rfl⟩, rfl⟩; exact Nat.le_of_ble_eq_true (by kernel_rfl))) (by kernel_rfl) (by kernel_rfl) (by kernel_rfl) ?_
            rintro _ _ ⟨_, _, ⟨_, ⟨v_32, p1_33, h1_34, rfl, rfl⟩, rfl⟩, rfl, rfl⟩
            refine R.go 1 (R.any1 12 (by kernel_rfl) (by kernel_rfl) ?_)
            refine R.idxO 4 1 vs_3.length ((v_28).toNat) v_28 (by kernel_rfl) (by omega) (by omega) (by kernel_rfl) ?_
            refine R.go 1 (R.any1 13 (by kernel_rfl) (by kernel_rfl) ?_)
            refine R.stI 4 2 vs_3 ((v_28).toNat) v_32 (by kernel_rfl) (by omega) (by kernel_rfl) ?_
            refine R.go 1 (R.any0 (by kernel_rfl) ?_)
            refine R.go 6 (R.frz 4 (by kernel_rfl) ?_)
            refine R.kfix 2 (us := usC) (by kernel_rfl) (hfC.frz 4 (LI (vs_3.set ((v_28).toNat) v_32)) (Nat.le_of_ble_eq_true (by kernel_rfl))) ?_
            exact R.retX (res := .agg [AI n_1, LI xs_2, LI (vs_3.set ((v_28).toNat) v_32)]) (hp' := [.box 120 [LB c, AI (p1_33 : Int), .int .u64 h1_34], .list eo1 so1 no1 co1, .dead, .box 43 [AI n_1, LI xs_2, LI (vs_3.set ((v_28).toNat) v_32)], .dead, .box 43 [AI n_1, LI xs_2, LI (vs_3.set ((v_28).toNat) v_32)]]) (by kernel_rfl) (by kernel_rfl) (by kernel_rfl) (by kernel_rfl) ⟨[0, 1], by kernel_rfl, by decide, n_1, xs_2, vs_3.set ((v_28).toNat) v_32, p1_33, h1_34, by first | omega | (simp only [List.length_drop, List.length_set]; omega), by first | omega | (simp only [List.length_drop, List.length_set]; omega), by kernel_rfl, by kernel_rfl⟩
        · refine R.callX (CallX.inF 2 usC frC (CallX.box 2 43 [AI 0, .nil, .nil] (nextX_c_r3c c p1_10 h1_11 6 eo1 so1 no1 co1 43 3 1 [AI 0, .nil, .nil] 2 1 vs_3.length (rows eI vs_3) 43 n_1 xs_2 hc) (by kernel_rfl) (by kernel_rfl) (by kernel_rfl) (by kernel_rfl) (by rintro _ _ ⟨_, _, _, _, rfl, rfl⟩; exact ⟨by kernel_rfl, by kernel_rfl, by kernel_rfl⟩)) (Nat.le_of_ble_eq_true (by kernel_rfl)) (by kernel_rfl) (by kernel_rfl) (by rintro _ _ ⟨_, ⟨_, _, _, _, rfl, rfl⟩, rfl⟩; exact Nat.le_of_ble_eq_true (by kernel_rfl))) (by kernel_rfl) (by kernel_rfl) (by kernel_rfl) ?_
          rintro _ _ ⟨_, _, ⟨_, ⟨v_35, p1_36, h1_37, f38, rfl, rfl⟩, rfl⟩, rfl, rfl⟩
          refine R.go 1 (R.any2 1 7 (by kernel_rfl) (by kernel_rfl) ?_ ?_)
          · refine R.go 2 (R.any1 7 (by kernel_rfl) (by kernel_rfl) ?_)
            refine R.go 2 (R.any1 8 (by kernel_rfl) (by kernel_rfl) ?_)
            refine R.call true (l01Full_c n_1 (by omega) (by omega)) (by kernel_rfl) rfl (by kernel_rfl) ?_
            refine R.go 1 (R.anyI 9 (AI (IntKind.i64.wrap (((shl64 1 n_1) - 1) + 1))) (by kernel_rfl) (np_retX _ _ _ _ _ _) ?_)
            refine R.any1 10 (by kernel_rfl) (by kernel_rfl) ?_
            refine R.lit (s := 1) (n := 2) (cs := rows eI [(-1), IntKind.i64.wrap (((shl64 1 n_1) - 1) + 1)]) (by kernel_rfl) (by kernel_rfl) ?_
            refine R.go 1 (R.any1 11 (by kernel_rfl) (by kernel_rfl) ?_)
            refine R.callX (CallX.inF 2 usC frC (CallX.box 2 43 [AI 0, .nil, .nil] (pickX_c_r3c c p1_36 h1_37 [(-1), IntKind.i64.wrap (((shl64 1 n_1) - 1) + 1)] eo1 so1 no1 co1 43 3 1 [AI 0, .nil, .nil] 2 1 vs_3.length (rows eI vs_3) 43 n_1 xs_2 hc (by simp)) (by kernel_rfl) (by kernel_rfl) (by kernel_rfl) (by kernel_rfl) (by rintro _ _ ⟨_, _, _, rfl, rfl⟩; exact ⟨by kernel_rfl, by kernel_rfl, by kernel_rfl⟩)) (Nat.le_of_ble_eq_true (by kernel_rfl)) (by kernel_rfl) (by kernel_rfl) (by rintro _ _ ⟨_, ⟨_, _, _, rfl, rfl⟩, rfl⟩; exact Nat.le_of_ble_eq_true (by kernel_rfl))) (by kernel_rfl) (by kernel_rfl) (by kernel_rfl) ?_
            rintro _ _ ⟨_, _, ⟨_, ⟨v_39, p1_40, h1_41, rfl, rfl⟩, rfl⟩, rfl, rfl⟩
            refine R.go 1 (R.any1 12 (by kernel_rfl) (by kernel_rfl) ?_)
            refine R.idxO 4 1 vs_3.length ((v_35).toNat) v_35 (by kernel_rfl) (by omega) (by omega) (by kernel_rfl) ?_
            refine R.go 1 (R.any1 13 (by kernel_rfl) (by kernel_rfl) ?_)
            refine R.stI 4 2 vs_3 ((v_35).toNat) v_39 (by kernel_rfl) (by omega) (by kernel_rfl) ?_
            refine R.go 1 (R.any0 (by kernel_rfl) ?_)
            refine R.go 6 (R.frz 4 (by kernel_rfl) ?_)
            refine R.kfix 2 (us := usC) (by kernel_rfl) (hfC.frz 4 (LI (vs_3.set ((v_35).toNat) v_39)) (Nat.le_of_ble_eq_true (by kernel_rfl))) ?_
            exact R.retX (res := .agg [AI n_1, LI xs_2, LI (vs_3.set ((v_35).toNat) v_39)]) (hp' := [.box 120 [LB c, AI (p1_40 : Int), .int .u64 h1_41], .list eo1 so1 no1 co1, .dead, .box 43 [AI n_1, LI xs_2, LI (vs_3.set ((v_35).toNat) v_39)], .dead, .box 43 [AI n_1, LI xs_2, LI (vs_3.set ((v_35).toNat) v_39)]]) (by kernel_rfl) (by kernel_rfl) (by kernel_rfl) (by kernel_rfl) ⟨[0, 1], by kernel_rfl, by decide, n_1, xs_2, vs_3.set ((v_35).toNat) v_39, p1_40, h1_41, by first | omega | (simp only [List.length_drop, List.length_set]; omega), by first | omega | (simp only [List.length_drop, List.length_set]; omega), by kernel_rfl, by kernel_rfl⟩
          · refine R.go 2 (R.any2 1 8 (by kernel_rfl) (by kernel_rfl) ?_ ?_)
            · refine R.go 2 (R.any1 8 (by kernel_rfl) (by kernel_rfl) ?_)
              refine R.call true (l01Full_c n_1 (by omega) (by omega)) (by kernel_rfl) rfl (by kernel_rfl) ?_
              refine R.go 1 (R.anyI 9 (AI (IntKind.i64.wrap (((shl64 1 n_1) - 1) + 1))) (by kernel_rfl) (np_retX _ _ _ _ _ _) ?_)
              refine R.any1 10 (by kernel_rfl) (by kernel_rfl) ?_
              refine R.lit (s := 1) (n := 2) (cs := rows eI [(-1), IntKind.i64.wrap (((shl64 1 n_1) - 1) + 1)]) (by kernel_rfl) (by kernel_rfl) ?_
              refine R.go 1 (R.any1 11 (by kernel_rfl) (by kernel_rfl) ?_)
              refine R.callX (CallX.inF 2 usC frC (CallX.box 2 43 [AI 0, .nil, .nil] (pickX_c_r3c c p1_36 h1_37 [(-1), IntKind.i64.wrap (((shl64 1 n_1) - 1) + 1)] eo1 so1 no1 co1 43 3 1 [AI 0, .nil, .nil] 2 1 vs_3.length (rows eI vs_3) 43 n_1 xs_2 hc (by simp)) (by kernel_rfl) (by kernel_rfl) (by kernel_rfl) (by kernel_rfl) (by rintro _ _ ⟨_, _, _, rfl, rfl⟩; exact ⟨by kernel_rfl, by kernel_rfl, by kernel_rfl⟩)) (Nat.le_of_ble_eq_true (by kernel_rfl)) (by kernel_rfl) (by kernel_rfl) (by rintro _ _ ⟨_, ⟨_, _, _, rfl, rfl⟩, rfl⟩; exact Nat.le_of_ble_eq_true (by kernel_rfl))) (by kernel_rfl) (by kernel_rfl) (by kernel_rfl) ?_
              rintro _ _ ⟨_, _, ⟨_, ⟨v_42, p1_43, h1_44, rfl, rfl⟩, rfl⟩, rfl, rfl⟩
              refine R.go 1 (R.any1 12 (by kernel_rfl) (by kernel_rfl) ?_)
              refine R.idxO 4 1 vs_3.length ((v_35).toNat) v_35 (by kernel_rfl) (by omega) (by omega) (by kernel_rfl) ?_
              refine R.go 1 (R.any1 13 (by kernel_rfl) (by kernel_rfl) ?_)
              refine R.stI 4 2 vs_3 ((v_35).toNat) v_42 (by kernel_rfl) (by omega) (by kernel_rfl) ?_
              refine R.go 1 (R.any0 (by kernel_rfl) ?_)
              refine R.go 6 (R.frz 4 (by kernel_rfl) ?_)
              refine R.kfix 2 (us := usC) (by kernel_rfl) (hfC.frz 4 (LI (vs_3.set ((v_35).toNat) v_42)) (Nat.le_of_ble_eq_true (by kernel_rfl))) ?_
              exact R.retX (res := .agg [AI n_1, LI xs_2, LI (vs_3.set ((v_35).toNat) v_42)]) (hp' := [.box 120 [LB c, AI (p1_43 : Int), .int .u64 h1_44], .list eo1 so1 no1 co1, .dead, .box 43 [AI n_1, LI xs_2, LI (vs_3.set ((v_35).toNat) v_42)], .dead, .box 43 [AI n_1, LI xs_2, LI (vs_3.set ((v_35).toNat) v_42)]]) (by kernel_rfl) (by kernel_rfl) (by kernel_rfl) (by kernel_rfl) ⟨[0, 1], by kernel_rfl, by decide, n_1, xs_2, vs_3.set ((v_35).toNat) v_42, p1_43, h1_44, by first | omega | (simp only [List.length_drop, List.length_set]; omega), by first | omega | (simp only [List.length_drop, List.length_set]; omega), by kernel_rfl, by kernel_rfl⟩
            · refine R.call true (l01Full_c n_1 (by omega) (by omega)) (by kernel_rfl) rfl (by kernel_rfl) ?_
              refine R.go 1 (R.anyI 9 (AI (IntKind.i64.wrap (((shl64 1 n_1) - 1) + 1))) (by kernel_rfl) (np_retX _ _ _ _ _ _) ?_)
              refine R.any2 1 10 (by kernel_rfl) (by kernel_rfl) ?_ ?_
              · refine R.go 2 (R.any1 10 (by kernel_rfl) (by kernel_rfl) ?_)
                refine R.lit (s := 1) (n := 2) (cs := rows eI [(-1), IntKind.i64.wrap (((shl64 1 n_1) - 1) + 1)]) (by kernel_rfl) (by kernel_rfl) ?_
                refine R.go 1 (R.any1 11 (by kernel_rfl) (by kernel_rfl) ?_)
                refine R.callX (CallX.inF 2 usC frC (CallX.box 2 43 [AI 0, .nil, .nil] (pickX_c_r3c c p1_36 h1_37 [(-1), IntKind.i64.wrap (((shl64 1 n_1) - 1) + 1)] eo1 so1 no1 co1 43 3 1 [AI 0, .nil, .nil] 2 1 vs_3.length (rows eI vs_3) 43 n_1 xs_2 hc (by simp)) (by kernel_rfl) (by kernel_rfl) (by kernel_rfl) (by kernel_rfl) (by rintro _ _ ⟨_, _, _, rfl, rfl⟩; exact ⟨by kernel_rfl, by kernel_rfl, by kernel_rfl⟩)) (Nat.le_of_ble_eq_true (by kernel_rfl)) (by kernel_rfl) (by kernel_rfl) (by rintro _ _ ⟨_, ⟨_, _, _, rfl, rfl⟩, rfl⟩; exact Nat.le_of_ble_eq_true (by kernel_rfl))) (by kernel_rfl) (by kernel_rfl) (by kernel_rfl) ?_
                rintro _ _ ⟨_, _, ⟨_, ⟨v_45, p1_46, h1_47, rfl, rfl⟩, rfl⟩, rfl, rfl⟩
                refine R.go 1 (R.any1 12 (by kernel_rfl) (by kernel_rfl) ?_)
                refine R.idxO 4 1 vs_3.length ((v_35).toNat) v_35 (by kernel_rfl) (by omega) (by omega) (by kernel_rfl) ?_
                refine R.go 1 (R.any1 13 (by kernel_rfl) (by kernel_rfl) ?_)
                refine R.stI 4 2 vs_3 ((v_35).toNat) v_45 (by kernel_rfl) (by omega) (by kernel_rfl) ?_
                refine R.go 1 (R.any0 (by kernel_rfl) ?_)
                refine R.go 6 (R.frz 4 (by kernel_rfl) ?_)
                refine R.kfix 2 (us := usC) (by kernel_rfl) (hfC.frz 4 (LI (vs_3.set ((v_35).toNat) v_45)) (Nat.le_of_ble_eq_true (by kernel_rfl))) ?_
                exact R.retX (res := .agg [AI n_1, LI xs_2, LI (vs_3.set ((v_35).toNat) v_45)]) (hp' := [.box 120 [LB c, AI (p1_46 : Int), .int .u64 h1_47], .list eo1 so1 no1 co1, .dead, .box 43 [AI n_1, LI xs_2, LI (vs_3.set ((v_35).toNat) v_45)], .dead, .box 43 [AI n_1, LI xs_2, LI (vs_3.set ((v_35).toNat) v_45)]]) (by kernel_rfl) (by kernel_rfl) (by kernel_rfl) (by kernel_rfl) ⟨[0, 1], by kernel_rfl, by decide, n_1, xs_2, vs_3.set ((v_35).toNat) v_45, p1_46, h1_47, by first | omega | (simp only [List.length_drop, List.length_set]; omega), by first | omega | (simp only [List.length_drop, List.length_set]; omega), by kernel_rfl, by kernel_rfl⟩
              · refine R.lit (s := 1) (n := 2) (cs := rows eI [(-1), IntKind.i64.wrap (((shl64 1 n_1) - 1) + 1)]) (by kernel_rfl) (by kernel_rfl) ?_
                refine R.go 1 (R.any2 1 11 (by kernel_rfl) (by kernel_rfl) ?_ ?_)
                · refine R.go 2 (R.any1 11 (by kernel_rfl) (by kernel_rfl) ?_)
                  refine R.callX (CallX.inF 2 usC frC (CallX.box 2 43 [AI 0, .nil, .nil] (pickX_c_r3c c p1_36 h1_37 [(-1), IntKind.i64.wrap (((shl64 1 n_1) - 1) + 1)] eo1 so1 no1 co1 43 3 1 [AI 0, .nil, .nil] 2 1 vs_3.length (rows eI vs_3) 43 n_1 xs_2 hc (by simp)) (by kernel_rfl) (by kernel_rfl) (by kernel_rfl) (by kernel_rfl) (by rintro _ _ ⟨_, _, _, rfl, rfl⟩; exact ⟨by kernel_rfl, by kernel_rfl, by kernel_rfl⟩)) (Nat.le_of_ble_eq_true (by kernel_rfl)) (by kernel_rfl) (by kernel_rfl) (by rintro _ _ ⟨_, ⟨_, _, _, rfl, rfl⟩, rfl⟩; exact Nat.le_of_ble_eq_true (by kernel_rfl))) (by kernel_rfl) (by kernel_rfl) (by kernel_rfl) ?_
                  rintro _ _ ⟨_, _, ⟨_, ⟨v_48, p1_49, h1_50, rfl, rfl⟩, rfl⟩, rfl, rfl⟩
                  refine R.go 1 (R.any1 12 (by kernel_rfl) (by kernel_rfl) ?_)
                  refine R.idxO 4 1 vs_3.length ((v_35).toNat) v_35 (by kernel_rfl) (by omega) (by omega) (by kernel_rfl) ?_
                  refine R.go 1 (R.any1 13 (by kernel_rfl) (by kernel_rfl) ?_)
                  refine R.stI 4 2 vs_3 ((v_35).toNat) v_48 (by kernel_rfl) (by omega) (by kernel_rfl) ?_
                  refine R.go 1 (R.any0 (by kernel_rfl) ?_)
                  refine R.go 6 (R.frz 4 (by kernel_rfl) ?_)
                  refine R.kfix 2 (us := usC) (by kernel_rfl) (hfC.frz 4 (LI (vs_3.set ((v_35).toNat) v_48)) (Nat.le_of_ble_eq_true (by kernel_rfl))) ?_
                  exact R.retX (res := .agg [AI n_1, LI xs_2, LI (vs_3.set ((v_35).toNat) v_48)]) (hp' := [.box 120 [LB c, AI (p1_49 : Int), .int .u64 h1_50], .list eo1 so1 no1 co1, .dead, .box 43 [AI n_1, LI xs_2, LI (vs_3.set ((v_35).toNat) v_48)], .dead, .box 43 [AI n_1, LI xs_2, LI (vs_3.set ((v_35).toNat) v_48)]]) (by kernel_rfl) (by kernel_rfl) (by kernel_rfl) (by kernel_rfl) ⟨[0, 1], by kernel_rfl, by decide, n_1, xs_2, vs_3.set ((v_35).toNat) v_48, p1_49, h1_50, by first | omega | (simp only [List.length_drop, List.length_set]; omega), by first | omega | (simp only [List.length_drop, List.length_set]; omega), by kernel_rfl, by kernel_rfl⟩
                · refine R.callX (CallX.inF 2 usC frC (CallX.box 2 43 [AI 0, .nil, .nil] (pickX_c_r3c c p1_36 h1_37 [(-1), IntKind.i64.wrap (((shl64 1 n_1) - 1) + 1)] eo1 so1 no1 co1 43 3 1 [AI 0, .nil, .nil] 2 1 vs_3.length (rows eI vs_3) 43 n_1 xs_2 hc (by simp)) (by kernel_rfl) (by kernel_rfl) (by kernel_rfl) (by kernel_rfl) (by rintro _ _ ⟨_, _, _, rfl, rfl⟩; exact ⟨by kernel_rfl, by kernel_rfl, by kernel_rfl⟩)) (Nat.le_of_ble_eq_true (by kernel_rfl)) (by kernel_rfl) (by kernel_rfl) (by rintro _ _ ⟨_, ⟨_, _, _, rfl, rfl⟩, rfl⟩; exact Nat.le_of_ble_eq_true (by kernel_rfl))) (by kernel_rfl) (by kernel_rfl) (by kernel_rfl) ?_
                  rintro _ _ ⟨_, _, ⟨_, ⟨v_51, p1_52, h1_53, rfl, rfl⟩, rfl⟩, rfl, rfl⟩
                  refine R.go 1 (R.any1 1 (by kernel_rfl) (by kernel_rfl) ?_)
                  refine R.go 2 (R.any1 12 (by kernel_rfl) (by kernel_rfl) ?_)
                  refine R.idxO 4 1 vs_3.length ((v_35).toNat) v_35 (by kernel_rfl) (by omega) (by omega) (by kernel_rfl) ?_
                  refine R.go 1 (R.any1 13 (by kernel_rfl) (by kernel_rfl) ?_)
                  refine R.stI 4 2 vs_3 ((v_35).toNat) v_51 (by kernel_rfl) (by omega) (by kernel_rfl) ?_
                  refine R.go 1 (R.any0 (by kernel_rfl) ?_)
                  refine R.go 6 (R.frz 4 (by kernel_rfl) ?_)
                  refine R.kfix 2 (us := usC) (by kernel_rfl) (hfC.frz 4 (LI (vs_3.set ((v_35).toNat) v_51)) (Nat.le_of_ble_eq_true (by kernel_rfl))) ?_
                  exact R.retX (res := .agg [AI n_1, LI xs_2, LI (vs_3.set ((v_35).toNat) v_51)]) (hp' := [.box 120 [LB c, AI (p1_52 : Int), .int .u64 h1_53], .list eo1 so1 no1 co1, .dead, .box 43 [AI n_1, LI xs_2, LI (vs_3.set ((v_35).toNat) v_51)], .dead, .box 43 [AI n_1, LI xs_2, LI (vs_3.set ((v_35).toNat) v_51)]]) (by kernel_rfl) (by kernel_rfl) (by kernel_rfl) (by kernel_rfl) ⟨[0, 1], by kernel_rfl, by decide, n_1, xs_2, vs_3.set ((v_35).toNat) v_51, p1_52, h1_53, by first | omega | (simp only [List.length_drop, List.length_set]; omega), by first | omega | (simp only [List.length_drop, List.length_set]; omega), by kernel_rfl, by kernel_rfl⟩
        · refine R.go 2 (R.any2 1 3 (by kernel_rfl) (by kernel_rfl) ?_ ?_)
          · refine R.go 2 (R.any1 3 (by kernel_rfl) (by kernel_rfl) ?_)
            refine R.callX (CallX.inF 2 usC frC (CallX.box 2 43 [AI 0, .nil, .nil] (nextX_c_r3c c p1_10 h1_11 6 eo1 so1 no1 co1 43 3 1 [AI 0, .nil, .nil] 2 1 vs_3.length (rows eI vs_3) 43 n_1 xs_2 hc) (by kernel_rfl) (by kernel_rfl) (by kernel_rfl) (by kernel_rfl) (by rintro _ _ ⟨_, _, _, _, rfl, rfl⟩; exact ⟨by kernel_rfl, by kernel_rfl, by kernel_rfl⟩)) (Nat.le_of_ble_eq_true (by kernel_rfl)) (by kernel_rfl) (by kernel_rfl) (by rintro _ _ ⟨_, ⟨_, _, _, _, rfl, rfl⟩, rfl⟩; exact Nat.le_of_ble_eq_true (by kernel_rfl))) (by kernel_rfl) (by kernel_rfl) (by kernel_rfl) ?_
            rintro _ _ ⟨_, _, ⟨_, ⟨v_54, p1_55, h1_56, f57, rfl, rfl⟩, rfl⟩, rfl, rfl⟩
            refine R.go 1 (R.any1 8 (by kernel_rfl) (by kernel_rfl) ?_)
            refine R.call true (l01Full_c n_1 (by omega) (by omega)) (by kernel_rfl) rfl (by kernel_rfl) ?_
            refine R.go 1 (R.anyI 9 (AI (IntKind.i64.wrap (((shl64 1 n_1) - 1) + 1))) (by kernel_rfl) (np_retX _ _ _ _ _ _) ?_)
            refine R.any1 10 (by kernel_rfl) (by kernel_rfl) ?_
            refine R.lit (s := 1) (n := 2) (cs := rows eI [(-1), IntKind.i64.wrap (((shl64 1 n_1) - 1) + 1)]) (by kernel_rfl) (by kernel_rfl) ?_
            refine R.go 1 (R.any1 11 (by kernel_rfl) (by kernel_rfl) ?_)
            refine R.callX (CallX.inF 2 usC frC (CallX.box 2 43 [AI 0, .nil, .nil] (pickX_c_r3c c p1_55 h1_56 [(-1), IntKind.i64.wrap (((shl64 1 n_1) - 1) + 1)] eo1 so1 no1 co1 43 3 1 [AI 0, .nil, .nil] 2 1 vs_3.length (rows eI vs_3) 43 n_1 xs_2 hc (by simp)) (by kernel_rfl) (by kernel_rfl) (by kernel_rfl) (by kernel_rfl) (by rintro _ _ ⟨_, _, _, rfl, rfl⟩; exact ⟨by kernel_rfl, by kernel_rfl, by kernel_rfl⟩)) (Nat.le_of_ble_eq_true (by kernel_rfl)) (by kernel_rfl) (by kernel_rfl) (by rintro _ _ ⟨_, ⟨_, _, _, rfl, rfl⟩, rfl⟩; exact Nat.le_of_ble_eq_true (by kernel_rfl))) (by kernel_rfl) (by kernel_rfl) (by kernel_rfl) ?_
            rintro _ _ ⟨_, _, ⟨_, ⟨v_58, p1_59, h1_60, rfl, rfl⟩, rfl⟩, rfl, rfl⟩
            refine R.go 1 (R.any1 12 (by kernel_rfl) (by kernel_rfl) ?_)
            refine R.idxO 4 1 vs_3.length ((v_54).toNat) v_54 (by kernel_rfl) (by omega) (by omega) (by kernel_rfl) ?_
            refine R.go 1 (R.any1 13 (by kernel_rfl) (by kernel_rfl) ?_)
            refine R.stI 4 2 vs_3 ((v_54).toNat) v_58 (by kernel_rfl) (by omega) (by kernel_rfl) ?_
            refine R.go 1 (R.any0 (by kernel_rfl) ?_)
            refine R.go 6 (R.frz 4 (by kernel_rfl) ?_)
            refine R.kfix 2 (us := usC) (by kernel_rfl) (hfC.frz 4 (LI (vs_3.set ((v_54).toNat) v_58)) (Nat.le_of_ble_eq_true (by kernel_rfl))) ?_
            exact R.retX (res := .agg [AI n_1, LI xs_2, LI (vs_3.set ((v_54).toNat) v_58)]) (hp' := [.box 120 [LB c, AI (p1_59 : Int), .int .u64 h1_60], .list eo1 so1 no1 co1, .dead, .box 43 [AI n_1, LI xs_2, LI (vs_3.set ((v_54).toNat) v_58)], .dead, .box 43 [AI n_1, LI xs_2, LI (vs_3.set ((v_54).toNat) v_58)]]) (by kernel_rfl) (by kernel_rfl) (by kernel_rfl) (by kernel_rfl) ⟨[0, 1], by kernel_rfl, by decide, n_1, xs_2, vs_3.set ((v_54).toNat) v_58, p1_59, h1_60, by first | omega | (simp only [List.length_drop, List.length_set]; omega), by first | omega | (simp only [List.length_drop, List.length_set]; omega), by kernel_rfl, by kernel_rfl⟩
          · refine R.callX (CallX.inF 2 usC frC (CallX.box 2 43 [AI 0, .nil, .nil] (nextX_c_r3c c p1_10 h1_11 6 eo1 so1 no1 co1 43 3 1 [AI 0, .nil, .nil] 2 1 vs_3.length (rows eI vs_3) 43 n_1 xs_2 hc) (by kernel_rfl) (by kernel_rfl) (by kernel_rfl) (by kernel_rfl) (by rintro _ _ ⟨_, _, _, _, rfl, rfl⟩; exact ⟨by kernel_rfl, by kernel_rfl, by kernel_rfl⟩)) (Nat.le_of_ble_eq_true (by kernel_rfl)) (by kernel_rfl) (by kernel_rfl) (by rintro _ _ ⟨_, ⟨_, _, _, _, rfl, rfl⟩, rfl⟩; exact Nat.le_of_ble_eq_true (by kernel_rfl))) (by kernel_rfl) (by kernel_rfl) (by kernel_rfl) ?_
            rintro _ _ ⟨_, _, ⟨_, ⟨v_61, p1_62, h1_63, f64, rfl, rfl⟩, rfl⟩, rfl, rfl⟩
            refine R.go 1 (R.any2 1 8 (by kernel_rfl) (by kernel_rfl) ?_ ?_)
            · refine R.go 2 (R.any1 8 (by kernel_rfl) (by kernel_rfl) ?_)
              refine R.call true (l01Full_c n_1 (by omega) (by omega)) (by kernel_rfl) rfl (by kernel_rfl) ?_
              refine R.go 1 (R.anyI 9 (AI (IntKind.i64.wrap (((shl64 1 n_1) - 1) + 1))) (by kernel_rfl) (np_retX _ _ _ _ _ _) ?_)
              refine R.any1 10 (by kernel_rfl) (by kernel_rfl) ?_
              refine R.lit (s := 1) (n := 2) (cs := rows eI [(-1), IntKind.i64.wrap (((shl64 1 n_1) - 1) + 1)]) (by kernel_rfl) (by kernel_rfl) ?_
              refine R.go 1 (R.any1 11 (by kernel_rfl) (by kernel_rfl) ?_)
              refine R.callX (CallX.inF 2 usC frC (CallX.box 2 43 [AI 0, .nil, .nil] (pickX_c_r3c c p1_62 h1_63 [(-1), IntKind.i64.wrap (((shl64 1 n_1) - 1) + 1)] eo1 so1 no1 co1 43 3 1 [AI 0, .nil, .nil] 2 1 vs_3.length (rows eI vs_3) 43 n_1 xs_2 hc (by simp)) (by kernel_rfl) (by kernel_rfl) (by kernel_rfl) (by kernel_rfl) (by rintro _ _ ⟨_, _, _, rfl, rfl⟩; exact ⟨by kernel_rfl, by kernel_rfl, by kernel_rfl⟩)) (Nat.le_of_ble_eq_true (by kernel_rfl)) (by kernel_rfl) (by kernel_rfl) (by rintro _ _ ⟨_, ⟨_, _, _, rfl, rfl⟩, rfl⟩; exact Nat.le_of_ble_eq_true (by kernel_rfl))) (by kernel_rfl) (by kernel_rfl) (by kernel_rfl) ?_
              rintro _ _ ⟨_, _, ⟨_, ⟨v_65, p1_66, h1_67, rfl, rfl⟩, rfl⟩, rfl, rfl⟩
              refine R.go 1 (R.any1 12 (by kernel_rfl) (by kernel_rfl) ?_)
              refine R.idxO 4 1 vs_3.length ((v_61).toNat) v_61 (by kernel_rfl) (by omega) (by omega) (by kernel_rfl) ?_
              refine R.go 1 (R.any1 13 (by kernel_rfl) (by kernel_rfl) ?_)
              refine R.stI 4 2 vs_3 ((v_61).toNat) v_65 (by kernel_rfl) (by omega) (by kernel_rfl) ?_
              refine R.go 1 (R.any0 (by kernel_rfl) ?_)
              refine R.go 6 (R.frz 4 (by kernel_rfl) ?_)
              refine R.kfix 2 (us := usC) (by kernel_rfl) (hfC.frz 4 (LI (vs_3.set ((v_61).toNat) v_65)) (Nat.le_of_ble_eq_true (by kernel_rfl))) ?_
              exact R.retX (res := .agg [AI n_1, LI xs_2, LI (vs_3.set ((v_61).toNat) v_65)]) (hp' := [.box 120 [LB c, AI (p1_66 : Int), .int .u64 h1_67], .list eo1 so1 no1 co1, .dead, .box 43 [AI n_1, LI xs_2, LI (vs_3.set ((v_61).toNat) v_65)], .dead, .box 43 [AI n_1, LI xs_2, LI (vs_3.set ((v_61).toNat) v_65)]]) (by kernel_rfl) (by kernel_rfl) (by kernel_rfl) (by kernel_rfl) ⟨[0, 1], by kernel_rfl, by decide, n_1, xs_2, vs_3.set ((v_61).toNat) v_65, p1_66, h1_67, by first | omega | (simp only [List.length_drop, List.length_set]; omega), by first | omega | (simp only [List.length_drop, List.length_set]; omega), by kernel_rfl, by kernel_rfl⟩
            · refine R.call true (l01Full_c n_1 (by omega) (by omega)) (by kernel_rfl) rfl (by kernel_rfl) ?_
              refine R.go 1 (R.anyI 9 (AI (IntKind.i64.wrap (((shl64 1 n_1) - 1) + 1))) (by kernel_rfl) (np_retX _ _ _ _ _ _) ?_)
              refine R.any2 1 10 (by kernel_rfl) (by kernel_rfl) ?_ ?_
              · refine R.go 2 (R.any1 10 (by kernel_rfl) (by kernel_rfl) ?_)
                refine R.lit (s := 1) (n := 2) (cs := rows eI [(-1), IntKind.i64.wrap (((shl64 1 n_1) - 1) + 1)]) (by kernel_rfl) (by kernel_rfl) ?_
                refine R.go 1 (R.any1 11 (by kernel_rfl) (by kernel_rfl) ?_)
                refine R.callX (CallX.inF 2 usC frC (CallX.box 2 43 [AI 0, .nil, .nil] (pickX_c_r3c c p1_62 h1_63 [(-1), IntKind.i64.wrap (((shl64 1 n_1) - 1) + 1)] eo1 so1 no1 co1 43 3 1 [AI 0, .nil, .nil] 2 1 vs_3.length (rows eI vs_3) 43 n_1 xs_2 hc (by simp)) (by kernel_rfl) (by kernel_rfl) (by kernel_rfl) (by kernel_rfl) (by rintro _ _ ⟨_, _, _, rfl, rfl⟩; exact ⟨by kernel_rfl, by kernel_rfl, by kernel_rfl⟩)) (Nat.le_of_ble_eq_true (by kernel_rfl)) (by kernel_rfl) (by kernel_rfl) (by rintro _ _ ⟨_, ⟨_, _, _, rfl, rfl⟩, rfl⟩; exact Nat.le_of_ble_eq_true (by kernel_rfl))) (by kernel_rfl) (by kernel_rfl) (by kernel_rfl) ?_
                rintro _ _ ⟨_, _, ⟨_, ⟨v_68, p1_69, h1_70, rfl, rfl⟩, rfl⟩, rfl, rfl⟩
                refine R.go 1 (R.any1 12 (by kernel_rfl) (by kernel_rfl) ?_)
                refine R.idxO 4 1 vs_3.length ((v_61).toNat) v_61 (by kernel_rfl) (by omega) (by omega) (by kernel_rfl) ?_
                refine R.go 1 (R.any1 13 (by kernel_rfl) (by kernel_rfl) ?_)
                refine R.stI 4 2 vs_3 ((v_61).toNat) v_68 (by kernel_rfl) (by omega) (by kernel_rfl) ?_
                refine R.go 1 (R.any0 (by kernel_rfl) ?_)
                refine R.go 6 (R.frz 4 (by kernel_rfl) ?_)
                refine R.kfix 2 (us := usC) (by kernel_rfl) (hfC.frz 4 (LI (vs_3.set ((v_61).toNat) v_68)) (Nat.le_of_ble_eq_true (by kernel_rfl))) ?_
                exact R.retX (res := .agg [AI n_1, LI xs_2, LI (vs_3.set ((v_61).toNat) v_68)]) (hp' := [.box 120 [LB c, AI (p1_69 : Int), .int .u64 h1_70], .list eo1 so1 no1 co1, .dead, .box 43 [AI n_1, LI xs_2, LI (vs_3.set ((v_61).toNat) v_68)], .dead, .box 43 [AI n_1, LI xs_2, LI (vs_3.set ((v_61).toNat) v_68)]]) (by kernel_rfl) (by kernel_rfl) (by kernel_rfl) (by kernel_rfl) ⟨[0, 1], by kernel_rfl, by decide, n_1, xs_2, vs_3.set ((v_61).toNat) v_68, p1_69, h1_70, by first | omega | (simp only [List.length_drop, List.length_set]; omega), by first | omega | (simp only [List.length_drop, List.length_set]; omega), by kernel_rfl, by kernel_rfl⟩
              · refine R.lit (s := 1) (n := 2) (cs := rows eI [(-1), IntKind.i64.wrap (((shl64 1 n_1) - 1) + 1)]) (by kernel_rfl) (by kernel_rfl) ?_
                refine R.go 1 (R.any2 1 11 (by kernel_rfl) (by kernel_rfl) ?_ ?_)
                · refine R.go 2 (R.any1 11 (by kernel_rfl) (by kernel_rfl) ?_)
                  refine R.callX (CallX.inF 2 usC frC (CallX.box 2 43 [AI 0, .nil, .nil] (pickX_c_r3c c p1_62 h1_63 [(-1), IntKind.i64.wrap (((shl64 1 n_1) - 1) + 1)] eo1 so1 no1 co1 43 3 1 [AI 0, .nil, .nil] 2 1 vs_3.length (rows eI vs_3) 43 n_1 xs_2 hc (by simp)) (by kernel_rfl) (by kernel_rfl) (by kernel_rfl) (by kernel_rfl) (by rintro _ _ ⟨_, _, _, rfl, rfl⟩; exact ⟨by kernel_rfl, by kernel_rfl, by kernel_rfl⟩)) (Nat.le_of_ble_eq_true (by kernel_rfl)) (by kernel_rfl) (by kernel_rfl) (by rintro _ _ ⟨_, ⟨_, _, _, rfl, rfl⟩, rfl⟩; exact Nat.le_of_ble_eq_true (by kernel_rfl))) (by kernel_rfl) (by kernel_rfl) (by kernel_rfl) ?_
                  rintro _ _ ⟨_, _, ⟨_, ⟨v_71, p1_72, h1_73, rfl, rfl⟩, rfl⟩, rfl, rfl⟩
                  refine R.go 1 (R.any1 12 (by kernel_rfl) (by kernel_rfl) ?_)
                  refine R.idxO 4 1 vs_3.length ((v_61).toNat) v_61 (by kernel_rfl) (by omega) (by omega) (by kernel_rfl) ?_
                  refine R.go 1 (R.any1 13 (by kernel_rfl) (by kernel_rfl) ?_)
                  refine R.stI 4 2 vs_3 ((v_61).toNat) v_71 (by kernel_rfl) (by omega) (by kernel_rfl) ?_
                  refine R.go 1 (R.any0 (by kernel_rfl) ?_)
                  refine R.go 6 (R.frz 4 (by kernel_rfl) ?_)
                  refine R.kfix 2 (us := usC) (by kernel_rfl) (hfC.frz 4 (LI (vs_3.set ((v_61).toNat) v_71)) (Nat.le_of_ble_eq_true (by kernel_rfl))) ?_
                  exact R.retX (res := .agg [AI n_1, LI xs_2, LI (vs_3.set ((v_61).toNat) v_71)]) (hp' := [.box 120 [LB c, AI (p1_72 : Int), .int .u64 h1_73], .list eo1 so1 no1 co1, .dead, .box 43 [AI n_1, LI xs_2, LI (vs_3.set ((v_61).toNat) v_71)], .dead, .box 43 [AI n_1, LI xs_2, LI (vs_3.set ((v_61).toNat) v_71)]]) (by kernel_rfl) (by kernel_rfl) (by kernel_rfl) (by kernel_rfl) ⟨[0, 1], by kernel_rfl, by decide, n_1, xs_2, vs_3.set ((v_61).toNat) v_71, p1_72, h1_73, by first | omega | (simp only [List.length_drop, List.length_set]; omega), by first | omega | (simp only [List.length_drop, List.length_set]; omega), by kernel_rfl, by kernel_rfl⟩
                · refine R.callX (CallX.inF 2 usC frC (CallX.box 2 43 [AI 0, .nil, .nil] (pickX_c_r3c c p1_62 h1_63 [(-1), IntKind.i64.wrap (((shl64 1 n_1) - 1) + 1)] eo1 so1 no1 co1 43 3 1 [AI 0, .nil, .nil] 2 1 vs_3.length (rows eI vs_3) 43 n_1 xs_2 hc (by simp)) (by kernel_rfl) (by kernel_rfl) (by kernel_rfl) (by kernel_rfl) (by rintro _ _ ⟨_, _, _, rfl, rfl⟩; exact ⟨by kernel_rfl, by kernel_rfl, by kernel_rfl⟩)) (Nat.le_of_ble_eq_true (by kernel_rfl)) (by kernel_rfl) (by kernel_rfl) (by rintro _ _ ⟨_, ⟨_, _, _, rfl, rfl⟩, rfl⟩; exact Nat.le_of_ble_eq_true (by kernel_rfl))) (by kernel_rfl) (by kernel_rfl) (by kernel_rfl) ?_
                  rintro _ _ ⟨_, _, ⟨_, ⟨v_74, p1_75, h1_76, rfl, rfl⟩, rfl⟩, rfl, rfl⟩
                  refine R.go 1 (R.any1 1 (by kernel_rfl) (by kernel_rfl) ?_)
                  refine R.go 2 (R.any1 12 (by kernel_rfl) (by kernel_rfl) ?_)
                  refine R.idxO 4 1 vs_3.length ((v_61).toNat) v_61 (by kernel_rfl) (by omega) (by omega) (by kernel_rfl) ?_
                  refine R.go 1 (R.any1 13 (by kernel_rfl) (by kernel_rfl) ?_)
                  refine R.stI 4 2 vs_3 ((v_61).toNat) v_74 (by kernel_rfl) (by omega) (by kernel_rfl) ?_
                  refine R.go 1 (R.any0 (by kernel_rfl) ?_)
                  refine R.go 6 (R.frz 4 (by kernel_rfl) ?_)
                  refine R.kfix 2 (us := usC) (by kernel_rfl) (hfC.frz 4 (LI (vs_3.set ((v_61).toNat) v_74)) (Nat.le_of_ble_eq_true (by kernel_rfl))) ?_
                  exact R.retX (res := .agg [AI n_1, LI xs_2, LI (vs_3.set ((v_61).toNat) v_74)]) (hp' := [.box 120 [LB c, AI (p1_75 : Int), .int .u64 h1_76], .list eo1 so1 no1 co1, .dead, .box 43 [AI n_1, LI xs_2, LI (vs_3.set ((v_61).toNat) v_74)], .dead, .box 43 [AI n_1, LI xs_2, LI (vs_3.set ((v_61).toNat) v_74)]]) (by kernel_rfl) (by kernel_rfl) (by kernel_rfl) (by kernel_rfl) ⟨[0, 1], by kernel_rfl, by decide, n_1, xs_2, vs_3.set ((v_61).toNat) v_74, p1_75, h1_76, by first | omega | (simp only [List.length_drop, List.length_set]; omega), by first | omega | (simp only [List.length_drop, List.length_set]; omega), by kernel_rfl, by kernel_rfl⟩
      · refine R.go 7 (R.frz 4 (by kernel_rfl) ?_)
        refine R.kfix 2 (us := usC) (by kernel_rfl) (hfC.frz 4 (LI vs_3) (Nat.le_of_ble_eq_true (by kernel_rfl))) ?_
        exact R.retX (res := .agg [AI n_1, LI xs_2, LI vs_3]) (hp' := [.box 120 [LB c, AI (p1_10 : Int), .int .u64 h1_11], .list eo1 so1 no1 co1, .dead, .box 43 [AI n_1, LI xs_2, LI vs_3], .dead, .box 43 [AI n_1, LI xs_2, LI vs_3]]) (by kernel_rfl) (by kernel_rfl) (by kernel_rfl) (by kernel_rfl) ⟨[0, 1], by kernel_rfl, by decide, n_1, xs_2, vs_3, p1_10, h1_11, by first | omega | (simp only [List.length_drop, List.length_set]; omega), by first | omega | (simp only [List.length_drop, List.length_set]; omega), by kernel_rfl, by kernel_rfl⟩

end Go.Proofs.YtgebepfdphmjcaaGreat


/-! Draws of point formulas. -/
namespace Go.Proofs.YtgebepfdphmjcaaGreat
open Go.RowKit Go.Abs

theorem someT_c_r1 : ∀ (k : Nat) (c : List Int) (p : Nat) (h : Int) (size : Int) (vars : Int) (eo1 : Nat) (so1 : Nat) (no1 : Nat) (co1 : List AV) (hk : size.toNat = k) (hc : BY c) (hs : size ≤ 1000), CallX Tryz.prog 125 [.ptr 0 0, AI size, AI vars] [.box 120 [LB c, AI (p : Int), .int .u64 h], .list eo1 so1 no1 co1] (fun (resX : AV) (objX : List AObj) => ∃ r : List (Int × Int × Int), ∃ p1 : Nat, ∃ h1 : Int, (((r.length : Int) + 1 ≤ 2 * size ∨ r.length ≤ 1) ∧ 1 ≤ r.length) ∧ resX = LT r ∧ objX = [.box 120 [LB c, AI (p1 : Int), .int .u64 h1], .list eo1 so1 no1 co1]) := by
  intro k
  induction k using Nat.strongRecOn with
  | _ k ih =>
  intro c p h size vars eo1 so1 no1 co1 hk hc hs
  have hcl : c.length ≤ 4096 := hc.1
  have hcb := hc.2
  refine CallX.dropE (CallX.ofF Tryz.func125 rfl (by kernel_rfl) ?_)
  intro usC frC hfC
  refine R.go 10 (R.cond (size < 2) (by kernel_rfl) (fun c1 => ?_) (fun c1 => ?_))
  · refine R.go 4 (R.callX (CallX.inF 2 usC frC (nextX_c_r1 c p h 5 eo1 so1 no1 co1 hc) (Nat.le_of_ble_eq_true (by kernel_rfl)) (by kernel_rfl) (by kernel_rfl) (by rintro _ _ ⟨_, _, _, _, rfl, rfl⟩; exact Nat.le_of_ble_eq_true (by kernel_rfl))) (by kernel_rfl) (by kernel_rfl) (by kernel_rfl) ?_)
    rintro _ _ ⟨_, _, ⟨v_2, p1_3, h1_4, f5, rfl, rfl⟩, rfl, rfl⟩
    refine R.go 7 (R.cond (v_2 = 0) (by kernel_rfl) (fun c6 => ?_) (fun c6 => ?_))
    · refine R.go 4 (R.callX (CallX.inF 2 usC frC (nextX_c_r1 c p1_3 h1_4 vars eo1 so1 no1 co1 hc) (Nat.le_of_ble_eq_true (by kernel_rfl)) (by kernel_rfl) (by kernel_rfl) (by rintro _ _ ⟨_, _, _, _, rfl, rfl⟩; exact Nat.le_of_ble_eq_true (by kernel_rfl))) (by kernel_rfl) (by kernel_rfl) (by kernel_rfl) ?_)
      rintro _ _ ⟨_, _, ⟨v_7, p1_8, h1_9, f10, rfl, rfl⟩, rfl, rfl⟩
      refine R.go 2 (R.callX (CallX.inF 2 usC frC (nextX_c_r1 c p1_8 h1_9 vars eo1 so1 no1 co1 hc) (Nat.le_of_ble_eq_true (by kernel_rfl)) (by kernel_rfl) (by kernel_rfl) (by rintro _ _ ⟨_, _, _, _, rfl, rfl⟩; exact Nat.le_of_ble_eq_true (by kernel_rfl))) (by kernel_rfl) (by kernel_rfl) (by kernel_rfl) ?_)
      rintro _ _ ⟨_, _, ⟨v_11, p1_12, h1_13, f14, rfl, rfl⟩, rfl, rfl⟩
      refine R.call true (l10One_c 1 v_7 v_11).frz (by kernel_rfl) rfl (by kernel_rfl) ?_
      exact R.go 2 (R.retX (res := LT [(1, v_7, v_11)]) (hp' := [.box 120 [LB c, AI (p1_12 : Int), .int .u64 h1_13], .list eo1 so1 no1 co1, .dead]) (by kernel_rfl) (by kernel_rfl) (by kernel_rfl) (by kernel_rfl) ⟨[0, 1], by kernel_rfl, by decide, [(1, v_7, v_11)], p1_12, h1_13, by first | (simp; done) | (simp only [List.length_cons, List.length_append, List.length_nil]; omega), by kernel_rfl, by kernel_rfl⟩)
    · refine R.go 5 (R.cond (v_2 = 1) (by kernel_rfl) (fun c15 => ?_) (fun c15 => ?_))
      · refine R.go 3 (R.callX (CallX.inF 2 usC frC (nextX_c_r1 c p1_3 h1_4 2 eo1 so1 no1 co1 hc) (Nat.le_of_ble_eq_true (by kernel_rfl)) (by kernel_rfl) (by kernel_rfl) (by rintro _ _ ⟨_, _, _, _, rfl, rfl⟩; exact Nat.le_of_ble_eq_true (by kernel_rfl))) (by kernel_rfl) (by kernel_rfl) (by kernel_rfl) ?_)
        rintro _ _ ⟨_, _, ⟨v_16, p1_17, h1_18, f19, rfl, rfl⟩, rfl, rfl⟩
        refine R.go 2 (R.callX (CallX.inF 2 usC frC (nextX_c_r1 c p1_17 h1_18 vars eo1 so1 no1 co1 hc) (Nat.le_of_ble_eq_true (by kernel_rfl)) (by kernel_rfl) (by kernel_rfl) (by rintro _ _ ⟨_, _, _, _, rfl, rfl⟩; exact Nat.le_of_ble_eq_true (by kernel_rfl))) (by kernel_rfl) (by kernel_rfl) (by kernel_rfl) ?_)
        rintro _ _ ⟨_, _, ⟨v_20, p1_21, h1_22, f23, rfl, rfl⟩, rfl, rfl⟩
        refine R.call true (l10One_c 2 v_16 v_20).frz (by kernel_rfl) rfl (by kernel_rfl) ?_
        exact R.go 2 (R.retX (res := LT [(2, v_16, v_20)]) (hp' := [.box 120 [LB c, AI (p1_21 : Int), .int .u64 h1_22], .list eo1 so1 no1 co1, .dead]) (by kernel_rfl) (by kernel_rfl) (by kernel_rfl) (by kernel_rfl) ⟨[0, 1], by kernel_rfl, by decide, [(2, v_16, v_20)], p1_21, h1_22, by first | (simp; done) | (simp only [List.length_cons, List.length_append, List.length_nil]; omega), by kernel_rfl, by kernel_rfl⟩)
      · refine R.go 5 (R.cond (v_2 = 2) (by kernel_rfl) (fun c24 => ?_) (fun c24 => ?_))
        · refine R.go 3 (R.callX (CallX.inF 2 usC frC (nextX_c_r1 c p1_3 h1_4 3 eo1 so1 no1 co1 hc) (Nat.le_of_ble_eq_true (by kernel_rfl)) (by kernel_rfl) (by kernel_rfl) (by rintro _ _ ⟨_, _, _, _, rfl, rfl⟩; exact Nat.le_of_ble_eq_true (by kernel_rfl))) (by kernel_rfl) (by kernel_rfl) (by kernel_rfl) ?_)
          rintro _ _ ⟨_, _, ⟨v_25, p1_26, h1_27, f28, rfl, rfl⟩, rfl, rfl⟩
          refine R.go 2 (R.cond (v_25 = 0) (by kernel_rfl) (fun c29 => ?_) (fun c29 => ?_))
          · refine R.go 2 (R.call true (l10False_c).frz (by kernel_rfl) rfl (by kernel_rfl) ?_)
            exact R.go 2 (R.retX (res := LT [(3, 0, 0)]) (hp' := [.box 120 [LB c, AI (p1_26 : Int), .int .u64 h1_27], .list eo1 so1 no1 co1, .dead]) (by kernel_rfl) (by kernel_rfl) (by kernel_rfl) (by kernel_rfl) ⟨[0, 1], by kernel_rfl, by decide, [(3, 0, 0)], p1_26, h1_27, by first | (simp; done) | (simp only [List.length_cons, List.length_append, List.length_nil]; omega), by kernel_rfl, by kernel_rfl⟩)
          · refine R.go 6 (R.callX (CallX.inF 2 usC frC (nextX_c_r1 c p1_26 h1_27 vars eo1 so1 no1 co1 hc) (Nat.le_of_ble_eq_true (by kernel_rfl)) (by kernel_rfl) (by kernel_rfl) (by rintro _ _ ⟨_, _, _, _, rfl, rfl⟩; exact Nat.le_of_ble_eq_true (by kernel_rfl))) (by kernel_rfl) (by kernel_rfl) (by kernel_rfl) ?_)
            rintro _ _ ⟨_, _, ⟨v_30, p1_31, h1_32, f33, rfl, rfl⟩, rfl, rfl⟩
            refine R.go 2 (R.callX (CallX.inF 2 usC frC (nextX_c_r1 c p1_31 h1_32 vars eo1 so1 no1 co1 hc) (Nat.le_of_ble_eq_true (by kernel_rfl)) (by kernel_rfl) (by kernel_rfl) (by rintro _ _ ⟨_, _, _, _, rfl, rfl⟩; exact Nat.le_of_ble_eq_true (by kernel_rfl))) (by kernel_rfl) (by kernel_rfl) (by kernel_rfl) ?_)
            rintro _ _ ⟨_, _, ⟨v_34, p1_35, h1_36, f37, rfl, rfl⟩, rfl, rfl⟩
            refine R.call true (l10One_c 0 v_30 v_34).frz (by kernel_rfl) rfl (by kernel_rfl) ?_
            exact R.go 2 (R.retX (res := LT [(0, v_30, v_34)]) (hp' := [.box 120 [LB c, AI (p1_35 : Int), .int .u64 h1_36], .list eo1 so1 no1 co1, .dead]) (by kernel_rfl) (by kernel_rfl) (by kernel_rfl) (by kernel_rfl) ⟨[0, 1], by kernel_rfl, by decide, [(0, v_30, v_34)], p1_35, h1_36, by first | (simp; done) | (simp only [List.length_cons, List.length_append, List.length_nil]; omega), by kernel_rfl, by kernel_rfl⟩)
        · refine R.go 6 (R.callX (CallX.inF 2 usC frC (nextX_c_r1 c p1_3 h1_4 vars eo1 so1 no1 co1 hc) (Nat.le_of_ble_eq_true (by kernel_rfl)) (by kernel_rfl) (by kernel_rfl) (by rintro _ _ ⟨_, _, _, _, rfl, rfl⟩; exact Nat.le_of_ble_eq_true (by kernel_rfl))) (by kernel_rfl) (by kernel_rfl) (by kernel_rfl) ?_)
          rintro _ _ ⟨_, _, ⟨v_38, p1_39, h1_40, f41, rfl, rfl⟩, rfl, rfl⟩
          refine R.go 2 (R.callX (CallX.inF 2 usC frC (nextX_c_r1 c p1_39 h1_40 vars eo1 so1 no1 co1 hc) (Nat.le_of_ble_eq_true (by kernel_rfl)) (by kernel_rfl) (by kernel_rfl) (by rintro _ _ ⟨_, _, _, _, rfl, rfl⟩; exact Nat.le_of_ble_eq_true (by kernel_rfl))) (by kernel_rfl) (by kernel_rfl) (by kernel_rfl) ?_)
          rintro _ _ ⟨_, _, ⟨v_42, p1_43, h1_44, f45, rfl, rfl⟩, rfl, rfl⟩
          refine R.call true (l10One_c 0 v_38 v_42).frz (by kernel_rfl) rfl (by kernel_rfl) ?_
          exact R.go 2 (R.retX (res := LT [(0, v_38, v_42)]) (hp' := [.box 120 [LB c, AI (p1_43 : Int), .int .u64 h1_44], .list eo1 so1 no1 co1, .dead]) (by kernel_rfl) (by kernel_rfl) (by kernel_rfl) (by kernel_rfl) ⟨[0, 1], by kernel_rfl, by decide, [(0, v_38, v_42)], p1_43, h1_44, by first | (simp; done) | (simp only [List.length_cons, List.length_append, List.length_nil]; omega), by kernel_rfl, by kernel_rfl⟩)
  · refine R.go 5 (R.callX (CallX.inF 2 usC frC (nextX_c_r1 c p h 2 eo1 so1 no1 co1 hc) (Nat.le_of_ble_eq_true (by kernel_rfl)) (by kernel_rfl) (by kernel_rfl) (by rintro _ _ ⟨_, _, _, _, rfl, rfl⟩; exact Nat.le_of_ble_eq_true (by kernel_rfl))) (by kernel_rfl) (by kernel_rfl) (by kernel_rfl) ?_)
    rintro _ _ ⟨_, _, ⟨v_46, p1_47, h1_48, f49, rfl, rfl⟩, rfl, rfl⟩
    refine R.go 2 (R.cond (v_46 = 0) (by kernel_rfl) (fun c50 => ?_) (fun c50 => ?_))
    · refine R.go 3 (R.callX (CallX.inF 2 usC frC (nextX_c_r1 c p1_47 h1_48 2 eo1 so1 no1 co1 hc) (Nat.le_of_ble_eq_true (by kernel_rfl)) (by kernel_rfl) (by kernel_rfl) (by rintro _ _ ⟨_, _, _, _, rfl, rfl⟩; exact Nat.le_of_ble_eq_true (by kernel_rfl))) (by kernel_rfl) (by kernel_rfl) (by kernel_rfl) ?_)
      rintro _ _ ⟨_, _, ⟨v_51, p1_52, h1_53, f54, rfl, rfl⟩, rfl, rfl⟩
      refine R.ar (7 + v_51) (by kernel_rfl) (by omega) (by omega) (by kernel_rfl) ?_
      refine R.go 2 (R.callX (CallX.inF 2 usC frC (nextX_c_r1 c p1_52 h1_53 vars eo1 so1 no1 co1 hc) (Nat.le_of_ble_eq_true (by kernel_rfl)) (by kernel_rfl) (by kernel_rfl) (by rintro _ _ ⟨_, _, _, _, rfl, rfl⟩; exact Nat.le_of_ble_eq_true (by kernel_rfl))) (by kernel_rfl) (by kernel_rfl) (by kernel_rfl) ?_)
      rintro _ _ ⟨_, _, ⟨v_55, p1_56, h1_57, f58, rfl, rfl⟩, rfl, rfl⟩
      refine R.go 2 (R.ar (size - 1) (by kernel_rfl) (by omega) (by omega) (by kernel_rfl) ?_)
      refine R.go 1 (R.callX (CallX.inF 2 usC frC (ih (((size - 1) : Int).toNat) (by omega) c p1_56 h1_57 (size - 1) vars eo1 so1 no1 co1 (by rfl) hc (by omega)) (Nat.le_of_ble_eq_true (by kernel_rfl)) (by kernel_rfl) (by kernel_rfl) (by rintro _ _ ⟨_, _, _, _, rfl, rfl⟩; exact Nat.le_of_ble_eq_true (by kernel_rfl))) (by kernel_rfl) (by kernel_rfl) (by kernel_rfl) ?_)
      rintro _ _ ⟨_, _, ⟨r_59, p1_60, h1_61, f62, rfl, rfl⟩, rfl, rfl⟩
      refine R.call true (l10Bind_c (7 + v_51) v_55 r_59 (by first | omega | (simp <;> omega))).frz (by kernel_rfl) rfl (by kernel_rfl) ?_
      exact R.go 2 (R.retX (res := LT (((7 + v_51), v_55, 0) :: r_59)) (hp' := [.box 120 [LB c, AI (p1_60 : Int), .int .u64 h1_61], .list eo1 so1 no1 co1, .dead]) (by kernel_rfl) (by kernel_rfl) (by kernel_rfl) (by kernel_rfl) ⟨[0, 1], by kernel_rfl, by decide, ((7 + v_51), v_55, 0) :: r_59, p1_60, h1_61, by first | (simp; done) | (simp only [List.length_cons, List.length_append, List.length_nil]; omega), by kernel_rfl, by kernel_rfl⟩)
    · refine R.go 5 (R.ar (size - 1) (by kernel_rfl) (by omega) (by omega) (by kernel_rfl) ?_)
      refine R.callX (CallX.inF 2 usC frC (nextX_c_r1 c p1_47 h1_48 (size - 1) eo1 so1 no1 co1 hc) (Nat.le_of_ble_eq_true (by kernel_rfl)) (by kernel_rfl) (by kernel_rfl) (by rintro _ _ ⟨_, _, _, _, rfl, rfl⟩; exact Nat.le_of_ble_eq_true (by kernel_rfl))) (by kernel_rfl) (by kernel_rfl) (by kernel_rfl) ?_
      rintro _ _ ⟨_, _, ⟨v_63, p1_64, h1_65, f66, rfl, rfl⟩, rfl, rfl⟩
      refine R.ar (1 + v_63) (by kernel_rfl) (by omega) (by omega) (by kernel_rfl) ?_
      refine R.go 5 (R.callX (CallX.inF 2 usC frC (nextX_c_r1 c p1_64 h1_65 3 eo1 so1 no1 co1 hc) (Nat.le_of_ble_eq_true (by kernel_rfl)) (by kernel_rfl) (by kernel_rfl) (by rintro _ _ ⟨_, _, _, _, rfl, rfl⟩; exact Nat.le_of_ble_eq_true (by kernel_rfl))) (by kernel_rfl) (by kernel_rfl) (by kernel_rfl) ?_)
      rintro _ _ ⟨_, _, ⟨v_67, p1_68, h1_69, f70, rfl, rfl⟩, rfl, rfl⟩
      refine R.ar (4 + v_67) (by kernel_rfl) (by omega) (by omega) (by kernel_rfl) ?_
      refine R.go 3 (R.callX (CallX.inF 2 usC frC (ih (((1 + v_63) : Int).toNat) (by omega) c p1_68 h1_69 (1 + v_63) vars eo1 so1 no1 co1 (by rfl) hc (by omega)) (Nat.le_of_ble_eq_true (by kernel_rfl)) (by kernel_rfl) (by kernel_rfl) (by rintro _ _ ⟨_, _, _, _, rfl, rfl⟩; exact Nat.le_of_ble_eq_true (by kernel_rfl))) (by kernel_rfl) (by kernel_rfl) (by kernel_rfl) ?_)
      rintro _ _ ⟨_, _, ⟨r_71, p1_72, h1_73, f74, rfl, rfl⟩, rfl, rfl⟩
      refine R.go 3 (R.ar (size - (1 + v_63)) (by kernel_rfl) (by omega) (by omega) (by kernel_rfl) ?_)
      refine R.go 1 (R.callX (CallX.inF 2 usC frC (ih (((size - (1 + v_63)) : Int).toNat) (by omega) c p1_72 h1_73 (size - (1 + v_63)) vars eo1 so1 no1 co1 (by rfl) hc (by omega)) (Nat.le_of_ble_eq_true (by kernel_rfl)) (by kernel_rfl) (by kernel_rfl) (by rintro _ _ ⟨_, _, _, _, rfl, rfl⟩; exact Nat.le_of_ble_eq_true (by kernel_rfl))) (by kernel_rfl) (by kernel_rfl) (by kernel_rfl) ?_)
      rintro _ _ ⟨_, _, ⟨r_75, p1_76, h1_77, f78, rfl, rfl⟩, rfl, rfl⟩
      refine R.call true (l10Pair_c (4 + v_67) r_71 r_75 (by first | omega | (simp <;> omega)) (by first | omega | (simp <;> omega))).frz (by kernel_rfl) rfl (by kernel_rfl) ?_
      exact R.go 2 (R.retX (res := LT (((4 + v_67), 0, 0) :: (r_71 ++ r_75))) (hp' := [.box 120 [LB c, AI (p1_76 : Int), .int .u64 h1_77], .list eo1 so1 no1 co1, .dead]) (by kernel_rfl) (by kernel_rfl) (by kernel_rfl) (by kernel_rfl) ⟨[0, 1], by kernel_rfl, by decide, ((4 + v_67), 0, 0) :: (r_71 ++ r_75), p1_76, h1_77, by first | (simp; done) | (simp only [List.length_cons, List.length_append, List.length_nil]; omega), by kernel_rfl, by kernel_rfl⟩)

theorem someTO_c_r1 (c : List Int) (p : Nat) (h : Int) (size : Int) (vars : Int) (eo1 : Nat) (so1 : Nat) (no1 : Nat) (co1 : List AV) (hc : BY c) (hs : size ≤ 1000) : CallX Tryz.prog 125 [.ptr 0 0, AI size, AI vars] [.box 120 [LB c, AI (p : Int), .int .u64 h], .list eo1 so1 no1 co1] (fun (resX : AV) (objX : List AObj) => ∃ r : List (Int × Int × Int), ∃ p1 : Nat, ∃ h1 : Int, (((r.length : Int) + 1 ≤ 2 * size ∨ r.length ≤ 1) ∧ 1 ≤ r.length) ∧ resX = .ref 2 ∧ objX = [.box 120 [LB c, AI (p1 : Int), .int .u64 h1], .list eo1 so1 no1 co1, rowA eT 89 3 r]) := by
  have hcl : c.length ≤ 4096 := hc.1
  have hcb := hc.2
  refine CallX.dropE (CallX.ofF Tryz.func125 rfl (by kernel_rfl) ?_)
  intro usC frC hfC
  refine R.go 10 (R.cond (size < 2) (by kernel_rfl) (fun c1 => ?_) (fun c1 => ?_))
  · refine R.go 4 (R.callX (CallX.inF 2 usC frC (nextX_c_r1 c p h 5 eo1 so1 no1 co1 hc) (Nat.le_of_ble_eq_true (by kernel_rfl)) (by kernel_rfl) (by kernel_rfl) (by rintro _ _ ⟨_, _, _, _, rfl, rfl⟩; exact Nat.le_of_ble_eq_true (by kernel_rfl))) (by kernel_rfl) (by kernel_rfl) (by kernel_rfl) ?_)
    rintro _ _ ⟨_, _, ⟨v_2, p1_3, h1_4, f5, rfl, rfl⟩, rfl, rfl⟩
    refine R.go 7 (R.cond (v_2 = 0) (by kernel_rfl) (fun c6 => ?_) (fun c6 => ?_))
    · refine R.go 4 (R.callX (CallX.inF 2 usC frC (nextX_c_r1 c p1_3 h1_4 vars eo1 so1 no1 co1 hc) (Nat.le_of_ble_eq_true (by kernel_rfl)) (by kernel_rfl) (by kernel_rfl) (by rintro _ _ ⟨_, _, _, _, rfl, rfl⟩; exact Nat.le_of_ble_eq_true (by kernel_rfl))) (by kernel_rfl) (by kernel_rfl) (by kernel_rfl) ?_)
      rintro _ _ ⟨_, _, ⟨v_7, p1_8, h1_9, f10, rfl, rfl⟩, rfl, rfl⟩
      refine R.go 2 (R.callX (CallX.inF 2 usC frC (nextX_c_r1 c p1_8 h1_9 vars eo1 so1 no1 co1 hc) (Nat.le_of_ble_eq_true (by kernel_rfl)) (by kernel_rfl) (by kernel_rfl) (by rintro _ _ ⟨_, _, _, _, rfl, rfl⟩; exact Nat.le_of_ble_eq_true (by kernel_rfl))) (by kernel_rfl) (by kernel_rfl) (by kernel_rfl) ?_)
      rintro _ _ ⟨_, _, ⟨v_11, p1_12, h1_13, f14, rfl, rfl⟩, rfl, rfl⟩
      refine R.call true (l10One_c 1 v_7 v_11) (by kernel_rfl) rfl (by kernel_rfl) ?_
      exact R.go 2 (R.retX (res := .ref 3) (hp' := [.box 120 [LB c, AI (p1_12 : Int), .int .u64 h1_13], .list eo1 so1 no1 co1, .dead, rowA eT 89 3 [(1, v_7, v_11)]]) (by kernel_rfl) (by kernel_rfl) (by kernel_rfl) (by kernel_rfl) ⟨[0, 1, 3], by kernel_rfl, by decide, [(1, v_7, v_11)], p1_12, h1_13, by first | (simp; done) | (simp only [List.length_cons, List.length_append, List.length_nil]; omega), by kernel_rfl, by kernel_rfl⟩)
    · refine R.go 5 (R.cond (v_2 = 1) (by kernel_rfl) (fun c15 => ?_) (fun c15 => ?_))
      · refine R.go 3 (R.callX (CallX.inF 2 usC frC (nextX_c_r1 c p1_3 h1_4 2 eo1 so1 no1 co1 hc) (Nat.le_of_ble_eq_true (by kernel_rfl)) (by kernel_rfl) (by kernel_rfl) (by rintro _ _ ⟨_, _, _, _, rfl, rfl⟩; exact Nat.le_of_ble_eq_true (by kernel_rfl))) (by kernel_rfl) (by kernel_rfl) (by kernel_rfl) ?_)
        rintro _ _ ⟨_, _, ⟨v_16, p1_17, h1_18, f19, rfl, rfl⟩, rfl, rfl⟩
        refine R.go 2 (R.callX (CallX.inF 2 usC frC (nextX_c_r1 c p1_17 h1_18 vars eo1 so1 no1 co1 hc) (Nat.le_of_ble_eq_true (by kernel_rfl)) (by kernel_rfl) (by kernel_rfl) (by rintro _ _ ⟨_, _, _, _, rfl, rfl⟩; exact Nat.le_of_ble_eq_true (by kernel_rfl))) (by kernel_rfl) (by kernel_rfl) (by kernel_rfl) ?_)
        rintro _ _ ⟨_, _, ⟨v_20, p1_21, h1_22, f23, rfl, rfl⟩, rfl, rfl⟩
        refine R.call true (l10One_c 2 v_16 v_20) (by kernel_rfl) rfl (by kernel_rfl) ?_
        exact R.go 2 (R.retX (res := .ref 3) (hp' := [.box 120 [LB c, AI (p1_21 : Int), .int .u64 h1_22], .list eo1 so1 no1 co1, .dead, rowA eT 89 3 [(2, v_16, v_20)]]) (by kernel_rfl) (by kernel_rfl) (by kernel_rfl) (by kernel_rfl) ⟨[0, 1, 3], by kernel_rfl, by decide, [(2, v_16, v_20)], p1_21, h1_22, by first | (simp; done) | (simp only [List.length_cons, List.length_append, List.length_nil]; omega), by kernel_rfl, by kernel_rfl⟩)
      · refine R.go 5 (R.cond (v_2 = 2) (by kernel_rfl) (fun c24 => ?_) (fun c24 => ?_))
        · refine R.go 3 (R.callX (CallX.inF 2 usC frC (nextX_c_r1 c p1_3 h1_4 3 eo1 so1 no1 co1 hc) (Nat.le_of_ble_eq_true (by kernel_rfl)) (by kernel_rfl) (by kernel_rfl) (by rintro _ _ ⟨_, _, _, _, rfl, rfl⟩; exact Nat.le_of_ble_eq_true (by kernel_rfl))) (by kernel_rfl) (by kernel_rfl) (by kernel_rfl) ?_)
          rintro _ _ ⟨_, _, ⟨v_25, p1_26, h1_27, f28, rfl, rfl⟩, rfl, rfl⟩
          refine R.go 2 (R.cond (v_25 = 0) (by kernel_rfl) (fun c29 => ?_) (fun c29 => ?_))
          · refine R.go 2 (R.call true (l10False_c) (by kernel_rfl) rfl (by kernel_rfl) ?_)
            exact R.go 2 (R.retX (res := .ref 3) (hp' := [.box 120 [LB c, AI (p1_26 : Int), .int .u64 h1_27], .list eo1 so1 no1 co1, .dead, rowA eT 89 3 [(3, 0, 0)]]) (by kernel_rfl) (by kernel_rfl) (by kernel_rfl) (by kernel_rfl) ⟨[0, 1, 3], by kernel_rfl, by decide, [(3, 0, 0)], p1_26, h1_27, by first | (simp; done) | (simp only [List.length_cons, List.length_append, List.length_nil]; omega), by kernel_rfl, by kernel_rfl⟩)
          · refine R.go 6 (R.callX (CallX.inF 2 usC frC (nextX_c_r1 c p1_26 h1_27 vars eo1 so1 no1 co1 hc) (Nat.le_of_ble_eq_true (by kernel_rfl)) (by kernel_rfl) (by kernel_rfl) (by rintro _ _ ⟨_, _, _, _, rfl, rfl⟩; exact Nat.le_of_ble_eq_true (by kernel_rfl))) (by kernel_rfl) (by kernel_rfl) (by kernel_rfl) ?_)
            rintro _ _ ⟨_, _, ⟨v_30, p1_31, h1_32, f33, rfl, rfl⟩, rfl, rfl⟩
            refine R.go 2 (R.callX (CallX.inF 2 usC frC (nextX_c_r1 c p1_31 h1_32 vars eo1 so1 no1 co1 hc) (Nat.le_of_ble_eq_true (by kernel_rfl)) (by kernel_rfl) (by kernel_rfl) (by rintro _ _ ⟨_, _, _, _, rfl, rfl⟩; exact Nat.le_of_ble_eq_true (by kernel_rfl))) (by kernel_rfl) (by kernel_rfl) (by kernel_rfl) ?_)
            rintro _ _ ⟨_, _, ⟨v_34, p1_35, h1_36, f37, rfl, rfl⟩, rfl, rfl⟩
            refine R.call true (l10One_c 0 v_30 v_34) (by kernel_rfl) rfl (by kernel_rfl) ?_
            exact R.go 2 (R.retX (res := .ref 3) (hp' := [.box 120 [LB c, AI (p1_35 : Int), .int .u64 h1_36], .list eo1 so1 no1 co1, .dead, rowA eT 89 3 [(0, v_30, v_34)]]) (by kernel_rfl) (by kernel_rfl) (by kernel_rfl) (by kernel_rfl) ⟨[0, 1, 3], by kernel_rfl, by decide, [(0, v_30, v_34)], p1_35, h1_36, by first | (simp; done) | (simp only [List.length_cons, List.length_append, List.length_nil]; omega), by kernel_rfl, by kernel_rfl⟩)
        · refine R.go 6 (R.callX (CallX.inF 2 usC frC (nextX_c_r1 c p1_3 h1_4 vars eo1 so1 no1 co1 hc) (Nat.le_of_ble_eq_true (by kernel_rfl)) (by kernel_rfl) (by kernel_rfl) (by rintro _ _ ⟨_, _, _, _, rfl, rfl⟩; exact Nat.le_of_ble_eq_true (by kernel_rfl))) (by kernel_rfl) (by kernel_rfl) (by kernel_rfl) ?_)
          rintro _ _ ⟨_, _, ⟨v_38, p1_39, h1_40, f41, rfl, rfl⟩, rfl, rfl⟩
          refine R.go 2 (R.callX (CallX.inF 2 usC frC (nextX_c_r1 c p1_39 h1_40 vars eo1 so1 no1 co1 hc) (Nat.le_of_ble_eq_true (by kernel_rfl)) (by kernel_rfl) (by kernel_rfl) (by rintro _ _ ⟨_, _, _, _, rfl, rfl⟩; exact Nat.le_of_ble_eq_true (by kernel_rfl))) (by kernel_rfl) (by kernel_rfl) (by kernel_rfl) ?_)
          rintro _ _ ⟨_, _, ⟨v_42, p1_43, h1_44, f45, rfl, rfl⟩, rfl, rfl⟩
          refine R.call true (l10One_c 0 v_38 v_42) (by kernel_rfl) rfl (by kernel_rfl) ?_
          exact R.go 2 (R.retX (res := .ref 3) (hp' := [.box 120 [LB c, AI (p1_43 : Int), .int .u64 h1_44], .list eo1 so1 no1 co1, .dead, rowA eT 89 3 [(0, v_38, v_42)]]) (by kernel_rfl) (by kernel_rfl) (by kernel_rfl) (by kernel_rfl) ⟨[0, 1, 3], by kernel_rfl, by decide, [(0, v_38, v_42)], p1_43, h1_44, by first | (simp; done) | (simp only [List.length_cons, List.length_append, List.length_nil]; omega), by kernel_rfl, by kernel_rfl⟩)
  · refine R.go 5 (R.callX (CallX.inF 2 usC frC (nextX_c_r1 c p h 2 eo1 so1 no1 co1 hc) (Nat.le_of_ble_eq_true (by kernel_rfl)) (by kernel_rfl) (by kernel_rfl) (by rintro _ _ ⟨_, _, _, _, rfl, rfl⟩; exact Nat.le_of_ble_eq_true (by kernel_rfl))) (by kernel_rfl) (by kernel_rfl) (by kernel_rfl) ?_)
    rintro _ _ ⟨_, _, ⟨v_46, p1_47, h1_48, f49, rfl, rfl⟩, rfl, rfl⟩
    refine R.go 2 (R.cond (v_46 = 0) (by kernel_rfl) (fun c50 => ?_) (fun c50 => ?_))
    · refine R.go 3 (R.callX (CallX.inF 2 usC frC (nextX_c_r1 c p1_47 h1_48 2 eo1 so1 no1 co1 hc) (Nat.le_of_ble_eq_true (by kernel_rfl)) (by kernel_rfl) (by kernel_rfl) (by rintro _ _ ⟨_, _, _, _, rfl, rfl⟩; exact Nat.le_of_ble_eq_true (by kernel_rfl))) (by kernel_rfl) (by kernel_rfl) (by kernel_rfl) ?_)
      rintro _ _ ⟨_, _, ⟨v_51, p1_52, h1_53, f54, rfl, rfl⟩, rfl, rfl⟩
      refine R.ar (7 + v_51) (by kernel_rfl) (by omega) (by omega) (by kernel_rfl) ?_
      refine R.go 2 (R.callX (CallX.inF 2 usC frC (nextX_c_r1 c p1_52 h1_53 vars eo1 so1 no1 co1 hc) (Nat.le_of_ble_eq_true (by kernel_rfl)) (by kernel_rfl) (by kernel_rfl) (by rintro _ _ ⟨_, _, _, _, rfl, rfl⟩; exact Nat.le_of_ble_eq_true (by kernel_rfl))) (by kernel_rfl) (by kernel_rfl) (by kernel_rfl) ?_)
      rintro _ _ ⟨_, _, ⟨v_55, p1_56, h1_57, f58, rfl, rfl⟩, rfl, rfl⟩
      refine R.go 2 (R.ar (size - 1) (by kernel_rfl) (by omega) (by omega) (by kernel_rfl) ?_)
      refine R.go 1 (R.callX (CallX.inF 2 usC frC (someT_c_r1 (((size - 1) : Int).toNat) c p1_56 h1_57 (size - 1) vars eo1 so1 no1 co1 (by rfl) hc (by omega)) (Nat.le_of_ble_eq_true (by kernel_rfl)) (by kernel_rfl) (by kernel_rfl) (by rintro _ _ ⟨_, _, _, _, rfl, rfl⟩; exact Nat.le_of_ble_eq_true (by kernel_rfl))) (by kernel_rfl) (by kernel_rfl) (by kernel_rfl) ?_)
      rintro _ _ ⟨_, _, ⟨r_59, p1_60, h1_61, f62, rfl, rfl⟩, rfl, rfl⟩
      refine R.call true (l10Bind_c (7 + v_51) v_55 r_59 (by first | omega | (simp <;> omega))) (by kernel_rfl) rfl (by kernel_rfl) ?_
      exact R.go 2 (R.retX (res := .ref 3) (hp' := [.box 120 [LB c, AI (p1_60 : Int), .int .u64 h1_61], .list eo1 so1 no1 co1, .dead, rowA eT 89 3 (((7 + v_51), v_55, 0) :: r_59)]) (by kernel_rfl) (by kernel_rfl) (by kernel_rfl) (by kernel_rfl) ⟨[0, 1, 3], by kernel_rfl, by decide, ((7 + v_51), v_55, 0) :: r_59, p1_60, h1_61, by first | (simp; done) | (simp only [List.length_cons, List.length_append, List.length_nil]; omega), by kernel_rfl, by kernel_rfl⟩)
    · refine R.go 5 (R.ar (size - 1) (by kernel_rfl) (by omega) (by omega) (by kernel_rfl) ?_)
      refine R.callX (CallX.inF 2 usC frC (nextX_c_r1 c p1_47 h1_48 (size - 1) eo1 so1 no1 co1 hc) (Nat.le_of_ble_eq_true (by kernel_rfl)) (by kernel_rfl) (by kernel_rfl) (by rintro _ _ ⟨_, _, _, _, rfl, rfl⟩; exact Nat.le_of_ble_eq_true (by kernel_rfl))) (by kernel_rfl) (by kernel_rfl) (by kernel_rfl) ?_
      rintro _ _ ⟨_, _, ⟨v_63, p1_64, h1_65, f66, rfl, rfl⟩, rfl, rfl⟩
      refine R.ar (1 + v_63) (by kernel_rfl) (by omega) (by omega) (by kernel_rfl) ?_
      refine R.go 5 (R.callX (CallX.inF 2 usC frC (nextX_c_r1 c p1_64 h1_65 3 eo1 so1 no1 co1 hc) (Nat.le_of_ble_eq_true (by kernel_rfl)) (by kernel_rfl) (by kernel_rfl) (by rintro _ _ ⟨_, _, _, _, rfl, rfl⟩; exact Nat.le_of_ble_eq_true (by kernel_rfl))) (by kernel_rfl) (by kernel_rfl) (by kernel_rfl) ?_)
      rintro _ _ ⟨_, _, ⟨v_67, p1_68, h1_69, f70, rfl, rfl⟩, rfl, rfl⟩
      refine R.ar (4 + v_67) (by kernel_rfl) (by omega) (by omega) (by kernel_rfl) ?_
      refine R.go 3 (R.callX (CallX.inF 2 usC frC (someT_c_r1 (((1 + v_63) : Int).toNat) c p1_68 h1_69 (1 + v_63) vars eo1 so1 no1 co1 (by rfl) hc (by omega)) (Nat.le_of_ble_eq_true (by kernel_rfl)) (by kernel_rfl) (by kernel_rfl) (by rintro _ _ ⟨_, _, _, _, rfl, rfl⟩; exact Nat.le_of_ble_eq_true (by kernel_rfl))) (by kernel_rfl) (by kernel_rfl) (by kernel_rfl) ?_)
      rintro _ _ ⟨_, _, ⟨r_71, p1_72, h1_73, f74, rfl, rfl⟩, rfl, rfl⟩
      refine R.go 3 (R.ar (size - (1 + v_63)) (by kernel_rfl) (by omega) (by omega) (by kernel_rfl) ?_)
      refine R.go 1 (R.callX (CallX.inF 2 usC frC (someT_c_r1 (((size - (1 + v_63)) : Int).toNat) c p1_72 h1_73 (size - (1 + v_63)) vars eo1 so1 no1 co1 (by rfl) hc (by omega)) (Nat.le_of_ble_eq_true (by kernel_rfl)) (by kernel_rfl) (by kernel_rfl) (by rintro _ _ ⟨_, _, _, _, rfl, rfl⟩; exact Nat.le_of_ble_eq_true (by kernel_rfl))) (by kernel_rfl) (by kernel_rfl) (by kernel_rfl) ?_)
      rintro _ _ ⟨_, _, ⟨r_75, p1_76, h1_77, f78, rfl, rfl⟩, rfl, rfl⟩
      refine R.call true (l10Pair_c (4 + v_67) r_71 r_75 (by first | omega | (simp <;> omega)) (by first | omega | (simp <;> omega))) (by kernel_rfl) rfl (by kernel_rfl) ?_
      exact R.go 2 (R.retX (res := .ref 3) (hp' := [.box 120 [LB c, AI (p1_76 : Int), .int .u64 h1_77], .list eo1 so1 no1 co1, .dead, rowA eT 89 3 (((4 + v_67), 0, 0) :: (r_71 ++ r_75))]) (by kernel_rfl) (by kernel_rfl) (by kernel_rfl) (by kernel_rfl) ⟨[0, 1, 3], by kernel_rfl, by decide, ((4 + v_67), 0, 0) :: (r_71 ++ r_75), p1_76, h1_77, by first | (simp; done) | (simp only [List.length_cons, List.length_append, List.length_nil]; omega), by kernel_rfl, by kernel_rfl⟩)

theorem drawnT_c_r1 (c : List Int) (p : Nat) (h : Int) (eo1 : Nat) (so1 : Nat) (no1 : Nat) (co1 : List AV) (hc : BY c) : CallX Tryz.prog 62 [.ptr 0 0] [.box 120 [LB c, AI (p : Int), .int .u64 h], .list eo1 so1 no1 co1] (fun (resX : AV) (objX : List AObj) => ∃ r : List (Int × Int × Int), ∃ p1 : Nat, ∃ h1 : Int, (r.length ≤ 1000) ∧ resX = LT r ∧ objX = [.box 120 [LB c, AI (p1 : Int), .int .u64 h1], .list eo1 so1 no1 co1]) := by
  have hcl : c.length ≤ 4096 := hc.1
  have hcb := hc.2
  refine CallX.dropE (CallX.ofF Tryz.func62 rfl (by kernel_rfl) ?_)
  intro usC frC hfC
  refine R.go 8 (R.callX (CallX.inF 2 usC frC (nextX_c_r1 c p h 8 eo1 so1 no1 co1 hc) (Nat.le_of_ble_eq_true (by kernel_rfl)) (by kernel_rfl) (by kernel_rfl) (by rintro _ _ ⟨_, _, _, _, rfl, rfl⟩; exact Nat.le_of_ble_eq_true (by kernel_rfl))) (by kernel_rfl) (by kernel_rfl) (by kernel_rfl) ?_)
  rintro _ _ ⟨_, _, ⟨v_1, p1_2, h1_3, f4, rfl, rfl⟩, rfl, rfl⟩
  refine R.ar (1 + v_1) (by kernel_rfl) (by omega) (by omega) (by kernel_rfl) ?_
  refine R.callX (CallX.inF 2 usC frC (someTO_c_r1 c p1_2 h1_3 (1 + v_1) 3 eo1 so1 no1 co1 hc (by first | omega | (simp; done) | (simp; omega))) (Nat.le_of_ble_eq_true (by kernel_rfl)) (by kernel_rfl) (by kernel_rfl) (by rintro _ _ ⟨_, _, _, _, rfl, rfl⟩; exact Nat.le_of_ble_eq_true (by kernel_rfl))) (by kernel_rfl) (by kernel_rfl) (by kernel_rfl) ?_
  rintro _ _ ⟨_, _, ⟨r_5, p1_6, h1_7, f8, rfl, rfl⟩, rfl, rfl⟩
  refine R.go 6 (R.callX (CallX.inF 2 usC frC (nextX_c_r2 c p1_6 h1_7 24 eo1 so1 no1 co1 89 3 r_5.length (rows eT r_5) hc) (Nat.le_of_ble_eq_true (by kernel_rfl)) (by kernel_rfl) (by kernel_rfl) (by rintro _ _ ⟨_, _, _, _, rfl, rfl⟩; exact Nat.le_of_ble_eq_true (by kernel_rfl))) (by kernel_rfl) (by kernel_rfl) (by kernel_rfl) ?_)
  rintro _ _ ⟨_, _, ⟨v_9, p1_10, h1_11, f12, rfl, rfl⟩, rfl, rfl⟩
  refine R.go 7 (R.cond (v_9 = 0) (by kernel_rfl) (fun c13 => ?_) (fun c13 => ?_))
  · refine R.go 4 (R.app eT r_5 [(0, 0, 0)] 3 89 3 24 (by kernel_rfl) eT_one (by decide) (by first | omega | (simp <;> omega)) (by kernel_rfl) ?_)
    refine R.kfix 2 (us := usC) (by kernel_rfl) (hfC.kill 3 (Nat.le_of_ble_eq_true (by kernel_rfl))) ?_
    refine R.go 8 (R.frz 3 (by kernel_rfl) ?_)
    refine R.kfix 2 (us := usC) (by kernel_rfl) (hfC.frz 3 (LT (r_5 ++ [(0, 0, 0)])) (Nat.le_of_ble_eq_true (by kernel_rfl))) ?_
    exact R.retX (res := LT (r_5 ++ [(0, 0, 0)])) (hp' := [.box 120 [LB c, AI (p1_10 : Int), .int .u64 h1_11], .list eo1 so1 no1 co1, .dead, .dead, rowA eT 89 3 [(0, 0, 0)]]) (by kernel_rfl) (by kernel_rfl) (by kernel_rfl) (by kernel_rfl) ⟨[0, 1], by kernel_rfl, by decide, r_5 ++ [(0, 0, 0)], p1_10, h1_11, by first | omega | (simp only [List.length_append, List.length_cons, List.length_nil, List.length_set]; omega), by kernel_rfl, by kernel_rfl⟩
  · refine R.go 5 (R.cond (v_9 = 1) (by kernel_rfl) (fun c14 => ?_) (fun c14 => ?_))
    · refine R.go 3 (R.lit (s := 1) (n := 4) (cs := rows eI [(-1), 9, 10, 6]) (by kernel_rfl) (by kernel_rfl) ?_)
      refine R.callX (CallX.inF 2 usC frC (pickX_c_r2 c p1_10 h1_11 [(-1), 9, 10, 6] eo1 so1 no1 co1 89 3 r_5.length (rows eT r_5) hc (by simp)) (Nat.le_of_ble_eq_true (by kernel_rfl)) (by kernel_rfl) (by kernel_rfl) (by rintro _ _ ⟨_, _, _, rfl, rfl⟩; exact Nat.le_of_ble_eq_true (by kernel_rfl))) (by kernel_rfl) (by kernel_rfl) (by kernel_rfl) ?_
      rintro _ _ ⟨_, _, ⟨v_15, p1_16, h1_17, rfl, rfl⟩, rfl, rfl⟩
      refine R.idxO 3 3 r_5.length 0 0 (by kernel_rfl) rfl (by omega) (by kernel_rfl) ?_
      refine R.go 1 (R.stF eT 3 89 3 r_5 (0, 0, 0) 0 1 (AI v_15) ((r_5.getD 0 (0, 0, 0)).1, v_15, (r_5.getD 0 (0, 0, 0)).2.2) (by kernel_rfl) eT_len (by omega) (by decide) rfl (by kernel_rfl) ?_)
      refine R.go 7 (R.frz 3 (by kernel_rfl) ?_)
      refine R.kfix 2 (us := usC) (by kernel_rfl) (hfC.frz 3 (LT (r_5.set 0 ((r_5.getD 0 (0, 0, 0)).1, v_15, (r_5.getD 0 (0, 0, 0)).2.2))) (Nat.le_of_ble_eq_true (by kernel_rfl))) ?_
      exact R.retX (res := LT (r_5.set 0 ((r_5.getD 0 (0, 0, 0)).1, v_15, (r_5.getD 0 (0, 0, 0)).2.2))) (hp' := [.box 120 [LB c, AI (p1_16 : Int), .int .u64 h1_17], .list eo1 so1 no1 co1, .dead, .dead]) (by kernel_rfl) (by kernel_rfl) (by kernel_rfl) (by kernel_rfl) ⟨[0, 1], by kernel_rfl, by decide, r_5.set 0 ((r_5.getD 0 (0, 0, 0)).1, v_15, (r_5.getD 0 (0, 0, 0)).2.2), p1_16, h1_17, by first | omega | (simp only [List.length_append, List.length_cons, List.length_nil, List.length_set]; omega), by kernel_rfl, by kernel_rfl⟩
    · refine R.go 5 (R.cond (v_9 = 2) (by kernel_rfl) (fun c18 => ?_) (fun c18 => ?_))
      · refine R.go 3 (R.lit (s := 1) (n := 3) (cs := rows eI [(-1), 9, 3]) (by kernel_rfl) (by kernel_rfl) ?_)
        refine R.callX (CallX.inF 2 usC frC (pickX_c_r2 c p1_10 h1_11 [(-1), 9, 3] eo1 so1 no1 co1 89 3 r_5.length (rows eT r_5) hc (by simp)) (Nat.le_of_ble_eq_true (by kernel_rfl)) (by kernel_rfl) (by kernel_rfl) (by rintro _ _ ⟨_, _, _, rfl, rfl⟩; exact Nat.le_of_ble_eq_true (by kernel_rfl))) (by kernel_rfl) (by kernel_rfl) (by kernel_rfl) ?_
        rintro _ _ ⟨_, _, ⟨v_19, p1_20, h1_21, rfl, rfl⟩, rfl, rfl⟩
        refine R.idxO 3 3 r_5.length 0 0 (by kernel_rfl) rfl (by omega) (by kernel_rfl) ?_
        refine R.go 1 (R.stF eT 3 89 3 r_5 (0, 0, 0) 0 0 (AI v_19) (v_19, (r_5.getD 0 (0, 0, 0)).2.1, (r_5.getD 0 (0, 0, 0)).2.2) (by kernel_rfl) eT_len (by omega) (by decide) rfl (by kernel_rfl) ?_)
        refine R.go 7 (R.frz 3 (by kernel_rfl) ?_)
        refine R.kfix 2 (us := usC) (by kernel_rfl) (hfC.frz 3 (LT (r_5.set 0 (v_19, (r_5.getD 0 (0, 0, 0)).2.1, (r_5.getD 0 (0, 0, 0)).2.2))) (Nat.le_of_ble_eq_true (by kernel_rfl))) ?_
        exact R.retX (res := LT (r_5.set 0 (v_19, (r_5.getD 0 (0, 0, 0)).2.1, (r_5.getD 0 (0, 0, 0)).2.2))) (hp' := [.box 120 [LB c, AI (p1_20 : Int), .int .u64 h1_21], .list eo1 so1 no1 co1, .dead, .dead]) (by kernel_rfl) (by kernel_rfl) (by kernel_rfl) (by kernel_rfl) ⟨[0, 1], by kernel_rfl, by decide, r_5.set 0 (v_19, (r_5.getD 0 (0, 0, 0)).2.1, (r_5.getD 0 (0, 0, 0)).2.2), p1_20, h1_21, by first | omega | (simp only [List.length_append, List.length_cons, List.length_nil, List.length_set]; omega), by kernel_rfl, by kernel_rfl⟩
      · refine R.go 7 (R.frz 3 (by kernel_rfl) ?_)
        refine R.kfix 2 (us := usC) (by kernel_rfl) (hfC.frz 3 (LT r_5) (Nat.le_of_ble_eq_true (by kernel_rfl))) ?_
        exact R.retX (res := LT r_5) (hp' := [.box 120 [LB c, AI (p1_10 : Int), .int .u64 h1_11], .list eo1 so1 no1 co1, .dead, .dead]) (by kernel_rfl) (by kernel_rfl) (by kernel_rfl) (by kernel_rfl) ⟨[0, 1], by kernel_rfl, by decide, r_5, p1_10, h1_11, by first | omega | (simp only [List.length_append, List.length_cons, List.length_nil, List.length_set]; omega), by kernel_rfl, by kernel_rfl⟩

theorem drTF_c (c : List Int) (hc : BY c) : CallX Tryz.prog 19 [LB c] [] (fun (resX : AV) (objX : List AObj) => ∃ a : List (Int × Int), ∃ x : Int, (a.length ≤ 1000) ∧ resX = .tup [LN a, AI x] ∧ objX = []) := by
  have hcl : c.length ≤ 4096 := hc.1
  have hcb := hc.2
  refine CallX.dropE (CallX.ofF Tryz.func19 rfl (by kernel_rfl) ?_)
  intro usC frC hfC
  refine R.go 8 (R.enter (avs := [LB c]) Tryz.func36 rfl (by kernel_rfl) (by kernel_rfl) (by kernel_rfl) ?_)
  intro us1
  refine R.go 9 (R.cv .u64 (c.length : Int) (by kernel_rfl) (u64_id (by omega) (by omega)) (by kernel_rfl) ?_)
  refine R.go 11 (R.loop ((fun | (i, hh) => (⟨(frm 38 [(0, LB c), (3, .ptr 2 0), (4, AI (i : Int))]), [.frame usC frC, .frame us1 (frm 15 [(0, LB c), (2, .nil), (3, AI 0), (5, LB c)]), .box 120 [LB c, AI 0, .int .u64 hh]]⟩ : St) : Nat × Int → St)) (fun | (i, hh) => i ≤ c.length) (fun | (i, hh) => c.length - i) (0, (IntKind.u64.wrap (7129 + (c.length : Int)))) [0, 3, 4] none (by kernel_rfl) (by kernel_rfl) (by kernel_rfl) (by omega) ?_)
  rintro ⟨i, hh⟩ h5_1 R2 N3
  refine R.go 8 ?_
  by_cases c6 : (i : Int) < (c.length : Int)
  · refine R.want (decide ((i : Int) < (c.length : Int))) true (by kernel_rfl) (dT c6) ?_
    refine R.go 1 (R.want (decide ((i : Int) < (c.length : Int))) true (by kernel_rfl) (dT c6) ?_)
    refine R.go 1 (R.pick (decide ((i : Int) < (c.length : Int))) true (by kernel_rfl) (dT c6) (by kernel_rfl) ?_)
    refine R.go 1 (R.cond ((i : Int) < 4096) (by kernel_rfl) (fun c7 => ?_) (fun c7 => ?_))
    · have hbi := hcb i (by omega)
      refine R.go 12 (R.idx eB c 0 i (i : Int) (by kernel_rfl) rfl eB_len (by omega) (by kernel_rfl) ?_)
      refine R.go 1 (R.cv .u64 (c.getD i 0) (by kernel_rfl) (u64_id (by omega) (by omega)) (by kernel_rfl) ?_)
      refine R.go 9 (R.ar ((i : Int) + 1) (by kernel_rfl) (by omega) (by omega) (by kernel_rfl) ?_)
      exact R.go 2 (R.stop R2 (by kernel_rfl) (N3 (i + 1, IntKind.u64.wrap ((IntKind.u64.wrap ((IntKind.u64.wrap (hh * 1099511628211)) + (c.getD i 0))) + 11)) [0, 3, 4] none _ (by kernel_rfl) (by kernel_rfl) (by omega) (by show (c.length - (i + 1)) < (c.length - i); omega)))
    · refine R.go 6 (R.back (.ptr 2 0) (frm 15 [(0, LB c), (2, .nil), (3, AI 0), (5, LB c)]) (by kernel_rfl) (by kernel_rfl) (by kernel_rfl) ?_)
      refine R.go 6 (R.deadF 1 (by kernel_rfl) (by kernel_rfl) ?_)
      refine R.callX (CallX.inF 0 usC frC (CallX.inF 0 [] [] (nextX_c c 0 hh 12 hc) (Nat.le_of_ble_eq_true (by kernel_rfl)) (by kernel_rfl) (by kernel_rfl) (by rintro _ _ ⟨_, _, _, _, rfl, rfl⟩; exact Nat.le_of_ble_eq_true (by kernel_rfl))) (Nat.le_of_ble_eq_true (by kernel_rfl)) (by kernel_rfl) (by kernel_rfl) (by rintro _ _ ⟨_, _, ⟨_, _, _, _, rfl, rfl⟩, rfl, rfl⟩; exact Nat.le_of_ble_eq_true (by kernel_rfl))) (by kernel_rfl) (by kernel_rfl) (by kernel_rfl) ?_
      rintro _ _ ⟨_, _, ⟨_, _, ⟨v_8, p1_9, h1_10, f11, rfl, rfl⟩, rfl, rfl⟩, rfl, rfl⟩
      refine R.ar (3 + v_8) (by kernel_rfl) (by omega) (by omega) (by kernel_rfl) ?_
      refine R.callX (CallX.inF 0 usC frC (CallX.inF 0 [] [] (anyX_c c p1_9 h1_10 (3 + v_8) 3 true hc (by omega)) (Nat.le_of_ble_eq_true (by kernel_rfl)) (by kernel_rfl) (by kernel_rfl) (by rintro _ _ ⟨_, _, _, _, rfl, rfl⟩; exact Nat.le_of_ble_eq_true (by kernel_rfl))) (Nat.le_of_ble_eq_true (by kernel_rfl)) (by kernel_rfl) (by kernel_rfl) (by rintro _ _ ⟨_, _, ⟨_, _, _, _, rfl, rfl⟩, rfl, rfl⟩; exact Nat.le_of_ble_eq_true (by kernel_rfl))) (by kernel_rfl) (by kernel_rfl) (by kernel_rfl) ?_
      rintro _ _ ⟨_, _, ⟨_, _, ⟨r_12, p1_13, h1_14, f15, rfl, rfl⟩, rfl, rfl⟩, rfl, rfl⟩
      refine R.go 1 (R.lit (s := 1) (n := 6) (cs := rows eI [0, 1, 0, 1, 2, (-1)]) (by kernel_rfl) (by kernel_rfl) ?_)
      refine R.callX (CallX.inF 0 usC frC (CallX.inF 0 [] [] (pickX_c c p1_13 h1_14 [0, 1, 0, 1, 2, (-1)] hc (by simp)) (Nat.le_of_ble_eq_true (by kernel_rfl)) (by kernel_rfl) (by kernel_rfl) (by rintro _ _ ⟨_, _, _, rfl, rfl⟩; exact Nat.le_of_ble_eq_true (by kernel_rfl))) (Nat.le_of_ble_eq_true (by kernel_rfl)) (by kernel_rfl) (by kernel_rfl) (by rintro _ _ ⟨_, _, ⟨_, _, _, rfl, rfl⟩, rfl, rfl⟩; exact Nat.le_of_ble_eq_true (by kernel_rfl))) (by kernel_rfl) (by kernel_rfl) (by kernel_rfl) ?_
      rintro _ _ ⟨_, _, ⟨_, _, ⟨v_16, p1_17, h1_18, rfl, rfl⟩, rfl, rfl⟩, rfl, rfl⟩
      exact R.go 3 (R.retX (res := .tup [LN r_12, AI v_16]) (hp' := [.dead, .frame [] [], .box 120 [LB c, AI (p1_17 : Int), .int .u64 h1_18]]) (by kernel_rfl) (by kernel_rfl) (by kernel_rfl) (by kernel_rfl) ⟨[], by kernel_rfl, by decide, r_12, v_16, by first | assumption | omega, by kernel_rfl, by kernel_rfl⟩)
  · refine R.skp (decide ((i : Int) < (c.length : Int))) true (by kernel_rfl) (dF c6) (by kernel_rfl) ?_
    refine R.skp (decide ((i : Int) < (c.length : Int))) true (by kernel_rfl) (dF c6) (by kernel_rfl) ?_
    refine R.pick (decide ((i : Int) < (c.length : Int))) false (by kernel_rfl) (dF c6) (by kernel_rfl) ?_
    refine R.go 8 (R.back (.ptr 2 0) (frm 15 [(0, LB c), (2, .nil), (3, AI 0), (5, LB c)]) (by kernel_rfl) (by kernel_rfl) (by kernel_rfl) ?_)
    refine R.go 6 (R.deadF 1 (by kernel_rfl) (by kernel_rfl) ?_)
    refine R.callX (CallX.inF 0 usC frC (CallX.inF 0 [] [] (nextX_c c 0 hh 12 hc) (Nat.le_of_ble_eq_true (by kernel_rfl)) (by kernel_rfl) (by kernel_rfl) (by rintro _ _ ⟨_, _, _, _, rfl, rfl⟩; exact Nat.le_of_ble_eq_true (by kernel_rfl))) (Nat.le_of_ble_eq_true (by kernel_rfl)) (by kernel_rfl) (by kernel_rfl) (by rintro _ _ ⟨_, _, ⟨_, _, _, _, rfl, rfl⟩, rfl, rfl⟩; exact Nat.le_of_ble_eq_true (by kernel_rfl))) (by kernel_rfl) (by kernel_rfl) (by kernel_rfl) ?_
    rintro _ _ ⟨_, _, ⟨_, _, ⟨v_19, p1_20, h1_21, f22, rfl, rfl⟩, rfl, rfl⟩, rfl, rfl⟩
    refine R.ar (3 + v_19) (by kernel_rfl) (by omega) (by omega) (by kernel_rfl) ?_
    refine R.callX (CallX.inF 0 usC frC (CallX.inF 0 [] [] (anyX_c c p1_20 h1_21 (3 + v_19) 3 true hc (by omega)) (Nat.le_of_ble_eq_true (by kernel_rfl)) (by kernel_rfl) (by kernel_rfl) (by rintro _ _ ⟨_, _, _, _, rfl, rfl⟩; exact Nat.le_of_ble_eq_true (by kernel_rfl))) (Nat.le_of_ble_eq_true (by kernel_rfl)) (by kernel_rfl) (by kernel_rfl) (by rintro _ _ ⟨_, _, ⟨_, _, _, _, rfl, rfl⟩, rfl, rfl⟩; exact Nat.le_of_ble_eq_true (by kernel_rfl))) (by kernel_rfl) (by kernel_rfl) (by kernel_rfl) ?_
    rintro _ _ ⟨_, _, ⟨_, _, ⟨r_23, p1_24, h1_25, f26, rfl, rfl⟩, rfl, rfl⟩, rfl, rfl⟩
    refine R.go 1 (R.lit (s := 1) (n := 6) (cs := rows eI [0, 1, 0, 1, 2, (-1)]) (by kernel_rfl) (by kernel_rfl) ?_)
    refine R.callX (CallX.inF 0 usC frC (CallX.inF 0 [] [] (pickX_c c p1_24 h1_25 [0, 1, 0, 1, 2, (-1)] hc (by simp)) (Nat.le_of_ble_eq_true (by kernel_rfl)) (by kernel_rfl) (by kernel_rfl) (by rintro _ _ ⟨_, _, _, rfl, rfl⟩; exact Nat.le_of_ble_eq_true (by kernel_rfl))) (Nat.le_of_ble_eq_true (by kernel_rfl)) (by kernel_rfl) (by kernel_rfl) (by rintro _ _ ⟨_, _, ⟨_, _, _, rfl, rfl⟩, rfl, rfl⟩; exact Nat.le_of_ble_eq_true (by kernel_rfl))) (by kernel_rfl) (by kernel_rfl) (by kernel_rfl) ?_
    rintro _ _ ⟨_, _, ⟨_, _, ⟨v_27, p1_28, h1_29, rfl, rfl⟩, rfl, rfl⟩, rfl, rfl⟩
    exact R.go 3 (R.retX (res := .tup [LN r_23, AI v_27]) (hp' := [.dead, .frame [] [], .box 120 [LB c, AI (p1_28 : Int), .int .u64 h1_29]]) (by kernel_rfl) (by kernel_rfl) (by kernel_rfl) (by kernel_rfl) ⟨[], by kernel_rfl, by decide, r_23, v_27, by first | assumption | omega, by kernel_rfl, by kernel_rfl⟩)

end Go.Proofs.YtgebepfdphmjcaaGreat
