/- Texts of the proof: E06, P01, P02, E07. -/
import Derived.Test.YtpalghbfhgimkaaPartI

/-! Draws of models. -/
namespace Go.Proofs.Ytpalghbfhgimkaa
open Go.RowKit Go.Abs

theorem someM_c_r2 (c : List Int) (p : Nat) (h : Int) (worlds : Int) (eo1 : Nat) (so1 : Nat) (no1 : Nat) (co1 : List AV) (eo2 : Nat) (so2 : Nat) (no2 : Nat) (co2 : List AV) (hc : BY c) (hw : 0 ≤ worlds ∧ worlds ≤ 20) : CallX Try.prog 71 [.ptr 0 0, AI worlds] [.box 98 [LB c, AI (p : Int), .int .u64 h], .list eo1 so1 no1 co1, .list eo2 so2 no2 co2] (fun (resX : AV) (objX : List AObj) => ∃ n : Int, ∃ xs : List Int, ∃ vs : List Int, ∃ p1 : Nat, ∃ h1 : Int, (0 ≤ n ∧ n ≤ worlds) ∧ ((xs.length : Int) = n) ∧ (vs.length = 6) ∧ resX = .agg [AI n, LI xs, .ref 3] ∧ objX = [.box 98 [LB c, AI (p1 : Int), .int .u64 h1], .list eo1 so1 no1 co1, .list eo2 so2 no2 co2, rowA eI 2 1 vs]) := by
  have hcl : c.length ≤ 4096 := hc.1
  have hcb := hc.2
  refine CallX.dropE (CallX.ofF Try.func71 rfl (by kernel_rfl) ?_)
  intro usC frC hfC
  refine R.go 8 (R.callX (CallX.inF 3 usC frC (CallX.box 3 34 [AI 0, .nil, .nil] (someX_c_r3 c p h worlds eo1 so1 no1 co1 eo2 so2 no2 co2 34 3 1 [AI 0, .nil, .nil] hc hw) (by kernel_rfl) (by kernel_rfl) (by kernel_rfl) (by kernel_rfl) (by rintro _ _ ⟨_, _, _, _, _, _, rfl, rfl⟩; exact ⟨by kernel_rfl, by kernel_rfl, by kernel_rfl⟩)) (Nat.le_of_ble_eq_true (by kernel_rfl)) (by kernel_rfl) (by kernel_rfl) (by rintro _ _ ⟨_, ⟨_, _, _, _, _, _, rfl, rfl⟩, rfl⟩; exact Nat.le_of_ble_eq_true (by kernel_rfl))) (by kernel_rfl) (by kernel_rfl) (by kernel_rfl) ?_)
  rintro _ _ ⟨_, _, ⟨_, ⟨n_1, xs_2, p1_3, h1_4, f5, f6, rfl, rfl⟩, rfl⟩, rfl, rfl⟩
  refine R.go 16 (R.nilB 6 2 2 1 (by kernel_rfl) ?_)
  refine R.loop ((fun | (i, us, q, k) => (⟨(frm 30 [(0, .ptr 0 0), (4, .ptr 4 0), (5, .ptr 5 0), (6, .ptr 6 0), (7, AI (i : Int))]), [.box 98 [LB c, AI (q : Int), .int .u64 k], .list eo1 so1 no1 co1, .list eo2 so2 no2 co2, .frame usC frC, .box 34 [AI 0, .nil, .nil], .box 32 [AI n_1, LI xs_2], .box 34 [AI n_1, LI xs_2, .ref 7], rowA eI 2 1 us]⟩ : St) : Nat × (List Int) × Nat × Int → St)) (fun | (i, us, q, k) => (i ≤ 6) ∧ (us.length = i)) (fun | (i, us, q, k) => 6 - i) (0, [], p1_3, h1_4) [0, 4, 5, 6, 7] none (by kernel_rfl) (by kernel_rfl) (by kernel_rfl) ⟨(by omega), (by rfl)⟩ ?_
  rintro ⟨i, us, q, k⟩ ⟨h10_1, h10_2⟩ R7 N8
  have hb : 1 ≤ shl64 1 n_1 ∧ shl64 1 n_1 ≤ 4611686018427387904 := shl_rng n_1 (by omega) (by omega)
  refine R.go 6 (R.cond ((i : Int) < 6) (by kernel_rfl) (fun c11 => ?_) (fun c11 => ?_))
  · refine R.go 3 (R.any (by decide +kernel) (by kernel_rfl) ?_)
    refine R.anyF 3 (by kernel_rfl) (np_retX _ _ _ _ _ _) ?_
    refine R.anyA 0 (.ptr 6 2) (by kernel_rfl) (np_retX _ _ _ _ _ _) ?_
    refine R.anyA 4 (.ptr 5 0) (by kernel_rfl) (np_retX _ _ _ _ _ _) ?_
    refine R.any2 1 5 (by kernel_rfl) (by kernel_rfl) ?_ ?_
    · refine R.go 2 (R.any2 2 5 (by kernel_rfl) (by kernel_rfl) ?_ ?_)
      · refine R.call false (l01Own_c us (by first | omega | (simp only [refI_len, wout_len]; omega) | (simp <;> omega))) (by kernel_rfl) (ownA_closed eI_closed 2 1 us) (by kernel_rfl) ?_
        refine R.go 1 (R.any1 5 (by kernel_rfl) (by kernel_rfl) ?_)
        refine R.go 2 (R.any1 6 (by kernel_rfl) (by kernel_rfl) ?_)
        refine R.call true (l01Full_c n_1 (by first | omega | (simp only [refI_len, wout_len]; omega) | (simp <;> omega)) (by first | omega | (simp only [refI_len, wout_len]; omega) | (simp <;> omega))) (by kernel_rfl) rfl (by kernel_rfl) ?_
        refine R.go 1 (R.anyI 7 (AI (IntKind.i64.wrap (((shl64 1 n_1) - 1) + 1))) (by kernel_rfl) (np_retX _ _ _ _ _ _) ?_)
        refine R.any1 8 (by kernel_rfl) (by kernel_rfl) ?_
        refine R.callX (CallX.inF 3 usC frC (CallX.box 4 32 [AI n_1, LI xs_2] (CallX.box 3 34 [AI 0, .nil, .nil] (nextX_c_rooooCoo c q k (IntKind.i64.wrap (((shl64 1 n_1) - 1) + 1)) eo1 so1 no1 co1 eo2 so2 no2 co2 34 3 1 [AI 0, .nil, .nil] 32 2 1 [AI n_1, LI xs_2] 34 n_1 xs_2 2 1 us.length (rows eI us) 2 1 us.length (rows eI us) hc) (by kernel_rfl) (by kernel_rfl) (by kernel_rfl) (by kernel_rfl) (by rintro _ _ ⟨_, _, _, _, rfl, rfl⟩; exact ⟨by kernel_rfl, by kernel_rfl, by kernel_rfl⟩)) (by kernel_rfl) (by kernel_rfl) (by kernel_rfl) (by kernel_rfl) (by rintro _ _ ⟨_, ⟨_, _, _, _, rfl, rfl⟩, rfl⟩; exact ⟨by kernel_rfl, by kernel_rfl, by kernel_rfl⟩)) (Nat.le_of_ble_eq_true (by kernel_rfl)) (by kernel_rfl) (by kernel_rfl) (by rintro _ _ ⟨_, ⟨_, ⟨_, _, _, _, rfl, rfl⟩, rfl⟩, rfl⟩; exact Nat.le_of_ble_eq_true (by kernel_rfl))) (by kernel_rfl) (by kernel_rfl) (by kernel_rfl) ?_
        rintro _ _ ⟨_, _, ⟨_, ⟨_, ⟨v_12, p1_13, h1_14, f15, rfl, rfl⟩, rfl⟩, rfl⟩, rfl, rfl⟩
        refine R.go 1 (R.any1 9 (by kernel_rfl) (by kernel_rfl) ?_)
        refine R.go 2 (R.any1 10 (by kernel_rfl) (by kernel_rfl) ?_)
        refine R.app eI us [v_12] 8 2 1 8 (by kernel_rfl) eI_one (by decide) (by first | omega | (simp <;> omega)) (by kernel_rfl) ?_
        refine R.kfix 3 (us := usC) (by kernel_rfl) (hfC.kill 8 (Nat.le_of_ble_eq_true (by kernel_rfl))) ?_
        refine R.go 1 (R.anyA 11 (.ptr 6 2) (by kernel_rfl) (np_retX _ _ _ _ _ _) ?_)
        refine R.any1 12 (by kernel_rfl) (by kernel_rfl) ?_
        refine R.go 2 (R.any0 (by kernel_rfl) ?_)
        refine R.go 3 (R.ar ((i : Int) + 1) (by kernel_rfl) (by omega) (by omega) (by kernel_rfl) ?_)
        exact R.go 2 (R.stop R7 (by kernel_rfl) (N8 (i + 1, us ++ [v_12], p1_13, h1_14) [0, 4, 5, 6, 7] (some [0, 1, 2, 3, 4, 5, 6, 8]) _ (by kernel_rfl) (canonF (fr := frC) (fun (frX : List AV) => (⟨(frm 30 [(0, .ptr 0 0), (4, .ptr 4 0), (5, .ptr 5 0), (6, .ptr 6 0), (7, AI ((i : Int) + 1))]), [.box 98 [LB c, AI (p1_13 : Int), .int .u64 h1_14], .list eo1 so1 no1 co1, .list eo2 so2 no2 co2, .frame usC frX, .box 34 [AI 0, .nil, .nil], .box 32 [AI n_1, LI xs_2], .box 34 [AI n_1, LI xs_2, .ref 7], rowA eI 2 1 (us ++ [v_12])]⟩ : St)) (hfC.ren _ (by kernel_rfl)) (by kernel_rfl) (by kernel_rfl)) ⟨(by omega), (by (simp <;> omega))⟩ (by show (6 - (i + 1)) < (6 - i); omega)))
      · refine R.go 2 (R.any1 2 (by kernel_rfl) (by kernel_rfl) ?_)
        refine R.call false (l01Own_c us (by first | omega | (simp only [refI_len, wout_len]; omega) | (simp <;> omega))) (by kernel_rfl) (ownA_closed eI_closed 2 1 us) (by kernel_rfl) ?_
        refine R.go 1 (R.any1 6 (by kernel_rfl) (by kernel_rfl) ?_)
        refine R.call true (l01Full_c n_1 (by first | omega | (simp only [refI_len, wout_len]; omega) | (simp <;> omega)) (by first | omega | (simp only [refI_len, wout_len]; omega) | (simp <;> omega))) (by kernel_rfl) rfl (by kernel_rfl) ?_
        refine R.go 1 (R.anyI 7 (AI (IntKind.i64.wrap (((shl64 1 n_1) - 1) + 1))) (by kernel_rfl) (np_retX _ _ _ _ _ _) ?_)
        refine R.any1 8 (by kernel_rfl) (by kernel_rfl) ?_
        refine R.callX (CallX.inF 3 usC frC (CallX.box 4 32 [AI n_1, LI xs_2] (CallX.box 3 34 [AI 0, .nil, .nil] (nextX_c_rooooCoo c q k (IntKind.i64.wrap (((shl64 1 n_1) - 1) + 1)) eo1 so1 no1 co1 eo2 so2 no2 co2 34 3 1 [AI 0, .nil, .nil] 32 2 1 [AI n_1, LI xs_2] 34 n_1 xs_2 2 1 us.length (rows eI us) 2 1 us.length (rows eI us) hc) (by kernel_rfl) (by kernel_rfl) (by kernel_rfl) (by kernel_rfl) (by rintro _ _ ⟨_, _, _, _, rfl, rfl⟩; exact ⟨by kernel_rfl, by kernel_rfl, by kernel_rfl⟩)) (by kernel_rfl) (by kernel_rfl) (by kernel_rfl) (by kernel_rfl) (by rintro _ _ ⟨_, ⟨_, _, _, _, rfl, rfl⟩, rfl⟩; exact ⟨by kernel_rfl, by kernel_rfl, by kernel_rfl⟩)) (Nat.le_of_ble_eq_true (by kernel_rfl)) (by kernel_rfl) (by kernel_rfl) (by rintro _ _ ⟨_, ⟨_, ⟨_, _, _, _, rfl, rfl⟩, rfl⟩, rfl⟩; exact Nat.le_of_ble_eq_true (by kernel_rfl))) (by kernel_rfl) (by kernel_rfl) (by kernel_rfl) ?_
        rintro _ _ ⟨_, _, ⟨_, ⟨_, ⟨v_16, p1_17, h1_18, f19, rfl, rfl⟩, rfl⟩, rfl⟩, rfl, rfl⟩
        refine R.go 1 (R.any1 9 (by kernel_rfl) (by kernel_rfl) ?_)
        refine R.go 2 (R.any1 10 (by kernel_rfl) (by kernel_rfl) ?_)
        refine R.app eI us [v_16] 8 2 1 8 (by kernel_rfl) eI_one (by decide) (by first | omega | (simp <;> omega)) (by kernel_rfl) ?_
        refine R.kfix 3 (us := usC) (by kernel_rfl) (hfC.kill 8 (Nat.le_of_ble_eq_true (by kernel_rfl))) ?_
        refine R.go 1 (R.anyA 11 (.ptr 6 2) (by kernel_rfl) (np_retX _ _ _ _ _ _) ?_)
        refine R.any1 12 (by kernel_rfl) (by kernel_rfl) ?_
        refine R.go 2 (R.any0 (by kernel_rfl) ?_)
        refine R.go 3 (R.ar ((i : Int) + 1) (by kernel_rfl) (by omega) (by omega) (by kernel_rfl) ?_)
        exact R.go 2 (R.stop R7 (by kernel_rfl) (N8 (i + 1, us ++ [v_16], p1_17, h1_18) [0, 4, 5, 6, 7] (some [0, 1, 2, 3, 4, 5, 6, 8]) _ (by kernel_rfl) (canonF (fr := frC) (fun (frX : List AV) => (⟨(frm 30 [(0, .ptr 0 0), (4, .ptr 4 0), (5, .ptr 5 0), (6, .ptr 6 0), (7, AI ((i : Int) + 1))]), [.box 98 [LB c, AI (p1_17 : Int), .int .u64 h1_18], .list eo1 so1 no1 co1, .list eo2 so2 no2 co2, .frame usC frX, .box 34 [AI 0, .nil, .nil], .box 32 [AI n_1, LI xs_2], .box 34 [AI n_1, LI xs_2, .ref 7], rowA eI 2 1 (us ++ [v_16])]⟩ : St)) (hfC.ren _ (by kernel_rfl)) (by kernel_rfl) (by kernel_rfl)) ⟨(by omega), (by (simp <;> omega))⟩ (by show (6 - (i + 1)) < (6 - i); omega)))
    · refine R.go 2 (R.any1 1 (by kernel_rfl) (by kernel_rfl) ?_)
      refine R.go 2 (R.any1 2 (by kernel_rfl) (by kernel_rfl) ?_)
      refine R.call false (l01Own_c us (by first | omega | (simp only [refI_len, wout_len]; omega) | (simp <;> omega))) (by kernel_rfl) (ownA_closed eI_closed 2 1 us) (by kernel_rfl) ?_
      refine R.go 1 (R.any1 6 (by kernel_rfl) (by kernel_rfl) ?_)
      refine R.call true (l01Full_c n_1 (by first | omega | (simp only [refI_len, wout_len]; omega) | (simp <;> omega)) (by first | omega | (simp only [refI_len, wout_len]; omega) | (simp <;> omega))) (by kernel_rfl) rfl (by kernel_rfl) ?_
      refine R.go 1 (R.anyI 7 (AI (IntKind.i64.wrap (((shl64 1 n_1) - 1) + 1))) (by kernel_rfl) (np_retX _ _ _ _ _ _) ?_)
      refine R.any1 8 (by kernel_rfl) (by kernel_rfl) ?_
      refine R.callX (CallX.inF 3 usC frC (CallX.box 4 32 [AI n_1, LI xs_2] (CallX.box 3 34 [AI 0, .nil, .nil] (nextX_c_rooooCoo c q k (IntKind.i64.wrap (((shl64 1 n_1) - 1) + 1)) eo1 so1 no1 co1 eo2 so2 no2 co2 34 3 1 [AI 0, .nil, .nil] 32 2 1 [AI n_1, LI xs_2] 34 n_1 xs_2 2 1 us.length (rows eI us) 2 1 us.length (rows eI us) hc) (by kernel_rfl) (by kernel_rfl) (by kernel_rfl) (by kernel_rfl) (by rintro _ _ ⟨_, _, _, _, rfl, rfl⟩; exact ⟨by kernel_rfl, by kernel_rfl, by kernel_rfl⟩)) (by kernel_rfl) (by kernel_rfl) (by kernel_rfl) (by kernel_rfl) (by rintro _ _ ⟨_, ⟨_, _, _, _, rfl, rfl⟩, rfl⟩; exact ⟨by kernel_rfl, by kernel_rfl, by kernel_rfl⟩)) (Nat.le_of_ble_eq_true (by kernel_rfl)) (by kernel_rfl) (by kernel_rfl) (by rintro _ _ ⟨_, ⟨_, ⟨_, _, _, _, rfl, rfl⟩, rfl⟩, rfl⟩; exact Nat.le_of_ble_eq_true (by kernel_rfl))) (by kernel_rfl) (by kernel_rfl) (by kernel_rfl) ?_
      rintro _ _ ⟨_, _, ⟨_, ⟨_, ⟨v_20, p1_21, h1_22, f23, rfl, rfl⟩, rfl⟩, rfl⟩, rfl, rfl⟩
      refine R.go 1 (R.any1 9 (by kernel_rfl) (by kernel_rfl) ?_)
      refine R.go 2 (R.any1 10 (by kernel_rfl) (by kernel_rfl) ?_)
      refine R.app eI us [v_20] 8 2 1 8 (by kernel_rfl) eI_one (by decide) (by first | omega | (simp <;> omega)) (by kernel_rfl) ?_
      refine R.kfix 3 (us := usC) (by kernel_rfl) (hfC.kill 8 (Nat.le_of_ble_eq_true (by kernel_rfl))) ?_
      refine R.go 1 (R.anyA 11 (.ptr 6 2) (by kernel_rfl) (np_retX _ _ _ _ _ _) ?_)
      refine R.any1 12 (by kernel_rfl) (by kernel_rfl) ?_
      refine R.go 2 (R.any0 (by kernel_rfl) ?_)
      refine R.go 3 (R.ar ((i : Int) + 1) (by kernel_rfl) (by omega) (by omega) (by kernel_rfl) ?_)
      exact R.go 2 (R.stop R7 (by kernel_rfl) (N8 (i + 1, us ++ [v_20], p1_21, h1_22) [0, 4, 5, 6, 7] (some [0, 1, 2, 3, 4, 5, 6, 8]) _ (by kernel_rfl) (canonF (fr := frC) (fun (frX : List AV) => (⟨(frm 30 [(0, .ptr 0 0), (4, .ptr 4 0), (5, .ptr 5 0), (6, .ptr 6 0), (7, AI ((i : Int) + 1))]), [.box 98 [LB c, AI (p1_21 : Int), .int .u64 h1_22], .list eo1 so1 no1 co1, .list eo2 so2 no2 co2, .frame usC frX, .box 34 [AI 0, .nil, .nil], .box 32 [AI n_1, LI xs_2], .box 34 [AI n_1, LI xs_2, .ref 7], rowA eI 2 1 (us ++ [v_20])]⟩ : St)) (hfC.ren _ (by kernel_rfl)) (by kernel_rfl) (by kernel_rfl)) ⟨(by omega), (by (simp <;> omega))⟩ (by show (6 - (i + 1)) < (6 - i); omega)))
  · exact R.go 6 (R.retX (res := .agg [AI n_1, LI xs_2, .ref 7]) (hp' := [.box 98 [LB c, AI (q : Int), .int .u64 k], .list eo1 so1 no1 co1, .list eo2 so2 no2 co2, .dead, .box 34 [AI n_1, LI xs_2, .ref 7], .box 32 [AI n_1, LI xs_2], .box 34 [AI n_1, LI xs_2, .ref 7], rowA eI 2 1 us]) (by kernel_rfl) (by kernel_rfl) (by kernel_rfl) (by kernel_rfl) ⟨[0, 1, 2, 7], by kernel_rfl, by decide, n_1, xs_2, us, q, k, by first | omega | (simp only [refI_len, wout_len]; done) | (simp only [refI_len, wout_len]; omega), by first | omega | (simp only [refI_len, wout_len]; done) | (simp only [refI_len, wout_len]; omega), by first | omega | (simp only [refI_len, wout_len]; done) | (simp only [refI_len, wout_len]; omega), by kernel_rfl, by kernel_rfl⟩)

theorem modelX_c_r1 (c : List Int) (p : Nat) (h : Int) (worlds : Int) (eo1 : Nat) (so1 : Nat) (no1 : Nat) (co1 : List AV) (hc : BY c) (hw : 0 ≤ worlds ∧ worlds ≤ 20) : CallX Try.prog 48 [.ptr 0 0, AI worlds] [.box 98 [LB c, AI (p : Int), .int .u64 h], .list eo1 so1 no1 co1] (fun (resX : AV) (objX : List AObj) => ∃ n : Int, ∃ xs : List Int, ∃ vs : List Int, ∃ p1 : Nat, ∃ h1 : Int, ((xs.length : Int) ≤ worlds + 1) ∧ (vs.length ≤ 6) ∧ resX = .agg [AI n, LI xs, LI vs] ∧ objX = [.box 98 [LB c, AI (p1 : Int), .int .u64 h1], .list eo1 so1 no1 co1]) := by
  have hcl : c.length ≤ 4096 := hc.1
  have hcb := hc.2
  refine CallX.dropE (CallX.ofF Try.func48 rfl (by kernel_rfl) ?_)
  intro usC frC hfC
  refine R.go 8 (R.callX (CallX.inF 2 usC frC (CallX.box 2 34 [AI 0, .nil, .nil] (someM_c_r2 c p h worlds eo1 so1 no1 co1 34 3 1 [AI 0, .nil, .nil] hc hw) (by kernel_rfl) (by kernel_rfl) (by kernel_rfl) (by kernel_rfl) (by rintro _ _ ⟨_, _, _, _, _, _, _, _, rfl, rfl⟩; exact ⟨by kernel_rfl, by kernel_rfl, by kernel_rfl⟩)) (Nat.le_of_ble_eq_true (by kernel_rfl)) (by kernel_rfl) (by kernel_rfl) (by rintro _ _ ⟨_, ⟨_, _, _, _, _, _, _, _, rfl, rfl⟩, rfl⟩; exact Nat.le_of_ble_eq_true (by kernel_rfl))) (by kernel_rfl) (by kernel_rfl) (by kernel_rfl) ?_)
  rintro _ _ ⟨_, _, ⟨_, ⟨n_1, xs_2, vs_3, p1_4, h1_5, f6, f7, f8, rfl, rfl⟩, rfl⟩, rfl, rfl⟩
  refine R.go 7 (R.callX (CallX.inF 2 usC frC (CallX.box 2 34 [AI 0, .nil, .nil] (nextX_c_r3c c p1_4 h1_5 50 eo1 so1 no1 co1 34 3 1 [AI 0, .nil, .nil] 2 1 vs_3.length (rows eI vs_3) 34 n_1 xs_2 hc) (by kernel_rfl) (by kernel_rfl) (by kernel_rfl) (by kernel_rfl) (by rintro _ _ ⟨_, _, _, _, rfl, rfl⟩; exact ⟨by kernel_rfl, by kernel_rfl, by kernel_rfl⟩)) (Nat.le_of_ble_eq_true (by kernel_rfl)) (by kernel_rfl) (by kernel_rfl) (by rintro _ _ ⟨_, ⟨_, _, _, _, rfl, rfl⟩, rfl⟩; exact Nat.le_of_ble_eq_true (by kernel_rfl))) (by kernel_rfl) (by kernel_rfl) (by kernel_rfl) ?_)
  rintro _ _ ⟨_, _, ⟨_, ⟨v_9, p1_10, h1_11, f12, rfl, rfl⟩, rfl⟩, rfl, rfl⟩
  refine R.go 7 (R.cond (v_9 = 0) (by kernel_rfl) (fun c13 => ?_) (fun c13 => ?_))
  · refine R.go 1 (R.frz 4 (by kernel_rfl) ?_)
    refine R.kfix 2 (us := usC) (by kernel_rfl) (hfC.frz 4 (LI vs_3) (Nat.le_of_ble_eq_true (by kernel_rfl))) ?_
    refine R.go 2 (R.deadF 4 (by kernel_rfl) (by kernel_rfl) ?_)
    refine R.callX (CallX.inF 2 usC frC (CallX.inF 3 [] [] (CallX.box 3 34 [AI n_1, LI xs_2, LI vs_3] (CallX.box 2 34 [AI 0, .nil, .nil] (frameX_c_r3 c p1_10 h1_11 worlds eo1 so1 no1 co1 34 3 1 [AI 0, .nil, .nil] 34 3 1 [AI n_1, LI xs_2, LI vs_3] hc hw) (by kernel_rfl) (by kernel_rfl) (by kernel_rfl) (by kernel_rfl) (by rintro _ _ ⟨_, _, _, _, _, rfl, rfl⟩; exact ⟨by kernel_rfl, by kernel_rfl, by kernel_rfl⟩)) (by kernel_rfl) (by kernel_rfl) (by kernel_rfl) (by kernel_rfl) (by rintro _ _ ⟨_, ⟨_, _, _, _, _, rfl, rfl⟩, rfl⟩; exact ⟨by kernel_rfl, by kernel_rfl, by kernel_rfl⟩)) (Nat.le_of_ble_eq_true (by kernel_rfl)) (by kernel_rfl) (by kernel_rfl) (by rintro _ _ ⟨_, ⟨_, ⟨_, _, _, _, _, rfl, rfl⟩, rfl⟩, rfl⟩; exact Nat.le_of_ble_eq_true (by kernel_rfl))) (Nat.le_of_ble_eq_true (by kernel_rfl)) (by kernel_rfl) (by kernel_rfl) (by rintro _ _ ⟨_, _, ⟨_, ⟨_, ⟨_, _, _, _, _, rfl, rfl⟩, rfl⟩, rfl⟩, rfl, rfl⟩; exact Nat.le_of_ble_eq_true (by kernel_rfl))) (by kernel_rfl) (by kernel_rfl) (by kernel_rfl) ?_
    rintro _ _ ⟨_, _, ⟨_, _, ⟨_, ⟨_, ⟨n_14, xs_15, p1_16, h1_17, f18, rfl, rfl⟩, rfl⟩, rfl⟩, rfl, rfl⟩, rfl, rfl⟩
    exact R.go 9 (R.retX (res := .agg [AI n_14, LI xs_15, LI vs_3]) (hp' := [.box 98 [LB c, AI (p1_16 : Int), .int .u64 h1_17], .list eo1 so1 no1 co1, .dead, .box 34 [AI n_14, LI xs_15, LI vs_3], .frame [] [], .box 34 [AI n_14, LI xs_15, LI vs_3]]) (by kernel_rfl) (by kernel_rfl) (by kernel_rfl) (by kernel_rfl) ⟨[0, 1], by kernel_rfl, by decide, n_14, xs_15, vs_3, p1_16, h1_17, by first | omega | (simp only [List.length_drop, List.length_set]; omega), by first | omega | (simp only [List.length_drop, List.length_set]; omega), by kernel_rfl, by kernel_rfl⟩)
  · refine R.go 5 (R.cond (v_9 = 1) (by kernel_rfl) (fun c19 => ?_) (fun c19 => ?_))
    · refine R.go 3 (R.frz 4 (by kernel_rfl) ?_)
      refine R.kfix 2 (us := usC) (by kernel_rfl) (hfC.frz 4 (LI vs_3) (Nat.le_of_ble_eq_true (by kernel_rfl))) ?_
      refine R.slL eI vs_3 1 1 (by kernel_rfl) rfl eI_len (by omega) (by kernel_rfl) ?_
      exact R.go 9 (R.retX (res := .agg [AI n_1, LI xs_2, LI (vs_3.drop 1)]) (hp' := [.box 98 [LB c, AI (p1_10 : Int), .int .u64 h1_11], .list eo1 so1 no1 co1, .dead, .box 34 [AI n_1, LI xs_2, LI (vs_3.drop 1)], .dead, .box 34 [AI n_1, LI xs_2, LI (vs_3.drop 1)]]) (by kernel_rfl) (by kernel_rfl) (by kernel_rfl) (by kernel_rfl) ⟨[0, 1], by kernel_rfl, by decide, n_1, xs_2, vs_3.drop 1, p1_10, h1_11, by first | omega | (simp only [List.length_drop, List.length_set]; omega), by first | omega | (simp only [List.length_drop, List.length_set]; omega), by kernel_rfl, by kernel_rfl⟩)
    · have hb : 1 ≤ shl64 1 n_1 ∧ shl64 1 n_1 ≤ 4611686018427387904 := shl_rng n_1 (by omega) (by omega)
      refine R.go 5 (R.cond (v_9 = 2) (by kernel_rfl) (fun c20 => ?_) (fun c20 => ?_))
      · refine R.any (by decide +kernel) (by kernel_rfl) ?_
        refine R.anyF 2 (by kernel_rfl) (np_retX _ _ _ _ _ _) ?_
        refine R.anyF 4 (by kernel_rfl) (np_retX _ _ _ _ _ _) ?_
        refine R.anyA 0 (.ptr 5 2) (by kernel_rfl) (np_retX _ _ _ _ _ _) ?_
        refine R.anyA 5 (.ptr 5 0) (by kernel_rfl) (np_retX _ _ _ _ _ _) ?_
        refine R.anyA 6 (.ptr 5 0) (by kernel_rfl) (np_retX _ _ _ _ _ _) ?_
        refine R.any3 1 3 7 (by kernel_rfl) (by kernel_rfl) ?_ ?_ ?_
        · refine R.go 2 (R.any2 3 7 (by kernel_rfl) (by kernel_rfl) ?_ ?_)
          · refine R.callX (CallX.inF 2 usC frC (CallX.box 2 34 [AI 0, .nil, .nil] (nextX_c_r3c c p1_10 h1_11 6 eo1 so1 no1 co1 34 3 1 [AI 0, .nil, .nil] 2 1 vs_3.length (rows eI vs_3) 34 n_1 xs_2 hc) (by kernel_rfl) (by kernel_rfl) (by kernel_rfl) (by kernel_rfl) (by rintro _ _ ⟨_, _, _, _, rfl, rfl⟩; exact ⟨by kernel_rfl, by kernel_rfl, by kernel_rfl⟩)) (Nat.le_of_ble_eq_true (by kernel_rfl)) (by kernel_rfl) (by kernel_rfl) (by rintro _ _ ⟨_, ⟨_, _, _, _, rfl, rfl⟩, rfl⟩; exact Nat.le_of_ble_eq_true (by kernel_rfl))) (by kernel_rfl) (by kernel_rfl) (by kernel_rfl) ?_
            rintro _ _ ⟨_, _, ⟨_, ⟨v_21, p1_22, h1_23, f24, rfl, rfl⟩, rfl⟩, rfl, rfl⟩
            refine R.go 1 (R.any1 7 (by kernel_rfl) (by kernel_rfl) ?_)
            refine R.go 2 (R.any1 8 (by kernel_rfl) (by kernel_rfl) ?_)
            refine R.call true (l01Full_c n_1 (by omega) (by omega)) (by kernel_rfl) rfl (by kernel_rfl) ?_
            refine R.go 1 (R.anyI 9 (AI (IntKind.i64.wrap (((shl64 1 n_1) - 1) + 1))) (by kernel_rfl) (np_retX _ _ _ _ _ _) ?_)
            refine R.any1 10 (by kernel_rfl) (by kernel_rfl) ?_
            refine R.lit (s := 1) (n := 2) (cs := rows eI [(-1), IntKind.i64.wrap (((shl64 1 n_1) - 1) + 1)]) (by kernel_rfl) (by kernel_rfl) ?_
            refine R.go 1 (R.any1 11 (by kernel_rfl) (by kernel_rfl) ?_)
            refine R.callX (CallX.inF 2 usC frC (CallX.box 2 34 [AI 0, .nil, .nil] (pickX_c_r3c c p1_22 h1_23 [(-1), IntKind.i64.wrap (((shl64 1 n_1) - 1) + 1)] eo1 so1 no1 co1 34 3 1 [AI 0, .nil, .nil] 2 1 vs_3.length (rows eI vs_3) 34 n_1 xs_2 hc (by simp)) (by kernel_rfl) (by kernel_rfl) (by kernel_rfl) (by kernel_rfl) (by rintro _ _ ⟨_, _, _, rfl, rfl⟩; exact ⟨by kernel_rfl, by kernel_rfl, by kernel_rfl⟩)) (Nat.le_of_ble_eq_true (by kernel_rfl)) (by kernel_rfl) (by kernel_rfl) (by rintro _ _ ⟨_, ⟨_, _, _, rfl, rfl⟩, rfl⟩; exact Nat.le_of_ble_eq_true (by kernel_rfl))) (by kernel_rfl) (by kernel_rfl) (by kernel_rfl) ?_
            rintro _ _ ⟨_, _, ⟨_, ⟨v_25, p1_26, h1_27, rfl, rfl⟩, rfl⟩, rfl, rfl⟩
            refine R.go 1 (R.any1 12 (by kernel_rfl) (by kernel_rfl) ?_)
            refine R.idxO 4 1 vs_3.length ((v_21).toNat) v_21 (by kernel_rfl) (by omega) (by omega) (by kernel_rfl) ?_
            refine R.go 1 (R.any1 13 (by kernel_rfl) (by kernel_rfl) ?_)
            refine R.stI 4 2 vs_3 ((v_21).toNat) v_25 (by kernel_rfl) (by omega) (by kernel_rfl) ?_
            refine R.go 1 (R.any0 (by kernel_rfl) ?_)
            refine R.go 6 (R.frz 4 (by kernel_rfl) ?_)
            refine R.kfix 2 (us := usC) (by kernel_rfl) (hfC.frz 4 (LI (vs_3.set ((v_21).toNat) v_25)) (Nat.le_of_ble_eq_true (by kernel_rfl))) ?_
            exact R.retX (res := .agg [AI n_1, LI xs_2, LI (vs_3.set ((v_21).toNat) v_25)]) (hp' := [.box 98 [LB c, AI (p1_26 : Int), .int .u64 h1_27], .list eo1 so1 no1 co1, .dead, .box 34 [AI n_1, LI xs_2, LI (vs_3.set ((v_21).toNat) v_25)], .dead, .box 34 [AI n_1, LI xs_2, LI (vs_3.set ((v_21).toNat) v_25)]]) (by kernel_rfl) (by kernel_rfl) (by kernel_rfl) (by kernel_rfl) ⟨[0, 1], by kernel_rfl, by decide, n_1, xs_2, vs_3.set ((v_21).toNat) v_25, p1_26, h1_27, by first | omega | (simp only [List.length_drop, List.length_set]; omega), by first | omega | (simp only [List.length_drop, List.length_set]; omega), by kernel_rfl, by kernel_rfl⟩
          · refine R.go 2 (R.any1 3 (by kernel_rfl) (by kernel_rfl) ?_)
            refine R.callX (CallX.inF 2 usC frC (CallX.box 2 34 [AI 0, .nil, .nil] (nextX_c_r3c c p1_10 h1_11 6 eo1 so1 no1 co1 34 3 1 [AI 0, .nil, .nil] 2 1 vs_3.length (rows eI vs_3) 34 n_1 xs_2 hc) (by kernel_rfl) (by kernel_rfl) (by kernel_rfl) (by kernel_rfl) (by rintro _ _ ⟨_, _, _, _, rfl, rfl⟩; exact ⟨by kernel_rfl, by kernel_rfl, by kernel_rfl⟩)) (Nat.le_of_ble_eq_true (by kernel_rfl)) (by kernel_rfl) (by kernel_rfl) (by rintro _ _ ⟨_, ⟨_, _, _, _, rfl, rfl⟩, rfl⟩; exact Nat.le_of_ble_eq_true (by kernel_rfl))) (by kernel_rfl) (by kernel_rfl) (by kernel_rfl) ?_
            rintro _ _ ⟨_, _, ⟨_, ⟨v_28, p1_29, h1_30, f31, rfl, rfl⟩, rfl⟩, rfl, rfl⟩
            refine R.go 1 (R.any1 8 (by kernel_rfl) (by kernel_rfl) ?_)
            refine R.call true (l01Full_c n_1 (by omega) (by omega)) (by kernel_rfl) rfl (by kernel_rfl) ?_
            refine R.go 1 (R.anyI 9 (AI (IntKind.i64.wrap (((shl64 1 n_1) - 1) + 1))) (by kernel_rfl) (np_retX _ _ _ _ _ _) ?_)
            refine R.any1 10 (by kernel_rfl) (by kernel_rfl) ?_
            refine R.lit (s := 1) (n := 2) (cs := rows eI [(-1), IntKind.i64.wrap (((shl64 1 n_1) - 1) + 1)]) (by kernel_rfl) (by kernel_rfl) ?_
            refine R.go 1 (R.any1 11 (by kernel_rfl) (by kernel_rfl) ?_)
            refine R.callX (CallX.inF 2 usC frC (CallX.box 2 34 [AI 0, .nil, .nil] (pickX_c_r3c c p1_29 h1_30 [(-1), IntKind.i64.wrap (((shl64 1 n_1) - 1) + 1)] eo1 so1 no1 co1 34 3 1 [AI 0, .nil, .nil] 2 1 vs_3.length (rows eI vs_3) 34 n_1 xs_2 hc (by simp)) (by kernel_rfl) (by kernel_rfl) (by kernel_rfl) (by kernel_rfl) (by rintro _ _ ⟨_, _, _, rfl, rfl⟩; exact ⟨by kernel_rfl, by kernel_rfl, by kernel_rfl⟩)) (Nat.le_of_ble_eq_true (by kernel_rfl)) (by kernel_rfl) (by kernel_rfl) (by rintro _ _ ⟨_, ⟨_, _, _, rfl, rfl⟩, rfl⟩; exact Nat.le_of_ble_eq_true (by kernel_rfl))) (by kernel_rfl) (by kernel_rfl) (by kernel_rfl) ?_
            rintro _ _ ⟨_, _, ⟨_, ⟨v_32, p1_33, h1_34, rfl, rfl⟩, rfl⟩, rfl, rfl⟩
            refine R.go 1 (R.any1 12 (by kernel_rfl) (by kernel_rfl) ?_)
            refine R.idxO 4 1 vs_3.length ((v_28).toNat) v_28 (by kernel_rfl) (by omega) (by omega) (by kernel_rfl) ?_
            refine R.go 1 (R.any1 13 (by kernel_rfl) (by kernel_rfl) ?_)
            refine R.stI 4 2 vs_3 ((v_28).toNat) v_32 (by kernel_rfl) (by omega) (by kernel_rfl) ?_
            refine R.go 1 (R.any0 (by kernel_rfl) ?_)
            refine R.go 6 (R.frz 4 (by kernel_rfl) ?_)
            refine R.kfix 2 (us := usC) (by kernel_rfl) (hfC.frz 4 (LI (vs_3.set ((v_28).toNat) v_32)) (Nat.le_of_ble_eq_true (by kernel_rfl))) ?_
            exact R.retX (res := .agg [AI n_1, LI xs_2, LI (vs_3.set ((v_28).toNat) v_32)]) (hp' := [.box 98 [LB c, AI (p1_33 : Int), .int .u64 h1_34], .list eo1 so1 no1 co1, .dead, .box 34 [AI n_1, LI xs_2, LI (vs_3.set ((v_28).toNat) v_32)], .dead, .box 34 [AI n_1, LI xs_2, LI (vs_3.set ((v_28).toNat) v_32)]]) (by kernel_rfl) (by kernel_rfl) (by kernel_rfl) (by kernel_rfl) ⟨[0, 1], by kernel_rfl, by decide, n_1, xs_2, vs_3.set ((v_28).toNat) v_32, p1_33, h1_34, by first | omega | (simp only [List.length_drop, List.length_set]; omega), by first | omega | (simp only [List.length_drop, List.length_set]; omega), by kernel_rfl, by kernel_rfl⟩
        · refine R.callX (CallX.inF 2 usC frC (CallX.box 2 34 [AI 0, .nil, .nil] (nextX_c_r3c c p1_10 h1_11 6 eo1 so1 no1 co1 34 3 1 [AI 0, .nil, .nil] 2 1 vs_3.length (rows eI vs_3) 34 n_1 xs_2 hc) (by kernel_rfl) (by kernel_rfl) (by kernel_rfl) (by kernel_rfl) (by rintro _ _ ⟨_, _, _, _, rfl, rfl⟩; exact ⟨by kernel_rfl, by kernel_rfl, by kernel_rfl⟩)) (Nat.le_of_ble_eq_true (by kernel_rfl)) (by kernel_rfl) (by kernel_rfl) (by rintro _ _ ⟨_, ⟨_, _, _, _, rfl, rfl⟩, rfl⟩; exact Nat.le_of_ble_eq_true (by kernel_rfl))) (by kernel_rfl) (by kernel_rfl) (by kernel_rfl) ?_
          rintro _ _ ⟨_, _, ⟨_, ⟨v_35, p1_36, h1_37, f38, rfl, rfl⟩, rfl⟩, rfl, rfl⟩
          refine R.go 1 (R.any2 1 7 (by kernel_rfl) (by kernel_rfl) ?_ ?_)
          · refine R.go 2 (R.any1 7 (by kernel_rfl) (by kernel_rfl) ?_)
            refine R.go 2 (R.any1 8 (by kernel_rfl) (by kernel_rfl) ?_)
            refine R.call true (l01Full_c n_1 (by omega) (by omega)) (by kernel_rfl) rfl (by kernel_rfl) ?_
            refine R.go 1 (R.anyI 9 (AI (IntKind.i64.wrap (((shl64 1 n_1) - 1) + 1))) (by kernel_rfl) (np_retX _ _ _ _ _ _) ?_)
            refine R.any1 10 (by kernel_rfl) (by kernel_rfl) ?_
            refine R.lit (s := 1) (n := 2) (cs := rows eI [(-1), IntKind.i64.wrap (((shl64 1 n_1) - 1) + 1)]) (by kernel_rfl) (by kernel_rfl) ?_
            refine R.go 1 (R.any1 11 (by kernel_rfl) (by kernel_rfl) ?_)
            refine R.callX (CallX.inF 2 usC frC (CallX.box 2 34 [AI 0, .nil, .nil] (pickX_c_r3c c p1_36 h1_37 [(-1), IntKind.i64.wrap (((shl64 1 n_1) - 1) + 1)] eo1 so1 no1 co1 34 3 1 [AI 0, .nil, .nil] 2 1 vs_3.length (rows eI vs_3) 34 n_1 xs_2 hc (by simp)) (by kernel_rfl) (by kernel_rfl) (by kernel_rfl) (by kernel_rfl) (by rintro _ _ ⟨_, _, _, rfl, rfl⟩; exact ⟨by kernel_rfl, by kernel_rfl, by kernel_rfl⟩)) (Nat.le_of_ble_eq_true (by kernel_rfl)) (by kernel_rfl) (by kernel_rfl) (by rintro _ _ ⟨_, ⟨_, _, _, rfl, rfl⟩, rfl⟩; exact Nat.le_of_ble_eq_true (by kernel_rfl))) (by kernel_rfl) (by kernel_rfl) (by kernel_rfl) ?_
            rintro _ _ ⟨_, _, ⟨_, ⟨v_39, p1_40, h1_41, rfl, rfl⟩, rfl⟩, rfl, rfl⟩
            refine R.go 1 (R.any1 12 (by kernel_rfl) (by kernel_rfl) ?_)
            refine R.idxO 4 1 vs_3.length ((v_35).toNat) v_35 (by kernel_rfl) (by omega) (by omega) (by kernel_rfl) ?_
            refine R.go 1 (R.any1 13 (by kernel_rfl) (by kernel_rfl) ?_)
            refine R.stI 4 2 vs_3 ((v_35).toNat) v_39 (by kernel_rfl) (by omega) (by kernel_rfl) ?_
            refine R.go 1 (R.any0 (by kernel_rfl) ?_)
            refine R.go 6 (R.frz 4 (by kernel_rfl) ?_)
            refine R.kfix 2 (us := usC) (by kernel_rfl) (hfC.frz 4 (LI (vs_3.set ((v_35).toNat) v_39)) (Nat.le_of_ble_eq_true (by kernel_rfl))) ?_
            exact R.retX (res := .agg [AI n_1, LI xs_2, LI (vs_3.set ((v_35).toNat) v_39)]) (hp' := [.box 98 [LB c, AI (p1_40 : Int), .int .u64 h1_41], .list eo1 so1 no1 co1, .dead, .box 34 [AI n_1, LI xs_2, LI (vs_3.set ((v_35).toNat) v_39)], .dead, .box 34 [AI n_1, LI xs_2, LI (vs_3.set ((v_35).toNat) v_39)]]) (by kernel_rfl) (by kernel_rfl) (by kernel_rfl) (by kernel_rfl) ⟨[0, 1], by kernel_rfl, by decide, n_1, xs_2, vs_3.set ((v_35).toNat) v_39, p1_40, h1_41, by first | omega | (simp only [List.length_drop, List.length_set]; omega), by first | omega | (simp only [List.length_drop, List.length_set]; omega), by kernel_rfl, by kernel_rfl⟩
          · refine R.go 2 (R.any2 1 8 (by kernel_rfl) (by kernel_rfl) ?_ ?_)
            · refine R.go 2 (R.any1 8 (by kernel_rfl) (by kernel_rfl) ?_)
              refine R.call true (l01Full_c n_1 (by omega) (by omega)) (by kernel_rfl) rfl (by kernel_rfl) ?_
              refine R.go 1 (R.anyI 9 (AI (IntKind.i64.wrap (((shl64 1 n_1) - 1) + 1))) (by kernel_rfl) (np_retX _ _ _ _ _ _) ?_)
              refine R.any1 10 (by kernel_rfl) (by kernel_rfl) ?_
              refine R.lit (s := 1) (n := 2) (cs := rows eI [(-1), IntKind.i64.wrap (((shl64 1 n_1) - 1) + 1)]) (by kernel_rfl) (by kernel_rfl) ?_
              refine R.go 1 (R.any1 11 (by kernel_rfl) (by kernel_rfl) ?_)
              refine R.callX (CallX.inF 2 usC frC (CallX.box 2 34 [AI 0, .nil, .nil] (pickX_c_r3c c p1_36 h1_37 [(-1), IntKind.i64.wrap (((shl64 1 n_1) - 1) + 1)] eo1 so1 no1 co1 34 3 1 [AI 0, .nil, .nil] 2 1 vs_3.length (rows eI vs_3) 34 n_1 xs_2 hc (by simp)) (by kernel_rfl) (by kernel_rfl) (by kernel_rfl) (by kernel_rfl) (by rintro _ _ ⟨_, _, _, rfl, rfl⟩; exact ⟨by kernel_rfl, by kernel_rfl, by kernel_rfl⟩)) (Nat.le_of_ble_eq_true (by kernel_rfl)) (by kernel_rfl) (by kernel_rfl) (by rintro _ _ ⟨_, ⟨_, _, _, rfl, rfl⟩, rfl⟩; exact Nat.le_of_ble_eq_true (by kernel_rfl))) (by kernel_rfl) (by kernel_rfl) (by kernel_rfl) ?_
              rintro _ _ ⟨_, _, ⟨_, ⟨v_42, p1_43, h1_44, rfl, rfl⟩, rfl⟩, rfl, rfl⟩
              refine R.go 1 (R.any1 12 (by kernel_rfl) (by kernel_rfl) ?_)
              refine R.idxO 4 1 vs_3.length ((v_35).toNat) v_35 (by kernel_rfl) (by omega) (by omega) (by kernel_rfl) ?_
              refine R.go 1 (R.any1 13 (by kernel_rfl) (by kernel_rfl) ?_)
              refine R.stI 4 2 vs_3 ((v_35).toNat) v_42 (by kernel_rfl) (by omega) (by kernel_rfl) ?_
              refine R.go 1 (R.any0 (by kernel_rfl) ?_)
              refine R.go 6 (R.frz 4 (by kernel_rfl) ?_)
              refine R.kfix 2 (us := usC) (by kernel_rfl) (hfC.frz 4 (LI (vs_3.set ((v_35).toNat) v_42)) (Nat.le_of_ble_eq_true (by kernel_rfl))) ?_
              exact R.retX (res := .agg [AI n_1, LI xs_2, LI (vs_3.set ((v_35).toNat) v_42)]) (hp' := [.box 98 [LB c, AI (p1_43 : Int), .int .u64 h1_44], .list eo1 so1 no1 co1, .dead, .box 34 [AI n_1, LI xs_2, LI (vs_3.set ((v_35).toNat) v_42)], .dead, .box 34 [AI n_1, LI xs_2, LI (vs_3.set ((v_35).toNat) v_42)]]) (by kernel_rfl) (by kernel_rfl) (by kernel_rfl) (by kernel_rfl) ⟨[0, 1], by kernel_rfl, by decide, n_1, xs_2, vs_3.set ((v_35).toNat) v_42, p1_43, h1_44, by first | omega | (simp only [List.length_drop, List.length_set]; omega), by first | omega | (simp only [List.length_drop, List.length_set]; omega), by kernel_rfl, by kernel_rfl⟩
            · refine R.call true (l01Full_c n_1 (by omega) (by omega)) (by kernel_rfl) rfl (by kernel_rfl) ?_
              refine R.go 1 (R.anyI 9 (AI (IntKind.i64.wrap (((shl64 1 n_1) - 1) + 1))) (by kernel_rfl) (np_retX _ _ _ _ _ _) ?_)
              refine R.any2 1 10 (by kernel_rfl) (by kernel_rfl) ?_ ?_
              · refine R.go 2 (R.any1 10 (by kernel_rfl) (by kernel_rfl) ?_)
                refine R.lit (s := 1) (n := 2) (cs := rows eI [(-1), IntKind.i64.wrap (((shl64 1 n_1) - 1) + 1)]) (by kernel_rfl) (by kernel_rfl) ?_
                refine R.go 1 (R.any1 11 (by kernel_rfl) (by kernel_rfl) ?_)
                refine R.callX (CallX.inF 2 usC frC (CallX.box 2 34 [AI 0, .nil, .nil] (pickX_c_r3c c p1_36 h1_37 [(-1), IntKind.i64.wrap (((shl64 1 n_1) - 1) + 1)] eo1 so1 no1 co1 34 3 1 [AI 0, .nil, .nil] 2 1 vs_3.length (rows eI vs_3) 34 n_1 xs_2 hc (by simp)) (by kernel_rfl) (by kernel_rfl) (by kernel_rfl) (by kernel_rfl) (by rintro _ _ ⟨_, _, _, rfl, rfl⟩; exact ⟨by kernel_rfl, by kernel_rfl, by kernel_rfl⟩)) (Nat.le_of_ble_eq_true (by kernel_rfl)) (by kernel_rfl) (by kernel_rfl) (by rintro _ _ ⟨_, ⟨_, _, _, rfl, rfl⟩, rfl⟩; exact Nat.le_of_ble_eq_true (by kernel_rfl))) (by kernel_rfl) (by kernel_rfl) (by kernel_rfl) ?_
                rintro _ _ ⟨_, _, ⟨_, ⟨v_45, p1_46, h1_47, rfl, rfl⟩, rfl⟩, rfl, rfl⟩
                refine R.go 1 (R.any1 12 (by kernel_rfl) (by kernel_rfl) ?_)
                refine R.idxO 4 1 vs_3.length ((v_35).toNat) v_35 (by kernel_rfl) (by omega) (by omega) (by kernel_rfl) ?_
                refine R.go 1 (R.any1 13 (by kernel_rfl) (by kernel_rfl) ?_)
                refine R.stI 4 2 vs_3 ((v_35).toNat) v_45 (by kernel_rfl) (by omega) (by kernel_rfl) ?_
                refine R.go 1 (R.any0 (by kernel_rfl) ?_)
                refine R.go 6 (R.frz 4 (by kernel_rfl) ?_)
                refine R.kfix 2 (us := usC) (by kernel_rfl) (hfC.frz 4 (LI (vs_3.set ((v_35).toNat) v_45)) (Nat.le_of_ble_eq_true (by kernel_rfl))) ?_
                exact R.retX (res := .agg [AI n_1, LI xs_2, LI (vs_3.set ((v_35).toNat) v_45)]) (hp' := [.box 98 [LB c, AI (p1_46 : Int), .int .u64 h1_47], .list eo1 so1 no1 co1, .dead, .box 34 [AI n_1, LI xs_2, LI (vs_3.set ((v_35).toNat) v_45)], .dead, .box 34 [AI n_1, LI xs_2, LI (vs_3.set ((v_35).toNat) v_45)]]) (by kernel_rfl) (by kernel_rfl) (by kernel_rfl) (by kernel_rfl) ⟨[0, 1], by kernel_rfl, by decide, n_1, xs_2, vs_3.set ((v_35).toNat) v_45, p1_46, h1_47, by first | omega | (simp only [List.length_drop, List.length_set]; omega), by first | omega | (simp only [List.length_drop, List.length_set]; omega), by kernel_rfl, by kernel_rfl⟩
              · refine R.lit (s := 1) (n := 2) (cs := rows eI [(-1), IntKind.i64.wrap (((shl64 1 n_1) - 1) + 1)]) (by kernel_rfl) (by kernel_rfl) ?_
                refine R.go 1 (R.any2 1 11 (by kernel_rfl) (by kernel_rfl) ?_ ?_)
                · refine R.go 2 (R.any1 11 (by kernel_rfl) (by kernel_rfl) ?_)
                  refine R.callX (CallX.inF 2 usC frC (CallX.box 2 34 [AI 0, .nil, .nil] (pickX_c_r3c c p1_36 h1_37 [(-1), IntKind.i64.wrap (((shl64 1 n_1) - 1) + 1)] eo1 so1 no1 co1 34 3 1 [AI 0, .nil, .nil] 2 1 vs_3.length (rows eI vs_3) 34 n_1 xs_2 hc (by simp)) (by kernel_rfl) (by kernel_rfl) (by kernel_rfl) (by kernel_rfl) (by rintro _ _ ⟨_, _, _, rfl, rfl⟩; exact ⟨by kernel_rfl, by kernel_rfl, by kernel_rfl⟩)) (Nat.le_of_ble_eq_true (by kernel_rfl)) (by kernel_rfl) (by kernel_rfl) (by rintro _ _ ⟨_, ⟨_, _, _, rfl, rfl⟩, rfl⟩; exact Nat.le_of_ble_eq_true (by kernel_rfl))) (by kernel_rfl) (by kernel_rfl) (by kernel_rfl) ?_
                  rintro _ _ ⟨_, _, ⟨_, ⟨v_48, p1_49, h1_50, rfl, rfl⟩, rfl⟩, rfl, rfl⟩
                  refine R.go 1 (R.any1 12 (by kernel_rfl) (by kernel_rfl) ?_)
                  refine R.idxO 4 1 vs_3.length ((v_35).toNat) v_35 (by kernel_rfl) (by omega) (by omega) (by kernel_rfl) ?_
                  refine R.go 1 (R.any1 13 (by kernel_rfl) (by kernel_rfl) ?_)
                  refine R.stI 4 2 vs_3 ((v_35).toNat) v_48 (by kernel_rfl) (by omega) (by kernel_rfl) ?_
                  refine R.go 1 (R.any0 (by kernel_rfl) ?_)
                  refine R.go 6 (R.frz 4 (by kernel_rfl) ?_)
                  refine R.kfix 2 (us := usC) (by kernel_rfl) (hfC.frz 4 (LI (vs_3.set ((v_35).toNat) v_48)) (Nat.le_of_ble_eq_true (by kernel_rfl))) ?_
                  exact R.retX (res := .agg [AI n_1, LI xs_2, LI (vs_3.set ((v_35).toNat) v_48)]) (hp' := [.box 98 [LB c, AI (p1_49 : Int), .int .u64 h1_50], .list eo1 so1 no1 co1, .dead, .box 34 [AI n_1, LI xs_2, LI (vs_3.set ((v_35).toNat) v_48)], .dead, .box 34 [AI n_1, LI xs_2, LI (vs_3.set ((v_35).toNat) v_48)]]) (by kernel_rfl) (by kernel_rfl) (by kernel_rfl) (by kernel_rfl) ⟨[0, 1], by kernel_rfl, by decide, n_1, xs_2, vs_3.set ((v_35).toNat) v_48, p1_49, h1_50, by first | omega | (simp only [List.length_drop, List.length_set]; omega), by first | omega | (simp only [List.length_drop, List.length_set]; omega), by kernel_rfl, by kernel_rfl⟩
                · refine R.callX (CallX.inF 2 usC frC (CallX.box 2 34 [AI 0, .nil, .nil] (pickX_c_r3c c p1_36 h1_37 [(-1), IntKind.i64.wrap (((shl64 1 n_1) - 1) + 1)] eo1 so1 no1 co1 34 3 1 [AI 0, .nil, .nil] 2 1 vs_3.length (rows eI vs_3) 34 n_1 xs_2 hc (by simp)) (by kernel_rfl) (by kernel_rfl) (by kernel_rfl) (by kernel_rfl) (by rintro _ _ ⟨_, _, _, rfl, rfl⟩; exact ⟨by kernel_rfl, by kernel_rfl, by kernel_rfl⟩)) (Nat.le_of_ble_eq_true (by kernel_rfl)) (by kernel_rfl) (by kernel_rfl) (by rintro _ _ ⟨_, ⟨_, _, _, rfl, rfl⟩, rfl⟩; exact Nat.le_of_ble_eq_true (by kernel_rfl))) (by kernel_rfl) (by kernel_rfl) (by kernel_rfl) ?_
                  rintro _ _ ⟨_, _, ⟨_, ⟨v_51, p1_52, h1_53, rfl, rfl⟩, rfl⟩, rfl, rfl⟩
                  refine R.go 1 (R.any1 1 (by kernel_rfl) (by kernel_rfl) ?_)
                  refine R.go 2 (R.any1 12 (by kernel_rfl) (by kernel_rfl) ?_)
                  refine R.idxO 4 1 vs_3.length ((v_35).toNat) v_35 (by kernel_rfl) (by omega) (by omega) (by kernel_rfl) ?_
                  refine R.go 1 (R.any1 13 (by kernel_rfl) (by kernel_rfl) ?_)
                  refine R.stI 4 2 vs_3 ((v_35).toNat) v_51 (by kernel_rfl) (by omega) (by kernel_rfl) ?_
                  refine R.go 1 (R.any0 (by kernel_rfl) ?_)
                  refine R.go 6 (R.frz 4 (by kernel_rfl) ?_)
                  refine R.kfix 2 (us := usC) (by kernel_rfl) (hfC.frz 4 (LI (vs_3.set ((v_35).toNat) v_51)) (Nat.le_of_ble_eq_true (by kernel_rfl))) ?_
                  exact R.retX (res := .agg [AI n_1, LI xs_2, LI (vs_3.set ((v_35).toNat) v_51)]) (hp' := [.box 98 [LB c, AI (p1_52 : Int), .int .u64 h1_53], .list eo1 so1 no1 co1, .dead, .box 34 [AI n_1, LI xs_2, LI (vs_3.set ((v_35).toNat) v_51)], .dead, .box 34 [AI n_1, LI xs_2, LI (vs_3.set ((v_35).toNat) v_51)]]) (by kernel_rfl) (by kernel_rfl) (by kernel_rfl) (by kernel_rfl) ⟨[0, 1], by kernel_rfl, by decide, n_1, xs_2, vs_3.set ((v_35).toNat) v_51, p1_52, h1_53, by first | omega | (simp only [List.length_drop, List.length_set]; omega), by first | omega | (simp only [List.length_drop, List.length_set]; omega), by kernel_rfl, by kernel_rfl⟩
        · refine R.go 2 (R.any2 1 3 (by kernel_rfl) (by kernel_rfl) ?_ ?_)
          · refine R.go 2 (R.any1 3 (by kernel_rfl) (by kernel_rfl) ?_)
            refine R.callX (CallX.inF 2 usC frC (CallX.box 2 34 [AI 0, .nil, .nil] (nextX_c_r3c c p1_10 h1_11 6 eo1 so1 no1 co1 34 3 1 [AI 0, .nil, .nil] 2 1 vs_3.length (rows eI vs_3) 34 n_1 xs_2 hc) (by kernel_rfl) (by kernel_rfl) (by kernel_rfl) (by kernel_rfl) (by rintro _ _ ⟨_, _, _, _, rfl, rfl⟩; exact ⟨by kernel_rfl, by kernel_rfl, by kernel_rfl⟩)) (Nat.le_of_ble_eq_true (by kernel_rfl)) (by kernel_rfl) (by kernel_rfl) (by rintro _ _ ⟨_, ⟨_, _, _, _, rfl, rfl⟩, rfl⟩; exact Nat.le_of_ble_eq_true (by kernel_rfl))) (by kernel_rfl) (by kernel_rfl) (by kernel_rfl) ?_
            rintro _ _ ⟨_, _, ⟨_, ⟨v_54, p1_55, h1_56, f57, rfl, rfl⟩, rfl⟩, rfl, rfl⟩
            refine R.go 1 (R.any1 8 (by kernel_rfl) (by kernel_rfl) ?_)
            refine R.call true (l01Full_c n_1 (by omega) (by omega)) (by kernel_rfl) rfl (by kernel_rfl) ?_
            refine R.go 1 (R.anyI 9 (AI (IntKind.i64.wrap (((shl64 1 n_1) - 1) + 1))) (by kernel_rfl) (np_retX _ _ _ _ _ _) ?_)
            refine R.any1 10 (by kernel_rfl) (by kernel_rfl) ?_
            refine R.lit (s := 1) (n := 2) (cs := rows eI [(-1), IntKind.i64.wrap (((shl64 1 n_1) - 1) + 1)]) (by kernel_rfl) (by kernel_rfl) ?_
            refine R.go 1 (R.any1 11 (by kernel_rfl) (by kernel_rfl) ?_)
            refine R.callX (CallX.inF 2 usC frC (CallX.box 2 34 [AI 0, .nil, .nil] (pickX_c_r3c c p1_55 h1_56 [(-1), IntKind.i64.wrap (((shl64 1 n_1) - 1) + 1)] eo1 so1 no1 co1 34 3 1 [AI 0, .nil, .nil] 2 1 vs_3.length (rows eI vs_3) 34 n_1 xs_2 hc (by simp)) (by kernel_rfl) (by kernel_rfl) (by kernel_rfl) (by kernel_rfl) (by rintro _ _ ⟨_, _, _, rfl, rfl⟩; exact ⟨by kernel_rfl, by kernel_rfl, by kernel_rfl⟩)) (Nat.le_of_ble_eq_true (by kernel_rfl)) (by kernel_rfl) (by kernel_rfl) (by rintro _ _ ⟨_, ⟨_, _, _, rfl, rfl⟩, rfl⟩; exact Nat.le_of_ble_eq_true (by kernel_rfl))) (by kernel_rfl) (by kernel_rfl) (by kernel_rfl) ?_
            rintro _ _ ⟨_, _, ⟨_, ⟨v_58, p1_59, h1_60, rfl, rfl⟩, rfl⟩, rfl, rfl⟩
            refine R.go 1 (R.any1 12 (by kernel_rfl) (by kernel_rfl) ?_)
            refine R.idxO 4 1 vs_3.length ((v_54).toNat) v_54 (by kernel_rfl) (by omega) (by omega) (by kernel_rfl) ?_
            refine R.go 1 (R.any1 13 (by kernel_rfl) (by kernel_rfl) ?_)
            refine R.stI 4 2 vs_3 ((v_54).toNat) v_58 (by kernel_rfl) (by omega) (by kernel_rfl) ?_
            refine R.go 1 (R.any0 (by kernel_rfl) ?_)
            refine R.go 6 (R.frz 4 (by kernel_rfl) ?_)
            refine R.kfix 2 (us := usC) (by kernel_rfl) (hfC.frz 4 (LI (vs_3.set ((v_54).toNat) v_58)) (Nat.le_of_ble_eq_true (by kernel_rfl))) ?_
            exact R.retX (res := .agg [AI n_1, LI xs_2, LI (vs_3.set ((v_54).toNat) v_58)]) (hp' := [.box 98 [LB c, AI (p1_59 : Int), .int .u64 h1_60], .list eo1 so1 no1 co1, .dead, .box 34 [AI n_1, LI xs_2, LI (vs_3.set ((v_54).toNat) v_58)], .dead, .box 34 [AI n_1, LI xs_2, LI (vs_3.set ((v_54).toNat) v_58)]]) (by kernel_rfl) (by kernel_rfl) (by kernel_rfl) (by kernel_rfl) ⟨[0, 1], by kernel_rfl, by decide, n_1, xs_2, vs_3.set ((v_54).toNat) v_58, p1_59, h1_60, by first | omega | (simp only [List.length_drop, List.length_set]; omega), by first | omega | (simp only [List.length_drop, List.length_set]; omega), by kernel_rfl, by kernel_rfl⟩
          · refine R.callX (CallX.inF 2 usC frC (CallX.box 2 34 [AI 0, .nil, .nil] (nextX_c_r3c c p1_10 h1_11 6 eo1 so1 no1 co1 34 3 1 [AI 0, .nil, .nil] 2 1 vs_3.length (rows eI vs_3) 34 n_1 xs_2 hc) (by kernel_rfl) (by kernel_rfl) (by kernel_rfl) (by kernel_rfl) (by rintro _ _ ⟨_, _, _, _, rfl, rfl⟩; exact ⟨by kernel_rfl, by kernel_rfl, by kernel_rfl⟩)) (Nat.le_of_ble_eq_true (by kernel_rfl)) (by kernel_rfl) (by kernel_rfl) (by rintro _ _ ⟨_, ⟨_, _, _, _, rfl, rfl⟩, rfl⟩; exact Nat.le_of_ble_eq_true (by kernel_rfl))) (by kernel_rfl) (by kernel_rfl) (by kernel_rfl) ?_
            rintro _ _ ⟨_, _, ⟨_, ⟨v_61, p1_62, h1_63, f64, rfl, rfl⟩, rfl⟩, rfl, rfl⟩
            refine R.go 1 (R.any2 1 8 (by kernel_rfl) (by kernel_rfl) ?_ ?_)
            · refine R.go 2 (R.any1 8 (by kernel_rfl) (by kernel_rfl) ?_)
              refine R.call true (l01Full_c n_1 (by omega) (by omega)) (by kernel_rfl) rfl (by kernel_rfl) ?_
              refine R.go 1 (R.anyI 9 (AI (IntKind.i64.wrap (((shl64 1 n_1) - 1) + 1))) (by kernel_rfl) (np_retX _ _ _ _ _ _) ?_)
              refine R.any1 10 (by kernel_rfl) (by kernel_rfl) ?_
              refine R.lit (s := 1) (n := 2) (cs := rows eI [(-1), IntKind.i64.wrap (((shl64 1 n_1) - 1) + 1)]) (by kernel_rfl) (by kernel_rfl) ?_
              refine R.go 1 (R.any1 11 (by kernel_rfl) (by kernel_rfl) ?_)
              refine R.callX (CallX.inF 2 usC frC (CallX.box 2 34 [AI 0, .nil, .nil] (pickX_c_r3c c p1_62 h1_63 [(-1), IntKind.i64.wrap (((shl64 1 n_1) - 1) + 1)] eo1 so1 no1 co1 34 3 1 [AI 0, .nil, .nil] 2 1 vs_3.length (rows eI vs_3) 34 n_1 xs_2 hc (by simp)) (by kernel_rfl) (by kernel_rfl) (by kernel_rfl) (by kernel_rfl) (by rintro _ _ ⟨_, _, _, rfl, rfl⟩; exact ⟨by kernel_rfl, by kernel_rfl, by kernel_rfl⟩)) (Nat.le_of_ble_eq_true (by kernel_rfl)) (by kernel_rfl) (by kernel_rfl) (by rintro _ _ ⟨_, ⟨_, _, _, rfl, rfl⟩, rfl⟩; exact Nat.le_of_ble_eq_true (by kernel_rfl))) (by kernel_rfl) (by kernel_rfl) (by kernel_rfl) ?_
              rintro _ _ ⟨_, _, ⟨_, ⟨v_65, p1_66, h1_67, rfl, rfl⟩, rfl⟩, rfl, rfl⟩
              refine R.go 1 (R.any1 12 (by kernel_rfl) (by kernel_rfl) ?_)
              refine R.idxO 4 1 vs_3.length ((v_61).toNat) v_61 (by kernel_rfl) (by omega) (by omega) (by kernel_rfl) ?_
              refine R.go 1 (R.any1 13 (by kernel_rfl) (by kernel_rfl) ?_)
              refine R.stI 4 2 vs_3 ((v_61).toNat) v_65 (by kernel_rfl) (by omega) (by kernel_rfl) ?_
              refine R.go 1 (R.any0 (by kernel_rfl) ?_)
              refine R.go 6 (R.frz 4 (by kernel_rfl) ?_)
              refine R.kfix 2 (us := usC) (by kernel_rfl) (hfC.frz 4 (LI (vs_3.set ((v_61).toNat) v_65)) (Nat.le_of_ble_eq_true (by kernel_rfl))) ?_
              exact R.retX (res := .agg [AI n_1, LI xs_2, LI (vs_3.set ((v_61).toNat) v_65)]) (hp' := [.box 98 [LB c, AI (p1_66 : Int), .int .u64 h1_67], .list eo1 so1 no1 co1, .dead, .box 34 [AI n_1, LI xs_2, LI (vs_3.set ((v_61).toNat) v_65)], .dead, .box 34 [AI n_1, LI xs_2, LI (vs_3.set ((v_61).toNat) v_65)]]) (by kernel_rfl) (by kernel_rfl) (by kernel_rfl) (by kernel_rfl) ⟨[0, 1], by kernel_rfl, by decide, n_1, xs_2, vs_3.set ((v_61).toNat) v_65, p1_66, h1_67, by first | omega | (simp only [List.length_drop, List.length_set]; omega), by first | omega | (simp only [List.length_drop, List.length_set]; omega), by kernel_rfl, by kernel_rfl⟩
            · refine R.call true (l01Full_c n_1 (by omega) (by omega)) (by kernel_rfl) rfl (by kernel_rfl) ?_
              refine R.go 1 (R.anyI 9 (AI (IntKind.i64.wrap (((shl64 1 n_1) - 1) + 1))) (by kernel_rfl) (np_retX _ _ _ _ _ _) ?_)
              refine R.any2 1 10 (by kernel_rfl) (by kernel_rfl) ?_ ?_
              · refine R.go 2 (R.any1 10 (by kernel_rfl) (by kernel_rfl) ?_)
                refine R.lit (s := 1) (n := 2) (cs := rows eI [(-1), IntKind.i64.wrap (((shl64 1 n_1) - 1) + 1)]) (by kernel_rfl) (by kernel_rfl) ?_
                refine R.go 1 (R.any1 11 (by kernel_rfl) (by kernel_rfl) ?_)
                refine R.callX (CallX.inF 2 usC frC (CallX.box 2 34 [AI 0, .nil, .nil] (pickX_c_r3c c p1_62 h1_63 [(-1), IntKind.i64.wrap (((shl64 1 n_1) - 1) + 1)] eo1 so1 no1 co1 34 3 1 [AI 0, .nil, .nil] 2 1 vs_3.length (rows eI vs_3) 34 n_1 xs_2 hc (by simp)) (by kernel_rfl) (by kernel_rfl) (by kernel_rfl) (by kernel_rfl) (by rintro _ _ ⟨_, _, _, rfl, rfl⟩; exact ⟨by kernel_rfl, by kernel_rfl, by kernel_rfl⟩)) (Nat.le_of_ble_eq_true (by kernel_rfl)) (by kernel_rfl) (by kernel_rfl) (by rintro _ _ ⟨_, ⟨_, _, _, rfl, rfl⟩, rfl⟩; exact Nat.le_of_ble_eq_true (by kernel_rfl))) (by kernel_rfl) (by kernel_rfl) (by kernel_rfl) ?_
                rintro _ _ ⟨_, _, ⟨_, ⟨v_68, p1_69, h1_70, rfl, rfl⟩, rfl⟩, rfl, rfl⟩
                refine R.go 1 (R.any1 12 (by kernel_rfl) (by kernel_rfl) ?_)
                refine R.idxO 4 1 vs_3.length ((v_61).toNat) v_61 (by kernel_rfl) (by omega) (by omega) (by kernel_rfl) ?_
                refine R.go 1 (R.any1 13 (by kernel_rfl) (by kernel_rfl) ?_)
                refine R.stI 4 2 vs_3 ((v_61).toNat) v_68 (by kernel_rfl) (by omega) (by kernel_rfl) ?_
                refine R.go 1 (R.any0 (by kernel_rfl) ?_)
                refine R.go 6 (R.frz 4 (by kernel_rfl) ?_)
                refine R.kfix 2 (us := usC) (by kernel_rfl) (hfC.frz 4 (LI (vs_3.set ((v_61).toNat) v_68)) (Nat.le_of_ble_eq_true (by kernel_rfl))) ?_
                exact R.retX (res := .agg [AI n_1, LI xs_2, LI (vs_3.set ((v_61).toNat) v_68)]) (hp' := [.box 98 [LB c, AI (p1_69 : Int), .int .u64 h1_70], .list eo1 so1 no1 co1, .dead, .box 34 [AI n_1, LI xs_2, LI (vs_3.set ((v_61).toNat) v_68)], .dead, .box 34 [AI n_1, LI xs_2, LI (vs_3.set ((v_61).toNat) v_68)]]) (by kernel_rfl) (by kernel_rfl) (by kernel_rfl) (by kernel_rfl) ⟨[0, 1], by kernel_rfl, by decide, n_1, xs_2, vs_3.set ((v_61).toNat) v_68, p1_69, h1_70, by first | omega | (simp only [List.length_drop, List.length_set]; omega), by first | omega | (simp only [List.length_drop, List.length_set]; omega), by kernel_rfl, by kernel_rfl⟩
              · refine R.lit (s := 1) (n := 2) (cs := rows eI [(-1), IntKind.i64.wrap (((shl64 1 n_1) - 1) + 1)]) (by kernel_rfl) (by kernel_rfl) ?_
                refine R.go 1 (R.any2 1 11 (by kernel_rfl) (by kernel_rfl) ?_ ?_)
                · refine R.go 2 (R.any1 11 (by kernel_rfl) (by kernel_rfl) ?_)
                  refine R.callX (CallX.inF 2 usC frC (CallX.box 2 34 [AI 0, .nil, .nil] (pickX_c_r3c c p1_62 h1_63 [(-1), IntKind.i64.wrap (((shl64 1 n_1) - 1) + 1)] eo1 so1 no1 co1 34 3 1 [AI 0, .nil, .nil] 2 1 vs_3.length (rows eI vs_3) 34 n_1 xs_2 hc (by simp)) (by kernel_rfl) (by kernel_rfl) (by kernel_rfl) (by kernel_rfl) (by rintro _ _ ⟨_, _, _, rfl, rfl⟩; exact ⟨by kernel_rfl, by kernel_rfl, by kernel_rfl⟩)) (Nat.le_of_ble_eq_true (by kernel_rfl)) (by kernel_rfl) (by kernel_rfl) (by rintro _ _ ⟨_, ⟨_, _, _, rfl, rfl⟩, rfl⟩; exact Nat.le_of_ble_eq_true (by kernel_rfl))) (by kernel_rfl) (by kernel_rfl) (by kernel_rfl) ?_
                  rintro _ _ ⟨_, _, ⟨_, ⟨v_71, p1_72, h1_73, rfl, rfl⟩, rfl⟩, rfl, rfl⟩
                  refine R.go 1 (R.any1 12 (by kernel_rfl) (by kernel_rfl) ?_)
                  refine R.idxO 4 1 vs_3.length ((v_61).toNat) v_61 (by kernel_rfl) (by omega) (by omega) (by kernel_rfl) ?_
                  refine R.go 1 (R.any1 13 (by kernel_rfl) (by kernel_rfl) ?_)
                  refine R.stI 4 2 vs_3 ((v_61).toNat) v_71 (by kernel_rfl) (by omega) (by kernel_rfl) ?_
                  refine R.go 1 (R.any0 (by kernel_rfl) ?_)
                  refine R.go 6 (R.frz 4 (by kernel_rfl) ?_)
                  refine R.kfix 2 (us := usC) (by kernel_rfl) (hfC.frz 4 (LI (vs_3.set ((v_61).toNat) v_71)) (Nat.le_of_ble_eq_true (by kernel_rfl))) ?_
                  exact R.retX (res := .agg [AI n_1, LI xs_2, LI (vs_3.set ((v_61).toNat) v_71)]) (hp' := [.box 98 [LB c, AI (p1_72 : Int), .int .u64 h1_73], .list eo1 so1 no1 co1, .dead, .box 34 [AI n_1, LI xs_2, LI (vs_3.set ((v_61).toNat) v_71)], .dead, .box 34 [AI n_1, LI xs_2, LI (vs_3.set ((v_61).toNat) v_71)]]) (by kernel_rfl) (by kernel_rfl) (by kernel_rfl) (by kernel_rfl) ⟨[0, 1], by kernel_rfl, by decide, n_1, xs_2, vs_3.set ((v_61).toNat) v_71, p1_72, h1_73, by first | omega | (simp only [List.length_drop, List.length_set]; omega), by first | omega | (simp only [List.length_drop, List.length_set]; omega), by kernel_rfl, by kernel_rfl⟩
                · refine R.callX (CallX.inF 2 usC frC (CallX.box 2 34 [AI 0, .nil, .nil] (pickX_c_r3c c p1_62 h1_63 [(-1), IntKind.i64.wrap (((shl64 1 n_1) - 1) + 1)] eo1 so1 no1 co1 34 3 1 [AI 0, .nil, .nil] 2 1 vs_3.length (rows eI vs_3) 34 n_1 xs_2 hc (by simp)) (by kernel_rfl) (by kernel_rfl) (by kernel_rfl) (by kernel_rfl) (by rintro _ _ ⟨_, _, _, rfl, rfl⟩; exact ⟨by kernel_rfl, by kernel_rfl, by kernel_rfl⟩)) (Nat.le_of_ble_eq_true (by kernel_rfl)) (by kernel_rfl) (by kernel_rfl) (by rintro _ _ ⟨_, ⟨_, _, _, rfl, rfl⟩, rfl⟩; exact Nat.le_of_ble_eq_true (by kernel_rfl))) (by kernel_rfl) (by kernel_rfl) (by kernel_rfl) ?_
                  rintro _ _ ⟨_, _, ⟨_, ⟨v_74, p1_75, h1_76, rfl, rfl⟩, rfl⟩, rfl, rfl⟩
                  refine R.go 1 (R.any1 1 (by kernel_rfl) (by kernel_rfl) ?_)
                  refine R.go 2 (R.any1 12 (by kernel_rfl) (by kernel_rfl) ?_)
                  refine R.idxO 4 1 vs_3.length ((v_61).toNat) v_61 (by kernel_rfl) (by omega) (by omega) (by kernel_rfl) ?_
                  refine R.go 1 (R.any1 13 (by kernel_rfl) (by kernel_rfl) ?_)
                  refine R.stI 4 2 vs_3 ((v_61).toNat) v_74 (by kernel_rfl) (by omega) (by kernel_rfl) ?_
                  refine R.go 1 (R.any0 (by kernel_rfl) ?_)
                  refine R.go 6 (R.frz 4 (by kernel_rfl) ?_)
                  refine R.kfix 2 (us := usC) (by kernel_rfl) (hfC.frz 4 (LI (vs_3.set ((v_61).toNat) v_74)) (Nat.le_of_ble_eq_true (by kernel_rfl))) ?_
                  exact R.retX (res := .agg [AI n_1, LI xs_2, LI (vs_3.set ((v_61).toNat) v_74)]) (hp' := [.box 98 [LB c, AI (p1_75 : Int), .int .u64 h1_76], .list eo1 so1 no1 co1, .dead, .box 34 [AI n_1, LI xs_2, LI (vs_3.set ((v_61).toNat) v_74)], .dead, .box 34 [AI n_1, LI xs_2, LI (vs_3.set ((v_61).toNat) v_74)]]) (by kernel_rfl) (by kernel_rfl) (by kernel_rfl) (by kernel_rfl) ⟨[0, 1], by kernel_rfl, by decide, n_1, xs_2, vs_3.set ((v_61).toNat) v_74, p1_75, h1_76, by first | omega | (simp only [List.length_drop, List.length_set]; omega), by first | omega | (simp only [List.length_drop, List.length_set]; omega), by kernel_rfl, by kernel_rfl⟩
      · refine R.go 7 (R.frz 4 (by kernel_rfl) ?_)
        refine R.kfix 2 (us := usC) (by kernel_rfl) (hfC.frz 4 (LI vs_3) (Nat.le_of_ble_eq_true (by kernel_rfl))) ?_
        exact R.retX (res := .agg [AI n_1, LI xs_2, LI vs_3]) (hp' := [.box 98 [LB c, AI (p1_10 : Int), .int .u64 h1_11], .list eo1 so1 no1 co1, .dead, .box 34 [AI n_1, LI xs_2, LI vs_3], .dead, .box 34 [AI n_1, LI xs_2, LI vs_3]]) (by kernel_rfl) (by kernel_rfl) (by kernel_rfl) (by kernel_rfl) ⟨[0, 1], by kernel_rfl, by decide, n_1, xs_2, vs_3, p1_10, h1_11, by first | omega | (simp only [List.length_drop, List.length_set]; omega), by first | omega | (simp only [List.length_drop, List.length_set]; omega), by kernel_rfl, by kernel_rfl⟩

end Go.Proofs.Ytpalghbfhgimkaa


/-! Formulas as trees: where parts end; values by a stack (any words). -/
namespace Go.Proofs.Ytpalghbfhgimkaa
open Go.RowKit Go.Abs

/-- How many nodes the first o parts take. -/
def pe : Nat → List (Int × Int) → Option Nat
  | 0, _ => some 0
  | _ + 1, [] => none
  | o + 1, x :: l => (pe (o + partsN x.1) l).map (· + 1)
theorem pe_zero (l : List (Int × Int)) : pe 0 l = some 0 := by cases l <;> rfl
theorem pe_succ (o : Nat) (x : Int × Int) (l : List (Int × Int)) : pe (o + 1) (x :: l) = (pe (o + partsN x.1) l).map (· + 1) := rfl
theorem pe_cons {o n : Nat} {x : Int × Int} {l : List (Int × Int)} (h : pe (o + 1) (x :: l) = some n) : ∃ k, n = k + 1 ∧ pe (o + partsN x.1) l = some k := by
  rw [pe_succ, Option.map_eq_some_iff] at h
  obtain ⟨k, h1, rfl⟩ := h
  exact ⟨k, rfl, h1⟩
theorem pe_le : ∀ {l : List (Int × Int)} {o n : Nat}, pe o l = some n → n ≤ l.length
  | l, 0, n, h => by rw [pe_zero] at h; cases h; exact Nat.zero_le _
  | [], o + 1, n, h => by cases h
  | x :: l, o + 1, n, h => by
    obtain ⟨k, rfl, h1⟩ := pe_cons h
    exact Nat.succ_le_succ (pe_le h1)
theorem pe_take : ∀ {l : List (Int × Int)} {o n : Nat}, pe o l = some n → pe o (l.take n) = some n
  | l, 0, n, h => by rw [pe_zero] at h ⊢; exact h
  | [], o + 1, n, h => by cases h
  | x :: l, o + 1, n, h => by
    obtain ⟨k, rfl, h1⟩ := pe_cons h
    rw [List.take_succ_cons, pe_succ, pe_take h1]
    rfl
theorem pe_add : ∀ {l : List (Int × Int)} {o p n : Nat}, pe (o + p) l = some n → ∃ k, pe o l = some k ∧ k ≤ n ∧ pe p (l.drop k) = some (n - k)
  | l, 0, p, n, h => ⟨0, pe_zero l, Nat.zero_le _, by simpa using h⟩
  | [], o + 1, p, n, h => by rw [show o + 1 + p = (o + p) + 1 by omega] at h; cases h
  | x :: l, o + 1, p, n, h => by
    rw [show o + 1 + p = (o + p) + 1 by omega] at h
    obtain ⟨k, rfl, h0⟩ := pe_cons h
    rw [show o + p + partsN x.1 = o + partsN x.1 + p by omega] at h0
    obtain ⟨j, h1, h2, h3⟩ := pe_add h0
    exact ⟨j + 1, by rw [pe_succ, h1]; rfl, by omega, by rw [List.drop_succ_cons, h3]; congr 1; omega⟩
theorem pe_suffix : ∀ {l : List (Int × Int)} {o : Nat}, pe o l = some l.length → ∀ j, ∃ o', pe o' (l.drop j) = some (l.drop j).length
  | l, o, h, 0 => ⟨o, h⟩
  | [], o, h, j + 1 => ⟨0, rfl⟩
  | x :: l, 0, h, j + 1 => by rw [pe_zero] at h; cases h
  | x :: l, o + 1, h, j + 1 => by
    obtain ⟨k, hk, h⟩ := pe_cons h
    rw [List.drop_succ_cons]
    exact pe_suffix (by rw [h]; congr 1; simpa using hk.symm) j

/-- Where o parts end that begin at j. -/
def peX (o : Nat) (a : List (Int × Int)) (j : Nat) : Int := match pe o (a.drop j) with | some n => (j : Int) + n | none => -1
theorem peX_zero (a : List (Int × Int)) (j : Nat) : peX 0 a j = j := by simp [peX, pe_zero]
theorem peX_end (o : Nat) (a : List (Int × Int)) (j : Nat) (h : a.length ≤ j) : peX (o + 1) a j = -1 := by simp [peX, List.drop_eq_nil_of_le h, pe]
theorem drop_cons (a : List (Int × Int)) (j : Nat) (h : j < a.length) : a.drop j = a.getD j (0, 0) :: a.drop (j + 1) := by
  rw [List.drop_eq_getElem_cons h, List.getD_eq_getElem?_getD, List.getElem?_eq_getElem h]; rfl
theorem peX_step (o : Nat) (a : List (Int × Int)) (j : Nat) (h : j < a.length) : peX (o + 1) a j = peX (o + partsN (a.getD j (0, 0)).1) a (j + 1) := by
  unfold peX
  rw [drop_cons a j h, pe_succ]
  cases pe (o + partsN (a.getD j (0, 0)).1) (a.drop (j + 1)) with
  | none => rfl
  | some n => simp only [Option.map_some]; omega
theorem peX_stepI (o : Int) (a : List (Int × Int)) (j : Nat) (c : Int) (ho : 0 < o) (h : j < a.length) (hc : c = o - 1 + partsN (a.getD j (0, 0)).1) : peX o.toNat a j = peX c.toNat a (j + 1) := by
  rw [show o.toNat = (o.toNat - 1) + 1 by omega, peX_step _ a j h]
  congr 1
  omega
theorem peX_endI (o : Int) (a : List (Int × Int)) (j : Nat) (ho : 0 < o) (h : a.length ≤ j) : peX o.toNat a j = -1 := by
  rw [show o.toNat = (o.toNat - 1) + 1 by omega, peX_end _ a j h]

/-- A formula with variables below nv. -/
def OKM (nv : Nat) (a : List (Int × Int)) : Prop := pe 1 a = some a.length ∧ ∀ x ∈ a, 0 ≤ x.1 ∧ x.1 ≤ 6 ∧ (x.1 = 0 → 0 ≤ x.2 ∧ x.2 < nv)
def lef (a : List (Int × Int)) : List (Int × Int) := (a.take (peX 1 a 1).toNat).drop 1
def rig (a : List (Int × Int)) : List (Int × Int) := a.drop (peX 1 a 1).toNat
theorem okm_cons {nv : Nat} {a : List (Int × Int)} (h : OKM nv a) : ∃ x r, a = x :: r ∧ pe (partsN x.1) r = some r.length := by
  obtain ⟨h, _⟩ := h
  cases a with
  | nil => cases h
  | cons x r =>
    obtain ⟨k, hk, h⟩ := pe_cons (o := 0) h
    exact ⟨x, r, rfl, by rw [Nat.zero_add] at h; rw [h]; congr 1; simpa using hk.symm⟩
theorem okm_pos {nv : Nat} {a : List (Int × Int)} (h : OKM nv a) : 1 ≤ a.length := by
  obtain ⟨x, r, rfl, _⟩ := okm_cons h
  simp
theorem okm_get {nv : Nat} {a : List (Int × Int)} (h : OKM nv a) (j : Nat) (hj : j < a.length) : 0 ≤ (a.getD j (0, 0)).1 ∧ (a.getD j (0, 0)).1 ≤ 6 ∧ ((a.getD j (0, 0)).1 = 0 → 0 ≤ (a.getD j (0, 0)).2 ∧ (a.getD j (0, 0)).2 < nv) := by
  have : a.getD j (0, 0) ∈ a := by
    rw [List.getD_eq_getElem?_getD, List.getElem?_eq_getElem hj, Option.getD_some]
    exact List.getElem_mem hj
  exact h.2 _ this
theorem okm_two {nv : Nat} {a : List (Int × Int)} (h : OKM nv a) (hp : partsN (a.getD 0 (0, 0)).1 = 2) :
    ∃ x L R, a = x :: (L ++ R) ∧ OKM nv L ∧ OKM nv R ∧ peX 1 a 1 = 1 + L.length ∧ lef a = L ∧ rig a = R := by
  obtain ⟨x, r, rfl, hr⟩ := okm_cons h
  simp only [List.getD_cons_zero] at hp
  rw [hp] at hr
  obtain ⟨k, h1, h2, h3⟩ := pe_add (o := 1) (p := 1) hr
  have hk := pe_le h1
  have hX : peX 1 (x :: r) 1 = 1 + k := by simp [peX, h1]
  have hL : lef (x :: r) = r.take k := by
    unfold lef
    rw [hX, show (1 + (k : Int)).toNat = k + 1 by omega, List.take_succ_cons, List.drop_succ_cons, List.drop_zero]
  have hR : rig (x :: r) = r.drop k := by
    unfold rig
    rw [hX, show (1 + (k : Int)).toNat = k + 1 by omega, List.drop_succ_cons]
  have hl : (r.take k).length = k := by simp; omega
  refine ⟨x, r.take k, r.drop k, by rw [List.take_append_drop], ⟨?_, ?_⟩, ⟨?_, ?_⟩, by rw [hX, hl], hL, hR⟩
  · rw [pe_take h1, hl]
  · exact fun y hy => h.2 y (List.mem_cons_of_mem _ (List.mem_of_mem_take hy))
  · rw [h3]; simp
  · exact fun y hy => h.2 y (List.mem_cons_of_mem _ (List.mem_of_mem_drop hy))
theorem partsN_1 {k : Int} (h : k = 5 ∨ k = 6) : partsN k = 1 := by
  unfold partsN
  rw [if_neg (by omega), if_pos h]
theorem okm_one {nv : Nat} {a : List (Int × Int)} (h : OKM nv a) (hp : partsN (a.getD 0 (0, 0)).1 = 1) : ∃ x r, a = x :: r ∧ OKM nv r ∧ a.drop 1 = r := by
  obtain ⟨x, r, rfl, hr⟩ := okm_cons h
  simp only [List.getD_cons_zero] at hp
  rw [hp] at hr
  exact ⟨x, r, rfl, ⟨hr, fun y hy => h.2 y (List.mem_cons_of_mem _ hy)⟩, rfl⟩
theorem okm_lef {nv : Nat} {a : List (Int × Int)} (h : OKM nv a) (hp : partsN (a.getD 0 (0, 0)).1 = 2) : OKM nv (lef a) := by
  obtain ⟨x, L, R, _, hL, _, _, e, _⟩ := okm_two h hp
  rw [e]; exact hL
theorem okm_rig {nv : Nat} {a : List (Int × Int)} (h : OKM nv a) (hp : partsN (a.getD 0 (0, 0)).1 = 2) : OKM nv (rig a) := by
  obtain ⟨x, L, R, _, _, hR, _, _, e⟩ := okm_two h hp
  rw [e]; exact hR
theorem okm_tail {nv : Nat} {a : List (Int × Int)} (h : OKM nv a) (hp : partsN (a.getD 0 (0, 0)).1 = 1) : OKM nv (a.drop 1) := by
  obtain ⟨x, r, _, hr, e⟩ := okm_one h hp
  rw [e]; exact hr
theorem lenm_lef {nv : Nat} {a : List (Int × Int)} (h : OKM nv a) (hp : partsN (a.getD 0 (0, 0)).1 = 2) : (lef a).length < a.length ∧ (rig a).length < a.length ∧ 1 ≤ peX 1 a 1 ∧ peX 1 a 1 ≤ a.length := by
  obtain ⟨x, L, R, rfl, hL, _, e0, e1, e2⟩ := okm_two h hp
  rw [e1, e2, e0]
  simp
  omega

/-- Values by a stack: b tells the words of two parts, u those of one. -/
def stepG (b : Int → Int → Int → Int) (u : Int → Int → Int) (vs : List Int) (x : Int × Int) (st : List Int) : List Int :=
  if x.1 = 0 then vs.getD x.2.toNat 0 :: st
  else if x.1 = 2 ∨ x.1 = 3 ∨ x.1 = 4 then b x.1 (st.getD 0 0) (st.getD 1 0) :: st.drop 2
  else if x.1 = 5 ∨ x.1 = 6 then u x.1 (st.getD 0 0) :: st.drop 1
  else 0 :: st
section
variable (b : Int → Int → Int → Int) (u : Int → Int → Int) (vs : List Int)
theorem stepG_var {x : Int × Int} (h : x.1 = 0) (st : List Int) : stepG b u vs x st = vs.getD x.2.toNat 0 :: st := by rw [stepG, if_pos h]
theorem stepG_two {x : Int × Int} (h : x.1 = 2 ∨ x.1 = 3 ∨ x.1 = 4) (p q : Int) (st : List Int) : stepG b u vs x (p :: q :: st) = b x.1 p q :: st := by rw [stepG, if_neg (by omega), if_pos h]; rfl
theorem stepG_one {x : Int × Int} (h : x.1 = 5 ∨ x.1 = 6) (p : Int) (st : List Int) : stepG b u vs x (p :: st) = u x.1 p :: st := by rw [stepG, if_neg (by omega), if_neg (by omega), if_pos h]; rfl
theorem stepG_bot {x : Int × Int} (h : x.1 = 1) (st : List Int) : stepG b u vs x st = 0 :: st := by rw [stepG, if_neg (by omega), if_neg (by omega), if_neg (by omega)]
def stkG (a : List (Int × Int)) : List Int := a.foldr (stepG b u vs) []
def gv (a : List (Int × Int)) : Int := (stkG b u vs a).getD 0 0
theorem stkg_parts : ∀ {l : List (Int × Int)} {o : Nat}, (∀ x ∈ l, 0 ≤ x.1 ∧ x.1 ≤ 6) → pe o l = some l.length → ∃ ws : List Int, ws.length = o ∧ ∀ st, l.foldr (stepG b u vs) st = ws ++ st
  | [], 0, _, _ => ⟨[], rfl, fun _ => rfl⟩
  | [], o + 1, _, h => by cases h
  | x :: l, 0, _, h => by rw [pe_zero] at h; cases h
  | x :: l, o + 1, hx, h => by
    obtain ⟨k, hk, h⟩ := pe_cons h
    obtain ⟨ws, h1, h2⟩ := stkg_parts (fun y hy => hx y (List.mem_cons_of_mem _ hy)) (show pe (o + partsN x.1) l = some l.length by rw [h]; congr 1; simpa using hk.symm)
    have hx0 := hx x (List.mem_cons_self ..)
    have hc : x.1 = 0 ∨ x.1 = 1 ∨ (x.1 = 2 ∨ x.1 = 3 ∨ x.1 = 4) ∨ (x.1 = 5 ∨ x.1 = 6) := by omega
    rcases hc with hc | hc | hc | hc
    · exact ⟨vs.getD x.2.toNat 0 :: ws, by simp [partsN, hc] at h1; simp [h1], fun st => by rw [List.foldr_cons, h2, stepG_var _ _ _ hc]; rfl⟩
    · exact ⟨0 :: ws, by simp [partsN, hc] at h1; simp [h1], fun st => by rw [List.foldr_cons, h2, stepG_bot _ _ _ hc]; rfl⟩
    · rw [(partsN_two _).2 hc] at h1
      match ws, h1 with
      | p :: q :: ws, h1 =>
        have h1' : ws.length = o := by simp at h1; omega
        exact ⟨b x.1 p q :: ws, by simp [h1'], fun st => by rw [List.foldr_cons, h2, List.cons_append, List.cons_append, stepG_two _ _ _ hc]; rfl⟩
    · rw [partsN_1 hc] at h1
      match ws, h1 with
      | p :: ws, h1 =>
        have h1' : ws.length = o := by simp at h1; omega
        exact ⟨u x.1 p :: ws, by simp [h1'], fun st => by rw [List.foldr_cons, h2, List.cons_append, stepG_one _ _ _ hc]; rfl⟩
theorem okm_stk {nv : Nat} {a : List (Int × Int)} (h : OKM nv a) : ∀ st, a.foldr (stepG b u vs) st = gv b u vs a :: st := by
  obtain ⟨ws, h1, h2⟩ := stkg_parts b u vs (fun x hx => ⟨(h.2 x hx).1, (h.2 x hx).2.1⟩) h.1
  match ws, h1 with
  | [v], _ =>
    have : gv b u vs a = v := by simp [gv, stkG, h2]
    intro st
    rw [h2, this]
    rfl
theorem gv_two {nv : Nat} {a : List (Int × Int)} (h : OKM nv a) {k : Int} (hk : (a.getD 0 (0, 0)).1 = k) (hc : k = 2 ∨ k = 3 ∨ k = 4) : b k (gv b u vs (lef a)) (gv b u vs (rig a)) = gv b u vs a := by
  obtain ⟨x, L, R, rfl, hL, hR, _, e1, e2⟩ := okm_two h ((partsN_two _).2 (by rw [hk]; exact hc))
  rw [e1, e2]
  simp only [List.getD_cons_zero] at hk
  subst hk
  conv => rhs; unfold gv stkG
  rw [List.foldr_cons, List.foldr_append, okm_stk b u vs hR, okm_stk b u vs hL, stepG_two _ _ _ hc]
  rfl
theorem gv_one {nv : Nat} {a : List (Int × Int)} (h : OKM nv a) {k : Int} (hk : (a.getD 0 (0, 0)).1 = k) (hc : k = 5 ∨ k = 6) : u k (gv b u vs (a.drop 1)) = gv b u vs a := by
  obtain ⟨x, r, rfl, hr, e⟩ := okm_one h (partsN_1 (by rw [hk]; exact hc))
  rw [e]
  simp only [List.getD_cons_zero] at hk
  subst hk
  conv => rhs; unfold gv stkG
  rw [List.foldr_cons, okm_stk b u vs hr, stepG_one _ _ _ hc]
  rfl
theorem gv_var {nv : Nat} {a : List (Int × Int)} (h : OKM nv a) (hk : (a.getD 0 (0, 0)).1 = 0) : vs.getD (a.getD 0 (0, 0)).2.toNat 0 = gv b u vs a := by
  obtain ⟨x, r, rfl, hr⟩ := okm_cons h
  simp only [List.getD_cons_zero] at hk ⊢
  simp [gv, stkG, stepG, hk]
theorem gv_bot {nv : Nat} {a : List (Int × Int)} (h : OKM nv a) (hk : (a.getD 0 (0, 0)).1 = 1) : 0 = gv b u vs a := by
  obtain ⟨x, r, rfl, hr⟩ := okm_cons h
  simp only [List.getD_cons_zero] at hk ⊢
  simp [gv, stkG, stepG, hk]

/-! The stack from behind. -/
theorem stkg_step (a : List (Int × Int)) (i : Int) (h0 : 0 ≤ i) (h1 : i < a.length) : stkG b u vs (a.drop (i - 1 + 1).toNat) = stepG b u vs (a.getD i.toNat (0, 0)) (stkG b u vs (a.drop (i + 1).toNat)) := by
  rw [show (i - 1 + 1).toNat = i.toNat by omega, show (i + 1).toNat = i.toNat + 1 by omega, drop_cons a i.toNat (by omega)]
  rfl
theorem stkg_len {nv : Nat} {a : List (Int × Int)} (h : OKM nv a) (i : Int) (h0 : 0 ≤ i) (h1 : i < a.length) : partsN (a.getD i.toNat (0, 0)).1 ≤ (stkG b u vs (a.drop (i + 1).toNat)).length := by
  obtain ⟨o, ho⟩ := pe_suffix h.1 i.toNat
  rw [drop_cons a i.toNat (by omega), show i.toNat + 1 = (i + 1).toNat by omega] at ho
  cases o with
  | zero => rw [pe_zero] at ho; cases ho
  | succ o =>
    obtain ⟨k, hk, ho⟩ := pe_cons ho
    obtain ⟨ws, h2, h3⟩ := stkg_parts b u vs (fun x hx => ⟨(h.2 x (List.mem_of_mem_drop hx)).1, (h.2 x (List.mem_of_mem_drop hx)).2.1⟩) (show pe (o + partsN (a.getD i.toNat (0, 0)).1) (a.drop (i + 1).toNat) = some (a.drop (i + 1).toNat).length by rw [ho]; congr 1; simpa using hk.symm)
    unfold stkG
    rw [h3, List.append_nil, h2]
    omega
variable {b u vs}
theorem stkg_push {a : List (Int × Int)} {S : List Int} {i : Int} (hS : S = (stkG b u vs (a.drop (i + 1).toNat)).reverse) (h0 : 0 ≤ i) (h1 : i < a.length) (hk : (a.getD i.toNat (0, 0)).1 = 0) : S ++ [vs.getD (a.getD i.toNat (0, 0)).2.toNat 0] = (stkG b u vs (a.drop (i - 1 + 1).toNat)).reverse := by
  rw [stkg_step b u vs a i h0 h1, hS, stepG_var _ _ _ hk, List.reverse_cons]
theorem stkg_bot {a : List (Int × Int)} {S : List Int} {i : Int} (hS : S = (stkG b u vs (a.drop (i + 1).toNat)).reverse) (h0 : 0 ≤ i) (h1 : i < a.length) (hk : (a.getD i.toNat (0, 0)).1 = 1) : S ++ [0] = (stkG b u vs (a.drop (i - 1 + 1).toNat)).reverse := by
  rw [stkg_step b u vs a i h0 h1, hS, stepG_bot _ _ _ hk, List.reverse_cons]
theorem rev_top (p : Int) (r : List Int) : ((p :: r).reverse).getD (((p :: r).reverse).length - 1) 0 = p := by simp [List.getD_eq_getElem?_getD]
theorem rev_pop (p : Int) (r : List Int) : ((p :: r).reverse).take (((p :: r).reverse).length - 1) = r.reverse := by simp
theorem stkg_two {nv : Nat} {a : List (Int × Int)} {S S1 : List Int} {i p q v k : Int} (hok : OKM nv a) (hS : S = (stkG b u vs (a.drop (i + 1).toNat)).reverse) (h0 : 0 ≤ i) (h1 : i < a.length)
    (hk : (a.getD i.toNat (0, 0)).1 = k) (hc : k = 2 ∨ k = 3 ∨ k = 4) (hp : S.getD (S.length - 1) 0 = p) (h2 : S.take (S.length - 1) = S1) (hq : S1.getD (S1.length - 1) 0 = q) (hv : v = b k p q) :
    S1.take (S1.length - 1) ++ [v] = (stkG b u vs (a.drop (i - 1 + 1).toNat)).reverse := by
  subst hk
  have hl := stkg_len b u vs hok i h0 h1
  rw [(partsN_two _).2 hc] at hl
  rw [stkg_step b u vs a i h0 h1]
  generalize stkG b u vs (a.drop (i + 1).toNat) = T at hS hl
  match T, hl with
  | p' :: q' :: r, _ =>
    subst hS
    rw [rev_top] at hp
    rw [rev_pop] at h2
    subst h2
    rw [rev_top] at hq
    subst hp
    subst hq
    rw [rev_pop, stepG_two _ _ _ hc, List.reverse_cons, hv]
theorem stkg_one {nv : Nat} {a : List (Int × Int)} {S : List Int} {i p v k : Int} (hok : OKM nv a) (hS : S = (stkG b u vs (a.drop (i + 1).toNat)).reverse) (h0 : 0 ≤ i) (h1 : i < a.length)
    (hk : (a.getD i.toNat (0, 0)).1 = k) (hc : k = 5 ∨ k = 6) (hp : S.getD (S.length - 1) 0 = p) (hv : v = u k p) :
    S.take (S.length - 1) ++ [v] = (stkG b u vs (a.drop (i - 1 + 1).toNat)).reverse := by
  subst hk
  have hl := stkg_len b u vs hok i h0 h1
  rw [partsN_1 hc] at hl
  rw [stkg_step b u vs a i h0 h1]
  generalize stkG b u vs (a.drop (i + 1).toNat) = T at hS hl
  match T, hl with
  | p' :: r, _ =>
    subst hS
    rw [rev_top] at hp
    subst hp
    rw [rev_pop, stepG_one _ _ _ hc, List.reverse_cons, hv]
theorem stkg_room {nv : Nat} {a : List (Int × Int)} {S : List Int} {i : Int} (hok : OKM nv a) (hS : S = (stkG b u vs (a.drop (i + 1).toNat)).reverse) (h0 : 0 ≤ i) (h1 : i < a.length) : partsN (a.getD i.toNat (0, 0)).1 ≤ S.length := by
  rw [hS, List.length_reverse]
  exact stkg_len b u vs hok i h0 h1
theorem stkg_fin {nv : Nat} {a : List (Int × Int)} {S : List Int} {i : Int} (hok : OKM nv a) (hS : S = (stkG b u vs (a.drop (i + 1).toNat)).reverse) (h0 : i = -1) : S = [gv b u vs a] := by
  subst h0
  have := okm_stk b u vs hok []
  rw [hS]
  simp [stkG, this]
end

theorem partEnd_c (a : List (Int × Int)) (i : Nat) (hi : i ≤ a.length) (hl : a.length ≤ 1000000000) : CallA Try.prog 87 [LN a, AI (i : Int)] (AI (peX 1 a i)) := by
  refine CallA.of Try.func87 rfl (by kernel_rfl) ?_
  refine R.go 10 (R.loop ((fun | (o, j) => (⟨(frm 24 [(0, LN a), (1, AI (j : Int)), (5, AI o)]), []⟩ : St) : Int × Nat → St)) (fun | (o, j) => (0 ≤ o) ∧ (o ≤ j + 1) ∧ (j ≤ a.length) ∧ (peX 1 a i = peX o.toNat a j)) (fun | (o, j) => a.length - j) (1, i) [0, 1, 5] none (by kernel_rfl) (by kernel_rfl) (by kernel_rfl) ⟨(by omega), (by omega), (by omega), (by rfl)⟩ ?_)
  rintro ⟨o, j⟩ ⟨h4_1, h4_2, h4_3, h4_4⟩ R1 N2
  have hp := partsN_le (a.getD j (0, 0)).1
  refine R.go 6 (R.cond (o > 0) (by kernel_rfl) (fun c5 => ?_) (fun c5 => ?_))
  · refine R.go 11 (R.cond ((j : Int) ≥ (a.length : Int)) (by kernel_rfl) (fun c6 => ?_) (fun c6 => ?_))
    · exact R.go 4 (R.retE (AI (-1)) (by kernel_rfl) (by kernel_rfl) (by first | (apply congrArg AI; rw [‹peX 1 a i = _›]; first | exact (peX_endI _ _ _ (by omega) (by omega)).symm | (rw [show o = 0 by omega]; exact (peX_zero _ _).symm)) | (exfalso; omega)))
    · refine R.go 5 (R.idx eN a (0, 0) j (j : Int) (by kernel_rfl) rfl eN_len (by omega) (by kernel_rfl) ?_)
      refine R.go 2 (R.call true (partsOf_c ((a.getD j (0, 0)).1)) (by kernel_rfl) rfl (by kernel_rfl) ?_)
      refine R.ar ((partsN ((a.getD j (0, 0)).1) : Int) - 1) (by kernel_rfl) (by omega) (by omega) (by kernel_rfl) ?_
      refine R.ar (o + ((partsN ((a.getD j (0, 0)).1) : Int) - 1)) (by kernel_rfl) (by omega) (by omega) (by kernel_rfl) ?_
      refine R.go 5 (R.ar ((j : Int) + 1) (by kernel_rfl) (by omega) (by omega) (by kernel_rfl) ?_)
      exact R.go 2 (R.stop R1 (by kernel_rfl) (N2 (o + ((partsN ((a.getD j (0, 0)).1) : Int) - 1), j + 1) [0, 1, 5] none _ (by kernel_rfl) (by kernel_rfl) ⟨(by omega), (by omega), (by omega), (by rw [‹peX 1 a i = _›]; exact peX_stepI _ _ _ _ (by omega) (by omega) (by omega))⟩ (by show (a.length - (j + 1)) < (a.length - j); omega)))
  · exact R.go 6 (R.retE (AI (j : Int)) (by kernel_rfl) (by kernel_rfl) (by first | (apply congrArg AI; rw [‹peX 1 a i = _›]; first | exact (peX_endI _ _ _ (by omega) (by omega)).symm | (rw [show o = 0 by omega]; exact (peX_zero _ _).symm)) | (exfalso; omega)))

theorem l02Part_c (a : List (Int × Int)) (i : Nat) (hi : i ≤ a.length) (hl : a.length ≤ 1000000000) : CallA Try.prog 78 [LN a, AI (i : Int)] (AI (peX 1 a i)) := by
  refine CallA.of Try.func78 rfl (by kernel_rfl) ?_
  refine R.go 10 (R.loop ((fun | (o, j) => (⟨(frm 24 [(0, LN a), (1, AI (j : Int)), (5, AI o)]), []⟩ : St) : Int × Nat → St)) (fun | (o, j) => (0 ≤ o) ∧ (o ≤ j + 1) ∧ (j ≤ a.length) ∧ (peX 1 a i = peX o.toNat a j)) (fun | (o, j) => a.length - j) (1, i) [0, 1, 5] none (by kernel_rfl) (by kernel_rfl) (by kernel_rfl) ⟨(by omega), (by omega), (by omega), (by rfl)⟩ ?_)
  rintro ⟨o, j⟩ ⟨h4_1, h4_2, h4_3, h4_4⟩ R1 N2
  have hp := partsN_le (a.getD j (0, 0)).1
  refine R.go 6 (R.cond (o > 0) (by kernel_rfl) (fun c5 => ?_) (fun c5 => ?_))
  · refine R.go 10 (R.cond ((j : Int) ≥ (a.length : Int)) (by kernel_rfl) (fun c6 => ?_) (fun c6 => ?_))
    · exact R.go 4 (R.retE (AI (-1)) (by kernel_rfl) (by kernel_rfl) (by first | (apply congrArg AI; rw [‹peX 1 a i = _›]; first | exact (peX_endI _ _ _ (by omega) (by omega)).symm | (rw [show o = 0 by omega]; exact (peX_zero _ _).symm)) | (exfalso; omega)))
    · refine R.go 4 (R.ar (o - 1) (by kernel_rfl) (by omega) (by omega) (by kernel_rfl) ?_)
      refine R.go 2 (R.idx eN a (0, 0) j (j : Int) (by kernel_rfl) rfl eN_len (by omega) (by kernel_rfl) ?_)
      refine R.go 2 (R.call true (l02Parts_c ((a.getD j (0, 0)).1)) (by kernel_rfl) rfl (by kernel_rfl) ?_)
      refine R.ar ((o - 1) + (partsN ((a.getD j (0, 0)).1) : Int)) (by kernel_rfl) (by omega) (by omega) (by kernel_rfl) ?_
      refine R.go 4 (R.ar ((j : Int) + 1) (by kernel_rfl) (by omega) (by omega) (by kernel_rfl) ?_)
      exact R.go 3 (R.stop R1 (by kernel_rfl) (N2 ((o - 1) + (partsN ((a.getD j (0, 0)).1) : Int), j + 1) [0, 1, 5] none _ (by kernel_rfl) (by kernel_rfl) ⟨(by omega), (by omega), (by omega), (by rw [‹peX 1 a i = _›]; exact peX_stepI _ _ _ _ (by omega) (by omega) (by omega))⟩ (by show (a.length - (j + 1)) < (a.length - j); omega)))
  · exact R.go 6 (R.retE (AI (j : Int)) (by kernel_rfl) (by kernel_rfl) (by first | (apply congrArg AI; rw [‹peX 1 a i = _›]; first | exact (peX_endI _ _ _ (by omega) (by omega)).symm | (rw [show o = 0 by omega]; exact (peX_zero _ _).symm)) | (exfalso; omega)))

theorem l02Left_c (nv : Nat) (a : List (Int × Int)) (hok : OKM nv a) (h2 : partsN (a.getD 0 (0, 0)).1 = 2) (hl : a.length ≤ 1000000000) : CallA Try.prog 56 [LN a] (LN (lef a)) := by
  have h1 := okm_pos hok
  have hb := lenm_lef hok h2
  refine CallA.of Try.func56 rfl (by kernel_rfl) ?_
  refine R.go 8 (R.call true (l02Part_c a 1 (by first | omega | (simp <;> omega)) hl) (by kernel_rfl) rfl (by kernel_rfl) ?_)
  refine R.slLH eN a 1 ((peX 1 a 1).toNat) 1 (peX 1 a 1) (by kernel_rfl) rfl (by omega) eN_len (by omega) (by omega) (by kernel_rfl) ?_
  exact R.go 2 (R.retE (LN ((a.take ((peX 1 a 1).toNat)).drop 1)) (by kernel_rfl) (by kernel_rfl) (by first | (rfl) | (exfalso; omega)))

theorem l02Right_c (nv : Nat) (a : List (Int × Int)) (hok : OKM nv a) (h2 : partsN (a.getD 0 (0, 0)).1 = 2) (hl : a.length ≤ 1000000000) : CallA Try.prog 57 [LN a] (LN (rig a)) := by
  have h1 := okm_pos hok
  have hb := lenm_lef hok h2
  refine CallA.of Try.func57 rfl (by kernel_rfl) ?_
  refine R.go 8 (R.call true (l02Part_c a 1 (by first | omega | (simp <;> omega)) hl) (by kernel_rfl) rfl (by kernel_rfl) ?_)
  refine R.slL eN a ((peX 1 a 1).toNat) (peX 1 a 1) (by kernel_rfl) (by omega) eN_len (by omega) (by kernel_rfl) ?_
  exact R.go 2 (R.retE (LN (a.drop ((peX 1 a 1).toNat))) (by kernel_rfl) (by kernel_rfl) (by first | (rfl) | (exfalso; omega)))

end Go.Proofs.Ytpalghbfhgimkaa


/-! Which lists are formulas; their variables. -/
namespace Go.Proofs.Ytpalghbfhgimkaa
open Go.RowKit Go.Abs

def okN (x : Int × Int) : Bool := decide ((x.1 = 0 ∧ 0 ≤ x.2 ∧ x.2 ≤ 5) ∨ (1 ≤ x.1 ∧ x.1 ≤ 6 ∧ x.2 = 0))
def badN (x : Int × Int) : Bool := !okN x
def modN (x : Int × Int) : Bool := decide (x.1 = 5 ∨ x.1 = 6)
def treeB (a : List (Int × Int)) : Bool := decide (0 < a.length) && a.all okN && decide (peX 1 a 0 = a.length)
def isF (a : List (Int × Int)) : Bool := decide (a.length ≤ 40) && treeB a
theorem okN_no (x : Int × Int) : okN x = false ↔ ¬ ((x.1 = 0 ∧ 0 ≤ x.2 ∧ x.2 ≤ 5) ∨ (1 ≤ x.1 ∧ x.1 ≤ 6 ∧ x.2 = 0)) := by unfold okN; exact decide_eq_false_iff_not
theorem okN_yes (x : Int × Int) : okN x = true ↔ ((x.1 = 0 ∧ 0 ≤ x.2 ∧ x.2 ≤ 5) ∨ (1 ≤ x.1 ∧ x.1 ≤ 6 ∧ x.2 = 0)) := by unfold okN; exact decide_eq_true_iff
theorem bad_no (x : Int × Int) : badN x = false ↔ ((x.1 = 0 ∧ 0 ≤ x.2 ∧ x.2 ≤ 5) ∨ (1 ≤ x.1 ∧ x.1 ≤ 6 ∧ x.2 = 0)) := by unfold badN; rw [Bool.not_eq_false', okN_yes]
theorem bad_yes (x : Int × Int) : badN x = true ↔ ¬ ((x.1 = 0 ∧ 0 ≤ x.2 ∧ x.2 ≤ 5) ∨ (1 ≤ x.1 ∧ x.1 ≤ 6 ∧ x.2 = 0)) := by unfold badN; rw [Bool.not_eq_true', okN_no]
theorem all_any (a : List (Int × Int)) : a.all okN = !a.any badN := by
  induction a with
  | nil => rfl
  | cons x a ih => simp [List.all_cons, List.any_cons, ih, badN]
/-- Where p holds first. -/
def fidx (p : Int × Int → Bool) : List (Int × Int) → Int → Int
  | [], _ => -1
  | x :: l, i => if p x = true then i else fidx p l (i + 1)
theorem fidx_hit {p : Int × Int → Bool} {a : List (Int × Int)} {i : Nat} (h : i < a.length) (hp : p (a.getD i (0, 0)) = true) : fidx p (a.drop i) i = i := by
  rw [drop_cons a i h, fidx, if_pos hp]
theorem fidx_miss {p : Int × Int → Bool} {a : List (Int × Int)} {i : Nat} (h : i < a.length) (hp : p (a.getD i (0, 0)) = false) : fidx p (a.drop i) i = fidx p (a.drop (i + 1)) ((i + 1 : Nat) : Int) := by
  rw [drop_cons a i h, fidx, if_neg (by rw [hp]; decide)]
  rfl
theorem fidx_end {p : Int × Int → Bool} {a : List (Int × Int)} {i : Nat} (h : a.length ≤ i) : fidx p (a.drop i) i = -1 := by
  rw [List.drop_eq_nil_of_le h, fidx]
theorem fidx_any {p : Int × Int → Bool} : ∀ {a : List (Int × Int)} {i : Int}, 0 ≤ i → (0 ≤ fidx p a i ↔ a.any p = true)
  | [], i, h => by simp [fidx]
  | x :: a, i, h => by
    have ih := fidx_any (p := p) (a := a) (i := i + 1) (by omega)
    rw [fidx, List.any_cons]
    by_cases hp : p x = true
    · simp [hp, h]
    · rw [if_neg hp, ih]; simp [hp]
theorem any_hit {p : Int × Int → Bool} {a : List (Int × Int)} {i : Nat} (h : i < a.length) (hp : p (a.getD i (0, 0)) = true) : (a.drop i).any p = true := by
  rw [drop_cons a i h, List.any_cons, hp, Bool.true_or]
theorem any_miss {p : Int × Int → Bool} {a : List (Int × Int)} {i : Nat} (h : i < a.length) (hp : p (a.getD i (0, 0)) = false) : (a.drop i).any p = (a.drop (i + 1)).any p := by
  rw [drop_cons a i h, List.any_cons, hp, Bool.false_or]
theorem any_end {p : Int × Int → Bool} {a : List (Int × Int)} {i : Nat} (h : a.length ≤ i) : (a.drop i).any p = false := by
  rw [List.drop_eq_nil_of_le h]; rfl
theorem tree_no {a : List (Int × Int)} (h : a.any badN = true) : treeB a = false := by simp [treeB, all_any, h]
theorem tree_yes {a : List (Int × Int)} (h : a.any badN = false) : treeB a = (decide (0 < a.length) && decide (peX 1 a 0 = a.length)) := by simp [treeB, all_any, h]
/-- The variables of the first nodes. -/
def vmTo (a : List (Int × Int)) : Nat → Int
  | 0 => 0
  | i + 1 => if (a.getD i (0, 0)).1 = 0 then bor (vmTo a i) (shl64 1 (a.getD i (0, 0)).2) else vmTo a i
theorem okN_get {a : List (Int × Int)} (h : a.any badN = false) {j : Nat} (hj : j < a.length) : okN (a.getD j (0, 0)) = true := by
  have h1 : a.getD j (0, 0) ∈ a := by
    rw [List.getD_eq_getElem?_getD, List.getElem?_eq_getElem hj, Option.getD_some]
    exact List.getElem_mem hj
  have h2 : a.all okN = true := by rw [all_any, h]; rfl
  exact List.all_eq_true.1 h2 _ h1
theorem isF_parts {a : List (Int × Int)} (h : isF a = true) : a.length ≤ 40 ∧ 0 < a.length ∧ a.any badN = false ∧ peX 1 a 0 = a.length := by
  simp only [isF, treeB, all_any, Bool.and_eq_true, decide_eq_true_eq, Bool.not_eq_true'] at h
  exact ⟨h.1, h.2.1.1, h.2.1.2, h.2.2⟩
theorem pe_of_peX {a : List (Int × Int)} (h : peX 1 a 0 = a.length) : pe 1 a = some a.length := by
  unfold peX at h
  rw [List.drop_zero] at h
  cases hp : pe 1 a with
  | none => rw [hp] at h; simp only at h; omega
  | some n => rw [hp] at h; simp only at h; congr 1; omega

theorem isF_okm {a : List (Int × Int)} (h : isF a = true) : OKM 6 a ∧ a.length ≤ 40 := by
  obtain ⟨h1, h2, h3, h4⟩ := isF_parts h
  refine ⟨⟨pe_of_peX h4, fun x hx => ?_⟩, h1⟩
  obtain ⟨j, hj, rfl⟩ := List.getElem_of_mem hx
  have hg : a[j] = a.getD j (0, 0) := by rw [List.getD_eq_getElem?_getD, List.getElem?_eq_getElem hj]; rfl
  have hn := (okN_yes _).1 (okN_get h3 hj)
  rw [hg]
  refine ⟨by omega, by omega, fun h0 => by omega⟩

theorem isVariable_c (v : Int) : CallA Try.prog 102 [AI v] (.bool (inR v 0 5)) := by
  refine CallA.of Try.func102 rfl (by kernel_rfl) ?_
  refine R.go 7 (R.call true (inRange_c v 0 5) (by kernel_rfl) rfl (by kernel_rfl) ?_)
  exact R.go 2 (R.retE (.bool (inR v 0 5)) (by kernel_rfl) (by kernel_rfl) (by rfl))

theorem isNode_c (k : Int) (v : Int) : CallA Try.prog 86 [.agg [AI k, AI v]] (.bool (okN (k, v))) := by
  refine CallA.of Try.func86 rfl (by kernel_rfl) ?_
  refine R.go 12 (R.cond (k = 0) (by kernel_rfl) (fun c1 => ?_) (fun c1 => ?_))
  · refine R.go 4 (R.call true (isVariable_c v) (by kernel_rfl) rfl (by kernel_rfl) ?_)
    exact R.go 2 (R.retE (.bool (inR v 0 5)) (by kernel_rfl) (by kernel_rfl) (by first | (apply congrArg AV.bool; rw [Bool.eq_iff_iff]; simp only [okN, badN, modN, inR, decide_eq_true_eq, Bool.and_eq_true, Bool.not_eq_true', decide_eq_false_iff_not, Bool.and_eq_false_iff, true_iff, false_iff, iff_true, iff_false, reduceCtorEq] at *; omega) | (exfalso; omega)))
  · refine R.go 5 (R.call true (inRange_c k 1 6) (by kernel_rfl) rfl (by kernel_rfl) ?_)
    refine R.go 1 ?_
    refine (Bool.eq_false_or_eq_true (inR k 1 6)).elim (fun c2 => ?_) (fun c2 => ?_)
    · refine R.want (inR k 1 6) true (by kernel_rfl) c2 ?_
      refine R.go 1 (R.want (inR k 1 6) true (by kernel_rfl) c2 ?_)
      refine R.go 1 (R.want (inR k 1 6) true (by kernel_rfl) c2 ?_)
      refine R.go 1 (R.pick (inR k 1 6) true (by kernel_rfl) c2 (by kernel_rfl) ?_)
      exact R.go 2 (R.retE (.bool (decide (v = 0))) (by kernel_rfl) (by kernel_rfl) (by first | (apply congrArg AV.bool; rw [Bool.eq_iff_iff]; simp only [okN, badN, modN, inR, decide_eq_true_eq, Bool.and_eq_true, Bool.not_eq_true', decide_eq_false_iff_not, Bool.and_eq_false_iff, true_iff, false_iff, iff_true, iff_false, reduceCtorEq] at *; omega) | (exfalso; omega)))
    · refine R.skp (inR k 1 6) true (by kernel_rfl) c2 (by kernel_rfl) ?_
      refine R.skp (inR k 1 6) true (by kernel_rfl) c2 (by kernel_rfl) ?_
      refine R.skp (inR k 1 6) true (by kernel_rfl) c2 (by kernel_rfl) ?_
      refine R.pick (inR k 1 6) false (by kernel_rfl) c2 (by kernel_rfl) ?_
      exact R.go 2 (R.retE (.bool false) (by kernel_rfl) (by kernel_rfl) (by first | (apply congrArg AV.bool; rw [Bool.eq_iff_iff]; simp only [okN, badN, modN, inR, decide_eq_true_eq, Bool.and_eq_true, Bool.not_eq_true', decide_eq_false_iff_not, Bool.and_eq_false_iff, true_iff, false_iff, iff_true, iff_false, reduceCtorEq] at *; omega) | (exfalso; omega)))

theorem isFormula1_c (k : Int) (v : Int) : CallA Try.prog 85 [.agg [AI k, AI v]] (.bool (badN (k, v))) := by
  refine CallA.of Try.func85 rfl (by kernel_rfl) ?_
  refine R.go 8 (R.call true (isNode_c k v) (by kernel_rfl) rfl (by kernel_rfl) ?_)
  exact R.go 3 (R.retE (.bool (!(okN (k, v)))) (by kernel_rfl) (by kernel_rfl) (by first | (rfl) | (exfalso; omega)))

theorem index_badN_c (a : List (Int × Int)) (hl : a.length ≤ 1000000000) : CallA Try.prog 101 [LN a, .fn 85 []] (AI (fidx badN a 0)) := by
  refine CallA.of Try.func101 rfl (by kernel_rfl) ?_
  refine R.go 12 (R.loop (fun (i : Nat) => (⟨(frm 19 [(0, LN a), (1, .fn 85 []), (7, AI a.length), (8, AI (i : Int))]), []⟩ : St)) (fun (i : Nat) => (i ≤ a.length) ∧ (fidx badN a 0 = fidx badN (a.drop i) i)) (fun (i : Nat) => a.length - i) 0 [0, 1, 7, 8] none (by kernel_rfl) (by kernel_rfl) (by kernel_rfl) ⟨(by omega), (by rfl)⟩ ?_)
  rintro i ⟨h3_1, h3_2⟩ R1 N2
  refine R.go 5 (R.cond ((i : Int) < (a.length : Int)) (by kernel_rfl) (fun c4 => ?_) (fun c4 => ?_))
  · refine R.go 13 (R.idx eN a (0, 0) i (i : Int) (by kernel_rfl) rfl eN_len (by omega) (by kernel_rfl) ?_)
    refine R.go 1 (R.call true (isFormula1_c ((a.getD i (0, 0)).1) ((a.getD i (0, 0)).2)) (by kernel_rfl) rfl (by kernel_rfl) ?_)
    refine R.go 1 (R.condB (badN (((a.getD i (0, 0)).1), ((a.getD i (0, 0)).2))) (by kernel_rfl) (fun c5 => ?_) (fun c5 => ?_))
    · exact R.go 5 (R.retE (AI (i : Int)) (by kernel_rfl) (by kernel_rfl) (by first | (apply congrArg AI; rw [‹fidx badN a 0 = _›]; first | exact (fidx_end (by omega)).symm | exact (fidx_hit (by omega) (by assumption)).symm) | (exfalso; omega)))
    · refine R.go 3 (R.ar ((i : Int) + 1) (by kernel_rfl) (by omega) (by omega) (by kernel_rfl) ?_)
      exact R.go 2 (R.stop R1 (by kernel_rfl) (N2 (i + 1) [0, 1, 7, 8] none _ (by kernel_rfl) (by kernel_rfl) ⟨(by omega), (by rw [‹fidx badN a 0 = _›]; exact fidx_miss (by omega) (by assumption))⟩ (by show (a.length - (i + 1)) < (a.length - i); omega)))
  · exact R.go 5 (R.retE (AI (-1)) (by kernel_rfl) (by kernel_rfl) (by first | (apply congrArg AI; rw [‹fidx badN a 0 = _›]; first | exact (fidx_end (by omega)).symm | exact (fidx_hit (by omega) (by assumption)).symm) | (exfalso; omega)))

theorem contains_badN_c (a : List (Int × Int)) (hl : a.length ≤ 1000000000) : CallA Try.prog 84 [LN a, .fn 85 []] (.bool (a.any badN)) := by
  refine CallA.of Try.func84 rfl (by kernel_rfl) ?_
  refine R.go 8 (R.call true (index_badN_c a hl) (by kernel_rfl) rfl (by kernel_rfl) ?_)
  exact R.go 3 (R.retE (.bool (decide ((fidx badN a 0) ≥ 0))) (by kernel_rfl) (by kernel_rfl) (by first | (apply congrArg AV.bool; rw [Bool.eq_iff_iff, decide_eq_true_iff]; exact fidx_any (Int.le_refl 0)) | (exfalso; omega)))

theorem isFormula_c (a : List (Int × Int)) (hl : a.length ≤ 1000000000) : CallA Try.prog 66 [LN a] (.bool (isF a)) := by
  refine CallA.of Try.func66 rfl (by kernel_rfl) ?_
  refine R.go 10 ?_
  by_cases c1 : (a.length : Int) ≥ 1
  · refine R.want (decide ((a.length : Int) ≥ 1)) true (by kernel_rfl) (dT c1) ?_
    refine R.go 1 (R.want (decide ((a.length : Int) ≥ 1)) true (by kernel_rfl) (dT c1) ?_)
    refine R.go 1 (R.want (decide ((a.length : Int) ≥ 1)) true (by kernel_rfl) (dT c1) ?_)
    refine R.go 1 (R.pick (decide ((a.length : Int) ≥ 1)) true (by kernel_rfl) (dT c1) (by kernel_rfl) ?_)
    refine R.go 1 ?_
    by_cases c2 : (a.length : Int) ≤ 40
    · refine R.want (decide ((a.length : Int) ≤ 40)) true (by kernel_rfl) (dT c2) ?_
      refine R.go 1 (R.want (decide ((a.length : Int) ≤ 40)) true (by kernel_rfl) (dT c2) ?_)
      refine R.call true (contains_badN_c a hl) (by kernel_rfl) rfl (by kernel_rfl) ?_
      refine R.want (decide ((a.length : Int) ≤ 40)) true (by kernel_rfl) (dT c2) ?_
      refine R.go 1 (R.pick (decide ((a.length : Int) ≤ 40)) true (by kernel_rfl) (dT c2) (by kernel_rfl) ?_)
      refine R.go 1 ?_
      refine (Bool.eq_false_or_eq_true (a.any badN)).elim (fun c3 => ?_) (fun c3 => ?_)
      · refine R.skp (!(a.any badN)) true (by kernel_rfl) (bnF c3) (by kernel_rfl) ?_
        refine R.skp (!(a.any badN)) true (by kernel_rfl) (bnF c3) (by kernel_rfl) ?_
        refine R.skp (!(a.any badN)) true (by kernel_rfl) (bnF c3) (by kernel_rfl) ?_
        refine R.skp (!(a.any badN)) true (by kernel_rfl) (bnF c3) (by kernel_rfl) ?_
        refine R.skp (!(a.any badN)) true (by kernel_rfl) (bnF c3) (by kernel_rfl) ?_
        refine R.pick (!(a.any badN)) false (by kernel_rfl) (bnF c3) (by kernel_rfl) ?_
        exact R.go 2 (R.retE (.bool false) (by kernel_rfl) (by kernel_rfl) (by first | (apply congrArg AV.bool; simp only [isF, treeB, all_any]; first | (rw [decide_eq_true (show a.length ≤ 40 by omega), decide_eq_true (show 0 < a.length by omega)]; simp [*]; done) | (rw [decide_eq_false (show ¬ a.length ≤ 40 by omega)]; rfl) | (rw [decide_eq_false (show ¬ 0 < a.length by omega)]; simp)) | (exfalso; omega)))
      · refine R.want (!(a.any badN)) true (by kernel_rfl) (bnT c3) ?_
        refine R.go 1 (R.want (!(a.any badN)) true (by kernel_rfl) (bnT c3) ?_)
        refine R.call true (partEnd_c a 0 (by first | omega | (simp <;> omega)) hl) (by kernel_rfl) rfl (by kernel_rfl) ?_
        refine R.want (!(a.any badN)) true (by kernel_rfl) (bnT c3) ?_
        refine R.go 1 (R.want (!(a.any badN)) true (by kernel_rfl) (bnT c3) ?_)
        refine R.go 1 (R.want (!(a.any badN)) true (by kernel_rfl) (bnT c3) ?_)
        refine R.go 1 (R.pick (!(a.any badN)) true (by kernel_rfl) (bnT c3) (by kernel_rfl) ?_)
        exact R.go 2 (R.retE (.bool (decide ((peX 1 a 0) = (a.length : Int)))) (by kernel_rfl) (by kernel_rfl) (by first | (apply congrArg AV.bool; simp only [isF, treeB, all_any]; first | (rw [decide_eq_true (show a.length ≤ 40 by omega), decide_eq_true (show 0 < a.length by omega)]; simp [*]; done) | (rw [decide_eq_false (show ¬ a.length ≤ 40 by omega)]; rfl) | (rw [decide_eq_false (show ¬ 0 < a.length by omega)]; simp)) | (exfalso; omega)))
    · refine R.skp (decide ((a.length : Int) ≤ 40)) true (by kernel_rfl) (dF c2) (by kernel_rfl) ?_
      refine R.skp (decide ((a.length : Int) ≤ 40)) true (by kernel_rfl) (dF c2) (by kernel_rfl) ?_
      refine R.skp (decide ((a.length : Int) ≤ 40)) true (by kernel_rfl) (dF c2) (by kernel_rfl) ?_
      refine R.pick (decide ((a.length : Int) ≤ 40)) false (by kernel_rfl) (dF c2) (by kernel_rfl) ?_
      exact R.go 9 (R.retE (.bool false) (by kernel_rfl) (by kernel_rfl) (by first | (apply congrArg AV.bool; simp only [isF, treeB, all_any]; first | (rw [decide_eq_true (show a.length ≤ 40 by omega), decide_eq_true (show 0 < a.length by omega)]; simp [*]; done) | (rw [decide_eq_false (show ¬ a.length ≤ 40 by omega)]; rfl) | (rw [decide_eq_false (show ¬ 0 < a.length by omega)]; simp)) | (exfalso; omega)))
  · refine R.skp (decide ((a.length : Int) ≥ 1)) true (by kernel_rfl) (dF c1) (by kernel_rfl) ?_
    refine R.skp (decide ((a.length : Int) ≥ 1)) true (by kernel_rfl) (dF c1) (by kernel_rfl) ?_
    refine R.skp (decide ((a.length : Int) ≥ 1)) true (by kernel_rfl) (dF c1) (by kernel_rfl) ?_
    refine R.pick (decide ((a.length : Int) ≥ 1)) false (by kernel_rfl) (dF c1) (by kernel_rfl) ?_
    exact R.go 14 (R.retE (.bool false) (by kernel_rfl) (by kernel_rfl) (by first | (apply congrArg AV.bool; simp only [isF, treeB, all_any]; first | (rw [decide_eq_true (show a.length ≤ 40 by omega), decide_eq_true (show 0 < a.length by omega)]; simp [*]; done) | (rw [decide_eq_false (show ¬ a.length ≤ 40 by omega)]; rfl) | (rw [decide_eq_false (show ¬ 0 < a.length by omega)]; simp)) | (exfalso; omega)))

theorem l02Tree_c (a : List (Int × Int)) (hl : a.length ≤ 1000000000) : CallA Try.prog 54 [LN a] (.bool (treeB a)) := by
  refine CallA.of Try.func54 rfl (by kernel_rfl) ?_
  refine R.go 10 (R.loop (fun (i : Nat) => (⟨(frm 52 [(0, LN a), (3, AI (i : Int))]), []⟩ : St)) (fun (i : Nat) => (i ≤ a.length) ∧ (a.any badN = (a.drop i).any badN)) (fun (i : Nat) => a.length - i) 0 [0, 3] none (by kernel_rfl) (by kernel_rfl) (by kernel_rfl) ⟨(by omega), (by rfl)⟩ ?_)
  rintro i ⟨h3_1, h3_2⟩ R1 N2
  refine R.go 8 (R.cond ((i : Int) < (a.length : Int)) (by kernel_rfl) (fun c4 => ?_) (fun c4 => ?_))
  · refine R.go 7 (R.idx eN a (0, 0) i (i : Int) (by kernel_rfl) rfl eN_len (by omega) (by kernel_rfl) ?_)
    refine R.go 2 (R.call true (l01In_c ((a.getD i (0, 0)).1) 0 6) (by kernel_rfl) rfl (by kernel_rfl) ?_)
    refine R.go 2 ?_
    refine (Bool.eq_false_or_eq_true (inR ((a.getD i (0, 0)).1) 0 6)).elim (fun c5 => ?_) (fun c5 => ?_)
    · refine R.want (!(inR ((a.getD i (0, 0)).1) 0 6)) false (by kernel_rfl) (bnF c5) ?_
      refine R.go 1 (R.want (!(inR ((a.getD i (0, 0)).1) 0 6)) false (by kernel_rfl) (bnF c5) ?_)
      refine R.go 1 (R.want (!(inR ((a.getD i (0, 0)).1) 0 6)) false (by kernel_rfl) (bnF c5) ?_)
      refine R.idx eN a (0, 0) i (i : Int) (by kernel_rfl) rfl eN_len (by omega) (by kernel_rfl) ?_
      refine R.want (!(inR ((a.getD i (0, 0)).1) 0 6)) false (by kernel_rfl) (bnF c5) ?_
      refine R.go 1 (R.want (!(inR ((a.getD i (0, 0)).1) 0 6)) false (by kernel_rfl) (bnF c5) ?_)
      refine R.go 1 (R.want (!(inR ((a.getD i (0, 0)).1) 0 6)) false (by kernel_rfl) (bnF c5) ?_)
      refine R.call true (l01In_c ((a.getD i (0, 0)).2) 0 5) (by kernel_rfl) rfl (by kernel_rfl) ?_
      refine R.want (!(inR ((a.getD i (0, 0)).1) 0 6)) false (by kernel_rfl) (bnF c5) ?_
      refine R.go 1 (R.pick (!(inR ((a.getD i (0, 0)).1) 0 6)) false (by kernel_rfl) (bnF c5) (by kernel_rfl) ?_)
      refine R.go 1 ?_
      refine (Bool.eq_false_or_eq_true (inR ((a.getD i (0, 0)).2) 0 5)).elim (fun c6 => ?_) (fun c6 => ?_)
      · refine R.want (!(inR ((a.getD i (0, 0)).2) 0 5)) false (by kernel_rfl) (bnF c6) ?_
        refine R.go 1 (R.want (!(inR ((a.getD i (0, 0)).2) 0 5)) false (by kernel_rfl) (bnF c6) ?_)
        refine R.go 1 (R.want (!(inR ((a.getD i (0, 0)).2) 0 5)) false (by kernel_rfl) (bnF c6) ?_)
        refine R.idx eN a (0, 0) i (i : Int) (by kernel_rfl) rfl eN_len (by omega) (by kernel_rfl) ?_
        refine R.want (!(inR ((a.getD i (0, 0)).2) 0 5)) false (by kernel_rfl) (bnF c6) ?_
        refine R.go 1 (R.want (!(inR ((a.getD i (0, 0)).2) 0 5)) false (by kernel_rfl) (bnF c6) ?_)
        refine R.go 1 (R.want (!(inR ((a.getD i (0, 0)).2) 0 5)) false (by kernel_rfl) (bnF c6) ?_)
        refine R.go 1 (R.want (!(inR ((a.getD i (0, 0)).2) 0 5)) false (by kernel_rfl) (bnF c6) ?_)
        refine R.go 1 ?_
        by_cases c7 : ((a.getD i (0, 0)).1) = 0
        · refine R.skp (!decide (((a.getD i (0, 0)).1) = 0)) true (by kernel_rfl) (nF c7) (by kernel_rfl) ?_
          refine R.skp (!decide (((a.getD i (0, 0)).1) = 0)) true (by kernel_rfl) (nF c7) (by kernel_rfl) ?_
          refine R.skp (!decide (((a.getD i (0, 0)).1) = 0)) true (by kernel_rfl) (nF c7) (by kernel_rfl) ?_
          refine R.skp (!decide (((a.getD i (0, 0)).1) = 0)) true (by kernel_rfl) (nF c7) (by kernel_rfl) ?_
          refine R.skp (!decide (((a.getD i (0, 0)).1) = 0)) true (by kernel_rfl) (nF c7) (by kernel_rfl) ?_
          refine R.skp (!decide (((a.getD i (0, 0)).1) = 0)) true (by kernel_rfl) (nF c7) (by kernel_rfl) ?_
          refine R.want (!(inR ((a.getD i (0, 0)).2) 0 5)) false (by kernel_rfl) (bnF c6) ?_
          refine R.pick (!decide (((a.getD i (0, 0)).1) = 0)) false (by kernel_rfl) (nF c7) (by kernel_rfl) ?_
          refine R.pick (!(inR ((a.getD i (0, 0)).2) 0 5)) false (by kernel_rfl) (bnF c6) (by kernel_rfl) ?_
          refine R.go 6 (R.ar ((i : Int) + 1) (by kernel_rfl) (by omega) (by omega) (by kernel_rfl) ?_)
          exact R.go 2 (R.stop R1 (by kernel_rfl) (N2 (i + 1) [0, 3] none _ (by kernel_rfl) (by kernel_rfl) ⟨(by omega), (by rw [‹a.any badN = _›]; exact any_miss (by omega) ((bad_no _).2 (by simp only [inR_iff, inR_not] at *; omega)))⟩ (by show (a.length - (i + 1)) < (a.length - i); omega)))
        · refine R.want (!decide (((a.getD i (0, 0)).1) = 0)) true (by kernel_rfl) (nT c7) ?_
          refine R.go 1 (R.want (!decide (((a.getD i (0, 0)).1) = 0)) true (by kernel_rfl) (nT c7) ?_)
          refine R.go 1 (R.want (!decide (((a.getD i (0, 0)).1) = 0)) true (by kernel_rfl) (nT c7) ?_)
          refine R.idx eN a (0, 0) i (i : Int) (by kernel_rfl) rfl eN_len (by omega) (by kernel_rfl) ?_
          refine R.want (!decide (((a.getD i (0, 0)).1) = 0)) true (by kernel_rfl) (nT c7) ?_
          refine R.go 1 (R.want (!decide (((a.getD i (0, 0)).1) = 0)) true (by kernel_rfl) (nT c7) ?_)
          refine R.go 1 (R.want (!decide (((a.getD i (0, 0)).1) = 0)) true (by kernel_rfl) (nT c7) ?_)
          refine R.go 1 (R.want (!(inR ((a.getD i (0, 0)).2) 0 5)) false (by kernel_rfl) (bnF c6) ?_)
          refine R.pick (!decide (((a.getD i (0, 0)).1) = 0)) true (by kernel_rfl) (nT c7) (by kernel_rfl) ?_
          refine R.pick (!(inR ((a.getD i (0, 0)).2) 0 5)) false (by kernel_rfl) (bnF c6) (by kernel_rfl) ?_
          refine R.go 1 (R.condN (((a.getD i (0, 0)).2) = 0) (by kernel_rfl) (fun c8 => ?_) (fun c8 => ?_))
          · exact R.go 4 (R.retE (.bool false) (by kernel_rfl) (by kernel_rfl) (by first | (apply congrArg AV.bool; first | (rw [tree_yes (by rw [‹a.any badN = _›]; exact any_end (by omega))]; simp [*]; try omega) | (rw [tree_no (by rw [‹a.any badN = _›]; exact any_hit (by omega) ((bad_yes _).2 (by simp only [inR_iff, inR_not] at *; omega)))])) | (exfalso; omega)))
          · refine R.go 4 (R.ar ((i : Int) + 1) (by kernel_rfl) (by omega) (by omega) (by kernel_rfl) ?_)
            exact R.go 2 (R.stop R1 (by kernel_rfl) (N2 (i + 1) [0, 3] none _ (by kernel_rfl) (by kernel_rfl) ⟨(by omega), (by rw [‹a.any badN = _›]; exact any_miss (by omega) ((bad_no _).2 (by simp only [inR_iff, inR_not] at *; omega)))⟩ (by show (a.length - (i + 1)) < (a.length - i); omega)))
      · refine R.skp (!(inR ((a.getD i (0, 0)).2) 0 5)) false (by kernel_rfl) (bnT c6) (by kernel_rfl) ?_
        refine R.skp (!(inR ((a.getD i (0, 0)).2) 0 5)) false (by kernel_rfl) (bnT c6) (by kernel_rfl) ?_
        refine R.skp (!(inR ((a.getD i (0, 0)).2) 0 5)) false (by kernel_rfl) (bnT c6) (by kernel_rfl) ?_
        refine R.skp (!(inR ((a.getD i (0, 0)).2) 0 5)) false (by kernel_rfl) (bnT c6) (by kernel_rfl) ?_
        refine R.skp (!(inR ((a.getD i (0, 0)).2) 0 5)) false (by kernel_rfl) (bnT c6) (by kernel_rfl) ?_
        refine R.skp (!(inR ((a.getD i (0, 0)).2) 0 5)) false (by kernel_rfl) (bnT c6) (by kernel_rfl) ?_
        refine R.skp (!(inR ((a.getD i (0, 0)).2) 0 5)) false (by kernel_rfl) (bnT c6) (by kernel_rfl) ?_
        refine R.go 6 (R.skp (!(inR ((a.getD i (0, 0)).2) 0 5)) false (by kernel_rfl) (bnT c6) (by kernel_rfl) ?_)
        refine R.pick (!(inR ((a.getD i (0, 0)).2) 0 5)) true (by kernel_rfl) (bnT c6) (by kernel_rfl) ?_
        exact R.go 6 (R.retE (.bool false) (by kernel_rfl) (by kernel_rfl) (by first | (apply congrArg AV.bool; first | (rw [tree_yes (by rw [‹a.any badN = _›]; exact any_end (by omega))]; simp [*]; try omega) | (rw [tree_no (by rw [‹a.any badN = _›]; exact any_hit (by omega) ((bad_yes _).2 (by simp only [inR_iff, inR_not] at *; omega)))])) | (exfalso; omega)))
    · refine R.skp (!(inR ((a.getD i (0, 0)).1) 0 6)) false (by kernel_rfl) (bnT c5) (by kernel_rfl) ?_
      refine R.skp (!(inR ((a.getD i (0, 0)).1) 0 6)) false (by kernel_rfl) (bnT c5) (by kernel_rfl) ?_
      refine R.skp (!(inR ((a.getD i (0, 0)).1) 0 6)) false (by kernel_rfl) (bnT c5) (by kernel_rfl) ?_
      refine R.skp (!(inR ((a.getD i (0, 0)).1) 0 6)) false (by kernel_rfl) (bnT c5) (by kernel_rfl) ?_
      refine R.skp (!(inR ((a.getD i (0, 0)).1) 0 6)) false (by kernel_rfl) (bnT c5) (by kernel_rfl) ?_
      refine R.skp (!(inR ((a.getD i (0, 0)).1) 0 6)) false (by kernel_rfl) (bnT c5) (by kernel_rfl) ?_
      refine R.skp (!(inR ((a.getD i (0, 0)).1) 0 6)) false (by kernel_rfl) (bnT c5) (by kernel_rfl) ?_
      refine R.pick (!(inR ((a.getD i (0, 0)).1) 0 6)) true (by kernel_rfl) (bnT c5) (by kernel_rfl) ?_
      exact R.go 22 (R.retE (.bool false) (by kernel_rfl) (by kernel_rfl) (by first | (apply congrArg AV.bool; first | (rw [tree_yes (by rw [‹a.any badN = _›]; exact any_end (by omega))]; simp [*]; try omega) | (rw [tree_no (by rw [‹a.any badN = _›]; exact any_hit (by omega) ((bad_yes _).2 (by simp only [inR_iff, inR_not] at *; omega)))])) | (exfalso; omega)))
  · refine R.go 7 ?_
    by_cases c9 : (a.length : Int) > 0
    · refine R.want (decide ((a.length : Int) > 0)) true (by kernel_rfl) (dT c9) ?_
      refine R.go 1 (R.want (decide ((a.length : Int) > 0)) true (by kernel_rfl) (dT c9) ?_)
      refine R.call true (l02Part_c a 0 (by first | omega | (simp <;> omega)) hl) (by kernel_rfl) rfl (by kernel_rfl) ?_
      refine R.want (decide ((a.length : Int) > 0)) true (by kernel_rfl) (dT c9) ?_
      refine R.go 1 (R.want (decide ((a.length : Int) > 0)) true (by kernel_rfl) (dT c9) ?_)
      refine R.go 1 (R.want (decide ((a.length : Int) > 0)) true (by kernel_rfl) (dT c9) ?_)
      refine R.go 1 (R.pick (decide ((a.length : Int) > 0)) true (by kernel_rfl) (dT c9) (by kernel_rfl) ?_)
      exact R.go 2 (R.retE (.bool (decide ((peX 1 a 0) = (a.length : Int)))) (by kernel_rfl) (by kernel_rfl) (by first | (apply congrArg AV.bool; first | (rw [tree_yes (by rw [‹a.any badN = _›]; exact any_end (by omega))]; simp [*]; try omega) | (rw [tree_no (by rw [‹a.any badN = _›]; exact any_hit (by omega) ((bad_yes _).2 (by simp only [inR_iff, inR_not] at *; omega)))])) | (exfalso; omega)))
    · refine R.skp (decide ((a.length : Int) > 0)) true (by kernel_rfl) (dF c9) (by kernel_rfl) ?_
      refine R.skp (decide ((a.length : Int) > 0)) true (by kernel_rfl) (dF c9) (by kernel_rfl) ?_
      refine R.skp (decide ((a.length : Int) > 0)) true (by kernel_rfl) (dF c9) (by kernel_rfl) ?_
      refine R.skp (decide ((a.length : Int) > 0)) true (by kernel_rfl) (dF c9) (by kernel_rfl) ?_
      refine R.skp (decide ((a.length : Int) > 0)) true (by kernel_rfl) (dF c9) (by kernel_rfl) ?_
      refine R.pick (decide ((a.length : Int) > 0)) false (by kernel_rfl) (dF c9) (by kernel_rfl) ?_
      exact R.go 2 (R.retE (.bool false) (by kernel_rfl) (by kernel_rfl) (by first | (apply congrArg AV.bool; first | (rw [tree_yes (by rw [‹a.any badN = _›]; exact any_end (by omega))]; simp [*]; try omega) | (rw [tree_no (by rw [‹a.any badN = _›]; exact any_hit (by omega) ((bad_yes _).2 (by simp only [inR_iff, inR_not] at *; omega)))])) | (exfalso; omega)))

theorem l02Is_c (a : List (Int × Int)) (hl : a.length ≤ 1000000000) : CallA Try.prog 30 [LN a] (.bool (isF a)) := by
  refine CallA.of Try.func30 rfl (by kernel_rfl) ?_
  refine R.go 10 ?_
  by_cases c1 : (a.length : Int) ≤ 40
  · refine R.want (decide ((a.length : Int) ≤ 40)) true (by kernel_rfl) (dT c1) ?_
    refine R.go 1 (R.want (decide ((a.length : Int) ≤ 40)) true (by kernel_rfl) (dT c1) ?_)
    refine R.call true (l02Tree_c a hl) (by kernel_rfl) rfl (by kernel_rfl) ?_
    refine R.pick (decide ((a.length : Int) ≤ 40)) true (by kernel_rfl) (dT c1) (by kernel_rfl) ?_
    exact R.go 2 (R.retE (.bool (treeB a)) (by kernel_rfl) (by kernel_rfl) (by first | (apply congrArg AV.bool; simp [isF, *]; try omega) | (exfalso; omega)))
  · refine R.skp (decide ((a.length : Int) ≤ 40)) true (by kernel_rfl) (dF c1) (by kernel_rfl) ?_
    refine R.skp (decide ((a.length : Int) ≤ 40)) true (by kernel_rfl) (dF c1) (by kernel_rfl) ?_
    refine R.pick (decide ((a.length : Int) ≤ 40)) false (by kernel_rfl) (dF c1) (by kernel_rfl) ?_
    exact R.go 2 (R.retE (.bool false) (by kernel_rfl) (by kernel_rfl) (by first | (apply congrArg AV.bool; simp [isF, *]; try omega) | (exfalso; omega)))

end Go.Proofs.Ytpalghbfhgimkaa


/-! Draws of pairs of a frame and a formula, of premises, of masks. -/
namespace Go.Proofs.Ytpalghbfhgimkaa
open Go.RowKit Go.Abs

theorem getL_app {l : List (List (Int × Int))} {a : List (Int × Int)} (h : ∀ j : Nat, (l.getD j []).length ≤ 1000) (ha : a.length ≤ 1000) : ∀ j : Nat, ((l ++ [a]).getD j []).length ≤ 1000 := by
  intro j
  rw [List.getD_eq_getElem?_getD, List.getElem?_append]
  split
  · have := h j
    rwa [List.getD_eq_getElem?_getD] at this
  · generalize j - l.length = k
    cases k with
    | zero => exact ha
    | succ k => simp

end Go.Proofs.Ytpalghbfhgimkaa
