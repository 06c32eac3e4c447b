/- Texts of the proof: E06, E07, E08, U04. -/
import Derived.Test.YtejaikeemahobaaPartJ

/-! Draws of models. -/
namespace Go.Proofs.Ytejaikeemahobaa
open Go.RowKit Go.Abs

theorem someM_c_r2 (c : List Int) (p : Nat) (h : Int) (worlds : Int) (eo1 : Nat) (so1 : Nat) (no1 : Nat) (co1 : List AV) (eo2 : Nat) (so2 : Nat) (no2 : Nat) (co2 : List AV) (hc : BY c) (hw : 0 ≤ worlds ∧ worlds ≤ 20) : CallX Try.prog 107 [.ptr 0 0, AI worlds] [.box 106 [LB c, AI (p : Int), .int .u64 h], .list eo1 so1 no1 co1, .list eo2 so2 no2 co2] (fun (resX : AV) (objX : List AObj) => ∃ n : Int, ∃ xs : List Int, ∃ vs : List Int, ∃ p1 : Nat, ∃ h1 : Int, (0 ≤ n ∧ n ≤ worlds) ∧ ((xs.length : Int) = n) ∧ (vs.length = 6) ∧ resX = .agg [AI n, LI xs, .ref 3] ∧ objX = [.box 106 [LB c, AI (p1 : Int), .int .u64 h1], .list eo1 so1 no1 co1, .list eo2 so2 no2 co2, rowA eI 2 1 vs]) := by
  have hcl : c.length ≤ 4096 := hc.1
  have hcb := hc.2
  refine CallX.dropE (CallX.ofF Try.func107 rfl (by kernel_rfl) ?_)
  intro usC frC hfC
  refine R.go 8 (R.callX (CallX.inF 3 usC frC (CallX.box 3 36 [AI 0, .nil, .nil] (someX_c_r3 c p h worlds eo1 so1 no1 co1 eo2 so2 no2 co2 36 3 1 [AI 0, .nil, .nil] hc hw) (by kernel_rfl) (by kernel_rfl) (by kernel_rfl) (by kernel_rfl) (by rintro _ _ ⟨_, _, _, _, _, _, rfl, rfl⟩; exact ⟨by kernel_rfl, by kernel_rfl, by kernel_rfl⟩)) (Nat.le_of_ble_eq_true (by kernel_rfl)) (by kernel_rfl) (by kernel_rfl) (by rintro _ _ ⟨_, ⟨_, _, _, _, _, _, rfl, rfl⟩, rfl⟩; exact Nat.le_of_ble_eq_true (by kernel_rfl))) (by kernel_rfl) (by kernel_rfl) (by kernel_rfl) ?_)
  rintro _ _ ⟨_, _, ⟨_, ⟨n_1, xs_2, p1_3, h1_4, f5, f6, rfl, rfl⟩, rfl⟩, rfl, rfl⟩
  refine R.go 16 (R.nilB 6 2 2 1 (by kernel_rfl) ?_)
  refine R.loop ((fun | (i, us, q, k) => (⟨(frm 30 [(0, .ptr 0 0), (4, .ptr 4 0), (5, .ptr 5 0), (6, .ptr 6 0), (7, AI (i : Int))]), [.box 106 [LB c, AI (q : Int), .int .u64 k], .list eo1 so1 no1 co1, .list eo2 so2 no2 co2, .frame usC frC, .box 36 [AI 0, .nil, .nil], .box 26 [AI n_1, LI xs_2], .box 36 [AI n_1, LI xs_2, .ref 7], rowA eI 2 1 us]⟩ : St) : Nat × (List Int) × Nat × Int → St)) (fun | (i, us, q, k) => (i ≤ 6) ∧ (us.length = i)) (fun | (i, us, q, k) => 6 - i) (0, [], p1_3, h1_4) [0, 4, 5, 6, 7] none (by kernel_rfl) (by kernel_rfl) (by kernel_rfl) ⟨(by omega), (by rfl)⟩ ?_
  rintro ⟨i, us, q, k⟩ ⟨h10_1, h10_2⟩ R7 N8
  have hb : 1 ≤ shl64 1 n_1 ∧ shl64 1 n_1 ≤ 4611686018427387904 := shl_rng n_1 (by omega) (by omega)
  refine R.go 6 (R.cond ((i : Int) < 6) (by kernel_rfl) (fun c11 => ?_) (fun c11 => ?_))
  · refine R.go 3 (R.any (by decide +kernel) (by kernel_rfl) ?_)
    refine R.anyF 3 (by kernel_rfl) (np_retX _ _ _ _ _ _) ?_
    refine R.anyA 0 (.ptr 6 2) (by kernel_rfl) (np_retX _ _ _ _ _ _) ?_
    refine R.anyA 4 (.ptr 5 0) (by kernel_rfl) (np_retX _ _ _ _ _ _) ?_
    refine R.any2 1 5 (by kernel_rfl) (by kernel_rfl) ?_ ?_
    · refine R.go 2 (R.any2 2 5 (by kernel_rfl) (by kernel_rfl) ?_ ?_)
      · refine R.call false (l01Own_c us (by first | omega | (simp only [refI_len, wout_len]; omega) | (simp <;> omega))) (by kernel_rfl) (ownA_closed eI_closed 2 1 us) (by kernel_rfl) ?_
        refine R.go 1 (R.any1 5 (by kernel_rfl) (by kernel_rfl) ?_)
        refine R.go 2 (R.any1 6 (by kernel_rfl) (by kernel_rfl) ?_)
        refine R.call true (l01Full_c n_1 (by first | omega | (simp only [refI_len, wout_len]; omega) | (simp <;> omega)) (by first | omega | (simp only [refI_len, wout_len]; omega) | (simp <;> omega))) (by kernel_rfl) rfl (by kernel_rfl) ?_
        refine R.go 1 (R.anyI 7 (AI (IntKind.i64.wrap (((shl64 1 n_1) - 1) + 1))) (by kernel_rfl) (np_retX _ _ _ _ _ _) ?_)
        refine R.any1 8 (by kernel_rfl) (by kernel_rfl) ?_
        refine R.callX (CallX.inF 3 usC frC (CallX.box 4 26 [AI n_1, LI xs_2] (CallX.box 3 36 [AI 0, .nil, .nil] (nextX_c_rooooCoo c q k (IntKind.i64.wrap (((shl64 1 n_1) - 1) + 1)) eo1 so1 no1 co1 eo2 so2 no2 co2 36 3 1 [AI 0, .nil, .nil] 26 2 1 [AI n_1, LI xs_2] 36 n_1 xs_2 2 1 us.length (rows eI us) 2 1 us.length (rows eI us) hc) (by kernel_rfl) (by kernel_rfl) (by kernel_rfl) (by kernel_rfl) (by rintro _ _ ⟨_, _, _, _, rfl, rfl⟩; exact ⟨by kernel_rfl, by kernel_rfl, by kernel_rfl⟩)) (by kernel_rfl) (by kernel_rfl) (by kernel_rfl) (by kernel_rfl) (by rintro _ _ ⟨_, ⟨_, _, _, _, rfl, rfl⟩, rfl⟩; exact ⟨by kernel_rfl, by kernel_rfl, by kernel_rfl⟩)) (Nat.le_of_ble_eq_true (by kernel_rfl)) (by kernel_rfl) (by kernel_rfl) (by rintro _ _ ⟨_, ⟨_, ⟨_, _, _, _, rfl, rfl⟩, rfl⟩, rfl⟩; exact Nat.le_of_ble_eq_true (by kernel_rfl))) (by kernel_rfl) (by kernel_rfl) (by kernel_rfl) ?_
        rintro _ _ ⟨_, _, ⟨_, ⟨_, ⟨v_12, p1_13, h1_14, f15, rfl, rfl⟩, rfl⟩, rfl⟩, rfl, rfl⟩
        refine R.go 1 (R.any1 9 (by kernel_rfl) (by kernel_rfl) ?_)
        refine R.go 2 (R.any1 10 (by kernel_rfl) (by kernel_rfl) ?_)
        refine R.app eI us [v_12] 8 2 1 8 (by kernel_rfl) eI_one (by decide) (by first | omega | (simp <;> omega)) (by kernel_rfl) ?_
        refine R.kfix 3 (us := usC) (by kernel_rfl) (hfC.kill 8 (Nat.le_of_ble_eq_true (by kernel_rfl))) ?_
        refine R.go 1 (R.anyA 11 (.ptr 6 2) (by kernel_rfl) (np_retX _ _ _ _ _ _) ?_)
        refine R.any1 12 (by kernel_rfl) (by kernel_rfl) ?_
        refine R.go 2 (R.any0 (by kernel_rfl) ?_)
        refine R.go 3 (R.ar ((i : Int) + 1) (by kernel_rfl) (by omega) (by omega) (by kernel_rfl) ?_)
        exact R.go 2 (R.stop R7 (by kernel_rfl) (N8 (i + 1, us ++ [v_12], p1_13, h1_14) [0, 4, 5, 6, 7] (some [0, 1, 2, 3, 4, 5, 6, 8]) _ (by kernel_rfl) (canonF (fr := frC) (fun (frX : List AV) => (⟨(frm 30 [(0, .ptr 0 0), (4, .ptr 4 0), (5, .ptr 5 0), (6, .ptr 6 0), (7, AI ((i : Int) + 1))]), [.box 106 [LB c, AI (p1_13 : Int), .int .u64 h1_14], .list eo1 so1 no1 co1, .list eo2 so2 no2 co2, .frame usC frX, .box 36 [AI 0, .nil, .nil], .box 26 [AI n_1, LI xs_2], .box 36 [AI n_1, LI xs_2, .ref 7], rowA eI 2 1 (us ++ [v_12])]⟩ : St)) (hfC.ren _ (by kernel_rfl)) (by kernel_rfl) (by kernel_rfl)) ⟨(by omega), (by (simp <;> omega))⟩ (by show (6 - (i + 1)) < (6 - i); omega)))
      · refine R.go 2 (R.any1 2 (by kernel_rfl) (by kernel_rfl) ?_)
        refine R.call false (l01Own_c us (by first | omega | (simp only [refI_len, wout_len]; omega) | (simp <;> omega))) (by kernel_rfl) (ownA_closed eI_closed 2 1 us) (by kernel_rfl) ?_
        refine R.go 1 (R.any1 6 (by kernel_rfl) (by kernel_rfl) ?_)
        refine R.call true (l01Full_c n_1 (by first | omega | (simp only [refI_len, wout_len]; omega) | (simp <;> omega)) (by first | omega | (simp only [refI_len, wout_len]; omega) | (simp <;> omega))) (by kernel_rfl) rfl (by kernel_rfl) ?_
        refine R.go 1 (R.anyI 7 (AI (IntKind.i64.wrap (((shl64 1 n_1) - 1) + 1))) (by kernel_rfl) (np_retX _ _ _ _ _ _) ?_)
        refine R.any1 8 (by kernel_rfl) (by kernel_rfl) ?_
        refine R.callX (CallX.inF 3 usC frC (CallX.box 4 26 [AI n_1, LI xs_2] (CallX.box 3 36 [AI 0, .nil, .nil] (nextX_c_rooooCoo c q k (IntKind.i64.wrap (((shl64 1 n_1) - 1) + 1)) eo1 so1 no1 co1 eo2 so2 no2 co2 36 3 1 [AI 0, .nil, .nil] 26 2 1 [AI n_1, LI xs_2] 36 n_1 xs_2 2 1 us.length (rows eI us) 2 1 us.length (rows eI us) hc) (by kernel_rfl) (by kernel_rfl) (by kernel_rfl) (by kernel_rfl) (by rintro _ _ ⟨_, _, _, _, rfl, rfl⟩; exact ⟨by kernel_rfl, by kernel_rfl, by kernel_rfl⟩)) (by kernel_rfl) (by kernel_rfl) (by kernel_rfl) (by kernel_rfl) (by rintro _ _ ⟨_, ⟨_, _, _, _, rfl, rfl⟩, rfl⟩; exact ⟨by kernel_rfl, by kernel_rfl, by kernel_rfl⟩)) (Nat.le_of_ble_eq_true (by kernel_rfl)) (by kernel_rfl) (by kernel_rfl) (by rintro _ _ ⟨_, ⟨_, ⟨_, _, _, _, rfl, rfl⟩, rfl⟩, rfl⟩; exact Nat.le_of_ble_eq_true (by kernel_rfl))) (by kernel_rfl) (by kernel_rfl) (by kernel_rfl) ?_
        rintro _ _ ⟨_, _, ⟨_, ⟨_, ⟨v_16, p1_17, h1_18, f19, rfl, rfl⟩, rfl⟩, rfl⟩, rfl, rfl⟩
        refine R.go 1 (R.any1 9 (by kernel_rfl) (by kernel_rfl) ?_)
        refine R.go 2 (R.any1 10 (by kernel_rfl) (by kernel_rfl) ?_)
        refine R.app eI us [v_16] 8 2 1 8 (by kernel_rfl) eI_one (by decide) (by first | omega | (simp <;> omega)) (by kernel_rfl) ?_
        refine R.kfix 3 (us := usC) (by kernel_rfl) (hfC.kill 8 (Nat.le_of_ble_eq_true (by kernel_rfl))) ?_
        refine R.go 1 (R.anyA 11 (.ptr 6 2) (by kernel_rfl) (np_retX _ _ _ _ _ _) ?_)
        refine R.any1 12 (by kernel_rfl) (by kernel_rfl) ?_
        refine R.go 2 (R.any0 (by kernel_rfl) ?_)
        refine R.go 3 (R.ar ((i : Int) + 1) (by kernel_rfl) (by omega) (by omega) (by kernel_rfl) ?_)
        exact R.go 2 (R.stop R7 (by kernel_rfl) (N8 (i + 1, us ++ [v_16], p1_17, h1_18) [0, 4, 5, 6, 7] (some [0, 1, 2, 3, 4, 5, 6, 8]) _ (by kernel_rfl) (canonF (fr := frC) (fun (frX : List AV) => (⟨(frm 30 [(0, .ptr 0 0), (4, .ptr 4 0), (5, .ptr 5 0), (6, .ptr 6 0), (7, AI ((i : Int) + 1))]), [.box 106 [LB c, AI (p1_17 : Int), .int .u64 h1_18], .list eo1 so1 no1 co1, .list eo2 so2 no2 co2, .frame usC frX, .box 36 [AI 0, .nil, .nil], .box 26 [AI n_1, LI xs_2], .box 36 [AI n_1, LI xs_2, .ref 7], rowA eI 2 1 (us ++ [v_16])]⟩ : St)) (hfC.ren _ (by kernel_rfl)) (by kernel_rfl) (by kernel_rfl)) ⟨(by omega), (by (simp <;> omega))⟩ (by show (6 - (i + 1)) < (6 - i); omega)))
    · refine R.go 2 (R.any1 1 (by kernel_rfl) (by kernel_rfl) ?_)
      refine R.go 2 (R.any1 2 (by kernel_rfl) (by kernel_rfl) ?_)
      refine R.call false (l01Own_c us (by first | omega | (simp only [refI_len, wout_len]; omega) | (simp <;> omega))) (by kernel_rfl) (ownA_closed eI_closed 2 1 us) (by kernel_rfl) ?_
      refine R.go 1 (R.any1 6 (by kernel_rfl) (by kernel_rfl) ?_)
      refine R.call true (l01Full_c n_1 (by first | omega | (simp only [refI_len, wout_len]; omega) | (simp <;> omega)) (by first | omega | (simp only [refI_len, wout_len]; omega) | (simp <;> omega))) (by kernel_rfl) rfl (by kernel_rfl) ?_
      refine R.go 1 (R.anyI 7 (AI (IntKind.i64.wrap (((shl64 1 n_1) - 1) + 1))) (by kernel_rfl) (np_retX _ _ _ _ _ _) ?_)
      refine R.any1 8 (by kernel_rfl) (by kernel_rfl) ?_
      refine R.callX (CallX.inF 3 usC frC (CallX.box 4 26 [AI n_1, LI xs_2] (CallX.box 3 36 [AI 0, .nil, .nil] (nextX_c_rooooCoo c q k (IntKind.i64.wrap (((shl64 1 n_1) - 1) + 1)) eo1 so1 no1 co1 eo2 so2 no2 co2 36 3 1 [AI 0, .nil, .nil] 26 2 1 [AI n_1, LI xs_2] 36 n_1 xs_2 2 1 us.length (rows eI us) 2 1 us.length (rows eI us) hc) (by kernel_rfl) (by kernel_rfl) (by kernel_rfl) (by kernel_rfl) (by rintro _ _ ⟨_, _, _, _, rfl, rfl⟩; exact ⟨by kernel_rfl, by kernel_rfl, by kernel_rfl⟩)) (by kernel_rfl) (by kernel_rfl) (by kernel_rfl) (by kernel_rfl) (by rintro _ _ ⟨_, ⟨_, _, _, _, rfl, rfl⟩, rfl⟩; exact ⟨by kernel_rfl, by kernel_rfl, by kernel_rfl⟩)) (Nat.le_of_ble_eq_true (by kernel_rfl)) (by kernel_rfl) (by kernel_rfl) (by rintro _ _ ⟨_, ⟨_, ⟨_, _, _, _, rfl, rfl⟩, rfl⟩, rfl⟩; exact Nat.le_of_ble_eq_true (by kernel_rfl))) (by kernel_rfl) (by kernel_rfl) (by kernel_rfl) ?_
      rintro _ _ ⟨_, _, ⟨_, ⟨_, ⟨v_20, p1_21, h1_22, f23, rfl, rfl⟩, rfl⟩, rfl⟩, rfl, rfl⟩
      refine R.go 1 (R.any1 9 (by kernel_rfl) (by kernel_rfl) ?_)
      refine R.go 2 (R.any1 10 (by kernel_rfl) (by kernel_rfl) ?_)
      refine R.app eI us [v_20] 8 2 1 8 (by kernel_rfl) eI_one (by decide) (by first | omega | (simp <;> omega)) (by kernel_rfl) ?_
      refine R.kfix 3 (us := usC) (by kernel_rfl) (hfC.kill 8 (Nat.le_of_ble_eq_true (by kernel_rfl))) ?_
      refine R.go 1 (R.anyA 11 (.ptr 6 2) (by kernel_rfl) (np_retX _ _ _ _ _ _) ?_)
      refine R.any1 12 (by kernel_rfl) (by kernel_rfl) ?_
      refine R.go 2 (R.any0 (by kernel_rfl) ?_)
      refine R.go 3 (R.ar ((i : Int) + 1) (by kernel_rfl) (by omega) (by omega) (by kernel_rfl) ?_)
      exact R.go 2 (R.stop R7 (by kernel_rfl) (N8 (i + 1, us ++ [v_20], p1_21, h1_22) [0, 4, 5, 6, 7] (some [0, 1, 2, 3, 4, 5, 6, 8]) _ (by kernel_rfl) (canonF (fr := frC) (fun (frX : List AV) => (⟨(frm 30 [(0, .ptr 0 0), (4, .ptr 4 0), (5, .ptr 5 0), (6, .ptr 6 0), (7, AI ((i : Int) + 1))]), [.box 106 [LB c, AI (p1_21 : Int), .int .u64 h1_22], .list eo1 so1 no1 co1, .list eo2 so2 no2 co2, .frame usC frX, .box 36 [AI 0, .nil, .nil], .box 26 [AI n_1, LI xs_2], .box 36 [AI n_1, LI xs_2, .ref 7], rowA eI 2 1 (us ++ [v_20])]⟩ : St)) (hfC.ren _ (by kernel_rfl)) (by kernel_rfl) (by kernel_rfl)) ⟨(by omega), (by (simp <;> omega))⟩ (by show (6 - (i + 1)) < (6 - i); omega)))
  · exact R.go 6 (R.retX (res := .agg [AI n_1, LI xs_2, .ref 7]) (hp' := [.box 106 [LB c, AI (q : Int), .int .u64 k], .list eo1 so1 no1 co1, .list eo2 so2 no2 co2, .dead, .box 36 [AI n_1, LI xs_2, .ref 7], .box 26 [AI n_1, LI xs_2], .box 36 [AI n_1, LI xs_2, .ref 7], rowA eI 2 1 us]) (by kernel_rfl) (by kernel_rfl) (by kernel_rfl) (by kernel_rfl) ⟨[0, 1, 2, 7], by kernel_rfl, by decide, n_1, xs_2, us, q, k, by first | omega | (simp only [refI_len, wout_len]; done) | (simp only [refI_len, wout_len]; omega), by first | omega | (simp only [refI_len, wout_len]; done) | (simp only [refI_len, wout_len]; omega), by first | omega | (simp only [refI_len, wout_len]; done) | (simp only [refI_len, wout_len]; omega), by kernel_rfl, by kernel_rfl⟩)

theorem modelX_c_r1 (c : List Int) (p : Nat) (h : Int) (worlds : Int) (eo1 : Nat) (so1 : Nat) (no1 : Nat) (co1 : List AV) (hc : BY c) (hw : 0 ≤ worlds ∧ worlds ≤ 20) : CallX Try.prog 56 [.ptr 0 0, AI worlds] [.box 106 [LB c, AI (p : Int), .int .u64 h], .list eo1 so1 no1 co1] (fun (resX : AV) (objX : List AObj) => ∃ n : Int, ∃ xs : List Int, ∃ vs : List Int, ∃ p1 : Nat, ∃ h1 : Int, ((xs.length : Int) ≤ worlds + 1) ∧ (vs.length ≤ 6) ∧ resX = .agg [AI n, LI xs, LI vs] ∧ objX = [.box 106 [LB c, AI (p1 : Int), .int .u64 h1], .list eo1 so1 no1 co1]) := by
  have hcl : c.length ≤ 4096 := hc.1
  have hcb := hc.2
  refine CallX.dropE (CallX.ofF Try.func56 rfl (by kernel_rfl) ?_)
  intro usC frC hfC
  refine R.go 8 (R.callX (CallX.inF 2 usC frC (CallX.box 2 36 [AI 0, .nil, .nil] (someM_c_r2 c p h worlds eo1 so1 no1 co1 36 3 1 [AI 0, .nil, .nil] hc hw) (by kernel_rfl) (by kernel_rfl) (by kernel_rfl) (by kernel_rfl) (by rintro _ _ ⟨_, _, _, _, _, _, _, _, rfl, rfl⟩; exact ⟨by kernel_rfl, by kernel_rfl, by kernel_rfl⟩)) (Nat.le_of_ble_eq_true (by kernel_rfl)) (by kernel_rfl) (by kernel_rfl) (by rintro _ _ ⟨_, ⟨_, _, _, _, _, _, _, _, rfl, rfl⟩, rfl⟩; exact Nat.le_of_ble_eq_true (by kernel_rfl))) (by kernel_rfl) (by kernel_rfl) (by kernel_rfl) ?_)
  rintro _ _ ⟨_, _, ⟨_, ⟨n_1, xs_2, vs_3, p1_4, h1_5, f6, f7, f8, rfl, rfl⟩, rfl⟩, rfl, rfl⟩
  refine R.go 7 (R.callX (CallX.inF 2 usC frC (CallX.box 2 36 [AI 0, .nil, .nil] (nextX_c_r3c c p1_4 h1_5 50 eo1 so1 no1 co1 36 3 1 [AI 0, .nil, .nil] 2 1 vs_3.length (rows eI vs_3) 36 n_1 xs_2 hc) (by kernel_rfl) (by kernel_rfl) (by kernel_rfl) (by kernel_rfl) (by rintro _ _ ⟨_, _, _, _, rfl, rfl⟩; exact ⟨by kernel_rfl, by kernel_rfl, by kernel_rfl⟩)) (Nat.le_of_ble_eq_true (by kernel_rfl)) (by kernel_rfl) (by kernel_rfl) (by rintro _ _ ⟨_, ⟨_, _, _, _, rfl, rfl⟩, rfl⟩; exact Nat.le_of_ble_eq_true (by kernel_rfl))) (by kernel_rfl) (by kernel_rfl) (by kernel_rfl) ?_)
  rintro _ _ ⟨_, _, ⟨_, ⟨v_9, p1_10, h1_11, f12, rfl, rfl⟩, rfl⟩, rfl, rfl⟩
  refine R.go 7 (R.cond (v_9 = 0) (by kernel_rfl) (fun c13 => ?_) (fun c13 => ?_))
  · refine R.go 1 (R.frz 4 (by kernel_rfl) ?_)
    refine R.kfix 2 (us := usC) (by kernel_rfl) (hfC.frz 4 (LI vs_3) (Nat.le_of_ble_eq_true (by kernel_rfl))) ?_
    refine R.go 2 (R.deadF 4 (by kernel_rfl) (by kernel_rfl) ?_)
    refine R.callX (CallX.inF 2 usC frC (CallX.inF 3 [] [] (CallX.box 3 36 [AI n_1, LI xs_2, LI vs_3] (CallX.box 2 36 [AI 0, .nil, .nil] (frameX_c_r3 c p1_10 h1_11 worlds eo1 so1 no1 co1 36 3 1 [AI 0, .nil, .nil] 36 3 1 [AI n_1, LI xs_2, LI vs_3] hc hw) (by kernel_rfl) (by kernel_rfl) (by kernel_rfl) (by kernel_rfl) (by rintro _ _ ⟨_, _, _, _, _, rfl, rfl⟩; exact ⟨by kernel_rfl, by kernel_rfl, by kernel_rfl⟩)) (by kernel_rfl) (by kernel_rfl) (by kernel_rfl) (by kernel_rfl) (by rintro _ _ ⟨_, ⟨_, _, _, _, _, rfl, rfl⟩, rfl⟩; exact ⟨by kernel_rfl, by kernel_rfl, by kernel_rfl⟩)) (Nat.le_of_ble_eq_true (by kernel_rfl)) (by kernel_rfl) (by kernel_rfl) (by rintro _ _ ⟨_, ⟨_, ⟨_, _, _, _, _, rfl, rfl⟩, rfl⟩, rfl⟩; exact Nat.le_of_ble_eq_true (by kernel_rfl))) (Nat.le_of_ble_eq_true (by kernel_rfl)) (by kernel_rfl) (by kernel_rfl) (by rintro _ _ ⟨_, _, ⟨_, ⟨_, ⟨_, _, _, _, _, rfl, rfl⟩, rfl⟩, rfl⟩, rfl, rfl⟩; exact Nat.le_of_ble_eq_true (by kernel_rfl))) (by kernel_rfl) (by kernel_rfl) (by kernel_rfl) ?_
    rintro _ _ ⟨_, _, ⟨_, _, ⟨_, ⟨_, ⟨n_14, xs_15, p1_16, h1_17, f18, rfl, rfl⟩, rfl⟩, rfl⟩, rfl, rfl⟩, rfl, rfl⟩
    exact R.go 9 (R.retX (res := .agg [AI n_14, LI xs_15, LI vs_3]) (hp' := [.box 106 [LB c, AI (p1_16 : Int), .int .u64 h1_17], .list eo1 so1 no1 co1, .dead, .box 36 [AI n_14, LI xs_15, LI vs_3], .frame [] [], .box 36 [AI n_14, LI xs_15, LI vs_3]]) (by kernel_rfl) (by kernel_rfl) (by kernel_rfl) (by kernel_rfl) ⟨[0, 1], by kernel_rfl, by decide, n_14, xs_15, vs_3, p1_16, h1_17, by first | omega | (simp only [List.length_drop, List.length_set]; omega), by first | omega | (simp only [List.length_drop, List.length_set]; omega), by kernel_rfl, by kernel_rfl⟩)
  · refine R.go 5 (R.cond (v_9 = 1) (by kernel_rfl) (fun c19 => ?_) (fun c19 => ?_))
    · refine R.go 3 (R.frz 4 (by kernel_rfl) ?_)
      refine R.kfix 2 (us := usC) (by kernel_rfl) (hfC.frz 4 (LI vs_3) (Nat.le_of_ble_eq_true (by kernel_rfl))) ?_
      refine R.slL eI vs_3 1 1 (by kernel_rfl) rfl eI_len (by omega) (by kernel_rfl) ?_
      exact R.go 9 (R.retX (res := .agg [AI n_1, LI xs_2, LI (vs_3.drop 1)]) (hp' := [.box 106 [LB c, AI (p1_10 : Int), .int .u64 h1_11], .list eo1 so1 no1 co1, .dead, .box 36 [AI n_1, LI xs_2, LI (vs_3.drop 1)], .dead, .box 36 [AI n_1, LI xs_2, LI (vs_3.drop 1)]]) (by kernel_rfl) (by kernel_rfl) (by kernel_rfl) (by kernel_rfl) ⟨[0, 1], by kernel_rfl, by decide, n_1, xs_2, vs_3.drop 1, p1_10, h1_11, by first | omega | (simp only [List.length_drop, List.length_set]; omega), by first | omega | (simp only [List.length_drop, List.length_set]; omega), by kernel_rfl, by kernel_rfl⟩)
    · have hb : 1 ≤ shl64 1 n_1 ∧ shl64 1 n_1 ≤ 4611686018427387904 := shl_rng n_1 (by omega) (by omega)
      refine R.go 5 (R.cond (v_9 = 2) (by kernel_rfl) (fun c20 => ?_) (fun c20 => ?_))
      · refine R.any (by decide +kernel) (by kernel_rfl) ?_
        refine R.anyF 2 (by kernel_rfl) (np_retX _ _ _ _ _ _) ?_
        refine R.anyF 4 (by kernel_rfl) (np_retX _ _ _ _ _ _) ?_
        refine R.anyA 0 (.ptr 5 2) (by kernel_rfl) (np_retX _ _ _ _ _ _) ?_
        refine R.anyA 5 (.ptr 5 0) (by kernel_rfl) (np_retX _ _ _ _ _ _) ?_
        refine R.anyA 6 (.ptr 5 0) (by kernel_rfl) (np_retX _ _ _ _ _ _) ?_
        refine R.any3 1 3 7 (by kernel_rfl) (by kernel_rfl) ?_ ?_ ?_
        · refine R.go 2 (R.any2 3 7 (by kernel_rfl) (by kernel_rfl) ?_ ?_)
          · refine R.callX (CallX.inF 2 usC frC (CallX.box 2 36 [AI 0, .nil, .nil] (nextX_c_r3c c p1_10 h1_11 6 eo1 so1 no1 co1 36 3 1 [AI 0, .nil, .nil] 2 1 vs_3.length (rows eI vs_3) 36 n_1 xs_2 hc) (by kernel_rfl) (by kernel_rfl) (by kernel_rfl) (by kernel_rfl) (by rintro _ _ ⟨_, _, _, _, rfl, rfl⟩; exact ⟨by kernel_rfl, by kernel_rfl, by kernel_rfl⟩)) (Nat.le_of_ble_eq_true (by kernel_rfl)) (by kernel_rfl) (by kernel_rfl) (by rintro _ _ ⟨_, ⟨_, _, _, _, rfl, rfl⟩, rfl⟩; exact Nat.le_of_ble_eq_true (by kernel_rfl))) (by kernel_rfl) (by kernel_rfl) (by kernel_rfl) ?_
            rintro _ _ ⟨_, _, ⟨_, ⟨v_21, p1_22, h1_23, f24, rfl, rfl⟩, rfl⟩, rfl, rfl⟩
            refine R.go 1 (R.any1 7 (by kernel_rfl) (by kernel_rfl) ?_)
            refine R.go 2 (R.any1 8 (by kernel_rfl) (by kernel_rfl) ?_)
            refine R.call true (l01Full_c n_1 (by omega) (by omega)) (by kernel_rfl) rfl (by kernel_rfl) ?_
            refine R.go 1 (R.anyI 9 (AI (IntKind.i64.wrap (((shl64 1 n_1) - 1) + 1))) (by kernel_rfl) (np_retX _ _ _ _ _ _) ?_)
            refine R.any1 10 (by kernel_rfl) (by kernel_rfl) ?_
            refine R.lit (s := 1) (n := 2) (cs := rows eI [(-1), IntKind.i64.wrap (((shl64 1 n_1) - 1) + 1)]) (by kernel_rfl) (by kernel_rfl) ?_
            refine R.go 1 (R.any1 11 (by kernel_rfl) (by kernel_rfl) ?_)
            refine R.callX (CallX.inF 2 usC frC (CallX.box 2 36 [AI 0, .nil, .nil] (pickX_c_r3c c p1_22 h1_23 [(-1), IntKind.i64.wrap (((shl64 1 n_1) - 1) + 1)] eo1 so1 no1 co1 36 3 1 [AI 0, .nil, .nil] 2 1 vs_3.length (rows eI vs_3) 36 n_1 xs_2 hc (by simp)) (by kernel_rfl) (by kernel_rfl) (by kernel_rfl) (by kernel_rfl) (by rintro _ _ ⟨_, _, _, rfl, rfl⟩; exact ⟨by kernel_rfl, by kernel_rfl, by kernel_rfl⟩)) (Nat.le_of_ble_eq_true (by kernel_rfl)) (by kernel_rfl) (by kernel_rfl) (by rintro _ _ ⟨_, ⟨_, _, _, rfl, rfl⟩, rfl⟩; exact Nat.le_of_ble_eq_true (by kernel_rfl))) (by kernel_rfl) (by kernel_rfl) (by kernel_rfl) ?_
            rintro _ _ ⟨_, _, ⟨_, ⟨v_25, p1_26, h1_27, rfl, rfl⟩, rfl⟩, rfl, rfl⟩
            refine R.go 1 (R.any1 12 (by kernel_rfl) (by kernel_rfl) ?_)
            refine R.idxO 4 1 vs_3.length ((v_21).toNat) v_21 (by kernel_rfl) (by omega) (by omega) (by kernel_rfl) ?_
            refine R.go 1 (R.any1 13 (by kernel_rfl) (by kernel_rfl) ?_)
            refine R.stI 4 2 vs_3 ((v_21).toNat) v_25 (by kernel_rfl) (by omega) (by kernel_rfl) ?_
            refine R.go 1 (R.any0 (by kernel_rfl) ?_)
            refine R.go 6 (R.frz 4 (by kernel_rfl) ?_)
            refine R.kfix 2 (us := usC) (by kernel_rfl) (hfC.frz 4 (LI (vs_3.set ((v_21).toNat) v_25)) (Nat.le_of_ble_eq_true (by kernel_rfl))) ?_
            exact R.retX (res := .agg [AI n_1, LI xs_2, LI (vs_3.set ((v_21).toNat) v_25)]) (hp' := [.box 106 [LB c, AI (p1_26 : Int), .int .u64 h1_27], .list eo1 so1 no1 co1, .dead, .box 36 [AI n_1, LI xs_2, LI (vs_3.set ((v_21).toNat) v_25)], .dead, .box 36 [AI n_1, LI xs_2, LI (vs_3.set ((v_21).toNat) v_25)]]) (by kernel_rfl) (by kernel_rfl) (by kernel_rfl) (by kernel_rfl) ⟨[0, 1], by kernel_rfl, by decide, n_1, xs_2, vs_3.set ((v_21).toNat) v_25, p1_26, h1_27, by first | omega | (simp only [List.length_drop, List.length_set]; omega), by first | omega | (simp only [List.length_drop, List.length_set]; omega), by kernel_rfl, by kernel_rfl⟩
          · refine R.go 2 (R.any1 3 (by kernel_rfl) (by kernel_rfl) ?_)
            refine R.callX (CallX.inF 2 usC frC (CallX.box 2 36 [AI 0, .nil, .nil] (nextX_c_r3c c p1_10 h1_11 6 eo1 so1 no1 co1 36 3 1 [AI 0, .nil, .nil] 2 1 vs_3.length (rows eI vs_3) 36 n_1 xs_2 hc) (by kernel_rfl) (by kernel_rfl) (by kernel_rfl) (by kernel_rfl) (by rintro _ _ ⟨_, _, _, _, rfl, rfl⟩; exact ⟨by kernel_rfl, by kernel_rfl, by kernel_rfl⟩)) (Nat.le_of_ble_eq_true (by kernel_rfl)) (by kernel_rfl) (by kernel_rfl) (by rintro _ _ ⟨_, ⟨_, _, _, _, rfl, rfl⟩, rfl⟩; exact Nat.le_of_ble_eq_true (by kernel_rfl))) (by kernel_rfl) (by kernel_rfl) (by kernel_rfl) ?_
            rintro _ _ ⟨_, _, ⟨_, ⟨v_28, p1_29, h1_30, f31, rfl, rfl⟩, rfl⟩, rfl, rfl⟩
            refine R.go 1 (R.any1 8 (by kernel_rfl) (by kernel_rfl) ?_)
            refine R.call true (l01Full_c n_1 (by omega) (by omega)) (by kernel_rfl) rfl (by kernel_rfl) ?_
            refine R.go 1 (R.anyI 9 (AI (IntKind.i64.wrap (((shl64 1 n_1) - 1) + 1))) (by kernel_rfl) (np_retX _ _ _ _ _ _) ?_)
            refine R.any1 10 (by kernel_rfl) (by kernel_rfl) ?_
            refine R.lit (s := 1) (n := 2) (cs := rows eI [(-1), IntKind.i64.wrap (((shl64 1 n_1) - 1) + 1)]) (by kernel_rfl) (by kernel_rfl) ?_
            refine R.go 1 (R.any1 11 (by kernel_rfl) (by kernel_rfl) ?_)
            refine R.callX (CallX.inF 2 usC frC (CallX.box 2 36 [AI 0, .nil, .nil] (pickX_c_r3c c p1_29 h1_30 [(-1), IntKind.i64.wrap (((shl64 1 n_1) - 1) + 1)] eo1 so1 no1 co1 36 3 1 [AI 0, .nil, .nil] 2 1 vs_3.length (rows eI vs_3) 36 n_1 xs_2 hc (by simp)) (by kernel_rfl) (by kernel_rfl) (by kernel_rfl) (by kernel_rfl) (by rintro _ _ ⟨_, _, _, rfl, rfl⟩; exact ⟨by kernel_rfl, by kernel_rfl, by kernel_rfl⟩)) (Nat.le_of_ble_eq_true (by kernel_rfl)) (by kernel_rfl) (by kernel_rfl) (by rintro _ _ ⟨_, ⟨_, _, _, rfl, rfl⟩, rfl⟩; exact Nat.le_of_ble_eq_true (by kernel_rfl))) (by kernel_rfl) (by kernel_rfl) (by kernel_rfl) ?_
            rintro _ _ ⟨_, _, ⟨_, ⟨v_32, p1_33, h1_34, rfl, rfl⟩, rfl⟩, rfl, rfl⟩
            refine R.go 1 (R.any1 12 (by kernel_rfl) (by kernel_rfl) ?_)
            refine R.idxO 4 1 vs_3.length ((v_28).toNat) v_28 (by kernel_rfl) (by omega) (by omega) (by kernel_rfl) ?_
            refine R.go 1 (R.any1 13 (by kernel_rfl) (by kernel_rfl) ?_)
            refine R.stI 4 2 vs_3 ((v_28).toNat) v_32 (by kernel_rfl) (by omega) (by kernel_rfl) ?_
            refine R.go 1 (R.any0 (by kernel_rfl) ?_)
            refine R.go 6 (R.frz 4 (by kernel_rfl) ?_)
            refine R.kfix 2 (us := usC) (by kernel_rfl) (hfC.frz 4 (LI (vs_3.set ((v_28).toNat) v_32)) (Nat.le_of_ble_eq_true (by kernel_rfl))) ?_
            exact R.retX (res := .agg [AI n_1, LI xs_2, LI (vs_3.set ((v_28).toNat) v_32)]) (hp' := [.box 106 [LB c, AI (p1_33 : Int), .int .u64 h1_34], .list eo1 so1 no1 co1, .dead, .box 36 [AI n_1, LI xs_2, LI (vs_3.set ((v_28).toNat) v_32)], .dead, .box 36 [AI n_1, LI xs_2, LI (vs_3.set ((v_28).toNat) v_32)]]) (by kernel_rfl) (by kernel_rfl) (by kernel_rfl) (by kernel_rfl) ⟨[0, 1], by kernel_rfl, by decide, n_1, xs_2, vs_3.set ((v_28).toNat) v_32, p1_33, h1_34, by first | omega | (simp only [List.length_drop, List.length_set]; omega), by first | omega | (simp only [List.length_drop, List.length_set]; omega), by kernel_rfl, by kernel_rfl⟩
        · refine R.callX (CallX.inF 2 usC frC (CallX.box 2 36 [AI 0, .nil, .nil] (nextX_c_r3c c p1_10 h1_11 6 eo1 so1 no1 co1 36 3 1 [AI 0, .nil, .nil] 2 1 vs_3.length (rows eI vs_3) 36 n_1 xs_2 hc) (by kernel_rfl) (by kernel_rfl) (by kernel_rfl) (by kernel_rfl) (by rintro _ _ ⟨_, _, _, _, rfl, rfl⟩; exact ⟨by kernel_rfl, by kernel_rfl, by kernel_rfl⟩)) (Nat.le_of_ble_eq_true (by kernel_rfl)) (by kernel_rfl) (by kernel_rfl) (by rintro _ _ ⟨_, ⟨_, _, _, _, rfl, rfl⟩, rfl⟩; exact Nat.le_of_ble_eq_true (by kernel_rfl))) (by kernel_rfl) (by kernel_rfl) (by kernel_rfl) ?_
          rintro _ _ ⟨_, _, ⟨_, ⟨v_35, p1_36, h1_37, f38, rfl, rfl⟩, rfl⟩, rfl, rfl⟩
          refine R.go 1 (R.any2 1 7 (by kernel_rfl) (by kernel_rfl) ?_ ?_)
          · refine R.go 2 (R.any1 7 (by kernel_rfl) (by kernel_rfl) ?_)
            refine R.go 2 (R.any1 8 (by kernel_rfl) (by kernel_rfl) ?_)
            refine R.call true (l01Full_c n_1 (by omega) (by omega)) (by kernel_rfl) rfl (by kernel_rfl) ?_
            refine R.go 1 (R.anyI 9 (AI (IntKind.i64.wrap (((shl64 1 n_1) - 1) + 1))) (by kernel_rfl) (np_retX _ _ _ _ _ _) ?_)
            refine R.any1 10 (by kernel_rfl) (by kernel_rfl) ?_
            refine R.lit (s := 1) (n := 2) (cs := rows eI [(-1), IntKind.i64.wrap (((shl64 1 n_1) - 1) + 1)]) (by kernel_rfl) (by kernel_rfl) ?_
            refine R.go 1 (R.any1 11 (by kernel_rfl) (by kernel_rfl) ?_)
            refine R.callX (CallX.inF 2 usC frC (CallX.box 2 36 [AI 0, .nil, .nil] (pickX_c_r3c c p1_36 h1_37 [(-1), IntKind.i64.wrap (((shl64 1 n_1) - 1) + 1)] eo1 so1 no1 co1 36 3 1 [AI 0, .nil, .nil] 2 1 vs_3.length (rows eI vs_3) 36 n_1 xs_2 hc (by simp)) (by kernel_rfl) (by kernel_rfl) (by kernel_rfl) (by kernel_rfl) (by rintro _ _ ⟨_, _, _, rfl, rfl⟩; exact ⟨by kernel_rfl, by kernel_rfl, by kernel_rfl⟩)) (Nat.le_of_ble_eq_true (by kernel_rfl)) (by kernel_rfl) (by kernel_rfl) (by rintro _ _ ⟨_, ⟨_, _, _, rfl, rfl⟩, rfl⟩; exact Nat.le_of_ble_eq_true (by kernel_rfl))) (by kernel_rfl) (by kernel_rfl) (by kernel_rfl) ?_
            rintro _ _ ⟨_, _, ⟨_, ⟨v_39, p1_40, h1_41, rfl, rfl⟩, rfl⟩, rfl, rfl⟩
            refine R.go 1 (R.any1 12 (by kernel_rfl) (by kernel_rfl) ?_)
            refine R.idxO 4 1 vs_3.length ((v_35).toNat) v_35 (by kernel_rfl) (by omega) (by omega) (by kernel_rfl) ?_
            refine R.go 1 (R.any1 13 (by kernel_rfl) (by kernel_rfl) ?_)
            refine R.stI 4 2 vs_3 ((v_35).toNat) v_39 (by kernel_rfl) (by omega) (by kernel_rfl) ?_
            refine R.go 1 (R.any0 (by kernel_rfl) ?_)
            refine R.go 6 (R.frz 4 (by kernel_rfl) ?_)
            refine R.kfix 2 (us := usC) (by kernel_rfl) (hfC.frz 4 (LI (vs_3.set ((v_35).toNat) v_39)) (Nat.le_of_ble_eq_true (by kernel_rfl))) ?_
            exact R.retX (res := .agg [AI n_1, LI xs_2, LI (vs_3.set ((v_35).toNat) v_39)]) (hp' := [.box 106 [LB c, AI (p1_40 : Int), .int .u64 h1_41], .list eo1 so1 no1 co1, .dead, .box 36 [AI n_1, LI xs_2, LI (vs_3.set ((v_35).toNat) v_39)], .dead, .box 36 [AI n_1, LI xs_2, LI (vs_3.set ((v_35).toNat) v_39)]]) (by kernel_rfl) (by kernel_rfl) (by kernel_rfl) (by kernel_rfl) ⟨[0, 1], by kernel_rfl, by decide, n_1, xs_2, vs_3.set ((v_35).toNat) v_39, p1_40, h1_41, by first | omega | (simp only [List.length_drop, List.length_set]; omega), by first | omega | (simp only [List.length_drop, List.length_set]; omega), by kernel_rfl, by kernel_rfl⟩
          · refine R.go 2 (R.any2 1 8 (by kernel_rfl) (by kernel_rfl) ?_ ?_)
            · refine R.go 2 (R.any1 8 (by kernel_rfl) (by kernel_rfl) ?_)
              refine R.call true (l01Full_c n_1 (by omega) (by omega)) (by kernel_rfl) rfl (by kernel_rfl) ?_
              refine R.go 1 (R.anyI 9 (AI (IntKind.i64.wrap (((shl64 1 n_1) - 1) + 1))) (by kernel_rfl) (np_retX _ _ _ _ _ _) ?_)
              refine R.any1 10 (by kernel_rfl) (by kernel_rfl) ?_
              refine R.lit (s := 1) (n := 2) (cs := rows eI [(-1), IntKind.i64.wrap (((shl64 1 n_1) - 1) + 1)]) (by kernel_rfl) (by kernel_rfl) ?_
              refine R.go 1 (R.any1 11 (by kernel_rfl) (by kernel_rfl) ?_)
              refine R.callX (CallX.inF 2 usC frC (CallX.box 2 36 [AI 0, .nil, .nil] (pickX_c_r3c c p1_36 h1_37 [(-1), IntKind.i64.wrap (((shl64 1 n_1) - 1) + 1)] eo1 so1 no1 co1 36 3 1 [AI 0, .nil, .nil] 2 1 vs_3.length (rows eI vs_3) 36 n_1 xs_2 hc (by simp)) (by kernel_rfl) (by kernel_rfl) (by kernel_rfl) (by kernel_rfl) (by rintro _ _ ⟨_, _, _, rfl, rfl⟩; exact ⟨by kernel_rfl, by kernel_rfl, by kernel_rfl⟩)) (Nat.le_of_ble_eq_true (by kernel_rfl)) (by kernel_rfl) (by kernel_rfl) (by rintro _ _ ⟨_, ⟨_, _, _, rfl, rfl⟩, rfl⟩; exact Nat.le_of_ble_eq_true (by kernel_rfl))) (by kernel_rfl) (by kernel_rfl) (by kernel_rfl) ?_
              rintro _ _ ⟨_, _, ⟨_, ⟨v_42, p1_43, h1_44, rfl, rfl⟩, rfl⟩, rfl, rfl⟩
              refine R.go 1 (R.any1 12 (by kernel_rfl) (by kernel_rfl) ?_)
              refine R.idxO 4 1 vs_3.length ((v_35).toNat) v_35 (by kernel_rfl) (by omega) (by omega) (by kernel_rfl) ?_
              refine R.go 1 (R.any1 13 (by kernel_rfl) (by kernel_rfl) ?_)
              refine R.stI 4 2 vs_3 ((v_35).toNat) v_42 (by kernel_rfl) (by omega) (by kernel_rfl) ?_
              refine R.go 1 (R.any0 (by kernel_rfl) ?_)
              refine R.go 6 (R.frz 4 (by kernel_rfl) ?_)
              refine R.kfix 2 (us := usC) (by kernel_rfl) (hfC.frz 4 (LI (vs_3.set ((v_35).toNat) v_42)) (Nat.le_of_ble_eq_true (by kernel_rfl))) ?_
              exact R.retX (res := .agg [AI n_1, LI xs_2, LI (vs_3.set ((v_35).toNat) v_42)]) (hp' := [.box 106 [LB c, AI (p1_43 : Int), .int .u64 h1_44], .list eo1 so1 no1 co1, .dead, .box 36 [AI n_1, LI xs_2, LI (vs_3.set ((v_35).toNat) v_42)], .dead, .box 36 [AI n_1, LI xs_2, LI (vs_3.set ((v_35).toNat) v_42)]]) (by kernel_rfl) (by kernel_rfl) (by kernel_rfl) (by kernel_rfl) ⟨[0, 1], by kernel_rfl, by decide, n_1, xs_2, vs_3.set ((v_35).toNat) v_42, p1_43, h1_44, by first | omega | (simp only [List.length_drop, List.length_set]; omega), by first | omega | (simp only [List.length_drop, List.length_set]; omega), by kernel_rfl, by kernel_rfl⟩
            · refine R.call true (l01Full_c n_1 (by omega) (by omega)) (by kernel_rfl) rfl (by kernel_rfl) ?_
              refine R.go 1 (R.anyI 9 (AI (IntKind.i64.wrap (((shl64 1 n_1) - 1) + 1))) (by kernel_rfl) (np_retX _ _ _ _ _ _) ?_)
              refine R.any2 1 10 (by kernel_rfl) (by kernel_rfl) ?_ ?_
              · refine R.go 2 (R.any1 10 (by kernel_rfl) (by kernel_rfl) ?_)
                refine R.lit (s := 1) (n := 2) (cs := rows eI [(-1), IntKind.i64.wrap (((shl64 1 n_1) - 1) + 1)]) (by kernel_rfl) (by kernel_rfl) ?_
                refine R.go 1 (R.any1 11 (by kernel_rfl) (by kernel_rfl) ?_)
                refine R.callX (CallX.inF 2 usC frC (CallX.box 2 36 [AI 0, .nil, .nil] (pickX_c_r3c c p1_36 h1_37 [(-1), IntKind.i64.wrap (((shl64 1 n_1) - 1) + 1)] eo1 so1 no1 co1 36 3 1 [AI 0, .nil, .nil] 2 1 vs_3.length (rows eI vs_3) 36 n_1 xs_2 hc (by simp)) (by kernel_rfl) (by kernel_rfl) (by kernel_rfl) (by kernel_rfl) (by rintro _ _ ⟨_, _, _, rfl, rfl⟩; exact ⟨by kernel_rfl, by kernel_rfl, by kernel_rfl⟩)) (Nat.le_of_ble_eq_true (by kernel_rfl)) (by kernel_rfl) (by kernel_rfl) (by rintro _ _ ⟨_, ⟨_, _, _, rfl, rfl⟩, rfl⟩; exact Nat.le_of_ble_eq_true (by kernel_rfl))) (by kernel_rfl) (by kernel_rfl) (by kernel_rfl) ?_
                rintro _ _ ⟨_, _, ⟨_, ⟨v_45, p1_46, h1_47, rfl, rfl⟩, rfl⟩, rfl, rfl⟩
                refine R.go 1 (R.any1 12 (by kernel_rfl) (by kernel_rfl) ?_)
                refine R.idxO 4 1 vs_3.length ((v_35).toNat) v_35 (by kernel_rfl) (by omega) (by omega) (by kernel_rfl) ?_
                refine R.go 1 (R.any1 13 (by kernel_rfl) (by kernel_rfl) ?_)
                refine R.stI 4 2 vs_3 ((v_35).toNat) v_45 (by kernel_rfl) (by omega) (by kernel_rfl) ?_
                refine R.go 1 (R.any0 (by kernel_rfl) ?_)
                refine R.go 6 (R.frz 4 (by kernel_rfl) ?_)
                refine R.kfix 2 (us := usC) (by kernel_rfl) (hfC.frz 4 (LI (vs_3.set ((v_35).toNat) v_45)) (Nat.le_of_ble_eq_true (by kernel_rfl))) ?_
                exact R.retX (res := .agg [AI n_1, LI xs_2, LI (vs_3.set ((v_35).toNat) v_45)]) (hp' := [.box 106 [LB c, AI (p1_46 : Int), .int .u64 h1_47], .list eo1 so1 no1 co1, .dead, .box 36 [AI n_1, LI xs_2, LI (vs_3.set ((v_35).toNat) v_45)], .dead, .box 36 [AI n_1, LI xs_2, LI (vs_3.set ((v_35).toNat) v_45)]]) (by kernel_rfl) (by kernel_rfl) (by kernel_rfl) (by kernel_rfl) ⟨[0, 1], by kernel_rfl, by decide, n_1, xs_2, vs_3.set ((v_35).toNat) v_45, p1_46, h1_47, by first | omega | (simp only [List.length_drop, List.length_set]; omega), by first | omega | (simp only [List.length_drop, List.length_set]; omega), by kernel_rfl, by kernel_rfl⟩
              · refine R.lit (s := 1) (n := 2) (cs := rows eI [(-1), IntKind.i64.wrap (((shl64 1 n_1) - 1) + 1)]) (by kernel_rfl) (by kernel_rfl) ?_
                refine R.go 1 (R.any2 1 11 (by kernel_rfl) (by kernel_rfl) ?_ ?_)
                · refine R.go 2 (R.any1 11 (by kernel_rfl) (by kernel_rfl) ?_)
                  refine R.callX (CallX.inF 2 usC frC (CallX.box 2 36 [AI 0, .nil, .nil] (pickX_c_r3c c p1_36 h1_37 [(-1), IntKind.i64.wrap (((shl64 1 n_1) - 1) + 1)] eo1 so1 no1 co1 36 3 1 [AI 0, .nil, .nil] 2 1 vs_3.length (rows eI vs_3) 36 n_1 xs_2 hc (by simp)) (by kernel_rfl) (by kernel_rfl) (by kernel_rfl) (by kernel_rfl) (by rintro _ _ ⟨_, _, _, rfl, rfl⟩; exact ⟨by kernel_rfl, by kernel_rfl, by kernel_rfl⟩)) (Nat.le_of_ble_eq_true (by kernel_rfl)) (by kernel_rfl) (by kernel_rfl) (by rintro _ _ ⟨_, ⟨_, _, _, rfl, rfl⟩, rfl⟩; exact Nat.le_of_ble_eq_true (by kernel_rfl))) (by kernel_rfl) (by kernel_rfl) (by kernel_rfl) ?_
                  rintro _ _ ⟨_, _, ⟨_, ⟨v_48, p1_49, h1_50, rfl, rfl⟩, rfl⟩, rfl, rfl⟩
                  refine R.go 1 (R.any1 12 (by kernel_rfl) (by kernel_rfl) ?_)
                  refine R.idxO 4 1 vs_3.length ((v_35).toNat) v_35 (by kernel_rfl) (by omega) (by omega) (by kernel_rfl) ?_
                  refine R.go 1 (R.any1 13 (by kernel_rfl) (by kernel_rfl) ?_)
                  refine R.stI 4 2 vs_3 ((v_35).toNat) v_48 (by kernel_rfl) (by omega) (by kernel_rfl) ?_
                  refine R.go 1 (R.any0 (by kernel_rfl) ?_)
                  refine R.go 6 (R.frz 4 (by kernel_rfl) ?_)
                  refine R.kfix 2 (us := usC) (by kernel_rfl) (hfC.frz 4 (LI (vs_3.set ((v_35).toNat) v_48)) (Nat.le_of_ble_eq_true (by kernel_rfl))) ?_
                  exact R.retX (res := .agg [AI n_1, LI xs_2, LI (vs_3.set ((v_35).toNat) v_48)]) (hp' := [.box 106 [LB c, AI (p1_49 : Int), .int .u64 h1_50], .list eo1 so1 no1 co1, .dead, .box 36 [AI n_1, LI xs_2, LI (vs_3.set ((v_35).toNat) v_48)], .dead, .box 36 [AI n_1, LI xs_2, LI (vs_3.set ((v_35).toNat) v_48)]]) (by kernel_rfl) (by kernel_rfl) (by kernel_rfl) (by kernel_rfl) ⟨[0, 1], by kernel_rfl, by decide, n_1, xs_2, vs_3.set ((v_35).toNat) v_48, p1_49, h1_50, by first | omega | (simp only [List.length_drop, List.length_set]; omega), by first | omega | (simp only [List.length_drop, List.length_set]; omega), by kernel_rfl, by kernel_rfl⟩
                · refine R.callX (CallX.inF 2 usC frC (CallX.box 2 36 [AI 0, .nil, .nil] (pickX_c_r3c c p1_36 h1_37 [(-1), IntKind.i64.wrap (((shl64 1 n_1) - 1) + 1)] eo1 so1 no1 co1 36 3 1 [AI 0, .nil, .nil] 2 1 vs_3.length (rows eI vs_3) 36 n_1 xs_2 hc (by simp)) (by kernel_rfl) (by kernel_rfl) (by kernel_rfl) (by kernel_rfl) (by rintro _ _ ⟨_, _, _, rfl, rfl⟩; exact ⟨by kernel_rfl, by kernel_rfl, by kernel_rfl⟩)) (Nat.le_of_ble_eq_true (by kernel_rfl)) (by kernel_rfl) (by kernel_rfl) (by rintro _ _ ⟨_, ⟨_, _, _, rfl, rfl⟩, rfl⟩; exact Nat.le_of_ble_eq_true (by kernel_rfl))) (by kernel_rfl) (by kernel_rfl) (by kernel_rfl) ?_
                  rintro _ _ ⟨_, _, ⟨_, ⟨v_51, p1_52, h1_53, rfl, rfl⟩, rfl⟩, rfl, rfl⟩
                  refine R.go 1 (R.any1 1 (by kernel_rfl) (by kernel_rfl) ?_)
                  refine R.go 2 (R.any1 12 (by kernel_rfl) (by kernel_rfl) ?_)
                  refine R.idxO 4 1 vs_3.length ((v_35).toNat) v_35 (by kernel_rfl) (by omega) (by omega) (by kernel_rfl) ?_
                  refine R.go 1 (R.any1 13 (by kernel_rfl) (by kernel_rfl) ?_)
                  refine R.stI 4 2 vs_3 ((v_35).toNat) v_51 (by kernel_rfl) (by omega) (by kernel_rfl) ?_
                  refine R.go 1 (R.any0 (by kernel_rfl) ?_)
                  refine R.go 6 (R.frz 4 (by kernel_rfl) ?_)
                  refine R.kfix 2 (us := usC) (by kernel_rfl) (hfC.frz 4 (LI (vs_3.set ((v_35).toNat) v_51)) (Nat.le_of_ble_eq_true (by kernel_rfl))) ?_
                  exact R.retX (res := .agg [AI n_1, LI xs_2, LI (vs_3.set ((v_35).toNat) v_51)]) (hp' := [.box 106 [LB c, AI (p1_52 : Int), .int .u64 h1_53], .list eo1 so1 no1 co1, .dead, .box 36 [AI n_1, LI xs_2, LI (vs_3.set ((v_35).toNat) v_51)], .dead, .box 36 [AI n_1, LI xs_2, LI (vs_3.set ((v_35).toNat) v_51)]]) (by kernel_rfl) (by kernel_rfl) (by kernel_rfl) (by kernel_rfl) ⟨[0, 1], by kernel_rfl, by decide, n_1, xs_2, vs_3.set ((v_35).toNat) v_51, p1_52, h1_53, by first | omega | (simp only [List.length_drop, List.length_set]; omega), by first | omega | (simp only [List.length_drop, List.length_set]; omega), by kernel_rfl, by kernel_rfl⟩
        · refine R.go 2 (R.any2 1 3 (by kernel_rfl) (by kernel_rfl) ?_ ?_)
          · refine R.go 2 (R.any1 3 (by kernel_rfl) (by kernel_rfl) ?_)
            refine R.callX (CallX.inF 2 usC frC (CallX.box 2 36 [AI 0, .nil, .nil] (nextX_c_r3c c p1_10 h1_11 6 eo1 so1 no1 co1 36 3 1 [AI 0, .nil, .nil] 2 1 vs_3.length (rows eI vs_3) 36 n_1 xs_2 hc) (by kernel_rfl) (by kernel_rfl) (by kernel_rfl) (by kernel_rfl) (by rintro _ _ ⟨_, _, _, _, rfl, rfl⟩; exact ⟨by kernel_rfl, by kernel_rfl, by kernel_rfl⟩)) (Nat.le_of_ble_eq_true (by kernel_rfl)) (by kernel_rfl) (by kernel_rfl) (by rintro _ _ ⟨_, ⟨_, _, _, _, rfl, rfl⟩, rfl⟩; exact Nat.le_of_ble_eq_true (by kernel_rfl))) (by kernel_rfl) (by kernel_rfl) (by kernel_rfl) ?_
            rintro _ _ ⟨_, _, ⟨_, ⟨v_54, p1_55, h1_56, f57, rfl, rfl⟩, rfl⟩, rfl, rfl⟩
            refine R.go 1 (R.any1 8 (by kernel_rfl) (by kernel_rfl) ?_)
            refine R.call true (l01Full_c n_1 (by omega) (by omega)) (by kernel_rfl) rfl (by kernel_rfl) ?_
            refine R.go 1 (R.anyI 9 (AI (IntKind.i64.wrap (((shl64 1 n_1) - 1) + 1))) (by kernel_rfl) (np_retX _ _ _ _ _ _) ?_)
            refine R.any1 10 (by kernel_rfl) (by kernel_rfl) ?_
            refine R.lit (s := 1) (n := 2) (cs := rows eI [(-1), IntKind.i64.wrap (((shl64 1 n_1) - 1) + 1)]) (by kernel_rfl) (by kernel_rfl) ?_
            refine R.go 1 (R.any1 11 (by kernel_rfl) (by kernel_rfl) ?_)
            refine R.callX (CallX.inF 2 usC frC (CallX.box 2 36 [AI 0, .nil, .nil] (pickX_c_r3c c p1_55 h1_56 [(-1), IntKind.i64.wrap (((shl64 1 n_1) - 1) + 1)] eo1 so1 no1 co1 36 3 1 [AI 0, .nil, .nil] 2 1 vs_3.length (rows eI vs_3) 36 n_1 xs_2 hc (by simp)) (by kernel_rfl) (by kernel_rfl) (by kernel_rfl) (by kernel_rfl) (by rintro _ _ ⟨_, _, _, rfl, rfl⟩; exact ⟨by kernel_rfl, by kernel_rfl, by kernel_rfl⟩)) (Nat.le_of_ble_eq_true (by kernel_rfl)) (by kernel_rfl) (by kernel_rfl) (by rintro _ _ ⟨_, ⟨_, _, _, rfl, rfl⟩, rfl⟩; exact Nat.le_of_ble_eq_true (by kernel_rfl))) (by kernel_rfl) (by kernel_rfl) (by kernel_rfl) ?_
            rintro _ _ ⟨_, _, ⟨_, ⟨v_58, p1_59, h1_60, rfl, rfl⟩, rfl⟩, rfl, rfl⟩
            refine R.go 1 (R.any1 12 (by kernel_rfl) (by kernel_rfl) ?_)
            refine R.idxO 4 1 vs_3.length ((v_54).toNat) v_54 (by kernel_rfl) (by omega) (by omega) (by kernel_rfl) ?_
            refine R.go 1 (R.any1 13 (by kernel_rfl) (by kernel_rfl) ?_)
            refine R.stI 4 2 vs_3 ((v_54).toNat) v_58 (by kernel_rfl) (by omega) (by kernel_rfl) ?_
            refine R.go 1 (R.any0 (by kernel_rfl) ?_)
            refine R.go 6 (R.frz 4 (by kernel_rfl) ?_)
            refine R.kfix 2 (us := usC) (by kernel_rfl) (hfC.frz 4 (LI (vs_3.set ((v_54).toNat) v_58)) (Nat.le_of_ble_eq_true (by kernel_rfl))) ?_
            exact R.retX (res := .agg [AI n_1, LI xs_2, LI (vs_3.set ((v_54).toNat) v_58)]) (hp' := [.box 106 [LB c, AI (p1_59 : Int), .int .u64 h1_60], .list eo1 so1 no1 co1, .dead, .box 36 [AI n_1, LI xs_2, LI (vs_3.set ((v_54).toNat) v_58)], .dead, .box 36 [AI n_1, LI xs_2, LI (vs_3.set ((v_54).toNat) v_58)]]) (by kernel_rfl) (by kernel_rfl) (by kernel_rfl) (by kernel_rfl) ⟨[0, 1], by kernel_rfl, by decide, n_1, xs_2, vs_3.set ((v_54).toNat) v_58, p1_59, h1_60, by first | omega | (simp only [List.length_drop, List.length_set]; omega), by first | omega | (simp only [List.length_drop, List.length_set]; omega), by kernel_rfl, by kernel_rfl⟩
          · refine R.callX (CallX.inF 2 usC frC (CallX.box 2 36 [AI 0, .nil, .nil] (nextX_c_r3c c p1_10 h1_11 6 eo1 so1 no1 co1 36 3 1 [AI 0, .nil, .nil] 2 1 vs_3.length (rows eI vs_3) 36 n_1 xs_2 hc) (by kernel_rfl) (by kernel_rfl) (by kernel_rfl) (by kernel_rfl) (by rintro _ _ ⟨_, _, _, _, rfl, rfl⟩; exact ⟨by kernel_rfl, by kernel_rfl, by kernel_rfl⟩)) (Nat.le_of_ble_eq_true (by kernel_rfl)) (by kernel_rfl) (by kernel_rfl) (by rintro _ _ ⟨_, ⟨_, _, _, _, rfl, rfl⟩, rfl⟩; exact Nat.le_of_ble_eq_true (by kernel_rfl))) (by kernel_rfl) (by kernel_rfl) (by kernel_rfl) ?_
            rintro _ _ ⟨_, _, ⟨_, ⟨v_61, p1_62, h1_63, f64, rfl, rfl⟩, rfl⟩, rfl, rfl⟩
            refine R.go 1 (R.any2 1 8 (by kernel_rfl) (by kernel_rfl) ?_ ?_)
            · refine R.go 2 (R.any1 8 (by kernel_rfl) (by kernel_rfl) ?_)
              refine R.call true (l01Full_c n_1 (by omega) (by omega)) (by kernel_rfl) rfl (by kernel_rfl) ?_
              refine R.go 1 (R.anyI 9 (AI (IntKind.i64.wrap (((shl64 1 n_1) - 1) + 1))) (by kernel_rfl) (np_retX _ _ _ _ _ _) ?_)
              refine R.any1 10 (by kernel_rfl) (by kernel_rfl) ?_
              refine R.lit (s := 1) (n := 2) (cs := rows eI [(-1), IntKind.i64.wrap (((shl64 1 n_1) - 1) + 1)]) (by kernel_rfl) (by kernel_rfl) ?_
              refine R.go 1 (R.any1 11 (by kernel_rfl) (by kernel_rfl) ?_)
              refine R.callX (CallX.inF 2 usC frC (CallX.box 2 36 [AI 0, .nil, .nil] (pickX_c_r3c c p1_62 h1_63 [(-1), IntKind.i64.wrap (((shl64 1 n_1) - 1) + 1)] eo1 so1 no1 co1 36 3 1 [AI 0, .nil, .nil] 2 1 vs_3.length (rows eI vs_3) 36 n_1 xs_2 hc (by simp)) (by kernel_rfl) (by kernel_rfl) (by kernel_rfl) (by kernel_rfl) (by rintro _ _ ⟨_, _, _, rfl, rfl⟩; exact ⟨by kernel_rfl, by kernel_rfl, by kernel_rfl⟩)) (Nat.le_of_ble_eq_true (by kernel_rfl)) (by kernel_rfl) (by kernel_rfl) (by rintro _ _ ⟨_, ⟨_, _, _, rfl, rfl⟩, rfl⟩; exact Nat.le_of_ble_eq_true (by kernel_rfl))) (by kernel_rfl) (by kernel_rfl) (by kernel_rfl) ?_
              rintro _ _ ⟨_, _, ⟨_, ⟨v_65, p1_66, h1_67, rfl, rfl⟩, rfl⟩, rfl, rfl⟩
              refine R.go 1 (R.any1 12 (by kernel_rfl) (by kernel_rfl) ?_)
              refine R.idxO 4 1 vs_3.length ((v_61).toNat) v_61 (by kernel_rfl) (by omega) (by omega) (by kernel_rfl) ?_
              refine R.go 1 (R.any1 13 (by kernel_rfl) (by kernel_rfl) ?_)
              refine R.stI 4 2 vs_3 ((v_61).toNat) v_65 (by kernel_rfl) (by omega) (by kernel_rfl) ?_
              refine R.go 1 (R.any0 (by kernel_rfl) ?_)
              refine R.go 6 (R.frz 4 (by kernel_rfl) ?_)
              refine R.kfix 2 (us := usC) (by kernel_rfl) (hfC.frz 4 (LI (vs_3.set ((v_61).toNat) v_65)) (Nat.le_of_ble_eq_true (by kernel_rfl))) ?_
              exact R.retX (res := .agg [AI n_1, LI xs_2, LI (vs_3.set ((v_61).toNat) v_65)]) (hp' := [.box 106 [LB c, AI (p1_66 : Int), .int .u64 h1_67], .list eo1 so1 no1 co1, .dead, .box 36 [AI n_1, LI xs_2, LI (vs_3.set ((v_61).toNat) v_65)], .dead, .box 36 [AI n_1, LI xs_2, LI (vs_3.set ((v_61).toNat) v_65)]]) (by kernel_rfl) (by kernel_rfl) (by kernel_rfl) (by kernel_rfl) ⟨[0, 1], by kernel_rfl, by decide, n_1, xs_2, vs_3.set ((v_61).toNat) v_65, p1_66, h1_67, by first | omega | (simp only [List.length_drop, List.length_set]; omega), by first | omega | (simp only [List.length_drop, List.length_set]; omega), by kernel_rfl, by kernel_rfl⟩
            · refine R.call true (l01Full_c n_1 (by omega) (by omega)) (by kernel_rfl) rfl (by kernel_rfl) ?_
              refine R.go 1 (R.anyI 9 (AI (IntKind.i64.wrap (((shl64 1 n_1) - 1) + 1))) (by kernel_rfl) (np_retX _ _ _ _ _ _) ?_)
              refine R.any2 1 10 (by kernel_rfl) (by kernel_rfl) ?_ ?_
              · refine R.go 2 (R.any1 10 (by kernel_rfl) (by kernel_rfl) ?_)
                refine R.lit (s := 1) (n := 2) (cs := rows eI [(-1), IntKind.i64.wrap (((shl64 1 n_1) - 1) + 1)]) (by kernel_rfl) (by kernel_rfl) ?_
                refine R.go 1 (R.any1 11 (by kernel_rfl) (by kernel_rfl) ?_)
                refine R.callX (CallX.inF 2 usC frC (CallX.box 2 36 [AI 0, .nil, .nil] (pickX_c_r3c c p1_62 h1_63 [(-1), IntKind.i64.wrap (((shl64 1 n_1) - 1) + 1)] eo1 so1 no1 co1 36 3 1 [AI 0, .nil, .nil] 2 1 vs_3.length (rows eI vs_3) 36 n_1 xs_2 hc (by simp)) (by kernel_rfl) (by kernel_rfl) (by kernel_rfl) (by kernel_rfl) (by rintro _ _ ⟨_, _, _, rfl, rfl⟩; exact ⟨by kernel_rfl, by kernel_rfl, by kernel_rfl⟩)) (Nat.le_of_ble_eq_true (by kernel_rfl)) (by kernel_rfl) (by kernel_rfl) (by rintro _ _ ⟨_, ⟨_, _, _, rfl, rfl⟩, rfl⟩; exact Nat.le_of_ble_eq_true (by kernel_rfl))) (by kernel_rfl) (by kernel_rfl) (by kernel_rfl) ?_
                rintro _ _ ⟨_, _, ⟨_, ⟨v_68, p1_69, h1_70, rfl, rfl⟩, rfl⟩, rfl, rfl⟩
                refine R.go 1 (R.any1 12 (by kernel_rfl) (by kernel_rfl) ?_)
                refine R.idxO 4 1 vs_3.length ((v_61).toNat) v_61 (by kernel_rfl) (by omega) (by omega) (by kernel_rfl) ?_
                refine R.go 1 (R.any1 13 (by kernel_rfl) (by kernel_rfl) ?_)
                refine R.stI 4 2 vs_3 ((v_61).toNat) v_68 (by kernel_rfl) (by omega) (by kernel_rfl) ?_
                refine R.go 1 (R.any0 (by kernel_rfl) ?_)
                refine R.go 6 (R.frz 4 (by kernel_rfl) ?_)
                refine R.kfix 2 (us := usC) (by kernel_rfl) (hfC.frz 4 (LI (vs_3.set ((v_61).toNat) v_68)) (Nat.le_of_ble_eq_true (by kernel_rfl))) ?_
                exact R.retX (res := .agg [AI n_1, LI xs_2, LI (vs_3.set ((v_61).toNat) v_68)]) (hp' := [.box 106 [LB c, AI (p1_69 : Int), .int .u64 h1_70], .list eo1 so1 no1 co1, .dead, .box 36 [AI n_1, LI xs_2, LI (vs_3.set ((v_61).toNat) v_68)], .dead, .box 36 [AI n_1, LI xs_2, LI (vs_3.set ((v_61).toNat) v_68)]]) (by kernel_rfl) (by kernel_rfl) (by kernel_rfl) (by kernel_rfl) ⟨[0, 1], by kernel_rfl, by decide, n_1, xs_2, vs_3.set ((v_61).toNat) v_68, p1_69, h1_70, by first | omega | (simp only [List.length_drop, List.length_set]; omega), by first | omega | (simp only [List.length_drop, List.length_set]; omega), by kernel_rfl, by kernel_rfl⟩
              · refine R.lit (s := 1) (n := 2) (cs := rows eI [(-1), IntKind.i64.wrap (((shl64 1 n_1) - 1) + 1)]) (by kernel_rfl) (by kernel_rfl) ?_
                refine R.go 1 (R.any2 1 11 (by kernel_rfl) (by kernel_rfl) ?_ ?_)
                · refine R.go 2 (R.any1 11 (by kernel_rfl) (by kernel_rfl) ?_)
                  refine R.callX (CallX.inF 2 usC frC (CallX.box 2 36 [AI 0, .nil, .nil] (pickX_c_r3c c p1_62 h1_63 [(-1), IntKind.i64.wrap (((shl64 1 n_1) - 1) + 1)] eo1 so1 no1 co1 36 3 1 [AI 0, .nil, .nil] 2 1 vs_3.length (rows eI vs_3) 36 n_1 xs_2 hc (by simp)) (by kernel_rfl) (by kernel_rfl) (by kernel_rfl) (by kernel_rfl) (by rintro _ _ ⟨_, _, _, rfl, rfl⟩; exact ⟨by kernel_rfl, by kernel_rfl, by kernel_rfl⟩)) (Nat.le_of_ble_eq_true (by kernel_rfl)) (by kernel_rfl) (by kernel_rfl) (by rintro _ _ ⟨_, ⟨_, _, _, rfl, rfl⟩, rfl⟩; exact Nat.le_of_ble_eq_true (by kernel_rfl))) (by kernel_rfl) (by kernel_rfl) (by kernel_rfl) ?_
                  rintro _ _ ⟨_, _, ⟨_, ⟨v_71, p1_72, h1_73, rfl, rfl⟩, rfl⟩, rfl, rfl⟩
                  refine R.go 1 (R.any1 12 (by kernel_rfl) (by kernel_rfl) ?_)
                  refine R.idxO 4 1 vs_3.length ((v_61).toNat) v_61 (by kernel_rfl) (by omega) (by omega) (by kernel_rfl) ?_
                  refine R.go 1 (R.any1 13 (by kernel_rfl) (by kernel_rfl) ?_)
                  refine R.stI 4 2 vs_3 ((v_61).toNat) v_71 (by kernel_rfl) (by omega) (by kernel_rfl) ?_
                  refine R.go 1 (R.any0 (by kernel_rfl) ?_)
                  refine R.go 6 (R.frz 4 (by kernel_rfl) ?_)
                  refine R.kfix 2 (us := usC) (by kernel_rfl) (hfC.frz 4 (LI (vs_3.set ((v_61).toNat) v_71)) (Nat.le_of_ble_eq_true (by kernel_rfl))) ?_
                  exact R.retX (res := .agg [AI n_1, LI xs_2, LI (vs_3.set ((v_61).toNat) v_71)]) (hp' := [.box 106 [LB c, AI (p1_72 : Int), .int .u64 h1_73], .list eo1 so1 no1 co1, .dead, .box 36 [AI n_1, LI xs_2, LI (vs_3.set ((v_61).toNat) v_71)], .dead, .box 36 [AI n_1, LI xs_2, LI (vs_3.set ((v_61).toNat) v_71)]]) (by kernel_rfl) (by kernel_rfl) (by kernel_rfl) (by kernel_rfl) ⟨[0, 1], by kernel_rfl, by decide, n_1, xs_2, vs_3.set ((v_61).toNat) v_71, p1_72, h1_73, by first | omega | (simp only [List.length_drop, List.length_set]; omega), by first | omega | (simp only [List.length_drop, List.length_set]; omega), by kernel_rfl, by kernel_rfl⟩
                · refine R.callX (CallX.inF 2 usC frC (CallX.box 2 36 [AI 0, .nil, .nil] (pickX_c_r3c c p1_62 h1_63 [(-1), IntKind.i64.wrap (((shl64 1 n_1) - 1) + 1)] eo1 so1 no1 co1 36 3 1 [AI 0, .nil, .nil] 2 1 vs_3.length (rows eI vs_3) 36 n_1 xs_2 hc (by simp)) (by kernel_rfl) (by kernel_rfl) (by kernel_rfl) (by kernel_rfl) (by rintro _ _ ⟨_, _, _, rfl, rfl⟩; exact ⟨by kernel_rfl, by kernel_rfl, by kernel_rfl⟩)) (Nat.le_of_ble_eq_true (by kernel_rfl)) (by kernel_rfl) (by kernel_rfl) (by rintro _ _ ⟨_, ⟨_, _, _, rfl, rfl⟩, rfl⟩; exact Nat.le_of_ble_eq_true (by kernel_rfl))) (by kernel_rfl) (by kernel_rfl) (by kernel_rfl) ?_
                  rintro _ _ ⟨_, _, ⟨_, ⟨v_74, p1_75, h1_76, rfl, rfl⟩, rfl⟩, rfl, rfl⟩
                  refine R.go 1 (R.any1 1 (by kernel_rfl) (by kernel_rfl) ?_)
                  refine R.go 2 (R.any1 12 (by kernel_rfl) (by kernel_rfl) ?_)
                  refine R.idxO 4 1 vs_3.length ((v_61).toNat) v_61 (by kernel_rfl) (by omega) (by omega) (by kernel_rfl) ?_
                  refine R.go 1 (R.any1 13 (by kernel_rfl) (by kernel_rfl) ?_)
                  refine R.stI 4 2 vs_3 ((v_61).toNat) v_74 (by kernel_rfl) (by omega) (by kernel_rfl) ?_
                  refine R.go 1 (R.any0 (by kernel_rfl) ?_)
                  refine R.go 6 (R.frz 4 (by kernel_rfl) ?_)
                  refine R.kfix 2 (us := usC) (by kernel_rfl) (hfC.frz 4 (LI (vs_3.set ((v_61).toNat) v_74)) (Nat.le_of_ble_eq_true (by kernel_rfl))) ?_
                  exact R.retX (res := .agg [AI n_1, LI xs_2, LI (vs_3.set ((v_61).toNat) v_74)]) (hp' := [.box 106 [LB c, AI (p1_75 : Int), .int .u64 h1_76], .list eo1 so1 no1 co1, .dead, .box 36 [AI n_1, LI xs_2, LI (vs_3.set ((v_61).toNat) v_74)], .dead, .box 36 [AI n_1, LI xs_2, LI (vs_3.set ((v_61).toNat) v_74)]]) (by kernel_rfl) (by kernel_rfl) (by kernel_rfl) (by kernel_rfl) ⟨[0, 1], by kernel_rfl, by decide, n_1, xs_2, vs_3.set ((v_61).toNat) v_74, p1_75, h1_76, by first | omega | (simp only [List.length_drop, List.length_set]; omega), by first | omega | (simp only [List.length_drop, List.length_set]; omega), by kernel_rfl, by kernel_rfl⟩
      · refine R.go 7 (R.frz 4 (by kernel_rfl) ?_)
        refine R.kfix 2 (us := usC) (by kernel_rfl) (hfC.frz 4 (LI vs_3) (Nat.le_of_ble_eq_true (by kernel_rfl))) ?_
        exact R.retX (res := .agg [AI n_1, LI xs_2, LI vs_3]) (hp' := [.box 106 [LB c, AI (p1_10 : Int), .int .u64 h1_11], .list eo1 so1 no1 co1, .dead, .box 36 [AI n_1, LI xs_2, LI vs_3], .dead, .box 36 [AI n_1, LI xs_2, LI vs_3]]) (by kernel_rfl) (by kernel_rfl) (by kernel_rfl) (by kernel_rfl) ⟨[0, 1], by kernel_rfl, by decide, n_1, xs_2, vs_3, p1_10, h1_11, by first | omega | (simp only [List.length_drop, List.length_set]; omega), by first | omega | (simp only [List.length_drop, List.length_set]; omega), by kernel_rfl, by kernel_rfl⟩

end Go.Proofs.Ytejaikeemahobaa


/-! Draws of pairs of a frame and a formula, of premises, of masks. -/
namespace Go.Proofs.Ytejaikeemahobaa
open Go.RowKit Go.Abs

theorem maskX_c_r2 (c : List Int) (p : Nat) (h : Int) (n : Int) (xs : List Int) (eo1 : Nat) (so1 : Nat) (no1 : Nat) (co1 : List AV) (eo2 : Nat) (so2 : Nat) (no2 : Nat) (co2 : List AV) (hc : BY c) (lx : xs.length ≤ 1000) : CallX Try.prog 69 [.ptr 0 0, .agg [AI n, LI xs]] [.box 106 [LB c, AI (p : Int), .int .u64 h], .list eo1 so1 no1 co1, .list eo2 so2 no2 co2] (fun (resX : AV) (objX : List AObj) => ∃ v : Int, ∃ p1 : Nat, ∃ h1 : Int, resX = AI v ∧ objX = [.box 106 [LB c, AI (p1 : Int), .int .u64 h1], .list eo1 so1 no1 co1, .list eo2 so2 no2 co2]) := by
  have hcl : c.length ≤ 4096 := hc.1
  have hcb := hc.2
  refine CallX.dropE (CallX.ofF Try.func69 rfl (by kernel_rfl) ?_)
  intro usC frC hfC
  refine R.go 9 (R.call true (l05Is_c n xs (by first | omega | (simp <;> omega))) (by kernel_rfl) rfl (by kernel_rfl) ?_)
  refine R.go 2 ?_
  refine (Bool.eq_false_or_eq_true (okFr n xs)).elim (fun c1 => ?_) (fun c1 => ?_)
  · refine R.want (!(okFr n xs)) false (by kernel_rfl) (bnF c1) ?_
    refine R.go 1 (R.want (!(okFr n xs)) false (by kernel_rfl) (bnF c1) ?_)
    refine R.callX (CallX.inF 3 usC frC (CallX.box 3 26 [AI n, LI xs] (nextX_c_r3 c p h 30 eo1 so1 no1 co1 eo2 so2 no2 co2 26 2 1 [AI n, LI xs] hc) (by kernel_rfl) (by kernel_rfl) (by kernel_rfl) (by kernel_rfl) (by rintro _ _ ⟨_, _, _, _, rfl, rfl⟩; exact ⟨by kernel_rfl, by kernel_rfl, by kernel_rfl⟩)) (Nat.le_of_ble_eq_true (by kernel_rfl)) (by kernel_rfl) (by kernel_rfl) (by rintro _ _ ⟨_, ⟨_, _, _, _, rfl, rfl⟩, rfl⟩; exact Nat.le_of_ble_eq_true (by kernel_rfl))) (by kernel_rfl) (by kernel_rfl) (by kernel_rfl) ?_
    rintro _ _ ⟨_, _, ⟨_, ⟨v_2, p1_3, h1_4, f5, rfl, rfl⟩, rfl⟩, rfl, rfl⟩
    refine R.want (!(okFr n xs)) false (by kernel_rfl) (bnF c1) ?_
    refine R.go 1 (R.pick (!(okFr n xs)) false (by kernel_rfl) (bnF c1) (by kernel_rfl) ?_)
    refine R.go 1 (R.cond (v_2 = 0) (by kernel_rfl) (fun c6 => ?_) (fun c6 => ?_))
    · have hb : ∀ k : Int, 0 ≤ k → k ≤ 62 → 1 ≤ shl64 1 k ∧ shl64 1 k ≤ 4611686018427387904 := fun k h0 h1 => shl_rng k h0 h1
      have hb1 := hb ((xs.length : Int) % 20) (by omega) (by omega)
      refine R.go 6 (R.rem xs.length 20 (by kernel_rfl) (by omega) (by omega) (by kernel_rfl) ?_)
      refine R.call true (l01Full_c ((xs.length : Int) % 20) (by first | omega | (simp <;> omega)) (by first | omega | (simp <;> omega))) (by kernel_rfl) rfl (by kernel_rfl) ?_
      refine R.ar (((shl64 1 ((xs.length : Int) % 20)) - 1) + 1) (by kernel_rfl) (by omega) (by omega) (by kernel_rfl) ?_
      refine R.lit (s := 1) (n := 3) (cs := rows eI [(-1), ((shl64 1 ((xs.length : Int) % 20)) - 1) + 1, 9223372036854775807]) (by kernel_rfl) (by kernel_rfl) ?_
      refine R.callX (CallX.inF 3 usC frC (CallX.box 3 26 [AI n, LI xs] (pickX_c_r3 c p1_3 h1_4 [(-1), ((shl64 1 ((xs.length : Int) % 20)) - 1) + 1, 9223372036854775807] eo1 so1 no1 co1 eo2 so2 no2 co2 26 2 1 [AI n, LI xs] hc (by simp)) (by kernel_rfl) (by kernel_rfl) (by kernel_rfl) (by kernel_rfl) (by rintro _ _ ⟨_, _, _, rfl, rfl⟩; exact ⟨by kernel_rfl, by kernel_rfl, by kernel_rfl⟩)) (Nat.le_of_ble_eq_true (by kernel_rfl)) (by kernel_rfl) (by kernel_rfl) (by rintro _ _ ⟨_, ⟨_, _, _, rfl, rfl⟩, rfl⟩; exact Nat.le_of_ble_eq_true (by kernel_rfl))) (by kernel_rfl) (by kernel_rfl) (by kernel_rfl) ?_
      rintro _ _ ⟨_, _, ⟨_, ⟨v_7, p1_8, h1_9, rfl, rfl⟩, rfl⟩, rfl, rfl⟩
      exact R.go 2 (R.retX (res := AI v_7) (hp' := [.box 106 [LB c, AI (p1_8 : Int), .int .u64 h1_9], .list eo1 so1 no1 co1, .list eo2 so2 no2 co2, .dead, .box 26 [AI n, LI xs]]) (by kernel_rfl) (by kernel_rfl) (by kernel_rfl) (by kernel_rfl) ⟨[0, 1, 2], by kernel_rfl, by decide, v_7, p1_8, h1_9, by kernel_rfl, by kernel_rfl⟩)
    · have hR : okFr n xs = true := by first | assumption | (have hq : (!okFr n xs) = false := by assumption; simpa using hq)
      have hr := okFr_rel hR
      have hb0 : 0 ≤ n ∧ n ≤ 8 := ⟨hr.1, hr.2.1⟩
      have hb1 := shl_rng n hb0.1 (by omega)
      refine R.go 6 (R.call true (l01Full_c n (by omega) (by omega)) (by kernel_rfl) rfl (by kernel_rfl) ?_)
      refine R.ar (((shl64 1 n) - 1) + 1) (by kernel_rfl) (by omega) (by omega) (by kernel_rfl) ?_
      refine R.callX (CallX.inF 3 usC frC (CallX.box 3 26 [AI n, LI xs] (nextX_c_r3 c p1_3 h1_4 (((shl64 1 n) - 1) + 1) eo1 so1 no1 co1 eo2 so2 no2 co2 26 2 1 [AI n, LI xs] hc) (by kernel_rfl) (by kernel_rfl) (by kernel_rfl) (by kernel_rfl) (by rintro _ _ ⟨_, _, _, _, rfl, rfl⟩; exact ⟨by kernel_rfl, by kernel_rfl, by kernel_rfl⟩)) (Nat.le_of_ble_eq_true (by kernel_rfl)) (by kernel_rfl) (by kernel_rfl) (by rintro _ _ ⟨_, ⟨_, _, _, _, rfl, rfl⟩, rfl⟩; exact Nat.le_of_ble_eq_true (by kernel_rfl))) (by kernel_rfl) (by kernel_rfl) (by kernel_rfl) ?_
      rintro _ _ ⟨_, _, ⟨_, ⟨v_10, p1_11, h1_12, f13, rfl, rfl⟩, rfl⟩, rfl, rfl⟩
      exact R.go 2 (R.retX (res := AI v_10) (hp' := [.box 106 [LB c, AI (p1_11 : Int), .int .u64 h1_12], .list eo1 so1 no1 co1, .list eo2 so2 no2 co2, .dead, .box 26 [AI n, LI xs]]) (by kernel_rfl) (by kernel_rfl) (by kernel_rfl) (by kernel_rfl) ⟨[0, 1, 2], by kernel_rfl, by decide, v_10, p1_11, h1_12, by kernel_rfl, by kernel_rfl⟩)
  · refine R.skp (!(okFr n xs)) false (by kernel_rfl) (bnT c1) (by kernel_rfl) ?_
    refine R.skp (!(okFr n xs)) false (by kernel_rfl) (bnT c1) (by kernel_rfl) ?_
    refine R.skp (!(okFr n xs)) false (by kernel_rfl) (bnT c1) (by kernel_rfl) ?_
    refine R.pick (!(okFr n xs)) true (by kernel_rfl) (bnT c1) (by kernel_rfl) ?_
    have hb : ∀ k : Int, 0 ≤ k → k ≤ 62 → 1 ≤ shl64 1 k ∧ shl64 1 k ≤ 4611686018427387904 := fun k h0 h1 => shl_rng k h0 h1
    have hb1 := hb ((xs.length : Int) % 20) (by omega) (by omega)
    refine R.go 8 (R.rem xs.length 20 (by kernel_rfl) (by omega) (by omega) (by kernel_rfl) ?_)
    refine R.call true (l01Full_c ((xs.length : Int) % 20) (by first | omega | (simp <;> omega)) (by first | omega | (simp <;> omega))) (by kernel_rfl) rfl (by kernel_rfl) ?_
    refine R.ar (((shl64 1 ((xs.length : Int) % 20)) - 1) + 1) (by kernel_rfl) (by omega) (by omega) (by kernel_rfl) ?_
    refine R.lit (s := 1) (n := 3) (cs := rows eI [(-1), ((shl64 1 ((xs.length : Int) % 20)) - 1) + 1, 9223372036854775807]) (by kernel_rfl) (by kernel_rfl) ?_
    refine R.callX (CallX.inF 3 usC frC (CallX.box 3 26 [AI n, LI xs] (pickX_c_r3 c p h [(-1), ((shl64 1 ((xs.length : Int) % 20)) - 1) + 1, 9223372036854775807] eo1 so1 no1 co1 eo2 so2 no2 co2 26 2 1 [AI n, LI xs] hc (by simp)) (by kernel_rfl) (by kernel_rfl) (by kernel_rfl) (by kernel_rfl) (by rintro _ _ ⟨_, _, _, rfl, rfl⟩; exact ⟨by kernel_rfl, by kernel_rfl, by kernel_rfl⟩)) (Nat.le_of_ble_eq_true (by kernel_rfl)) (by kernel_rfl) (by kernel_rfl) (by rintro _ _ ⟨_, ⟨_, _, _, rfl, rfl⟩, rfl⟩; exact Nat.le_of_ble_eq_true (by kernel_rfl))) (by kernel_rfl) (by kernel_rfl) (by kernel_rfl) ?_
    rintro _ _ ⟨_, _, ⟨_, ⟨v_14, p1_15, h1_16, rfl, rfl⟩, rfl⟩, rfl, rfl⟩
    exact R.go 2 (R.retX (res := AI v_14) (hp' := [.box 106 [LB c, AI (p1_15 : Int), .int .u64 h1_16], .list eo1 so1 no1 co1, .list eo2 so2 no2 co2, .dead, .box 26 [AI n, LI xs]]) (by kernel_rfl) (by kernel_rfl) (by kernel_rfl) (by kernel_rfl) ⟨[0, 1, 2], by kernel_rfl, by decide, v_14, p1_15, h1_16, by kernel_rfl, by kernel_rfl⟩)

end Go.Proofs.Ytejaikeemahobaa


/-! Draws of the laws. -/
namespace Go.Proofs.Ytejaikeemahobaa
open Go.RowKit Go.Abs

theorem drTruth_c (c : List Int) (hc : BY c) : CallX Try.prog 14 [LB c] [] (fun (resX : AV) (objX : List AObj) => ∃ n : Int, ∃ xs : List Int, ∃ vs : List Int, ∃ a : List (Int × Int), (xs.length ≤ 1000) ∧ (vs.length ≤ 6) ∧ (a.length ≤ 1000) ∧ resX = .tup [.agg [AI n, LI xs, LI vs], LN a] ∧ objX = []) := by
  have hcl : c.length ≤ 4096 := hc.1
  have hcb := hc.2
  refine CallX.dropE (CallX.ofF Try.func14 rfl (by kernel_rfl) ?_)
  intro usC frC hfC
  refine R.go 8 (R.enter (avs := [LB c]) Try.func40 rfl (by kernel_rfl) (by kernel_rfl) (by kernel_rfl) ?_)
  intro us1
  refine R.go 9 (R.cv .u64 (c.length : Int) (by kernel_rfl) (u64_id (by omega) (by omega)) (by kernel_rfl) ?_)
  refine R.go 11 (R.loop ((fun | (i, hh) => (⟨(frm 38 [(0, LB c), (3, .ptr 3 0), (4, AI (i : Int))]), [.frame usC frC, .box 36 [AI 0, .nil, .nil], .frame us1 (frm 13 [(0, LB c), (2, .ptr 1 0), (3, .nil), (6, LB c)]), .box 106 [LB c, AI 0, .int .u64 hh]]⟩ : St) : Nat × Int → St)) (fun | (i, hh) => i ≤ c.length) (fun | (i, hh) => c.length - i) (0, (IntKind.u64.wrap (7129 + (c.length : Int)))) [0, 3, 4] none (by kernel_rfl) (by kernel_rfl) (by kernel_rfl) (by omega) ?_)
  rintro ⟨i, hh⟩ h5_1 R2 N3
  refine R.go 8 ?_
  by_cases c6 : (i : Int) < (c.length : Int)
  · refine R.want (decide ((i : Int) < (c.length : Int))) true (by kernel_rfl) (dT c6) ?_
    refine R.go 1 (R.want (decide ((i : Int) < (c.length : Int))) true (by kernel_rfl) (dT c6) ?_)
    refine R.go 1 (R.pick (decide ((i : Int) < (c.length : Int))) true (by kernel_rfl) (dT c6) (by kernel_rfl) ?_)
    refine R.go 1 (R.cond ((i : Int) < 4096) (by kernel_rfl) (fun c7 => ?_) (fun c7 => ?_))
    · have hbi := hcb i (by omega)
      refine R.go 12 (R.idx eB c 0 i (i : Int) (by kernel_rfl) rfl eB_len (by omega) (by kernel_rfl) ?_)
      refine R.go 1 (R.cv .u64 (c.getD i 0) (by kernel_rfl) (u64_id (by omega) (by omega)) (by kernel_rfl) ?_)
      refine R.go 9 (R.ar ((i : Int) + 1) (by kernel_rfl) (by omega) (by omega) (by kernel_rfl) ?_)
      exact R.go 2 (R.stop R2 (by kernel_rfl) (N3 (i + 1, IntKind.u64.wrap ((IntKind.u64.wrap ((IntKind.u64.wrap (hh * 1099511628211)) + (c.getD i 0))) + 11)) [0, 3, 4] none _ (by kernel_rfl) (by kernel_rfl) (by omega) (by show (c.length - (i + 1)) < (c.length - i); omega)))
    · refine R.go 6 (R.back (.ptr 3 0) (frm 13 [(0, LB c), (2, .ptr 1 0), (3, .nil), (6, LB c)]) (by kernel_rfl) (by kernel_rfl) (by kernel_rfl) ?_)
      refine R.go 5 (R.deadF 2 (by kernel_rfl) (by kernel_rfl) ?_)
      refine R.callX (CallX.inF 0 usC frC (CallX.inF 1 [] [] (CallX.perm [1, 0] [1, 0] (CallX.box 1 36 [AI 0, .nil, .nil] (modelX_c_r1 c 0 hh 8 36 3 1 [AI 0, .nil, .nil] hc (by omega)) (by kernel_rfl) (by kernel_rfl) (by kernel_rfl) (by kernel_rfl) (by rintro _ _ ⟨_, _, _, _, _, _, _, rfl, rfl⟩; exact ⟨by kernel_rfl, by kernel_rfl, by kernel_rfl⟩)) (by kernel_rfl) (by kernel_rfl) (by kernel_rfl) (by rintro _ _ ⟨_, ⟨_, _, _, _, _, _, _, rfl, rfl⟩, rfl⟩; exact Nat.le_of_ble_eq_true (by kernel_rfl))) (Nat.le_of_ble_eq_true (by kernel_rfl)) (by kernel_rfl) (by kernel_rfl) (by rintro _ _ ⟨_, _, ⟨_, ⟨_, _, _, _, _, _, _, rfl, rfl⟩, rfl⟩, rfl, rfl⟩; exact Nat.le_of_ble_eq_true (by kernel_rfl))) (Nat.le_of_ble_eq_true (by kernel_rfl)) (by kernel_rfl) (by kernel_rfl) (by rintro _ _ ⟨_, _, ⟨_, _, ⟨_, ⟨_, _, _, _, _, _, _, rfl, rfl⟩, rfl⟩, rfl, rfl⟩, rfl, rfl⟩; exact Nat.le_of_ble_eq_true (by kernel_rfl))) (by kernel_rfl) (by kernel_rfl) (by kernel_rfl) ?_
      rintro _ _ ⟨_, _, ⟨_, _, ⟨_, _, ⟨_, ⟨n_8, xs_9, vs_10, p1_11, h1_12, f13, f14, rfl, rfl⟩, rfl⟩, rfl, rfl⟩, rfl, rfl⟩, rfl, rfl⟩
      refine R.go 4 (R.any (by decide +kernel) (by kernel_rfl) ?_)
      refine R.anyF 1 (by kernel_rfl) (np_retX _ _ _ _ _ _) ?_
      refine R.any2 0 2 (by kernel_rfl) (by kernel_rfl) ?_ ?_
      · refine R.go 2 (R.any1 2 (by kernel_rfl) (by kernel_rfl) ?_)
        refine R.callX (CallX.inF 0 usC frC (CallX.inF 1 [] [] (CallX.perm [1, 0, 2] [1, 0, 2] (CallX.box 2 36 [AI n_8, LI xs_9, LI vs_10] (CallX.box 1 36 [AI 0, .nil, .nil] (anyX_c_r2 c p1_11 h1_12 20 6 true 36 3 1 [AI 0, .nil, .nil] 36 3 1 [AI n_8, LI xs_9, LI vs_10] hc (by omega)) (by kernel_rfl) (by kernel_rfl) (by kernel_rfl) (by kernel_rfl) (by rintro _ _ ⟨_, _, _, _, rfl, rfl⟩; exact ⟨by kernel_rfl, by kernel_rfl, by kernel_rfl⟩)) (by kernel_rfl) (by kernel_rfl) (by kernel_rfl) (by kernel_rfl) (by rintro _ _ ⟨_, ⟨_, _, _, _, rfl, rfl⟩, rfl⟩; exact ⟨by kernel_rfl, by kernel_rfl, by kernel_rfl⟩)) (by kernel_rfl) (by kernel_rfl) (by kernel_rfl) (by rintro _ _ ⟨_, ⟨_, ⟨_, _, _, _, rfl, rfl⟩, rfl⟩, rfl⟩; exact Nat.le_of_ble_eq_true (by kernel_rfl))) (Nat.le_of_ble_eq_true (by kernel_rfl)) (by kernel_rfl) (by kernel_rfl) (by rintro _ _ ⟨_, _, ⟨_, ⟨_, ⟨_, _, _, _, rfl, rfl⟩, rfl⟩, rfl⟩, rfl, rfl⟩; exact Nat.le_of_ble_eq_true (by kernel_rfl))) (Nat.le_of_ble_eq_true (by kernel_rfl)) (by kernel_rfl) (by kernel_rfl) (by rintro _ _ ⟨_, _, ⟨_, _, ⟨_, ⟨_, ⟨_, _, _, _, rfl, rfl⟩, rfl⟩, rfl⟩, rfl, rfl⟩, rfl, rfl⟩; exact Nat.le_of_ble_eq_true (by kernel_rfl))) (by kernel_rfl) (by kernel_rfl) (by kernel_rfl) ?_
        rintro _ _ ⟨_, _, ⟨_, _, ⟨_, _, ⟨_, ⟨_, ⟨r_15, p1_16, h1_17, f18, rfl, rfl⟩, rfl⟩, rfl⟩, rfl, rfl⟩, rfl, rfl⟩, rfl, rfl⟩
        refine R.go 1 (R.any1 3 (by kernel_rfl) (by kernel_rfl) ?_)
        refine R.go 2 (R.any1 4 (by kernel_rfl) (by kernel_rfl) ?_)
        refine R.go 2 (R.any0 (by kernel_rfl) ?_)
        exact R.retX (res := .tup [.agg [AI n_8, LI xs_9, LI vs_10], LN r_15]) (hp' := [.dead, .box 36 [AI n_8, LI xs_9, LI vs_10], .frame [] [], .box 106 [LB c, AI (p1_16 : Int), .int .u64 h1_17], .box 36 [AI n_8, LI xs_9, LI vs_10]]) (by kernel_rfl) (by kernel_rfl) (by kernel_rfl) (by kernel_rfl) ⟨[], by kernel_rfl, by decide, n_8, xs_9, vs_10, r_15, by first | assumption | omega, by first | assumption | omega, by first | assumption | omega, by kernel_rfl, by kernel_rfl⟩
      · refine R.callX (CallX.inF 0 usC frC (CallX.inF 1 [] [] (CallX.perm [1, 0, 2] [1, 0, 2] (CallX.box 2 36 [AI n_8, LI xs_9, LI vs_10] (CallX.box 1 36 [AI 0, .nil, .nil] (anyX_c_r2 c p1_11 h1_12 20 6 true 36 3 1 [AI 0, .nil, .nil] 36 3 1 [AI n_8, LI xs_9, LI vs_10] hc (by omega)) (by kernel_rfl) (by kernel_rfl) (by kernel_rfl) (by kernel_rfl) (by rintro _ _ ⟨_, _, _, _, rfl, rfl⟩; exact ⟨by kernel_rfl, by kernel_rfl, by kernel_rfl⟩)) (by kernel_rfl) (by kernel_rfl) (by kernel_rfl) (by kernel_rfl) (by rintro _ _ ⟨_, ⟨_, _, _, _, rfl, rfl⟩, rfl⟩; exact ⟨by kernel_rfl, by kernel_rfl, by kernel_rfl⟩)) (by kernel_rfl) (by kernel_rfl) (by kernel_rfl) (by rintro _ _ ⟨_, ⟨_, ⟨_, _, _, _, rfl, rfl⟩, rfl⟩, rfl⟩; exact Nat.le_of_ble_eq_true (by kernel_rfl))) (Nat.le_of_ble_eq_true (by kernel_rfl)) (by kernel_rfl) (by kernel_rfl) (by rintro _ _ ⟨_, _, ⟨_, ⟨_, ⟨_, _, _, _, rfl, rfl⟩, rfl⟩, rfl⟩, rfl, rfl⟩; exact Nat.le_of_ble_eq_true (by kernel_rfl))) (Nat.le_of_ble_eq_true (by kernel_rfl)) (by kernel_rfl) (by kernel_rfl) (by rintro _ _ ⟨_, _, ⟨_, _, ⟨_, ⟨_, ⟨_, _, _, _, rfl, rfl⟩, rfl⟩, rfl⟩, rfl, rfl⟩, rfl, rfl⟩; exact Nat.le_of_ble_eq_true (by kernel_rfl))) (by kernel_rfl) (by kernel_rfl) (by kernel_rfl) ?_
        rintro _ _ ⟨_, _, ⟨_, _, ⟨_, _, ⟨_, ⟨_, ⟨r_19, p1_20, h1_21, f22, rfl, rfl⟩, rfl⟩, rfl⟩, rfl, rfl⟩, rfl, rfl⟩, rfl, rfl⟩
        refine R.go 1 (R.any1 0 (by kernel_rfl) (by kernel_rfl) ?_)
        refine R.go 2 (R.any1 3 (by kernel_rfl) (by kernel_rfl) ?_)
        refine R.go 2 (R.any1 4 (by kernel_rfl) (by kernel_rfl) ?_)
        refine R.go 2 (R.any0 (by kernel_rfl) ?_)
        exact R.retX (res := .tup [.agg [AI n_8, LI xs_9, LI vs_10], LN r_19]) (hp' := [.dead, .box 36 [AI n_8, LI xs_9, LI vs_10], .frame [] [], .box 106 [LB c, AI (p1_20 : Int), .int .u64 h1_21], .box 36 [AI n_8, LI xs_9, LI vs_10]]) (by kernel_rfl) (by kernel_rfl) (by kernel_rfl) (by kernel_rfl) ⟨[], by kernel_rfl, by decide, n_8, xs_9, vs_10, r_19, by first | assumption | omega, by first | assumption | omega, by first | assumption | omega, by kernel_rfl, by kernel_rfl⟩
  · refine R.skp (decide ((i : Int) < (c.length : Int))) true (by kernel_rfl) (dF c6) (by kernel_rfl) ?_
    refine R.skp (decide ((i : Int) < (c.length : Int))) true (by kernel_rfl) (dF c6) (by kernel_rfl) ?_
    refine R.pick (decide ((i : Int) < (c.length : Int))) false (by kernel_rfl) (dF c6) (by kernel_rfl) ?_
    refine R.go 8 (R.back (.ptr 3 0) (frm 13 [(0, LB c), (2, .ptr 1 0), (3, .nil), (6, LB c)]) (by kernel_rfl) (by kernel_rfl) (by kernel_rfl) ?_)
    refine R.go 5 (R.deadF 2 (by kernel_rfl) (by kernel_rfl) ?_)
    refine R.callX (CallX.inF 0 usC frC (CallX.inF 1 [] [] (CallX.perm [1, 0] [1, 0] (CallX.box 1 36 [AI 0, .nil, .nil] (modelX_c_r1 c 0 hh 8 36 3 1 [AI 0, .nil, .nil] hc (by omega)) (by kernel_rfl) (by kernel_rfl) (by kernel_rfl) (by kernel_rfl) (by rintro _ _ ⟨_, _, _, _, _, _, _, rfl, rfl⟩; exact ⟨by kernel_rfl, by kernel_rfl, by kernel_rfl⟩)) (by kernel_rfl) (by kernel_rfl) (by kernel_rfl) (by rintro _ _ ⟨_, ⟨_, _, _, _, _, _, _, rfl, rfl⟩, rfl⟩; exact Nat.le_of_ble_eq_true (by kernel_rfl))) (Nat.le_of_ble_eq_true (by kernel_rfl)) (by kernel_rfl) (by kernel_rfl) (by rintro _ _ ⟨_, _, ⟨_, ⟨_, _, _, _, _, _, _, rfl, rfl⟩, rfl⟩, rfl, rfl⟩; exact Nat.le_of_ble_eq_true (by kernel_rfl))) (Nat.le_of_ble_eq_true (by kernel_rfl)) (by kernel_rfl) (by kernel_rfl) (by rintro _ _ ⟨_, _, ⟨_, _, ⟨_, ⟨_, _, _, _, _, _, _, rfl, rfl⟩, rfl⟩, rfl, rfl⟩, rfl, rfl⟩; exact Nat.le_of_ble_eq_true (by kernel_rfl))) (by kernel_rfl) (by kernel_rfl) (by kernel_rfl) ?_
    rintro _ _ ⟨_, _, ⟨_, _, ⟨_, _, ⟨_, ⟨n_23, xs_24, vs_25, p1_26, h1_27, f28, f29, rfl, rfl⟩, rfl⟩, rfl, rfl⟩, rfl, rfl⟩, rfl, rfl⟩
    refine R.go 4 (R.any (by decide +kernel) (by kernel_rfl) ?_)
    refine R.anyF 1 (by kernel_rfl) (np_retX _ _ _ _ _ _) ?_
    refine R.any2 0 2 (by kernel_rfl) (by kernel_rfl) ?_ ?_
    · refine R.go 2 (R.any1 2 (by kernel_rfl) (by kernel_rfl) ?_)
      refine R.callX (CallX.inF 0 usC frC (CallX.inF 1 [] [] (CallX.perm [1, 0, 2] [1, 0, 2] (CallX.box 2 36 [AI n_23, LI xs_24, LI vs_25] (CallX.box 1 36 [AI 0, .nil, .nil] (anyX_c_r2 c p1_26 h1_27 20 6 true 36 3 1 [AI 0, .nil, .nil] 36 3 1 [AI n_23, LI xs_24, LI vs_25] hc (by omega)) (by kernel_rfl) (by kernel_rfl) (by kernel_rfl) (by kernel_rfl) (by rintro _ _ ⟨_, _, _, _, rfl, rfl⟩; exact ⟨by kernel_rfl, by kernel_rfl, by kernel_rfl⟩)) (by kernel_rfl) (by kernel_rfl) (by kernel_rfl) (by kernel_rfl) (by rintro _ _ ⟨_, ⟨_, _, _, _, rfl, rfl⟩, rfl⟩; exact ⟨by kernel_rfl, by kernel_rfl, by kernel_rfl⟩)) (by kernel_rfl) (by kernel_rfl) (by kernel_rfl) (by rintro _ _ ⟨_, ⟨_, ⟨_, _, _, _, rfl, rfl⟩, rfl⟩, rfl⟩; exact Nat.le_of_ble_eq_true (by kernel_rfl))) (Nat.le_of_ble_eq_true (by kernel_rfl)) (by kernel_rfl) (by kernel_rfl) (by rintro _ _ ⟨_, _, ⟨_, ⟨_, ⟨_, _, _, _, rfl, rfl⟩, rfl⟩, rfl⟩, rfl, rfl⟩; exact Nat.le_of_ble_eq_true (by kernel_rfl))) (Nat.le_of_ble_eq_true (by kernel_rfl)) (by kernel_rfl) (by kernel_rfl) (by rintro _ _ ⟨_, _, ⟨_, _, ⟨_, ⟨_, ⟨_, _, _, _, rfl, rfl⟩, rfl⟩, rfl⟩, rfl, rfl⟩, rfl, rfl⟩; exact Nat.le_of_ble_eq_true (by kernel_rfl))) (by kernel_rfl) (by kernel_rfl) (by kernel_rfl) ?_
      rintro _ _ ⟨_, _, ⟨_, _, ⟨_, _, ⟨_, ⟨_, ⟨r_30, p1_31, h1_32, f33, rfl, rfl⟩, rfl⟩, rfl⟩, rfl, rfl⟩, rfl, rfl⟩, rfl, rfl⟩
      refine R.go 1 (R.any1 3 (by kernel_rfl) (by kernel_rfl) ?_)
      refine R.go 2 (R.any1 4 (by kernel_rfl) (by kernel_rfl) ?_)
      refine R.go 2 (R.any0 (by kernel_rfl) ?_)
      exact R.retX (res := .tup [.agg [AI n_23, LI xs_24, LI vs_25], LN r_30]) (hp' := [.dead, .box 36 [AI n_23, LI xs_24, LI vs_25], .frame [] [], .box 106 [LB c, AI (p1_31 : Int), .int .u64 h1_32], .box 36 [AI n_23, LI xs_24, LI vs_25]]) (by kernel_rfl) (by kernel_rfl) (by kernel_rfl) (by kernel_rfl) ⟨[], by kernel_rfl, by decide, n_23, xs_24, vs_25, r_30, by first | assumption | omega, by first | assumption | omega, by first | assumption | omega, by kernel_rfl, by kernel_rfl⟩
    · refine R.callX (CallX.inF 0 usC frC (CallX.inF 1 [] [] (CallX.perm [1, 0, 2] [1, 0, 2] (CallX.box 2 36 [AI n_23, LI xs_24, LI vs_25] (CallX.box 1 36 [AI 0, .nil, .nil] (anyX_c_r2 c p1_26 h1_27 20 6 true 36 3 1 [AI 0, .nil, .nil] 36 3 1 [AI n_23, LI xs_24, LI vs_25] hc (by omega)) (by kernel_rfl) (by kernel_rfl) (by kernel_rfl) (by kernel_rfl) (by rintro _ _ ⟨_, _, _, _, rfl, rfl⟩; exact ⟨by kernel_rfl, by kernel_rfl, by kernel_rfl⟩)) (by kernel_rfl) (by kernel_rfl) (by kernel_rfl) (by kernel_rfl) (by rintro _ _ ⟨_, ⟨_, _, _, _, rfl, rfl⟩, rfl⟩; exact ⟨by kernel_rfl, by kernel_rfl, by kernel_rfl⟩)) (by kernel_rfl) (by kernel_rfl) (by kernel_rfl) (by rintro _ _ ⟨_, ⟨_, ⟨_, _, _, _, rfl, rfl⟩, rfl⟩, rfl⟩; exact Nat.le_of_ble_eq_true (by kernel_rfl))) (Nat.le_of_ble_eq_true (by kernel_rfl)) (by kernel_rfl) (by kernel_rfl) (by rintro _ _ ⟨_, _, ⟨_, ⟨_, ⟨_, _, _, _, rfl, rfl⟩, rfl⟩, rfl⟩, rfl, rfl⟩; exact Nat.le_of_ble_eq_true (by kernel_rfl))) (Nat.le_of_ble_eq_true (by kernel_rfl)) (by kernel_rfl) (by kernel_rfl) (by rintro _ _ ⟨_, _, ⟨_, _, ⟨_, ⟨_, ⟨_, _, _, _, rfl, rfl⟩, rfl⟩, rfl⟩, rfl, rfl⟩, rfl, rfl⟩; exact Nat.le_of_ble_eq_true (by kernel_rfl))) (by kernel_rfl) (by kernel_rfl) (by kernel_rfl) ?_
      rintro _ _ ⟨_, _, ⟨_, _, ⟨_, _, ⟨_, ⟨_, ⟨r_34, p1_35, h1_36, f37, rfl, rfl⟩, rfl⟩, rfl⟩, rfl, rfl⟩, rfl, rfl⟩, rfl, rfl⟩
      refine R.go 1 (R.any1 0 (by kernel_rfl) (by kernel_rfl) ?_)
      refine R.go 2 (R.any1 3 (by kernel_rfl) (by kernel_rfl) ?_)
      refine R.go 2 (R.any1 4 (by kernel_rfl) (by kernel_rfl) ?_)
      refine R.go 2 (R.any0 (by kernel_rfl) ?_)
      exact R.retX (res := .tup [.agg [AI n_23, LI xs_24, LI vs_25], LN r_34]) (hp' := [.dead, .box 36 [AI n_23, LI xs_24, LI vs_25], .frame [] [], .box 106 [LB c, AI (p1_35 : Int), .int .u64 h1_36], .box 36 [AI n_23, LI xs_24, LI vs_25]]) (by kernel_rfl) (by kernel_rfl) (by kernel_rfl) (by kernel_rfl) ⟨[], by kernel_rfl, by decide, n_23, xs_24, vs_25, r_34, by first | assumption | omega, by first | assumption | omega, by first | assumption | omega, by kernel_rfl, by kernel_rfl⟩

theorem drPart_c (c : List Int) (hc : BY c) : CallX Try.prog 26 [LB c] [] (fun (resX : AV) (objX : List AObj) => ∃ n : Int, ∃ xs : List Int, ∃ vs : List Int, ∃ k : Int, (xs.length ≤ 1000) ∧ (vs.length ≤ 6) ∧ resX = .tup [.agg [AI n, LI xs, LI vs], AI k] ∧ objX = []) := by
  have hcl : c.length ≤ 4096 := hc.1
  have hcb := hc.2
  refine CallX.dropE (CallX.ofF Try.func26 rfl (by kernel_rfl) ?_)
  intro usC frC hfC
  refine R.go 8 (R.enter (avs := [LB c]) Try.func40 rfl (by kernel_rfl) (by kernel_rfl) (by kernel_rfl) ?_)
  intro us1
  refine R.go 9 (R.cv .u64 (c.length : Int) (by kernel_rfl) (u64_id (by omega) (by omega)) (by kernel_rfl) ?_)
  refine R.go 11 (R.loop ((fun | (i, hh) => (⟨(frm 38 [(0, LB c), (3, .ptr 3 0), (4, AI (i : Int))]), [.frame usC frC, .box 36 [AI 0, .nil, .nil], .frame us1 (frm 15 [(0, LB c), (2, .ptr 1 0), (3, AI 0), (6, LB c)]), .box 106 [LB c, AI 0, .int .u64 hh]]⟩ : St) : Nat × Int → St)) (fun | (i, hh) => i ≤ c.length) (fun | (i, hh) => c.length - i) (0, (IntKind.u64.wrap (7129 + (c.length : Int)))) [0, 3, 4] none (by kernel_rfl) (by kernel_rfl) (by kernel_rfl) (by omega) ?_)
  rintro ⟨i, hh⟩ h5_1 R2 N3
  refine R.go 8 ?_
  by_cases c6 : (i : Int) < (c.length : Int)
  · refine R.want (decide ((i : Int) < (c.length : Int))) true (by kernel_rfl) (dT c6) ?_
    refine R.go 1 (R.want (decide ((i : Int) < (c.length : Int))) true (by kernel_rfl) (dT c6) ?_)
    refine R.go 1 (R.pick (decide ((i : Int) < (c.length : Int))) true (by kernel_rfl) (dT c6) (by kernel_rfl) ?_)
    refine R.go 1 (R.cond ((i : Int) < 4096) (by kernel_rfl) (fun c7 => ?_) (fun c7 => ?_))
    · have hbi := hcb i (by omega)
      refine R.go 12 (R.idx eB c 0 i (i : Int) (by kernel_rfl) rfl eB_len (by omega) (by kernel_rfl) ?_)
      refine R.go 1 (R.cv .u64 (c.getD i 0) (by kernel_rfl) (u64_id (by omega) (by omega)) (by kernel_rfl) ?_)
      refine R.go 9 (R.ar ((i : Int) + 1) (by kernel_rfl) (by omega) (by omega) (by kernel_rfl) ?_)
      exact R.go 2 (R.stop R2 (by kernel_rfl) (N3 (i + 1, IntKind.u64.wrap ((IntKind.u64.wrap ((IntKind.u64.wrap (hh * 1099511628211)) + (c.getD i 0))) + 11)) [0, 3, 4] none _ (by kernel_rfl) (by kernel_rfl) (by omega) (by show (c.length - (i + 1)) < (c.length - i); omega)))
    · refine R.go 6 (R.back (.ptr 3 0) (frm 15 [(0, LB c), (2, .ptr 1 0), (3, AI 0), (6, LB c)]) (by kernel_rfl) (by kernel_rfl) (by kernel_rfl) ?_)
      refine R.go 5 (R.deadF 2 (by kernel_rfl) (by kernel_rfl) ?_)
      refine R.callX (CallX.inF 0 usC frC (CallX.inF 1 [] [] (CallX.perm [1, 0] [1, 0] (CallX.box 1 36 [AI 0, .nil, .nil] (modelX_c_r1 c 0 hh 8 36 3 1 [AI 0, .nil, .nil] hc (by omega)) (by kernel_rfl) (by kernel_rfl) (by kernel_rfl) (by kernel_rfl) (by rintro _ _ ⟨_, _, _, _, _, _, _, rfl, rfl⟩; exact ⟨by kernel_rfl, by kernel_rfl, by kernel_rfl⟩)) (by kernel_rfl) (by kernel_rfl) (by kernel_rfl) (by rintro _ _ ⟨_, ⟨_, _, _, _, _, _, _, rfl, rfl⟩, rfl⟩; exact Nat.le_of_ble_eq_true (by kernel_rfl))) (Nat.le_of_ble_eq_true (by kernel_rfl)) (by kernel_rfl) (by kernel_rfl) (by rintro _ _ ⟨_, _, ⟨_, ⟨_, _, _, _, _, _, _, rfl, rfl⟩, rfl⟩, rfl, rfl⟩; exact Nat.le_of_ble_eq_true (by kernel_rfl))) (Nat.le_of_ble_eq_true (by kernel_rfl)) (by kernel_rfl) (by kernel_rfl) (by rintro _ _ ⟨_, _, ⟨_, _, ⟨_, ⟨_, _, _, _, _, _, _, rfl, rfl⟩, rfl⟩, rfl, rfl⟩, rfl, rfl⟩; exact Nat.le_of_ble_eq_true (by kernel_rfl))) (by kernel_rfl) (by kernel_rfl) (by kernel_rfl) ?_
      rintro _ _ ⟨_, _, ⟨_, _, ⟨_, _, ⟨_, ⟨n_8, xs_9, vs_10, p1_11, h1_12, f13, f14, rfl, rfl⟩, rfl⟩, rfl, rfl⟩, rfl, rfl⟩, rfl, rfl⟩
      refine R.go 4 (R.any (by decide +kernel) (by kernel_rfl) ?_)
      refine R.anyF 1 (by kernel_rfl) (np_retX _ _ _ _ _ _) ?_
      refine R.anyA 2 (.ptr 4 0) (by kernel_rfl) (np_retX _ _ _ _ _ _) ?_
      refine R.any2 0 3 (by kernel_rfl) (by kernel_rfl) ?_ ?_
      · refine R.go 2 (R.any1 3 (by kernel_rfl) (by kernel_rfl) ?_)
        refine R.go 2 (R.any1 4 (by kernel_rfl) (by kernel_rfl) ?_)
        refine R.callX (CallX.inF 0 usC frC (CallX.inF 1 [] [] (CallX.perm [1, 0, 2] [1, 0, 2] (CallX.box 2 36 [AI n_8, LI xs_9, LI vs_10] (CallX.box 1 36 [AI 0, .nil, .nil] (maskX_c_r2 c p1_11 h1_12 n_8 xs_9 36 3 1 [AI 0, .nil, .nil] 36 3 1 [AI n_8, LI xs_9, LI vs_10] hc (by omega)) (by kernel_rfl) (by kernel_rfl) (by kernel_rfl) (by kernel_rfl) (by rintro _ _ ⟨_, _, _, rfl, rfl⟩; exact ⟨by kernel_rfl, by kernel_rfl, by kernel_rfl⟩)) (by kernel_rfl) (by kernel_rfl) (by kernel_rfl) (by kernel_rfl) (by rintro _ _ ⟨_, ⟨_, _, _, rfl, rfl⟩, rfl⟩; exact ⟨by kernel_rfl, by kernel_rfl, by kernel_rfl⟩)) (by kernel_rfl) (by kernel_rfl) (by kernel_rfl) (by rintro _ _ ⟨_, ⟨_, ⟨_, _, _, rfl, rfl⟩, rfl⟩, rfl⟩; exact Nat.le_of_ble_eq_true (by kernel_rfl))) (Nat.le_of_ble_eq_true (by kernel_rfl)) (by kernel_rfl) (by kernel_rfl) (by rintro _ _ ⟨_, _, ⟨_, ⟨_, ⟨_, _, _, rfl, rfl⟩, rfl⟩, rfl⟩, rfl, rfl⟩; exact Nat.le_of_ble_eq_true (by kernel_rfl))) (Nat.le_of_ble_eq_true (by kernel_rfl)) (by kernel_rfl) (by kernel_rfl) (by rintro _ _ ⟨_, _, ⟨_, _, ⟨_, ⟨_, ⟨_, _, _, rfl, rfl⟩, rfl⟩, rfl⟩, rfl, rfl⟩, rfl, rfl⟩; exact Nat.le_of_ble_eq_true (by kernel_rfl))) (by kernel_rfl) (by kernel_rfl) (by kernel_rfl) ?_
        rintro _ _ ⟨_, _, ⟨_, _, ⟨_, _, ⟨_, ⟨_, ⟨v_15, p1_16, h1_17, rfl, rfl⟩, rfl⟩, rfl⟩, rfl, rfl⟩, rfl, rfl⟩, rfl, rfl⟩
        refine R.go 1 (R.any1 5 (by kernel_rfl) (by kernel_rfl) ?_)
        refine R.go 2 (R.any1 6 (by kernel_rfl) (by kernel_rfl) ?_)
        refine R.go 2 (R.any0 (by kernel_rfl) ?_)
        exact R.retX (res := .tup [.agg [AI n_8, LI xs_9, LI vs_10], AI v_15]) (hp' := [.dead, .box 36 [AI n_8, LI xs_9, LI vs_10], .frame [] [], .box 106 [LB c, AI (p1_16 : Int), .int .u64 h1_17], .box 36 [AI n_8, LI xs_9, LI vs_10]]) (by kernel_rfl) (by kernel_rfl) (by kernel_rfl) (by kernel_rfl) ⟨[], by kernel_rfl, by decide, n_8, xs_9, vs_10, v_15, by first | assumption | omega, by first | assumption | omega, by kernel_rfl, by kernel_rfl⟩
      · refine R.go 2 (R.any2 0 4 (by kernel_rfl) (by kernel_rfl) ?_ ?_)
        · refine R.go 2 (R.any1 4 (by kernel_rfl) (by kernel_rfl) ?_)
          refine R.callX (CallX.inF 0 usC frC (CallX.inF 1 [] [] (CallX.perm [1, 0, 2] [1, 0, 2] (CallX.box 2 36 [AI n_8, LI xs_9, LI vs_10] (CallX.box 1 36 [AI 0, .nil, .nil] (maskX_c_r2 c p1_11 h1_12 n_8 xs_9 36 3 1 [AI 0, .nil, .nil] 36 3 1 [AI n_8, LI xs_9, LI vs_10] hc (by omega)) (by kernel_rfl) (by kernel_rfl) (by kernel_rfl) (by kernel_rfl) (by rintro _ _ ⟨_, _, _, rfl, rfl⟩; exact ⟨by kernel_rfl, by kernel_rfl, by kernel_rfl⟩)) (by kernel_rfl) (by kernel_rfl) (by kernel_rfl) (by kernel_rfl) (by rintro _ _ ⟨_, ⟨_, _, _, rfl, rfl⟩, rfl⟩; exact ⟨by kernel_rfl, by kernel_rfl, by kernel_rfl⟩)) (by kernel_rfl) (by kernel_rfl) (by kernel_rfl) (by rintro _ _ ⟨_, ⟨_, ⟨_, _, _, rfl, rfl⟩, rfl⟩, rfl⟩; exact Nat.le_of_ble_eq_true (by kernel_rfl))) (Nat.le_of_ble_eq_true (by kernel_rfl)) (by kernel_rfl) (by kernel_rfl) (by rintro _ _ ⟨_, _, ⟨_, ⟨_, ⟨_, _, _, rfl, rfl⟩, rfl⟩, rfl⟩, rfl, rfl⟩; exact Nat.le_of_ble_eq_true (by kernel_rfl))) (Nat.le_of_ble_eq_true (by kernel_rfl)) (by kernel_rfl) (by kernel_rfl) (by rintro _ _ ⟨_, _, ⟨_, _, ⟨_, ⟨_, ⟨_, _, _, rfl, rfl⟩, rfl⟩, rfl⟩, rfl, rfl⟩, rfl, rfl⟩; exact Nat.le_of_ble_eq_true (by kernel_rfl))) (by kernel_rfl) (by kernel_rfl) (by kernel_rfl) ?_
          rintro _ _ ⟨_, _, ⟨_, _, ⟨_, _, ⟨_, ⟨_, ⟨v_18, p1_19, h1_20, rfl, rfl⟩, rfl⟩, rfl⟩, rfl, rfl⟩, rfl, rfl⟩, rfl, rfl⟩
          refine R.go 1 (R.any1 5 (by kernel_rfl) (by kernel_rfl) ?_)
          refine R.go 2 (R.any1 6 (by kernel_rfl) (by kernel_rfl) ?_)
          refine R.go 2 (R.any0 (by kernel_rfl) ?_)
          exact R.retX (res := .tup [.agg [AI n_8, LI xs_9, LI vs_10], AI v_18]) (hp' := [.dead, .box 36 [AI n_8, LI xs_9, LI vs_10], .frame [] [], .box 106 [LB c, AI (p1_19 : Int), .int .u64 h1_20], .box 36 [AI n_8, LI xs_9, LI vs_10]]) (by kernel_rfl) (by kernel_rfl) (by kernel_rfl) (by kernel_rfl) ⟨[], by kernel_rfl, by decide, n_8, xs_9, vs_10, v_18, by first | assumption | omega, by first | assumption | omega, by kernel_rfl, by kernel_rfl⟩
        · refine R.callX (CallX.inF 0 usC frC (CallX.inF 1 [] [] (CallX.perm [1, 0, 2] [1, 0, 2] (CallX.box 2 36 [AI n_8, LI xs_9, LI vs_10] (CallX.box 1 36 [AI 0, .nil, .nil] (maskX_c_r2 c p1_11 h1_12 n_8 xs_9 36 3 1 [AI 0, .nil, .nil] 36 3 1 [AI n_8, LI xs_9, LI vs_10] hc (by omega)) (by kernel_rfl) (by kernel_rfl) (by kernel_rfl) (by kernel_rfl) (by rintro _ _ ⟨_, _, _, rfl, rfl⟩; exact ⟨by kernel_rfl, by kernel_rfl, by kernel_rfl⟩)) (by kernel_rfl) (by kernel_rfl) (by kernel_rfl) (by kernel_rfl) (by rintro _ _ ⟨_, ⟨_, _, _, rfl, rfl⟩, rfl⟩; exact ⟨by kernel_rfl, by kernel_rfl, by kernel_rfl⟩)) (by kernel_rfl) (by kernel_rfl) (by kernel_rfl) (by rintro _ _ ⟨_, ⟨_, ⟨_, _, _, rfl, rfl⟩, rfl⟩, rfl⟩; exact Nat.le_of_ble_eq_true (by kernel_rfl))) (Nat.le_of_ble_eq_true (by kernel_rfl)) (by kernel_rfl) (by kernel_rfl) (by rintro _ _ ⟨_, _, ⟨_, ⟨_, ⟨_, _, _, rfl, rfl⟩, rfl⟩, rfl⟩, rfl, rfl⟩; exact Nat.le_of_ble_eq_true (by kernel_rfl))) (Nat.le_of_ble_eq_true (by kernel_rfl)) (by kernel_rfl) (by kernel_rfl) (by rintro _ _ ⟨_, _, ⟨_, _, ⟨_, ⟨_, ⟨_, _, _, rfl, rfl⟩, rfl⟩, rfl⟩, rfl, rfl⟩, rfl, rfl⟩; exact Nat.le_of_ble_eq_true (by kernel_rfl))) (by kernel_rfl) (by kernel_rfl) (by kernel_rfl) ?_
          rintro _ _ ⟨_, _, ⟨_, _, ⟨_, _, ⟨_, ⟨_, ⟨v_21, p1_22, h1_23, rfl, rfl⟩, rfl⟩, rfl⟩, rfl, rfl⟩, rfl, rfl⟩, rfl, rfl⟩
          refine R.go 1 (R.any1 0 (by kernel_rfl) (by kernel_rfl) ?_)
          refine R.go 2 (R.any1 5 (by kernel_rfl) (by kernel_rfl) ?_)
          refine R.go 2 (R.any1 6 (by kernel_rfl) (by kernel_rfl) ?_)
          refine R.go 2 (R.any0 (by kernel_rfl) ?_)
          exact R.retX (res := .tup [.agg [AI n_8, LI xs_9, LI vs_10], AI v_21]) (hp' := [.dead, .box 36 [AI n_8, LI xs_9, LI vs_10], .frame [] [], .box 106 [LB c, AI (p1_22 : Int), .int .u64 h1_23], .box 36 [AI n_8, LI xs_9, LI vs_10]]) (by kernel_rfl) (by kernel_rfl) (by kernel_rfl) (by kernel_rfl) ⟨[], by kernel_rfl, by decide, n_8, xs_9, vs_10, v_21, by first | assumption | omega, by first | assumption | omega, by kernel_rfl, by kernel_rfl⟩
  · refine R.skp (decide ((i : Int) < (c.length : Int))) true (by kernel_rfl) (dF c6) (by kernel_rfl) ?_
    refine R.skp (decide ((i : Int) < (c.length : Int))) true (by kernel_rfl) (dF c6) (by kernel_rfl) ?_
    refine R.pick (decide ((i : Int) < (c.length : Int))) false (by kernel_rfl) (dF c6) (by kernel_rfl) ?_
    refine R.go 8 (R.back (.ptr 3 0) (frm 15 [(0, LB c), (2, .ptr 1 0), (3, AI 0), (6, LB c)]) (by kernel_rfl) (by kernel_rfl) (by kernel_rfl) ?_)
    refine R.go 5 (R.deadF 2 (by kernel_rfl) (by kernel_rfl) ?_)
    refine R.callX (CallX.inF 0 usC frC (CallX.inF 1 [] [] (CallX.perm [1, 0] [1, 0] (CallX.box 1 36 [AI 0, .nil, .nil] (modelX_c_r1 c 0 hh 8 36 3 1 [AI 0, .nil, .nil] hc (by omega)) (by kernel_rfl) (by kernel_rfl) (by kernel_rfl) (by kernel_rfl) (by rintro _ _ ⟨_, _, _, _, _, _, _, rfl, rfl⟩; exact ⟨by kernel_rfl, by kernel_rfl, by kernel_rfl⟩)) (by kernel_rfl) (by kernel_rfl) (by kernel_rfl) (by rintro _ _ ⟨_, ⟨_, _, _, _, _, _, _, rfl, rfl⟩, rfl⟩; exact Nat.le_of_ble_eq_true (by kernel_rfl))) (Nat.le_of_ble_eq_true (by kernel_rfl)) (by kernel_rfl) (by kernel_rfl) (by rintro _ _ ⟨_, _, ⟨_, ⟨_, _, _, _, _, _, _, rfl, rfl⟩, rfl⟩, rfl, rfl⟩; exact Nat.le_of_ble_eq_true (by kernel_rfl))) (Nat.le_of_ble_eq_true (by kernel_rfl)) (by kernel_rfl) (by kernel_rfl) (by rintro _ _ ⟨_, _, ⟨_, _, ⟨_, ⟨_, _, _, _, _, _, _, rfl, rfl⟩, rfl⟩, rfl, rfl⟩, rfl, rfl⟩; exact Nat.le_of_ble_eq_true (by kernel_rfl))) (by kernel_rfl) (by kernel_rfl) (by kernel_rfl) ?_
    rintro _ _ ⟨_, _, ⟨_, _, ⟨_, _, ⟨_, ⟨n_24, xs_25, vs_26, p1_27, h1_28, f29, f30, rfl, rfl⟩, rfl⟩, rfl, rfl⟩, rfl, rfl⟩, rfl, rfl⟩
    refine R.go 4 (R.any (by decide +kernel) (by kernel_rfl) ?_)
    refine R.anyF 1 (by kernel_rfl) (np_retX _ _ _ _ _ _) ?_
    refine R.anyA 2 (.ptr 4 0) (by kernel_rfl) (np_retX _ _ _ _ _ _) ?_
    refine R.any2 0 3 (by kernel_rfl) (by kernel_rfl) ?_ ?_
    · refine R.go 2 (R.any1 3 (by kernel_rfl) (by kernel_rfl) ?_)
      refine R.go 2 (R.any1 4 (by kernel_rfl) (by kernel_rfl) ?_)
      refine R.callX (CallX.inF 0 usC frC (CallX.inF 1 [] [] (CallX.perm [1, 0, 2] [1, 0, 2] (CallX.box 2 36 [AI n_24, LI xs_25, LI vs_26] (CallX.box 1 36 [AI 0, .nil, .nil] (maskX_c_r2 c p1_27 h1_28 n_24 xs_25 36 3 1 [AI 0, .nil, .nil] 36 3 1 [AI n_24, LI xs_25, LI vs_26] hc (by omega)) (by kernel_rfl) (by kernel_rfl) (by kernel_rfl) (by kernel_rfl) (by rintro _ _ ⟨_, _, _, rfl, rfl⟩; exact ⟨by kernel_rfl, by kernel_rfl, by kernel_rfl⟩)) (by kernel_rfl) (by kernel_rfl) (by kernel_rfl) (by kernel_rfl) (by rintro _ _ ⟨_, ⟨_, _, _, rfl, rfl⟩, rfl⟩; exact ⟨by kernel_rfl, by kernel_rfl, by kernel_rfl⟩)) (by kernel_rfl) (by kernel_rfl) (by kernel_rfl) (by rintro _ _ ⟨_, ⟨_, ⟨_, _, _, rfl, rfl⟩, rfl⟩, rfl⟩; exact Nat.le_of_ble_eq_true (by kernel_rfl))) (Nat.le_of_ble_eq_true (by kernel_rfl)) (by kernel_rfl) (by kernel_rfl) (by rintro _ _ ⟨_, _, ⟨_, ⟨_, ⟨_, _, _, rfl, rfl⟩, rfl⟩, rfl⟩, rfl, rfl⟩; exact Nat.le_of_ble_eq_true (by kernel_rfl))) (Nat.le_of_ble_eq_true (by kernel_rfl)) (by kernel_rfl) (by kernel_rfl) (by rintro _ _ ⟨_, _, ⟨_, _, ⟨_, ⟨_, ⟨_, _, _, rfl, rfl⟩, rfl⟩, rfl⟩, rfl, rfl⟩, rfl, rfl⟩; exact Nat.le_of_ble_eq_true (by kernel_rfl))) (by kernel_rfl) (by kernel_rfl) (by kernel_rfl) ?_
      rintro _ _ ⟨_, _, ⟨_, _, ⟨_, _, ⟨_, ⟨_, ⟨v_31, p1_32, h1_33, rfl, rfl⟩, rfl⟩, rfl⟩, rfl, rfl⟩, rfl, rfl⟩, rfl, rfl⟩
      refine R.go 1 (R.any1 5 (by kernel_rfl) (by kernel_rfl) ?_)
      refine R.go 2 (R.any1 6 (by kernel_rfl) (by kernel_rfl) ?_)
      refine R.go 2 (R.any0 (by kernel_rfl) ?_)
      exact R.retX (res := .tup [.agg [AI n_24, LI xs_25, LI vs_26], AI v_31]) (hp' := [.dead, .box 36 [AI n_24, LI xs_25, LI vs_26], .frame [] [], .box 106 [LB c, AI (p1_32 : Int), .int .u64 h1_33], .box 36 [AI n_24, LI xs_25, LI vs_26]]) (by kernel_rfl) (by kernel_rfl) (by kernel_rfl) (by kernel_rfl) ⟨[], by kernel_rfl, by decide, n_24, xs_25, vs_26, v_31, by first | assumption | omega, by first | assumption | omega, by kernel_rfl, by kernel_rfl⟩
    · refine R.go 2 (R.any2 0 4 (by kernel_rfl) (by kernel_rfl) ?_ ?_)
      · refine R.go 2 (R.any1 4 (by kernel_rfl) (by kernel_rfl) ?_)
        refine R.callX (CallX.inF 0 usC frC (CallX.inF 1 [] [] (CallX.perm [1, 0, 2] [1, 0, 2] (CallX.box 2 36 [AI n_24, LI xs_25, LI vs_26] (CallX.box 1 36 [AI 0, .nil, .nil] (maskX_c_r2 c p1_27 h1_28 n_24 xs_25 36 3 1 [AI 0, .nil, .nil] 36 3 1 [AI n_24, LI xs_25, LI vs_26] hc (by omega)) (by kernel_rfl) (by kernel_rfl) (by kernel_rfl) (by kernel_rfl) (by rintro _ _ ⟨_, _, _, rfl, rfl⟩; exact ⟨by kernel_rfl, by kernel_rfl, by kernel_rfl⟩)) (by kernel_rfl) (by kernel_rfl) (by kernel_rfl) (by kernel_rfl) (by rintro _ _ ⟨_, ⟨_, _, _, rfl, rfl⟩, rfl⟩; exact ⟨by kernel_rfl, by kernel_rfl, by kernel_rfl⟩)) (by kernel_rfl) (by kernel_rfl) (by kernel_rfl) (by rintro _ _ ⟨_, ⟨_, ⟨_, _, _, rfl, rfl⟩, rfl⟩, rfl⟩; exact Nat.le_of_ble_eq_true (by kernel_rfl))) (Nat.le_of_ble_eq_true (by kernel_rfl)) (by kernel_rfl) (by kernel_rfl) (by rintro _ _ ⟨_, _, ⟨_, ⟨_, ⟨_, _, _, rfl, rfl⟩, rfl⟩, rfl⟩, rfl, rfl⟩; exact Nat.le_of_ble_eq_true (by kernel_rfl))) (Nat.le_of_ble_eq_true (by kernel_rfl)) (by kernel_rfl) (by kernel_rfl) (by rintro _ _ ⟨_, _, ⟨_, _, ⟨_, ⟨_, ⟨_, _, _, rfl, rfl⟩, rfl⟩, rfl⟩, rfl, rfl⟩, rfl, rfl⟩; exact Nat.le_of_ble_eq_true (by kernel_rfl))) (by kernel_rfl) (by kernel_rfl) (by kernel_rfl) ?_
        rintro _ _ ⟨_, _, ⟨_, _, ⟨_, _, ⟨_, ⟨_, ⟨v_34, p1_35, h1_36, rfl, rfl⟩, rfl⟩, rfl⟩, rfl, rfl⟩, rfl, rfl⟩, rfl, rfl⟩
        refine R.go 1 (R.any1 5 (by kernel_rfl) (by kernel_rfl) ?_)
        refine R.go 2 (R.any1 6 (by kernel_rfl) (by kernel_rfl) ?_)
        refine R.go 2 (R.any0 (by kernel_rfl) ?_)
        exact R.retX (res := .tup [.agg [AI n_24, LI xs_25, LI vs_26], AI v_34]) (hp' := [.dead, .box 36 [AI n_24, LI xs_25, LI vs_26], .frame [] [], .box 106 [LB c, AI (p1_35 : Int), .int .u64 h1_36], .box 36 [AI n_24, LI xs_25, LI vs_26]]) (by kernel_rfl) (by kernel_rfl) (by kernel_rfl) (by kernel_rfl) ⟨[], by kernel_rfl, by decide, n_24, xs_25, vs_26, v_34, by first | assumption | omega, by first | assumption | omega, by kernel_rfl, by kernel_rfl⟩
      · refine R.callX (CallX.inF 0 usC frC (CallX.inF 1 [] [] (CallX.perm [1, 0, 2] [1, 0, 2] (CallX.box 2 36 [AI n_24, LI xs_25, LI vs_26] (CallX.box 1 36 [AI 0, .nil, .nil] (maskX_c_r2 c p1_27 h1_28 n_24 xs_25 36 3 1 [AI 0, .nil, .nil] 36 3 1 [AI n_24, LI xs_25, LI vs_26] hc (by omega)) (by kernel_rfl) (by kernel_rfl) (by kernel_rfl) (by kernel_rfl) (by rintro _ _ ⟨_, _, _, rfl, rfl⟩; exact ⟨by kernel_rfl, by kernel_rfl, by kernel_rfl⟩)) (by kernel_rfl) (by kernel_rfl) (by kernel_rfl) (by kernel_rfl) (by rintro _ _ ⟨_, ⟨_, _, _, rfl, rfl⟩, rfl⟩; exact ⟨by kernel_rfl, by kernel_rfl, by kernel_rfl⟩)) (by kernel_rfl) (by kernel_rfl) (by kernel_rfl) (by rintro _ _ ⟨_, ⟨_, ⟨_, _, _, rfl, rfl⟩, rfl⟩, rfl⟩; exact Nat.le_of_ble_eq_true (by kernel_rfl))) (Nat.le_of_ble_eq_true (by kernel_rfl)) (by kernel_rfl) (by kernel_rfl) (by rintro _ _ ⟨_, _, ⟨_, ⟨_, ⟨_, _, _, rfl, rfl⟩, rfl⟩, rfl⟩, rfl, rfl⟩; exact Nat.le_of_ble_eq_true (by kernel_rfl))) (Nat.le_of_ble_eq_true (by kernel_rfl)) (by kernel_rfl) (by kernel_rfl) (by rintro _ _ ⟨_, _, ⟨_, _, ⟨_, ⟨_, ⟨_, _, _, rfl, rfl⟩, rfl⟩, rfl⟩, rfl, rfl⟩, rfl, rfl⟩; exact Nat.le_of_ble_eq_true (by kernel_rfl))) (by kernel_rfl) (by kernel_rfl) (by kernel_rfl) ?_
        rintro _ _ ⟨_, _, ⟨_, _, ⟨_, _, ⟨_, ⟨_, ⟨v_37, p1_38, h1_39, rfl, rfl⟩, rfl⟩, rfl⟩, rfl, rfl⟩, rfl, rfl⟩, rfl, rfl⟩
        refine R.go 1 (R.any1 0 (by kernel_rfl) (by kernel_rfl) ?_)
        refine R.go 2 (R.any1 5 (by kernel_rfl) (by kernel_rfl) ?_)
        refine R.go 2 (R.any1 6 (by kernel_rfl) (by kernel_rfl) ?_)
        refine R.go 2 (R.any0 (by kernel_rfl) ?_)
        exact R.retX (res := .tup [.agg [AI n_24, LI xs_25, LI vs_26], AI v_37]) (hp' := [.dead, .box 36 [AI n_24, LI xs_25, LI vs_26], .frame [] [], .box 106 [LB c, AI (p1_38 : Int), .int .u64 h1_39], .box 36 [AI n_24, LI xs_25, LI vs_26]]) (by kernel_rfl) (by kernel_rfl) (by kernel_rfl) (by kernel_rfl) ⟨[], by kernel_rfl, by decide, n_24, xs_25, vs_26, v_37, by first | assumption | omega, by first | assumption | omega, by kernel_rfl, by kernel_rfl⟩

end Go.Proofs.Ytejaikeemahobaa


/-! Negation normal forms: the reference, the tops; models. -/
namespace Go.Proofs.Ytejaikeemahobaa
open Go.RowKit Go.Abs

section
variable {nv : Nat} {a : List (Int × Int)} {p : Bool}
end
theorem okMo_in {n : Int} {xs vs : List Int} (h : okMo n xs vs = true) : okFr n xs = true ∧ vs.length = 6 ∧ ∀ j : Nat, j < 6 → InM n.toNat (vs.getD j 0) := by
  obtain ⟨h1, h2⟩ := okMo_fr h
  obtain ⟨h0, h8, _, _⟩ := okFr_rel h1
  refine ⟨h1, h2, fun j hj => ?_⟩
  simp only [okMo, Bool.and_eq_true, Bool.not_eq_true'] at h
  have := h.2
  rw [List.any_eq_false] at this
  have hm : vs.getD j 0 ∈ vs := by
    rw [List.getD_eq_getElem?_getD, List.getElem?_eq_getElem (by omega)]
    exact List.getElem_mem _
  have := this _ hm
  simp only [Bool.not_eq_true', Bool.not_eq_false] at this
  refine (full_rng (n := n.toNat) (by omega)).2 ?_
  rw [nn_eq h0]
  exact this
end Go.Proofs.Ytejaikeemahobaa
