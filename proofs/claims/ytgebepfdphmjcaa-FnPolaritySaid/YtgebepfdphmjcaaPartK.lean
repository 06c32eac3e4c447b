/- Texts of the proof: E06, E08, Sym3, U04, Sym4, G01, Sym6. -/
import Derived.Laws.StructEq
import Derived.Test.YtgebepfdphmjcaaPartJ

/-! Draws of models. -/
namespace Go.Proofs.Ytgebepfdphmjcaa
open Go.RowKit Go.Abs

theorem someM_c_r2 (c : List Int) (p : Nat) (h : Int) (worlds : Int) (eo1 : Nat) (so1 : Nat) (no1 : Nat) (co1 : List AV) (eo2 : Nat) (so2 : Nat) (no2 : Nat) (co2 : List AV) (hc : BY c) (hw : 0 ≤ worlds ∧ worlds ≤ 20) : CallX Try.prog 96 [.ptr 0 0, AI worlds] [.box 112 [LB c, AI (p : Int), .int .u64 h], .list eo1 so1 no1 co1, .list eo2 so2 no2 co2] (fun (resX : AV) (objX : List AObj) => ∃ n : Int, ∃ xs : List Int, ∃ vs : List Int, ∃ p1 : Nat, ∃ h1 : Int, (0 ≤ n ∧ n ≤ worlds) ∧ ((xs.length : Int) = n) ∧ (vs.length = 6) ∧ resX = .agg [AI n, LI xs, .ref 3] ∧ objX = [.box 112 [LB c, AI (p1 : Int), .int .u64 h1], .list eo1 so1 no1 co1, .list eo2 so2 no2 co2, rowA eI 2 1 vs]) := by
  have hcl : c.length ≤ 4096 := hc.1
  have hcb := hc.2
  refine CallX.dropE (CallX.ofF Try.func96 rfl (by kernel_rfl) ?_)
  intro usC frC hfC
  refine R.go 8 (R.callX (CallX.inF 3 usC frC (CallX.box 3 28 [AI 0, .nil, .nil] (someX_c_r3 c p h worlds eo1 so1 no1 co1 eo2 so2 no2 co2 28 3 1 [AI 0, .nil, .nil] hc hw) (by kernel_rfl) (by kernel_rfl) (by kernel_rfl) (by kernel_rfl) (by rintro _ _ ⟨_, _, _, _, _, _, rfl, rfl⟩; exact ⟨by kernel_rfl, by kernel_rfl, by kernel_rfl⟩)) (Nat.le_of_ble_eq_true (by kernel_rfl)) (by kernel_rfl) (by kernel_rfl) (by rintro _ _ ⟨_, ⟨_, _, _, _, _, _, rfl, rfl⟩, rfl⟩; exact Nat.le_of_ble_eq_true (by kernel_rfl))) (by kernel_rfl) (by kernel_rfl) (by kernel_rfl) ?_)
  rintro _ _ ⟨_, _, ⟨_, ⟨n_1, xs_2, p1_3, h1_4, f5, f6, rfl, rfl⟩, rfl⟩, rfl, rfl⟩
  refine R.go 16 (R.nilB 6 2 2 1 (by kernel_rfl) ?_)
  refine R.loop ((fun | (i, us, q, k) => (⟨(frm 30 [(0, .ptr 0 0), (4, .ptr 4 0), (5, .ptr 5 0), (6, .ptr 6 0), (7, AI (i : Int))]), [.box 112 [LB c, AI (q : Int), .int .u64 k], .list eo1 so1 no1 co1, .list eo2 so2 no2 co2, .frame usC frC, .box 28 [AI 0, .nil, .nil], .box 26 [AI n_1, LI xs_2], .box 28 [AI n_1, LI xs_2, .ref 7], rowA eI 2 1 us]⟩ : St) : Nat × (List Int) × Nat × Int → St)) (fun | (i, us, q, k) => (i ≤ 6) ∧ (us.length = i)) (fun | (i, us, q, k) => 6 - i) (0, [], p1_3, h1_4) [0, 4, 5, 6, 7] none (by kernel_rfl) (by kernel_rfl) (by kernel_rfl) ⟨(by omega), (by rfl)⟩ ?_
  rintro ⟨i, us, q, k⟩ ⟨h10_1, h10_2⟩ R7 N8
  have hb : 1 ≤ shl64 1 n_1 ∧ shl64 1 n_1 ≤ 4611686018427387904 := shl_rng n_1 (by omega) (by omega)
  refine R.go 6 (R.cond ((i : Int) < 6) (by kernel_rfl) (fun c11 => ?_) (fun c11 => ?_))
  · refine R.go 3 (R.any (by decide +kernel) (by kernel_rfl) ?_)
    refine R.anyF 3 (by kernel_rfl) (np_retX _ _ _ _ _ _) ?_
    refine R.anyA 0 (.ptr 6 2) (by kernel_rfl) (np_retX _ _ _ _ _ _) ?_
    refine R.anyA 4 (.ptr 5 0) (by kernel_rfl) (np_retX _ _ _ _ _ _) ?_
    refine R.any2 1 5 (by kernel_rfl) (by kernel_rfl) ?_ ?_
    · refine R.go 2 (R.any2 2 5 (by kernel_rfl) (by kernel_rfl) ?_ ?_)
      · refine R.call false (l01Own_c us (by first | omega | (simp only [refI_len, wout_len]; omega) | (simp <;> omega))) (by kernel_rfl) (ownA_closed eI_closed 2 1 us) (by kernel_rfl) ?_
        refine R.go 1 (R.any1 5 (by kernel_rfl) (by kernel_rfl) ?_)
        refine R.go 2 (R.any1 6 (by kernel_rfl) (by kernel_rfl) ?_)
        refine R.call true (l01Full_c n_1 (by first | omega | (simp only [refI_len, wout_len]; omega) | (simp <;> omega)) (by first | omega | (simp only [refI_len, wout_len]; omega) | (simp <;> omega))) (by kernel_rfl) rfl (by kernel_rfl) ?_
        refine R.go 1 (R.anyI 7 (AI (IntKind.i64.wrap (((shl64 1 n_1) - 1) + 1))) (by kernel_rfl) (np_retX _ _ _ _ _ _) ?_)
        refine R.any1 8 (by kernel_rfl) (by kernel_rfl) ?_
        refine R.callX (CallX.inF 3 usC frC (CallX.box 4 26 [AI n_1, LI xs_2] (CallX.box 3 28 [AI 0, .nil, .nil] (nextX_c_rooooCoo c q k (IntKind.i64.wrap (((shl64 1 n_1) - 1) + 1)) eo1 so1 no1 co1 eo2 so2 no2 co2 28 3 1 [AI 0, .nil, .nil] 26 2 1 [AI n_1, LI xs_2] 28 n_1 xs_2 2 1 us.length (rows eI us) 2 1 us.length (rows eI us) hc) (by kernel_rfl) (by kernel_rfl) (by kernel_rfl) (by kernel_rfl) (by rintro _ _ ⟨_, _, _, _, rfl, rfl⟩; exact ⟨by kernel_rfl, by kernel_rfl, by kernel_rfl⟩)) (by kernel_rfl) (by kernel_rfl) (by kernel_rfl) (by kernel_rfl) (by rintro _ _ ⟨_, ⟨_, _, _, _, rfl, rfl⟩, rfl⟩; exact ⟨by kernel_rfl, by kernel_rfl, by kernel_rfl⟩)) (Nat.le_of_ble_eq_true (by kernel_rfl)) (by kernel_rfl) (by kernel_rfl) (by rintro _ _ ⟨_, ⟨_, ⟨_, _, _, _, rfl, rfl⟩, rfl⟩, rfl⟩; exact Nat.le_of_ble_eq_true (by kernel_rfl))) (by kernel_rfl) (by kernel_rfl) (by kernel_rfl) ?_
        rintro _ _ ⟨_, _, ⟨_, ⟨_, ⟨v_12, p1_13, h1_14, f15, rfl, rfl⟩, rfl⟩, rfl⟩, rfl, rfl⟩
        refine R.go 1 (R.any1 9 (by kernel_rfl) (by kernel_rfl) ?_)
        refine R.go 2 (R.any1 10 (by kernel_rfl) (by kernel_rfl) ?_)
        refine R.app eI us [v_12] 8 2 1 8 (by kernel_rfl) eI_one (by decide) (by first | omega | (simp <;> omega)) (by kernel_rfl) ?_
        refine R.kfix 3 (us := usC) (by kernel_rfl) (hfC.kill 8 (Nat.le_of_ble_eq_true (by kernel_rfl))) ?_
        refine R.go 1 (R.anyA 11 (.ptr 6 2) (by kernel_rfl) (np_retX _ _ _ _ _ _) ?_)
        refine R.any1 12 (by kernel_rfl) (by kernel_rfl) ?_
        refine R.go 2 (R.any0 (by kernel_rfl) ?_)
        refine R.go 3 (R.ar ((i : Int) + 1) (by kernel_rfl) (by omega) (by omega) (by kernel_rfl) ?_)
        exact R.go 2 (R.stop R7 (by kernel_rfl) (N8 (i + 1, us ++ [v_12], p1_13, h1_14) [0, 4, 5, 6, 7] (some [0, 1, 2, 3, 4, 5, 6, 8]) _ (by kernel_rfl) (canonF (fr := frC) (fun (frX : List AV) => (⟨(frm 30 [(0, .ptr 0 0), (4, .ptr 4 0), (5, .ptr 5 0), (6, .ptr 6 0), (7, AI ((i : Int) + 1))]), [.box 112 [LB c, AI (p1_13 : Int), .int .u64 h1_14], .list eo1 so1 no1 co1, .list eo2 so2 no2 co2, .frame usC frX, .box 28 [AI 0, .nil, .nil], .box 26 [AI n_1, LI xs_2], .box 28 [AI n_1, LI xs_2, .ref 7], rowA eI 2 1 (us ++ [v_12])]⟩ : St)) (hfC.ren _ (by kernel_rfl)) (by kernel_rfl) (by kernel_rfl)) ⟨(by omega), (by (simp <;> omega))⟩ (by show (6 - (i + 1)) < (6 - i); omega)))
      · refine R.go 2 (R.any1 2 (by kernel_rfl) (by kernel_rfl) ?_)
        refine R.call false (l01Own_c us (by first | omega | (simp only [refI_len, wout_len]; omega) | (simp <;> omega))) (by kernel_rfl) (ownA_closed eI_closed 2 1 us) (by kernel_rfl) ?_
        refine R.go 1 (R.any1 6 (by kernel_rfl) (by kernel_rfl) ?_)
        refine R.call true (l01Full_c n_1 (by first | omega | (simp only [refI_len, wout_len]; omega) | (simp <;> omega)) (by first | omega | (simp only [refI_len, wout_len]; omega) | (simp <;> omega))) (by kernel_rfl) rfl (by kernel_rfl) ?_
        refine R.go 1 (R.anyI 7 (AI (IntKind.i64.wrap (((shl64 1 n_1) - 1) + 1))) (by kernel_rfl) (np_retX _ _ _ _ _ _) ?_)
        refine R.any1 8 (by kernel_rfl) (by kernel_rfl) ?_
        refine R.callX (CallX.inF 3 usC frC (CallX.box 4 26 [AI n_1, LI xs_2] (CallX.box 3 28 [AI 0, .nil, .nil] (nextX_c_rooooCoo c q k (IntKind.i64.wrap (((shl64 1 n_1) - 1) + 1)) eo1 so1 no1 co1 eo2 so2 no2 co2 28 3 1 [AI 0, .nil, .nil] 26 2 1 [AI n_1, LI xs_2] 28 n_1 xs_2 2 1 us.length (rows eI us) 2 1 us.length (rows eI us) hc) (by kernel_rfl) (by kernel_rfl) (by kernel_rfl) (by kernel_rfl) (by rintro _ _ ⟨_, _, _, _, rfl, rfl⟩; exact ⟨by kernel_rfl, by kernel_rfl, by kernel_rfl⟩)) (by kernel_rfl) (by kernel_rfl) (by kernel_rfl) (by kernel_rfl) (by rintro _ _ ⟨_, ⟨_, _, _, _, rfl, rfl⟩, rfl⟩; exact ⟨by kernel_rfl, by kernel_rfl, by kernel_rfl⟩)) (Nat.le_of_ble_eq_true (by kernel_rfl)) (by kernel_rfl) (by kernel_rfl) (by rintro _ _ ⟨_, ⟨_, ⟨_, _, _, _, rfl, rfl⟩, rfl⟩, rfl⟩; exact Nat.le_of_ble_eq_true (by kernel_rfl))) (by kernel_rfl) (by kernel_rfl) (by kernel_rfl) ?_
        rintro _ _ ⟨_, _, ⟨_, ⟨_, ⟨v_16, p1_17, h1_18, f19, rfl, rfl⟩, rfl⟩, rfl⟩, rfl, rfl⟩
        refine R.go 1 (R.any1 9 (by kernel_rfl) (by kernel_rfl) ?_)
        refine R.go 2 (R.any1 10 (by kernel_rfl) (by kernel_rfl) ?_)
        refine R.app eI us [v_16] 8 2 1 8 (by kernel_rfl) eI_one (by decide) (by first | omega | (simp <;> omega)) (by kernel_rfl) ?_
        refine R.kfix 3 (us := usC) (by kernel_rfl) (hfC.kill 8 (Nat.le_of_ble_eq_true (by kernel_rfl))) ?_
        refine R.go 1 (R.anyA 11 (.ptr 6 2) (by kernel_rfl) (np_retX _ _ _ _ _ _) ?_)
        refine R.any1 12 (by kernel_rfl) (by kernel_rfl) ?_
        refine R.go 2 (R.any0 (by kernel_rfl) ?_)
        refine R.go 3 (R.ar ((i : Int) + 1) (by kernel_rfl) (by omega) (by omega) (by kernel_rfl) ?_)
        exact R.go 2 (R.stop R7 (by kernel_rfl) (N8 (i + 1, us ++ [v_16], p1_17, h1_18) [0, 4, 5, 6, 7] (some [0, 1, 2, 3, 4, 5, 6, 8]) _ (by kernel_rfl) (canonF (fr := frC) (fun (frX : List AV) => (⟨(frm 30 [(0, .ptr 0 0), (4, .ptr 4 0), (5, .ptr 5 0), (6, .ptr 6 0), (7, AI ((i : Int) + 1))]), [.box 112 [LB c, AI (p1_17 : Int), .int .u64 h1_18], .list eo1 so1 no1 co1, .list eo2 so2 no2 co2, .frame usC frX, .box 28 [AI 0, .nil, .nil], .box 26 [AI n_1, LI xs_2], .box 28 [AI n_1, LI xs_2, .ref 7], rowA eI 2 1 (us ++ [v_16])]⟩ : St)) (hfC.ren _ (by kernel_rfl)) (by kernel_rfl) (by kernel_rfl)) ⟨(by omega), (by (simp <;> omega))⟩ (by show (6 - (i + 1)) < (6 - i); omega)))
    · refine R.go 2 (R.any1 1 (by kernel_rfl) (by kernel_rfl) ?_)
      refine R.go 2 (R.any1 2 (by kernel_rfl) (by kernel_rfl) ?_)
      refine R.call false (l01Own_c us (by first | omega | (simp only [refI_len, wout_len]; omega) | (simp <;> omega))) (by kernel_rfl) (ownA_closed eI_closed 2 1 us) (by kernel_rfl) ?_
      refine R.go 1 (R.any1 6 (by kernel_rfl) (by kernel_rfl) ?_)
      refine R.call true (l01Full_c n_1 (by first | omega | (simp only [refI_len, wout_len]; omega) | (simp <;> omega)) (by first | omega | (simp only [refI_len, wout_len]; omega) | (simp <;> omega))) (by kernel_rfl) rfl (by kernel_rfl) ?_
      refine R.go 1 (R.anyI 7 (AI (IntKind.i64.wrap (((shl64 1 n_1) - 1) + 1))) (by kernel_rfl) (np_retX _ _ _ _ _ _) ?_)
      refine R.any1 8 (by kernel_rfl) (by kernel_rfl) ?_
      refine R.callX (CallX.inF 3 usC frC (CallX.box 4 26 [AI n_1, LI xs_2] (CallX.box 3 28 [AI 0, .nil, .nil] (nextX_c_rooooCoo c q k (IntKind.i64.wrap (((shl64 1 n_1) - 1) + 1)) eo1 so1 no1 co1 eo2 so2 no2 co2 28 3 1 [AI 0, .nil, .nil] 26 2 1 [AI n_1, LI xs_2] 28 n_1 xs_2 2 1 us.length (rows eI us) 2 1 us.length (rows eI us) hc) (by kernel_rfl) (by kernel_rfl) (by kernel_rfl) (by kernel_rfl) (by rintro _ _ ⟨_, _, _, _, rfl, rfl⟩; exact ⟨by kernel_rfl, by kernel_rfl, by kernel_rfl⟩)) (by kernel_rfl) (by kernel_rfl) (by kernel_rfl) (by kernel_rfl) (by rintro _ _ ⟨_, ⟨_, _, _, _, rfl, rfl⟩, rfl⟩; exact ⟨by kernel_rfl, by kernel_rfl, by kernel_rfl⟩)) (Nat.le_of_ble_eq_true (by kernel_rfl)) (by kernel_rfl) (by kernel_rfl) (by rintro _ _ ⟨_, ⟨_, ⟨_, _, _, _, rfl, rfl⟩, rfl⟩, rfl⟩; exact Nat.le_of_ble_eq_true (by kernel_rfl))) (by kernel_rfl) (by kernel_rfl) (by kernel_rfl) ?_
      rintro _ _ ⟨_, _, ⟨_, ⟨_, ⟨v_20, p1_21, h1_22, f23, rfl, rfl⟩, rfl⟩, rfl⟩, rfl, rfl⟩
      refine R.go 1 (R.any1 9 (by kernel_rfl) (by kernel_rfl) ?_)
      refine R.go 2 (R.any1 10 (by kernel_rfl) (by kernel_rfl) ?_)
      refine R.app eI us [v_20] 8 2 1 8 (by kernel_rfl) eI_one (by decide) (by first | omega | (simp <;> omega)) (by kernel_rfl) ?_
      refine R.kfix 3 (us := usC) (by kernel_rfl) (hfC.kill 8 (Nat.le_of_ble_eq_true (by kernel_rfl))) ?_
      refine R.go 1 (R.anyA 11 (.ptr 6 2) (by kernel_rfl) (np_retX _ _ _ _ _ _) ?_)
      refine R.any1 12 (by kernel_rfl) (by kernel_rfl) ?_
      refine R.go 2 (R.any0 (by kernel_rfl) ?_)
      refine R.go 3 (R.ar ((i : Int) + 1) (by kernel_rfl) (by omega) (by omega) (by kernel_rfl) ?_)
      exact R.go 2 (R.stop R7 (by kernel_rfl) (N8 (i + 1, us ++ [v_20], p1_21, h1_22) [0, 4, 5, 6, 7] (some [0, 1, 2, 3, 4, 5, 6, 8]) _ (by kernel_rfl) (canonF (fr := frC) (fun (frX : List AV) => (⟨(frm 30 [(0, .ptr 0 0), (4, .ptr 4 0), (5, .ptr 5 0), (6, .ptr 6 0), (7, AI ((i : Int) + 1))]), [.box 112 [LB c, AI (p1_21 : Int), .int .u64 h1_22], .list eo1 so1 no1 co1, .list eo2 so2 no2 co2, .frame usC frX, .box 28 [AI 0, .nil, .nil], .box 26 [AI n_1, LI xs_2], .box 28 [AI n_1, LI xs_2, .ref 7], rowA eI 2 1 (us ++ [v_20])]⟩ : St)) (hfC.ren _ (by kernel_rfl)) (by kernel_rfl) (by kernel_rfl)) ⟨(by omega), (by (simp <;> omega))⟩ (by show (6 - (i + 1)) < (6 - i); omega)))
  · exact R.go 6 (R.retX (res := .agg [AI n_1, LI xs_2, .ref 7]) (hp' := [.box 112 [LB c, AI (q : Int), .int .u64 k], .list eo1 so1 no1 co1, .list eo2 so2 no2 co2, .dead, .box 28 [AI n_1, LI xs_2, .ref 7], .box 26 [AI n_1, LI xs_2], .box 28 [AI n_1, LI xs_2, .ref 7], rowA eI 2 1 us]) (by kernel_rfl) (by kernel_rfl) (by kernel_rfl) (by kernel_rfl) ⟨[0, 1, 2, 7], by kernel_rfl, by decide, n_1, xs_2, us, q, k, by first | omega | (simp only [refI_len, wout_len]; done) | (simp only [refI_len, wout_len]; omega), by first | omega | (simp only [refI_len, wout_len]; done) | (simp only [refI_len, wout_len]; omega), by first | omega | (simp only [refI_len, wout_len]; done) | (simp only [refI_len, wout_len]; omega), by kernel_rfl, by kernel_rfl⟩)

theorem modelX_c_r1 (c : List Int) (p : Nat) (h : Int) (worlds : Int) (eo1 : Nat) (so1 : Nat) (no1 : Nat) (co1 : List AV) (hc : BY c) (hw : 0 ≤ worlds ∧ worlds ≤ 20) : CallX Try.prog 43 [.ptr 0 0, AI worlds] [.box 112 [LB c, AI (p : Int), .int .u64 h], .list eo1 so1 no1 co1] (fun (resX : AV) (objX : List AObj) => ∃ n : Int, ∃ xs : List Int, ∃ vs : List Int, ∃ p1 : Nat, ∃ h1 : Int, ((xs.length : Int) ≤ worlds + 1) ∧ (vs.length ≤ 6) ∧ resX = .agg [AI n, LI xs, LI vs] ∧ objX = [.box 112 [LB c, AI (p1 : Int), .int .u64 h1], .list eo1 so1 no1 co1]) := by
  have hcl : c.length ≤ 4096 := hc.1
  have hcb := hc.2
  refine CallX.dropE (CallX.ofF Try.func43 rfl (by kernel_rfl) ?_)
  intro usC frC hfC
  refine R.go 8 (R.callX (CallX.inF 2 usC frC (CallX.box 2 28 [AI 0, .nil, .nil] (someM_c_r2 c p h worlds eo1 so1 no1 co1 28 3 1 [AI 0, .nil, .nil] hc hw) (by kernel_rfl) (by kernel_rfl) (by kernel_rfl) (by kernel_rfl) (by rintro _ _ ⟨_, _, _, _, _, _, _, _, rfl, rfl⟩; exact ⟨by kernel_rfl, by kernel_rfl, by kernel_rfl⟩)) (Nat.le_of_ble_eq_true (by kernel_rfl)) (by kernel_rfl) (by kernel_rfl) (by rintro _ _ ⟨_, ⟨_, _, _, _, _, _, _, _, rfl, rfl⟩, rfl⟩; exact Nat.le_of_ble_eq_true (by kernel_rfl))) (by kernel_rfl) (by kernel_rfl) (by kernel_rfl) ?_)
  rintro _ _ ⟨_, _, ⟨_, ⟨n_1, xs_2, vs_3, p1_4, h1_5, f6, f7, f8, rfl, rfl⟩, rfl⟩, rfl, rfl⟩
  refine R.go 7 (R.callX (CallX.inF 2 usC frC (CallX.box 2 28 [AI 0, .nil, .nil] (nextX_c_r3c c p1_4 h1_5 50 eo1 so1 no1 co1 28 3 1 [AI 0, .nil, .nil] 2 1 vs_3.length (rows eI vs_3) 28 n_1 xs_2 hc) (by kernel_rfl) (by kernel_rfl) (by kernel_rfl) (by kernel_rfl) (by rintro _ _ ⟨_, _, _, _, rfl, rfl⟩; exact ⟨by kernel_rfl, by kernel_rfl, by kernel_rfl⟩)) (Nat.le_of_ble_eq_true (by kernel_rfl)) (by kernel_rfl) (by kernel_rfl) (by rintro _ _ ⟨_, ⟨_, _, _, _, rfl, rfl⟩, rfl⟩; exact Nat.le_of_ble_eq_true (by kernel_rfl))) (by kernel_rfl) (by kernel_rfl) (by kernel_rfl) ?_)
  rintro _ _ ⟨_, _, ⟨_, ⟨v_9, p1_10, h1_11, f12, rfl, rfl⟩, rfl⟩, rfl, rfl⟩
  refine R.go 7 (R.cond (v_9 = 0) (by kernel_rfl) (fun c13 => ?_) (fun c13 => ?_))
  · refine R.go 1 (R.frz 4 (by kernel_rfl) ?_)
    refine R.kfix 2 (us := usC) (by kernel_rfl) (hfC.frz 4 (LI vs_3) (Nat.le_of_ble_eq_true (by kernel_rfl))) ?_
    refine R.go 2 (R.deadF 4 (by kernel_rfl) (by kernel_rfl) ?_)
    refine R.callX (CallX.inF 2 usC frC (CallX.inF 3 [] [] (CallX.box 3 28 [AI n_1, LI xs_2, LI vs_3] (CallX.box 2 28 [AI 0, .nil, .nil] (frameX_c_r3 c p1_10 h1_11 worlds eo1 so1 no1 co1 28 3 1 [AI 0, .nil, .nil] 28 3 1 [AI n_1, LI xs_2, LI vs_3] hc hw) (by kernel_rfl) (by kernel_rfl) (by kernel_rfl) (by kernel_rfl) (by rintro _ _ ⟨_, _, _, _, _, rfl, rfl⟩; exact ⟨by kernel_rfl, by kernel_rfl, by kernel_rfl⟩)) (by kernel_rfl) (by kernel_rfl) (by kernel_rfl) (by kernel_rfl) (by rintro _ _ ⟨_, ⟨_, _, _, _, _, rfl, rfl⟩, rfl⟩; exact ⟨by kernel_rfl, by kernel_rfl, by kernel_rfl⟩)) (Nat.le_of_ble_eq_true (by kernel_rfl)) (by kernel_rfl) (by kernel_rfl) (by rintro _ _ ⟨_, ⟨_, ⟨_, _, _, _, _, rfl, rfl⟩, rfl⟩, rfl⟩; exact Nat.le_of_ble_eq_true (by kernel_rfl))) (Nat.le_of_ble_eq_true (by kernel_rfl)) (by kernel_rfl) (by kernel_rfl) (by rintro _ _ ⟨_, _, ⟨_, ⟨_, ⟨_, _, _, _, _, rfl, rfl⟩, rfl⟩, rfl⟩, rfl, rfl⟩; exact Nat.le_of_ble_eq_true (by kernel_rfl))) (by kernel_rfl) (by kernel_rfl) (by kernel_rfl) ?_
    rintro _ _ ⟨_, _, ⟨_, _, ⟨_, ⟨_, ⟨n_14, xs_15, p1_16, h1_17, f18, rfl, rfl⟩, rfl⟩, rfl⟩, rfl, rfl⟩, rfl, rfl⟩
    exact R.go 9 (R.retX (res := .agg [AI n_14, LI xs_15, LI vs_3]) (hp' := [.box 112 [LB c, AI (p1_16 : Int), .int .u64 h1_17], .list eo1 so1 no1 co1, .dead, .box 28 [AI n_14, LI xs_15, LI vs_3], .frame [] [], .box 28 [AI n_14, LI xs_15, LI vs_3]]) (by kernel_rfl) (by kernel_rfl) (by kernel_rfl) (by kernel_rfl) ⟨[0, 1], by kernel_rfl, by decide, n_14, xs_15, vs_3, p1_16, h1_17, by first | omega | (simp only [List.length_drop, List.length_set]; omega), by first | omega | (simp only [List.length_drop, List.length_set]; omega), by kernel_rfl, by kernel_rfl⟩)
  · refine R.go 5 (R.cond (v_9 = 1) (by kernel_rfl) (fun c19 => ?_) (fun c19 => ?_))
    · refine R.go 3 (R.frz 4 (by kernel_rfl) ?_)
      refine R.kfix 2 (us := usC) (by kernel_rfl) (hfC.frz 4 (LI vs_3) (Nat.le_of_ble_eq_true (by kernel_rfl))) ?_
      refine R.slL eI vs_3 1 1 (by kernel_rfl) rfl eI_len (by omega) (by kernel_rfl) ?_
      exact R.go 9 (R.retX (res := .agg [AI n_1, LI xs_2, LI (vs_3.drop 1)]) (hp' := [.box 112 [LB c, AI (p1_10 : Int), .int .u64 h1_11], .list eo1 so1 no1 co1, .dead, .box 28 [AI n_1, LI xs_2, LI (vs_3.drop 1)], .dead, .box 28 [AI n_1, LI xs_2, LI (vs_3.drop 1)]]) (by kernel_rfl) (by kernel_rfl) (by kernel_rfl) (by kernel_rfl) ⟨[0, 1], by kernel_rfl, by decide, n_1, xs_2, vs_3.drop 1, p1_10, h1_11, by first | omega | (simp only [List.length_drop, List.length_set]; omega), by first | omega | (simp only [List.length_drop, List.length_set]; omega), by kernel_rfl, by kernel_rfl⟩)
    · have hb : 1 ≤ shl64 1 n_1 ∧ shl64 1 n_1 ≤ 4611686018427387904 := shl_rng n_1 (by omega) (by omega)
      refine R.go 5 (R.cond (v_9 = 2) (by kernel_rfl) (fun c20 => ?_) (fun c20 => ?_))
      · refine R.any (by decide +kernel) (by kernel_rfl) ?_
        refine R.anyF 2 (by kernel_rfl) (np_retX _ _ _ _ _ _) ?_
        refine R.anyF 4 (by kernel_rfl) (np_retX _ _ _ _ _ _) ?_
        refine R.anyA 0 (.ptr 5 2) (by kernel_rfl) (np_retX _ _ _ _ _ _) ?_
        refine R.anyA 5 (.ptr 5 0) (by kernel_rfl) (np_retX _ _ _ _ _ _) ?_
        refine R.anyA 6 (.ptr 5 0) (by kernel_rfl) (np_retX _ _ _ _ _ _) ?_
        refine R.any3 1 3 7 (by kernel_rfl) (by kernel_rfl) ?_ ?_ ?_
        · refine R.go 2 (R.any2 3 7 (by kernel_rfl) (by kernel_rfl) ?_ ?_)
          · refine R.callX (CallX.inF 2 usC frC (CallX.box 2 28 [AI 0, .nil, .nil] (nextX_c_r3c c p1_10 h1_11 6 eo1 so1 no1 co1 28 3 1 [AI 0, .nil, .nil] 2 1 vs_3.length (rows eI vs_3) 28 n_1 xs_2 hc) (by kernel_rfl) (by kernel_rfl) (by kernel_rfl) (by kernel_rfl) (by rintro _ _ ⟨_, _, _, _, rfl, rfl⟩; exact ⟨by kernel_rfl, by kernel_rfl, by kernel_rfl⟩)) (Nat.le_of_ble_eq_true (by kernel_rfl)) (by kernel_rfl) (by kernel_rfl) (by rintro _ _ ⟨_, ⟨_, _, _, _, rfl, rfl⟩, rfl⟩; exact Nat.le_of_ble_eq_true (by kernel_rfl))) (by kernel_rfl) (by kernel_rfl) (by kernel_rfl) ?_
            rintro _ _ ⟨_, _, ⟨_, ⟨v_21, p1_22, h1_23, f24, rfl, rfl⟩, rfl⟩, rfl, rfl⟩
            refine R.go 1 (R.any1 7 (by kernel_rfl) (by kernel_rfl) ?_)
            refine R.go 2 (R.any1 8 (by kernel_rfl) (by kernel_rfl) ?_)
            refine R.call true (l01Full_c n_1 (by omega) (by omega)) (by kernel_rfl) rfl (by kernel_rfl) ?_
            refine R.go 1 (R.anyI 9 (AI (IntKind.i64.wrap (((shl64 1 n_1) - 1) + 1))) (by kernel_rfl) (np_retX _ _ _ _ _ _) ?_)
            refine R.any1 10 (by kernel_rfl) (by kernel_rfl) ?_
            refine R.lit (s := 1) (n := 2) (cs := rows eI [(-1), IntKind.i64.wrap (((shl64 1 n_1) - 1) + 1)]) (by kernel_rfl) (by kernel_rfl) ?_
            refine R.go 1 (R.any1 11 (by kernel_rfl) (by kernel_rfl) ?_)
            refine R.callX (CallX.inF 2 usC frC (CallX.box 2 28 [AI 0, .nil, .nil] (pickX_c_r3c c p1_22 h1_23 [(-1), IntKind.i64.wrap (((shl64 1 n_1) - 1) + 1)] eo1 so1 no1 co1 28 3 1 [AI 0, .nil, .nil] 2 1 vs_3.length (rows eI vs_3) 28 n_1 xs_2 hc (by simp)) (by kernel_rfl) (by kernel_rfl) (by kernel_rfl) (by kernel_rfl) (by rintro _ _ ⟨_, _, _, rfl, rfl⟩; exact ⟨by kernel_rfl, by kernel_rfl, by kernel_rfl⟩)) (Nat.le_of_ble_eq_true (by kernel_rfl)) (by kernel_rfl) (by kernel_rfl) (by rintro _ _ ⟨_, ⟨_, _, _, rfl, rfl⟩, rfl⟩; exact Nat.le_of_ble_eq_true (by kernel_rfl))) (by kernel_rfl) (by kernel_rfl) (by kernel_rfl) ?_
            rintro _ _ ⟨_, _, ⟨_, ⟨v_25, p1_26, h1_27, rfl, rfl⟩, rfl⟩, rfl, rfl⟩
            refine R.go 1 (R.any1 12 (by kernel_rfl) (by kernel_rfl) ?_)
            refine R.idxO 4 1 vs_3.length ((v_21).toNat) v_21 (by kernel_rfl) (by omega) (by omega) (by kernel_rfl) ?_
            refine R.go 1 (R.any1 13 (by kernel_rfl) (by kernel_rfl) ?_)
            refine R.stI 4 2 vs_3 ((v_21).toNat) v_25 (by kernel_rfl) (by omega) (by kernel_rfl) ?_
            refine R.go 1 (R.any0 (by kernel_rfl) ?_)
            refine R.go 6 (R.frz 4 (by kernel_rfl) ?_)
            refine R.kfix 2 (us := usC) (by kernel_rfl) (hfC.frz 4 (LI (vs_3.set ((v_21).toNat) v_25)) (Nat.le_of_ble_eq_true (by kernel_rfl))) ?_
            exact R.retX (res := .agg [AI n_1, LI xs_2, LI (vs_3.set ((v_21).toNat) v_25)]) (hp' := [.box 112 [LB c, AI (p1_26 : Int), .int .u64 h1_27], .list eo1 so1 no1 co1, .dead, .box 28 [AI n_1, LI xs_2, LI (vs_3.set ((v_21).toNat) v_25)], .dead, .box 28 [AI n_1, LI xs_2, LI (vs_3.set ((v_21).toNat) v_25)]]) (by kernel_rfl) (by kernel_rfl) (by kernel_rfl) (by kernel_rfl) ⟨[0, 1], by kernel_rfl, by decide, n_1, xs_2, vs_3.set ((v_21).toNat) v_25, p1_26, h1_27, by first | omega | (simp only [List.length_drop, List.length_set]; omega), by first | omega | (simp only [List.length_drop, List.length_set]; omega), by kernel_rfl, by kernel_rfl⟩
          · refine R.go 2 (R.any1 3 (by kernel_rfl) (by kernel_rfl) ?_)
            refine R.callX (CallX.inF 2 usC frC (CallX.box 2 28 [AI 0, .nil, .nil] (nextX_c_r3c c p1_10 h1_11 6 eo1 so1 no1 co1 28 3 1 [AI 0, .nil, .nil] 2 1 vs_3.length (rows eI vs_3) 28 n_1 xs_2 hc) (by kernel_rfl) (by kernel_rfl) (by kernel_rfl) (by kernel_rfl) (by rintro _ _ ⟨_, _, _, _, rfl, rfl⟩; exact ⟨by kernel_rfl, by kernel_rfl, by kernel_rfl⟩)) (Nat.le_of_ble_eq_true (by kernel_rfl)) (by kernel_rfl) (by kernel_rfl) (by rintro _ _ ⟨_, ⟨_, _, _, _, rfl, rfl⟩, rfl⟩; exact Nat.le_of_ble_eq_true (by kernel_rfl))) (by kernel_rfl) (by kernel_rfl) (by kernel_rfl) ?_
            rintro _ _ ⟨_, _, ⟨_, ⟨v_28, p1_29, h1_30, f31, rfl, rfl⟩, rfl⟩, rfl, rfl⟩
            refine R.go 1 (R.any1 8 (by kernel_rfl) (by kernel_rfl) ?_)
            refine R.call true (l01Full_c n_1 (by omega) (by omega)) (by kernel_rfl) rfl (by kernel_rfl) ?_
            refine R.go 1 (R.anyI 9 (AI (IntKind.i64.wrap (((shl64 1 n_1) - 1) + 1))) (by kernel_rfl) (np_retX _ _ _ _ _ _) ?_)
            refine R.any1 10 (by kernel_rfl) (by kernel_rfl) ?_
            refine R.lit (s := 1) (n := 2) (cs := rows eI [(-1), IntKind.i64.wrap (((shl64 1 n_1) - 1) + 1)]) (by kernel_rfl) (by kernel_rfl) ?_
            refine R.go 1 (R.any1 11 (by kernel_rfl) (by kernel_rfl) ?_)
            refine R.callX (CallX.inF 2 usC frC (CallX.box 2 28 [AI 0, .nil, .nil] (pickX_c_r3c c p1_29 h1_30 [(-1), IntKind.i64.wrap (((shl64 1 n_1) - 1) + 1)] eo1 so1 no1 co1 28 3 1 [AI 0, .nil, .nil] 2 1 vs_3.length (rows eI vs_3) 28 n_1 xs_2 hc (by simp)) (by kernel_rfl) (by kernel_rfl) (by kernel_rfl) (by kernel_rfl) (by rintro _ _ ⟨_, _, _, rfl, rfl⟩; exact ⟨by kernel_rfl, by kernel_rfl, by kernel_rfl⟩)) (Nat.le_of_ble_eq_true (by kernel_rfl)) (by kernel_rfl) (by kernel_rfl) (by rintro _ _ ⟨_, ⟨_, _, _, rfl, rfl⟩, rfl⟩; exact Nat.le_of_ble_eq_true (by kernel_rfl))) (by kernel_rfl) (by kernel_rfl) (by kernel_rfl) ?_
            rintro _ _ ⟨_, _, ⟨_, ⟨v_32, p1_33, h1_34, rfl, rfl⟩, rfl⟩, rfl, rfl⟩
            refine R.go 1 (R.any1 12 (by kernel_rfl) (by kernel_rfl) ?_)
            refine R.idxO 4 1 vs_3.length ((v_28).toNat) v_28 (by kernel_rfl) (by omega) (by omega) (by kernel_rfl) ?_
            refine R.go 1 (R.any1 13 (by kernel_rfl) (by kernel_rfl) ?_)
            refine R.stI 4 2 vs_3 ((v_28).toNat) v_32 (by kernel_rfl) (by omega) (by kernel_rfl) ?_
            refine R.go 1 (R.any0 (by kernel_rfl) ?_)
            refine R.go 6 (R.frz 4 (by kernel_rfl) ?_)
            refine R.kfix 2 (us := usC) (by kernel_rfl) (hfC.frz 4 (LI (vs_3.set ((v_28).toNat) v_32)) (Nat.le_of_ble_eq_true (by kernel_rfl))) ?_
            exact R.retX (res := .agg [AI n_1, LI xs_2, LI (vs_3.set ((v_28).toNat) v_32)]) (hp' := [.box 112 [LB c, AI (p1_33 : Int), .int .u64 h1_34], .list eo1 so1 no1 co1, .dead, .box 28 [AI n_1, LI xs_2, LI (vs_3.set ((v_28).toNat) v_32)], .dead, .box 28 [AI n_1, LI xs_2, LI (vs_3.set ((v_28).toNat) v_32)]]) (by kernel_rfl) (by kernel_rfl) (by kernel_rfl) (by kernel_rfl) ⟨[0, 1], by kernel_rfl, by decide, n_1, xs_2, vs_3.set ((v_28).toNat) v_32, p1_33, h1_34, by first | omega | (simp only [List.length_drop, List.length_set]; omega), by first | omega | (simp only [List.length_drop, List.length_set]; omega), by kernel_rfl, by kernel_rfl⟩
        · refine R.callX (CallX.inF 2 usC frC (CallX.box 2 28 [AI 0, .nil, .nil] (nextX_c_r3c c p1_10 h1_11 6 eo1 so1 no1 co1 28 3 1 [AI 0, .nil, .nil] 2 1 vs_3.length (rows eI vs_3) 28 n_1 xs_2 hc) (by kernel_rfl) (by kernel_rfl) (by kernel_rfl) (by kernel_rfl) (by rintro _ _ ⟨_, _, _, _, rfl, rfl⟩; exact ⟨by kernel_rfl, by kernel_rfl, by kernel_rfl⟩)) (Nat.le_of_ble_eq_true (by kernel_rfl)) (by kernel_rfl) (by kernel_rfl) (by rintro _ _ ⟨_, ⟨_, _, _, _, rfl, rfl⟩, rfl⟩; exact Nat.le_of_ble_eq_true (by kernel_rfl))) (by kernel_rfl) (by kernel_rfl) (by kernel_rfl) ?_
          rintro _ _ ⟨_, _, ⟨_, ⟨v_35, p1_36, h1_37, f38, rfl, rfl⟩, rfl⟩, rfl, rfl⟩
          refine R.go 1 (R.any2 1 7 (by kernel_rfl) (by kernel_rfl) ?_ ?_)
          · refine R.go 2 (R.any1 7 (by kernel_rfl) (by kernel_rfl) ?_)
            refine R.go 2 (R.any1 8 (by kernel_rfl) (by kernel_rfl) ?_)
            refine R.call true (l01Full_c n_1 (by omega) (by omega)) (by kernel_rfl) rfl (by kernel_rfl) ?_
            refine R.go 1 (R.anyI 9 (AI (IntKind.i64.wrap (((shl64 1 n_1) - 1) + 1))) (by kernel_rfl) (np_retX _ _ _ _ _ _) ?_)
            refine R.any1 10 (by kernel_rfl) (by kernel_rfl) ?_
            refine R.lit (s := 1) (n := 2) (cs := rows eI [(-1), IntKind.i64.wrap (((shl64 1 n_1) - 1) + 1)]) (by kernel_rfl) (by kernel_rfl) ?_
            refine R.go 1 (R.any1 11 (by kernel_rfl) (by kernel_rfl) ?_)
            refine R.callX (CallX.inF 2 usC frC (CallX.box 2 28 [AI 0, .nil, .nil] (pickX_c_r3c c p1_36 h1_37 [(-1), IntKind.i64.wrap (((shl64 1 n_1) - 1) + 1)] eo1 so1 no1 co1 28 3 1 [AI 0, .nil, .nil] 2 1 vs_3.length (rows eI vs_3) 28 n_1 xs_2 hc (by simp)) (by kernel_rfl) (by kernel_rfl) (by kernel_rfl) (by kernel_rfl) (by rintro _ _ ⟨_, _, _, rfl, rfl⟩; exact ⟨by kernel_rfl, by kernel_rfl, by kernel_rfl⟩)) (Nat.le_of_ble_eq_true (by kernel_rfl)) (by kernel_rfl) (by kernel_rfl) (by rintro _ _ ⟨_, ⟨_, _, _, rfl, rfl⟩, rfl⟩; exact Nat.le_of_ble_eq_true (by kernel_rfl))) (by kernel_rfl) (by kernel_rfl) (by kernel_rfl) ?_
            rintro _ _ ⟨_, _, ⟨_, ⟨v_39, p1_40, h1_41, rfl, rfl⟩, rfl⟩, rfl, rfl⟩
            refine R.go 1 (R.any1 12 (by kernel_rfl) (by kernel_rfl) ?_)
            refine R.idxO 4 1 vs_3.length ((v_35).toNat) v_35 (by kernel_rfl) (by omega) (by omega) (by kernel_rfl) ?_
            refine R.go 1 (R.any1 13 (by kernel_rfl) (by kernel_rfl) ?_)
            refine R.stI 4 2 vs_3 ((v_35).toNat) v_39 (by kernel_rfl) (by omega) (by kernel_rfl) ?_
            refine R.go 1 (R.any0 (by kernel_rfl) ?_)
            refine R.go 6 (R.frz 4 (by kernel_rfl) ?_)
            refine R.kfix 2 (us := usC) (by kernel_rfl) (hfC.frz 4 (LI (vs_3.set ((v_35).toNat) v_39)) (Nat.le_of_ble_eq_true (by kernel_rfl))) ?_
            exact R.retX (res := .agg [AI n_1, LI xs_2, LI (vs_3.set ((v_35).toNat) v_39)]) (hp' := [.box 112 [LB c, AI (p1_40 : Int), .int .u64 h1_41], .list eo1 so1 no1 co1, .dead, .box 28 [AI n_1, LI xs_2, LI (vs_3.set ((v_35).toNat) v_39)], .dead, .box 28 [AI n_1, LI xs_2, LI (vs_3.set ((v_35).toNat) v_39)]]) (by kernel_rfl) (by kernel_rfl) (by kernel_rfl) (by kernel_rfl) ⟨[0, 1], by kernel_rfl, by decide, n_1, xs_2, vs_3.set ((v_35).toNat) v_39, p1_40, h1_41, by first | omega | (simp only [List.length_drop, List.length_set]; omega), by first | omega | (simp only [List.length_drop, List.length_set]; omega), by kernel_rfl, by kernel_rfl⟩
          · refine R.go 2 (R.any2 1 8 (by kernel_rfl) (by kernel_rfl) ?_ ?_)
            · refine R.go 2 (R.any1 8 (by kernel_rfl) (by kernel_rfl) ?_)
              refine R.call true (l01Full_c n_1 (by omega) (by omega)) (by kernel_rfl) rfl (by kernel_rfl) ?_
              refine R.go 1 (R.anyI 9 (AI (IntKind.i64.wrap (((shl64 1 n_1) - 1) + 1))) (by kernel_rfl) (np_retX _ _ _ _ _ _) ?_)
              refine R.any1 10 (by kernel_rfl) (by kernel_rfl) ?_
              refine R.lit (s := 1) (n := 2) (cs := rows eI [(-1), IntKind.i64.wrap (((shl64 1 n_1) - 1) + 1)]) (by kernel_rfl) (by kernel_rfl) ?_
              refine R.go 1 (R.any1 11 (by kernel_rfl) (by kernel_rfl) ?_)
              refine R.callX (CallX.inF 2 usC frC (CallX.box 2 28 [AI 0, .nil, .nil] (pickX_c_r3c c p1_36 h1_37 [(-1), IntKind.i64.wrap (((shl64 1 n_1) - 1) + 1)] eo1 so1 no1 co1 28 3 1 [AI 0, .nil, .nil] 2 1 vs_3.length (rows eI vs_3) 28 n_1 xs_2 hc (by simp)) (by kernel_rfl) (by kernel_rfl) (by kernel_rfl) (by kernel_rfl) (by rintro _ _ ⟨_, _, _, rfl, rfl⟩; exact ⟨by kernel_rfl, by kernel_rfl, by kernel_rfl⟩)) (Nat.le_of_ble_eq_true (by kernel_rfl)) (by kernel_rfl) (by kernel_rfl) (by rintro _ _ ⟨_, ⟨_, _, _, rfl, rfl⟩, rfl⟩; exact Nat.le_of_ble_eq_true (by kernel_rfl))) (by kernel_rfl) (by kernel_rfl) (by kernel_rfl) ?_
              rintro _ _ ⟨_, _, ⟨_, ⟨v_42, p1_43, h1_44, rfl, rfl⟩, rfl⟩, rfl, rfl⟩
              refine R.go 1 (R.any1 12 (by kernel_rfl) (by kernel_rfl) ?_)
              refine R.idxO 4 1 vs_3.length ((v_35).toNat) v_35 (by kernel_rfl) (by omega) (by omega) (by kernel_rfl) ?_
              refine R.go 1 (R.any1 13 (by kernel_rfl) (by kernel_rfl) ?_)
              refine R.stI 4 2 vs_3 ((v_35).toNat) v_42 (by kernel_rfl) (by omega) (by kernel_rfl) ?_
              refine R.go 1 (R.any0 (by kernel_rfl) ?_)
              refine R.go 6 (R.frz 4 (by kernel_rfl) ?_)
              refine R.kfix 2 (us := usC) (by kernel_rfl) (hfC.frz 4 (LI (vs_3.set ((v_35).toNat) v_42)) (Nat.le_of_ble_eq_true (by kernel_rfl))) ?_
              exact R.retX (res := .agg [AI n_1, LI xs_2, LI (vs_3.set ((v_35).toNat) v_42)]) (hp' := [.box 112 [LB c, AI (p1_43 : Int), .int .u64 h1_44], .list eo1 so1 no1 co1, .dead, .box 28 [AI n_1, LI xs_2, LI (vs_3.set ((v_35).toNat) v_42)], .dead, .box 28 [AI n_1, LI xs_2, LI (vs_3.set ((v_35).toNat) v_42)]]) (by kernel_rfl) (by kernel_rfl) (by kernel_rfl) (by kernel_rfl) ⟨[0, 1], by kernel_rfl, by decide, n_1, xs_2, vs_3.set ((v_35).toNat) v_42, p1_43, h1_44, by first | omega | (simp only [List.length_drop, List.length_set]; omega), by first | omega | (simp only [List.length_drop, List.length_set]; omega), by kernel_rfl, by kernel_rfl⟩
            · refine R.call true (l01Full_c n_1 (by omega) (by omega)) (by kernel_rfl) rfl (by kernel_rfl) ?_
              refine R.go 1 (R.anyI 9 (AI (IntKind.i64.wrap (((shl64 1 n_1) - 1) + 1))) (by kernel_rfl) (np_retX _ _ _ _ _ _) ?_)
              refine R.any2 1 10 (by kernel_rfl) (by kernel_rfl) ?_ ?_
              · refine R.go 2 (R.any1 10 (by kernel_rfl) (by kernel_rfl) ?_)
                refine R.lit (s := 1) (n := 2) (cs := rows eI [(-1), IntKind.i64.wrap (((shl64 1 n_1) - 1) + 1)]) (by kernel_rfl) (by kernel_rfl) ?_
                refine R.go 1 (R.any1 11 (by kernel_rfl) (by kernel_rfl) ?_)
                refine R.callX (CallX.inF 2 usC frC (CallX.box 2 28 [AI 0, .nil, .nil] (pickX_c_r3c c p1_36 h1_37 [(-1), IntKind.i64.wrap (((shl64 1 n_1) - 1) + 1)] eo1 so1 no1 co1 28 3 1 [AI 0, .nil, .nil] 2 1 vs_3.length (rows eI vs_3) 28 n_1 xs_2 hc (by simp)) (by kernel_rfl) (by kernel_rfl) (by kernel_rfl) (by kernel_rfl) (by rintro _ _ ⟨_, _, _, rfl, rfl⟩; exact ⟨by kernel_rfl, by kernel_rfl, by kernel_rfl⟩)) (Nat.le_of_ble_eq_true (by kernel_rfl)) (by kernel_rfl) (by kernel_rfl) (by rintro _ _ ⟨_, ⟨_, _, _, rfl, rfl⟩, rfl⟩; exact Nat.le_of_ble_eq_true (by kernel_rfl))) (by kernel_rfl) (by kernel_rfl) (by kernel_rfl) ?_
                rintro _ _ ⟨_, _, ⟨_, ⟨v_45, p1_46, h1_47, rfl, rfl⟩, rfl⟩, rfl, rfl⟩
                refine R.go 1 (R.any1 12 (by kernel_rfl) (by kernel_rfl) ?_)
                refine R.idxO 4 1 vs_3.length ((v_35).toNat) v_35 (by kernel_rfl) (by omega) (by omega) (by kernel_rfl) ?_
                refine R.go 1 (R.any1 13 (by kernel_rfl) (by kernel_rfl) ?_)
                refine R.stI 4 2 vs_3 ((v_35).toNat) v_45 (by kernel_rfl) (by omega) (by kernel_rfl) ?_
                refine R.go 1 (R.any0 (by kernel_rfl) ?_)
                refine R.go 6 (R.frz 4 (by kernel_rfl) ?_)
                refine R.kfix 2 (us := usC) (by kernel_rfl) (hfC.frz 4 (LI (vs_3.set ((v_35).toNat) v_45)) (Nat.le_of_ble_eq_true (by kernel_rfl))) ?_
                exact R.retX (res := .agg [AI n_1, LI xs_2, LI (vs_3.set ((v_35).toNat) v_45)]) (hp' := [.box 112 [LB c, AI (p1_46 : Int), .int .u64 h1_47], .list eo1 so1 no1 co1, .dead, .box 28 [AI n_1, LI xs_2, LI (vs_3.set ((v_35).toNat) v_45)], .dead, .box 28 [AI n_1, LI xs_2, LI (vs_3.set ((v_35).toNat) v_45)]]) (by kernel_rfl) (by kernel_rfl) (by kernel_rfl) (by kernel_rfl) ⟨[0, 1], by kernel_rfl, by decide, n_1, xs_2, vs_3.set ((v_35).toNat) v_45, p1_46, h1_47, by first | omega | (simp only [List.length_drop, List.length_set]; omega), by first | omega | (simp only [List.length_drop, List.length_set]; omega), by kernel_rfl, by kernel_rfl⟩
              · refine R.lit (s := 1) (n := 2) (cs := rows eI [(-1), IntKind.i64.wrap (((shl64 1 n_1) - 1) + 1)]) (by kernel_rfl) (by kernel_rfl) ?_
                refine R.go 1 (R.any2 1 11 (by kernel_rfl) (by kernel_rfl) ?_ ?_)
                · refine R.go 2 (R.any1 11 (by kernel_rfl) (by kernel_rfl) ?_)
                  refine R.callX (CallX.inF 2 usC frC (CallX.box 2 28 [AI 0, .nil, .nil] (pickX_c_r3c c p1_36 h1_37 [(-1), IntKind.i64.wrap (((shl64 1 n_1) - 1) + 1)] eo1 so1 no1 co1 28 3 1 [AI 0, .nil, .nil] 2 1 vs_3.length (rows eI vs_3) 28 n_1 xs_2 hc (by simp)) (by kernel_rfl) (by kernel_rfl) (by kernel_rfl) (by kernel_rfl) (by rintro _ _ ⟨_, _, _, rfl, rfl⟩; exact ⟨by kernel_rfl, by kernel_rfl, by kernel_rfl⟩)) (Nat.le_of_ble_eq_true (by kernel_rfl)) (by kernel_rfl) (by kernel_rfl) (by rintro _ _ ⟨_, ⟨_, _, _, rfl, rfl⟩, rfl⟩; exact Nat.le_of_ble_eq_true (by kernel_rfl))) (by kernel_rfl) (by kernel_rfl) (by kernel_rfl) ?_
                  rintro _ _ ⟨_, _, ⟨_, ⟨v_48, p1_49, h1_50, rfl, rfl⟩, rfl⟩, rfl, rfl⟩
                  refine R.go 1 (R.any1 12 (by kernel_rfl) (by kernel_rfl) ?_)
                  refine R.idxO 4 1 vs_3.length ((v_35).toNat) v_35 (by kernel_rfl) (by omega) (by omega) (by kernel_rfl) ?_
                  refine R.go 1 (R.any1 13 (by kernel_rfl) (by kernel_rfl) ?_)
                  refine R.stI 4 2 vs_3 ((v_35).toNat) v_48 (by kernel_rfl) (by omega) (by kernel_rfl) ?_
                  refine R.go 1 (R.any0 (by kernel_rfl) ?_)
                  refine R.go 6 (R.frz 4 (by kernel_rfl) ?_)
                  refine R.kfix 2 (us := usC) (by kernel_rfl) (hfC.frz 4 (LI (vs_3.set ((v_35).toNat) v_48)) (Nat.le_of_ble_eq_true (by kernel_rfl))) ?_
                  exact R.retX (res := .agg [AI n_1, LI xs_2, LI (vs_3.set ((v_35).toNat) v_48)]) (hp' := [.box 112 [LB c, AI (p1_49 : Int), .int .u64 h1_50], .list eo1 so1 no1 co1, .dead, .box 28 [AI n_1, LI xs_2, LI (vs_3.set ((v_35).toNat) v_48)], .dead, .box 28 [AI n_1, LI xs_2, LI (vs_3.set ((v_35).toNat) v_48)]]) (by kernel_rfl) (by kernel_rfl) (by kernel_rfl) (by kernel_rfl) ⟨[0, 1], by kernel_rfl, by decide, n_1, xs_2, vs_3.set ((v_35).toNat) v_48, p1_49, h1_50, by first | omega | (simp only [List.length_drop, List.length_set]; omega), by first | omega | (simp only [List.length_drop, List.length_set]; omega), by kernel_rfl, by kernel_rfl⟩
                · refine R.callX (CallX.inF 2 usC frC (CallX.box 2 28 [AI 0, .nil, .nil] (pickX_c_r3c c p1_36 h1_37 [(-1), IntKind.i64.wrap (((shl64 1 n_1) - 1) + 1)] eo1 so1 no1 co1 28 3 1 [AI 0, .nil, .nil] 2 1 vs_3.length (rows eI vs_3) 28 n_1 xs_2 hc (by simp)) (by kernel_rfl) (by kernel_rfl) (by kernel_rfl) (by kernel_rfl) (by rintro _ _ ⟨_, _, _, rfl, rfl⟩; exact ⟨by kernel_rfl, by kernel_rfl, by kernel_rfl⟩)) (Nat.le_of_ble_eq_true (by kernel_rfl)) (by kernel_rfl) (by kernel_rfl) (by rintro _ _ ⟨_, ⟨_, _, _, rfl, rfl⟩, rfl⟩; exact Nat.le_of_ble_eq_true (by kernel_rfl))) (by kernel_rfl) (by kernel_rfl) (by kernel_rfl) ?_
                  rintro _ _ ⟨_, _, ⟨_, ⟨v_51, p1_52, h1_53, rfl, rfl⟩, rfl⟩, rfl, rfl⟩
                  refine R.go 1 (R.any1 1 (by kernel_rfl) (by kernel_rfl) ?_)
                  refine R.go 2 (R.any1 12 (by kernel_rfl) (by kernel_rfl) ?_)
                  refine R.idxO 4 1 vs_3.length ((v_35).toNat) v_35 (by kernel_rfl) (by omega) (by omega) (by kernel_rfl) ?_
                  refine R.go 1 (R.any1 13 (by kernel_rfl) (by kernel_rfl) ?_)
                  refine R.stI 4 2 vs_3 ((v_35).toNat) v_51 (by kernel_rfl) (by omega) (by kernel_rfl) ?_
                  refine R.go 1 (R.any0 (by kernel_rfl) ?_)
                  refine R.go 6 (R.frz 4 (by kernel_rfl) ?_)
                  refine R.kfix 2 (us := usC) (by kernel_rfl) (hfC.frz 4 (LI (vs_3.set ((v_35).toNat) v_51)) (Nat.le_of_ble_eq_true (by kernel_rfl))) ?_
                  exact R.retX (res := .agg [AI n_1, LI xs_2, LI (vs_3.set ((v_35).toNat) v_51)]) (hp' := [.box 112 [LB c, AI (p1_52 : Int), .int .u64 h1_53], .list eo1 so1 no1 co1, .dead, .box 28 [AI n_1, LI xs_2, LI (vs_3.set ((v_35).toNat) v_51)], .dead, .box 28 [AI n_1, LI xs_2, LI (vs_3.set ((v_35).toNat) v_51)]]) (by kernel_rfl) (by kernel_rfl) (by kernel_rfl) (by kernel_rfl) ⟨[0, 1], by kernel_rfl, by decide, n_1, xs_2, vs_3.set ((v_35).toNat) v_51, p1_52, h1_53, by first | omega | (simp only [List.length_drop, List.length_set]; omega), by first | omega | (simp only [List.length_drop, List.length_set]; omega), by kernel_rfl, by kernel_rfl⟩
        · refine R.go 2 (R.any2 1 3 (by kernel_rfl) (by kernel_rfl) ?_ ?_)
          · refine R.go 2 (R.any1 3 (by kernel_rfl) (by kernel_rfl) ?_)
            refine R.callX (CallX.inF 2 usC frC (CallX.box 2 28 [AI 0, .nil, .nil] (nextX_c_r3c c p1_10 h1_11 6 eo1 so1 no1 co1 28 3 1 [AI 0, .nil, .nil] 2 1 vs_3.length (rows eI vs_3) 28 n_1 xs_2 hc) (by kernel_rfl) (by kernel_rfl) (by kernel_rfl) (by kernel_rfl) (by rintro _ _ ⟨_, _, _, _, rfl, rfl⟩; exact ⟨by kernel_rfl, by kernel_rfl, by kernel_rfl⟩)) (Nat.le_of_ble_eq_true (by kernel_rfl)) (by kernel_rfl) (by kernel_rfl) (by rintro _ _ ⟨_, ⟨_, _, _, _, rfl, rfl⟩, rfl⟩; exact Nat.le_of_ble_eq_true (by kernel_rfl))) (by kernel_rfl) (by kernel_rfl) (by kernel_rfl) ?_
            rintro _ _ ⟨_, _, ⟨_, ⟨v_54, p1_55, h1_56, f57, rfl, rfl⟩, rfl⟩, rfl, rfl⟩
            refine R.go 1 (R.any1 8 (by kernel_rfl) (by kernel_rfl) ?_)
            refine R.call true (l01Full_c n_1 (by omega) (by omega)) (by kernel_rfl) rfl (by kernel_rfl) ?_
            refine R.go 1 (R.anyI 9 (AI (IntKind.i64.wrap (((shl64 1 n_1) - 1) + 1))) (by kernel_rfl) (np_retX _ _ _ _ _ _) ?_)
            refine R.any1 10 (by kernel_rfl) (by kernel_rfl) ?_
            refine R.lit (s := 1) (n := 2) (cs := rows eI [(-1), IntKind.i64.wrap (((shl64 1 n_1) - 1) + 1)]) (by kernel_rfl) (by kernel_rfl) ?_
            refine R.go 1 (R.any1 11 (by kernel_rfl) (by kernel_rfl) ?_)
            refine R.callX (CallX.inF 2 usC frC (CallX.box 2 28 [AI 0, .nil, .nil] (pickX_c_r3c c p1_55 h1_56 [(-1), IntKind.i64.wrap (((shl64 1 n_1) - 1) + 1)] eo1 so1 no1 co1 28 3 1 [AI 0, .nil, .nil] 2 1 vs_3.length (rows eI vs_3) 28 n_1 xs_2 hc (by simp)) (by kernel_rfl) (by kernel_rfl) (by kernel_rfl) (by kernel_rfl) (by rintro _ _ ⟨_, _, _, rfl, rfl⟩; exact ⟨by kernel_rfl, by kernel_rfl, by kernel_rfl⟩)) (Nat.le_of_ble_eq_true (by kernel_rfl)) (by kernel_rfl) (by kernel_rfl) (by rintro _ _ ⟨_, ⟨_, _, _, rfl, rfl⟩, rfl⟩; exact Nat.le_of_ble_eq_true (by kernel_rfl))) (by kernel_rfl) (by kernel_rfl) (by kernel_rfl) ?_
            rintro _ _ ⟨_, _, ⟨_, ⟨v_58, p1_59, h1_60, rfl, rfl⟩, rfl⟩, rfl, rfl⟩
            refine R.go 1 (R.any1 12 (by kernel_rfl) (by kernel_rfl) ?_)
            refine R.idxO 4 1 vs_3.length ((v_54).toNat) v_54 (by kernel_rfl) (by omega) (by omega) (by kernel_rfl) ?_
            refine R.go 1 (R.any1 13 (by kernel_rfl) (by kernel_rfl) ?_)
            refine R.stI 4 2 vs_3 ((v_54).toNat) v_58 (by kernel_rfl) (by omega) (by kernel_rfl) ?_
            refine R.go 1 (R.any0 (by kernel_rfl) ?_)
            refine R.go 6 (R.frz 4 (by kernel_rfl) ?_)
            refine R.kfix 2 (us := usC) (by kernel_rfl) (hfC.frz 4 (LI (vs_3.set ((v_54).toNat) v_58)) (Nat.le_of_ble_eq_true (by kernel_rfl))) ?_
            exact R.retX (res := .agg [AI n_1, LI xs_2, LI (vs_3.set ((v_54).toNat) v_58)]) (hp' := [.box 112 [LB c, AI (p1_59 : Int), .int .u64 h1_60], .list eo1 so1 no1 co1, .dead, .box 28 [AI n_1, LI xs_2, LI (vs_3.set ((v_54).toNat) v_58)], .dead, .box 28 [AI n_1, LI xs_2, LI (vs_3.set ((v_54).toNat) v_58)]]) (by kernel_rfl) (by kernel_rfl) (by kernel_rfl) (by kernel_rfl) ⟨[0, 1], by kernel_rfl, by decide, n_1, xs_2, vs_3.set ((v_54).toNat) v_58, p1_59, h1_60, by first | omega | (simp only [List.length_drop, List.length_set]; omega), by first | omega | (simp only [List.length_drop, List.length_set]; omega), by kernel_rfl, by kernel_rfl⟩
          · refine R.callX (CallX.inF 2 usC frC (CallX.box 2 28 [AI 0, .nil, .nil] (nextX_c_r3c c p1_10 h1_11 6 eo1 so1 no1 co1 28 3 1 [AI 0, .nil, .nil] 2 1 vs_3.length (rows eI vs_3) 28 n_1 xs_2 hc) (by kernel_rfl) (by kernel_rfl) (by kernel_rfl) (by kernel_rfl) (by rintro _ _ ⟨_, _, _, _, rfl, rfl⟩; exact ⟨by kernel_rfl, by kernel_rfl, by kernel_rfl⟩)) (Nat.le_of_ble_eq_true (by kernel_rfl)) (by kernel_rfl) (by kernel_rfl) (by rintro _ _ ⟨_, ⟨_, _, _, _, rfl, rfl⟩, rfl⟩; exact Nat.le_of_ble_eq_true (by kernel_rfl))) (by kernel_rfl) (by kernel_rfl) (by kernel_rfl) ?_
            rintro _ _ ⟨_, _, ⟨_, ⟨v_61, p1_62, h1_63, f64, rfl, rfl⟩, rfl⟩, rfl, rfl⟩
            refine R.go 1 (R.any2 1 8 (by kernel_rfl) (by kernel_rfl) ?_ ?_)
            · refine R.go 2 (R.any1 8 (by kernel_rfl) (by kernel_rfl) ?_)
              refine R.call true (l01Full_c n_1 (by omega) (by omega)) (by kernel_rfl) rfl (by kernel_rfl) ?_
              refine R.go 1 (R.anyI 9 (AI (IntKind.i64.wrap (((shl64 1 n_1) - 1) + 1))) (by kernel_rfl) (np_retX _ _ _ _ _ _) ?_)
              refine R.any1 10 (by kernel_rfl) (by kernel_rfl) ?_
              refine R.lit (s := 1) (n := 2) (cs := rows eI [(-1), IntKind.i64.wrap (((shl64 1 n_1) - 1) + 1)]) (by kernel_rfl) (by kernel_rfl) ?_
              refine R.go 1 (R.any1 11 (by kernel_rfl) (by kernel_rfl) ?_)
              refine R.callX (CallX.inF 2 usC frC (CallX.box 2 28 [AI 0, .nil, .nil] (pickX_c_r3c c p1_62 h1_63 [(-1), IntKind.i64.wrap (((shl64 1 n_1) - 1) + 1)] eo1 so1 no1 co1 28 3 1 [AI 0, .nil, .nil] 2 1 vs_3.length (rows eI vs_3) 28 n_1 xs_2 hc (by simp)) (by kernel_rfl) (by kernel_rfl) (by kernel_rfl) (by kernel_rfl) (by rintro _ _ ⟨_, _, _, rfl, rfl⟩; exact ⟨by kernel_rfl, by kernel_rfl, by kernel_rfl⟩)) (Nat.le_of_ble_eq_true (by kernel_rfl)) (by kernel_rfl) (by kernel_rfl) (by rintro _ _ ⟨_, ⟨_, _, _, rfl, rfl⟩, rfl⟩; exact Nat.le_of_ble_eq_true (by kernel_rfl))) (by kernel_rfl) (by kernel_rfl) (by kernel_rfl) ?_
              rintro _ _ ⟨_, _, ⟨_, ⟨v_65, p1_66, h1_67, rfl, rfl⟩, rfl⟩, rfl, rfl⟩
              refine R.go 1 (R.any1 12 (by kernel_rfl) (by kernel_rfl) ?_)
              refine R.idxO 4 1 vs_3.length ((v_61).toNat) v_61 (by kernel_rfl) (by omega) (by omega) (by kernel_rfl) ?_
              refine R.go 1 (R.any1 13 (by kernel_rfl) (by kernel_rfl) ?_)
              refine R.stI 4 2 vs_3 ((v_61).toNat) v_65 (by kernel_rfl) (by omega) (by kernel_rfl) ?_
              refine R.go 1 (R.any0 (by kernel_rfl) ?_)
              refine R.go 6 (R.frz 4 (by kernel_rfl) ?_)
              refine R.kfix 2 (us := usC) (by kernel_rfl) (hfC.frz 4 (LI (vs_3.set ((v_61).toNat) v_65)) (Nat.le_of_ble_eq_true (by kernel_rfl))) ?_
              exact R.retX (res := .agg [AI n_1, LI xs_2, LI (vs_3.set ((v_61).toNat) v_65)]) (hp' := [.box 112 [LB c, AI (p1_66 : Int), .int .u64 h1_67], .list eo1 so1 no1 co1, .dead, .box 28 [AI n_1, LI xs_2, LI (vs_3.set ((v_61).toNat) v_65)], .dead, .box 28 [AI n_1, LI xs_2, LI (vs_3.set ((v_61).toNat) v_65)]]) (by kernel_rfl) (by kernel_rfl) (by kernel_rfl) (by kernel_rfl) ⟨[0, 1], by kernel_rfl, by decide, n_1, xs_2, vs_3.set ((v_61).toNat) v_65, p1_66, h1_67, by first | omega | (simp only [List.length_drop, List.length_set]; omega), by first | omega | (simp only [List.length_drop, List.length_set]; omega), by kernel_rfl, by kernel_rfl⟩
            · refine R.call true (l01Full_c n_1 (by omega) (by omega)) (by kernel_rfl) rfl (by kernel_rfl) ?_
              refine R.go 1 (R.anyI 9 (AI (IntKind.i64.wrap (((shl64 1 n_1) - 1) + 1))) (by kernel_rfl) (np_retX _ _ _ _ _ _) ?_)
              refine R.any2 1 10 (by kernel_rfl) (by kernel_rfl) ?_ ?_
              · refine R.go 2 (R.any1 10 (by kernel_rfl) (by kernel_rfl) ?_)
                refine R.lit (s := 1) (n := 2) (cs := rows eI [(-1), IntKind.i64.wrap (((shl64 1 n_1) - 1) + 1)]) (by kernel_rfl) (by kernel_rfl) ?_
                refine R.go 1 (R.any1 11 (by kernel_rfl) (by kernel_rfl) ?_)
                refine R.callX (CallX.inF 2 usC frC (CallX.box 2 28 [AI 0, .nil, .nil] (pickX_c_r3c c p1_62 h1_63 [(-1), IntKind.i64.wrap (((shl64 1 n_1) - 1) + 1)] eo1 so1 no1 co1 28 3 1 [AI 0, .nil, .nil] 2 1 vs_3.length (rows eI vs_3) 28 n_1 xs_2 hc (by simp)) (by kernel_rfl) (by kernel_rfl) (by kernel_rfl) (by kernel_rfl) (by rintro _ _ ⟨_, _, _, rfl, rfl⟩; exact ⟨by kernel_rfl, by kernel_rfl, by kernel_rfl⟩)) (Nat.le_of_ble_eq_true (by kernel_rfl)) (by kernel_rfl) (by kernel_rfl) (by rintro _ _ ⟨_, ⟨_, _, _, rfl, rfl⟩, rfl⟩; exact Nat.le_of_ble_eq_true (by kernel_rfl))) (by kernel_rfl) (by kernel_rfl) (by kernel_rfl) ?_
                rintro _ _ ⟨_, _, ⟨_, ⟨v_68, p1_69, h1_70, rfl, rfl⟩, rfl⟩, rfl, rfl⟩
                refine R.go 1 (R.any1 12 (by kernel_rfl) (by kernel_rfl) ?_)
                refine R.idxO 4 1 vs_3.length ((v_61).toNat) v_61 (by kernel_rfl) (by omega) (by omega) (by kernel_rfl) ?_
                refine R.go 1 (R.any1 13 (by kernel_rfl) (by kernel_rfl) ?_)
                refine R.stI 4 2 vs_3 ((v_61).toNat) v_68 (by kernel_rfl) (by omega) (by kernel_rfl) ?_
                refine R.go 1 (R.any0 (by kernel_rfl) ?_)
                refine R.go 6 (R.frz 4 (by kernel_rfl) ?_)
                refine R.kfix 2 (us := usC) (by kernel_rfl) (hfC.frz 4 (LI (vs_3.set ((v_61).toNat) v_68)) (Nat.le_of_ble_eq_true (by kernel_rfl))) ?_
                exact R.retX (res := .agg [AI n_1, LI xs_2, LI (vs_3.set ((v_61).toNat) v_68)]) (hp' := [.box 112 [LB c, AI (p1_69 : Int), .int .u64 h1_70], .list eo1 so1 no1 co1, .dead, .box 28 [AI n_1, LI xs_2, LI (vs_3.set ((v_61).toNat) v_68)], .dead, .box 28 [AI n_1, LI xs_2, LI (vs_3.set ((v_61).toNat) v_68)]]) (by kernel_rfl) (by kernel_rfl) (by kernel_rfl) (by kernel_rfl) ⟨[0, 1], by kernel_rfl, by decide, n_1, xs_2, vs_3.set ((v_61).toNat) v_68, p1_69, h1_70, by first | omega | (simp only [List.length_drop, List.length_set]; omega), by first | omega | (simp only [List.length_drop, List.length_set]; omega), by kernel_rfl, by kernel_rfl⟩
              · refine R.lit (s := 1) (n := 2) (cs := rows eI [(-1), IntKind.i64.wrap (((shl64 1 n_1) - 1) + 1)]) (by kernel_rfl) (by kernel_rfl) ?_
                refine R.go 1 (R.any2 1 11 (by kernel_rfl) (by kernel_rfl) ?_ ?_)
                · refine R.go 2 (R.any1 11 (by kernel_rfl) (by kernel_rfl) ?_)
                  refine R.callX (CallX.inF 2 usC frC (CallX.box 2 28 [AI 0, .nil, .nil] (pickX_c_r3c c p1_62 h1_63 [(-1), IntKind.i64.wrap (((shl64 1 n_1) - 1) + 1)] eo1 so1 no1 co1 28 3 1 [AI 0, .nil, .nil] 2 1 vs_3.length (rows eI vs_3) 28 n_1 xs_2 hc (by simp)) (by kernel_rfl) (by kernel_rfl) (by kernel_rfl) (by kernel_rfl) (by rintro _ _ ⟨_, _, _, rfl, rfl⟩; exact ⟨by kernel_rfl, by kernel_rfl, by kernel_rfl⟩)) (Nat.le_of_ble_eq_true (by kernel_rfl)) (by kernel_rfl) (by kernel_rfl) (by rintro _ _ ⟨_, ⟨_, _, _, rfl, rfl⟩, rfl⟩; exact Nat.le_of_ble_eq_true (by kernel_rfl))) (by kernel_rfl) (by kernel_rfl) (by kernel_rfl) ?_
                  rintro _ _ ⟨_, _, ⟨_, ⟨v_71, p1_72, h1_73, rfl, rfl⟩, rfl⟩, rfl, rfl⟩
                  refine R.go 1 (R.any1 12 (by kernel_rfl) (by kernel_rfl) ?_)
                  refine R.idxO 4 1 vs_3.length ((v_61).toNat) v_61 (by kernel_rfl) (by omega) (by omega) (by kernel_rfl) ?_
                  refine R.go 1 (R.any1 13 (by kernel_rfl) (by kernel_rfl) ?_)
                  refine R.stI 4 2 vs_3 ((v_61).toNat) v_71 (by kernel_rfl) (by omega) (by kernel_rfl) ?_
                  refine R.go 1 (R.any0 (by kernel_rfl) ?_)
                  refine R.go 6 (R.frz 4 (by kernel_rfl) ?_)
                  refine R.kfix 2 (us := usC) (by kernel_rfl) (hfC.frz 4 (LI (vs_3.set ((v_61).toNat) v_71)) (Nat.le_of_ble_eq_true (by kernel_rfl))) ?_
                  exact R.retX (res := .agg [AI n_1, LI xs_2, LI (vs_3.set ((v_61).toNat) v_71)]) (hp' := [.box 112 [LB c, AI (p1_72 : Int), .int .u64 h1_73], .list eo1 so1 no1 co1, .dead, .box 28 [AI n_1, LI xs_2, LI (vs_3.set ((v_61).toNat) v_71)], .dead, .box 28 [AI n_1, LI xs_2, LI (vs_3.set ((v_61).toNat) v_71)]]) (by kernel_rfl) (by kernel_rfl) (by kernel_rfl) (by kernel_rfl) ⟨[0, 1], by kernel_rfl, by decide, n_1, xs_2, vs_3.set ((v_61).toNat) v_71, p1_72, h1_73, by first | omega | (simp only [List.length_drop, List.length_set]; omega), by first | omega | (simp only [List.length_drop, List.length_set]; omega), by kernel_rfl, by kernel_rfl⟩
                · refine R.callX (CallX.inF 2 usC frC (CallX.box 2 28 [AI 0, .nil, .nil] (pickX_c_r3c c p1_62 h1_63 [(-1), IntKind.i64.wrap (((shl64 1 n_1) - 1) + 1)] eo1 so1 no1 co1 28 3 1 [AI 0, .nil, .nil] 2 1 vs_3.length (rows eI vs_3) 28 n_1 xs_2 hc (by simp)) (by kernel_rfl) (by kernel_rfl) (by kernel_rfl) (by kernel_rfl) (by rintro _ _ ⟨_, _, _, rfl, rfl⟩; exact ⟨by kernel_rfl, by kernel_rfl, by kernel_rfl⟩)) (Nat.le_of_ble_eq_true (by kernel_rfl)) (by kernel_rfl) (by kernel_rfl) (by rintro _ _ ⟨_, ⟨_, _, _, rfl, rfl⟩, rfl⟩; exact Nat.le_of_ble_eq_true (by kernel_rfl))) (by kernel_rfl) (by kernel_rfl) (by kernel_rfl) ?_
                  rintro _ _ ⟨_, _, ⟨_, ⟨v_74, p1_75, h1_76, rfl, rfl⟩, rfl⟩, rfl, rfl⟩
                  refine R.go 1 (R.any1 1 (by kernel_rfl) (by kernel_rfl) ?_)
                  refine R.go 2 (R.any1 12 (by kernel_rfl) (by kernel_rfl) ?_)
                  refine R.idxO 4 1 vs_3.length ((v_61).toNat) v_61 (by kernel_rfl) (by omega) (by omega) (by kernel_rfl) ?_
                  refine R.go 1 (R.any1 13 (by kernel_rfl) (by kernel_rfl) ?_)
                  refine R.stI 4 2 vs_3 ((v_61).toNat) v_74 (by kernel_rfl) (by omega) (by kernel_rfl) ?_
                  refine R.go 1 (R.any0 (by kernel_rfl) ?_)
                  refine R.go 6 (R.frz 4 (by kernel_rfl) ?_)
                  refine R.kfix 2 (us := usC) (by kernel_rfl) (hfC.frz 4 (LI (vs_3.set ((v_61).toNat) v_74)) (Nat.le_of_ble_eq_true (by kernel_rfl))) ?_
                  exact R.retX (res := .agg [AI n_1, LI xs_2, LI (vs_3.set ((v_61).toNat) v_74)]) (hp' := [.box 112 [LB c, AI (p1_75 : Int), .int .u64 h1_76], .list eo1 so1 no1 co1, .dead, .box 28 [AI n_1, LI xs_2, LI (vs_3.set ((v_61).toNat) v_74)], .dead, .box 28 [AI n_1, LI xs_2, LI (vs_3.set ((v_61).toNat) v_74)]]) (by kernel_rfl) (by kernel_rfl) (by kernel_rfl) (by kernel_rfl) ⟨[0, 1], by kernel_rfl, by decide, n_1, xs_2, vs_3.set ((v_61).toNat) v_74, p1_75, h1_76, by first | omega | (simp only [List.length_drop, List.length_set]; omega), by first | omega | (simp only [List.length_drop, List.length_set]; omega), by kernel_rfl, by kernel_rfl⟩
      · refine R.go 7 (R.frz 4 (by kernel_rfl) ?_)
        refine R.kfix 2 (us := usC) (by kernel_rfl) (hfC.frz 4 (LI vs_3) (Nat.le_of_ble_eq_true (by kernel_rfl))) ?_
        exact R.retX (res := .agg [AI n_1, LI xs_2, LI vs_3]) (hp' := [.box 112 [LB c, AI (p1_10 : Int), .int .u64 h1_11], .list eo1 so1 no1 co1, .dead, .box 28 [AI n_1, LI xs_2, LI vs_3], .dead, .box 28 [AI n_1, LI xs_2, LI vs_3]]) (by kernel_rfl) (by kernel_rfl) (by kernel_rfl) (by kernel_rfl) ⟨[0, 1], by kernel_rfl, by decide, n_1, xs_2, vs_3, p1_10, h1_11, by first | omega | (simp only [List.length_drop, List.length_set]; omega), by first | omega | (simp only [List.length_drop, List.length_set]; omega), by kernel_rfl, by kernel_rfl⟩

end Go.Proofs.Ytgebepfdphmjcaa


/-! Draws of the laws. -/
namespace Go.Proofs.Ytgebepfdphmjcaa
open Go.RowKit Go.Abs

theorem drTruth_c (c : List Int) (hc : BY c) : CallX Try.prog 8 [LB c] [] (fun (resX : AV) (objX : List AObj) => ∃ n : Int, ∃ xs : List Int, ∃ vs : List Int, ∃ a : List (Int × Int), (xs.length ≤ 1000) ∧ (vs.length ≤ 6) ∧ (a.length ≤ 1000) ∧ resX = .tup [.agg [AI n, LI xs, LI vs], LN a] ∧ objX = []) := by
  have hcl : c.length ≤ 4096 := hc.1
  have hcb := hc.2
  refine CallX.dropE (CallX.ofF Try.func8 rfl (by kernel_rfl) ?_)
  intro usC frC hfC
  refine R.go 8 (R.enter (avs := [LB c]) Try.func42 rfl (by kernel_rfl) (by kernel_rfl) (by kernel_rfl) ?_)
  intro us1
  refine R.go 9 (R.cv .u64 (c.length : Int) (by kernel_rfl) (u64_id (by omega) (by omega)) (by kernel_rfl) ?_)
  refine R.go 11 (R.loop ((fun | (i, hh) => (⟨(frm 38 [(0, LB c), (3, .ptr 3 0), (4, AI (i : Int))]), [.frame usC frC, .box 28 [AI 0, .nil, .nil], .frame us1 (frm 13 [(0, LB c), (2, .ptr 1 0), (3, .nil), (6, LB c)]), .box 112 [LB c, AI 0, .int .u64 hh]]⟩ : St) : Nat × Int → St)) (fun | (i, hh) => i ≤ c.length) (fun | (i, hh) => c.length - i) (0, (IntKind.u64.wrap (7129 + (c.length : Int)))) [0, 3, 4] none (by kernel_rfl) (by kernel_rfl) (by kernel_rfl) (by omega) ?_)
  rintro ⟨i, hh⟩ h5_1 R2 N3
  refine R.go 8 ?_
  by_cases c6 : (i : Int) < (c.length : Int)
  · refine R.want (decide ((i : Int) < (c.length : Int))) true (by kernel_rfl) (dT c6) ?_
    refine R.go 1 (R.want (decide ((i : Int) < (c.length : Int))) true (by kernel_rfl) (dT c6) ?_)
    refine R.go 1 (R.pick (decide ((i : Int) < (c.length : Int))) true (by kernel_rfl) (dT c6) (by kernel_rfl) ?_)
    refine R.go 1 (R.cond ((i : Int) < 4096) (by kernel_rfl) (fun c7 => ?_) (fun c7 => ?_))
    · have hbi := hcb i (by omega)
      refine R.go 12 (R.idx eB c 0 i (i : Int) (by kernel_rfl) rfl eB_len (by omega) (by kernel_rfl) ?_)
      refine R.go 1 (R.cv .u64 (c.getD i 0) (by kernel_rfl) (u64_id (by omega) (by omega)) (by kernel_rfl) ?_)
      refine R.go 9 (R.ar ((i : Int) + 1) (by kernel_rfl) (by omega) (by omega) (by kernel_rfl) ?_)
      exact R.go 2 (R.stop R2 (by kernel_rfl) (N3 (i + 1, IntKind.u64.wrap ((IntKind.u64.wrap ((IntKind.u64.wrap (hh * 1099511628211)) + (c.getD i 0))) + 11)) [0, 3, 4] none _ (by kernel_rfl) (by kernel_rfl) (by omega) (by show (c.length - (i + 1)) < (c.length - i); omega)))
    · refine R.go 6 (R.back (.ptr 3 0) (frm 13 [(0, LB c), (2, .ptr 1 0), (3, .nil), (6, LB c)]) (by kernel_rfl) (by kernel_rfl) (by kernel_rfl) ?_)
      refine R.go 5 (R.deadF 2 (by kernel_rfl) (by kernel_rfl) ?_)
      refine R.callX (CallX.inF 0 usC frC (CallX.inF 1 [] [] (CallX.perm [1, 0] [1, 0] (CallX.box 1 28 [AI 0, .nil, .nil] (modelX_c_r1 c 0 hh 8 28 3 1 [AI 0, .nil, .nil] hc (by omega)) (by kernel_rfl) (by kernel_rfl) (by kernel_rfl) (by kernel_rfl) (by rintro _ _ ⟨_, _, _, _, _, _, _, rfl, rfl⟩; exact ⟨by kernel_rfl, by kernel_rfl, by kernel_rfl⟩)) (by kernel_rfl) (by kernel_rfl) (by kernel_rfl) (by rintro _ _ ⟨_, ⟨_, _, _, _, _, _, _, rfl, rfl⟩, rfl⟩; exact Nat.le_of_ble_eq_true (by kernel_rfl))) (Nat.le_of_ble_eq_true (by kernel_rfl)) (by kernel_rfl) (by kernel_rfl) (by rintro _ _ ⟨_, _, ⟨_, ⟨_, _, _, _, _, _, _, rfl, rfl⟩, rfl⟩, rfl, rfl⟩; exact Nat.le_of_ble_eq_true (by kernel_rfl))) (Nat.le_of_ble_eq_true (by kernel_rfl)) (by kernel_rfl) (by kernel_rfl) (by rintro _ _ ⟨_, _, ⟨_, _, ⟨_, ⟨_, _, _, _, _, _, _, rfl, rfl⟩, rfl⟩, rfl, rfl⟩, rfl, rfl⟩; exact Nat.le_of_ble_eq_true (by kernel_rfl))) (by kernel_rfl) (by kernel_rfl) (by kernel_rfl) ?_
      rintro _ _ ⟨_, _, ⟨_, _, ⟨_, _, ⟨_, ⟨n_8, xs_9, vs_10, p1_11, h1_12, f13, f14, rfl, rfl⟩, rfl⟩, rfl, rfl⟩, rfl, rfl⟩, rfl, rfl⟩
      refine R.go 4 (R.any (by decide +kernel) (by kernel_rfl) ?_)
      refine R.anyF 1 (by kernel_rfl) (np_retX _ _ _ _ _ _) ?_
      refine R.any2 0 2 (by kernel_rfl) (by kernel_rfl) ?_ ?_
      · refine R.go 2 (R.any1 2 (by kernel_rfl) (by kernel_rfl) ?_)
        refine R.callX (CallX.inF 0 usC frC (CallX.inF 1 [] [] (CallX.perm [1, 0, 2] [1, 0, 2] (CallX.box 2 28 [AI n_8, LI xs_9, LI vs_10] (CallX.box 1 28 [AI 0, .nil, .nil] (anyX_c_r2 c p1_11 h1_12 20 6 true 28 3 1 [AI 0, .nil, .nil] 28 3 1 [AI n_8, LI xs_9, LI vs_10] hc (by omega)) (by kernel_rfl) (by kernel_rfl) (by kernel_rfl) (by kernel_rfl) (by rintro _ _ ⟨_, _, _, _, rfl, rfl⟩; exact ⟨by kernel_rfl, by kernel_rfl, by kernel_rfl⟩)) (by kernel_rfl) (by kernel_rfl) (by kernel_rfl) (by kernel_rfl) (by rintro _ _ ⟨_, ⟨_, _, _, _, rfl, rfl⟩, rfl⟩; exact ⟨by kernel_rfl, by kernel_rfl, by kernel_rfl⟩)) (by kernel_rfl) (by kernel_rfl) (by kernel_rfl) (by rintro _ _ ⟨_, ⟨_, ⟨_, _, _, _, rfl, rfl⟩, rfl⟩, rfl⟩; exact Nat.le_of_ble_eq_true (by kernel_rfl))) (Nat.le_of_ble_eq_true (by kernel_rfl)) (by kernel_rfl) (by kernel_rfl) (by rintro _ _ ⟨_, _, ⟨_, ⟨_, ⟨_, _, _, _, rfl, rfl⟩, rfl⟩, rfl⟩, rfl, rfl⟩; exact Nat.le_of_ble_eq_true (by kernel_rfl))) (Nat.le_of_ble_eq_true (by kernel_rfl)) (by kernel_rfl) (by kernel_rfl) (by rintro _ _ ⟨_, _, ⟨_, _, ⟨_, ⟨_, ⟨_, _, _, _, rfl, rfl⟩, rfl⟩, rfl⟩, rfl, rfl⟩, rfl, rfl⟩; exact Nat.le_of_ble_eq_true (by kernel_rfl))) (by kernel_rfl) (by kernel_rfl) (by kernel_rfl) ?_
        rintro _ _ ⟨_, _, ⟨_, _, ⟨_, _, ⟨_, ⟨_, ⟨r_15, p1_16, h1_17, f18, rfl, rfl⟩, rfl⟩, rfl⟩, rfl, rfl⟩, rfl, rfl⟩, rfl, rfl⟩
        refine R.go 1 (R.any1 3 (by kernel_rfl) (by kernel_rfl) ?_)
        refine R.go 2 (R.any1 4 (by kernel_rfl) (by kernel_rfl) ?_)
        refine R.go 2 (R.any0 (by kernel_rfl) ?_)
        exact R.retX (res := .tup [.agg [AI n_8, LI xs_9, LI vs_10], LN r_15]) (hp' := [.dead, .box 28 [AI n_8, LI xs_9, LI vs_10], .frame [] [], .box 112 [LB c, AI (p1_16 : Int), .int .u64 h1_17], .box 28 [AI n_8, LI xs_9, LI vs_10]]) (by kernel_rfl) (by kernel_rfl) (by kernel_rfl) (by kernel_rfl) ⟨[], by kernel_rfl, by decide, n_8, xs_9, vs_10, r_15, by first | assumption | omega, by first | assumption | omega, by first | assumption | omega, by kernel_rfl, by kernel_rfl⟩
      · refine R.callX (CallX.inF 0 usC frC (CallX.inF 1 [] [] (CallX.perm [1, 0, 2] [1, 0, 2] (CallX.box 2 28 [AI n_8, LI xs_9, LI vs_10] (CallX.box 1 28 [AI 0, .nil, .nil] (anyX_c_r2 c p1_11 h1_12 20 6 true 28 3 1 [AI 0, .nil, .nil] 28 3 1 [AI n_8, LI xs_9, LI vs_10] hc (by omega)) (by kernel_rfl) (by kernel_rfl) (by kernel_rfl) (by kernel_rfl) (by rintro _ _ ⟨_, _, _, _, rfl, rfl⟩; exact ⟨by kernel_rfl, by kernel_rfl, by kernel_rfl⟩)) (by kernel_rfl) (by kernel_rfl) (by kernel_rfl) (by kernel_rfl) (by rintro _ _ ⟨_, ⟨_, _, _, _, rfl, rfl⟩, rfl⟩; exact ⟨by kernel_rfl, by kernel_rfl, by kernel_rfl⟩)) (by kernel_rfl) (by kernel_rfl) (by kernel_rfl) (by rintro _ _ ⟨_, ⟨_, ⟨_, _, _, _, rfl, rfl⟩, rfl⟩, rfl⟩; exact Nat.le_of_ble_eq_true (by kernel_rfl))) (Nat.le_of_ble_eq_true (by kernel_rfl)) (by kernel_rfl) (by kernel_rfl) (by rintro _ _ ⟨_, _, ⟨_, ⟨_, ⟨_, _, _, _, rfl, rfl⟩, rfl⟩, rfl⟩, rfl, rfl⟩; exact Nat.le_of_ble_eq_true (by kernel_rfl))) (Nat.le_of_ble_eq_true (by kernel_rfl)) (by kernel_rfl) (by kernel_rfl) (by rintro _ _ ⟨_, _, ⟨_, _, ⟨_, ⟨_, ⟨_, _, _, _, rfl, rfl⟩, rfl⟩, rfl⟩, rfl, rfl⟩, rfl, rfl⟩; exact Nat.le_of_ble_eq_true (by kernel_rfl))) (by kernel_rfl) (by kernel_rfl) (by kernel_rfl) ?_
        rintro _ _ ⟨_, _, ⟨_, _, ⟨_, _, ⟨_, ⟨_, ⟨r_19, p1_20, h1_21, f22, rfl, rfl⟩, rfl⟩, rfl⟩, rfl, rfl⟩, rfl, rfl⟩, rfl, rfl⟩
        refine R.go 1 (R.any1 0 (by kernel_rfl) (by kernel_rfl) ?_)
        refine R.go 2 (R.any1 3 (by kernel_rfl) (by kernel_rfl) ?_)
        refine R.go 2 (R.any1 4 (by kernel_rfl) (by kernel_rfl) ?_)
        refine R.go 2 (R.any0 (by kernel_rfl) ?_)
        exact R.retX (res := .tup [.agg [AI n_8, LI xs_9, LI vs_10], LN r_19]) (hp' := [.dead, .box 28 [AI n_8, LI xs_9, LI vs_10], .frame [] [], .box 112 [LB c, AI (p1_20 : Int), .int .u64 h1_21], .box 28 [AI n_8, LI xs_9, LI vs_10]]) (by kernel_rfl) (by kernel_rfl) (by kernel_rfl) (by kernel_rfl) ⟨[], by kernel_rfl, by decide, n_8, xs_9, vs_10, r_19, by first | assumption | omega, by first | assumption | omega, by first | assumption | omega, by kernel_rfl, by kernel_rfl⟩
  · refine R.skp (decide ((i : Int) < (c.length : Int))) true (by kernel_rfl) (dF c6) (by kernel_rfl) ?_
    refine R.skp (decide ((i : Int) < (c.length : Int))) true (by kernel_rfl) (dF c6) (by kernel_rfl) ?_
    refine R.pick (decide ((i : Int) < (c.length : Int))) false (by kernel_rfl) (dF c6) (by kernel_rfl) ?_
    refine R.go 8 (R.back (.ptr 3 0) (frm 13 [(0, LB c), (2, .ptr 1 0), (3, .nil), (6, LB c)]) (by kernel_rfl) (by kernel_rfl) (by kernel_rfl) ?_)
    refine R.go 5 (R.deadF 2 (by kernel_rfl) (by kernel_rfl) ?_)
    refine R.callX (CallX.inF 0 usC frC (CallX.inF 1 [] [] (CallX.perm [1, 0] [1, 0] (CallX.box 1 28 [AI 0, .nil, .nil] (modelX_c_r1 c 0 hh 8 28 3 1 [AI 0, .nil, .nil] hc (by omega)) (by kernel_rfl) (by kernel_rfl) (by kernel_rfl) (by kernel_rfl) (by rintro _ _ ⟨_, _, _, _, _, _, _, rfl, rfl⟩; exact ⟨by kernel_rfl, by kernel_rfl, by kernel_rfl⟩)) (by kernel_rfl) (by kernel_rfl) (by kernel_rfl) (by rintro _ _ ⟨_, ⟨_, _, _, _, _, _, _, rfl, rfl⟩, rfl⟩; exact Nat.le_of_ble_eq_true (by kernel_rfl))) (Nat.le_of_ble_eq_true (by kernel_rfl)) (by kernel_rfl) (by kernel_rfl) (by rintro _ _ ⟨_, _, ⟨_, ⟨_, _, _, _, _, _, _, rfl, rfl⟩, rfl⟩, rfl, rfl⟩; exact Nat.le_of_ble_eq_true (by kernel_rfl))) (Nat.le_of_ble_eq_true (by kernel_rfl)) (by kernel_rfl) (by kernel_rfl) (by rintro _ _ ⟨_, _, ⟨_, _, ⟨_, ⟨_, _, _, _, _, _, _, rfl, rfl⟩, rfl⟩, rfl, rfl⟩, rfl, rfl⟩; exact Nat.le_of_ble_eq_true (by kernel_rfl))) (by kernel_rfl) (by kernel_rfl) (by kernel_rfl) ?_
    rintro _ _ ⟨_, _, ⟨_, _, ⟨_, _, ⟨_, ⟨n_23, xs_24, vs_25, p1_26, h1_27, f28, f29, rfl, rfl⟩, rfl⟩, rfl, rfl⟩, rfl, rfl⟩, rfl, rfl⟩
    refine R.go 4 (R.any (by decide +kernel) (by kernel_rfl) ?_)
    refine R.anyF 1 (by kernel_rfl) (np_retX _ _ _ _ _ _) ?_
    refine R.any2 0 2 (by kernel_rfl) (by kernel_rfl) ?_ ?_
    · refine R.go 2 (R.any1 2 (by kernel_rfl) (by kernel_rfl) ?_)
      refine R.callX (CallX.inF 0 usC frC (CallX.inF 1 [] [] (CallX.perm [1, 0, 2] [1, 0, 2] (CallX.box 2 28 [AI n_23, LI xs_24, LI vs_25] (CallX.box 1 28 [AI 0, .nil, .nil] (anyX_c_r2 c p1_26 h1_27 20 6 true 28 3 1 [AI 0, .nil, .nil] 28 3 1 [AI n_23, LI xs_24, LI vs_25] hc (by omega)) (by kernel_rfl) (by kernel_rfl) (by kernel_rfl) (by kernel_rfl) (by rintro _ _ ⟨_, _, _, _, rfl, rfl⟩; exact ⟨by kernel_rfl, by kernel_rfl, by kernel_rfl⟩)) (by kernel_rfl) (by kernel_rfl) (by kernel_rfl) (by kernel_rfl) (by rintro _ _ ⟨_, ⟨_, _, _, _, rfl, rfl⟩, rfl⟩; exact ⟨by kernel_rfl, by kernel_rfl, by kernel_rfl⟩)) (by kernel_rfl) (by kernel_rfl) (by kernel_rfl) (by rintro _ _ ⟨_, ⟨_, ⟨_, _, _, _, rfl, rfl⟩, rfl⟩, rfl⟩; exact Nat.le_of_ble_eq_true (by kernel_rfl))) (Nat.le_of_ble_eq_true (by kernel_rfl)) (by kernel_rfl) (by kernel_rfl) (by rintro _ _ ⟨_, _, ⟨_, ⟨_, ⟨_, _, _, _, rfl, rfl⟩, rfl⟩, rfl⟩, rfl, rfl⟩; exact Nat.le_of_ble_eq_true (by kernel_rfl))) (Nat.le_of_ble_eq_true (by kernel_rfl)) (by kernel_rfl) (by kernel_rfl) (by rintro _ _ ⟨_, _, ⟨_, _, ⟨_, ⟨_, ⟨_, _, _, _, rfl, rfl⟩, rfl⟩, rfl⟩, rfl, rfl⟩, rfl, rfl⟩; exact Nat.le_of_ble_eq_true (by kernel_rfl))) (by kernel_rfl) (by kernel_rfl) (by kernel_rfl) ?_
      rintro _ _ ⟨_, _, ⟨_, _, ⟨_, _, ⟨_, ⟨_, ⟨r_30, p1_31, h1_32, f33, rfl, rfl⟩, rfl⟩, rfl⟩, rfl, rfl⟩, rfl, rfl⟩, rfl, rfl⟩
      refine R.go 1 (R.any1 3 (by kernel_rfl) (by kernel_rfl) ?_)
      refine R.go 2 (R.any1 4 (by kernel_rfl) (by kernel_rfl) ?_)
      refine R.go 2 (R.any0 (by kernel_rfl) ?_)
      exact R.retX (res := .tup [.agg [AI n_23, LI xs_24, LI vs_25], LN r_30]) (hp' := [.dead, .box 28 [AI n_23, LI xs_24, LI vs_25], .frame [] [], .box 112 [LB c, AI (p1_31 : Int), .int .u64 h1_32], .box 28 [AI n_23, LI xs_24, LI vs_25]]) (by kernel_rfl) (by kernel_rfl) (by kernel_rfl) (by kernel_rfl) ⟨[], by kernel_rfl, by decide, n_23, xs_24, vs_25, r_30, by first | assumption | omega, by first | assumption | omega, by first | assumption | omega, by kernel_rfl, by kernel_rfl⟩
    · refine R.callX (CallX.inF 0 usC frC (CallX.inF 1 [] [] (CallX.perm [1, 0, 2] [1, 0, 2] (CallX.box 2 28 [AI n_23, LI xs_24, LI vs_25] (CallX.box 1 28 [AI 0, .nil, .nil] (anyX_c_r2 c p1_26 h1_27 20 6 true 28 3 1 [AI 0, .nil, .nil] 28 3 1 [AI n_23, LI xs_24, LI vs_25] hc (by omega)) (by kernel_rfl) (by kernel_rfl) (by kernel_rfl) (by kernel_rfl) (by rintro _ _ ⟨_, _, _, _, rfl, rfl⟩; exact ⟨by kernel_rfl, by kernel_rfl, by kernel_rfl⟩)) (by kernel_rfl) (by kernel_rfl) (by kernel_rfl) (by kernel_rfl) (by rintro _ _ ⟨_, ⟨_, _, _, _, rfl, rfl⟩, rfl⟩; exact ⟨by kernel_rfl, by kernel_rfl, by kernel_rfl⟩)) (by kernel_rfl) (by kernel_rfl) (by kernel_rfl) (by rintro _ _ ⟨_, ⟨_, ⟨_, _, _, _, rfl, rfl⟩, rfl⟩, rfl⟩; exact Nat.le_of_ble_eq_true (by kernel_rfl))) (Nat.le_of_ble_eq_true (by kernel_rfl)) (by kernel_rfl) (by kernel_rfl) (by rintro _ _ ⟨_, _, ⟨_, ⟨_, ⟨_, _, _, _, rfl, rfl⟩, rfl⟩, rfl⟩, rfl, rfl⟩; exact Nat.le_of_ble_eq_true (by kernel_rfl))) (Nat.le_of_ble_eq_true (by kernel_rfl)) (by kernel_rfl) (by kernel_rfl) (by rintro _ _ ⟨_, _, ⟨_, _, ⟨_, ⟨_, ⟨_, _, _, _, rfl, rfl⟩, rfl⟩, rfl⟩, rfl, rfl⟩, rfl, rfl⟩; exact Nat.le_of_ble_eq_true (by kernel_rfl))) (by kernel_rfl) (by kernel_rfl) (by kernel_rfl) ?_
      rintro _ _ ⟨_, _, ⟨_, _, ⟨_, _, ⟨_, ⟨_, ⟨r_34, p1_35, h1_36, f37, rfl, rfl⟩, rfl⟩, rfl⟩, rfl, rfl⟩, rfl, rfl⟩, rfl, rfl⟩
      refine R.go 1 (R.any1 0 (by kernel_rfl) (by kernel_rfl) ?_)
      refine R.go 2 (R.any1 3 (by kernel_rfl) (by kernel_rfl) ?_)
      refine R.go 2 (R.any1 4 (by kernel_rfl) (by kernel_rfl) ?_)
      refine R.go 2 (R.any0 (by kernel_rfl) ?_)
      exact R.retX (res := .tup [.agg [AI n_23, LI xs_24, LI vs_25], LN r_34]) (hp' := [.dead, .box 28 [AI n_23, LI xs_24, LI vs_25], .frame [] [], .box 112 [LB c, AI (p1_35 : Int), .int .u64 h1_36], .box 28 [AI n_23, LI xs_24, LI vs_25]]) (by kernel_rfl) (by kernel_rfl) (by kernel_rfl) (by kernel_rfl) ⟨[], by kernel_rfl, by decide, n_23, xs_24, vs_25, r_34, by first | assumption | omega, by first | assumption | omega, by first | assumption | omega, by kernel_rfl, by kernel_rfl⟩

end Go.Proofs.Ytgebepfdphmjcaa


/-! The machine's rules: pairs of numbers are compared. -/
namespace Go.Abs
open Go.RowKit

def intT (P : Program) (t : TypeId) : Bool := match P.underlying t with
  | some (.int _) => true
  | _ => false
/-- A struct of two numbers. -/
def pairB (P : Program) (t : TypeId) : Bool :=
  (match P.underlying t with
  | some (.struct fs) => match fs.toList with
    | [f1, f2] => decide (f1.name ≠ "_" ∧ f2.name ≠ "_" ∧ f1.offset = 0 ∧ f2.offset = 1) && intT P f1.type && intT P f2.type
    | _ => false
  | _ => false) && !P.stoodInHeld t && !P.eqGuardType P.depth t

theorem intT_parts {P : Program} {t : TypeId} (h : intT P t = true) : ∃ k, P.underlying t = some (.int k) := by
  unfold intT at h
  split at h
  · exact ⟨_, by assumption⟩
  · cases h

theorem run_pairEq {P : Program} {t : TypeId} (h : pairB P t = true) (k k' : IntKind) (a b c d : Int) (w : World) : (Op.equalIn 10000 t (.agg #[.int k a, .int k' b]) (.agg #[.int k c, .int k' d])).run P w = .ok (decide (a = c ∧ b = d)) w := by
  unfold pairB at h
  simp only [Bool.and_eq_true, Bool.not_eq_true'] at h
  obtain ⟨⟨h, hst⟩, _⟩ := h
  split at h
  · rename_i fs hu
    split at h
    · rename_i f1 f2 hfs
      simp only [Bool.and_eq_true, decide_eq_true_eq] at h
      obtain ⟨⟨⟨n1, n2, o1, o2⟩, i1⟩, i2⟩ := h
      obtain ⟨k1, u1⟩ := intT_parts i1
      obtain ⟨k2, u2⟩ := intT_parts i2
      have hf : P.fieldsOf t = fs := by unfold Program.fieldsOf; rw [hu]
      rw [run_equalIn_struct w 9999 t _ _ (by rw [hf]; exact hu) hst, hf, hfs]
      have g1 : aggB P f1.type = some false := by unfold aggB; rw [u1]; rfl
      have g2 : aggB P f2.type = some false := by unfold aggB; rw [u2]; rfl
      have p1 : ∀ x y : Value, (part f1.type #[x, y] f1.offset).run P w = .ok x w := fun x y => run_part1 g1 (by rw [o1]; rfl) w
      have p2 : ∀ x y : Value, (part f2.type #[x, y] f2.offset).run P w = .ok y w := fun x y => run_part1 g2 (by rw [o2]; rfl) w
      simp only [Op.eqFields, if_pos n1, if_pos n2, Sem.run_bind, p1, p2, Result.andThen_ok, run_equalIn_int w 9998 f1.type k k1 a c u1, run_equalIn_int w 9998 f2.type k' k2 b d u2, Sem.run_ite, Sem.run_pure]
      by_cases e1 : a = c <;> by_cases e2 : b = d <;> simp [e1, e2]
    · cases h
  · cases h

def eqAt (P : Program) (m : M) : Option (Bool × Int × Int × Int × Int) :=
  match opM m with
  | some (.binOp .eql t x y _) => match ev m.st.fr x, ev m.st.fr y with
    | .agg [.int k a, .int k' b], .agg [.int k2 c, .int k3 d] => if pairB P t = true ∧ k = k2 ∧ k' = k3 then some (true, a, b, c, d) else none
    | _, _ => none
  | some (.binOp .neq t x y _) => match ev m.st.fr x, ev m.st.fr y with
    | .agg [.int k a, .int k' b], .agg [.int k2 c, .int k3 d] => if pairB P t = true ∧ k = k2 ∧ k' = k3 then some (false, a, b, c, d) else none
    | _, _ => none
  | _ => none

section
variable {rd : Option Nat} {P : Program} {m : M} {Q : Exit → St → Prop}
theorem OpsQ.val {all : Array Oper} {o : Oper} {l : List Oper} {fr : List AV} {hp : List AObj} {R : Exit → St → Prop} {b : AV} (hw : WantedA all o fr) (hcall : ∀ c, o.op ≠ .defer c)
    (hrun : ∀ (Z : Nat → Prop) (μ : List Value) (a : Act) (w : World), RelL w Z μ fr a.tmps.toList → ∃ v, (execOp a.eval o).run P w = .ok (.value v) w ∧ Rel w Z μ b v) (h' : OpsQ rd P all l ⟨putF fr o.dst b, hp⟩ R) : OpsQ rd P all (o :: l) ⟨fr, hp⟩ R := by
  intro Z0 w0 a w hS
  obtain ⟨μ, F, hFb, hH, hF, hd, hbel⟩ := hS
  refine wpListIn_step fun K hK => ?_
  rw [wanted_rel hF hw, if_pos rfl]
  obtain ⟨v, hr, hv⟩ := hrun _ μ a w hF
  refine wpIn_of_run (fun c' h => hcall _ h) ?_
  rw [hr]
  exact hK _ _ (h' Z0 w0 _ w ⟨μ, F, hFb, hH, put_rel hF _ hv, by rw [put_defers']; exact hd, hbel⟩)

theorem agg2 {w : World} {Z : Nat → Prop} {μ : List Value} {k k' : IntKind} {a b : Int} {v : Value} (h : Rel w Z μ (.agg [.int k a, .int k' b]) v) : v = .agg #[.int k a, .int k' b] := by
  simp only [Rel, RelL] at h
  obtain ⟨xs, rfl, x, ys, rfl, rfl, y, zs, rfl, rfl, rfl⟩ := h
  rfl

theorem R.eqN (e : Bool) (a b c d : Int) (v : Bool) (h : eqAt P m = some (e, a, b, c, d)) (ho : opsAt m = true) (hv : v = (if e = true then decide (a = c ∧ b = d) else !decide (a = c ∧ b = d))) (h' : Runs rd P (putM m none (.bool v) m.st.hp) Q) : Runs rd P m Q := by
  subst hv
  obtain ⟨ks, ⟨fr, hp⟩⟩ := m
  unfold eqAt opM headOf at h
  unfold opsAt at ho
  simp only [putM, runs_iff] at h ho h' ⊢
  split at ho
  · rename_i all o l fl ks'
    simp only [RunsK] at h' ⊢
    intro hW
    split at h
    · rename_i t x y ty hop
      split at hop
      · rename_i all' o' f' t' heq
        simp only [Option.some.injEq, Prod.mk.injEq] at heq
        obtain ⟨rfl, rfl, rfl, _⟩ := heq
        split at hop
        · rename_i hw
          simp only [Option.some.injEq] at hop
          split at h
          · rename_i k a1 k' b1 k2 c1 k3 d1 hx hy
            split at h
            · rename_i hc
              obtain ⟨hp1, rfl, rfl⟩ := hc
              simp only [Option.some.injEq, Prod.mk.injEq] at h
              obtain ⟨rfl, rfl, rfl, rfl, rfl⟩ := h
              refine OpsQ.val (wantH_true hw hW) (fun c => by rw [hop]; simp) (fun Z μ ac w hF => ⟨.bool (decide (a1 = c1 ∧ b1 = d1)), ?_, by simp [Rel]⟩) (h' headW_false)
              have h1 := agg2 (hx ▸ ev_rel hF x)
              have h2 := agg2 (hy ▸ ev_rel hF y)
              have hg : P.eqGuardType P.depth t = false := by unfold pairB at hp1; simp only [Bool.and_eq_true, Bool.not_eq_true'] at hp1; exact hp1.2
              simp only [execOp, hop, h1, h2, Sem.run_bind, run_eqGuard_agg w .eql t x y _ _ hg, Result.andThen_ok, run_eql_struct w, run_pairEq hp1, Sem.run_pure]
            · cases h
          · cases h
        · cases hop
      · cases hop
    · rename_i t x y ty hop
      split at hop
      · rename_i all' o' f' t' heq
        simp only [Option.some.injEq, Prod.mk.injEq] at heq
        obtain ⟨rfl, rfl, rfl, _⟩ := heq
        split at hop
        · rename_i hw
          simp only [Option.some.injEq] at hop
          split at h
          · rename_i k a1 k' b1 k2 c1 k3 d1 hx hy
            split at h
            · rename_i hc
              obtain ⟨hp1, rfl, rfl⟩ := hc
              simp only [Option.some.injEq, Prod.mk.injEq] at h
              obtain ⟨rfl, rfl, rfl, rfl, rfl⟩ := h
              refine OpsQ.val (wantH_true hw hW) (fun c => by rw [hop]; simp) (fun Z μ ac w hF => ⟨.bool (!decide (a1 = c1 ∧ b1 = d1)), ?_, by simp [Rel]⟩) (h' headW_false)
              have h1 := agg2 (hx ▸ ev_rel hF x)
              have h2 := agg2 (hy ▸ ev_rel hF y)
              have hg : P.eqGuardType P.depth t = false := by unfold pairB at hp1; simp only [Bool.and_eq_true, Bool.not_eq_true'] at hp1; exact hp1.2
              simp only [execOp, hop, h1, h2, Sem.run_bind, run_eqGuard_agg w .neq t x y _ _ hg, Result.andThen_ok, run_neq_struct w, run_pairEq hp1, Sem.run_pure]
            · cases h
          · cases h
        · cases hop
      · cases hop
    · cases h
  · cases ho
end
end Go.Abs


/-! Negation normal forms: the reference, the tops; models. -/
namespace Go.Proofs.Ytgebepfdphmjcaa
open Go.RowKit Go.Abs

section
variable {nv : Nat} {a : List (Int × Int)} {p : Bool}
end
theorem okMo_in {n : Int} {xs vs : List Int} (h : okMo n xs vs = true) : okFr n xs = true ∧ vs.length = 6 ∧ ∀ j : Nat, j < 6 → InM n.toNat (vs.getD j 0) := by
  obtain ⟨h1, h2⟩ := okMo_fr h
  obtain ⟨h0, h8, _, _⟩ := okFr_rel h1
  refine ⟨h1, h2, fun j hj => ?_⟩
  simp only [okMo, Bool.and_eq_true, Bool.not_eq_true'] at h
  have := h.2
  rw [List.any_eq_false] at this
  have hm : vs.getD j 0 ∈ vs := by
    rw [List.getD_eq_getElem?_getD, List.getElem?_eq_getElem (by omega)]
    exact List.getElem_mem _
  have := this _ hm
  simp only [Bool.not_eq_true', Bool.not_eq_false] at this
  refine (full_rng (n := n.toNat) (by omega)).2 ?_
  rw [nn_eq h0]
  exact this
end Go.Proofs.Ytgebepfdphmjcaa


/-! Calls that need no object of the caller's, beside any objects. -/
namespace Go.Abs
open Go.RowKit

theorem zone_two {Z0 F F1 : Nat → Prop} {B C : Nat} (hBC : B ≤ C) (hF : ∀ b, F b → B ≤ b ∧ b < C) (hF1 : ∀ b, F1 b → C ≤ b) (b : Nat) : Zone Z0 (fun b => F b ∨ F1 b) B b ↔ Zone (Zone Z0 F B) F1 C b := by
  unfold Zone
  constructor
  · rintro (⟨h1, h2⟩ | ⟨h1, h2⟩)
    · exact .inl ⟨by omega, .inl ⟨h1, h2⟩⟩
    · rcases Nat.lt_or_ge b C with h | h
      · exact .inl ⟨h, .inr ⟨h1, fun hf => h2 (.inl hf)⟩⟩
      · exact .inr ⟨h, fun hf => h2 (.inr hf)⟩
  · rintro (⟨h1, h2 | h2⟩ | ⟨h1, h2⟩)
    · exact .inl h2
    · refine .inr ⟨h2.1, ?_⟩
      rintro (hf | hf)
      · exact h2.2 hf
      · have := hF1 b hf; omega
    · refine .inr ⟨by omega, ?_⟩
      rintro (hf | hf)
      · have := hF b hf; omega
      · exact h2 hf

section
variable {rd : Option Nat} {P : Program} {m : M} {Q : Exit → St → Prop}
theorem CallX.any {f : FuncId} {args : List AV} {Φ : AV → List AObj → Prop} (hp : List AObj) (hc : CallX P f args [] Φ) (hl : leafyL args = true) (hΦ : ∀ r h, Φ r h → h = []) : CallX P f args hp fun r h => h = hp ∧ Φ r [] := by
  obtain ⟨hen, hc⟩ := hc
  refine ⟨hen, ?_⟩
  intro Z0 F w0 w μ vs us fr hFb hH hvs hus hbel
  have hBC := hbel.size
  have zn : ∀ b, b < w.heap.size → (Zone (Zone Z0 F w0.heap.size) NoF w.heap.size b ↔ Zone Z0 F w0.heap.size b) := fun b hb => by
    unfold Zone NoF
    constructor
    · rintro (h | h)
      · exact h.2
      · omega
    · exact fun h => .inl ⟨hb, h⟩
  have hvs1 : RelL w (Zone (Zone Z0 F w0.heap.size) NoF w.heap.size) [] args vs := (RelL.leafy hl hvs).weak fun b hb h1 h2 => h1 ((zn b hb).1 h2)
  have h0 : HRel w (Zone (Zone Z0 F w0.heap.size) NoF w.heap.size) w.heap.size [] [] := ⟨rfl, fun i o u g h => by simp at h, fun i u h => by simp at h, fun i o u h => by simp at h, fun i j oi oj ui uj g _ h => by simp at h⟩
  refine (hc (Zone Z0 F w0.heap.size) NoF w w [] vs [] [] (fun b h => h.elim) h0 hvs1 RelL.nil (Below.refl _ _)).mono ?_
  rintro e w' ⟨v, μ', F1, res, hp', hΦ1, rfl, hF1, hH1, hres, _, hb1⟩
  have e1 := hΦ _ _ hΦ1
  subst e1
  have hm' : μ' = [] := List.eq_nil_of_length_eq_zero (by simpa using hH1.len)
  subst hm'
  have z2 := zone_two (Z0 := Z0) hBC hFb (fun b h => (hF1 b h).1)
  have hk : ∀ b, b < w.heap.size → w'.heap[b]? = w.heap[b]? := fun b hb => hb1.block b hb
  have hold : ∀ b, b < w'.heap.size → ¬ Zone Z0 F w0.heap.size b → ¬ Zone Z0 (fun b => F b ∨ F1 b) w0.heap.size b := by
    intro b _ h1 h2
    rcases Nat.lt_or_ge b w.heap.size with h | h
    · rcases (z2 b).1 h2 with h3 | h3
      · exact h1 h3.2
      · omega
    · exact h1 (.inr ⟨by omega, fun hf => by have := hFb b hf; omega⟩)
  refine ⟨v, μ, fun b => F b ∨ F1 b, res, hp, ⟨rfl, hΦ1⟩, rfl, ?_, ?_, ?_, ?_, hbel.trans (hb1.mono hBC)⟩
  · rintro b (h | h)
    · have := hFb b h; have := hb1.size; omega
    · have := hF1 b h; omega
  · refine ⟨hH.len, fun i o u g h1 ha h2 hg => ?_, hH.one, fun i o u h1 h2 => ?_, hH.sep⟩
    · have hz := hH.zone i o u g h1 ha h2 hg
      have hlt := ((hH.obj i o u h1 h2).blk_ge ha hg).2
      exact (z2 g).2 (.inl ⟨hlt, hz⟩)
    · have h3 := hH.obj i o u h1 h2
      cases ha : o.alive with
      | true => exact (h3.keep (w' := w') (fun b hb _ => hk b hb) (fun _ _ h => h) (fun g hg => hk g (h3.blk_ge ha hg).2)).weak hold
      | false => exact (h3.keep_dead (w' := w') (B' := w0.heap.size) (u' := u) (fun b hb _ => hk b hb) (fun _ _ h => h) ha).weak hold
  · exact Rel.lift (hres.weak fun b _ h1 h2 => h1 ((z2 b).1 h2))
  · exact (hus.keep (w' := w') (fun b hb _ => hk b hb) (fun _ _ h => h)).weak hold

theorem R.callX0 {f : FuncId} {avs : List AV} {Φ : AV → List AObj → Prop} (hc : CallX P f avs [] Φ) (hl : leafyL avs = true) (h0 : ∀ r h, Φ r h → h = []) (h : csAt m = some (f, avs)) (ht : opsHd m = true) (h' : ∀ res, Φ res [] → Runs rd P (putM m none res m.st.hp) Q) : Runs rd P m Q :=
  R.callX (hc.any m.st.hp hl h0) h rfl ht fun res hp' ⟨e, hΦ⟩ => by subst e; exact h' res hΦ
end
end Go.Abs


/-! Signs of the places of a formula. -/
namespace Go.Proofs.Ytgebepfdphmjcaa
open Go.RowKit Go.Abs

def sgN (k p : Int) : Int := if k = 4 then IntKind.i64.wrap (0 - p) else p
def polK : Nat → List (Int × Int) → Int → List Int
  | 0, _, _ => []
  | m + 1, a, p => p :: (if partsN (a.getD 0 (0, 0)).1 = 1 then polK m (a.drop 1) p else if partsN (a.getD 0 (0, 0)).1 = 2 then polK m (lef a) (sgN (a.getD 0 (0, 0)).1 p) ++ polK m (rig a) p else [])
theorem pol_fuel {nv : Nat} : ∀ (k k' : Nat) (a : List (Int × Int)) (p : Int), OKM nv a → a.length ≤ k → a.length ≤ k' → polK k a p = polK k' a p
  | 0, _, a, _, ha, hk, _ => by have := okm_pos ha; omega
  | k + 1, 0, a, _, ha, _, hk => by have := okm_pos ha; omega
  | k + 1, k' + 1, a, p, ha, hk, hk' => by
    rw [polK, polK]
    congr 1
    split
    · rename_i h
      have := okm_pos ha
      exact pol_fuel k k' _ p (okm_tail ha h) (by rw [List.length_drop]; omega) (by rw [List.length_drop]; omega)
    · split
      · rename_i h
        have hl := lenm_lef ha h
        rw [pol_fuel k k' _ _ (okm_lef ha h) (by omega) (by omega), pol_fuel k k' _ _ (okm_rig ha h) (by omega) (by omega)]
      · rfl
def polF (a : List (Int × Int)) (p : Int) : List Int := polK a.length a p
def prtsL (a : List (Int × Int)) : List (List (Int × Int)) := if partsN (a.getD 0 (0, 0)).1 = 1 then [a.drop 1] else if partsN (a.getD 0 (0, 0)).1 = 2 then [lef a, rig a] else []
theorem polF_e {nv : Nat} {a : List (Int × Int)} {p : Int} (ha : OKM nv a) : polF a p = p :: (if partsN (a.getD 0 (0, 0)).1 = 1 then polF (a.drop 1) p else if partsN (a.getD 0 (0, 0)).1 = 2 then polF (lef a) (sgN (a.getD 0 (0, 0)).1 p) ++ polF (rig a) p else []) := by
  have hp := okm_pos ha
  obtain ⟨m, hm⟩ : ∃ m, a.length = m + 1 := ⟨a.length - 1, by omega⟩
  unfold polF
  rw [hm, polK]
  congr 1
  split
  · rename_i h
    exact pol_fuel m _ _ p (okm_tail ha h) (by rw [List.length_drop]; omega) (Nat.le_refl _)
  · split
    · rename_i h
      have hl := lenm_lef ha h
      rw [pol_fuel m _ _ _ (okm_lef ha h) (by omega) (Nat.le_refl _), pol_fuel m _ _ _ (okm_rig ha h) (by omega) (Nat.le_refl _)]
    · rfl
theorem prts_ok {nv : Nat} {a : List (Int × Int)} (ha : OKM nv a) {i : Nat} (hi : i < (prtsL a).length) : OKM nv ((prtsL a).getD i []) ∧ ((prtsL a).getD i []).length < a.length := by
  have hp := okm_pos ha
  unfold prtsL at hi ⊢
  split at hi
  · rename_i h
    simp only [if_pos h] at hi ⊢
    have : i = 0 := by simp at hi; omega
    subst this
    exact ⟨okm_tail ha h, by simp; omega⟩
  · split at hi
    · rename_i h1 h
      simp only [if_neg h1, if_pos h] at hi ⊢
      have hl := lenm_lef ha h
      have : i = 0 ∨ i = 1 := by simp at hi; omega
      rcases this with rfl | rfl
      · exact ⟨okm_lef ha h, hl.1⟩
      · exact ⟨okm_rig ha h, hl.2.1⟩
    · simp at hi
theorem prts_le (a : List (Int × Int)) : (prtsL a).length ≤ 2 := by
  unfold prtsL
  split
  · simp
  · split <;> simp
/-- The signs of a node and of its first parts. -/
def polT (a : List (Int × Int)) (p : Int) : Nat → List Int
  | 0 => [p]
  | i + 1 => polT a p i ++ polF ((prtsL a).getD i []) (if (a.getD 0 (0, 0)).1 = 4 ∧ i = 0 then IntKind.i64.wrap (0 - p) else p)
theorem prts_1 {a : List (Int × Int)} (h : partsN (a.getD 0 (0, 0)).1 = 1) : prtsL a = [a.drop 1] := by rw [prtsL, if_pos h]
theorem prts_2 {a : List (Int × Int)} (h : partsN (a.getD 0 (0, 0)).1 = 2) : prtsL a = [lef a, rig a] := by rw [prtsL, if_neg (by omega), if_pos h]
theorem prts_0 {a : List (Int × Int)} (h1 : ¬ partsN (a.getD 0 (0, 0)).1 = 1) (h : ¬ partsN (a.getD 0 (0, 0)).1 = 2) : prtsL a = [] := by rw [prtsL, if_neg h1, if_neg h]
theorem polT_end {nv : Nat} {a : List (Int × Int)} {p : Int} (ha : OKM nv a) {i : Nat} (hi : i = (prtsL a).length) : polT a p i = polF a p := by
  subst hi
  rw [polF_e ha]
  by_cases h : partsN (a.getD 0 (0, 0)).1 = 1
  · have h4 : ¬ (a.getD 0 (0, 0)).1 = 4 := fun e => by rw [e] at h; exact absurd h (by decide)
    rw [if_pos h, prts_1 h]
    show [p] ++ polF ((prtsL a).getD 0 []) (if (a.getD 0 (0, 0)).1 = 4 ∧ 0 = 0 then IntKind.i64.wrap (0 - p) else p) = _
    rw [prts_1 h, if_neg (fun h => h4 h.1)]
    rfl
  · rw [if_neg h]
    by_cases h2 : partsN (a.getD 0 (0, 0)).1 = 2
    · rw [if_pos h2, prts_2 h2]
      show [p] ++ polF ((prtsL a).getD 0 []) (if (a.getD 0 (0, 0)).1 = 4 ∧ 0 = 0 then IntKind.i64.wrap (0 - p) else p) ++ polF ((prtsL a).getD 1 []) (if (a.getD 0 (0, 0)).1 = 4 ∧ 1 = 0 then IntKind.i64.wrap (0 - p) else p) = _
      rw [prts_2 h2, if_neg (fun h : _ ∧ 1 = 0 => absurd h.2 (by decide)), sgN]
      simp only [and_true]
      rfl
    · rw [if_neg h2, prts_0 h h2]
      rfl
theorem polF_len {nv : Nat} {a : List (Int × Int)} (ha : OKM nv a) : ∀ p, (polF a p).length = a.length := by
  have main : ∀ (m : Nat) (a : List (Int × Int)) (p : Int), a.length ≤ m → OKM nv a → (polF a p).length = a.length := by
    intro m
    induction m with
    | zero => intro a p hl ha; have := okm_pos ha; omega
    | succ m ih =>
      intro a p hl ha
      rw [polF_e ha]
      rcases okm_cases ha with ⟨v, rfl, h0, h3⟩ | ⟨s, rfl⟩ | ⟨c, s, L, R, hc, rfl, hL, hR, el, er⟩ | ⟨c, s, L, hc, rfl, hL⟩
      · rfl
      · rfl
      · simp only [List.length_cons, List.length_append] at hl
        have h2 : partsN c = 2 := (partsN_two c).2 hc
        simp only [List.getD_cons_zero, h2, el, er]
        rw [if_neg (by decide), if_pos trivial, List.length_cons, List.length_append, ih L _ (by omega) hL, ih R _ (by omega) hR]
        simp
      · simp only [List.length_cons] at hl
        have h1 : partsN c = 1 := partsN_1 hc
        simp only [List.getD_cons_zero, h1]
        rw [if_pos trivial, List.length_cons, List.drop_succ_cons, List.drop_zero, ih L _ (by omega) hL]
        simp
  exact fun p => main _ a p (Nat.le_refl _) ha

theorem parts0_c (nv : Nat) (a : List (Int × Int)) (hok : OKM nv a) (h1 : ¬ partsN (a.getD 0 (0, 0)).1 = 1) (hp : ¬ partsN (a.getD 0 (0, 0)).1 = 2) (hl : a.length ≤ 1000000000) : CallA Try.prog 106 [LN a] (ownA eLN 29 1 []) := by
  have h1 := okm_pos hok
  refine CallA.of Try.func106 rfl (by kernel_rfl) ?_
  refine R.go 8 (R.idx eN a (0, 0) 0 0 (by kernel_rfl) rfl eN_len (by omega) (by kernel_rfl) ?_)
  refine R.go 2 (R.call true (partsOf_c ((a.getD 0 (0, 0)).1)) (by kernel_rfl) rfl (by kernel_rfl) ?_)
  refine R.go 7 (R.cond ((partsN ((a.getD 0 (0, 0)).1) : Int) = 1) (by kernel_rfl) (fun c1 => ?_) (fun c1 => ?_))
  · exfalso; omega -- no contract for f140 loop.example/g01089/impl.first (LN a)
  · refine R.go 5 (R.cond ((partsN ((a.getD 0 (0, 0)).1) : Int) = 2) (by kernel_rfl) (fun c2 => ?_) (fun c2 => ?_))
    · exfalso; omega -- no contract for f140 loop.example/g01089/impl.first (LN a)
    · refine R.go 6 (R.nil 2 29 1 (by kernel_rfl) ?_)
      exact R.retE (ownA eLN 29 1 []) (by kernel_rfl) (by kernel_rfl) (by rfl)

theorem l03Pol_c : ∀ (k : Nat) (nv : Nat) (a : List (Int × Int)) (p : Int) (hk : a.length = k) (hok : OKM nv a) (hl : a.length ≤ 300000), CallA Try.prog 102 [LN a, AI p] (ownA eI 2 1 (polF a p)) := by
  intro k
  induction k using Nat.strongRecOn with
  | _ k ih =>
  intro nv a p hk hok hl
  have hpos := okm_pos hok
  have hg := okm_get hok 0 (by omega)
  have hln := fun q => polF_len hok q
  refine CallA.of Try.func102 rfl (by kernel_rfl) ?_
  refine R.go 14 (R.idx eN a (0, 0) 0 0 (by kernel_rfl) rfl eN_len (by omega) (by kernel_rfl) ?_)
  refine R.go 2 (R.call true (l02Parts_c ((a.getD 0 (0, 0)).1)) (by kernel_rfl) rfl (by kernel_rfl) ?_)
  refine R.go 7 (R.cond ((partsN ((a.getD 0 (0, 0)).1) : Int) = 1) (by kernel_rfl) (fun c1 => ?_) (fun c1 => ?_))
  · have h1p : partsN (a.getD 0 (0, 0)).1 = 1 := by omega
    have hq1 := okm_tail hok h1p
    have bd : (a.drop 1).length = a.length - 1 := by simp
    have b1 := polF_len hq1 p
    have b1t := b1
    simp at b1t
    refine R.go 4 (R.slL eN a 1 1 (by kernel_rfl) rfl eN_len (by omega) (by kernel_rfl) ?_)
    refine R.go 1 (R.call true (ih ((a.drop 1).length) (by omega) nv (a.drop 1) p (by first | rfl | simp) (by first | assumption | exact okm_lef hok (by omega) | exact okm_rig hok (by omega) | exact okm_tail hok (by omega)) (by first | omega | (simp <;> omega))) (by kernel_rfl) rfl (by kernel_rfl) ?_)
    refine R.app eI [p] (polF (a.drop 1) p) 0 2 1 8 (by kernel_rfl) eI_one (by decide) (by first | omega | (simp <;> omega)) (by kernel_rfl) ?_
    exact R.go 2 (R.retE (ownA eI 2 1 ([p] ++ (polF (a.drop 1) p))) (by kernel_rfl) (by kernel_rfl) (by first | (rw [polF_e hok]; first | (rw [if_pos h1p]; rfl) | (rw [if_neg (by omega), if_pos h2p, sgN, if_pos (by assumption)]; rfl) | (rw [if_neg (by omega), if_pos h2p, sgN, if_neg (by assumption)]; rfl) | (rw [if_neg n1, if_neg n2])) | (exfalso; omega)))
  · refine R.go 5 (R.cond ((partsN ((a.getD 0 (0, 0)).1) : Int) = 2) (by kernel_rfl) (fun c2 => ?_) (fun c2 => ?_))
    · have h2p : partsN (a.getD 0 (0, 0)).1 = 2 := by omega
      have hk2 := (partsN_two _).1 h2p
      have hq2 := lenm_lef hok h2p
      have hqL := okm_lef hok h2p
      have hqR := okm_rig hok h2p
      have b1 := polF_len hqL p
      have b2 := polF_len hqL (IntKind.i64.wrap (0 - p))
      have b3 := polF_len hqR p
      have b2t := b2
      simp at b2t
      refine R.go 9 (R.idx eN a (0, 0) 0 0 (by kernel_rfl) rfl eN_len (by omega) (by kernel_rfl) ?_)
      refine R.go 4 (R.cond (((a.getD 0 (0, 0)).1) = 4) (by kernel_rfl) (fun c3 => ?_) (fun c3 => ?_))
      · refine R.go 9 (R.call true (l02Left_c nv a hok h2p (by first | omega | (simp <;> omega))) (by kernel_rfl) rfl (by kernel_rfl) ?_)
        refine R.go 1 (R.call true (ih ((lef a).length) (by omega) nv (lef a) (IntKind.i64.wrap (0 - p)) (by first | rfl | simp) (by first | assumption | exact okm_lef hok (by omega) | exact okm_rig hok (by omega) | exact okm_tail hok (by omega)) (by first | omega | (simp <;> omega))) (by kernel_rfl) rfl (by kernel_rfl) ?_)
        refine R.app eI [p] (polF (lef a) (IntKind.i64.wrap (0 - p))) 0 2 1 8 (by kernel_rfl) eI_one (by decide) (by first | omega | (simp <;> omega)) (by kernel_rfl) ?_
        refine R.go 6 (R.call true (l02Right_c nv a hok h2p (by first | omega | (simp <;> omega))) (by kernel_rfl) rfl (by kernel_rfl) ?_)
        refine R.go 1 (R.call true (ih ((rig a).length) (by omega) nv (rig a) p (by first | rfl | simp) (by first | assumption | exact okm_lef hok (by omega) | exact okm_rig hok (by omega) | exact okm_tail hok (by omega)) (by first | omega | (simp <;> omega))) (by kernel_rfl) rfl (by kernel_rfl) ?_)
        refine R.app eI ([p] ++ (polF (lef a) (IntKind.i64.wrap (0 - p)))) (polF (rig a) p) 0 2 1 8 (by kernel_rfl) eI_one (by decide) (by first | omega | (simp <;> omega)) (by kernel_rfl) ?_
        exact R.go 2 (R.retE (ownA eI 2 1 ([p] ++ (polF (lef a) (IntKind.i64.wrap (0 - p))) ++ (polF (rig a) p))) (by kernel_rfl) (by kernel_rfl) (by first | (rw [polF_e hok]; first | (rw [if_pos h1p]; rfl) | (rw [if_neg (by omega), if_pos h2p, sgN, if_pos (by assumption)]; rfl) | (rw [if_neg (by omega), if_pos h2p, sgN, if_neg (by assumption)]; rfl) | (rw [if_neg n1, if_neg n2])) | (exfalso; omega)))
      · refine R.go 5 (R.call true (l02Left_c nv a hok h2p (by first | omega | (simp <;> omega))) (by kernel_rfl) rfl (by kernel_rfl) ?_)
        refine R.go 1 (R.call true (ih ((lef a).length) (by omega) nv (lef a) p (by first | rfl | simp) (by first | assumption | exact okm_lef hok (by omega) | exact okm_rig hok (by omega) | exact okm_tail hok (by omega)) (by first | omega | (simp <;> omega))) (by kernel_rfl) rfl (by kernel_rfl) ?_)
        refine R.app eI [p] (polF (lef a) p) 0 2 1 8 (by kernel_rfl) eI_one (by decide) (by first | omega | (simp <;> omega)) (by kernel_rfl) ?_
        refine R.go 6 (R.call true (l02Right_c nv a hok h2p (by first | omega | (simp <;> omega))) (by kernel_rfl) rfl (by kernel_rfl) ?_)
        refine R.go 1 (R.call true (ih ((rig a).length) (by omega) nv (rig a) p (by first | rfl | simp) (by first | assumption | exact okm_lef hok (by omega) | exact okm_rig hok (by omega) | exact okm_tail hok (by omega)) (by first | omega | (simp <;> omega))) (by kernel_rfl) rfl (by kernel_rfl) ?_)
        refine R.app eI ([p] ++ (polF (lef a) p)) (polF (rig a) p) 0 2 1 8 (by kernel_rfl) eI_one (by decide) (by first | omega | (simp <;> omega)) (by kernel_rfl) ?_
        exact R.go 2 (R.retE (ownA eI 2 1 ([p] ++ (polF (lef a) p) ++ (polF (rig a) p))) (by kernel_rfl) (by kernel_rfl) (by first | (rw [polF_e hok]; first | (rw [if_pos h1p]; rfl) | (rw [if_neg (by omega), if_pos h2p, sgN, if_pos (by assumption)]; rfl) | (rw [if_neg (by omega), if_pos h2p, sgN, if_neg (by assumption)]; rfl) | (rw [if_neg n1, if_neg n2])) | (exfalso; omega)))
    · have n1 : ¬ partsN (a.getD 0 (0, 0)).1 = 1 := by omega
      have n2 : ¬ partsN (a.getD 0 (0, 0)).1 = 2 := by omega
      exact R.go 7 (R.retE (ownA eI 2 1 [p]) (by kernel_rfl) (by kernel_rfl) (by first | (rw [polF_e hok]; first | (rw [if_pos h1p]; rfl) | (rw [if_neg (by omega), if_pos h2p, sgN, if_pos (by assumption)]; rfl) | (rw [if_neg (by omega), if_pos h2p, sgN, if_neg (by assumption)]; rfl) | (rw [if_neg n1, if_neg n2])) | (exfalso; omega)))

end Go.Proofs.Ytgebepfdphmjcaa


/-! Calls by reference whose caller's frame does not name one object (a row that the call may move). -/
namespace Go.Abs
open Go.RowKit Go.ChangeShapes Go.WideShapes Go.Deep

mutual
theorem AV.kill_ren {js : List Nat} {q q2 : Nat} (h : ∀ i, js.contains i = true → js.idxOf i = q → i = q2) : ∀ c : AV, c.kill q2 = c → (c.ren js).kill q = c.ren js
  | .int _ _, _ => rfl
  | .bool _, _ => rfl
  | .str _, _ => rfl
  | .nil, _ => rfl
  | .top, _ => rfl
  | .own _ _ _ _, _ => rfl
  | .lst _ _ _, _ => rfl
  | .clp _ _ _, _ => rfl
  | .rptr _, _ => rfl
  | .ref i, hk => by
    simp only [AV.kill, AV.ren] at hk ⊢
    split at hk
    · cases hk
    · rename_i hne
      cases hc : js.contains i with
      | true =>
        simp only [if_true, AV.kill]
        rw [if_neg fun e => hne (h i hc e)]
      | false => simp [AV.kill]
  | .ptr i o, hk => by
    simp only [AV.kill, AV.ren] at hk ⊢
    split at hk
    · cases hk
    · rename_i hne
      cases hc : js.contains i with
      | true =>
        simp only [if_true, AV.kill]
        rw [if_neg fun e => hne (h i hc e)]
      | false => simp [AV.kill]
  | .agg cs, hk => by
    simp only [AV.kill, AV.agg.injEq] at hk
    simp only [AV.ren, AV.kill, killL_ren h cs hk]
  | .tup cs, hk => by
    simp only [AV.kill, AV.tup.injEq] at hk
    simp only [AV.ren, AV.kill, killL_ren h cs hk]
  | .fn f cs, hk => by
    simp only [AV.kill, AV.fn.injEq, true_and] at hk
    simp only [AV.ren, AV.kill, killL_ren h cs hk]
theorem killL_ren {js : List Nat} {q q2 : Nat} (h : ∀ i, js.contains i = true → js.idxOf i = q → i = q2) : ∀ cs : List AV, killL q2 cs = cs → killL q (renL js cs) = renL js cs
  | [], _ => rfl
  | c :: cs, hk => by
    simp only [killL, List.cons.injEq] at hk
    simp only [renL, killL, AV.kill_ren h c hk.1, killL_ren h cs hk.2]
end
theorem killL_app (q : Nat) : ∀ xs ys : List AV, killL q (xs ++ ys) = killL q xs ++ killL q ys
  | [], _ => rfl
  | x :: xs, ys => by simp [killL, killL_app q xs ys]
theorem insI_kill {k n q : Nat} (hk : k ≤ n) : ∀ i, (insI k n).contains i = true → (insI k n).idxOf i = q → i = (if q < k then q else q + 1) := fun i hi hq => by
  obtain ⟨_, g2⟩ := insI_idx hk hi
  rw [hq] at g2
  exact g2

def CallY (P : Program) (q : Nat) (f : FuncId) (args : List AV) (hp : List AObj) (Φ : AV → List AObj → Prop) : Prop :=
  Enters P f ∧ ∀ (Z0 F : Nat → Prop) (w0 w : World) (μ vs us : List Value) (fr : List AV), (∀ b, F b → w0.heap.size ≤ b ∧ b < w.heap.size) → HRel w (Zone Z0 F w0.heap.size) w0.heap.size μ hp → RelL w (Zone Z0 F w0.heap.size) μ args vs → RelL w (Zone Z0 F w0.heap.size) μ fr us → Below w0.heap.size w0 w → killL q fr = fr →
    Calls P f vs.toArray w fun e w' => ∃ v μ' F' res hp', Φ res hp' ∧ e = .returned v ∧ (∀ b, F' b → w0.heap.size ≤ b ∧ b < w'.heap.size) ∧ HRel w' (Zone Z0 F' w0.heap.size) w0.heap.size μ' hp' ∧ Rel w' (Zone Z0 F' w0.heap.size) μ' res v ∧ RelL w' (Zone Z0 F' w0.heap.size) μ' fr us ∧ Below w0.heap.size w0 w'

section
variable {rd : Option Nat} {P : Program} {m : M} {Q : Exit → St → Prop}
theorem OpsQ.callY {all : Array Oper} {o : Oper} {l : List Oper} {fr : List AV} {hp : List AObj} {R : Exit → St → Prop} {c : Operand} {args : Array Operand} {tys : Array TypeId} {q : Nat} {f : FuncId} {caps : List AV} {Φ : AV → List AObj → Prop} (hnm : noMark hp = true) (hw : WantedA all o fr)
    (hop : o.op = .call { callee := .value c, args := args, argTypes := tys }) (hc : ev fr c = .fn f caps) (hk : killL q fr = fr) (hcall : CallY P q f (args.toList.map (ev fr) ++ caps) hp Φ) (h' : ∀ res hp', Φ res hp' → OpsQ rd P all l ⟨putF fr o.dst res, hp'⟩ R) : OpsQ rd P all (o :: l) ⟨fr, hp⟩ R := by
  intro Z0 w0 a w hS
  refine wpListIn_step fun K hK => ?_
  obtain ⟨μ, F, hFb, hH, hF, hd, hb⟩ := hS
  rw [wanted_rel hF hw, if_pos rfl]
  have hE : ∀ y, Rel w (Zone Z0 F w0.heap.size) μ (ev fr y) (a.eval y) := fun y => ev_rel hF y
  have hcv := hc ▸ hE c
  simp only [Rel] at hcv
  obtain ⟨cv, hcv, hrc⟩ := hcv
  have hargs' : RelL w (Zone Z0 F w0.heap.size) μ (args.toList.map (ev fr)) (args.toList.map a.eval) := by
    generalize args.toList = l
    induction l with
    | nil => exact RelL.nil
    | cons x l ih => exact RelL.cons (hE x) ih
  obtain ⟨hen, hcall⟩ := hcall
  have hC := hcall Z0 F w0 w μ _ _ fr hFb hH (hargs'.append hrc) hF hb hk
  have hrun : (execOp a.eval o).run P w = .ok (.enter f (args.toList.map a.eval ++ cv).toArray) w := by
    have e1 : (args.map a.eval ++ cv.toArray) = (args.toList.map a.eval ++ cv).toArray := by
      apply Array.toList_inj.1; simp
    simp only [execOp, hop, resolve, Deferred.ofValue, hcv, Sem.run_bind, Sem.run_pure, Result.andThen_ok, invoke, Array.empty_append]
    rw [e1]
    exact hen _ _
  refine wpIn_of_run (fun c' => by rw [hop]; simp) ?_
  rw [hrun]
  refine upon_enter hC ?_
  rintro en w' ⟨x, μ', F', res, hp', hΦ, rfl, hFb', hH', hr, hF', hbel⟩
  exact ⟨x, rfl, hK _ _ (h' res hp' hΦ Z0 w0 _ _ ⟨μ', F', hFb', hH', put_rel hF' _ hr, by rw [put_defers']; exact .inl (hd.none hnm), hbel⟩)⟩

theorem R.callY {q : Nat} {f : FuncId} {avs : List AV} {hp : List AObj} {Φ : AV → List AObj → Prop} (hc : CallY P q f avs hp Φ) (hk : killL q m.st.fr = m.st.fr) (h : csAt m = some (f, avs)) (hh : m.st.hp = hp) (ht : opsHd m = true) (h' : ∀ res hp', Φ res hp' → Runs rd P (putM m none res hp') Q) : Runs rd P m Q := by
  have hnm := csAt_mark h
  obtain ⟨fo, args, tys, caps, hop, hf, rfl⟩ := csAt_parts h
  subst hh
  obtain ⟨ks, ⟨fr, hp⟩⟩ := m
  unfold opM headOf at hop
  unfold opsHd at ht
  unfold putM at h'
  simp only [runs_iff] at h' ⊢
  try simp only at hop ht h' hf hc hnm hk ⊢
  split at hop
  · rename_i all o fl t heq
    split at hop
    · rename_i hw
      simp only [Option.some.injEq] at hop
      split at heq
      · cases heq
        intro hW
        exact OpsQ.callY hnm (wantH_true hw hW) hop hf hk hc fun res hp' hΦ => h' res hp' hΦ headW_false
      · simp at ht
      · cases heq
    · cases hop
  · cases hop
theorem CallY.ofF {q : Nat} {f : FuncId} {fn : Func} {c : Code} {args : List AV} {hp : List AObj} {Φ : AV → List AObj → Prop} (hf : P.funcs[f]? = some fn) (hb : fn.body = some c) (hnm : (fn.name == "runtime.NumGoroutine") = false)
    (h : ∀ us fr, Fits hp.length fr → killL q fr = fr → Runs none P ⟨[.code c], ⟨frameOf fn.ntmps args, hp ++ [.frame us fr]⟩⟩ (retX P fn hp.length us fr Φ)) : CallY P q f args hp Φ := by
  refine ⟨enters_of hf hnm (by rw [hb]; rfl), ?_⟩
  intro Z0 F w0 w μ vs us fr hFb hH hvs hus hbel hkq
  have hml := hH.len
  have hfit : Fits hp.length fr := ⟨fun js hjs => RelL.fitR (by rw [hml]; exact hjs) hus, fun i hi => RelL.fitK (by rw [hml]; exact hi) hus, fun i r hi => RelL.fitF (by rw [hml]; exact hi) hus⟩
  · have hlen := hvs.length
    refine calls_of_wpIn hf hb ?_
    have hS : Sim Z0 w0 ⟨frameOf fn.ntmps args, hp ++ [.frame us fr]⟩ { tmps := vs.toArray ++ Array.replicate (fn.ntmps - vs.toArray.size) undef, defers := [] } w := by
      refine ⟨μ ++ [.bool false], F, hFb, hH.extend1 (zone_new hbel.size hFb) (Below.refl _ _) ?_ (fun g hg => by simp [blk] at hg) rfl, ?_, .inl rfl, hbel⟩
      · exact RelL.keep (w := w) (fun _ _ _ => rfl) (fun i u hu => append_old i u hu) hus
      · simp only [Array.toList_append, Array.toList_replicate, List.size_toArray, hlen, frameOf]
        refine RelL.append (RelL.keep (w := w) (fun _ _ _ => rfl) (fun i u hu => append_old i u hu) hvs) ?_
        generalize fn.ntmps - args.length = n
        induction n with
        | zero => exact RelL.nil
        | succ n ih => exact RelL.cons (by simp [Rel]) ih
    have hrun2 := h us fr hfit hkq
    simp only [runs_iff] at hrun2
    simp only [RunsK] at hrun2
    refine wpIn_mono (hrun2 Z0 w0 _ w hS) ?_
    have fin : ∀ (e : Exit) (st' : St) (a' : Act) (w' : World), retX P fn hp.length us fr Φ e st' → Sim Z0 w0 st' a' w' → a'.defers = [] ∧ ∃ v, (results fn a'.tmps).run P w' = .ok v w' ∧ ∃ v' μ' F' res hp', Φ res hp' ∧ Ending.returned v = .returned v' ∧ (∀ b, F' b → w0.heap.size ≤ b ∧ b < w'.heap.size) ∧ HRel w' (Zone Z0 F' w0.heap.size) w0.heap.size μ' hp' ∧ Rel w' (Zone Z0 F' w0.heap.size) μ' res v' ∧ RelL w' (Zone Z0 F' w0.heap.size) μ' fr us ∧ Below w0.heap.size w0 w' := by
      rintro e st' a' w' ⟨res, hp', hΦ, _, hres, hfr, hh⟩ ⟨μ', F', hFb', hH', hF', hd', hbel'⟩
      obtain ⟨x, h1, h2⟩ := resIn_run hH' hF' hres
      unfold frameAt at hfr
      split at hfr
      · rename_i us2 fr2 hi
        cases hfr
        have hil : hp.length < μ'.length := by rw [hH'.len]; exact (List.getElem?_eq_some_iff.1 hi).1
        have hfrr : RelL w' (Zone Z0 F' w0.heap.size) μ' fr us := hH'.obj _ _ _ hi (List.getElem?_eq_getElem hil)
        exact ⟨hd'.none (resIn_mark hres), x, h1, x, μ', F', res, hp', hΦ, rfl, hFb', hh ▸ hH'.bury _, h2, hfrr, hbel'⟩
      · cases hfr
    rintro e a' w' ⟨st', hq, hS'⟩
    cases e with
    | normal => exact fin _ st' a' w' hq hS'
    | ret => exact fin _ st' a' w' hq hS'
    | exit id => (obtain ⟨_, _, _, hq, _⟩ := hq; exact absurd hq (by simp))
    | goto l => (obtain ⟨_, _, _, hq, _⟩ := hq; exact absurd hq (by simp))
    | panic ch => (obtain ⟨_, _, _, hq, _⟩ := hq; exact absurd hq (by simp))
    | outgrown => (obtain ⟨_, _, _, hq, _⟩ := hq; exact absurd hq (by simp))
end
section
variable {P : Program}
theorem CallY.dropE {P : Program} {q : Nat} {f : FuncId} {args : List AV} {hp : List AObj} {Φ : AV → List AObj → Prop} (hc : CallY P q f args hp fun r h => ∃ js : List Nat, js.take hp.length = List.range hp.length ∧ js.Nodup ∧ Φ (r.ren js) (renH js h)) :
    CallY P q f args hp Φ := by
  obtain ⟨hen, hc⟩ := hc
  refine ⟨hen, ?_⟩
  intro Z0 F w0 w μ vs us fr hFb hH hvs hus hbel hkq
  refine (hc Z0 F w0 w μ vs us fr hFb hH hvs hus hbel hkq).mono ?_
  rintro e w' ⟨v, μ1, F1, res, hp', ⟨js, h1, h2, hΦ⟩, rfl, hF1, hH1, hres, hfr1, hb1⟩
  have hm1 := hH1.len
  have hjs : ∀ i, i < hp.length → js[i]? = some i := by
    intro i hi
    have := congrArg (fun l : List Nat => l[i]?) h1
    simp only [List.getElem?_take, if_pos hi] at this
    rw [this]
    simp [hi]
  refine ⟨v, _, F1, _, _, hΦ, rfl, hF1, hH1.ren js h2, Rel.ren js hres, ?_, hb1⟩
  refine RelL.mix (n := hp.length) ?_ ?_ hus (hfr1.ren (List.range hp.length))
  · intro i x hi hx
    rw [List.getElem?_map, hjs i hi]
    rw [List.getElem?_map] at hx
    simpa [hi] using hx
  · intro i x hi hx
    have h4 := (List.getElem?_eq_some_iff.1 hx).1
    have h5 := hH.len
    omega
theorem CallY.inF {q : Nat} {f : FuncId} {args : List AV} {hp : List AObj} {Φ : AV → List AObj → Prop} (k : Nat) (us2 : List Value) (fr2 : List AV) (hc : CallY P q f args hp Φ) (hk : k ≤ hp.length)
    (h1 : renH (insI k hp.length) (insF k us2 fr2 hp) = hp) (h2 : renL (insI k hp.length) (renL (insJ k hp.length) args) = args) (h3 : ∀ r h', Φ r h' → hp.length ≤ h'.length) (q2 : Nat) (hq2 : q2 = if q < k then q else q + 1) (hkf : killL q2 fr2 = fr2) :
    CallY P q2 f (renL (insJ k hp.length) args) (insF k us2 fr2 hp) fun r h => ∃ res hp', Φ res hp' ∧ r = res.ren (insJ k hp'.length) ∧ h = insF k us2 fr2 hp' := by
  obtain ⟨hen, hc⟩ := hc
  refine ⟨hen, ?_⟩
  intro Z0 F w0 w μ vs us fr hFb hH hvs hus hbel hkq
  have hHl : (insF k us2 fr2 hp).length = hp.length + 1 := by
    unfold insF renH insJ
    simp
    omega
  have hml : μ.length = hp.length + 1 := by rw [hH.len, hHl]
  have hH0 := hH.ren (insI k hp.length) (insI_nodup hk)
  have e0 : ((insI k hp.length).map fun i => ((insF k us2 fr2 hp).getD i .dead).ren (insI k hp.length)) = hp := h1
  rw [e0] at hH0
  have hvs0 := hvs.ren (insI k hp.length)
  rw [h2] at hvs0
  have hn2 : (insF k us2 fr2 hp)[k]? = some (.frame us2 fr2) := by
    unfold insF
    rw [List.getElem?_set_self]
    have : (renH (insJ k hp.length) (hp ++ [.dead])).length = hp.length + 1 := by unfold renH insJ; simp; omega
    omega
  obtain ⟨u, hu⟩ : ∃ u, μ[k]? = some u := ⟨_, List.getElem?_eq_getElem (by omega)⟩
  have hf2 : RelL w (Zone Z0 F w0.heap.size) μ fr2 us2 := hH.obj _ _ u hn2 hu
  have hus0 := (hus.append hf2).ren (insI k hp.length)
  refine (hc Z0 F w0 w _ vs (us ++ us2) _ hFb hH0 hvs0 hus0 hbel (killL_ren (q2 := q2) (fun i hi e => by rw [hq2]; exact insI_kill hk i hi e) _ (by rw [killL_app, hkq, hkf]))).mono ?_
  rintro e w' ⟨v, μ1, F1, res, hp', hΦ, rfl, hF1, hH1, hres, hfr1, hb1⟩
  have h3 := h3 _ _ hΦ
  have hm1 := hH1.len
  have hHd := hH1.addDead u (hH.one _ u hu)
  have hH2 := hHd.ren (insJ k hp'.length) (insJ_nodup (by omega))
  obtain ⟨μ2, hμ2⟩ : ∃ μ2, μ2 = ((insJ k hp'.length).map fun i => (μ1 ++ [u]).getD i (.bool false)) := ⟨_, rfl⟩
  have hA : ∀ (i : Nat) x, (insI k hp.length).contains i = true → μ1[(insI k hp.length).idxOf i]? = some x → μ2[i]? = some x := by
    intro i x hi hx
    obtain ⟨g1, g2⟩ := insI_idx hk hi
    generalize (insI k hp.length).idxOf i = j at g1 g2 hx
    have hj : (insJ k hp'.length)[i]? = some j := by
      split at g2
      · rw [g2]; exact insJ_lo (by assumption)
      · rw [g2]; exact insJ_hi (by omega) (by omega)
    rw [hμ2, List.getElem?_map, hj]
    simp only [Option.map_some, List.getD_eq_getElem?_getD]
    rw [List.getElem?_append_left (List.getElem?_eq_some_iff.1 hx).1, hx]
    rfl
  have hB : ∀ (i : Nat) x, (insI k hp.length).contains i = false → μ[i]? = some x → μ2[i]? = some x := by
    intro i x hi hx
    have hlt := (List.getElem?_eq_some_iff.1 hx).1
    have hin : i = k := by
      refine Classical.byContradiction fun hne => ?_
      have := insI_mem hk (i := i) (by omega) hne
      rw [this] at hi
      cases hi
    subst hin
    rw [hu] at hx
    rw [hμ2, List.getElem?_map, insJ_at]
    simp only [Option.map_some, List.getD_eq_getElem?_getD]
    rw [List.getElem?_append_right (by omega), hm1]
    simpa using hx
  rw [← hμ2] at hH2
  have hall := RelL.mixJ hA hB (hus.append hf2) hfr1
  have hul := hus.length
  have hfr : RelL w' (Zone Z0 F1 w0.heap.size) μ2 fr us := by
    have := hall.take fr.length
    rwa [List.take_left, ← hul, List.take_left] at this
  have hfr2 : RelL w' (Zone Z0 F1 w0.heap.size) μ2 fr2 us2 := by
    have := hall.drop fr.length
    rwa [List.drop_left, ← hul, List.drop_left] at this
  refine ⟨v, μ2, F1, _, _, ⟨res, hp', hΦ, rfl, rfl⟩, rfl, hF1, ?_, ?_, hfr, hb1⟩
  · refine hH2.frameAt ?_ hfr2
    rw [List.getElem?_map, insJ_at]
    simp [AObj.ren]
  · rw [hμ2]
    exact Rel.ren _ (Rel.keep (w := w') (fun _ _ _ => rfl) (fun i u hu => append_old i u hu) hres)
end
end Go.Abs
