/- Texts of the proof: E06, E08, Sym3. -/
import Derived.Laws.StructEq
import Derived.Test.YtejaikeemahobaaPartL

/-! Draws of models. -/
namespace Go.Proofs.Ytejaikeemahobaa
open Go.RowKit Go.Abs

theorem someM_c_r2 (c : List Int) (p : Nat) (h : Int) (worlds : Int) (eo1 : Nat) (so1 : Nat) (no1 : Nat) (co1 : List AV) (eo2 : Nat) (so2 : Nat) (no2 : Nat) (co2 : List AV) (hc : BY c) (hw : 0 ≤ worlds ∧ worlds ≤ 20) : CallX Try.prog 107 [.ptr 0 0, AI worlds] [.box 106 [LB c, AI (p : Int), .int .u64 h], .list eo1 so1 no1 co1, .list eo2 so2 no2 co2] (fun (resX : AV) (objX : List AObj) => ∃ n : Int, ∃ xs : List Int, ∃ vs : List Int, ∃ p1 : Nat, ∃ h1 : Int, (0 ≤ n ∧ n ≤ worlds) ∧ ((xs.length : Int) = n) ∧ (vs.length = 6) ∧ resX = .agg [AI n, LI xs, .ref 3] ∧ objX = [.box 106 [LB c, AI (p1 : Int), .int .u64 h1], .list eo1 so1 no1 co1, .list eo2 so2 no2 co2, rowA eI 2 1 vs]) := by
  have hcl : c.length ≤ 4096 := hc.1
  have hcb := hc.2
  refine CallX.dropE (CallX.ofF Try.func107 rfl (by kernel_rfl) ?_)
  intro usC frC hfC
  refine R.go 8 (R.callX (CallX.inF 3 usC frC (CallX.box 3 36 [AI 0, .nil, .nil] (someX_c_r3 c p h worlds eo1 so1 no1 co1 eo2 so2 no2 co2 36 3 1 [AI 0, .nil, .nil] hc hw) (by kernel_rfl) (by kernel_rfl) (by kernel_rfl) (by kernel_rfl) (by rintro _ _ ⟨_, _, _, _, _, _, rfl, rfl⟩; exact ⟨by kernel_rfl, by kernel_rfl, by kernel_rfl⟩)) (Nat.le_of_ble_eq_true (by kernel_rfl)) (by kernel_rfl) (by kernel_rfl) (by rintro _ _ ⟨_, ⟨_, _, _, _, _, _, rfl, rfl⟩, rfl⟩; exact Nat.le_of_ble_eq_true (by kernel_rfl))) (by kernel_rfl) (by kernel_rfl) (by kernel_rfl) ?_)
  rintro _ _ ⟨_, _, ⟨_, ⟨n_1, xs_2, p1_3, h1_4, f5, f6, rfl, rfl⟩, rfl⟩, rfl, rfl⟩
  refine R.go 16 (R.nilB 6 2 2 1 (by kernel_rfl) ?_)
  refine R.loop ((fun | (i, us, q, k) => (⟨(frm 30 [(0, .ptr 0 0), (4, .ptr 4 0), (5, .ptr 5 0), (6, .ptr 6 0), (7, AI (i : Int))]), [.box 106 [LB c, AI (q : Int), .int .u64 k], .list eo1 so1 no1 co1, .list eo2 so2 no2 co2, .frame usC frC, .box 36 [AI 0, .nil, .nil], .box 26 [AI n_1, LI xs_2], .box 36 [AI n_1, LI xs_2, .ref 7], rowA eI 2 1 us]⟩ : St) : Nat × (List Int) × Nat × Int → St)) (fun | (i, us, q, k) => (i ≤ 6) ∧ (us.length = i)) (fun | (i, us, q, k) => 6 - i) (0, [], p1_3, h1_4) [0, 4, 5, 6, 7] none (by kernel_rfl) (by kernel_rfl) (by kernel_rfl) ⟨(by omega), (by rfl)⟩ ?_
  rintro ⟨i, us, q, k⟩ ⟨h10_1, h10_2⟩ R7 N8
  have hb : 1 ≤ shl64 1 n_1 ∧ shl64 1 n_1 ≤ 4611686018427387904 := shl_rng n_1 (by omega) (by omega)
  refine R.go 6 (R.cond ((i : Int) < 6) (by kernel_rfl) (fun c11 => ?_) (fun c11 => ?_))
  · refine R.go 3 (R.any (by decide +kernel) (by kernel_rfl) ?_)
    refine R.anyF 3 (by kernel_rfl) (np_retX _ _ _ _ _ _) ?_
    refine R.anyA 0 (.ptr 6 2) (by kernel_rfl) (np_retX _ _ _ _ _ _) ?_
    refine R.anyA 4 (.ptr 5 0) (by kernel_rfl) (np_retX _ _ _ _ _ _) ?_
    refine R.any2 1 5 (by kernel_rfl) (by kernel_rfl) ?_ ?_
    · refine R.go 2 (R.any2 2 5 (by kernel_rfl) (by kernel_rfl) ?_ ?_)
      · refine R.call false (l01Own_c us (by first | omega | (simp only [refI_len, wout_len]; omega) | (simp <;> omega))) (by kernel_rfl) (ownA_closed eI_closed 2 1 us) (by kernel_rfl) ?_
        refine R.go 1 (R.any1 5 (by kernel_rfl) (by kernel_rfl) ?_)
        refine R.go 2 (R.any1 6 (by kernel_rfl) (by kernel_rfl) ?_)
        refine R.call true (l01Full_c n_1 (by first | omega | (simp only [refI_len, wout_len]; omega) | (simp <;> omega)) (by first | omega | (simp only [refI_len, wout_len]; omega) | (simp <;> omega))) (by kernel_rfl) rfl (by kernel_rfl) ?_
        refine R.go 1 (R.anyI 7 (AI (IntKind.i64.wrap (((shl64 1 n_1) - 1) + 1))) (by kernel_rfl) (np_retX _ _ _ _ _ _) ?_)
        refine R.any1 8 (by kernel_rfl) (by kernel_rfl) ?_
        refine R.callX (CallX.inF 3 usC frC (CallX.box 4 26 [AI n_1, LI xs_2] (CallX.box 3 36 [AI 0, .nil, .nil] (nextX_c_rooooCoo c q k (IntKind.i64.wrap (((shl64 1 n_1) - 1) + 1)) eo1 so1 no1 co1 eo2 so2 no2 co2 36 3 1 [AI 0, .nil, .nil] 26 2 1 [AI n_1, LI xs_2] 36 n_1 xs_2 2 1 us.length (rows eI us) 2 1 us.length (rows eI us) hc) (by kernel_rfl) (by kernel_rfl) (by kernel_rfl) (by kernel_rfl) (by rintro _ _ ⟨_, _, _, _, rfl, rfl⟩; exact ⟨by kernel_rfl, by kernel_rfl, by kernel_rfl⟩)) (by kernel_rfl) (by kernel_rfl) (by kernel_rfl) (by kernel_rfl) (by rintro _ _ ⟨_, ⟨_, _, _, _, rfl, rfl⟩, rfl⟩; exact ⟨by kernel_rfl, by kernel_rfl, by kernel_rfl⟩)) (Nat.le_of_ble_eq_true (by kernel_rfl)) (by kernel_rfl) (by kernel_rfl) (by rintro _ _ ⟨_, ⟨_, ⟨_, _, _, _, rfl, rfl⟩, rfl⟩, rfl⟩; exact Nat.le_of_ble_eq_true (by kernel_rfl))) (by kernel_rfl) (by kernel_rfl) (by kernel_rfl) ?_
        rintro _ _ ⟨_, _, ⟨_, ⟨_, ⟨v_12, p1_13, h1_14, f15, rfl, rfl⟩, rfl⟩, rfl⟩, rfl, rfl⟩
        refine R.go 1 (R.any1 9 (by kernel_rfl) (by kernel_rfl) ?_)
        refine R.go 2 (R.any1 10 (by kernel_rfl) (by kernel_rfl) ?_)
        refine R.app eI us [v_12] 8 2 1 8 (by kernel_rfl) eI_one (by decide) (by first | omega | (simp <;> omega)) (by kernel_rfl) ?_
        refine R.kfix 3 (us := usC) (by kernel_rfl) (hfC.kill 8 (Nat.le_of_ble_eq_true (by kernel_rfl))) ?_
        refine R.go 1 (R.anyA 11 (.ptr 6 2) (by kernel_rfl) (np_retX _ _ _ _ _ _) ?_)
        refine R.any1 12 (by kernel_rfl) (by kernel_rfl) ?_
        refine R.go 2 (R.any0 (by kernel_rfl) ?_)
        refine R.go 3 (R.ar ((i : Int) + 1) (by kernel_rfl) (by omega) (by omega) (by kernel_rfl) ?_)
        exact R.go 2 (R.stop R7 (by kernel_rfl) (N8 (i + 1, us ++ [v_12], p1_13, h1_14) [0, 4, 5, 6, 7] (some [0, 1, 2, 3, 4, 5, 6, 8]) _ (by kernel_rfl) (canonF (fr := frC) (fun (frX : List AV) => (⟨(frm 30 [(0, .ptr 0 0), (4, .ptr 4 0), (5, .ptr 5 0), (6, .ptr 6 0), (7, AI ((i : Int) + 1))]), [.box 106 [LB c, AI (p1_13 : Int), .int .u64 h1_14], .list eo1 so1 no1 co1, .list eo2 so2 no2 co2, .frame usC frX, .box 36 [AI 0, .nil, .nil], .box 26 [AI n_1, LI xs_2], .box 36 [AI n_1, LI xs_2, .ref 7], rowA eI 2 1 (us ++ [v_12])]⟩ : St)) (hfC.ren _ (by kernel_rfl)) (by kernel_rfl) (by kernel_rfl)) ⟨(by omega), (by (simp <;> omega))⟩ (by show (6 - (i + 1)) < (6 - i); omega)))
      · refine R.go 2 (R.any1 2 (by kernel_rfl) (by kernel_rfl) ?_)
        refine R.call false (l01Own_c us (by first | omega | (simp only [refI_len, wout_len]; omega) | (simp <;> omega))) (by kernel_rfl) (ownA_closed eI_closed 2 1 us) (by kernel_rfl) ?_
        refine R.go 1 (R.any1 6 (by kernel_rfl) (by kernel_rfl) ?_)
        refine R.call true (l01Full_c n_1 (by first | omega | (simp only [refI_len, wout_len]; omega) | (simp <;> omega)) (by first | omega | (simp only [refI_len, wout_len]; omega) | (simp <;> omega))) (by kernel_rfl) rfl (by kernel_rfl) ?_
        refine R.go 1 (R.anyI 7 (AI (IntKind.i64.wrap (((shl64 1 n_1) - 1) + 1))) (by kernel_rfl) (np_retX _ _ _ _ _ _) ?_)
        refine R.any1 8 (by kernel_rfl) (by kernel_rfl) ?_
        refine R.callX (CallX.inF 3 usC frC (CallX.box 4 26 [AI n_1, LI xs_2] (CallX.box 3 36 [AI 0, .nil, .nil] (nextX_c_rooooCoo c q k (IntKind.i64.wrap (((shl64 1 n_1) - 1) + 1)) eo1 so1 no1 co1 eo2 so2 no2 co2 36 3 1 [AI 0, .nil, .nil] 26 2 1 [AI n_1, LI xs_2] 36 n_1 xs_2 2 1 us.length (rows eI us) 2 1 us.length (rows eI us) hc) (by kernel_rfl) (by kernel_rfl) (by kernel_rfl) (by kernel_rfl) (by rintro _ _ ⟨_, _, _, _, rfl, rfl⟩; exact ⟨by kernel_rfl, by kernel_rfl, by kernel_rfl⟩)) (by kernel_rfl) (by kernel_rfl) (by kernel_rfl) (by kernel_rfl) (by rintro _ _ ⟨_, ⟨_, _, _, _, rfl, rfl⟩, rfl⟩; exact ⟨by kernel_rfl, by kernel_rfl, by kernel_rfl⟩)) (Nat.le_of_ble_eq_true (by kernel_rfl)) (by kernel_rfl) (by kernel_rfl) (by rintro _ _ ⟨_, ⟨_, ⟨_, _, _, _, rfl, rfl⟩, rfl⟩, rfl⟩; exact Nat.le_of_ble_eq_true (by kernel_rfl))) (by kernel_rfl) (by kernel_rfl) (by kernel_rfl) ?_
        rintro _ _ ⟨_, _, ⟨_, ⟨_, ⟨v_16, p1_17, h1_18, f19, rfl, rfl⟩, rfl⟩, rfl⟩, rfl, rfl⟩
        refine R.go 1 (R.any1 9 (by kernel_rfl) (by kernel_rfl) ?_)
        refine R.go 2 (R.any1 10 (by kernel_rfl) (by kernel_rfl) ?_)
        refine R.app eI us [v_16] 8 2 1 8 (by kernel_rfl) eI_one (by decide) (by first | omega | (simp <;> omega)) (by kernel_rfl) ?_
        refine R.kfix 3 (us := usC) (by kernel_rfl) (hfC.kill 8 (Nat.le_of_ble_eq_true (by kernel_rfl))) ?_
        refine R.go 1 (R.anyA 11 (.ptr 6 2) (by kernel_rfl) (np_retX _ _ _ _ _ _) ?_)
        refine R.any1 12 (by kernel_rfl) (by kernel_rfl) ?_
        refine R.go 2 (R.any0 (by kernel_rfl) ?_)
        refine R.go 3 (R.ar ((i : Int) + 1) (by kernel_rfl) (by omega) (by omega) (by kernel_rfl) ?_)
        exact R.go 2 (R.stop R7 (by kernel_rfl) (N8 (i + 1, us ++ [v_16], p1_17, h1_18) [0, 4, 5, 6, 7] (some [0, 1, 2, 3, 4, 5, 6, 8]) _ (by kernel_rfl) (canonF (fr := frC) (fun (frX : List AV) => (⟨(frm 30 [(0, .ptr 0 0), (4, .ptr 4 0), (5, .ptr 5 0), (6, .ptr 6 0), (7, AI ((i : Int) + 1))]), [.box 106 [LB c, AI (p1_17 : Int), .int .u64 h1_18], .list eo1 so1 no1 co1, .list eo2 so2 no2 co2, .frame usC frX, .box 36 [AI 0, .nil, .nil], .box 26 [AI n_1, LI xs_2], .box 36 [AI n_1, LI xs_2, .ref 7], rowA eI 2 1 (us ++ [v_16])]⟩ : St)) (hfC.ren _ (by kernel_rfl)) (by kernel_rfl) (by kernel_rfl)) ⟨(by omega), (by (simp <;> omega))⟩ (by show (6 - (i + 1)) < (6 - i); omega)))
    · refine R.go 2 (R.any1 1 (by kernel_rfl) (by kernel_rfl) ?_)
      refine R.go 2 (R.any1 2 (by kernel_rfl) (by kernel_rfl) ?_)
      refine R.call false (l01Own_c us (by first | omega | (simp only [refI_len, wout_len]; omega) | (simp <;> omega))) (by kernel_rfl) (ownA_closed eI_closed 2 1 us) (by kernel_rfl) ?_
      refine R.go 1 (R.any1 6 (by kernel_rfl) (by kernel_rfl) ?_)
      refine R.call true (l01Full_c n_1 (by first | omega | (simp only [refI_len, wout_len]; omega) | (simp <;> omega)) (by first | omega | (simp only [refI_len, wout_len]; omega) | (simp <;> omega))) (by kernel_rfl) rfl (by kernel_rfl) ?_
      refine R.go 1 (R.anyI 7 (AI (IntKind.i64.wrap (((shl64 1 n_1) - 1) + 1))) (by kernel_rfl) (np_retX _ _ _ _ _ _) ?_)
      refine R.any1 8 (by kernel_rfl) (by kernel_rfl) ?_
      refine R.callX (CallX.inF 3 usC frC (CallX.box 4 26 [AI n_1, LI xs_2] (CallX.box 3 36 [AI 0, .nil, .nil] (nextX_c_rooooCoo c q k (IntKind.i64.wrap (((shl64 1 n_1) - 1) + 1)) eo1 so1 no1 co1 eo2 so2 no2 co2 36 3 1 [AI 0, .nil, .nil] 26 2 1 [AI n_1, LI xs_2] 36 n_1 xs_2 2 1 us.length (rows eI us) 2 1 us.length (rows eI us) hc) (by kernel_rfl) (by kernel_rfl) (by kernel_rfl) (by kernel_rfl) (by rintro _ _ ⟨_, _, _, _, rfl, rfl⟩; exact ⟨by kernel_rfl, by kernel_rfl, by kernel_rfl⟩)) (by kernel_rfl) (by kernel_rfl) (by kernel_rfl) (by kernel_rfl) (by rintro _ _ ⟨_, ⟨_, _, _, _, rfl, rfl⟩, rfl⟩; exact ⟨by kernel_rfl, by kernel_rfl, by kernel_rfl⟩)) (Nat.le_of_ble_eq_true (by kernel_rfl)) (by kernel_rfl) (by kernel_rfl) (by rintro _ _ ⟨_, ⟨_, ⟨_, _, _, _, rfl, rfl⟩, rfl⟩, rfl⟩; exact Nat.le_of_ble_eq_true (by kernel_rfl))) (by kernel_rfl) (by kernel_rfl) (by kernel_rfl) ?_
      rintro _ _ ⟨_, _, ⟨_, ⟨_, ⟨v_20, p1_21, h1_22, f23, rfl, rfl⟩, rfl⟩, rfl⟩, rfl, rfl⟩
      refine R.go 1 (R.any1 9 (by kernel_rfl) (by kernel_rfl) ?_)
      refine R.go 2 (R.any1 10 (by kernel_rfl) (by kernel_rfl) ?_)
      refine R.app eI us [v_20] 8 2 1 8 (by kernel_rfl) eI_one (by decide) (by first | omega | (simp <;> omega)) (by kernel_rfl) ?_
      refine R.kfix 3 (us := usC) (by kernel_rfl) (hfC.kill 8 (Nat.le_of_ble_eq_true (by kernel_rfl))) ?_
      refine R.go 1 (R.anyA 11 (.ptr 6 2) (by kernel_rfl) (np_retX _ _ _ _ _ _) ?_)
      refine R.any1 12 (by kernel_rfl) (by kernel_rfl) ?_
      refine R.go 2 (R.any0 (by kernel_rfl) ?_)
      refine R.go 3 (R.ar ((i : Int) + 1) (by kernel_rfl) (by omega) (by omega) (by kernel_rfl) ?_)
      exact R.go 2 (R.stop R7 (by kernel_rfl) (N8 (i + 1, us ++ [v_20], p1_21, h1_22) [0, 4, 5, 6, 7] (some [0, 1, 2, 3, 4, 5, 6, 8]) _ (by kernel_rfl) (canonF (fr := frC) (fun (frX : List AV) => (⟨(frm 30 [(0, .ptr 0 0), (4, .ptr 4 0), (5, .ptr 5 0), (6, .ptr 6 0), (7, AI ((i : Int) + 1))]), [.box 106 [LB c, AI (p1_21 : Int), .int .u64 h1_22], .list eo1 so1 no1 co1, .list eo2 so2 no2 co2, .frame usC frX, .box 36 [AI 0, .nil, .nil], .box 26 [AI n_1, LI xs_2], .box 36 [AI n_1, LI xs_2, .ref 7], rowA eI 2 1 (us ++ [v_20])]⟩ : St)) (hfC.ren _ (by kernel_rfl)) (by kernel_rfl) (by kernel_rfl)) ⟨(by omega), (by (simp <;> omega))⟩ (by show (6 - (i + 1)) < (6 - i); omega)))
  · exact R.go 6 (R.retX (res := .agg [AI n_1, LI xs_2, .ref 7]) (hp' := [.box 106 [LB c, AI (q : Int), .int .u64 k], .list eo1 so1 no1 co1, .list eo2 so2 no2 co2, .dead, .box 36 [AI n_1, LI xs_2, .ref 7], .box 26 [AI n_1, LI xs_2], .box 36 [AI n_1, LI xs_2, .ref 7], rowA eI 2 1 us]) (by kernel_rfl) (by kernel_rfl) (by kernel_rfl) (by kernel_rfl) ⟨[0, 1, 2, 7], by kernel_rfl, by decide, n_1, xs_2, us, q, k, by first | omega | (simp only [refI_len, wout_len]; done) | (simp only [refI_len, wout_len]; omega), by first | omega | (simp only [refI_len, wout_len]; done) | (simp only [refI_len, wout_len]; omega), by first | omega | (simp only [refI_len, wout_len]; done) | (simp only [refI_len, wout_len]; omega), by kernel_rfl, by kernel_rfl⟩)

theorem modelX_c_r1 (c : List Int) (p : Nat) (h : Int) (worlds : Int) (eo1 : Nat) (so1 : Nat) (no1 : Nat) (co1 : List AV) (hc : BY c) (hw : 0 ≤ worlds ∧ worlds ≤ 20) : CallX Try.prog 56 [.ptr 0 0, AI worlds] [.box 106 [LB c, AI (p : Int), .int .u64 h], .list eo1 so1 no1 co1] (fun (resX : AV) (objX : List AObj) => ∃ n : Int, ∃ xs : List Int, ∃ vs : List Int, ∃ p1 : Nat, ∃ h1 : Int, ((xs.length : Int) ≤ worlds + 1) ∧ (vs.length ≤ 6) ∧ resX = .agg [AI n, LI xs, LI vs] ∧ objX = [.box 106 [LB c, AI (p1 : Int), .int .u64 h1], .list eo1 so1 no1 co1]) := by
  have hcl : c.length ≤ 4096 := hc.1
  have hcb := hc.2
  refine CallX.dropE (CallX.ofF Try.func56 rfl (by kernel_rfl) ?_)
  intro usC frC hfC
  refine R.go 8 (R.callX (CallX.inF 2 usC frC (CallX.box 2 36 [AI 0, .nil, .nil] (someM_c_r2 c p h worlds eo1 so1 no1 co1 36 3 1 [AI 0, .nil, .nil] hc hw) (by kernel_rfl) (by kernel_rfl) (by kernel_rfl) (by kernel_rfl) (by rintro _ _ ⟨_, _, _, _, _, _, _, _, rfl, rfl⟩; exact ⟨by kernel_rfl, by kernel_rfl, by kernel_rfl⟩)) (Nat.le_of_ble_eq_true (by kernel_rfl)) (by kernel_rfl) (by kernel_rfl) (by rintro _ _ ⟨_, ⟨_, _, _, _, _, _, _, _, rfl, rfl⟩, rfl⟩; exact Nat.le_of_ble_eq_true (by kernel_rfl))) (by kernel_rfl) (by kernel_rfl) (by kernel_rfl) ?_)
  rintro _ _ ⟨_, _, ⟨_, ⟨n_1, xs_2, vs_3, p1_4, h1_5, f6, f7, f8, rfl, rfl⟩, rfl⟩, rfl, rfl⟩
  refine R.go 7 (R.callX (CallX.inF 2 usC frC (CallX.box 2 36 [AI 0, .nil, .nil] (nextX_c_r3c c p1_4 h1_5 50 eo1 so1 no1 co1 36 3 1 [AI 0, .nil, .nil] 2 1 vs_3.length (rows eI vs_3) 36 n_1 xs_2 hc) (by kernel_rfl) (by kernel_rfl) (by kernel_rfl) (by kernel_rfl) (by rintro _ _ ⟨_, _, _, _, rfl, rfl⟩; exact ⟨by kernel_rfl, by kernel_rfl, by kernel_rfl⟩)) (Nat.le_of_ble_eq_true (by kernel_rfl)) (by kernel_rfl) (by kernel_rfl) (by rintro _ _ ⟨_, ⟨_, _, _, _, rfl, rfl⟩, rfl⟩; exact Nat.le_of_ble_eq_true (by kernel_rfl))) (by kernel_rfl) (by kernel_rfl) (by kernel_rfl) ?_)
  rintro _ _ ⟨_, _, ⟨_, ⟨v_9, p1_10, h1_11, f12, rfl, rfl⟩, rfl⟩, rfl, rfl⟩
  refine R.go 7 (R.cond (v_9 = 0) (by kernel_rfl) (fun c13 => ?_) (fun c13 => ?_))
  · refine R.go 1 (R.frz 4 (by kernel_rfl) ?_)
    refine R.kfix 2 (us := usC) (by kernel_rfl) (hfC.frz 4 (LI vs_3) (Nat.le_of_ble_eq_true (by kernel_rfl))) ?_
    refine R.go 2 (R.deadF 4 (by kernel_rfl) (by kernel_rfl) ?_)
    refine R.callX (CallX.inF 2 usC frC (CallX.inF 3 [] [] (CallX.box 3 36 [AI n_1, LI xs_2, LI vs_3] (CallX.box 2 36 [AI 0, .nil, .nil] (frameX_c_r3 c p1_10 h1_11 worlds eo1 so1 no1 co1 36 3 1 [AI 0, .nil, .nil] 36 3 1 [AI n_1, LI xs_2, LI vs_3] hc hw) (by kernel_rfl) (by kernel_rfl) (by kernel_rfl) (by kernel_rfl) (by rintro _ _ ⟨_, _, _, _, _, rfl, rfl⟩; exact ⟨by kernel_rfl, by kernel_rfl, by kernel_rfl⟩)) (by kernel_rfl) (by kernel_rfl) (by kernel_rfl) (by kernel_rfl) (by rintro _ _ ⟨_, ⟨_, _, _, _, _, rfl, rfl⟩, rfl⟩; exact ⟨by kernel_rfl, by kernel_rfl, by kernel_rfl⟩)) (Nat.le_of_ble_eq_true (by kernel_rfl)) (by kernel_rfl) (by kernel_rfl) (by rintro _ _ ⟨_, ⟨_, ⟨_, _, _, _, _, rfl, rfl⟩, rfl⟩, rfl⟩; exact Nat.le_of_ble_eq_true (by kernel_rfl))) (Nat.le_of_ble_eq_true (by kernel_rfl)) (by kernel_rfl) (by kernel_rfl) (by rintro _ _ ⟨_, _, ⟨_, ⟨_, ⟨_, _, _, _, _, rfl, rfl⟩, rfl⟩, rfl⟩, rfl, rfl⟩; exact Nat.le_of_ble_eq_true (by kernel_rfl))) (by kernel_rfl) (by kernel_rfl) (by kernel_rfl) ?_
    rintro _ _ ⟨_, _, ⟨_, _, ⟨_, ⟨_, ⟨n_14, xs_15, p1_16, h1_17, f18, rfl, rfl⟩, rfl⟩, rfl⟩, rfl, rfl⟩, rfl, rfl⟩
    exact R.go 9 (R.retX (res := .agg [AI n_14, LI xs_15, LI vs_3]) (hp' := [.box 106 [LB c, AI (p1_16 : Int), .int .u64 h1_17], .list eo1 so1 no1 co1, .dead, .box 36 [AI n_14, LI xs_15, LI vs_3], .frame [] [], .box 36 [AI n_14, LI xs_15, LI vs_3]]) (by kernel_rfl) (by kernel_rfl) (by kernel_rfl) (by kernel_rfl) ⟨[0, 1], by kernel_rfl, by decide, n_14, xs_15, vs_3, p1_16, h1_17, by first | omega | (simp only [List.length_drop, List.length_set]; omega), by first | omega | (simp only [List.length_drop, List.length_set]; omega), by kernel_rfl, by kernel_rfl⟩)
  · refine R.go 5 (R.cond (v_9 = 1) (by kernel_rfl) (fun c19 => ?_) (fun c19 => ?_))
    · refine R.go 3 (R.frz 4 (by kernel_rfl) ?_)
      refine R.kfix 2 (us := usC) (by kernel_rfl) (hfC.frz 4 (LI vs_3) (Nat.le_of_ble_eq_true (by kernel_rfl))) ?_
      refine R.slL eI vs_3 1 1 (by kernel_rfl) rfl eI_len (by omega) (by kernel_rfl) ?_
      exact R.go 9 (R.retX (res := .agg [AI n_1, LI xs_2, LI (vs_3.drop 1)]) (hp' := [.box 106 [LB c, AI (p1_10 : Int), .int .u64 h1_11], .list eo1 so1 no1 co1, .dead, .box 36 [AI n_1, LI xs_2, LI (vs_3.drop 1)], .dead, .box 36 [AI n_1, LI xs_2, LI (vs_3.drop 1)]]) (by kernel_rfl) (by kernel_rfl) (by kernel_rfl) (by kernel_rfl) ⟨[0, 1], by kernel_rfl, by decide, n_1, xs_2, vs_3.drop 1, p1_10, h1_11, by first | omega | (simp only [List.length_drop, List.length_set]; omega), by first | omega | (simp only [List.length_drop, List.length_set]; omega), by kernel_rfl, by kernel_rfl⟩)
    · have hb : 1 ≤ shl64 1 n_1 ∧ shl64 1 n_1 ≤ 4611686018427387904 := shl_rng n_1 (by omega) (by omega)
      refine R.go 5 (R.cond (v_9 = 2) (by kernel_rfl) (fun c20 => ?_) (fun c20 => ?_))
      · refine R.any (by decide +kernel) (by kernel_rfl) ?_
        refine R.anyF 2 (by kernel_rfl) (np_retX _ _ _ _ _ _) ?_
        refine R.anyF 4 (by kernel_rfl) (np_retX _ _ _ _ _ _) ?_
        refine R.anyA 0 (.ptr 5 2) (by kernel_rfl) (np_retX _ _ _ _ _ _) ?_
        refine R.anyA 5 (.ptr 5 0) (by kernel_rfl) (np_retX _ _ _ _ _ _) ?_
        refine R.anyA 6 (.ptr 5 0) (by kernel_rfl) (np_retX _ _ _ _ _ _) ?_
        refine R.any3 1 3 7 (by kernel_rfl) (by kernel_rfl) ?_ ?_ ?_
        · refine R.go 2 (R.any2 3 7 (by kernel_rfl) (by kernel_rfl) ?_ ?_)
          · refine R.callX (CallX.inF 2 usC frC (CallX.box 2 36 [AI 0, .nil, .nil] (nextX_c_r3c c p1_10 h1_11 6 eo1 so1 no1 co1 36 3 1 [AI 0, .nil, .nil] 2 1 vs_3.length (rows eI vs_3) 36 n_1 xs_2 hc) (by kernel_rfl) (by kernel_rfl) (by kernel_rfl) (by kernel_rfl) (by rintro _ _ ⟨_, _, _, _, rfl, rfl⟩; exact ⟨by kernel_rfl, by kernel_rfl, by kernel_rfl⟩)) (Nat.le_of_ble_eq_true (by kernel_rfl)) (by kernel_rfl) (by kernel_rfl) (by rintro _ _ ⟨_, ⟨_, _, _, _, rfl, rfl⟩, rfl⟩; exact Nat.le_of_ble_eq_true (by kernel_rfl))) (by kernel_rfl) (by kernel_rfl) (by kernel_rfl) ?_
            rintro _ _ ⟨_, _, ⟨_, ⟨v_21, p1_22, h1_23, f24, rfl, rfl⟩, rfl⟩, rfl, rfl⟩
            refine R.go 1 (R.any1 7 (by kernel_rfl) (by kernel_rfl) ?_)
            refine R.go 2 (R.any1 8 (by kernel_rfl) (by kernel_rfl) ?_)
            refine R.call true (l01Full_c n_1 (by omega) (by omega)) (by kernel_rfl) rfl (by kernel_rfl) ?_
            refine R.go 1 (R.anyI 9 (AI (IntKind.i64.wrap (((shl64 1 n_1) - 1) + 1))) (by kernel_rfl) (np_retX _ _ _ _ _ _) ?_)
            refine R.any1 10 (by kernel_rfl) (by kernel_rfl) ?_
            refine R.lit (s := 1) (n := 2) (cs := rows eI [(-1), IntKind.i64.wrap (((shl64 1 n_1) - 1) + 1)]) (by kernel_rfl) (by kernel_rfl) ?_
            refine R.go 1 (R.any1 11 (by kernel_rfl) (by kernel_rfl) ?_)
            refine R.callX (CallX.inF 2 usC frC (CallX.box 2 36 [AI 0, .nil, .nil] (pickX_c_r3c c p1_22 h1_23 [(-1), IntKind.i64.wrap (((shl64 1 n_1) - 1) + 1)] eo1 so1 no1 co1 36 3 1 [AI 0, .nil, .nil] 2 1 vs_3.length (rows eI vs_3) 36 n_1 xs_2 hc (by simp)) (by kernel_rfl) (by kernel_rfl) (by kernel_rfl) (by kernel_rfl) (by rintro _ _ ⟨_, _, _, rfl, rfl⟩; exact ⟨by kernel_rfl, by kernel_rfl, by kernel_rfl⟩)) (Nat.le_of_ble_eq_true (by kernel_rfl)) (by kernel_rfl) (by kernel_rfl) (by rintro _ _ ⟨_, ⟨_, _, _, rfl, rfl⟩, rfl⟩; exact Nat.le_of_ble_eq_true (by kernel_rfl))) (by kernel_rfl) (by kernel_rfl) (by kernel_rfl) ?_
            rintro _ _ ⟨_, _, ⟨_, ⟨v_25, p1_26, h1_27, rfl, rfl⟩, rfl⟩, rfl, rfl⟩
            refine R.go 1 (R.any1 12 (by kernel_rfl) (by kernel_rfl) ?_)
            refine R.idxO 4 1 vs_3.length ((v_21).toNat) v_21 (by kernel_rfl) (by omega) (by omega) (by kernel_rfl) ?_
            refine R.go 1 (R.any1 13 (by kernel_rfl) (by kernel_rfl) ?_)
            refine R.stI 4 2 vs_3 ((v_21).toNat) v_25 (by kernel_rfl) (by omega) (by kernel_rfl) ?_
            refine R.go 1 (R.any0 (by kernel_rfl) ?_)
            refine R.go 6 (R.frz 4 (by kernel_rfl) ?_)
            refine R.kfix 2 (us := usC) (by kernel_rfl) (hfC.frz 4 (LI (vs_3.set ((v_21).toNat) v_25)) (Nat.le_of_ble_eq_true (by kernel_rfl))) ?_
            exact R.retX (res := .agg [AI n_1, LI xs_2, LI (vs_3.set ((v_21).toNat) v_25)]) (hp' := [.box 106 [LB c, AI (p1_26 : Int), .int .u64 h1_27], .list eo1 so1 no1 co1, .dead, .box 36 [AI n_1, LI xs_2, LI (vs_3.set ((v_21).toNat) v_25)], .dead, .box 36 [AI n_1, LI xs_2, LI (vs_3.set ((v_21).toNat) v_25)]]) (by kernel_rfl) (by kernel_rfl) (by kernel_rfl) (by kernel_rfl) ⟨[0, 1], by kernel_rfl, by decide, n_1, xs_2, vs_3.set ((v_21).toNat) v_25, p1_26, h1_27, by first | omega | (simp only [List.length_drop, List.length_set]; omega), by first | omega | (simp only [List.length_drop, List.length_set]; omega), by kernel_rfl, by kernel_rfl⟩
          · refine R.go 2 (R.any1 3 (by kernel_rfl) (by kernel_rfl) ?_)
            refine R.callX (CallX.inF 2 usC frC (CallX.box 2 36 [AI 0, .nil, .nil] (nextX_c_r3c c p1_10 h1_11 6 eo1 so1 no1 co1 36 3 1 [AI 0, .nil, .nil] 2 1 vs_3.length (rows eI vs_3) 36 n_1 xs_2 hc) (by kernel_rfl) (by kernel_rfl) (by kernel_rfl) (by kernel_rfl) (by rintro _ _ ⟨_, _, _, _, rfl, rfl⟩; exact ⟨by kernel_rfl, by kernel_rfl, by kernel_rfl⟩)) (Nat.le_of_ble_eq_true (by kernel_rfl)) (by kernel_rfl) (by kernel_rfl) (by rintro _ _ ⟨_, ⟨_, _, _, _, rfl, rfl⟩, rfl⟩; exact Nat.le_of_ble_eq_true (by kernel_rfl))) (by kernel_rfl) (by kernel_rfl) (by kernel_rfl) ?_
            rintro _ _ ⟨_, _, ⟨_, ⟨v_28, p1_29, h1_30, f31, rfl, rfl⟩, rfl⟩, rfl, rfl⟩
            refine R.go 1 (R.any1 8 (by kernel_rfl) (by kernel_rfl) ?_)
            refine R.call true (l01Full_c n_1 (by omega) (by omega)) (by kernel_rfl) rfl (by kernel_rfl) ?_
            refine R.go 1 (R.anyI 9 (AI (IntKind.i64.wrap (((shl64 1 n_1) - 1) + 1))) (by kernel_rfl) (np_retX _ _ _ _ _ _) ?_)
            refine R.any1 10 (by kernel_rfl) (by kernel_rfl) ?_
            refine R.lit (s := 1) (n := 2) (cs := rows eI [(-1), IntKind.i64.wrap (((shl64 1 n_1) - 1) + 1)]) (by kernel_rfl) (by kernel_rfl) ?_
            refine R.go 1 (R.any1 11 (by kernel_rfl) (by kernel_rfl) ?_)
            refine R.callX (CallX.inF 2 usC frC (CallX.box 2 36 [AI 0, .nil, .nil] (pickX_c_r3c c p1_29 h1_30 [(-1), IntKind.i64.wrap (((shl64 1 n_1) - 1) + 1)] eo1 so1 no1 co1 36 3 1 [AI 0, .nil, .nil] 2 1 vs_3.length (rows eI vs_3) 36 n_1 xs_2 hc (by simp)) (by kernel_rfl) (by kernel_rfl) (by kernel_rfl) (by kernel_rfl) (by rintro _ _ ⟨_, _, _, rfl, rfl⟩; exact ⟨by kernel_rfl, by kernel_rfl, by kernel_rfl⟩)) (Nat.le_of_ble_eq_true (by kernel_rfl)) (by kernel_rfl) (by kernel_rfl) (by rintro _ _ ⟨_, ⟨_, _, _, rfl, rfl⟩, rfl⟩; exact Nat.le_of_ble_eq_true (by kernel_rfl))) (by kernel_rfl) (by kernel_rfl) (by kernel_rfl) ?_
            rintro _ _ ⟨_, _, ⟨_, ⟨v_32, p1_33, h1_34, rfl, rfl⟩, rfl⟩, rfl, rfl⟩
            refine R.go 1 (R.any1 12 (by kernel_rfl) (by kernel_rfl) ?_)
            refine R.idxO 4 1 vs_3.length ((v_28).toNat) v_28 (by kernel_rfl) (by omega) (by omega) (by kernel_rfl) ?_
            refine R.go 1 (R.any1 13 (by kernel_rfl) (by kernel_rfl) ?_)
            refine R.stI 4 2 vs_3 ((v_28).toNat) v_32 (by kernel_rfl) (by omega) (by kernel_rfl) ?_
            refine R.go 1 (R.any0 (by kernel_rfl) ?_)
            refine R.go 6 (R.frz 4 (by kernel_rfl) ?_)
            refine R.kfix 2 (us := usC) (by kernel_rfl) (hfC.frz 4 (LI (vs_3.set ((v_28).toNat) v_32)) (Nat.le_of_ble_eq_true (by kernel_rfl))) ?_
            exact R.retX (res := .agg [AI n_1, LI xs_2, LI (vs_3.set ((v_28).toNat) v_32)]) (hp' := [.box 106 [LB c, AI (p1_33 : Int), .int .u64 h1_34], .list eo1 so1 no1 co1, .dead, .box 36 [AI n_1, LI xs_2, LI (vs_3.set ((v_28).toNat) v_32)], .dead, .box 36 [AI n_1, LI xs_2, LI (vs_3.set ((v_28).toNat) v_32)]]) (by kernel_rfl) (by kernel_rfl) (by kernel_rfl) (by kernel_rfl) ⟨[0, 1], by kernel_rfl, by decide, n_1, xs_2, vs_3.set ((v_28).toNat) v_32, p1_33, h1_34, by first | omega | (simp only [List.length_drop, List.length_set]; omega), by first | omega | (simp only [List.length_drop, List.length_set]; omega), by kernel_rfl, by kernel_rfl⟩
        · refine R.callX (CallX.inF 2 usC frC (CallX.box 2 36 [AI 0, .nil, .nil] (nextX_c_r3c c p1_10 h1_11 6 eo1 so1 no1 co1 36 3 1 [AI 0, .nil, .nil] 2 1 vs_3.length (rows eI vs_3) 36 n_1 xs_2 hc) (by kernel_rfl) (by kernel_rfl) (by kernel_rfl) (by kernel_rfl) (by rintro _ _ ⟨_, _, _, _, rfl, rfl⟩; exact ⟨by kernel_rfl, by kernel_rfl, by kernel_rfl⟩)) (Nat.le_of_ble_eq_true (by kernel_rfl)) (by kernel_rfl) (by kernel_rfl) (by rintro _ _ ⟨_, ⟨_, _, _, _, rfl, rfl⟩, rfl⟩; exact Nat.le_of_ble_eq_true (by kernel_rfl))) (by kernel_rfl) (by kernel_rfl) (by kernel_rfl) ?_
          rintro _ _ ⟨_, _, ⟨_, ⟨v_35, p1_36, h1_37, f38, rfl, rfl⟩, rfl⟩, rfl, rfl⟩
          refine R.go 1 (R.any2 1 7 (by kernel_rfl) (by kernel_rfl) ?_ ?_)
          · refine R.go 2 (R.any1 7 (by kernel_rfl) (by kernel_rfl) ?_)
            refine R.go 2 (R.any1 8 (by kernel_rfl) (by kernel_rfl) ?_)
            refine R.call true (l01Full_c n_1 (by omega) (by omega)) (by kernel_rfl) rfl (by kernel_rfl) ?_
            refine R.go 1 (R.anyI 9 (AI (IntKind.i64.wrap (((shl64 1 n_1) - 1) + 1))) (by kernel_rfl) (np_retX _ _ _ _ _ _) ?_)
            refine R.any1 10 (by kernel_rfl) (by kernel_rfl) ?_
            refine R.lit (s := 1) (n := 2) (cs := rows eI [(-1), IntKind.i64.wrap (((shl64 1 n_1) - 1) + 1)]) (by kernel_rfl) (by kernel_rfl) ?_
            refine R.go 1 (R.any1 11 (by kernel_rfl) (by kernel_rfl) ?_)
            refine R.callX (CallX.inF 2 usC frC (CallX.box 2 36 [AI 0, .nil, .nil] (pickX_c_r3c c p1_36 h1_37 [(-1), IntKind.i64.wrap (((shl64 1 n_1) - 1) + 1)] eo1 so1 no1 co1 36 3 1 [AI 0, .nil, .nil] 2 1 vs_3.length (rows eI vs_3) 36 n_1 xs_2 hc (by simp)) (by kernel_rfl) (by kernel_rfl) (by kernel_rfl) (by kernel_rfl) (by rintro _ _ ⟨_, _, _, rfl, rfl⟩; exact ⟨by kernel_rfl, by kernel_rfl, by kernel_rfl⟩)) (Nat.le_of_ble_eq_true (by kernel_rfl)) (by kernel_rfl) (by kernel_rfl) (by rintro _ _ ⟨_, ⟨_, _, _, rfl, rfl⟩, rfl⟩; exact Nat.le_of_ble_eq_true (by kernel_rfl))) (by kernel_rfl) (by kernel_rfl) (by kernel_rfl) ?_
            rintro _ _ ⟨_, _, ⟨_, ⟨v_39, p1_40, h1_41, rfl, rfl⟩, rfl⟩, rfl, rfl⟩
            refine R.go 1 (R.any1 12 (by kernel_rfl) (by kernel_rfl) ?_)
            refine R.idxO 4 1 vs_3.length ((v_35).toNat) v_35 (by kernel_rfl) (by omega) (by omega) (by kernel_rfl) ?_
            refine R.go 1 (R.any1 13 (by kernel_rfl) (by kernel_rfl) ?_)
            refine R.stI 4 2 vs_3 ((v_35).toNat) v_39 (by kernel_rfl) (by omega) (by kernel_rfl) ?_
            refine R.go 1 (R.any0 (by kernel_rfl) ?_)
            refine R.go 6 (R.frz 4 (by kernel_rfl) ?_)
            refine R.kfix 2 (us := usC) (by kernel_rfl) (hfC.frz 4 (LI (vs_3.set ((v_35).toNat) v_39)) (Nat.le_of_ble_eq_true (by kernel_rfl))) ?_
            exact R.retX (res := .agg [AI n_1, LI xs_2, LI (vs_3.set ((v_35).toNat) v_39)]) (hp' := [.box 106 [LB c, AI (p1_40 : Int), .int .u64 h1_41], .list eo1 so1 no1 co1, .dead, .box 36 [AI n_1, LI xs_2, LI (vs_3.set ((v_35).toNat) v_39)], .dead, .box 36 [AI n_1, LI xs_2, LI (vs_3.set ((v_35).toNat) v_39)]]) (by kernel_rfl) (by kernel_rfl) (by kernel_rfl) (by kernel_rfl) ⟨[0, 1], by kernel_rfl, by decide, n_1, xs_2, vs_3.set ((v_35).toNat) v_39, p1_40, h1_41, by first | omega | (simp only [List.length_drop, List.length_set]; omega), by first | omega | (simp only [List.length_drop, List.length_set]; omega), by kernel_rfl, by kernel_rfl⟩
          · refine R.go 2 (R.any2 1 8 (by kernel_rfl) (by kernel_rfl) ?_ ?_)
            · refine R.go 2 (R.any1 8 (by kernel_rfl) (by kernel_rfl) ?_)
              refine R.call true (l01Full_c n_1 (by omega) (by omega)) (by kernel_rfl) rfl (by kernel_rfl) ?_
              refine R.go 1 (R.anyI 9 (AI (IntKind.i64.wrap (((shl64 1 n_1) - 1) + 1))) (by kernel_rfl) (np_retX _ _ _ _ _ _) ?_)
              refine R.any1 10 (by kernel_rfl) (by kernel_rfl) ?_
              refine R.lit (s := 1) (n := 2) (cs := rows eI [(-1), IntKind.i64.wrap (((shl64 1 n_1) - 1) + 1)]) (by kernel_rfl) (by kernel_rfl) ?_
              refine R.go 1 (R.any1 11 (by kernel_rfl) (by kernel_rfl) ?_)
              refine R.callX (CallX.inF 2 usC frC (CallX.box 2 36 [AI 0, .nil, .nil] (pickX_c_r3c c p1_36 h1_37 [(-1), IntKind.i64.wrap (((shl64 1 n_1) - 1) + 1)] eo1 so1 no1 co1 36 3 1 [AI 0, .nil, .nil] 2 1 vs_3.length (rows eI vs_3) 36 n_1 xs_2 hc (by simp)) (by kernel_rfl) (by kernel_rfl) (by kernel_rfl) (by kernel_rfl) (by rintro _ _ ⟨_, _, _, rfl, rfl⟩; exact ⟨by kernel_rfl, by kernel_rfl, by kernel_rfl⟩)) (Nat.le_of_ble_eq_true (by kernel_rfl)) (by kernel_rfl) (by kernel_rfl) (by rintro _ _ ⟨_, ⟨_, _, _, rfl, rfl⟩, rfl⟩; exact Nat.le_of_ble_eq_true (by kernel_rfl))) (by kernel_rfl) (by kernel_rfl) (by kernel_rfl) ?_
              rintro _ _ ⟨_, _, ⟨_, ⟨v_42, p1_43, h1_44, rfl, rfl⟩, rfl⟩, rfl, rfl⟩
              refine R.go 1 (R.any1 12 (by kernel_rfl) (by kernel_rfl) ?_)
              refine R.idxO 4 1 vs_3.length ((v_35).toNat) v_35 (by kernel_rfl) (by omega) (by omega) (by kernel_rfl) ?_
              refine R.go 1 (R.any1 13 (by kernel_rfl) (by kernel_rfl) ?_)
              refine R.stI 4 2 vs_3 ((v_35).toNat) v_42 (by kernel_rfl) (by omega) (by kernel_rfl) ?_
              refine R.go 1 (R.any0 (by kernel_rfl) ?_)
              refine R.go 6 (R.frz 4 (by kernel_rfl) ?_)
              refine R.kfix 2 (us := usC) (by kernel_rfl) (hfC.frz 4 (LI (vs_3.set ((v_35).toNat) v_42)) (Nat.le_of_ble_eq_true (by kernel_rfl))) ?_
              exact R.retX (res := .agg [AI n_1, LI xs_2, LI (vs_3.set ((v_35).toNat) v_42)]) (hp' := [.box 106 [LB c, AI (p1_43 : Int), .int .u64 h1_44], .list eo1 so1 no1 co1, .dead, .box 36 [AI n_1, LI xs_2, LI (vs_3.set ((v_35).toNat) v_42)], .dead, .box 36 [AI n_1, LI xs_2, LI (vs_3.set ((v_35).toNat) v_42)]]) (by kernel_rfl) (by kernel_rfl) (by kernel_rfl) (by kernel_rfl) ⟨[0, 1], by kernel_rfl, by decide, n_1, xs_2, vs_3.set ((v_35).toNat) v_42, p1_43, h1_44, by first | omega | (simp only [List.length_drop, List.length_set]; omega), by first | omega | (simp only [List.length_drop, List.length_set]; omega), by kernel_rfl, by kernel_rfl⟩
            · refine R.call true (l01Full_c n_1 (by omega) (by omega)) (by kernel_rfl) rfl (by kernel_rfl) ?_
              refine R.go 1 (R.anyI 9 (AI (IntKind.i64.wrap (((shl64 1 n_1) - 1) + 1))) (by kernel_rfl) (np_retX _ _ _ _ _ _) ?_)
              refine R.any2 1 10 (by kernel_rfl) (by kernel_rfl) ?_ ?_
              · refine R.go 2 (R.any1 10 (by kernel_rfl) (by kernel_rfl) ?_)
                refine R.lit (s := 1) (n := 2) (cs := rows eI [(-1), IntKind.i64.wrap (((shl64 1 n_1) - 1) + 1)]) (by kernel_rfl) (by kernel_rfl) ?_
                refine R.go 1 (R.any1 11 (by kernel_rfl) (by kernel_rfl) ?_)
                refine R.callX (CallX.inF 2 usC frC (CallX.box 2 36 [AI 0, .nil, .nil] (pickX_c_r3c c p1_36 h1_37 [(-1), IntKind.i64.wrap (((shl64 1 n_1) - 1) + 1)] eo1 so1 no1 co1 36 3 1 [AI 0, .nil, .nil] 2 1 vs_3.length (rows eI vs_3) 36 n_1 xs_2 hc (by simp)) (by kernel_rfl) (by kernel_rfl) (by kernel_rfl) (by kernel_rfl) (by rintro _ _ ⟨_, _, _, rfl, rfl⟩; exact ⟨by kernel_rfl, by kernel_rfl, by kernel_rfl⟩)) (Nat.le_of_ble_eq_true (by kernel_rfl)) (by kernel_rfl) (by kernel_rfl) (by rintro _ _ ⟨_, ⟨_, _, _, rfl, rfl⟩, rfl⟩; exact Nat.le_of_ble_eq_true (by kernel_rfl))) (by kernel_rfl) (by kernel_rfl) (by kernel_rfl) ?_
                rintro _ _ ⟨_, _, ⟨_, ⟨v_45, p1_46, h1_47, rfl, rfl⟩, rfl⟩, rfl, rfl⟩
                refine R.go 1 (R.any1 12 (by kernel_rfl) (by kernel_rfl) ?_)
                refine R.idxO 4 1 vs_3.length ((v_35).toNat) v_35 (by kernel_rfl) (by omega) (by omega) (by kernel_rfl) ?_
                refine R.go 1 (R.any1 13 (by kernel_rfl) (by kernel_rfl) ?_)
                refine R.stI 4 2 vs_3 ((v_35).toNat) v_45 (by kernel_rfl) (by omega) (by kernel_rfl) ?_
                refine R.go 1 (R.any0 (by kernel_rfl) ?_)
                refine R.go 6 (R.frz 4 (by kernel_rfl) ?_)
                refine R.kfix 2 (us := usC) (by kernel_rfl) (hfC.frz 4 (LI (vs_3.set ((v_35).toNat) v_45)) (Nat.le_of_ble_eq_true (by kernel_rfl))) ?_
                exact R.retX (res := .agg [AI n_1, LI xs_2, LI (vs_3.set ((v_35).toNat) v_45)]) (hp' := [.box 106 [LB c, AI (p1_46 : Int), .int .u64 h1_47], .list eo1 so1 no1 co1, .dead, .box 36 [AI n_1, LI xs_2, LI (vs_3.set ((v_35).toNat) v_45)], .dead, .box 36 [AI n_1, LI xs_2, LI (vs_3.set ((v_35).toNat) v_45)]]) (by kernel_rfl) (by kernel_rfl) (by kernel_rfl) (by kernel_rfl) ⟨[0, 1], by kernel_rfl, by decide, n_1, xs_2, vs_3.set ((v_35).toNat) v_45, p1_46, h1_47, by first | omega | (simp only [List.length_drop, List.length_set]; omega), by first | omega | (simp only [List.length_drop, List.length_set]; omega), by kernel_rfl, by kernel_rfl⟩
              · refine R.lit (s := 1) (n := 2) (cs := rows eI [(-1), IntKind.i64.wrap (((shl64 1 n_1) - 1) + 1)]) (by kernel_rfl) (by kernel_rfl) ?_
                refine R.go 1 (R.any2 1 11 (by kernel_rfl) (by kernel_rfl) ?_ ?_)
                · refine R.go 2 (R.any1 11 (by kernel_rfl) (by kernel_rfl) ?_)
                  refine R.callX (CallX.inF 2 usC frC (CallX.box 2 36 [AI 0, .nil, .nil] (pickX_c_r3c c p1_36 h1_37 [(-1), IntKind.i64.wrap (((shl64 1 n_1) - 1) + 1)] eo1 so1 no1 co1 36 3 1 [AI 0, .nil, .nil] 2 1 vs_3.length (rows eI vs_3) 36 n_1 xs_2 hc (by simp)) (by kernel_rfl) (by kernel_rfl) (by kernel_rfl) (by kernel_rfl) (by rintro _ _ ⟨_, _, _, rfl, rfl⟩; exact ⟨by kernel_rfl, by kernel_rfl, by kernel_rfl⟩)) (Nat.le_of_ble_eq_true (by kernel_rfl)) (by kernel_rfl) (by kernel_rfl) (by rintro _ _ ⟨_, ⟨_, _, _, rfl, rfl⟩, rfl⟩; exact Nat.le_of_ble_eq_true (by kernel_rfl))) (by kernel_rfl) (by kernel_rfl) (by kernel_rfl) ?_
                  rintro _ _ ⟨_, _, ⟨_, ⟨v_48, p1_49, h1_50, rfl, rfl⟩, rfl⟩, rfl, rfl⟩
                  refine R.go 1 (R.any1 12 (by kernel_rfl) (by kernel_rfl) ?_)
                  refine R.idxO 4 1 vs_3.length ((v_35).toNat) v_35 (by kernel_rfl) (by omega) (by omega) (by kernel_rfl) ?_
                  refine R.go 1 (R.any1 13 (by kernel_rfl) (by kernel_rfl) ?_)
                  refine R.stI 4 2 vs_3 ((v_35).toNat) v_48 (by kernel_rfl) (by omega) (by kernel_rfl) ?_
                  refine R.go 1 (R.any0 (by kernel_rfl) ?_)
                  refine R.go 6 (R.frz 4 (by kernel_rfl) ?_)
                  refine R.kfix 2 (us := usC) (by kernel_rfl) (hfC.frz 4 (LI (vs_3.set ((v_35).toNat) v_48)) (Nat.le_of_ble_eq_true (by kernel_rfl))) ?_
                  exact R.retX (res := .agg [AI n_1, LI xs_2, LI (vs_3.set ((v_35).toNat) v_48)]) (hp' := [.box 106 [LB c, AI (p1_49 : Int), .int .u64 h1_50], .list eo1 so1 no1 co1, .dead, .box 36 [AI n_1, LI xs_2, LI (vs_3.set ((v_35).toNat) v_48)], .dead, .box 36 [AI n_1, LI xs_2, LI (vs_3.set ((v_35).toNat) v_48)]]) (by kernel_rfl) (by kernel_rfl) (by kernel_rfl) (by kernel_rfl) ⟨[0, 1], by kernel_rfl, by decide, n_1, xs_2, vs_3.set ((v_35).toNat) v_48, p1_49, h1_50, by first | omega | (simp only [List.length_drop, List.length_set]; omega), by first | omega | (simp only [List.length_drop, List.length_set]; omega), by kernel_rfl, by kernel_rfl⟩
                · refine R.callX (CallX.inF 2 usC frC (CallX.box 2 36 [AI 0, .nil, .nil] (pickX_c_r3c c p1_36 h1_37 [(-1), IntKind.i64.wrap (((shl64 1 n_1) - 1) + 1)] eo1 so1 no1 co1 36 3 1 [AI 0, .nil, .nil] 2 1 vs_3.length (rows eI vs_3) 36 n_1 xs_2 hc (by simp)) (by kernel_rfl) (by kernel_rfl) (by kernel_rfl) (by kernel_rfl) (by rintro _ _ ⟨_, _, _, rfl, rfl⟩; exact ⟨by kernel_rfl, by kernel_rfl, by kernel_rfl⟩)) (Nat.le_of_ble_eq_true (by kernel_rfl)) (by kernel_rfl) (by kernel_rfl) (by rintro _ _ ⟨_, ⟨_, _, _, rfl, rfl⟩, rfl⟩; exact Nat.le_of_ble_eq_true (by kernel_rfl))) (by kernel_rfl) (by kernel_rfl) (by kernel_rfl) ?_
                  rintro _ _ ⟨_, _, ⟨_, ⟨v_51, p1_52, h1_53, rfl, rfl⟩, rfl⟩, rfl, rfl⟩
                  refine R.go 1 (R.any1 1 (by kernel_rfl) (by kernel_rfl) ?_)
                  refine R.go 2 (R.any1 12 (by kernel_rfl) (by kernel_rfl) ?_)
                  refine R.idxO 4 1 vs_3.length ((v_35).toNat) v_35 (by kernel_rfl) (by omega) (by omega) (by kernel_rfl) ?_
                  refine R.go 1 (R.any1 13 (by kernel_rfl) (by kernel_rfl) ?_)
                  refine R.stI 4 2 vs_3 ((v_35).toNat) v_51 (by kernel_rfl) (by omega) (by kernel_rfl) ?_
                  refine R.go 1 (R.any0 (by kernel_rfl) ?_)
                  refine R.go 6 (R.frz 4 (by kernel_rfl) ?_)
                  refine R.kfix 2 (us := usC) (by kernel_rfl) (hfC.frz 4 (LI (vs_3.set ((v_35).toNat) v_51)) (Nat.le_of_ble_eq_true (by kernel_rfl))) ?_
                  exact R.retX (res := .agg [AI n_1, LI xs_2, LI (vs_3.set ((v_35).toNat) v_51)]) (hp' := [.box 106 [LB c, AI (p1_52 : Int), .int .u64 h1_53], .list eo1 so1 no1 co1, .dead, .box 36 [AI n_1, LI xs_2, LI (vs_3.set ((v_35).toNat) v_51)], .dead, .box 36 [AI n_1, LI xs_2, LI (vs_3.set ((v_35).toNat) v_51)]]) (by kernel_rfl) (by kernel_rfl) (by kernel_rfl) (by kernel_rfl) ⟨[0, 1], by kernel_rfl, by decide, n_1, xs_2, vs_3.set ((v_35).toNat) v_51, p1_52, h1_53, by first | omega | (simp only [List.length_drop, List.length_set]; omega), by first | omega | (simp only [List.length_drop, List.length_set]; omega), by kernel_rfl, by kernel_rfl⟩
        · refine R.go 2 (R.any2 1 3 (by kernel_rfl) (by kernel_rfl) ?_ ?_)
          · refine R.go 2 (R.any1 3 (by kernel_rfl) (by kernel_rfl) ?_)
            refine R.callX (CallX.inF 2 usC frC (CallX.box 2 36 [AI 0, .nil, .nil] (nextX_c_r3c c p1_10 h1_11 6 eo1 so1 no1 co1 36 3 1 [AI 0, .nil, .nil] 2 1 vs_3.length (rows eI vs_3) 36 n_1 xs_2 hc) (by kernel_rfl) (by kernel_rfl) (by kernel_rfl) (by kernel_rfl) (by rintro _ _ ⟨_, _, _, _, rfl, rfl⟩; exact ⟨by kernel_rfl, by kernel_rfl, by kernel_rfl⟩)) (Nat.le_of_ble_eq_true (by kernel_rfl)) (by kernel_rfl) (by kernel_rfl) (by rintro _ _ ⟨_, ⟨_, _, _, _, rfl, rfl⟩, rfl⟩; exact Nat.le_of_ble_eq_true (by kernel_rfl))) (by kernel_rfl) (by kernel_rfl) (by kernel_rfl) ?_
            rintro _ _ ⟨_, _, ⟨_, ⟨v_54, p1_55, h1_56, f57, rfl, rfl⟩, rfl⟩, rfl, rfl⟩
            refine R.go 1 (R.any1 8 (by kernel_rfl) (by kernel_rfl) ?_)
            refine R.call true (l01Full_c n_1 (by omega) (by omega)) (by kernel_rfl) rfl (by kernel_rfl) ?_
            refine R.go 1 (R.anyI 9 (AI (IntKind.i64.wrap (((shl64 1 n_1) - 1) + 1))) (by kernel_rfl) (np_retX _ _ _ _ _ _) ?_)
            refine R.any1 10 (by kernel_rfl) (by kernel_rfl) ?_
            refine R.lit (s := 1) (n := 2) (cs := rows eI [(-1), IntKind.i64.wrap (((shl64 1 n_1) - 1) + 1)]) (by kernel_rfl) (by kernel_rfl) ?_
            refine R.go 1 (R.any1 11 (by kernel_rfl) (by kernel_rfl) ?_)
            refine R.callX (CallX.inF 2 usC frC (CallX.box 2 36 [AI 0, .nil, .nil] (pickX_c_r3c c p1_55 h1_56 [(-1), IntKind.i64.wrap (((shl64 1 n_1) - 1) + 1)] eo1 so1 no1 co1 36 3 1 [AI 0, .nil, .nil] 2 1 vs_3.length (rows eI vs_3) 36 n_1 xs_2 hc (by simp)) (by kernel_rfl) (by kernel_rfl) (by kernel_rfl) (by kernel_rfl) (by rintro _ _ ⟨_, _, _, rfl, rfl⟩; exact ⟨by kernel_rfl, by kernel_rfl, by kernel_rfl⟩)) (Nat.le_of_ble_eq_true (by kernel_rfl)) (by kernel_rfl) (by kernel_rfl) (by rintro _ _ ⟨_, ⟨_, _, _, rfl, rfl⟩, rfl⟩; exact Nat.le_of_ble_eq_true (by kernel_rfl))) (by kernel_rfl) (by kernel_rfl) (by kernel_rfl) ?_
            rintro _ _ ⟨_, _, ⟨_, ⟨v_58, p1_59, h1_60, rfl, rfl⟩, rfl⟩, rfl, rfl⟩
            refine R.go 1 (R.any1 12 (by kernel_rfl) (by kernel_rfl) ?_)
            refine R.idxO 4 1 vs_3.length ((v_54).toNat) v_54 (by kernel_rfl) (by omega) (by omega) (by kernel_rfl) ?_
            refine R.go 1 (R.any1 13 (by kernel_rfl) (by kernel_rfl) ?_)
            refine R.stI 4 2 vs_3 ((v_54).toNat) v_58 (by kernel_rfl) (by omega) (by kernel_rfl) ?_
            refine R.go 1 (R.any0 (by kernel_rfl) ?_)
            refine R.go 6 (R.frz 4 (by kernel_rfl) ?_)
            refine R.kfix 2 (us := usC) (by kernel_rfl) (hfC.frz 4 (LI (vs_3.set ((v_54).toNat) v_58)) (Nat.le_of_ble_eq_true (by kernel_rfl))) ?_
            exact R.retX (res := .agg [AI n_1, LI xs_2, LI (vs_3.set ((v_54).toNat) v_58)]) (hp' := [.box 106 [LB c, AI (p1_59 : Int), .int .u64 h1_60], .list eo1 so1 no1 co1, .dead, .box 36 [AI n_1, LI xs_2, LI (vs_3.set ((v_54).toNat) v_58)], .dead, .box 36 [AI n_1, LI xs_2, LI (vs_3.set ((v_54).toNat) v_58)]]) (by kernel_rfl) (by kernel_rfl) (by kernel_rfl) (by kernel_rfl) ⟨[0, 1], by kernel_rfl, by decide, n_1, xs_2, vs_3.set ((v_54).toNat) v_58, p1_59, h1_60, by first | omega | (simp only [List.length_drop, List.length_set]; omega), by first | omega | (simp only [List.length_drop, List.length_set]; omega), by kernel_rfl, by kernel_rfl⟩
          · refine R.callX (CallX.inF 2 usC frC (CallX.box 2 36 [AI 0, .nil, .nil] (nextX_c_r3c c p1_10 h1_11 6 eo1 so1 no1 co1 36 3 1 [AI 0, .nil, .nil] 2 1 vs_3.length (rows eI vs_3) 36 n_1 xs_2 hc) (by kernel_rfl) (by kernel_rfl) (by kernel_rfl) (by kernel_rfl) (by rintro _ _ ⟨_, _, _, _, rfl, rfl⟩; exact ⟨by kernel_rfl, by kernel_rfl, by kernel_rfl⟩)) (Nat.le_of_ble_eq_true (by kernel_rfl)) (by kernel_rfl) (by kernel_rfl) (by rintro _ _ ⟨_, ⟨_, _, _, _, rfl, rfl⟩, rfl⟩; exact Nat.le_of_ble_eq_true (by kernel_rfl))) (by kernel_rfl) (by kernel_rfl) (by kernel_rfl) ?_
            rintro _ _ ⟨_, _, ⟨_, ⟨v_61, p1_62, h1_63, f64, rfl, rfl⟩, rfl⟩, rfl, rfl⟩
            refine R.go 1 (R.any2 1 8 (by kernel_rfl) (by kernel_rfl) ?_ ?_)
            · refine R.go 2 (R.any1 8 (by kernel_rfl) (by kernel_rfl) ?_)
              refine R.call true (l01Full_c n_1 (by omega) (by omega)) (by kernel_rfl) rfl (by kernel_rfl) ?_
              refine R.go 1 (R.anyI 9 (AI (IntKind.i64.wrap (((shl64 1 n_1) - 1) + 1))) (by kernel_rfl) (np_retX _ _ _ _ _ _) ?_)
              refine R.any1 10 (by kernel_rfl) (by kernel_rfl) ?_
              refine R.lit (s := 1) (n := 2) (cs := rows eI [(-1), IntKind.i64.wrap (((shl64 1 n_1) - 1) + 1)]) (by kernel_rfl) (by kernel_rfl) ?_
              refine R.go 1 (R.any1 11 (by kernel_rfl) (by kernel_rfl) ?_)
              refine R.callX (CallX.inF 2 usC frC (CallX.box 2 36 [AI 0, .nil, .nil] (pickX_c_r3c c p1_62 h1_63 [(-1), IntKind.i64.wrap (((shl64 1 n_1) - 1) + 1)] eo1 so1 no1 co1 36 3 1 [AI 0, .nil, .nil] 2 1 vs_3.length (rows eI vs_3) 36 n_1 xs_2 hc (by simp)) (by kernel_rfl) (by kernel_rfl) (by kernel_rfl) (by kernel_rfl) (by rintro _ _ ⟨_, _, _, rfl, rfl⟩; exact ⟨by kernel_rfl, by kernel_rfl, by kernel_rfl⟩)) (Nat.le_of_ble_eq_true (by kernel_rfl)) (by kernel_rfl) (by kernel_rfl) (by rintro _ _ ⟨_, ⟨_, _, _, rfl, rfl⟩, rfl⟩; exact Nat.le_of_ble_eq_true (by kernel_rfl))) (by kernel_rfl) (by kernel_rfl) (by kernel_rfl) ?_
              rintro _ _ ⟨_, _, ⟨_, ⟨v_65, p1_66, h1_67, rfl, rfl⟩, rfl⟩, rfl, rfl⟩
              refine R.go 1 (R.any1 12 (by kernel_rfl) (by kernel_rfl) ?_)
              refine R.idxO 4 1 vs_3.length ((v_61).toNat) v_61 (by kernel_rfl) (by omega) (by omega) (by kernel_rfl) ?_
              refine R.go 1 (R.any1 13 (by kernel_rfl) (by kernel_rfl) ?_)
              refine R.stI 4 2 vs_3 ((v_61).toNat) v_65 (by kernel_rfl) (by omega) (by kernel_rfl) ?_
              refine R.go 1 (R.any0 (by kernel_rfl) ?_)
              refine R.go 6 (R.frz 4 (by kernel_rfl) ?_)
              refine R.kfix 2 (us := usC) (by kernel_rfl) (hfC.frz 4 (LI (vs_3.set ((v_61).toNat) v_65)) (Nat.le_of_ble_eq_true (by kernel_rfl))) ?_
              exact R.retX (res := .agg [AI n_1, LI xs_2, LI (vs_3.set ((v_61).toNat) v_65)]) (hp' := [.box 106 [LB c, AI (p1_66 : Int), .int .u64 h1_67], .list eo1 so1 no1 co1, .dead, .box 36 [AI n_1, LI xs_2, LI (vs_3.set ((v_61).toNat) v_65)], .dead, .box 36 [AI n_1, LI xs_2, LI (vs_3.set ((v_61).toNat) v_65)]]) (by kernel_rfl) (by kernel_rfl) (by kernel_rfl) (by kernel_rfl) ⟨[0, 1], by kernel_rfl, by decide, n_1, xs_2, vs_3.set ((v_61).toNat) v_65, p1_66, h1_67, by first | omega | (simp only [List.length_drop, List.length_set]; omega), by first | omega | (simp only [List.length_drop, List.length_set]; omega), by kernel_rfl, by kernel_rfl⟩
            · refine R.call true (l01Full_c n_1 (by omega) (by omega)) (by kernel_rfl) rfl (by kernel_rfl) ?_
              refine R.go 1 (R.anyI 9 (AI (IntKind.i64.wrap (((shl64 1 n_1) - 1) + 1))) (by kernel_rfl) (np_retX _ _ _ _ _ _) ?_)
              refine R.any2 1 10 (by kernel_rfl) (by kernel_rfl) ?_ ?_
              · refine R.go 2 (R.any1 10 (by kernel_rfl) (by kernel_rfl) ?_)
                refine R.lit (s := 1) (n := 2) (cs := rows eI [(-1), IntKind.i64.wrap (((shl64 1 n_1) - 1) + 1)]) (by kernel_rfl) (by kernel_rfl) ?_
                refine R.go 1 (R.any1 11 (by kernel_rfl) (by kernel_rfl) ?_)
                refine R.callX (CallX.inF 2 usC frC (CallX.box 2 36 [AI 0, .nil, .nil] (pickX_c_r3c c p1_62 h1_63 [(-1), IntKind.i64.wrap (((shl64 1 n_1) - 1) + 1)] eo1 so1 no1 co1 36 3 1 [AI 0, .nil, .nil] 2 1 vs_3.length (rows eI vs_3) 36 n_1 xs_2 hc (by simp)) (by kernel_rfl) (by kernel_rfl) (by kernel_rfl) (by kernel_rfl) (by rintro _ _ ⟨_, _, _, rfl, rfl⟩; exact ⟨by kernel_rfl, by kernel_rfl, by kernel_rfl⟩)) (Nat.le_of_ble_eq_true (by kernel_rfl)) (by kernel_rfl) (by kernel_rfl) (by rintro _ _ ⟨_, ⟨_, _, _, rfl, rfl⟩, rfl⟩; exact Nat.le_of_ble_eq_true (by kernel_rfl))) (by kernel_rfl) (by kernel_rfl) (by kernel_rfl) ?_
                rintro _ _ ⟨_, _, ⟨_, ⟨v_68, p1_69, h1_70, rfl, rfl⟩, rfl⟩, rfl, rfl⟩
                refine R.go 1 (R.any1 12 (by kernel_rfl) (by kernel_rfl) ?_)
                refine R.idxO 4 1 vs_3.length ((v_61).toNat) v_61 (by kernel_rfl) (by omega) (by omega) (by kernel_rfl) ?_
                refine R.go 1 (R.any1 13 (by kernel_rfl) (by kernel_rfl) ?_)
                refine R.stI 4 2 vs_3 ((v_61).toNat) v_68 (by kernel_rfl) (by omega) (by kernel_rfl) ?_
                refine R.go 1 (R.any0 (by kernel_rfl) ?_)
                refine R.go 6 (R.frz 4 (by kernel_rfl) ?_)
                refine R.kfix 2 (us := usC) (by kernel_rfl) (hfC.frz 4 (LI (vs_3.set ((v_61).toNat) v_68)) (Nat.le_of_ble_eq_true (by kernel_rfl))) ?_
                exact R.retX (res := .agg [AI n_1, LI xs_2, LI (vs_3.set ((v_61).toNat) v_68)]) (hp' := [.box 106 [LB c, AI (p1_69 : Int), .int .u64 h1_70], .list eo1 so1 no1 co1, .dead, .box 36 [AI n_1, LI xs_2, LI (vs_3.set ((v_61).toNat) v_68)], .dead, .box 36 [AI n_1, LI xs_2, LI (vs_3.set ((v_61).toNat) v_68)]]) (by kernel_rfl) (by kernel_rfl) (by kernel_rfl) (by kernel_rfl) ⟨[0, 1], by kernel_rfl, by decide, n_1, xs_2, vs_3.set ((v_61).toNat) v_68, p1_69, h1_70, by first | omega | (simp only [List.length_drop, List.length_set]; omega), by first | omega | (simp only [List.length_drop, List.length_set]; omega), by kernel_rfl, by kernel_rfl⟩
              · refine R.lit (s := 1) (n := 2) (cs := rows eI [(-1), IntKind.i64.wrap (((shl64 1 n_1) - 1) + 1)]) (by kernel_rfl) (by kernel_rfl) ?_
                refine R.go 1 (R.any2 1 11 (by kernel_rfl) (by kernel_rfl) ?_ ?_)
                · refine R.go 2 (R.any1 11 (by kernel_rfl) (by kernel_rfl) ?_)
                  refine R.callX (CallX.inF 2 usC frC (CallX.box 2 36 [AI 0, .nil, .nil] (pickX_c_r3c c p1_62 h1_63 [(-1), IntKind.i64.wrap (((shl64 1 n_1) - 1) + 1)] eo1 so1 no1 co1 36 3 1 [AI 0, .nil, .nil] 2 1 vs_3.length (rows eI vs_3) 36 n_1 xs_2 hc (by simp)) (by kernel_rfl) (by kernel_rfl) (by kernel_rfl) (by kernel_rfl) (by rintro _ _ ⟨_, _, _, rfl, rfl⟩; exact ⟨by kernel_rfl, by kernel_rfl, by kernel_rfl⟩)) (Nat.le_of_ble_eq_true (by kernel_rfl)) (by kernel_rfl) (by kernel_rfl) (by rintro _ _ ⟨_, ⟨_, _, _, rfl, rfl⟩, rfl⟩; exact Nat.le_of_ble_eq_true (by kernel_rfl))) (by kernel_rfl) (by kernel_rfl) (by kernel_rfl) ?_
                  rintro _ _ ⟨_, _, ⟨_, ⟨v_71, p1_72, h1_73, rfl, rfl⟩, rfl⟩, rfl, rfl⟩
                  refine R.go 1 (R.any1 12 (by kernel_rfl) (by kernel_rfl) ?_)
                  refine R.idxO 4 1 vs_3.length ((v_61).toNat) v_61 (by kernel_rfl) (by omega) (by omega) (by kernel_rfl) ?_
                  refine R.go 1 (R.any1 13 (by kernel_rfl) (by kernel_rfl) ?_)
                  refine R.stI 4 2 vs_3 ((v_61).toNat) v_71 (by kernel_rfl) (by omega) (by kernel_rfl) ?_
                  refine R.go 1 (R.any0 (by kernel_rfl) ?_)
                  refine R.go 6 (R.frz 4 (by kernel_rfl) ?_)
                  refine R.kfix 2 (us := usC) (by kernel_rfl) (hfC.frz 4 (LI (vs_3.set ((v_61).toNat) v_71)) (Nat.le_of_ble_eq_true (by kernel_rfl))) ?_
                  exact R.retX (res := .agg [AI n_1, LI xs_2, LI (vs_3.set ((v_61).toNat) v_71)]) (hp' := [.box 106 [LB c, AI (p1_72 : Int), .int .u64 h1_73], .list eo1 so1 no1 co1, .dead, .box 36 [AI n_1, LI xs_2, LI (vs_3.set ((v_61).toNat) v_71)], .dead, .box 36 [AI n_1, LI xs_2, LI (vs_3.set ((v_61).toNat) v_71)]]) (by kernel_rfl) (by kernel_rfl) (by kernel_rfl) (by kernel_rfl) ⟨[0, 1], by kernel_rfl, by decide, n_1, xs_2, vs_3.set ((v_61).toNat) v_71, p1_72, h1_73, by first | omega | (simp only [List.length_drop, List.length_set]; omega), by first | omega | (simp only [List.length_drop, List.length_set]; omega), by kernel_rfl, by kernel_rfl⟩
                · refine R.callX (CallX.inF 2 usC frC (CallX.box 2 36 [AI 0, .nil, .nil] (pickX_c_r3c c p1_62 h1_63 [(-1), IntKind.i64.wrap (((shl64 1 n_1) - 1) + 1)] eo1 so1 no1 co1 36 3 1 [AI 0, .nil, .nil] 2 1 vs_3.length (rows eI vs_3) 36 n_1 xs_2 hc (by simp)) (by kernel_rfl) (by kernel_rfl) (by kernel_rfl) (by kernel_rfl) (by rintro _ _ ⟨_, _, _, rfl, rfl⟩; exact ⟨by kernel_rfl, by kernel_rfl, by kernel_rfl⟩)) (Nat.le_of_ble_eq_true (by kernel_rfl)) (by kernel_rfl) (by kernel_rfl) (by rintro _ _ ⟨_, ⟨_, _, _, rfl, rfl⟩, rfl⟩; exact Nat.le_of_ble_eq_true (by kernel_rfl))) (by kernel_rfl) (by kernel_rfl) (by kernel_rfl) ?_
                  rintro _ _ ⟨_, _, ⟨_, ⟨v_74, p1_75, h1_76, rfl, rfl⟩, rfl⟩, rfl, rfl⟩
                  refine R.go 1 (R.any1 1 (by kernel_rfl) (by kernel_rfl) ?_)
                  refine R.go 2 (R.any1 12 (by kernel_rfl) (by kernel_rfl) ?_)
                  refine R.idxO 4 1 vs_3.length ((v_61).toNat) v_61 (by kernel_rfl) (by omega) (by omega) (by kernel_rfl) ?_
                  refine R.go 1 (R.any1 13 (by kernel_rfl) (by kernel_rfl) ?_)
                  refine R.stI 4 2 vs_3 ((v_61).toNat) v_74 (by kernel_rfl) (by omega) (by kernel_rfl) ?_
                  refine R.go 1 (R.any0 (by kernel_rfl) ?_)
                  refine R.go 6 (R.frz 4 (by kernel_rfl) ?_)
                  refine R.kfix 2 (us := usC) (by kernel_rfl) (hfC.frz 4 (LI (vs_3.set ((v_61).toNat) v_74)) (Nat.le_of_ble_eq_true (by kernel_rfl))) ?_
                  exact R.retX (res := .agg [AI n_1, LI xs_2, LI (vs_3.set ((v_61).toNat) v_74)]) (hp' := [.box 106 [LB c, AI (p1_75 : Int), .int .u64 h1_76], .list eo1 so1 no1 co1, .dead, .box 36 [AI n_1, LI xs_2, LI (vs_3.set ((v_61).toNat) v_74)], .dead, .box 36 [AI n_1, LI xs_2, LI (vs_3.set ((v_61).toNat) v_74)]]) (by kernel_rfl) (by kernel_rfl) (by kernel_rfl) (by kernel_rfl) ⟨[0, 1], by kernel_rfl, by decide, n_1, xs_2, vs_3.set ((v_61).toNat) v_74, p1_75, h1_76, by first | omega | (simp only [List.length_drop, List.length_set]; omega), by first | omega | (simp only [List.length_drop, List.length_set]; omega), by kernel_rfl, by kernel_rfl⟩
      · refine R.go 7 (R.frz 4 (by kernel_rfl) ?_)
        refine R.kfix 2 (us := usC) (by kernel_rfl) (hfC.frz 4 (LI vs_3) (Nat.le_of_ble_eq_true (by kernel_rfl))) ?_
        exact R.retX (res := .agg [AI n_1, LI xs_2, LI vs_3]) (hp' := [.box 106 [LB c, AI (p1_10 : Int), .int .u64 h1_11], .list eo1 so1 no1 co1, .dead, .box 36 [AI n_1, LI xs_2, LI vs_3], .dead, .box 36 [AI n_1, LI xs_2, LI vs_3]]) (by kernel_rfl) (by kernel_rfl) (by kernel_rfl) (by kernel_rfl) ⟨[0, 1], by kernel_rfl, by decide, n_1, xs_2, vs_3, p1_10, h1_11, by first | omega | (simp only [List.length_drop, List.length_set]; omega), by first | omega | (simp only [List.length_drop, List.length_set]; omega), by kernel_rfl, by kernel_rfl⟩

end Go.Proofs.Ytejaikeemahobaa


/-! Draws of the laws. -/
namespace Go.Proofs.Ytejaikeemahobaa
open Go.RowKit Go.Abs

theorem drTruth_c (c : List Int) (hc : BY c) : CallX Try.prog 14 [LB c] [] (fun (resX : AV) (objX : List AObj) => ∃ n : Int, ∃ xs : List Int, ∃ vs : List Int, ∃ a : List (Int × Int), (xs.length ≤ 1000) ∧ (vs.length ≤ 6) ∧ (a.length ≤ 1000) ∧ resX = .tup [.agg [AI n, LI xs, LI vs], LN a] ∧ objX = []) := by
  have hcl : c.length ≤ 4096 := hc.1
  have hcb := hc.2
  refine CallX.dropE (CallX.ofF Try.func14 rfl (by kernel_rfl) ?_)
  intro usC frC hfC
  refine R.go 8 (R.enter (avs := [LB c]) Try.func40 rfl (by kernel_rfl) (by kernel_rfl) (by kernel_rfl) ?_)
  intro us1
  refine R.go 9 (R.cv .u64 (c.length : Int) (by kernel_rfl) (u64_id (by omega) (by omega)) (by kernel_rfl) ?_)
  refine R.go 11 (R.loop ((fun | (i, hh) => (⟨(frm 38 [(0, LB c), (3, .ptr 3 0), (4, AI (i : Int))]), [.frame usC frC, .box 36 [AI 0, .nil, .nil], .frame us1 (frm 13 [(0, LB c), (2, .ptr 1 0), (3, .nil), (6, LB c)]), .box 106 [LB c, AI 0, .int .u64 hh]]⟩ : St) : Nat × Int → St)) (fun | (i, hh) => i ≤ c.length) (fun | (i, hh) => c.length - i) (0, (IntKind.u64.wrap (7129 + (c.length : Int)))) [0, 3, 4] none (by kernel_rfl) (by kernel_rfl) (by kernel_rfl) (by omega) ?_)
  rintro ⟨i, hh⟩ h5_1 R2 N3
  refine R.go 8 ?_
  by_cases c6 : (i : Int) < (c.length : Int)
  · refine R.want (decide ((i : Int) < (c.length : Int))) true (by kernel_rfl) (dT c6) ?_
    refine R.go 1 (R.want (decide ((i : Int) < (c.length : Int))) true (by kernel_rfl) (dT c6) ?_)
    refine R.go 1 (R.pick (decide ((i : Int) < (c.length : Int))) true (by kernel_rfl) (dT c6) (by kernel_rfl) ?_)
    refine R.go 1 (R.cond ((i : Int) < 4096) (by kernel_rfl) (fun c7 => ?_) (fun c7 => ?_))
    · have hbi := hcb i (by omega)
      refine R.go 12 (R.idx eB c 0 i (i : Int) (by kernel_rfl) rfl eB_len (by omega) (by kernel_rfl) ?_)
      refine R.go 1 (R.cv .u64 (c.getD i 0) (by kernel_rfl) (u64_id (by omega) (by omega)) (by kernel_rfl) ?_)
      refine R.go 9 (R.ar ((i : Int) + 1) (by kernel_rfl) (by omega) (by omega) (by kernel_rfl) ?_)
      exact R.go 2 (R.stop R2 (by kernel_rfl) (N3 (i + 1, IntKind.u64.wrap ((IntKind.u64.wrap ((IntKind.u64.wrap (hh * 1099511628211)) + (c.getD i 0))) + 11)) [0, 3, 4] none _ (by kernel_rfl) (by kernel_rfl) (by omega) (by show (c.length - (i + 1)) < (c.length - i); omega)))
    · refine R.go 6 (R.back (.ptr 3 0) (frm 13 [(0, LB c), (2, .ptr 1 0), (3, .nil), (6, LB c)]) (by kernel_rfl) (by kernel_rfl) (by kernel_rfl) ?_)
      refine R.go 5 (R.deadF 2 (by kernel_rfl) (by kernel_rfl) ?_)
      refine R.callX (CallX.inF 0 usC frC (CallX.inF 1 [] [] (CallX.perm [1, 0] [1, 0] (CallX.box 1 36 [AI 0, .nil, .nil] (modelX_c_r1 c 0 hh 8 36 3 1 [AI 0, .nil, .nil] hc (by omega)) (by kernel_rfl) (by kernel_rfl) (by kernel_rfl) (by kernel_rfl) (by rintro _ _ ⟨_, _, _, _, _, _, _, rfl, rfl⟩; exact ⟨by kernel_rfl, by kernel_rfl, by kernel_rfl⟩)) (by kernel_rfl) (by kernel_rfl) (by kernel_rfl) (by rintro _ _ ⟨_, ⟨_, _, _, _, _, _, _, rfl, rfl⟩, rfl⟩; exact Nat.le_of_ble_eq_true (by kernel_rfl))) (Nat.le_of_ble_eq_true (by kernel_rfl)) (by kernel_rfl) (by kernel_rfl) (by rintro _ _ ⟨_, _, ⟨_, ⟨_, _, _, _, _, _, _, rfl, rfl⟩, rfl⟩, rfl, rfl⟩; exact Nat.le_of_ble_eq_true (by kernel_rfl))) (Nat.le_of_ble_eq_true (by kernel_rfl)) (by kernel_rfl) (by kernel_rfl) (by rintro _ _ ⟨_, _, ⟨_, _, ⟨_, ⟨_, _, _, _, _, _, _, rfl, rfl⟩, rfl⟩, rfl, rfl⟩, rfl, rfl⟩; exact Nat.le_of_ble_eq_true (by kernel_rfl))) (by kernel_rfl) (by kernel_rfl) (by kernel_rfl) ?_
      rintro _ _ ⟨_, _, ⟨_, _, ⟨_, _, ⟨_, ⟨n_8, xs_9, vs_10, p1_11, h1_12, f13, f14, rfl, rfl⟩, rfl⟩, rfl, rfl⟩, rfl, rfl⟩, rfl, rfl⟩
      refine R.go 4 (R.any (by decide +kernel) (by kernel_rfl) ?_)
      refine R.anyF 1 (by kernel_rfl) (np_retX _ _ _ _ _ _) ?_
      refine R.any2 0 2 (by kernel_rfl) (by kernel_rfl) ?_ ?_
      · refine R.go 2 (R.any1 2 (by kernel_rfl) (by kernel_rfl) ?_)
        refine R.callX (CallX.inF 0 usC frC (CallX.inF 1 [] [] (CallX.perm [1, 0, 2] [1, 0, 2] (CallX.box 2 36 [AI n_8, LI xs_9, LI vs_10] (CallX.box 1 36 [AI 0, .nil, .nil] (anyX_c_r2 c p1_11 h1_12 20 6 true 36 3 1 [AI 0, .nil, .nil] 36 3 1 [AI n_8, LI xs_9, LI vs_10] hc (by omega)) (by kernel_rfl) (by kernel_rfl) (by kernel_rfl) (by kernel_rfl) (by rintro _ _ ⟨_, _, _, _, rfl, rfl⟩; exact ⟨by kernel_rfl, by kernel_rfl, by kernel_rfl⟩)) (by kernel_rfl) (by kernel_rfl) (by kernel_rfl) (by kernel_rfl) (by rintro _ _ ⟨_, ⟨_, _, _, _, rfl, rfl⟩, rfl⟩; exact ⟨by kernel_rfl, by kernel_rfl, by kernel_rfl⟩)) (by kernel_rfl) (by kernel_rfl) (by kernel_rfl) (by rintro _ _ ⟨_, ⟨_, ⟨_, _, _, _, rfl, rfl⟩, rfl⟩, rfl⟩; exact Nat.le_of_ble_eq_true (by kernel_rfl))) (Nat.le_of_ble_eq_true (by kernel_rfl)) (by kernel_rfl) (by kernel_rfl) (by rintro _ _ ⟨_, _, ⟨_, ⟨_, ⟨_, _, _, _, rfl, rfl⟩, rfl⟩, rfl⟩, rfl, rfl⟩; exact Nat.le_of_ble_eq_true (by kernel_rfl))) (Nat.le_of_ble_eq_true (by kernel_rfl)) (by kernel_rfl) (by kernel_rfl) (by rintro _ _ ⟨_, _, ⟨_, _, ⟨_, ⟨_, ⟨_, _, _, _, rfl, rfl⟩, rfl⟩, rfl⟩, rfl, rfl⟩, rfl, rfl⟩; exact Nat.le_of_ble_eq_true (by kernel_rfl))) (by kernel_rfl) (by kernel_rfl) (by kernel_rfl) ?_
        rintro _ _ ⟨_, _, ⟨_, _, ⟨_, _, ⟨_, ⟨_, ⟨r_15, p1_16, h1_17, f18, rfl, rfl⟩, rfl⟩, rfl⟩, rfl, rfl⟩, rfl, rfl⟩, rfl, rfl⟩
        refine R.go 1 (R.any1 3 (by kernel_rfl) (by kernel_rfl) ?_)
        refine R.go 2 (R.any1 4 (by kernel_rfl) (by kernel_rfl) ?_)
        refine R.go 2 (R.any0 (by kernel_rfl) ?_)
        exact R.retX (res := .tup [.agg [AI n_8, LI xs_9, LI vs_10], LN r_15]) (hp' := [.dead, .box 36 [AI n_8, LI xs_9, LI vs_10], .frame [] [], .box 106 [LB c, AI (p1_16 : Int), .int .u64 h1_17], .box 36 [AI n_8, LI xs_9, LI vs_10]]) (by kernel_rfl) (by kernel_rfl) (by kernel_rfl) (by kernel_rfl) ⟨[], by kernel_rfl, by decide, n_8, xs_9, vs_10, r_15, by first | assumption | omega, by first | assumption | omega, by first | assumption | omega, by kernel_rfl, by kernel_rfl⟩
      · refine R.callX (CallX.inF 0 usC frC (CallX.inF 1 [] [] (CallX.perm [1, 0, 2] [1, 0, 2] (CallX.box 2 36 [AI n_8, LI xs_9, LI vs_10] (CallX.box 1 36 [AI 0, .nil, .nil] (anyX_c_r2 c p1_11 h1_12 20 6 true 36 3 1 [AI 0, .nil, .nil] 36 3 1 [AI n_8, LI xs_9, LI vs_10] hc (by omega)) (by kernel_rfl) (by kernel_rfl) (by kernel_rfl) (by kernel_rfl) (by rintro _ _ ⟨_, _, _, _, rfl, rfl⟩; exact ⟨by kernel_rfl, by kernel_rfl, by kernel_rfl⟩)) (by kernel_rfl) (by kernel_rfl) (by kernel_rfl) (by kernel_rfl) (by rintro _ _ ⟨_, ⟨_, _, _, _, rfl, rfl⟩, rfl⟩; exact ⟨by kernel_rfl, by kernel_rfl, by kernel_rfl⟩)) (by kernel_rfl) (by kernel_rfl) (by kernel_rfl) (by rintro _ _ ⟨_, ⟨_, ⟨_, _, _, _, rfl, rfl⟩, rfl⟩, rfl⟩; exact Nat.le_of_ble_eq_true (by kernel_rfl))) (Nat.le_of_ble_eq_true (by kernel_rfl)) (by kernel_rfl) (by kernel_rfl) (by rintro _ _ ⟨_, _, ⟨_, ⟨_, ⟨_, _, _, _, rfl, rfl⟩, rfl⟩, rfl⟩, rfl, rfl⟩; exact Nat.le_of_ble_eq_true (by kernel_rfl))) (Nat.le_of_ble_eq_true (by kernel_rfl)) (by kernel_rfl) (by kernel_rfl) (by rintro _ _ ⟨_, _, ⟨_, _, ⟨_, ⟨_, ⟨_, _, _, _, rfl, rfl⟩, rfl⟩, rfl⟩, rfl, rfl⟩, rfl, rfl⟩; exact Nat.le_of_ble_eq_true (by kernel_rfl))) (by kernel_rfl) (by kernel_rfl) (by kernel_rfl) ?_
        rintro _ _ ⟨_, _, ⟨_, _, ⟨_, _, ⟨_, ⟨_, ⟨r_19, p1_20, h1_21, f22, rfl, rfl⟩, rfl⟩, rfl⟩, rfl, rfl⟩, rfl, rfl⟩, rfl, rfl⟩
        refine R.go 1 (R.any1 0 (by kernel_rfl) (by kernel_rfl) ?_)
        refine R.go 2 (R.any1 3 (by kernel_rfl) (by kernel_rfl) ?_)
        refine R.go 2 (R.any1 4 (by kernel_rfl) (by kernel_rfl) ?_)
        refine R.go 2 (R.any0 (by kernel_rfl) ?_)
        exact R.retX (res := .tup [.agg [AI n_8, LI xs_9, LI vs_10], LN r_19]) (hp' := [.dead, .box 36 [AI n_8, LI xs_9, LI vs_10], .frame [] [], .box 106 [LB c, AI (p1_20 : Int), .int .u64 h1_21], .box 36 [AI n_8, LI xs_9, LI vs_10]]) (by kernel_rfl) (by kernel_rfl) (by kernel_rfl) (by kernel_rfl) ⟨[], by kernel_rfl, by decide, n_8, xs_9, vs_10, r_19, by first | assumption | omega, by first | assumption | omega, by first | assumption | omega, by kernel_rfl, by kernel_rfl⟩
  · refine R.skp (decide ((i : Int) < (c.length : Int))) true (by kernel_rfl) (dF c6) (by kernel_rfl) ?_
    refine R.skp (decide ((i : Int) < (c.length : Int))) true (by kernel_rfl) (dF c6) (by kernel_rfl) ?_
    refine R.pick (decide ((i : Int) < (c.length : Int))) false (by kernel_rfl) (dF c6) (by kernel_rfl) ?_
    refine R.go 8 (R.back (.ptr 3 0) (frm 13 [(0, LB c), (2, .ptr 1 0), (3, .nil), (6, LB c)]) (by kernel_rfl) (by kernel_rfl) (by kernel_rfl) ?_)
    refine R.go 5 (R.deadF 2 (by kernel_rfl) (by kernel_rfl) ?_)
    refine R.callX (CallX.inF 0 usC frC (CallX.inF 1 [] [] (CallX.perm [1, 0] [1, 0] (CallX.box 1 36 [AI 0, .nil, .nil] (modelX_c_r1 c 0 hh 8 36 3 1 [AI 0, .nil, .nil] hc (by omega)) (by kernel_rfl) (by kernel_rfl) (by kernel_rfl) (by kernel_rfl) (by rintro _ _ ⟨_, _, _, _, _, _, _, rfl, rfl⟩; exact ⟨by kernel_rfl, by kernel_rfl, by kernel_rfl⟩)) (by kernel_rfl) (by kernel_rfl) (by kernel_rfl) (by rintro _ _ ⟨_, ⟨_, _, _, _, _, _, _, rfl, rfl⟩, rfl⟩; exact Nat.le_of_ble_eq_true (by kernel_rfl))) (Nat.le_of_ble_eq_true (by kernel_rfl)) (by kernel_rfl) (by kernel_rfl) (by rintro _ _ ⟨_, _, ⟨_, ⟨_, _, _, _, _, _, _, rfl, rfl⟩, rfl⟩, rfl, rfl⟩; exact Nat.le_of_ble_eq_true (by kernel_rfl))) (Nat.le_of_ble_eq_true (by kernel_rfl)) (by kernel_rfl) (by kernel_rfl) (by rintro _ _ ⟨_, _, ⟨_, _, ⟨_, ⟨_, _, _, _, _, _, _, rfl, rfl⟩, rfl⟩, rfl, rfl⟩, rfl, rfl⟩; exact Nat.le_of_ble_eq_true (by kernel_rfl))) (by kernel_rfl) (by kernel_rfl) (by kernel_rfl) ?_
    rintro _ _ ⟨_, _, ⟨_, _, ⟨_, _, ⟨_, ⟨n_23, xs_24, vs_25, p1_26, h1_27, f28, f29, rfl, rfl⟩, rfl⟩, rfl, rfl⟩, rfl, rfl⟩, rfl, rfl⟩
    refine R.go 4 (R.any (by decide +kernel) (by kernel_rfl) ?_)
    refine R.anyF 1 (by kernel_rfl) (np_retX _ _ _ _ _ _) ?_
    refine R.any2 0 2 (by kernel_rfl) (by kernel_rfl) ?_ ?_
    · refine R.go 2 (R.any1 2 (by kernel_rfl) (by kernel_rfl) ?_)
      refine R.callX (CallX.inF 0 usC frC (CallX.inF 1 [] [] (CallX.perm [1, 0, 2] [1, 0, 2] (CallX.box 2 36 [AI n_23, LI xs_24, LI vs_25] (CallX.box 1 36 [AI 0, .nil, .nil] (anyX_c_r2 c p1_26 h1_27 20 6 true 36 3 1 [AI 0, .nil, .nil] 36 3 1 [AI n_23, LI xs_24, LI vs_25] hc (by omega)) (by kernel_rfl) (by kernel_rfl) (by kernel_rfl) (by kernel_rfl) (by rintro _ _ ⟨_, _, _, _, rfl, rfl⟩; exact ⟨by kernel_rfl, by kernel_rfl, by kernel_rfl⟩)) (by kernel_rfl) (by kernel_rfl) (by kernel_rfl) (by kernel_rfl) (by rintro _ _ ⟨_, ⟨_, _, _, _, rfl, rfl⟩, rfl⟩; exact ⟨by kernel_rfl, by kernel_rfl, by kernel_rfl⟩)) (by kernel_rfl) (by kernel_rfl) (by kernel_rfl) (by rintro _ _ ⟨_, ⟨_, ⟨_, _, _, _, rfl, rfl⟩, rfl⟩, rfl⟩; exact Nat.le_of_ble_eq_true (by kernel_rfl))) (Nat.le_of_ble_eq_true (by kernel_rfl)) (by kernel_rfl) (by kernel_rfl) (by rintro _ _ ⟨_, _, ⟨_, ⟨_, ⟨_, _, _, _, rfl, rfl⟩, rfl⟩, rfl⟩, rfl, rfl⟩; exact Nat.le_of_ble_eq_true (by kernel_rfl))) (Nat.le_of_ble_eq_true (by kernel_rfl)) (by kernel_rfl) (by kernel_rfl) (by rintro _ _ ⟨_, _, ⟨_, _, ⟨_, ⟨_, ⟨_, _, _, _, rfl, rfl⟩, rfl⟩, rfl⟩, rfl, rfl⟩, rfl, rfl⟩; exact Nat.le_of_ble_eq_true (by kernel_rfl))) (by kernel_rfl) (by kernel_rfl) (by kernel_rfl) ?_
      rintro _ _ ⟨_, _, ⟨_, _, ⟨_, _, ⟨_, ⟨_, ⟨r_30, p1_31, h1_32, f33, rfl, rfl⟩, rfl⟩, rfl⟩, rfl, rfl⟩, rfl, rfl⟩, rfl, rfl⟩
      refine R.go 1 (R.any1 3 (by kernel_rfl) (by kernel_rfl) ?_)
      refine R.go 2 (R.any1 4 (by kernel_rfl) (by kernel_rfl) ?_)
      refine R.go 2 (R.any0 (by kernel_rfl) ?_)
      exact R.retX (res := .tup [.agg [AI n_23, LI xs_24, LI vs_25], LN r_30]) (hp' := [.dead, .box 36 [AI n_23, LI xs_24, LI vs_25], .frame [] [], .box 106 [LB c, AI (p1_31 : Int), .int .u64 h1_32], .box 36 [AI n_23, LI xs_24, LI vs_25]]) (by kernel_rfl) (by kernel_rfl) (by kernel_rfl) (by kernel_rfl) ⟨[], by kernel_rfl, by decide, n_23, xs_24, vs_25, r_30, by first | assumption | omega, by first | assumption | omega, by first | assumption | omega, by kernel_rfl, by kernel_rfl⟩
    · refine R.callX (CallX.inF 0 usC frC (CallX.inF 1 [] [] (CallX.perm [1, 0, 2] [1, 0, 2] (CallX.box 2 36 [AI n_23, LI xs_24, LI vs_25] (CallX.box 1 36 [AI 0, .nil, .nil] (anyX_c_r2 c p1_26 h1_27 20 6 true 36 3 1 [AI 0, .nil, .nil] 36 3 1 [AI n_23, LI xs_24, LI vs_25] hc (by omega)) (by kernel_rfl) (by kernel_rfl) (by kernel_rfl) (by kernel_rfl) (by rintro _ _ ⟨_, _, _, _, rfl, rfl⟩; exact ⟨by kernel_rfl, by kernel_rfl, by kernel_rfl⟩)) (by kernel_rfl) (by kernel_rfl) (by kernel_rfl) (by kernel_rfl) (by rintro _ _ ⟨_, ⟨_, _, _, _, rfl, rfl⟩, rfl⟩; exact ⟨by kernel_rfl, by kernel_rfl, by kernel_rfl⟩)) (by kernel_rfl) (by kernel_rfl) (by kernel_rfl) (by rintro _ _ ⟨_, ⟨_, ⟨_, _, _, _, rfl, rfl⟩, rfl⟩, rfl⟩; exact Nat.le_of_ble_eq_true (by kernel_rfl))) (Nat.le_of_ble_eq_true (by kernel_rfl)) (by kernel_rfl) (by kernel_rfl) (by rintro _ _ ⟨_, _, ⟨_, ⟨_, ⟨_, _, _, _, rfl, rfl⟩, rfl⟩, rfl⟩, rfl, rfl⟩; exact Nat.le_of_ble_eq_true (by kernel_rfl))) (Nat.le_of_ble_eq_true (by kernel_rfl)) (by kernel_rfl) (by kernel_rfl) (by rintro _ _ ⟨_, _, ⟨_, _, ⟨_, ⟨_, ⟨_, _, _, _, rfl, rfl⟩, rfl⟩, rfl⟩, rfl, rfl⟩, rfl, rfl⟩; exact Nat.le_of_ble_eq_true (by kernel_rfl))) (by kernel_rfl) (by kernel_rfl) (by kernel_rfl) ?_
      rintro _ _ ⟨_, _, ⟨_, _, ⟨_, _, ⟨_, ⟨_, ⟨r_34, p1_35, h1_36, f37, rfl, rfl⟩, rfl⟩, rfl⟩, rfl, rfl⟩, rfl, rfl⟩, rfl, rfl⟩
      refine R.go 1 (R.any1 0 (by kernel_rfl) (by kernel_rfl) ?_)
      refine R.go 2 (R.any1 3 (by kernel_rfl) (by kernel_rfl) ?_)
      refine R.go 2 (R.any1 4 (by kernel_rfl) (by kernel_rfl) ?_)
      refine R.go 2 (R.any0 (by kernel_rfl) ?_)
      exact R.retX (res := .tup [.agg [AI n_23, LI xs_24, LI vs_25], LN r_34]) (hp' := [.dead, .box 36 [AI n_23, LI xs_24, LI vs_25], .frame [] [], .box 106 [LB c, AI (p1_35 : Int), .int .u64 h1_36], .box 36 [AI n_23, LI xs_24, LI vs_25]]) (by kernel_rfl) (by kernel_rfl) (by kernel_rfl) (by kernel_rfl) ⟨[], by kernel_rfl, by decide, n_23, xs_24, vs_25, r_34, by first | assumption | omega, by first | assumption | omega, by first | assumption | omega, by kernel_rfl, by kernel_rfl⟩

end Go.Proofs.Ytejaikeemahobaa


/-! The machine's rules: pairs of numbers are compared. -/
namespace Go.Abs
open Go.RowKit

def intT (P : Program) (t : TypeId) : Bool := match P.underlying t with
  | some (.int _) => true
  | _ => false
/-- A struct of two numbers. -/
def pairB (P : Program) (t : TypeId) : Bool :=
  (match P.underlying t with
  | some (.struct fs) => match fs.toList with
    | [f1, f2] => decide (f1.name ≠ "_" ∧ f2.name ≠ "_" ∧ f1.offset = 0 ∧ f2.offset = 1) && intT P f1.type && intT P f2.type
    | _ => false
  | _ => false) && !P.stoodInHeld t && !P.eqGuardType P.depth t

theorem intT_parts {P : Program} {t : TypeId} (h : intT P t = true) : ∃ k, P.underlying t = some (.int k) := by
  unfold intT at h
  split at h
  · exact ⟨_, by assumption⟩
  · cases h

theorem run_pairEq {P : Program} {t : TypeId} (h : pairB P t = true) (k k' : IntKind) (a b c d : Int) (w : World) : (Op.equalIn 10000 t (.agg #[.int k a, .int k' b]) (.agg #[.int k c, .int k' d])).run P w = .ok (decide (a = c ∧ b = d)) w := by
  unfold pairB at h
  simp only [Bool.and_eq_true, Bool.not_eq_true'] at h
  obtain ⟨⟨h, hst⟩, _⟩ := h
  split at h
  · rename_i fs hu
    split at h
    · rename_i f1 f2 hfs
      simp only [Bool.and_eq_true, decide_eq_true_eq] at h
      obtain ⟨⟨⟨n1, n2, o1, o2⟩, i1⟩, i2⟩ := h
      obtain ⟨k1, u1⟩ := intT_parts i1
      obtain ⟨k2, u2⟩ := intT_parts i2
      have hf : P.fieldsOf t = fs := by unfold Program.fieldsOf; rw [hu]
      rw [run_equalIn_struct w 9999 t _ _ (by rw [hf]; exact hu) hst, hf, hfs]
      have g1 : aggB P f1.type = some false := by unfold aggB; rw [u1]; rfl
      have g2 : aggB P f2.type = some false := by unfold aggB; rw [u2]; rfl
      have p1 : ∀ x y : Value, (part f1.type #[x, y] f1.offset).run P w = .ok x w := fun x y => run_part1 g1 (by rw [o1]; rfl) w
      have p2 : ∀ x y : Value, (part f2.type #[x, y] f2.offset).run P w = .ok y w := fun x y => run_part1 g2 (by rw [o2]; rfl) w
      simp only [Op.eqFields, if_pos n1, if_pos n2, Sem.run_bind, p1, p2, Result.andThen_ok, run_equalIn_int w 9998 f1.type k k1 a c u1, run_equalIn_int w 9998 f2.type k' k2 b d u2, Sem.run_ite, Sem.run_pure]
      by_cases e1 : a = c <;> by_cases e2 : b = d <;> simp [e1, e2]
    · cases h
  · cases h

def eqAt (P : Program) (m : M) : Option (Bool × Int × Int × Int × Int) :=
  match opM m with
  | some (.binOp .eql t x y _) => match ev m.st.fr x, ev m.st.fr y with
    | .agg [.int k a, .int k' b], .agg [.int k2 c, .int k3 d] => if pairB P t = true ∧ k = k2 ∧ k' = k3 then some (true, a, b, c, d) else none
    | _, _ => none
  | some (.binOp .neq t x y _) => match ev m.st.fr x, ev m.st.fr y with
    | .agg [.int k a, .int k' b], .agg [.int k2 c, .int k3 d] => if pairB P t = true ∧ k = k2 ∧ k' = k3 then some (false, a, b, c, d) else none
    | _, _ => none
  | _ => none

section
variable {rd : Option Nat} {P : Program} {m : M} {Q : Exit → St → Prop}
theorem OpsQ.val {all : Array Oper} {o : Oper} {l : List Oper} {fr : List AV} {hp : List AObj} {R : Exit → St → Prop} {b : AV} (hw : WantedA all o fr) (hcall : ∀ c, o.op ≠ .defer c)
    (hrun : ∀ (Z : Nat → Prop) (μ : List Value) (a : Act) (w : World), RelL w Z μ fr a.tmps.toList → ∃ v, (execOp a.eval o).run P w = .ok (.value v) w ∧ Rel w Z μ b v) (h' : OpsQ rd P all l ⟨putF fr o.dst b, hp⟩ R) : OpsQ rd P all (o :: l) ⟨fr, hp⟩ R := by
  intro Z0 w0 a w hS
  obtain ⟨μ, F, hFb, hH, hF, hd, hbel⟩ := hS
  refine wpListIn_step fun K hK => ?_
  rw [wanted_rel hF hw, if_pos rfl]
  obtain ⟨v, hr, hv⟩ := hrun _ μ a w hF
  refine wpIn_of_run (fun c' h => hcall _ h) ?_
  rw [hr]
  exact hK _ _ (h' Z0 w0 _ w ⟨μ, F, hFb, hH, put_rel hF _ hv, by rw [put_defers']; exact hd, hbel⟩)

theorem agg2 {w : World} {Z : Nat → Prop} {μ : List Value} {k k' : IntKind} {a b : Int} {v : Value} (h : Rel w Z μ (.agg [.int k a, .int k' b]) v) : v = .agg #[.int k a, .int k' b] := by
  simp only [Rel, RelL] at h
  obtain ⟨xs, rfl, x, ys, rfl, rfl, y, zs, rfl, rfl, rfl⟩ := h
  rfl

theorem R.eqN (e : Bool) (a b c d : Int) (v : Bool) (h : eqAt P m = some (e, a, b, c, d)) (ho : opsAt m = true) (hv : v = (if e = true then decide (a = c ∧ b = d) else !decide (a = c ∧ b = d))) (h' : Runs rd P (putM m none (.bool v) m.st.hp) Q) : Runs rd P m Q := by
  subst hv
  obtain ⟨ks, ⟨fr, hp⟩⟩ := m
  unfold eqAt opM headOf at h
  unfold opsAt at ho
  simp only [putM, runs_iff] at h ho h' ⊢
  split at ho
  · rename_i all o l fl ks'
    simp only [RunsK] at h' ⊢
    intro hW
    split at h
    · rename_i t x y ty hop
      split at hop
      · rename_i all' o' f' t' heq
        simp only [Option.some.injEq, Prod.mk.injEq] at heq
        obtain ⟨rfl, rfl, rfl, _⟩ := heq
        split at hop
        · rename_i hw
          simp only [Option.some.injEq] at hop
          split at h
          · rename_i k a1 k' b1 k2 c1 k3 d1 hx hy
            split at h
            · rename_i hc
              obtain ⟨hp1, rfl, rfl⟩ := hc
              simp only [Option.some.injEq, Prod.mk.injEq] at h
              obtain ⟨rfl, rfl, rfl, rfl, rfl⟩ := h
              refine OpsQ.val (wantH_true hw hW) (fun c => by rw [hop]; simp) (fun Z μ ac w hF => ⟨.bool (decide (a1 = c1 ∧ b1 = d1)), ?_, by simp [Rel]⟩) (h' headW_false)
              have h1 := agg2 (hx ▸ ev_rel hF x)
              have h2 := agg2 (hy ▸ ev_rel hF y)
              have hg : P.eqGuardType P.depth t = false := by unfold pairB at hp1; simp only [Bool.and_eq_true, Bool.not_eq_true'] at hp1; exact hp1.2
              simp only [execOp, hop, h1, h2, Sem.run_bind, run_eqGuard_agg w .eql t x y _ _ hg, Result.andThen_ok, run_eql_struct w, run_pairEq hp1, Sem.run_pure]
            · cases h
          · cases h
        · cases hop
      · cases hop
    · rename_i t x y ty hop
      split at hop
      · rename_i all' o' f' t' heq
        simp only [Option.some.injEq, Prod.mk.injEq] at heq
        obtain ⟨rfl, rfl, rfl, _⟩ := heq
        split at hop
        · rename_i hw
          simp only [Option.some.injEq] at hop
          split at h
          · rename_i k a1 k' b1 k2 c1 k3 d1 hx hy
            split at h
            · rename_i hc
              obtain ⟨hp1, rfl, rfl⟩ := hc
              simp only [Option.some.injEq, Prod.mk.injEq] at h
              obtain ⟨rfl, rfl, rfl, rfl, rfl⟩ := h
              refine OpsQ.val (wantH_true hw hW) (fun c => by rw [hop]; simp) (fun Z μ ac w hF => ⟨.bool (!decide (a1 = c1 ∧ b1 = d1)), ?_, by simp [Rel]⟩) (h' headW_false)
              have h1 := agg2 (hx ▸ ev_rel hF x)
              have h2 := agg2 (hy ▸ ev_rel hF y)
              have hg : P.eqGuardType P.depth t = false := by unfold pairB at hp1; simp only [Bool.and_eq_true, Bool.not_eq_true'] at hp1; exact hp1.2
              simp only [execOp, hop, h1, h2, Sem.run_bind, run_eqGuard_agg w .neq t x y _ _ hg, Result.andThen_ok, run_neq_struct w, run_pairEq hp1, Sem.run_pure]
            · cases h
          · cases h
        · cases hop
      · cases hop
    · cases h
  · cases ho
end
end Go.Abs
