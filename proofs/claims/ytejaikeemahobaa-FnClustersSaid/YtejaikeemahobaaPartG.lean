/- Texts of the proof: E03, E04, E08, U04, V02. -/
import Derived.Test.YtejaikeemahobaaPartF

/-! Draws of frames. -/
namespace Go.Proofs.Ytejaikeemahobaa
open Go.RowKit Go.Abs

def refI (xs : List Int) : Nat → List Int
  | 0 => []
  | i + 1 => refI xs i ++ [bor (xs.getD i 0) (shl64 1 (i : Int))]
theorem refI_len (xs : List Int) : ∀ i, (refI xs i).length = i
  | 0 => rfl
  | i + 1 => by simp [refI, refI_len xs i]

theorem l05Make_c (xs : List Int) (hl : xs.length ≤ 1000000000) : CallA Try.prog 140 [LI xs] (.agg [AI xs.length, ownA eI 2 1 xs]) := by
  refine CallA.of Try.func140 rfl (by kernel_rfl) ?_
  refine R.go 9 (R.call true (l01Own_c xs hl) (by kernel_rfl) rfl (by kernel_rfl) ?_)
  exact R.go 3 (R.retE (.agg [AI xs.length, ownA eI 2 1 xs]) (by kernel_rfl) (by kernel_rfl) (by rfl))

theorem l01Refl_c (xs : List Int) (hl : xs.length ≤ 60) : CallA Try.prog 171 [LI xs] (ownA eI 2 1 (refI xs xs.length)) := by
  refine CallA.of Try.func171 rfl (by kernel_rfl) ?_
  refine R.go 15 (R.loop ((fun | (i, ys) => (⟨(frm 23 [(0, LI xs), (3, .ref 0), (4, AI (i : Int))]), [rowA eI 2 1 ys]⟩ : St) : Nat × (List Int) → St)) (fun | (i, ys) => (i ≤ xs.length) ∧ (ys.length = i) ∧ (ys = refI xs i)) (fun | (i, ys) => xs.length - i) (0, []) [0, 3, 4] none (by kernel_rfl) (by kernel_rfl) (by kernel_rfl) ⟨(by omega), (by rfl), (by rfl)⟩ ?_)
  rintro ⟨i, ys⟩ ⟨h4_1, h4_2, h4_3⟩ R1 N2
  refine R.go 8 (R.cond ((i : Int) < (xs.length : Int)) (by kernel_rfl) (fun c5 => ?_) (fun c5 => ?_))
  · refine R.go 7 (R.idx eI xs 0 i (i : Int) (by kernel_rfl) rfl eI_len (by omega) (by kernel_rfl) ?_)
    refine R.go 2 (R.call true (l01One_c (i : Int) (by omega) (by omega)) (by kernel_rfl) rfl (by kernel_rfl) ?_)
    refine R.go 2 (R.app eI ys [bor (xs.getD i 0) (shl64 1 (i : Int))] 0 2 1 8 (by kernel_rfl) eI_one (by decide) (by first | omega | (simp <;> omega)) (by kernel_rfl) ?_)
    refine R.go 5 (R.ar ((i : Int) + 1) (by kernel_rfl) (by omega) (by omega) (by kernel_rfl) ?_)
    exact R.go 2 (R.stop R1 (by kernel_rfl) (N2 (i + 1, ys ++ [bor (xs.getD i 0) (shl64 1 (i : Int))]) [0, 3, 4] (some [0]) _ (by kernel_rfl) (by kernel_rfl) ⟨(by omega), (by (simp <;> omega)), (by rw [refI, ← ‹ys = refI xs i›])⟩ (by show (xs.length - (i + 1)) < (xs.length - i); omega)))
  · exact R.go 6 (R.retE (ownA eI 2 1 ys) (by kernel_rfl) (by kernel_rfl) (by first | (rw [‹ys = refI xs i›, show xs.length = i by omega]) | (exfalso; omega)))

theorem l01Clos_c (xs : List Int) (hl : xs.length ≤ 60) : CallA Try.prog 172 [LI xs] (ownA eI 2 1 (wout xs xs.length)) := by
  refine CallA.of Try.func172 rfl (by kernel_rfl) ?_
  refine R.go 7 (R.call true (l01Own_c xs (by first | omega | (simp <;> omega))) (by kernel_rfl) rfl (by kernel_rfl) ?_)
  refine R.go 8 (R.loop ((fun | (j, out) => (⟨(frm 39 [(3, .ref 0), (4, AI (j : Int))]), [rowA eI 2 1 out]⟩ : St) : Nat × (List Int) → St)) (fun | (j, out) => (j ≤ xs.length) ∧ (out = wout xs j)) (fun | (j, out) => xs.length - j) (0, xs) [3, 4] none (by kernel_rfl) (by kernel_rfl) (by kernel_rfl) ⟨(by omega), (by rfl)⟩ ?_)
  rintro ⟨j, out⟩ ⟨h4_1, h4_2⟩ R1 N2
  have hlen : out.length = xs.length := by rw [‹out = wout xs j›]; exact wout_len xs j
  refine R.go 8 (R.cond ((j : Int) < (out.length : Int)) (by kernel_rfl) (fun c5 => ?_) (fun c5 => ?_))
  · refine R.go 8 (R.loop ((fun | (i, o2) => (⟨(frm 39 [(3, .ref 0), (4, AI (j : Int)), (5, AI (i : Int))]), [rowA eI 2 1 o2]⟩ : St) : Nat × (List Int) → St)) (fun | (i, o2) => (i ≤ xs.length) ∧ (o2 = win out j i)) (fun | (i, o2) => xs.length - i) (0, out) [3, 4, 5] none (by kernel_rfl) (by kernel_rfl) (by kernel_rfl) ⟨(by omega), (by rfl)⟩ ?_)
    rintro ⟨i, o2⟩ ⟨h9_1, h9_2⟩ R6 N7
    have hlen2 : o2.length = xs.length := by rw [‹o2 = win out j i›, win_len]; exact hlen
    refine R.go 8 (R.cond ((i : Int) < (o2.length : Int)) (by kernel_rfl) (fun c10 => ?_) (fun c10 => ?_))
    · refine R.go 7 (R.idxO 0 1 o2.length i (i : Int) (by kernel_rfl) rfl (by omega) (by kernel_rfl) ?_)
      refine R.ldI o2 i (by kernel_rfl) (by omega) (by kernel_rfl) ?_
      refine R.go 1 (R.call true (l01Bit_c (o2.getD i 0) (j : Int) (by omega) (by omega)) (by kernel_rfl) rfl (by kernel_rfl) ?_)
      refine R.go 1 (R.cond (band (shr64 (o2.getD i 0) (j : Int)) 1 = 1) (by kernel_rfl) (fun c11 => ?_) (fun c11 => ?_))
      · refine R.go 5 (R.idxO 0 1 o2.length i (i : Int) (by kernel_rfl) rfl (by omega) (by kernel_rfl) ?_)
        refine R.ldI o2 i (by kernel_rfl) (by omega) (by kernel_rfl) ?_
        refine R.go 2 (R.idxO 0 1 o2.length j (j : Int) (by kernel_rfl) rfl (by omega) (by kernel_rfl) ?_)
        refine R.ldI o2 j (by kernel_rfl) (by omega) (by kernel_rfl) ?_
        refine R.go 1 (R.idxO 0 1 o2.length i (i : Int) (by kernel_rfl) rfl (by omega) (by kernel_rfl) ?_)
        refine R.stI 0 2 o2 i (bor (o2.getD i 0) (o2.getD j 0)) (by kernel_rfl) (by omega) (by kernel_rfl) ?_
        refine R.go 4 (R.ar ((i : Int) + 1) (by kernel_rfl) (by omega) (by omega) (by kernel_rfl) ?_)
        exact R.go 2 (R.stop R6 (by kernel_rfl) (N7 (i + 1, o2.set i (bor (o2.getD i 0) (o2.getD j 0))) [3, 4, 5] none _ (by kernel_rfl) (by kernel_rfl) ⟨(by omega), (by first | (rw [win, wrow, ← ‹o2 = win out j i›, if_pos ‹band (shr64 (o2.getD i 0) (j : Int)) 1 = 1›]) | (rw [win, wrow, ← ‹o2 = win out j i›, if_neg ‹¬ band (shr64 (o2.getD i 0) (j : Int)) 1 = 1›]))⟩ (by show (xs.length - (i + 1)) < (xs.length - i); omega)))
      · refine R.go 4 (R.ar ((i : Int) + 1) (by kernel_rfl) (by omega) (by omega) (by kernel_rfl) ?_)
        exact R.go 2 (R.stop R6 (by kernel_rfl) (N7 (i + 1, o2) [3, 4, 5] none _ (by kernel_rfl) (by kernel_rfl) ⟨(by omega), (by first | (rw [win, wrow, ← ‹o2 = win out j i›, if_pos ‹band (shr64 (o2.getD i 0) (j : Int)) 1 = 1›]) | (rw [win, wrow, ← ‹o2 = win out j i›, if_neg ‹¬ band (shr64 (o2.getD i 0) (j : Int)) 1 = 1›]))⟩ (by show (xs.length - (i + 1)) < (xs.length - i); omega)))
    · refine R.go 4 (R.ar ((j : Int) + 1) (by kernel_rfl) (by omega) (by omega) (by kernel_rfl) ?_)
      exact R.go 2 (R.stop R1 (by kernel_rfl) (N2 (j + 1, o2) [3, 4] none _ (by kernel_rfl) (by kernel_rfl) ⟨(by omega), (by rw [wout, ← ‹out = wout xs j›, ← show i = xs.length by omega]; assumption)⟩ (by show (xs.length - (j + 1)) < (xs.length - j); omega)))
  · exact R.go 6 (R.retE (ownA eI 2 1 out) (by kernel_rfl) (by kernel_rfl) (by first | (rw [‹out = wout xs j›, show j = xs.length by omega]) | (exfalso; omega)))

theorem someO_c_r2 (c : List Int) (p : Nat) (h : Int) (worlds : Int) (eo1 : Nat) (so1 : Nat) (no1 : Nat) (co1 : List AV) (eo2 : Nat) (so2 : Nat) (no2 : Nat) (co2 : List AV) (hc : BY c) (hw : 0 ≤ worlds ∧ worlds ≤ 20) : CallX Try.prog 145 [.ptr 0 0, AI worlds] [.box 106 [LB c, AI (p : Int), .int .u64 h], .list eo1 so1 no1 co1, .list eo2 so2 no2 co2] (fun (resX : AV) (objX : List AObj) => ∃ n : Int, ∃ xs : List Int, ∃ p1 : Nat, ∃ h1 : Int, (0 ≤ n ∧ n ≤ worlds) ∧ ((xs.length : Int) = n) ∧ resX = .agg [AI n, .ref 3] ∧ objX = [.box 106 [LB c, AI (p1 : Int), .int .u64 h1], .list eo1 so1 no1 co1, .list eo2 so2 no2 co2, rowA eI 2 1 xs]) := by
  have hcl : c.length ≤ 4096 := hc.1
  have hcb := hc.2
  refine CallX.dropE (CallX.ofF Try.func145 rfl (by kernel_rfl) ?_)
  intro usC frC hfC
  refine R.go 8 (R.ar (worlds + 1) (by kernel_rfl) (by omega) (by omega) (by kernel_rfl) ?_)
  refine R.callX (CallX.inF 3 usC frC (CallX.box 3 26 [AI 0, .nil] (nextX_c_r3 c p h (worlds + 1) eo1 so1 no1 co1 eo2 so2 no2 co2 26 2 1 [AI 0, .nil] hc) (by kernel_rfl) (by kernel_rfl) (by kernel_rfl) (by kernel_rfl) (by rintro _ _ ⟨_, _, _, _, rfl, rfl⟩; exact ⟨by kernel_rfl, by kernel_rfl, by kernel_rfl⟩)) (Nat.le_of_ble_eq_true (by kernel_rfl)) (by kernel_rfl) (by kernel_rfl) (by rintro _ _ ⟨_, ⟨_, _, _, _, rfl, rfl⟩, rfl⟩; exact Nat.le_of_ble_eq_true (by kernel_rfl))) (by kernel_rfl) (by kernel_rfl) (by kernel_rfl) ?_
  rintro _ _ ⟨_, _, ⟨_, ⟨v_1, p1_2, h1_3, f4, rfl, rfl⟩, rfl⟩, rfl, rfl⟩
  refine R.go 10 (R.callX (CallX.inF 3 usC frC (CallX.box 3 26 [AI 0, .nil] (nextX_c_r4 c p1_2 h1_3 3 eo1 so1 no1 co1 eo2 so2 no2 co2 26 2 1 [AI 0, .nil] 2 1 0 (rows eI []) hc) (by kernel_rfl) (by kernel_rfl) (by kernel_rfl) (by kernel_rfl) (by rintro _ _ ⟨_, _, _, _, rfl, rfl⟩; exact ⟨by kernel_rfl, by kernel_rfl, by kernel_rfl⟩)) (Nat.le_of_ble_eq_true (by kernel_rfl)) (by kernel_rfl) (by kernel_rfl) (by rintro _ _ ⟨_, ⟨_, _, _, _, rfl, rfl⟩, rfl⟩; exact Nat.le_of_ble_eq_true (by kernel_rfl))) (by kernel_rfl) (by kernel_rfl) (by kernel_rfl) ?_)
  rintro _ _ ⟨_, _, ⟨_, ⟨v_5, p1_6, h1_7, f8, rfl, rfl⟩, rfl⟩, rfl, rfl⟩
  refine R.go 8 (R.loop ((fun | (i, ys, q, k) => (⟨(frm 101 [(0, .ptr 0 0), (4, .ptr 4 0), (5, AI v_1), (6, .ref 5), (7, AI v_5), (8, AI (i : Int))]), [.box 106 [LB c, AI (q : Int), .int .u64 k], .list eo1 so1 no1 co1, .list eo2 so2 no2 co2, .frame usC frC, .box 26 [AI 0, .nil], rowA eI 2 1 ys]⟩ : St) : Nat × (List Int) × Nat × Int → St)) (fun | (i, ys, q, k) => ((i : Int) ≤ v_1) ∧ (ys.length = i)) (fun | (i, ys, q, k) => (v_1 - i).toNat) (0, [], p1_6, h1_7) [0, 4, 5, 6, 7, 8] none (by kernel_rfl) (by kernel_rfl) (by kernel_rfl) ⟨(by omega), (by rfl)⟩ ?_)
  rintro ⟨i, ys, q, k⟩ ⟨h12_1, h12_2⟩ R9 N10
  refine R.go 7 (R.cond ((i : Int) < v_1) (by kernel_rfl) (fun c13 => ?_) (fun c13 => ?_))
  · have hb : 1 ≤ shl64 1 v_1 ∧ shl64 1 v_1 ≤ 4611686018427387904 := shl_rng v_1 (by omega) (by omega)
    refine R.go 7 (R.call true (l01Full_c v_1 (by first | omega | (simp only [refI_len, wout_len]; omega) | (simp <;> omega)) (by first | omega | (simp only [refI_len, wout_len]; omega) | (simp <;> omega))) (by kernel_rfl) rfl (by kernel_rfl) ?_)
    refine R.ar (((shl64 1 v_1) - 1) + 1) (by kernel_rfl) (by omega) (by omega) (by kernel_rfl) ?_
    refine R.callX (CallX.inF 3 usC frC (CallX.box 3 26 [AI 0, .nil] (nextX_c_r4 c q k (((shl64 1 v_1) - 1) + 1) eo1 so1 no1 co1 eo2 so2 no2 co2 26 2 1 [AI 0, .nil] 2 1 ys.length (rows eI ys) hc) (by kernel_rfl) (by kernel_rfl) (by kernel_rfl) (by kernel_rfl) (by rintro _ _ ⟨_, _, _, _, rfl, rfl⟩; exact ⟨by kernel_rfl, by kernel_rfl, by kernel_rfl⟩)) (Nat.le_of_ble_eq_true (by kernel_rfl)) (by kernel_rfl) (by kernel_rfl) (by rintro _ _ ⟨_, ⟨_, _, _, _, rfl, rfl⟩, rfl⟩; exact Nat.le_of_ble_eq_true (by kernel_rfl))) (by kernel_rfl) (by kernel_rfl) (by kernel_rfl) ?_
    rintro _ _ ⟨_, _, ⟨_, ⟨v_14, p1_15, h1_16, f17, rfl, rfl⟩, rfl⟩, rfl, rfl⟩
    refine R.go 8 (R.loop ((fun | (j, m, q2, k2) => (⟨(frm 101 [(0, .ptr 0 0), (4, .ptr 4 0), (5, AI v_1), (6, .ref 5), (7, AI v_5), (8, AI (i : Int)), (9, AI m), (10, AI (j : Int))]), [.box 106 [LB c, AI (q2 : Int), .int .u64 k2], .list eo1 so1 no1 co1, .list eo2 so2 no2 co2, .frame usC frC, .box 26 [AI 0, .nil], rowA eI 2 1 ys]⟩ : St) : Nat × Int × Nat × Int → St)) (fun | (j, m, q2, k2) => True) (fun | (j, m, q2, k2) => (v_5 - j).toNat) (0, v_14, p1_15, h1_16) [0, 4, 5, 6, 7, 8, 9, 10] none (by kernel_rfl) (by kernel_rfl) (by kernel_rfl) trivial ?_)
    rintro ⟨j, m, q2, k2⟩ _ R18 N19
    refine R.go 7 (R.cond ((j : Int) < v_5) (by kernel_rfl) (fun c22 => ?_) (fun c22 => ?_))
    · refine R.go 7 (R.call true (l01Full_c v_1 (by first | omega | (simp only [refI_len, wout_len]; omega) | (simp <;> omega)) (by first | omega | (simp only [refI_len, wout_len]; omega) | (simp <;> omega))) (by kernel_rfl) rfl (by kernel_rfl) ?_)
      refine R.ar (((shl64 1 v_1) - 1) + 1) (by kernel_rfl) (by omega) (by omega) (by kernel_rfl) ?_
      refine R.callX (CallX.inF 3 usC frC (CallX.box 3 26 [AI 0, .nil] (nextX_c_r4 c q2 k2 (((shl64 1 v_1) - 1) + 1) eo1 so1 no1 co1 eo2 so2 no2 co2 26 2 1 [AI 0, .nil] 2 1 ys.length (rows eI ys) hc) (by kernel_rfl) (by kernel_rfl) (by kernel_rfl) (by kernel_rfl) (by rintro _ _ ⟨_, _, _, _, rfl, rfl⟩; exact ⟨by kernel_rfl, by kernel_rfl, by kernel_rfl⟩)) (Nat.le_of_ble_eq_true (by kernel_rfl)) (by kernel_rfl) (by kernel_rfl) (by rintro _ _ ⟨_, ⟨_, _, _, _, rfl, rfl⟩, rfl⟩; exact Nat.le_of_ble_eq_true (by kernel_rfl))) (by kernel_rfl) (by kernel_rfl) (by kernel_rfl) ?_
      rintro _ _ ⟨_, _, ⟨_, ⟨v_23, p1_24, h1_25, f26, rfl, rfl⟩, rfl⟩, rfl, rfl⟩
      refine R.go 6 (R.ar ((j : Int) + 1) (by kernel_rfl) (by omega) (by omega) (by kernel_rfl) ?_)
      exact R.go 2 (R.stop R18 (by kernel_rfl) (N19 (j + 1, band m v_23, p1_24, h1_25) [0, 4, 5, 6, 7, 8, 9, 10] none _ (by kernel_rfl) (by kernel_rfl) trivial (by show ((v_5 - (j + 1)).toNat) < ((v_5 - j).toNat); omega)))
    · refine R.go 5 (R.app eI ys [m] 5 2 1 8 (by kernel_rfl) eI_one (by decide) (by first | omega | (simp <;> omega)) (by kernel_rfl) ?_)
      refine R.kfix 3 (us := usC) (by kernel_rfl) (hfC.kill 5 (Nat.le_of_ble_eq_true (by kernel_rfl))) ?_
      refine R.go 5 (R.ar ((i : Int) + 1) (by kernel_rfl) (by omega) (by omega) (by kernel_rfl) ?_)
      exact R.go 2 (R.stop R9 (by kernel_rfl) (N10 (i + 1, ys ++ [m], q2, k2) [0, 4, 5, 6, 7, 8] (some [0, 1, 2, 3, 4, 5]) _ (by kernel_rfl) (canonF (fr := frC) (fun (frX : List AV) => (⟨(frm 101 [(0, .ptr 0 0), (4, .ptr 4 0), (5, AI v_1), (6, .ref 5), (7, AI v_5), (8, AI ((i : Int) + 1))]), [.box 106 [LB c, AI (q2 : Int), .int .u64 k2], .list eo1 so1 no1 co1, .list eo2 so2 no2 co2, .frame usC frX, .box 26 [AI 0, .nil], rowA eI 2 1 (ys ++ [m])]⟩ : St)) (hfC.ren _ (by kernel_rfl)) (by kernel_rfl) (by kernel_rfl)) ⟨(by omega), (by (simp <;> omega))⟩ (by show ((v_1 - (i + 1)).toNat) < ((v_1 - i).toNat); omega)))
  · refine R.go 5 (R.callX (CallX.inF 3 usC frC (CallX.box 3 26 [AI 0, .nil] (nextX_c_r4 c q k 8 eo1 so1 no1 co1 eo2 so2 no2 co2 26 2 1 [AI 0, .nil] 2 1 ys.length (rows eI ys) hc) (by kernel_rfl) (by kernel_rfl) (by kernel_rfl) (by kernel_rfl) (by rintro _ _ ⟨_, _, _, _, rfl, rfl⟩; exact ⟨by kernel_rfl, by kernel_rfl, by kernel_rfl⟩)) (Nat.le_of_ble_eq_true (by kernel_rfl)) (by kernel_rfl) (by kernel_rfl) (by rintro _ _ ⟨_, ⟨_, _, _, _, rfl, rfl⟩, rfl⟩; exact Nat.le_of_ble_eq_true (by kernel_rfl))) (by kernel_rfl) (by kernel_rfl) (by kernel_rfl) ?_)
    rintro _ _ ⟨_, _, ⟨_, ⟨v_27, p1_28, h1_29, f30, rfl, rfl⟩, rfl⟩, rfl, rfl⟩
    refine R.go 7 (R.cond (v_27 = 0) (by kernel_rfl) (fun c31 => ?_) (fun c31 => ?_))
    · refine R.go 2 (R.call false (l01Refl_c ys (by first | omega | (simp only [refI_len, wout_len]; omega) | (simp <;> omega))) (by kernel_rfl) (ownA_closed eI_closed 2 1 (refI ys ys.length)) (by kernel_rfl) ?_)
      refine R.go 6 (R.call false (l05Make_c (refI ys ys.length) (by first | omega | (simp only [refI_len, wout_len]; omega) | (simp <;> omega))) (by kernel_rfl) (by simp [AV.closed, closedL, AI, ownA_closed eI_closed]) (by kernel_rfl) ?_)
      exact R.go 2 (R.retX (res := .agg [AI ((refI ys ys.length).length), .ref 7]) (hp' := [.box 106 [LB c, AI (p1_28 : Int), .int .u64 h1_29], .list eo1 so1 no1 co1, .list eo2 so2 no2 co2, .dead, .box 26 [AI ((refI ys ys.length).length), .ref 7], rowA eI 2 1 ys, rowA eI 2 1 (refI ys ys.length), rowA eI 2 1 (refI ys ys.length)]) (by kernel_rfl) (by kernel_rfl) (by kernel_rfl) (by kernel_rfl) ⟨[0, 1, 2, 7], by kernel_rfl, by decide, (refI ys ys.length).length, refI ys ys.length, p1_28, h1_29, by first | omega | (simp only [refI_len, wout_len]; done) | (simp only [refI_len, wout_len]; omega), by first | omega | (simp only [refI_len, wout_len]; done) | (simp only [refI_len, wout_len]; omega), by kernel_rfl, by kernel_rfl⟩)
    · refine R.go 5 (R.cond (v_27 = 1) (by kernel_rfl) (fun c32 => ?_) (fun c32 => ?_))
      · refine R.go 2 (R.call false (l01Clos_c ys (by first | omega | (simp only [refI_len, wout_len]; omega) | (simp <;> omega))) (by kernel_rfl) (ownA_closed eI_closed 2 1 (wout ys ys.length)) (by kernel_rfl) ?_)
        refine R.go 6 (R.call false (l05Make_c (wout ys ys.length) (by first | omega | (simp only [refI_len, wout_len]; omega) | (simp <;> omega))) (by kernel_rfl) (by simp [AV.closed, closedL, AI, ownA_closed eI_closed]) (by kernel_rfl) ?_)
        exact R.go 2 (R.retX (res := .agg [AI ((wout ys ys.length).length), .ref 7]) (hp' := [.box 106 [LB c, AI (p1_28 : Int), .int .u64 h1_29], .list eo1 so1 no1 co1, .list eo2 so2 no2 co2, .dead, .box 26 [AI ((wout ys ys.length).length), .ref 7], rowA eI 2 1 ys, rowA eI 2 1 (wout ys ys.length), rowA eI 2 1 (wout ys ys.length)]) (by kernel_rfl) (by kernel_rfl) (by kernel_rfl) (by kernel_rfl) ⟨[0, 1, 2, 7], by kernel_rfl, by decide, (wout ys ys.length).length, wout ys ys.length, p1_28, h1_29, by first | omega | (simp only [refI_len, wout_len]; done) | (simp only [refI_len, wout_len]; omega), by first | omega | (simp only [refI_len, wout_len]; done) | (simp only [refI_len, wout_len]; omega), by kernel_rfl, by kernel_rfl⟩)
      · refine R.go 5 (R.cond (v_27 = 2) (by kernel_rfl) (fun c33 => ?_) (fun c33 => ?_))
        · refine R.go 2 (R.call false (l01Clos_c ys (by first | omega | (simp only [refI_len, wout_len]; omega) | (simp <;> omega))) (by kernel_rfl) (ownA_closed eI_closed 2 1 (wout ys ys.length)) (by kernel_rfl) ?_)
          refine R.call false (l01Refl_c (wout ys ys.length) (by first | omega | (simp only [refI_len, wout_len]; omega) | (simp <;> omega))) (by kernel_rfl) (ownA_closed eI_closed 2 1 (refI (wout ys ys.length) (wout ys ys.length).length)) (by kernel_rfl) ?_
          refine R.go 6 (R.call false (l05Make_c (refI (wout ys ys.length) (wout ys ys.length).length) (by first | omega | (simp only [refI_len, wout_len]; omega) | (simp <;> omega))) (by kernel_rfl) (by simp [AV.closed, closedL, AI, ownA_closed eI_closed]) (by kernel_rfl) ?_)
          exact R.go 2 (R.retX (res := .agg [AI ((refI (wout ys ys.length) (wout ys ys.length).length).length), .ref 8]) (hp' := [.box 106 [LB c, AI (p1_28 : Int), .int .u64 h1_29], .list eo1 so1 no1 co1, .list eo2 so2 no2 co2, .dead, .box 26 [AI ((refI (wout ys ys.length) (wout ys ys.length).length).length), .ref 8], rowA eI 2 1 ys, rowA eI 2 1 (wout ys ys.length), rowA eI 2 1 (refI (wout ys ys.length) (wout ys ys.length).length), rowA eI 2 1 (refI (wout ys ys.length) (wout ys ys.length).length)]) (by kernel_rfl) (by kernel_rfl) (by kernel_rfl) (by kernel_rfl) ⟨[0, 1, 2, 8], by kernel_rfl, by decide, (refI (wout ys ys.length) (wout ys ys.length).length).length, refI (wout ys ys.length) (wout ys ys.length).length, p1_28, h1_29, by first | omega | (simp only [refI_len, wout_len]; done) | (simp only [refI_len, wout_len]; omega), by first | omega | (simp only [refI_len, wout_len]; done) | (simp only [refI_len, wout_len]; omega), by kernel_rfl, by kernel_rfl⟩)
        · refine R.go 5 (R.cond (v_27 = 3) (by kernel_rfl) (fun c34 => ?_) (fun c34 => ?_))
          · refine R.go 5 (R.loop ((fun | (i3, zs) => (⟨(frm 101 [(4, .ptr 4 0), (5, AI v_1), (6, .ref 5), (11, AI (i3 : Int))]), [.box 106 [LB c, AI (p1_28 : Int), .int .u64 h1_29], .list eo1 so1 no1 co1, .list eo2 so2 no2 co2, .frame usC frC, .box 26 [AI 0, .nil], rowA eI 2 1 zs]⟩ : St) : Nat × (List Int) → St)) (fun | (i3, zs) => ((i3 : Int) ≤ v_1) ∧ ((zs.length : Int) = v_1)) (fun | (i3, zs) => (v_1 - i3).toNat) (0, ys) [4, 5, 6, 11] none (by kernel_rfl) (by kernel_rfl) (by kernel_rfl) ⟨(by omega), (by omega)⟩ ?_)
            rintro ⟨i3, zs⟩ ⟨h38_1, h38_2⟩ R35 N36
            refine R.go 7 (R.cond ((i3 : Int) < v_1) (by kernel_rfl) (fun c39 => ?_) (fun c39 => ?_))
            · refine R.go 8 (R.idxO 5 1 zs.length i3 (i3 : Int) (by kernel_rfl) rfl (by omega) (by kernel_rfl) ?_)
              refine R.ldI zs i3 (by kernel_rfl) (by omega) (by kernel_rfl) ?_
              refine R.go 1 (R.ar ((i3 : Int) + 1) (by kernel_rfl) (by omega) (by omega) (by kernel_rfl) ?_)
              refine R.call true (l01Full_c ((i3 : Int) + 1) (by first | omega | (simp only [refI_len, wout_len]; omega) | (simp <;> omega)) (by first | omega | (simp only [refI_len, wout_len]; omega) | (simp <;> omega))) (by kernel_rfl) rfl (by kernel_rfl) ?_
              refine R.go 1 (R.idxO 5 1 zs.length i3 (i3 : Int) (by kernel_rfl) rfl (by omega) (by kernel_rfl) ?_)
              refine R.stI 5 2 zs i3 (bnot (zs.getD i3 0) ((shl64 1 ((i3 : Int) + 1)) - 1)) (by kernel_rfl) (by omega) (by kernel_rfl) ?_
              refine R.go 4 (R.ar ((i3 : Int) + 1) (by kernel_rfl) (by omega) (by omega) (by kernel_rfl) ?_)
              exact R.go 2 (R.stop R35 (by kernel_rfl) (N36 (i3 + 1, zs.set i3 (bnot (zs.getD i3 0) ((shl64 1 ((i3 : Int) + 1)) - 1))) [4, 5, 6, 11] none _ (by kernel_rfl) (by kernel_rfl) ⟨(by omega), (by (simp <;> omega))⟩ (by show ((v_1 - (i3 + 1)).toNat) < ((v_1 - i3).toNat); omega)))
            · refine R.go 5 (R.call false (l05Make_c zs (by first | omega | (simp only [refI_len, wout_len]; omega) | (simp <;> omega))) (by kernel_rfl) (by simp [AV.closed, closedL, AI, ownA_closed eI_closed]) (by kernel_rfl) ?_)
              exact R.go 2 (R.retX (res := .agg [AI zs.length, .ref 6]) (hp' := [.box 106 [LB c, AI (p1_28 : Int), .int .u64 h1_29], .list eo1 so1 no1 co1, .list eo2 so2 no2 co2, .dead, .box 26 [AI zs.length, .ref 6], rowA eI 2 1 zs, rowA eI 2 1 zs]) (by kernel_rfl) (by kernel_rfl) (by kernel_rfl) (by kernel_rfl) ⟨[0, 1, 2, 6], by kernel_rfl, by decide, zs.length, zs, p1_28, h1_29, by first | omega | (simp only [refI_len, wout_len]; done) | (simp only [refI_len, wout_len]; omega), by first | omega | (simp only [refI_len, wout_len]; done) | (simp only [refI_len, wout_len]; omega), by kernel_rfl, by kernel_rfl⟩)
          · refine R.go 5 (R.cond (v_27 = 4) (by kernel_rfl) (fun c40 => ?_) (fun c40 => ?_))
            · refine R.go 6 (R.loop ((fun | (i4, zs) => (⟨(frm 101 [(4, .ptr 4 0), (5, AI v_1), (6, .ref 5), (12, AI (i4 : Int))]), [.box 106 [LB c, AI (p1_28 : Int), .int .u64 h1_29], .list eo1 so1 no1 co1, .list eo2 so2 no2 co2, .frame usC frC, .box 26 [AI 0, .nil], rowA eI 2 1 zs]⟩ : St) : Nat × (List Int) → St)) (fun | (i4, zs) => ((i4 : Int) ≤ v_1) ∧ ((zs.length : Int) = v_1)) (fun | (i4, zs) => (v_1 - i4).toNat) (0, ys) [4, 5, 6, 12] none (by kernel_rfl) (by kernel_rfl) (by kernel_rfl) ⟨(by omega), (by omega)⟩ ?_)
              rintro ⟨i4, zs⟩ ⟨h44_1, h44_2⟩ R41 N42
              refine R.go 7 (R.cond ((i4 : Int) < v_1) (by kernel_rfl) (fun c45 => ?_) (fun c45 => ?_))
              · refine R.go 8 (R.idxO 5 1 zs.length i4 (i4 : Int) (by kernel_rfl) rfl (by omega) (by kernel_rfl) ?_)
                refine R.ldI zs i4 (by kernel_rfl) (by omega) (by kernel_rfl) ?_
                refine R.go 1 (R.ar ((i4 : Int) + 1) (by kernel_rfl) (by omega) (by omega) (by kernel_rfl) ?_)
                refine R.call true (l01Full_c ((i4 : Int) + 1) (by first | omega | (simp only [refI_len, wout_len]; omega) | (simp <;> omega)) (by first | omega | (simp only [refI_len, wout_len]; omega) | (simp <;> omega))) (by kernel_rfl) rfl (by kernel_rfl) ?_
                refine R.go 1 (R.idxO 5 1 zs.length i4 (i4 : Int) (by kernel_rfl) rfl (by omega) (by kernel_rfl) ?_)
                refine R.stI 5 2 zs i4 (bnot (zs.getD i4 0) ((shl64 1 ((i4 : Int) + 1)) - 1)) (by kernel_rfl) (by omega) (by kernel_rfl) ?_
                refine R.go 4 (R.ar ((i4 : Int) + 1) (by kernel_rfl) (by omega) (by omega) (by kernel_rfl) ?_)
                exact R.go 2 (R.stop R41 (by kernel_rfl) (N42 (i4 + 1, zs.set i4 (bnot (zs.getD i4 0) ((shl64 1 ((i4 : Int) + 1)) - 1))) [4, 5, 6, 12] none _ (by kernel_rfl) (by kernel_rfl) ⟨(by omega), (by (simp <;> omega))⟩ (by show ((v_1 - (i4 + 1)).toNat) < ((v_1 - i4).toNat); omega)))
              · refine R.go 3 (R.call false (l01Clos_c zs (by first | omega | (simp only [refI_len, wout_len]; omega) | (simp <;> omega))) (by kernel_rfl) (ownA_closed eI_closed 2 1 (wout zs zs.length)) (by kernel_rfl) ?_)
                refine R.go 6 (R.call false (l05Make_c (wout zs zs.length) (by first | omega | (simp only [refI_len, wout_len]; omega) | (simp <;> omega))) (by kernel_rfl) (by simp [AV.closed, closedL, AI, ownA_closed eI_closed]) (by kernel_rfl) ?_)
                exact R.go 2 (R.retX (res := .agg [AI ((wout zs zs.length).length), .ref 7]) (hp' := [.box 106 [LB c, AI (p1_28 : Int), .int .u64 h1_29], .list eo1 so1 no1 co1, .list eo2 so2 no2 co2, .dead, .box 26 [AI ((wout zs zs.length).length), .ref 7], rowA eI 2 1 zs, rowA eI 2 1 (wout zs zs.length), rowA eI 2 1 (wout zs zs.length)]) (by kernel_rfl) (by kernel_rfl) (by kernel_rfl) (by kernel_rfl) ⟨[0, 1, 2, 7], by kernel_rfl, by decide, (wout zs zs.length).length, wout zs zs.length, p1_28, h1_29, by first | omega | (simp only [refI_len, wout_len]; done) | (simp only [refI_len, wout_len]; omega), by first | omega | (simp only [refI_len, wout_len]; done) | (simp only [refI_len, wout_len]; omega), by kernel_rfl, by kernel_rfl⟩)
            · refine R.go 5 (R.call false (l05Make_c ys (by first | omega | (simp only [refI_len, wout_len]; omega) | (simp <;> omega))) (by kernel_rfl) (by simp [AV.closed, closedL, AI, ownA_closed eI_closed]) (by kernel_rfl) ?_)
              exact R.go 2 (R.retX (res := .agg [AI ys.length, .ref 6]) (hp' := [.box 106 [LB c, AI (p1_28 : Int), .int .u64 h1_29], .list eo1 so1 no1 co1, .list eo2 so2 no2 co2, .dead, .box 26 [AI ys.length, .ref 6], rowA eI 2 1 ys, rowA eI 2 1 ys]) (by kernel_rfl) (by kernel_rfl) (by kernel_rfl) (by kernel_rfl) ⟨[0, 1, 2, 6], by kernel_rfl, by decide, ys.length, ys, p1_28, h1_29, by first | omega | (simp only [refI_len, wout_len]; done) | (simp only [refI_len, wout_len]; omega), by first | omega | (simp only [refI_len, wout_len]; done) | (simp only [refI_len, wout_len]; omega), by kernel_rfl, by kernel_rfl⟩)

end Go.Proofs.Ytejaikeemahobaa


/-! Draws of frames, second part. -/
namespace Go.Proofs.Ytejaikeemahobaa
open Go.RowKit Go.Abs

theorem frameX_c_r1 (c : List Int) (p : Nat) (h : Int) (worlds : Int) (eo1 : Nat) (so1 : Nat) (no1 : Nat) (co1 : List AV) (hc : BY c) (hw : 0 ≤ worlds ∧ worlds ≤ 20) : CallX Try.prog 84 [.ptr 0 0, AI worlds] [.box 106 [LB c, AI (p : Int), .int .u64 h], .list eo1 so1 no1 co1] (fun (resX : AV) (objX : List AObj) => ∃ n : Int, ∃ xs : List Int, ∃ p1 : Nat, ∃ h1 : Int, ((xs.length : Int) ≤ worlds + 1) ∧ resX = .agg [AI n, LI xs] ∧ objX = [.box 106 [LB c, AI (p1 : Int), .int .u64 h1], .list eo1 so1 no1 co1]) := by
  have hcl : c.length ≤ 4096 := hc.1
  have hcb := hc.2
  refine CallX.dropE (CallX.ofF Try.func84 rfl (by kernel_rfl) ?_)
  intro usC frC hfC
  refine R.go 8 (R.callX (CallX.inF 2 usC frC (CallX.box 2 26 [AI 0, .nil] (someO_c_r2 c p h worlds eo1 so1 no1 co1 26 2 1 [AI 0, .nil] hc hw) (by kernel_rfl) (by kernel_rfl) (by kernel_rfl) (by kernel_rfl) (by rintro _ _ ⟨_, _, _, _, _, _, rfl, rfl⟩; exact ⟨by kernel_rfl, by kernel_rfl, by kernel_rfl⟩)) (Nat.le_of_ble_eq_true (by kernel_rfl)) (by kernel_rfl) (by kernel_rfl) (by rintro _ _ ⟨_, ⟨_, _, _, _, _, _, rfl, rfl⟩, rfl⟩; exact Nat.le_of_ble_eq_true (by kernel_rfl))) (by kernel_rfl) (by kernel_rfl) (by kernel_rfl) ?_)
  rintro _ _ ⟨_, _, ⟨_, ⟨n_1, xs_2, p1_3, h1_4, f5, f6, rfl, rfl⟩, rfl⟩, rfl, rfl⟩
  refine R.go 7 (R.callX (CallX.inF 2 usC frC (CallX.box 2 26 [AI 0, .nil] (nextX_c_r3b c p1_3 h1_4 40 eo1 so1 no1 co1 26 2 1 [AI 0, .nil] 2 1 xs_2.length (rows eI xs_2) 26 n_1 hc) (by kernel_rfl) (by kernel_rfl) (by kernel_rfl) (by kernel_rfl) (by rintro _ _ ⟨_, _, _, _, rfl, rfl⟩; exact ⟨by kernel_rfl, by kernel_rfl, by kernel_rfl⟩)) (Nat.le_of_ble_eq_true (by kernel_rfl)) (by kernel_rfl) (by kernel_rfl) (by rintro _ _ ⟨_, ⟨_, _, _, _, rfl, rfl⟩, rfl⟩; exact Nat.le_of_ble_eq_true (by kernel_rfl))) (by kernel_rfl) (by kernel_rfl) (by kernel_rfl) ?_)
  rintro _ _ ⟨_, _, ⟨_, ⟨v_7, p1_8, h1_9, f10, rfl, rfl⟩, rfl⟩, rfl, rfl⟩
  refine R.go 7 (R.cond (v_7 = 0) (by kernel_rfl) (fun c11 => ?_) (fun c11 => ?_))
  · refine R.go 4 (R.ar (n_1 + 1) (by kernel_rfl) (by omega) (by omega) (by kernel_rfl) ?_)
    refine R.lit (s := 1) (n := 3) (cs := rows eI [(-1), 9, n_1 + 1]) (by kernel_rfl) (by kernel_rfl) ?_
    refine R.callX (CallX.inF 2 usC frC (CallX.box 2 26 [AI 0, .nil] (pickX_c_r3b c p1_8 h1_9 [(-1), 9, n_1 + 1] eo1 so1 no1 co1 26 2 1 [AI 0, .nil] 2 1 xs_2.length (rows eI xs_2) 26 n_1 hc (by simp)) (by kernel_rfl) (by kernel_rfl) (by kernel_rfl) (by kernel_rfl) (by rintro _ _ ⟨_, _, _, rfl, rfl⟩; exact ⟨by kernel_rfl, by kernel_rfl, by kernel_rfl⟩)) (Nat.le_of_ble_eq_true (by kernel_rfl)) (by kernel_rfl) (by kernel_rfl) (by rintro _ _ ⟨_, ⟨_, _, _, rfl, rfl⟩, rfl⟩; exact Nat.le_of_ble_eq_true (by kernel_rfl))) (by kernel_rfl) (by kernel_rfl) (by kernel_rfl) ?_
    rintro _ _ ⟨_, _, ⟨_, ⟨v_12, p1_13, h1_14, rfl, rfl⟩, rfl⟩, rfl, rfl⟩
    refine R.go 9 (R.frz 4 (by kernel_rfl) ?_)
    refine R.kfix 2 (us := usC) (by kernel_rfl) (hfC.frz 4 (LI xs_2) (Nat.le_of_ble_eq_true (by kernel_rfl))) ?_
    exact R.retX (res := .agg [AI v_12, LI xs_2]) (hp' := [.box 106 [LB c, AI (p1_13 : Int), .int .u64 h1_14], .list eo1 so1 no1 co1, .dead, .box 26 [AI v_12, LI xs_2], .dead, .box 26 [AI v_12, LI xs_2]]) (by kernel_rfl) (by kernel_rfl) (by kernel_rfl) (by kernel_rfl) ⟨[0, 1], by kernel_rfl, by decide, v_12, xs_2, p1_13, h1_14, by first | omega | (simp; done) | (simp only [List.length_append, List.length_cons, List.length_nil, List.length_set]; omega), by kernel_rfl, by kernel_rfl⟩
  · refine R.go 5 (R.cond (v_7 = 1) (by kernel_rfl) (fun c15 => ?_) (fun c15 => ?_))
    · refine R.go 3 (R.call false (l01Own_c xs_2 (by first | omega | (simp <;> omega))) (by kernel_rfl) (ownA_closed eI_closed 2 1 xs_2) (by kernel_rfl) ?_)
      refine R.go 1 (R.app eI xs_2 [0] 6 2 1 8 (by kernel_rfl) eI_one (by decide) (by first | omega | (simp <;> omega)) (by kernel_rfl) ?_)
      refine R.kfix 2 (us := usC) (by kernel_rfl) (hfC.kill 6 (Nat.le_of_ble_eq_true (by kernel_rfl))) ?_
      refine R.go 9 (R.frz 6 (by kernel_rfl) ?_)
      refine R.kfix 2 (us := usC) (by kernel_rfl) (hfC.frz 6 (LI (xs_2 ++ [0])) (Nat.le_of_ble_eq_true (by kernel_rfl))) ?_
      exact R.retX (res := .agg [AI n_1, LI (xs_2 ++ [0])]) (hp' := [.box 106 [LB c, AI (p1_8 : Int), .int .u64 h1_9], .list eo1 so1 no1 co1, .dead, .box 26 [AI n_1, LI (xs_2 ++ [0])], rowA eI 2 1 xs_2, .box 26 [AI n_1, LI (xs_2 ++ [0])], .dead, rowA eI 2 1 [0]]) (by kernel_rfl) (by kernel_rfl) (by kernel_rfl) (by kernel_rfl) ⟨[0, 1], by kernel_rfl, by decide, n_1, xs_2 ++ [0], p1_8, h1_9, by first | omega | (simp; done) | (simp only [List.length_append, List.length_cons, List.length_nil, List.length_set]; omega), by kernel_rfl, by kernel_rfl⟩
    · refine R.go 5 (R.cond (v_7 = 2) (by kernel_rfl) (fun c16 => ?_) (fun c16 => ?_))
      · have hb : 1 ≤ shl64 1 n_1 ∧ shl64 1 n_1 ≤ 4611686018427387904 := shl_rng n_1 (by omega) (by omega)
        refine R.go 6 (R.cond (n_1 > 0) (by kernel_rfl) (fun c17 => ?_) (fun c17 => ?_))
        · refine R.any (by decide +kernel) (by kernel_rfl) ?_
          refine R.anyF 2 (by kernel_rfl) (np_retX _ _ _ _ _ _) ?_
          refine R.anyF 6 (by kernel_rfl) (np_retX _ _ _ _ _ _) ?_
          refine R.anyA 0 (.ptr 5 1) (by kernel_rfl) (np_retX _ _ _ _ _ _) ?_
          refine R.anyA 3 (.ptr 5 0) (by kernel_rfl) (np_retX _ _ _ _ _ _) ?_
          refine R.anyA 7 (.ptr 5 0) (by kernel_rfl) (np_retX _ _ _ _ _ _) ?_
          refine R.any3 1 4 8 (by kernel_rfl) (by kernel_rfl) ?_ ?_ ?_
          · refine R.go 2 (R.any2 4 8 (by kernel_rfl) (by kernel_rfl) ?_ ?_)
            · refine R.go 2 (R.any2 5 8 (by kernel_rfl) (by kernel_rfl) ?_ ?_)
              · refine R.callX (CallX.inF 2 usC frC (CallX.box 2 26 [AI 0, .nil] (nextX_c_r3b c p1_8 h1_9 n_1 eo1 so1 no1 co1 26 2 1 [AI 0, .nil] 2 1 xs_2.length (rows eI xs_2) 26 n_1 hc) (by kernel_rfl) (by kernel_rfl) (by kernel_rfl) (by kernel_rfl) (by rintro _ _ ⟨_, _, _, _, rfl, rfl⟩; exact ⟨by kernel_rfl, by kernel_rfl, by kernel_rfl⟩)) (Nat.le_of_ble_eq_true (by kernel_rfl)) (by kernel_rfl) (by kernel_rfl) (by rintro _ _ ⟨_, ⟨_, _, _, _, rfl, rfl⟩, rfl⟩; exact Nat.le_of_ble_eq_true (by kernel_rfl))) (by kernel_rfl) (by kernel_rfl) (by kernel_rfl) ?_
                rintro _ _ ⟨_, _, ⟨_, ⟨v_18, p1_19, h1_20, f21, rfl, rfl⟩, rfl⟩, rfl, rfl⟩
                refine R.go 1 (R.any1 8 (by kernel_rfl) (by kernel_rfl) ?_)
                refine R.go 2 (R.any1 9 (by kernel_rfl) (by kernel_rfl) ?_)
                refine R.call true (l01Full_c n_1 (by omega) (by omega)) (by kernel_rfl) rfl (by kernel_rfl) ?_
                refine R.go 1 (R.anyI 10 (AI (IntKind.i64.wrap (((shl64 1 n_1) - 1) + 1))) (by kernel_rfl) (np_retX _ _ _ _ _ _) ?_)
                refine R.any1 11 (by kernel_rfl) (by kernel_rfl) ?_
                refine R.lit (s := 1) (n := 2) (cs := rows eI [(-1), IntKind.i64.wrap (((shl64 1 n_1) - 1) + 1)]) (by kernel_rfl) (by kernel_rfl) ?_
                refine R.go 1 (R.any1 12 (by kernel_rfl) (by kernel_rfl) ?_)
                refine R.callX (CallX.inF 2 usC frC (CallX.box 2 26 [AI 0, .nil] (pickX_c_r3b c p1_19 h1_20 [(-1), IntKind.i64.wrap (((shl64 1 n_1) - 1) + 1)] eo1 so1 no1 co1 26 2 1 [AI 0, .nil] 2 1 xs_2.length (rows eI xs_2) 26 n_1 hc (by simp)) (by kernel_rfl) (by kernel_rfl) (by kernel_rfl) (by kernel_rfl) (by rintro _ _ ⟨_, _, _, rfl, rfl⟩; exact ⟨by kernel_rfl, by kernel_rfl, by kernel_rfl⟩)) (Nat.le_of_ble_eq_true (by kernel_rfl)) (by kernel_rfl) (by kernel_rfl) (by rintro _ _ ⟨_, ⟨_, _, _, rfl, rfl⟩, rfl⟩; exact Nat.le_of_ble_eq_true (by kernel_rfl))) (by kernel_rfl) (by kernel_rfl) (by kernel_rfl) ?_
                rintro _ _ ⟨_, _, ⟨_, ⟨v_22, p1_23, h1_24, rfl, rfl⟩, rfl⟩, rfl, rfl⟩
                refine R.go 1 (R.any1 13 (by kernel_rfl) (by kernel_rfl) ?_)
                refine R.idxO 4 1 xs_2.length ((v_18).toNat) v_18 (by kernel_rfl) (by omega) (by omega) (by kernel_rfl) ?_
                refine R.go 1 (R.any1 14 (by kernel_rfl) (by kernel_rfl) ?_)
                refine R.stI 4 2 xs_2 ((v_18).toNat) v_22 (by kernel_rfl) (by omega) (by kernel_rfl) ?_
                refine R.go 1 (R.any0 (by kernel_rfl) ?_)
                refine R.go 6 (R.frz 4 (by kernel_rfl) ?_)
                refine R.kfix 2 (us := usC) (by kernel_rfl) (hfC.frz 4 (LI (xs_2.set ((v_18).toNat) v_22)) (Nat.le_of_ble_eq_true (by kernel_rfl))) ?_
                exact R.retX (res := .agg [AI n_1, LI (xs_2.set ((v_18).toNat) v_22)]) (hp' := [.box 106 [LB c, AI (p1_23 : Int), .int .u64 h1_24], .list eo1 so1 no1 co1, .dead, .box 26 [AI n_1, LI (xs_2.set ((v_18).toNat) v_22)], .dead, .box 26 [AI n_1, LI (xs_2.set ((v_18).toNat) v_22)]]) (by kernel_rfl) (by kernel_rfl) (by kernel_rfl) (by kernel_rfl) ⟨[0, 1], by kernel_rfl, by decide, n_1, xs_2.set ((v_18).toNat) v_22, p1_23, h1_24, by first | omega | (simp; done) | (simp only [List.length_append, List.length_cons, List.length_nil, List.length_set]; omega), by kernel_rfl, by kernel_rfl⟩
              · refine R.go 2 (R.any1 5 (by kernel_rfl) (by kernel_rfl) ?_)
                refine R.callX (CallX.inF 2 usC frC (CallX.box 2 26 [AI 0, .nil] (nextX_c_r3b c p1_8 h1_9 n_1 eo1 so1 no1 co1 26 2 1 [AI 0, .nil] 2 1 xs_2.length (rows eI xs_2) 26 n_1 hc) (by kernel_rfl) (by kernel_rfl) (by kernel_rfl) (by kernel_rfl) (by rintro _ _ ⟨_, _, _, _, rfl, rfl⟩; exact ⟨by kernel_rfl, by kernel_rfl, by kernel_rfl⟩)) (Nat.le_of_ble_eq_true (by kernel_rfl)) (by kernel_rfl) (by kernel_rfl) (by rintro _ _ ⟨_, ⟨_, _, _, _, rfl, rfl⟩, rfl⟩; exact Nat.le_of_ble_eq_true (by kernel_rfl))) (by kernel_rfl) (by kernel_rfl) (by kernel_rfl) ?_
                rintro _ _ ⟨_, _, ⟨_, ⟨v_25, p1_26, h1_27, f28, rfl, rfl⟩, rfl⟩, rfl, rfl⟩
                refine R.go 1 (R.any1 9 (by kernel_rfl) (by kernel_rfl) ?_)
                refine R.call true (l01Full_c n_1 (by omega) (by omega)) (by kernel_rfl) rfl (by kernel_rfl) ?_
                refine R.go 1 (R.anyI 10 (AI (IntKind.i64.wrap (((shl64 1 n_1) - 1) + 1))) (by kernel_rfl) (np_retX _ _ _ _ _ _) ?_)
                refine R.any1 11 (by kernel_rfl) (by kernel_rfl) ?_
                refine R.lit (s := 1) (n := 2) (cs := rows eI [(-1), IntKind.i64.wrap (((shl64 1 n_1) - 1) + 1)]) (by kernel_rfl) (by kernel_rfl) ?_
                refine R.go 1 (R.any1 12 (by kernel_rfl) (by kernel_rfl) ?_)
                refine R.callX (CallX.inF 2 usC frC (CallX.box 2 26 [AI 0, .nil] (pickX_c_r3b c p1_26 h1_27 [(-1), IntKind.i64.wrap (((shl64 1 n_1) - 1) + 1)] eo1 so1 no1 co1 26 2 1 [AI 0, .nil] 2 1 xs_2.length (rows eI xs_2) 26 n_1 hc (by simp)) (by kernel_rfl) (by kernel_rfl) (by kernel_rfl) (by kernel_rfl) (by rintro _ _ ⟨_, _, _, rfl, rfl⟩; exact ⟨by kernel_rfl, by kernel_rfl, by kernel_rfl⟩)) (Nat.le_of_ble_eq_true (by kernel_rfl)) (by kernel_rfl) (by kernel_rfl) (by rintro _ _ ⟨_, ⟨_, _, _, rfl, rfl⟩, rfl⟩; exact Nat.le_of_ble_eq_true (by kernel_rfl))) (by kernel_rfl) (by kernel_rfl) (by kernel_rfl) ?_
                rintro _ _ ⟨_, _, ⟨_, ⟨v_29, p1_30, h1_31, rfl, rfl⟩, rfl⟩, rfl, rfl⟩
                refine R.go 1 (R.any1 13 (by kernel_rfl) (by kernel_rfl) ?_)
                refine R.idxO 4 1 xs_2.length ((v_25).toNat) v_25 (by kernel_rfl) (by omega) (by omega) (by kernel_rfl) ?_
                refine R.go 1 (R.any1 14 (by kernel_rfl) (by kernel_rfl) ?_)
                refine R.stI 4 2 xs_2 ((v_25).toNat) v_29 (by kernel_rfl) (by omega) (by kernel_rfl) ?_
                refine R.go 1 (R.any0 (by kernel_rfl) ?_)
                refine R.go 6 (R.frz 4 (by kernel_rfl) ?_)
                refine R.kfix 2 (us := usC) (by kernel_rfl) (hfC.frz 4 (LI (xs_2.set ((v_25).toNat) v_29)) (Nat.le_of_ble_eq_true (by kernel_rfl))) ?_
                exact R.retX (res := .agg [AI n_1, LI (xs_2.set ((v_25).toNat) v_29)]) (hp' := [.box 106 [LB c, AI (p1_30 : Int), .int .u64 h1_31], .list eo1 so1 no1 co1, .dead, .box 26 [AI n_1, LI (xs_2.set ((v_25).toNat) v_29)], .dead, .box 26 [AI n_1, LI (xs_2.set ((v_25).toNat) v_29)]]) (by kernel_rfl) (by kernel_rfl) (by kernel_rfl) (by kernel_rfl) ⟨[0, 1], by kernel_rfl, by decide, n_1, xs_2.set ((v_25).toNat) v_29, p1_30, h1_31, by first | omega | (simp; done) | (simp only [List.length_append, List.length_cons, List.length_nil, List.length_set]; omega), by kernel_rfl, by kernel_rfl⟩
            · refine R.go 2 (R.any1 4 (by kernel_rfl) (by kernel_rfl) ?_)
              refine R.go 2 (R.any1 5 (by kernel_rfl) (by kernel_rfl) ?_)
              refine R.callX (CallX.inF 2 usC frC (CallX.box 2 26 [AI 0, .nil] (nextX_c_r3b c p1_8 h1_9 n_1 eo1 so1 no1 co1 26 2 1 [AI 0, .nil] 2 1 xs_2.length (rows eI xs_2) 26 n_1 hc) (by kernel_rfl) (by kernel_rfl) (by kernel_rfl) (by kernel_rfl) (by rintro _ _ ⟨_, _, _, _, rfl, rfl⟩; exact ⟨by kernel_rfl, by kernel_rfl, by kernel_rfl⟩)) (Nat.le_of_ble_eq_true (by kernel_rfl)) (by kernel_rfl) (by kernel_rfl) (by rintro _ _ ⟨_, ⟨_, _, _, _, rfl, rfl⟩, rfl⟩; exact Nat.le_of_ble_eq_true (by kernel_rfl))) (by kernel_rfl) (by kernel_rfl) (by kernel_rfl) ?_
              rintro _ _ ⟨_, _, ⟨_, ⟨v_32, p1_33, h1_34, f35, rfl, rfl⟩, rfl⟩, rfl, rfl⟩
              refine R.go 1 (R.any1 9 (by kernel_rfl) (by kernel_rfl) ?_)
              refine R.call true (l01Full_c n_1 (by omega) (by omega)) (by kernel_rfl) rfl (by kernel_rfl) ?_
              refine R.go 1 (R.anyI 10 (AI (IntKind.i64.wrap (((shl64 1 n_1) - 1) + 1))) (by kernel_rfl) (np_retX _ _ _ _ _ _) ?_)
              refine R.any1 11 (by kernel_rfl) (by kernel_rfl) ?_
              refine R.lit (s := 1) (n := 2) (cs := rows eI [(-1), IntKind.i64.wrap (((shl64 1 n_1) - 1) + 1)]) (by kernel_rfl) (by kernel_rfl) ?_
              refine R.go 1 (R.any1 12 (by kernel_rfl) (by kernel_rfl) ?_)
              refine R.callX (CallX.inF 2 usC frC (CallX.box 2 26 [AI 0, .nil] (pickX_c_r3b c p1_33 h1_34 [(-1), IntKind.i64.wrap (((shl64 1 n_1) - 1) + 1)] eo1 so1 no1 co1 26 2 1 [AI 0, .nil] 2 1 xs_2.length (rows eI xs_2) 26 n_1 hc (by simp)) (by kernel_rfl) (by kernel_rfl) (by kernel_rfl) (by kernel_rfl) (by rintro _ _ ⟨_, _, _, rfl, rfl⟩; exact ⟨by kernel_rfl, by kernel_rfl, by kernel_rfl⟩)) (Nat.le_of_ble_eq_true (by kernel_rfl)) (by kernel_rfl) (by kernel_rfl) (by rintro _ _ ⟨_, ⟨_, _, _, rfl, rfl⟩, rfl⟩; exact Nat.le_of_ble_eq_true (by kernel_rfl))) (by kernel_rfl) (by kernel_rfl) (by kernel_rfl) ?_
              rintro _ _ ⟨_, _, ⟨_, ⟨v_36, p1_37, h1_38, rfl, rfl⟩, rfl⟩, rfl, rfl⟩
              refine R.go 1 (R.any1 13 (by kernel_rfl) (by kernel_rfl) ?_)
              refine R.idxO 4 1 xs_2.length ((v_32).toNat) v_32 (by kernel_rfl) (by omega) (by omega) (by kernel_rfl) ?_
              refine R.go 1 (R.any1 14 (by kernel_rfl) (by kernel_rfl) ?_)
              refine R.stI 4 2 xs_2 ((v_32).toNat) v_36 (by kernel_rfl) (by omega) (by kernel_rfl) ?_
              refine R.go 1 (R.any0 (by kernel_rfl) ?_)
              refine R.go 6 (R.frz 4 (by kernel_rfl) ?_)
              refine R.kfix 2 (us := usC) (by kernel_rfl) (hfC.frz 4 (LI (xs_2.set ((v_32).toNat) v_36)) (Nat.le_of_ble_eq_true (by kernel_rfl))) ?_
              exact R.retX (res := .agg [AI n_1, LI (xs_2.set ((v_32).toNat) v_36)]) (hp' := [.box 106 [LB c, AI (p1_37 : Int), .int .u64 h1_38], .list eo1 so1 no1 co1, .dead, .box 26 [AI n_1, LI (xs_2.set ((v_32).toNat) v_36)], .dead, .box 26 [AI n_1, LI (xs_2.set ((v_32).toNat) v_36)]]) (by kernel_rfl) (by kernel_rfl) (by kernel_rfl) (by kernel_rfl) ⟨[0, 1], by kernel_rfl, by decide, n_1, xs_2.set ((v_32).toNat) v_36, p1_37, h1_38, by first | omega | (simp; done) | (simp only [List.length_append, List.length_cons, List.length_nil, List.length_set]; omega), by kernel_rfl, by kernel_rfl⟩
          · refine R.go 2 (R.any3 1 5 8 (by kernel_rfl) (by kernel_rfl) ?_ ?_ ?_)
            · refine R.go 2 (R.any2 5 8 (by kernel_rfl) (by kernel_rfl) ?_ ?_)
              · refine R.callX (CallX.inF 2 usC frC (CallX.box 2 26 [AI 0, .nil] (nextX_c_r3b c p1_8 h1_9 n_1 eo1 so1 no1 co1 26 2 1 [AI 0, .nil] 2 1 xs_2.length (rows eI xs_2) 26 n_1 hc) (by kernel_rfl) (by kernel_rfl) (by kernel_rfl) (by kernel_rfl) (by rintro _ _ ⟨_, _, _, _, rfl, rfl⟩; exact ⟨by kernel_rfl, by kernel_rfl, by kernel_rfl⟩)) (Nat.le_of_ble_eq_true (by kernel_rfl)) (by kernel_rfl) (by kernel_rfl) (by rintro _ _ ⟨_, ⟨_, _, _, _, rfl, rfl⟩, rfl⟩; exact Nat.le_of_ble_eq_true (by kernel_rfl))) (by kernel_rfl) (by kernel_rfl) (by kernel_rfl) ?_
                rintro _ _ ⟨_, _, ⟨_, ⟨v_39, p1_40, h1_41, f42, rfl, rfl⟩, rfl⟩, rfl, rfl⟩
                refine R.go 1 (R.any1 8 (by kernel_rfl) (by kernel_rfl) ?_)
                refine R.go 2 (R.any1 9 (by kernel_rfl) (by kernel_rfl) ?_)
                refine R.call true (l01Full_c n_1 (by omega) (by omega)) (by kernel_rfl) rfl (by kernel_rfl) ?_
                refine R.go 1 (R.anyI 10 (AI (IntKind.i64.wrap (((shl64 1 n_1) - 1) + 1))) (by kernel_rfl) (np_retX _ _ _ _ _ _) ?_)
                refine R.any1 11 (by kernel_rfl) (by kernel_rfl) ?_
                refine R.lit (s := 1) (n := 2) (cs := rows eI [(-1), IntKind.i64.wrap (((shl64 1 n_1) - 1) + 1)]) (by kernel_rfl) (by kernel_rfl) ?_
                refine R.go 1 (R.any1 12 (by kernel_rfl) (by kernel_rfl) ?_)
                refine R.callX (CallX.inF 2 usC frC (CallX.box 2 26 [AI 0, .nil] (pickX_c_r3b c p1_40 h1_41 [(-1), IntKind.i64.wrap (((shl64 1 n_1) - 1) + 1)] eo1 so1 no1 co1 26 2 1 [AI 0, .nil] 2 1 xs_2.length (rows eI xs_2) 26 n_1 hc (by simp)) (by kernel_rfl) (by kernel_rfl) (by kernel_rfl) (by kernel_rfl) (by rintro _ _ ⟨_, _, _, rfl, rfl⟩; exact ⟨by kernel_rfl, by kernel_rfl, by kernel_rfl⟩)) (Nat.le_of_ble_eq_true (by kernel_rfl)) (by kernel_rfl) (by kernel_rfl) (by rintro _ _ ⟨_, ⟨_, _, _, rfl, rfl⟩, rfl⟩; exact Nat.le_of_ble_eq_true (by kernel_rfl))) (by kernel_rfl) (by kernel_rfl) (by kernel_rfl) ?_
                rintro _ _ ⟨_, _, ⟨_, ⟨v_43, p1_44, h1_45, rfl, rfl⟩, rfl⟩, rfl, rfl⟩
                refine R.go 1 (R.any1 13 (by kernel_rfl) (by kernel_rfl) ?_)
                refine R.idxO 4 1 xs_2.length ((v_39).toNat) v_39 (by kernel_rfl) (by omega) (by omega) (by kernel_rfl) ?_
                refine R.go 1 (R.any1 14 (by kernel_rfl) (by kernel_rfl) ?_)
                refine R.stI 4 2 xs_2 ((v_39).toNat) v_43 (by kernel_rfl) (by omega) (by kernel_rfl) ?_
                refine R.go 1 (R.any0 (by kernel_rfl) ?_)
                refine R.go 6 (R.frz 4 (by kernel_rfl) ?_)
                refine R.kfix 2 (us := usC) (by kernel_rfl) (hfC.frz 4 (LI (xs_2.set ((v_39).toNat) v_43)) (Nat.le_of_ble_eq_true (by kernel_rfl))) ?_
                exact R.retX (res := .agg [AI n_1, LI (xs_2.set ((v_39).toNat) v_43)]) (hp' := [.box 106 [LB c, AI (p1_44 : Int), .int .u64 h1_45], .list eo1 so1 no1 co1, .dead, .box 26 [AI n_1, LI (xs_2.set ((v_39).toNat) v_43)], .dead, .box 26 [AI n_1, LI (xs_2.set ((v_39).toNat) v_43)]]) (by kernel_rfl) (by kernel_rfl) (by kernel_rfl) (by kernel_rfl) ⟨[0, 1], by kernel_rfl, by decide, n_1, xs_2.set ((v_39).toNat) v_43, p1_44, h1_45, by first | omega | (simp; done) | (simp only [List.length_append, List.length_cons, List.length_nil, List.length_set]; omega), by kernel_rfl, by kernel_rfl⟩
              · refine R.go 2 (R.any1 5 (by kernel_rfl) (by kernel_rfl) ?_)
                refine R.callX (CallX.inF 2 usC frC (CallX.box 2 26 [AI 0, .nil] (nextX_c_r3b c p1_8 h1_9 n_1 eo1 so1 no1 co1 26 2 1 [AI 0, .nil] 2 1 xs_2.length (rows eI xs_2) 26 n_1 hc) (by kernel_rfl) (by kernel_rfl) (by kernel_rfl) (by kernel_rfl) (by rintro _ _ ⟨_, _, _, _, rfl, rfl⟩; exact ⟨by kernel_rfl, by kernel_rfl, by kernel_rfl⟩)) (Nat.le_of_ble_eq_true (by kernel_rfl)) (by kernel_rfl) (by kernel_rfl) (by rintro _ _ ⟨_, ⟨_, _, _, _, rfl, rfl⟩, rfl⟩; exact Nat.le_of_ble_eq_true (by kernel_rfl))) (by kernel_rfl) (by kernel_rfl) (by kernel_rfl) ?_
                rintro _ _ ⟨_, _, ⟨_, ⟨v_46, p1_47, h1_48, f49, rfl, rfl⟩, rfl⟩, rfl, rfl⟩
                refine R.go 1 (R.any1 9 (by kernel_rfl) (by kernel_rfl) ?_)
                refine R.call true (l01Full_c n_1 (by omega) (by omega)) (by kernel_rfl) rfl (by kernel_rfl) ?_
                refine R.go 1 (R.anyI 10 (AI (IntKind.i64.wrap (((shl64 1 n_1) - 1) + 1))) (by kernel_rfl) (np_retX _ _ _ _ _ _) ?_)
                refine R.any1 11 (by kernel_rfl) (by kernel_rfl) ?_
                refine R.lit (s := 1) (n := 2) (cs := rows eI [(-1), IntKind.i64.wrap (((shl64 1 n_1) - 1) + 1)]) (by kernel_rfl) (by kernel_rfl) ?_
                refine R.go 1 (R.any1 12 (by kernel_rfl) (by kernel_rfl) ?_)
                refine R.callX (CallX.inF 2 usC frC (CallX.box 2 26 [AI 0, .nil] (pickX_c_r3b c p1_47 h1_48 [(-1), IntKind.i64.wrap (((shl64 1 n_1) - 1) + 1)] eo1 so1 no1 co1 26 2 1 [AI 0, .nil] 2 1 xs_2.length (rows eI xs_2) 26 n_1 hc (by simp)) (by kernel_rfl) (by kernel_rfl) (by kernel_rfl) (by kernel_rfl) (by rintro _ _ ⟨_, _, _, rfl, rfl⟩; exact ⟨by kernel_rfl, by kernel_rfl, by kernel_rfl⟩)) (Nat.le_of_ble_eq_true (by kernel_rfl)) (by kernel_rfl) (by kernel_rfl) (by rintro _ _ ⟨_, ⟨_, _, _, rfl, rfl⟩, rfl⟩; exact Nat.le_of_ble_eq_true (by kernel_rfl))) (by kernel_rfl) (by kernel_rfl) (by kernel_rfl) ?_
                rintro _ _ ⟨_, _, ⟨_, ⟨v_50, p1_51, h1_52, rfl, rfl⟩, rfl⟩, rfl, rfl⟩
                refine R.go 1 (R.any1 13 (by kernel_rfl) (by kernel_rfl) ?_)
                refine R.idxO 4 1 xs_2.length ((v_46).toNat) v_46 (by kernel_rfl) (by omega) (by omega) (by kernel_rfl) ?_
                refine R.go 1 (R.any1 14 (by kernel_rfl) (by kernel_rfl) ?_)
                refine R.stI 4 2 xs_2 ((v_46).toNat) v_50 (by kernel_rfl) (by omega) (by kernel_rfl) ?_
                refine R.go 1 (R.any0 (by kernel_rfl) ?_)
                refine R.go 6 (R.frz 4 (by kernel_rfl) ?_)
                refine R.kfix 2 (us := usC) (by kernel_rfl) (hfC.frz 4 (LI (xs_2.set ((v_46).toNat) v_50)) (Nat.le_of_ble_eq_true (by kernel_rfl))) ?_
                exact R.retX (res := .agg [AI n_1, LI (xs_2.set ((v_46).toNat) v_50)]) (hp' := [.box 106 [LB c, AI (p1_51 : Int), .int .u64 h1_52], .list eo1 so1 no1 co1, .dead, .box 26 [AI n_1, LI (xs_2.set ((v_46).toNat) v_50)], .dead, .box 26 [AI n_1, LI (xs_2.set ((v_46).toNat) v_50)]]) (by kernel_rfl) (by kernel_rfl) (by kernel_rfl) (by kernel_rfl) ⟨[0, 1], by kernel_rfl, by decide, n_1, xs_2.set ((v_46).toNat) v_50, p1_51, h1_52, by first | omega | (simp; done) | (simp only [List.length_append, List.length_cons, List.length_nil, List.length_set]; omega), by kernel_rfl, by kernel_rfl⟩
            · refine R.callX (CallX.inF 2 usC frC (CallX.box 2 26 [AI 0, .nil] (nextX_c_r3b c p1_8 h1_9 n_1 eo1 so1 no1 co1 26 2 1 [AI 0, .nil] 2 1 xs_2.length (rows eI xs_2) 26 n_1 hc) (by kernel_rfl) (by kernel_rfl) (by kernel_rfl) (by kernel_rfl) (by rintro _ _ ⟨_, _, _, _, rfl, rfl⟩; exact ⟨by kernel_rfl, by kernel_rfl, by kernel_rfl⟩)) (Nat.le_of_ble_eq_true (by kernel_rfl)) (by kernel_rfl) (by kernel_rfl) (by rintro _ _ ⟨_, ⟨_, _, _, _, rfl, rfl⟩, rfl⟩; exact Nat.le_of_ble_eq_true (by kernel_rfl))) (by kernel_rfl) (by kernel_rfl) (by kernel_rfl) ?_
              rintro _ _ ⟨_, _, ⟨_, ⟨v_53, p1_54, h1_55, f56, rfl, rfl⟩, rfl⟩, rfl, rfl⟩
              refine R.go 1 (R.any2 1 8 (by kernel_rfl) (by kernel_rfl) ?_ ?_)
              · refine R.go 2 (R.any1 8 (by kernel_rfl) (by kernel_rfl) ?_)
                refine R.go 2 (R.any1 9 (by kernel_rfl) (by kernel_rfl) ?_)
                refine R.call true (l01Full_c n_1 (by omega) (by omega)) (by kernel_rfl) rfl (by kernel_rfl) ?_
                refine R.go 1 (R.anyI 10 (AI (IntKind.i64.wrap (((shl64 1 n_1) - 1) + 1))) (by kernel_rfl) (np_retX _ _ _ _ _ _) ?_)
                refine R.any1 11 (by kernel_rfl) (by kernel_rfl) ?_
                refine R.lit (s := 1) (n := 2) (cs := rows eI [(-1), IntKind.i64.wrap (((shl64 1 n_1) - 1) + 1)]) (by kernel_rfl) (by kernel_rfl) ?_
                refine R.go 1 (R.any1 12 (by kernel_rfl) (by kernel_rfl) ?_)
                refine R.callX (CallX.inF 2 usC frC (CallX.box 2 26 [AI 0, .nil] (pickX_c_r3b c p1_54 h1_55 [(-1), IntKind.i64.wrap (((shl64 1 n_1) - 1) + 1)] eo1 so1 no1 co1 26 2 1 [AI 0, .nil] 2 1 xs_2.length (rows eI xs_2) 26 n_1 hc (by simp)) (by kernel_rfl) (by kernel_rfl) (by kernel_rfl) (by kernel_rfl) (by rintro _ _ ⟨_, _, _, rfl, rfl⟩; exact ⟨by kernel_rfl, by kernel_rfl, by kernel_rfl⟩)) (Nat.le_of_ble_eq_true (by kernel_rfl)) (by kernel_rfl) (by kernel_rfl) (by rintro _ _ ⟨_, ⟨_, _, _, rfl, rfl⟩, rfl⟩; exact Nat.le_of_ble_eq_true (by kernel_rfl))) (by kernel_rfl) (by kernel_rfl) (by kernel_rfl) ?_
                rintro _ _ ⟨_, _, ⟨_, ⟨v_57, p1_58, h1_59, rfl, rfl⟩, rfl⟩, rfl, rfl⟩
                refine R.go 1 (R.any1 13 (by kernel_rfl) (by kernel_rfl) ?_)
                refine R.idxO 4 1 xs_2.length ((v_53).toNat) v_53 (by kernel_rfl) (by omega) (by omega) (by kernel_rfl) ?_
                refine R.go 1 (R.any1 14 (by kernel_rfl) (by kernel_rfl) ?_)
                refine R.stI 4 2 xs_2 ((v_53).toNat) v_57 (by kernel_rfl) (by omega) (by kernel_rfl) ?_
                refine R.go 1 (R.any0 (by kernel_rfl) ?_)
                refine R.go 6 (R.frz 4 (by kernel_rfl) ?_)
                refine R.kfix 2 (us := usC) (by kernel_rfl) (hfC.frz 4 (LI (xs_2.set ((v_53).toNat) v_57)) (Nat.le_of_ble_eq_true (by kernel_rfl))) ?_
                exact R.retX (res := .agg [AI n_1, LI (xs_2.set ((v_53).toNat) v_57)]) (hp' := [.box 106 [LB c, AI (p1_58 : Int), .int .u64 h1_59], .list eo1 so1 no1 co1, .dead, .box 26 [AI n_1, LI (xs_2.set ((v_53).toNat) v_57)], .dead, .box 26 [AI n_1, LI (xs_2.set ((v_53).toNat) v_57)]]) (by kernel_rfl) (by kernel_rfl) (by kernel_rfl) (by kernel_rfl) ⟨[0, 1], by kernel_rfl, by decide, n_1, xs_2.set ((v_53).toNat) v_57, p1_58, h1_59, by first | omega | (simp; done) | (simp only [List.length_append, List.length_cons, List.length_nil, List.length_set]; omega), by kernel_rfl, by kernel_rfl⟩
              · refine R.go 2 (R.any2 1 9 (by kernel_rfl) (by kernel_rfl) ?_ ?_)
                · refine R.go 2 (R.any1 9 (by kernel_rfl) (by kernel_rfl) ?_)
                  refine R.call true (l01Full_c n_1 (by omega) (by omega)) (by kernel_rfl) rfl (by kernel_rfl) ?_
                  refine R.go 1 (R.anyI 10 (AI (IntKind.i64.wrap (((shl64 1 n_1) - 1) + 1))) (by kernel_rfl) (np_retX _ _ _ _ _ _) ?_)
                  refine R.any1 11 (by kernel_rfl) (by kernel_rfl) ?_
                  refine R.lit (s := 1) (n := 2) (cs := rows eI [(-1), IntKind.i64.wrap (((shl64 1 n_1) - 1) + 1)]) (by kernel_rfl) (by kernel_rfl) ?_
                  refine R.go 1 (R.any1 12 (by kernel_rfl) (by kernel_rfl) ?_)
                  refine R.callX (CallX.inF 2 usC frC (CallX.box 2 26 [AI 0, .nil] (pickX_c_r3b c p1_54 h1_55 [(-1), IntKind.i64.wrap (((shl64 1 n_1) - 1) + 1)] eo1 so1 no1 co1 26 2 1 [AI 0, .nil] 2 1 xs_2.length (rows eI xs_2) 26 n_1 hc (by simp)) (by kernel_rfl) (by kernel_rfl) (by kernel_rfl) (by kernel_rfl) (by rintro _ _ ⟨_, _, _, rfl, rfl⟩; exact ⟨by kernel_rfl, by kernel_rfl, by kernel_rfl⟩)) (Nat.le_of_ble_eq_true (by kernel_rfl)) (by kernel_rfl) (by kernel_rfl) (by rintro _ _ ⟨_, ⟨_, _, _, rfl, rfl⟩, rfl⟩; exact Nat.le_of_ble_eq_true (by kernel_rfl))) (by kernel_rfl) (by kernel_rfl) (by kernel_rfl) ?_
                  rintro _ _ ⟨_, _, ⟨_, ⟨v_60, p1_61, h1_62, rfl, rfl⟩, rfl⟩, rfl, rfl⟩
                  refine R.go 1 (R.any1 13 (by kernel_rfl) (by kernel_rfl) ?_)
                  refine R.idxO 4 1 xs_2.length ((v_53).toNat) v_53 (by kernel_rfl) (by omega) (by omega) (by kernel_rfl) ?_
                  refine R.go 1 (R.any1 14 (by kernel_rfl) (by kernel_rfl) ?_)
                  refine R.stI 4 2 xs_2 ((v_53).toNat) v_60 (by kernel_rfl) (by omega) (by kernel_rfl) ?_
                  refine R.go 1 (R.any0 (by kernel_rfl) ?_)
                  refine R.go 6 (R.frz 4 (by kernel_rfl) ?_)
                  refine R.kfix 2 (us := usC) (by kernel_rfl) (hfC.frz 4 (LI (xs_2.set ((v_53).toNat) v_60)) (Nat.le_of_ble_eq_true (by kernel_rfl))) ?_
                  exact R.retX (res := .agg [AI n_1, LI (xs_2.set ((v_53).toNat) v_60)]) (hp' := [.box 106 [LB c, AI (p1_61 : Int), .int .u64 h1_62], .list eo1 so1 no1 co1, .dead, .box 26 [AI n_1, LI (xs_2.set ((v_53).toNat) v_60)], .dead, .box 26 [AI n_1, LI (xs_2.set ((v_53).toNat) v_60)]]) (by kernel_rfl) (by kernel_rfl) (by kernel_rfl) (by kernel_rfl) ⟨[0, 1], by kernel_rfl, by decide, n_1, xs_2.set ((v_53).toNat) v_60, p1_61, h1_62, by first | omega | (simp; done) | (simp only [List.length_append, List.length_cons, List.length_nil, List.length_set]; omega), by kernel_rfl, by kernel_rfl⟩
                · refine R.call true (l01Full_c n_1 (by omega) (by omega)) (by kernel_rfl) rfl (by kernel_rfl) ?_
                  refine R.go 1 (R.anyI 10 (AI (IntKind.i64.wrap (((shl64 1 n_1) - 1) + 1))) (by kernel_rfl) (np_retX _ _ _ _ _ _) ?_)
                  refine R.any2 1 11 (by kernel_rfl) (by kernel_rfl) ?_ ?_
                  · refine R.go 2 (R.any1 11 (by kernel_rfl) (by kernel_rfl) ?_)
                    refine R.lit (s := 1) (n := 2) (cs := rows eI [(-1), IntKind.i64.wrap (((shl64 1 n_1) - 1) + 1)]) (by kernel_rfl) (by kernel_rfl) ?_
                    refine R.go 1 (R.any1 12 (by kernel_rfl) (by kernel_rfl) ?_)
                    refine R.callX (CallX.inF 2 usC frC (CallX.box 2 26 [AI 0, .nil] (pickX_c_r3b c p1_54 h1_55 [(-1), IntKind.i64.wrap (((shl64 1 n_1) - 1) + 1)] eo1 so1 no1 co1 26 2 1 [AI 0, .nil] 2 1 xs_2.length (rows eI xs_2) 26 n_1 hc (by simp)) (by kernel_rfl) (by kernel_rfl) (by kernel_rfl) (by kernel_rfl) (by rintro _ _ ⟨_, _, _, rfl, rfl⟩; exact ⟨by kernel_rfl, by kernel_rfl, by kernel_rfl⟩)) (Nat.le_of_ble_eq_true (by kernel_rfl)) (by kernel_rfl) (by kernel_rfl) (by rintro _ _ ⟨_, ⟨_, _, _, rfl, rfl⟩, rfl⟩; exact Nat.le_of_ble_eq_true (by kernel_rfl))) (by kernel_rfl) (by kernel_rfl) (by kernel_rfl) ?_
                    rintro _ _ ⟨_, _, ⟨_, ⟨v_63, p1_64, h1_65, rfl, rfl⟩, rfl⟩, rfl, rfl⟩
                    refine R.go 1 (R.any1 13 (by kernel_rfl) (by kernel_rfl) ?_)
                    refine R.idxO 4 1 xs_2.length ((v_53).toNat) v_53 (by kernel_rfl) (by omega) (by omega) (by kernel_rfl) ?_
                    refine R.go 1 (R.any1 14 (by kernel_rfl) (by kernel_rfl) ?_)
                    refine R.stI 4 2 xs_2 ((v_53).toNat) v_63 (by kernel_rfl) (by omega) (by kernel_rfl) ?_
                    refine R.go 1 (R.any0 (by kernel_rfl) ?_)
                    refine R.go 6 (R.frz 4 (by kernel_rfl) ?_)
                    refine R.kfix 2 (us := usC) (by kernel_rfl) (hfC.frz 4 (LI (xs_2.set ((v_53).toNat) v_63)) (Nat.le_of_ble_eq_true (by kernel_rfl))) ?_
                    exact R.retX (res := .agg [AI n_1, LI (xs_2.set ((v_53).toNat) v_63)]) (hp' := [.box 106 [LB c, AI (p1_64 : Int), .int .u64 h1_65], .list eo1 so1 no1 co1, .dead, .box 26 [AI n_1, LI (xs_2.set ((v_53).toNat) v_63)], .dead, .box 26 [AI n_1, LI (xs_2.set ((v_53).toNat) v_63)]]) (by kernel_rfl) (by kernel_rfl) (by kernel_rfl) (by kernel_rfl) ⟨[0, 1], by kernel_rfl, by decide, n_1, xs_2.set ((v_53).toNat) v_63, p1_64, h1_65, by first | omega | (simp; done) | (simp only [List.length_append, List.length_cons, List.length_nil, List.length_set]; omega), by kernel_rfl, by kernel_rfl⟩
                  · refine R.lit (s := 1) (n := 2) (cs := rows eI [(-1), IntKind.i64.wrap (((shl64 1 n_1) - 1) + 1)]) (by kernel_rfl) (by kernel_rfl) ?_
                    refine R.go 1 (R.any2 1 12 (by kernel_rfl) (by kernel_rfl) ?_ ?_)
                    · refine R.go 2 (R.any1 12 (by kernel_rfl) (by kernel_rfl) ?_)
                      refine R.callX (CallX.inF 2 usC frC (CallX.box 2 26 [AI 0, .nil] (pickX_c_r3b c p1_54 h1_55 [(-1), IntKind.i64.wrap (((shl64 1 n_1) - 1) + 1)] eo1 so1 no1 co1 26 2 1 [AI 0, .nil] 2 1 xs_2.length (rows eI xs_2) 26 n_1 hc (by simp)) (by kernel_rfl) (by kernel_rfl) (by kernel_rfl) (by kernel_rfl) (by rintro _ _ ⟨_, _, _, rfl, rfl⟩; exact ⟨by kernel_rfl, by kernel_rfl, by kernel_rfl⟩)) (Nat.le_of_ble_eq_true (by kernel_rfl)) (by kernel_rfl) (by kernel_rfl) (by rintro _ _ ⟨_, ⟨_, _, _, rfl, rfl⟩, rfl⟩; exact Nat.le_of_ble_eq_true (by kernel_rfl))) (by kernel_rfl) (by kernel_rfl) (by kernel_rfl) ?_
                      rintro _ _ ⟨_, _, ⟨_, ⟨v_66, p1_67, h1_68, rfl, rfl⟩, rfl⟩, rfl, rfl⟩
                      refine R.go 1 (R.any1 13 (by kernel_rfl) (by kernel_rfl) ?_)
                      refine R.idxO 4 1 xs_2.length ((v_53).toNat) v_53 (by kernel_rfl) (by omega) (by omega) (by kernel_rfl) ?_
                      refine R.go 1 (R.any1 14 (by kernel_rfl) (by kernel_rfl) ?_)
                      refine R.stI 4 2 xs_2 ((v_53).toNat) v_66 (by kernel_rfl) (by omega) (by kernel_rfl) ?_
                      refine R.go 1 (R.any0 (by kernel_rfl) ?_)
                      refine R.go 6 (R.frz 4 (by kernel_rfl) ?_)
                      refine R.kfix 2 (us := usC) (by kernel_rfl) (hfC.frz 4 (LI (xs_2.set ((v_53).toNat) v_66)) (Nat.le_of_ble_eq_true (by kernel_rfl))) ?_
                      exact R.retX (res := .agg [AI n_1, LI (xs_2.set ((v_53).toNat) v_66)]) (hp' := [.box 106 [LB c, AI (p1_67 : Int), .int .u64 h1_68], .list eo1 so1 no1 co1, .dead, .box 26 [AI n_1, LI (xs_2.set ((v_53).toNat) v_66)], .dead, .box 26 [AI n_1, LI (xs_2.set ((v_53).toNat) v_66)]]) (by kernel_rfl) (by kernel_rfl) (by kernel_rfl) (by kernel_rfl) ⟨[0, 1], by kernel_rfl, by decide, n_1, xs_2.set ((v_53).toNat) v_66, p1_67, h1_68, by first | omega | (simp; done) | (simp only [List.length_append, List.length_cons, List.length_nil, List.length_set]; omega), by kernel_rfl, by kernel_rfl⟩
                    · refine R.callX (CallX.inF 2 usC frC (CallX.box 2 26 [AI 0, .nil] (pickX_c_r3b c p1_54 h1_55 [(-1), IntKind.i64.wrap (((shl64 1 n_1) - 1) + 1)] eo1 so1 no1 co1 26 2 1 [AI 0, .nil] 2 1 xs_2.length (rows eI xs_2) 26 n_1 hc (by simp)) (by kernel_rfl) (by kernel_rfl) (by kernel_rfl) (by kernel_rfl) (by rintro _ _ ⟨_, _, _, rfl, rfl⟩; exact ⟨by kernel_rfl, by kernel_rfl, by kernel_rfl⟩)) (Nat.le_of_ble_eq_true (by kernel_rfl)) (by kernel_rfl) (by kernel_rfl) (by rintro _ _ ⟨_, ⟨_, _, _, rfl, rfl⟩, rfl⟩; exact Nat.le_of_ble_eq_true (by kernel_rfl))) (by kernel_rfl) (by kernel_rfl) (by kernel_rfl) ?_
                      rintro _ _ ⟨_, _, ⟨_, ⟨v_69, p1_70, h1_71, rfl, rfl⟩, rfl⟩, rfl, rfl⟩
                      refine R.go 1 (R.any1 1 (by kernel_rfl) (by kernel_rfl) ?_)
                      refine R.go 2 (R.any1 13 (by kernel_rfl) (by kernel_rfl) ?_)
                      refine R.idxO 4 1 xs_2.length ((v_53).toNat) v_53 (by kernel_rfl) (by omega) (by omega) (by kernel_rfl) ?_
                      refine R.go 1 (R.any1 14 (by kernel_rfl) (by kernel_rfl) ?_)
                      refine R.stI 4 2 xs_2 ((v_53).toNat) v_69 (by kernel_rfl) (by omega) (by kernel_rfl) ?_
                      refine R.go 1 (R.any0 (by kernel_rfl) ?_)
                      refine R.go 6 (R.frz 4 (by kernel_rfl) ?_)
                      refine R.kfix 2 (us := usC) (by kernel_rfl) (hfC.frz 4 (LI (xs_2.set ((v_53).toNat) v_69)) (Nat.le_of_ble_eq_true (by kernel_rfl))) ?_
                      exact R.retX (res := .agg [AI n_1, LI (xs_2.set ((v_53).toNat) v_69)]) (hp' := [.box 106 [LB c, AI (p1_70 : Int), .int .u64 h1_71], .list eo1 so1 no1 co1, .dead, .box 26 [AI n_1, LI (xs_2.set ((v_53).toNat) v_69)], .dead, .box 26 [AI n_1, LI (xs_2.set ((v_53).toNat) v_69)]]) (by kernel_rfl) (by kernel_rfl) (by kernel_rfl) (by kernel_rfl) ⟨[0, 1], by kernel_rfl, by decide, n_1, xs_2.set ((v_53).toNat) v_69, p1_70, h1_71, by first | omega | (simp; done) | (simp only [List.length_append, List.length_cons, List.length_nil, List.length_set]; omega), by kernel_rfl, by kernel_rfl⟩
            · refine R.go 2 (R.any2 1 5 (by kernel_rfl) (by kernel_rfl) ?_ ?_)
              · refine R.go 2 (R.any1 5 (by kernel_rfl) (by kernel_rfl) ?_)
                refine R.callX (CallX.inF 2 usC frC (CallX.box 2 26 [AI 0, .nil] (nextX_c_r3b c p1_8 h1_9 n_1 eo1 so1 no1 co1 26 2 1 [AI 0, .nil] 2 1 xs_2.length (rows eI xs_2) 26 n_1 hc) (by kernel_rfl) (by kernel_rfl) (by kernel_rfl) (by kernel_rfl) (by rintro _ _ ⟨_, _, _, _, rfl, rfl⟩; exact ⟨by kernel_rfl, by kernel_rfl, by kernel_rfl⟩)) (Nat.le_of_ble_eq_true (by kernel_rfl)) (by kernel_rfl) (by kernel_rfl) (by rintro _ _ ⟨_, ⟨_, _, _, _, rfl, rfl⟩, rfl⟩; exact Nat.le_of_ble_eq_true (by kernel_rfl))) (by kernel_rfl) (by kernel_rfl) (by kernel_rfl) ?_
                rintro _ _ ⟨_, _, ⟨_, ⟨v_72, p1_73, h1_74, f75, rfl, rfl⟩, rfl⟩, rfl, rfl⟩
                refine R.go 1 (R.any1 9 (by kernel_rfl) (by kernel_rfl) ?_)
                refine R.call true (l01Full_c n_1 (by omega) (by omega)) (by kernel_rfl) rfl (by kernel_rfl) ?_
                refine R.go 1 (R.anyI 10 (AI (IntKind.i64.wrap (((shl64 1 n_1) - 1) + 1))) (by kernel_rfl) (np_retX _ _ _ _ _ _) ?_)
                refine R.any1 11 (by kernel_rfl) (by kernel_rfl) ?_
                refine R.lit (s := 1) (n := 2) (cs := rows eI [(-1), IntKind.i64.wrap (((shl64 1 n_1) - 1) + 1)]) (by kernel_rfl) (by kernel_rfl) ?_
                refine R.go 1 (R.any1 12 (by kernel_rfl) (by kernel_rfl) ?_)
                refine R.callX (CallX.inF 2 usC frC (CallX.box 2 26 [AI 0, .nil] (pickX_c_r3b c p1_73 h1_74 [(-1), IntKind.i64.wrap (((shl64 1 n_1) - 1) + 1)] eo1 so1 no1 co1 26 2 1 [AI 0, .nil] 2 1 xs_2.length (rows eI xs_2) 26 n_1 hc (by simp)) (by kernel_rfl) (by kernel_rfl) (by kernel_rfl) (by kernel_rfl) (by rintro _ _ ⟨_, _, _, rfl, rfl⟩; exact ⟨by kernel_rfl, by kernel_rfl, by kernel_rfl⟩)) (Nat.le_of_ble_eq_true (by kernel_rfl)) (by kernel_rfl) (by kernel_rfl) (by rintro _ _ ⟨_, ⟨_, _, _, rfl, rfl⟩, rfl⟩; exact Nat.le_of_ble_eq_true (by kernel_rfl))) (by kernel_rfl) (by kernel_rfl) (by kernel_rfl) ?_
                rintro _ _ ⟨_, _, ⟨_, ⟨v_76, p1_77, h1_78, rfl, rfl⟩, rfl⟩, rfl, rfl⟩
                refine R.go 1 (R.any1 13 (by kernel_rfl) (by kernel_rfl) ?_)
                refine R.idxO 4 1 xs_2.length ((v_72).toNat) v_72 (by kernel_rfl) (by omega) (by omega) (by kernel_rfl) ?_
                refine R.go 1 (R.any1 14 (by kernel_rfl) (by kernel_rfl) ?_)
                refine R.stI 4 2 xs_2 ((v_72).toNat) v_76 (by kernel_rfl) (by omega) (by kernel_rfl) ?_
                refine R.go 1 (R.any0 (by kernel_rfl) ?_)
                refine R.go 6 (R.frz 4 (by kernel_rfl) ?_)
                refine R.kfix 2 (us := usC) (by kernel_rfl) (hfC.frz 4 (LI (xs_2.set ((v_72).toNat) v_76)) (Nat.le_of_ble_eq_true (by kernel_rfl))) ?_
                exact R.retX (res := .agg [AI n_1, LI (xs_2.set ((v_72).toNat) v_76)]) (hp' := [.box 106 [LB c, AI (p1_77 : Int), .int .u64 h1_78], .list eo1 so1 no1 co1, .dead, .box 26 [AI n_1, LI (xs_2.set ((v_72).toNat) v_76)], .dead, .box 26 [AI n_1, LI (xs_2.set ((v_72).toNat) v_76)]]) (by kernel_rfl) (by kernel_rfl) (by kernel_rfl) (by kernel_rfl) ⟨[0, 1], by kernel_rfl, by decide, n_1, xs_2.set ((v_72).toNat) v_76, p1_77, h1_78, by first | omega | (simp; done) | (simp only [List.length_append, List.length_cons, List.length_nil, List.length_set]; omega), by kernel_rfl, by kernel_rfl⟩
              · refine R.callX (CallX.inF 2 usC frC (CallX.box 2 26 [AI 0, .nil] (nextX_c_r3b c p1_8 h1_9 n_1 eo1 so1 no1 co1 26 2 1 [AI 0, .nil] 2 1 xs_2.length (rows eI xs_2) 26 n_1 hc) (by kernel_rfl) (by kernel_rfl) (by kernel_rfl) (by kernel_rfl) (by rintro _ _ ⟨_, _, _, _, rfl, rfl⟩; exact ⟨by kernel_rfl, by kernel_rfl, by kernel_rfl⟩)) (Nat.le_of_ble_eq_true (by kernel_rfl)) (by kernel_rfl) (by kernel_rfl) (by rintro _ _ ⟨_, ⟨_, _, _, _, rfl, rfl⟩, rfl⟩; exact Nat.le_of_ble_eq_true (by kernel_rfl))) (by kernel_rfl) (by kernel_rfl) (by kernel_rfl) ?_
                rintro _ _ ⟨_, _, ⟨_, ⟨v_79, p1_80, h1_81, f82, rfl, rfl⟩, rfl⟩, rfl, rfl⟩
                refine R.go 1 (R.any2 1 9 (by kernel_rfl) (by kernel_rfl) ?_ ?_)
                · refine R.go 2 (R.any1 9 (by kernel_rfl) (by kernel_rfl) ?_)
                  refine R.call true (l01Full_c n_1 (by omega) (by omega)) (by kernel_rfl) rfl (by kernel_rfl) ?_
                  refine R.go 1 (R.anyI 10 (AI (IntKind.i64.wrap (((shl64 1 n_1) - 1) + 1))) (by kernel_rfl) (np_retX _ _ _ _ _ _) ?_)
                  refine R.any1 11 (by kernel_rfl) (by kernel_rfl) ?_
                  refine R.lit (s := 1) (n := 2) (cs := rows eI [(-1), IntKind.i64.wrap (((shl64 1 n_1) - 1) + 1)]) (by kernel_rfl) (by kernel_rfl) ?_
                  refine R.go 1 (R.any1 12 (by kernel_rfl) (by kernel_rfl) ?_)
                  refine R.callX (CallX.inF 2 usC frC (CallX.box 2 26 [AI 0, .nil] (pickX_c_r3b c p1_80 h1_81 [(-1), IntKind.i64.wrap (((shl64 1 n_1) - 1) + 1)] eo1 so1 no1 co1 26 2 1 [AI 0, .nil] 2 1 xs_2.length (rows eI xs_2) 26 n_1 hc (by simp)) (by kernel_rfl) (by kernel_rfl) (by kernel_rfl) (by kernel_rfl) (by rintro _ _ ⟨_, _, _, rfl, rfl⟩; exact ⟨by kernel_rfl, by kernel_rfl, by kernel_rfl⟩)) (Nat.le_of_ble_eq_true (by kernel_rfl)) (by kernel_rfl) (by kernel_rfl) (by rintro _ _ ⟨_, ⟨_, _, _, rfl, rfl⟩, rfl⟩; exact Nat.le_of_ble_eq_true (by kernel_rfl))) (by kernel_rfl) (by kernel_rfl) (by kernel_rfl) ?_
                  rintro _ _ ⟨_, _, ⟨_, ⟨v_83, p1_84, h1_85, rfl, rfl⟩, rfl⟩, rfl, rfl⟩
                  refine R.go 1 (R.any1 13 (by kernel_rfl) (by kernel_rfl) ?_)
                  refine R.idxO 4 1 xs_2.length ((v_79).toNat) v_79 (by kernel_rfl) (by omega) (by omega) (by kernel_rfl) ?_
                  refine R.go 1 (R.any1 14 (by kernel_rfl) (by kernel_rfl) ?_)
                  refine R.stI 4 2 xs_2 ((v_79).toNat) v_83 (by kernel_rfl) (by omega) (by kernel_rfl) ?_
                  refine R.go 1 (R.any0 (by kernel_rfl) ?_)
                  refine R.go 6 (R.frz 4 (by kernel_rfl) ?_)
                  refine R.kfix 2 (us := usC) (by kernel_rfl) (hfC.frz 4 (LI (xs_2.set ((v_79).toNat) v_83)) (Nat.le_of_ble_eq_true (by kernel_rfl))) ?_
                  exact R.retX (res := .agg [AI n_1, LI (xs_2.set ((v_79).toNat) v_83)]) (hp' := [.box 106 [LB c, AI (p1_84 : Int), .int .u64 h1_85], .list eo1 so1 no1 co1, .dead, .box 26 [AI n_1, LI (xs_2.set ((v_79).toNat) v_83)], .dead, .box 26 [AI n_1, LI (xs_2.set ((v_79).toNat) v_83)]]) (by kernel_rfl) (by kernel_rfl) (by kernel_rfl) (by kernel_rfl) ⟨[0, 1], by kernel_rfl, by decide, n_1, xs_2.set ((v_79).toNat) v_83, p1_84, h1_85, by first | omega | (simp; done) | (simp only [List.length_append, List.length_cons, List.length_nil, List.length_set]; omega), by kernel_rfl, by kernel_rfl⟩
                · refine R.call true (l01Full_c n_1 (by omega) (by omega)) (by kernel_rfl) rfl (by kernel_rfl) ?_
                  refine R.go 1 (R.anyI 10 (AI (IntKind.i64.wrap (((shl64 1 n_1) - 1) + 1))) (by kernel_rfl) (np_retX _ _ _ _ _ _) ?_)
                  refine R.any2 1 11 (by kernel_rfl) (by kernel_rfl) ?_ ?_
                  · refine R.go 2 (R.any1 11 (by kernel_rfl) (by kernel_rfl) ?_)
                    refine R.lit (s := 1) (n := 2) (cs := rows eI [(-1), IntKind.i64.wrap (((shl64 1 n_1) - 1) + 1)]) (by kernel_rfl) (by kernel_rfl) ?_
                    refine R.go 1 (R.any1 12 (by kernel_rfl) (by kernel_rfl) ?_)
                    refine R.callX (CallX.inF 2 usC frC (CallX.box 2 26 [AI 0, .nil] (pickX_c_r3b c p1_80 h1_81 [(-1), IntKind.i64.wrap (((shl64 1 n_1) - 1) + 1)] eo1 so1 no1 co1 26 2 1 [AI 0, .nil] 2 1 xs_2.length (rows eI xs_2) 26 n_1 hc (by simp)) (by kernel_rfl) (by kernel_rfl) (by kernel_rfl) (by kernel_rfl) (by rintro _ _ ⟨_, _, _, rfl, rfl⟩; exact ⟨by kernel_rfl, by kernel_rfl, by kernel_rfl⟩)) (Nat.le_of_ble_eq_true (by kernel_rfl)) (by kernel_rfl) (by kernel_rfl) (by rintro _ _ ⟨_, ⟨_, _, _, rfl, rfl⟩, rfl⟩; exact Nat.le_of_ble_eq_true (by kernel_rfl))) (by kernel_rfl) (by kernel_rfl) (by kernel_rfl) ?_
                    rintro _ _ ⟨_, _, ⟨_, ⟨v_86, p1_87, h1_88, rfl, rfl⟩, rfl⟩, rfl, rfl⟩
                    refine R.go 1 (R.any1 13 (by kernel_rfl) (by kernel_rfl) ?_)
                    refine R.idxO 4 1 xs_2.length ((v_79).toNat) v_79 (by kernel_rfl) (by omega) (by omega) (by kernel_rfl) ?_
                    refine R.go 1 (R.any1 14 (by kernel_rfl) (by kernel_rfl) ?_)
                    refine R.stI 4 2 xs_2 ((v_79).toNat) v_86 (by kernel_rfl) (by omega) (by kernel_rfl) ?_
                    refine R.go 1 (R.any0 (by kernel_rfl) ?_)
                    refine R.go 6 (R.frz 4 (by kernel_rfl) ?_)
                    refine R.kfix 2 (us := usC) (by kernel_rfl) (hfC.frz 4 (LI (xs_2.set ((v_79).toNat) v_86)) (Nat.le_of_ble_eq_true (by kernel_rfl))) ?_
                    exact R.retX (res := .agg [AI n_1, LI (xs_2.set ((v_79).toNat) v_86)]) (hp' := [.box 106 [LB c, AI (p1_87 : Int), .int .u64 h1_88], .list eo1 so1 no1 co1, .dead, .box 26 [AI n_1, LI (xs_2.set ((v_79).toNat) v_86)], .dead, .box 26 [AI n_1, LI (xs_2.set ((v_79).toNat) v_86)]]) (by kernel_rfl) (by kernel_rfl) (by kernel_rfl) (by kernel_rfl) ⟨[0, 1], by kernel_rfl, by decide, n_1, xs_2.set ((v_79).toNat) v_86, p1_87, h1_88, by first | omega | (simp; done) | (simp only [List.length_append, List.length_cons, List.length_nil, List.length_set]; omega), by kernel_rfl, by kernel_rfl⟩
                  · refine R.lit (s := 1) (n := 2) (cs := rows eI [(-1), IntKind.i64.wrap (((shl64 1 n_1) - 1) + 1)]) (by kernel_rfl) (by kernel_rfl) ?_
                    refine R.go 1 (R.any2 1 12 (by kernel_rfl) (by kernel_rfl) ?_ ?_)
                    · refine R.go 2 (R.any1 12 (by kernel_rfl) (by kernel_rfl) ?_)
                      refine R.callX (CallX.inF 2 usC frC (CallX.box 2 26 [AI 0, .nil] (pickX_c_r3b c p1_80 h1_81 [(-1), IntKind.i64.wrap (((shl64 1 n_1) - 1) + 1)] eo1 so1 no1 co1 26 2 1 [AI 0, .nil] 2 1 xs_2.length (rows eI xs_2) 26 n_1 hc (by simp)) (by kernel_rfl) (by kernel_rfl) (by kernel_rfl) (by kernel_rfl) (by rintro _ _ ⟨_, _, _, rfl, rfl⟩; exact ⟨by kernel_rfl, by kernel_rfl, by kernel_rfl⟩)) (Nat.le_of_ble_eq_true (by kernel_rfl)) (by kernel_rfl) (by kernel_rfl) (by rintro _ _ ⟨_, ⟨_, _, _, rfl, rfl⟩, rfl⟩; exact Nat.le_of_ble_eq_true (by kernel_rfl))) (by kernel_rfl) (by kernel_rfl) (by kernel_rfl) ?_
                      rintro _ _ ⟨_, _, ⟨_, ⟨v_89, p1_90, h1_91, rfl, rfl⟩, rfl⟩, rfl, rfl⟩
                      refine R.go 1 (R.any1 13 (by kernel_rfl) (by kernel_rfl) ?_)
                      refine R.idxO 4 1 xs_2.length ((v_79).toNat) v_79 (by kernel_rfl) (by omega) (by omega) (by kernel_rfl) ?_
                      refine R.go 1 (R.any1 14 (by kernel_rfl) (by kernel_rfl) ?_)
                      refine R.stI 4 2 xs_2 ((v_79).toNat) v_89 (by kernel_rfl) (by omega) (by kernel_rfl) ?_
                      refine R.go 1 (R.any0 (by kernel_rfl) ?_)
                      refine R.go 6 (R.frz 4 (by kernel_rfl) ?_)
                      refine R.kfix 2 (us := usC) (by kernel_rfl) (hfC.frz 4 (LI (xs_2.set ((v_79).toNat) v_89)) (Nat.le_of_ble_eq_true (by kernel_rfl))) ?_
                      exact R.retX (res := .agg [AI n_1, LI (xs_2.set ((v_79).toNat) v_89)]) (hp' := [.box 106 [LB c, AI (p1_90 : Int), .int .u64 h1_91], .list eo1 so1 no1 co1, .dead, .box 26 [AI n_1, LI (xs_2.set ((v_79).toNat) v_89)], .dead, .box 26 [AI n_1, LI (xs_2.set ((v_79).toNat) v_89)]]) (by kernel_rfl) (by kernel_rfl) (by kernel_rfl) (by kernel_rfl) ⟨[0, 1], by kernel_rfl, by decide, n_1, xs_2.set ((v_79).toNat) v_89, p1_90, h1_91, by first | omega | (simp; done) | (simp only [List.length_append, List.length_cons, List.length_nil, List.length_set]; omega), by kernel_rfl, by kernel_rfl⟩
                    · refine R.callX (CallX.inF 2 usC frC (CallX.box 2 26 [AI 0, .nil] (pickX_c_r3b c p1_80 h1_81 [(-1), IntKind.i64.wrap (((shl64 1 n_1) - 1) + 1)] eo1 so1 no1 co1 26 2 1 [AI 0, .nil] 2 1 xs_2.length (rows eI xs_2) 26 n_1 hc (by simp)) (by kernel_rfl) (by kernel_rfl) (by kernel_rfl) (by kernel_rfl) (by rintro _ _ ⟨_, _, _, rfl, rfl⟩; exact ⟨by kernel_rfl, by kernel_rfl, by kernel_rfl⟩)) (Nat.le_of_ble_eq_true (by kernel_rfl)) (by kernel_rfl) (by kernel_rfl) (by rintro _ _ ⟨_, ⟨_, _, _, rfl, rfl⟩, rfl⟩; exact Nat.le_of_ble_eq_true (by kernel_rfl))) (by kernel_rfl) (by kernel_rfl) (by kernel_rfl) ?_
                      rintro _ _ ⟨_, _, ⟨_, ⟨v_92, p1_93, h1_94, rfl, rfl⟩, rfl⟩, rfl, rfl⟩
                      refine R.go 1 (R.any1 1 (by kernel_rfl) (by kernel_rfl) ?_)
                      refine R.go 2 (R.any1 13 (by kernel_rfl) (by kernel_rfl) ?_)
                      refine R.idxO 4 1 xs_2.length ((v_79).toNat) v_79 (by kernel_rfl) (by omega) (by omega) (by kernel_rfl) ?_
                      refine R.go 1 (R.any1 14 (by kernel_rfl) (by kernel_rfl) ?_)
                      refine R.stI 4 2 xs_2 ((v_79).toNat) v_92 (by kernel_rfl) (by omega) (by kernel_rfl) ?_
                      refine R.go 1 (R.any0 (by kernel_rfl) ?_)
                      refine R.go 6 (R.frz 4 (by kernel_rfl) ?_)
                      refine R.kfix 2 (us := usC) (by kernel_rfl) (hfC.frz 4 (LI (xs_2.set ((v_79).toNat) v_92)) (Nat.le_of_ble_eq_true (by kernel_rfl))) ?_
                      exact R.retX (res := .agg [AI n_1, LI (xs_2.set ((v_79).toNat) v_92)]) (hp' := [.box 106 [LB c, AI (p1_93 : Int), .int .u64 h1_94], .list eo1 so1 no1 co1, .dead, .box 26 [AI n_1, LI (xs_2.set ((v_79).toNat) v_92)], .dead, .box 26 [AI n_1, LI (xs_2.set ((v_79).toNat) v_92)]]) (by kernel_rfl) (by kernel_rfl) (by kernel_rfl) (by kernel_rfl) ⟨[0, 1], by kernel_rfl, by decide, n_1, xs_2.set ((v_79).toNat) v_92, p1_93, h1_94, by first | omega | (simp; done) | (simp only [List.length_append, List.length_cons, List.length_nil, List.length_set]; omega), by kernel_rfl, by kernel_rfl⟩
          · refine R.go 2 (R.any2 1 4 (by kernel_rfl) (by kernel_rfl) ?_ ?_)
            · refine R.go 2 (R.any1 4 (by kernel_rfl) (by kernel_rfl) ?_)
              refine R.go 2 (R.any1 5 (by kernel_rfl) (by kernel_rfl) ?_)
              refine R.callX (CallX.inF 2 usC frC (CallX.box 2 26 [AI 0, .nil] (nextX_c_r3b c p1_8 h1_9 n_1 eo1 so1 no1 co1 26 2 1 [AI 0, .nil] 2 1 xs_2.length (rows eI xs_2) 26 n_1 hc) (by kernel_rfl) (by kernel_rfl) (by kernel_rfl) (by kernel_rfl) (by rintro _ _ ⟨_, _, _, _, rfl, rfl⟩; exact ⟨by kernel_rfl, by kernel_rfl, by kernel_rfl⟩)) (Nat.le_of_ble_eq_true (by kernel_rfl)) (by kernel_rfl) (by kernel_rfl) (by rintro _ _ ⟨_, ⟨_, _, _, _, rfl, rfl⟩, rfl⟩; exact Nat.le_of_ble_eq_true (by kernel_rfl))) (by kernel_rfl) (by kernel_rfl) (by kernel_rfl) ?_
              rintro _ _ ⟨_, _, ⟨_, ⟨v_95, p1_96, h1_97, f98, rfl, rfl⟩, rfl⟩, rfl, rfl⟩
              refine R.go 1 (R.any1 9 (by kernel_rfl) (by kernel_rfl) ?_)
              refine R.call true (l01Full_c n_1 (by omega) (by omega)) (by kernel_rfl) rfl (by kernel_rfl) ?_
              refine R.go 1 (R.anyI 10 (AI (IntKind.i64.wrap (((shl64 1 n_1) - 1) + 1))) (by kernel_rfl) (np_retX _ _ _ _ _ _) ?_)
              refine R.any1 11 (by kernel_rfl) (by kernel_rfl) ?_
              refine R.lit (s := 1) (n := 2) (cs := rows eI [(-1), IntKind.i64.wrap (((shl64 1 n_1) - 1) + 1)]) (by kernel_rfl) (by kernel_rfl) ?_
              refine R.go 1 (R.any1 12 (by kernel_rfl) (by kernel_rfl) ?_)
              refine R.callX (CallX.inF 2 usC frC (CallX.box 2 26 [AI 0, .nil] (pickX_c_r3b c p1_96 h1_97 [(-1), IntKind.i64.wrap (((shl64 1 n_1) - 1) + 1)] eo1 so1 no1 co1 26 2 1 [AI 0, .nil] 2 1 xs_2.length (rows eI xs_2) 26 n_1 hc (by simp)) (by kernel_rfl) (by kernel_rfl) (by kernel_rfl) (by kernel_rfl) (by rintro _ _ ⟨_, _, _, rfl, rfl⟩; exact ⟨by kernel_rfl, by kernel_rfl, by kernel_rfl⟩)) (Nat.le_of_ble_eq_true (by kernel_rfl)) (by kernel_rfl) (by kernel_rfl) (by rintro _ _ ⟨_, ⟨_, _, _, rfl, rfl⟩, rfl⟩; exact Nat.le_of_ble_eq_true (by kernel_rfl))) (by kernel_rfl) (by kernel_rfl) (by kernel_rfl) ?_
              rintro _ _ ⟨_, _, ⟨_, ⟨v_99, p1_100, h1_101, rfl, rfl⟩, rfl⟩, rfl, rfl⟩
              refine R.go 1 (R.any1 13 (by kernel_rfl) (by kernel_rfl) ?_)
              refine R.idxO 4 1 xs_2.length ((v_95).toNat) v_95 (by kernel_rfl) (by omega) (by omega) (by kernel_rfl) ?_
              refine R.go 1 (R.any1 14 (by kernel_rfl) (by kernel_rfl) ?_)
              refine R.stI 4 2 xs_2 ((v_95).toNat) v_99 (by kernel_rfl) (by omega) (by kernel_rfl) ?_
              refine R.go 1 (R.any0 (by kernel_rfl) ?_)
              refine R.go 6 (R.frz 4 (by kernel_rfl) ?_)
              refine R.kfix 2 (us := usC) (by kernel_rfl) (hfC.frz 4 (LI (xs_2.set ((v_95).toNat) v_99)) (Nat.le_of_ble_eq_true (by kernel_rfl))) ?_
              exact R.retX (res := .agg [AI n_1, LI (xs_2.set ((v_95).toNat) v_99)]) (hp' := [.box 106 [LB c, AI (p1_100 : Int), .int .u64 h1_101], .list eo1 so1 no1 co1, .dead, .box 26 [AI n_1, LI (xs_2.set ((v_95).toNat) v_99)], .dead, .box 26 [AI n_1, LI (xs_2.set ((v_95).toNat) v_99)]]) (by kernel_rfl) (by kernel_rfl) (by kernel_rfl) (by kernel_rfl) ⟨[0, 1], by kernel_rfl, by decide, n_1, xs_2.set ((v_95).toNat) v_99, p1_100, h1_101, by first | omega | (simp; done) | (simp only [List.length_append, List.length_cons, List.length_nil, List.length_set]; omega), by kernel_rfl, by kernel_rfl⟩
            · refine R.go 2 (R.any2 1 5 (by kernel_rfl) (by kernel_rfl) ?_ ?_)
              · refine R.go 2 (R.any1 5 (by kernel_rfl) (by kernel_rfl) ?_)
                refine R.callX (CallX.inF 2 usC frC (CallX.box 2 26 [AI 0, .nil] (nextX_c_r3b c p1_8 h1_9 n_1 eo1 so1 no1 co1 26 2 1 [AI 0, .nil] 2 1 xs_2.length (rows eI xs_2) 26 n_1 hc) (by kernel_rfl) (by kernel_rfl) (by kernel_rfl) (by kernel_rfl) (by rintro _ _ ⟨_, _, _, _, rfl, rfl⟩; exact ⟨by kernel_rfl, by kernel_rfl, by kernel_rfl⟩)) (Nat.le_of_ble_eq_true (by kernel_rfl)) (by kernel_rfl) (by kernel_rfl) (by rintro _ _ ⟨_, ⟨_, _, _, _, rfl, rfl⟩, rfl⟩; exact Nat.le_of_ble_eq_true (by kernel_rfl))) (by kernel_rfl) (by kernel_rfl) (by kernel_rfl) ?_
                rintro _ _ ⟨_, _, ⟨_, ⟨v_102, p1_103, h1_104, f105, rfl, rfl⟩, rfl⟩, rfl, rfl⟩
                refine R.go 1 (R.any1 9 (by kernel_rfl) (by kernel_rfl) ?_)
                refine R.call true (l01Full_c n_1 (by omega) (by omega)) (by kernel_rfl) rfl (by kernel_rfl) ?_
                refine R.go 1 (R.anyI 10 (AI (IntKind.i64.wrap (((shl64 1 n_1) - 1) + 1))) (by kernel_rfl) (np_retX _ _ _ _ _ _) ?_)
                refine R.any1 11 (by kernel_rfl) (by kernel_rfl) ?_
                refine R.lit (s := 1) (n := 2) (cs := rows eI [(-1), IntKind.i64.wrap (((shl64 1 n_1) - 1) + 1)]) (by kernel_rfl) (by kernel_rfl) ?_
                refine R.go 1 (R.any1 12 (by kernel_rfl) (by kernel_rfl) ?_)
                refine R.callX (CallX.inF 2 usC frC (CallX.box 2 26 [AI 0, .nil] (pickX_c_r3b c p1_103 h1_104 [(-1), IntKind.i64.wrap (((shl64 1 n_1) - 1) + 1)] eo1 so1 no1 co1 26 2 1 [AI 0, .nil] 2 1 xs_2.length (rows eI xs_2) 26 n_1 hc (by simp)) (by kernel_rfl) (by kernel_rfl) (by kernel_rfl) (by kernel_rfl) (by rintro _ _ ⟨_, _, _, rfl, rfl⟩; exact ⟨by kernel_rfl, by kernel_rfl, by kernel_rfl⟩)) (Nat.le_of_ble_eq_true (by kernel_rfl)) (by kernel_rfl) (by kernel_rfl) (by rintro _ _ ⟨_, ⟨_, _, _, rfl, rfl⟩, rfl⟩; exact Nat.le_of_ble_eq_true (by kernel_rfl))) (by kernel_rfl) (by kernel_rfl) (by kernel_rfl) ?_
                rintro _ _ ⟨_, _, ⟨_, ⟨v_106, p1_107, h1_108, rfl, rfl⟩, rfl⟩, rfl, rfl⟩
                refine R.go 1 (R.any1 13 (by kernel_rfl) (by kernel_rfl) ?_)
                refine R.idxO 4 1 xs_2.length ((v_102).toNat) v_102 (by kernel_rfl) (by omega) (by omega) (by kernel_rfl) ?_
                refine R.go 1 (R.any1 14 (by kernel_rfl) (by kernel_rfl) ?_)
                refine R.stI 4 2 xs_2 ((v_102).toNat) v_106 (by kernel_rfl) (by omega) (by kernel_rfl) ?_
                refine R.go 1 (R.any0 (by kernel_rfl) ?_)
                refine R.go 6 (R.frz 4 (by kernel_rfl) ?_)
                refine R.kfix 2 (us := usC) (by kernel_rfl) (hfC.frz 4 (LI (xs_2.set ((v_102).toNat) v_106)) (Nat.le_of_ble_eq_true (by kernel_rfl))) ?_
                exact R.retX (res := .agg [AI n_1, LI (xs_2.set ((v_102).toNat) v_106)]) (hp' := [.box 106 [LB c, AI (p1_107 : Int), .int .u64 h1_108], .list eo1 so1 no1 co1, .dead, .box 26 [AI n_1, LI (xs_2.set ((v_102).toNat) v_106)], .dead, .box 26 [AI n_1, LI (xs_2.set ((v_102).toNat) v_106)]]) (by kernel_rfl) (by kernel_rfl) (by kernel_rfl) (by kernel_rfl) ⟨[0, 1], by kernel_rfl, by decide, n_1, xs_2.set ((v_102).toNat) v_106, p1_107, h1_108, by first | omega | (simp; done) | (simp only [List.length_append, List.length_cons, List.length_nil, List.length_set]; omega), by kernel_rfl, by kernel_rfl⟩
              · refine R.callX (CallX.inF 2 usC frC (CallX.box 2 26 [AI 0, .nil] (nextX_c_r3b c p1_8 h1_9 n_1 eo1 so1 no1 co1 26 2 1 [AI 0, .nil] 2 1 xs_2.length (rows eI xs_2) 26 n_1 hc) (by kernel_rfl) (by kernel_rfl) (by kernel_rfl) (by kernel_rfl) (by rintro _ _ ⟨_, _, _, _, rfl, rfl⟩; exact ⟨by kernel_rfl, by kernel_rfl, by kernel_rfl⟩)) (Nat.le_of_ble_eq_true (by kernel_rfl)) (by kernel_rfl) (by kernel_rfl) (by rintro _ _ ⟨_, ⟨_, _, _, _, rfl, rfl⟩, rfl⟩; exact Nat.le_of_ble_eq_true (by kernel_rfl))) (by kernel_rfl) (by kernel_rfl) (by kernel_rfl) ?_
                rintro _ _ ⟨_, _, ⟨_, ⟨v_109, p1_110, h1_111, f112, rfl, rfl⟩, rfl⟩, rfl, rfl⟩
                refine R.go 1 (R.any2 1 9 (by kernel_rfl) (by kernel_rfl) ?_ ?_)
                · refine R.go 2 (R.any1 9 (by kernel_rfl) (by kernel_rfl) ?_)
                  refine R.call true (l01Full_c n_1 (by omega) (by omega)) (by kernel_rfl) rfl (by kernel_rfl) ?_
                  refine R.go 1 (R.anyI 10 (AI (IntKind.i64.wrap (((shl64 1 n_1) - 1) + 1))) (by kernel_rfl) (np_retX _ _ _ _ _ _) ?_)
                  refine R.any1 11 (by kernel_rfl) (by kernel_rfl) ?_
                  refine R.lit (s := 1) (n := 2) (cs := rows eI [(-1), IntKind.i64.wrap (((shl64 1 n_1) - 1) + 1)]) (by kernel_rfl) (by kernel_rfl) ?_
                  refine R.go 1 (R.any1 12 (by kernel_rfl) (by kernel_rfl) ?_)
                  refine R.callX (CallX.inF 2 usC frC (CallX.box 2 26 [AI 0, .nil] (pickX_c_r3b c p1_110 h1_111 [(-1), IntKind.i64.wrap (((shl64 1 n_1) - 1) + 1)] eo1 so1 no1 co1 26 2 1 [AI 0, .nil] 2 1 xs_2.length (rows eI xs_2) 26 n_1 hc (by simp)) (by kernel_rfl) (by kernel_rfl) (by kernel_rfl) (by kernel_rfl) (by rintro _ _ ⟨_, _, _, rfl, rfl⟩; exact ⟨by kernel_rfl, by kernel_rfl, by kernel_rfl⟩)) (Nat.le_of_ble_eq_true (by kernel_rfl)) (by kernel_rfl) (by kernel_rfl) (by rintro _ _ ⟨_, ⟨_, _, _, rfl, rfl⟩, rfl⟩; exact Nat.le_of_ble_eq_true (by kernel_rfl))) (by kernel_rfl) (by kernel_rfl) (by kernel_rfl) ?_
                  rintro _ _ ⟨_, _, ⟨_, ⟨v_113, p1_114, h1_115, rfl, rfl⟩, rfl⟩, rfl, rfl⟩
                  refine R.go 1 (R.any1 13 (by kernel_rfl) (by kernel_rfl) ?_)
                  refine R.idxO 4 1 xs_2.length ((v_109).toNat) v_109 (by kernel_rfl) (by omega) (by omega) (by kernel_rfl) ?_
                  refine R.go 1 (R.any1 14 (by kernel_rfl) (by kernel_rfl) ?_)
                  refine R.stI 4 2 xs_2 ((v_109).toNat) v_113 (by kernel_rfl) (by omega) (by kernel_rfl) ?_
                  refine R.go 1 (R.any0 (by kernel_rfl) ?_)
                  refine R.go 6 (R.frz 4 (by kernel_rfl) ?_)
                  refine R.kfix 2 (us := usC) (by kernel_rfl) (hfC.frz 4 (LI (xs_2.set ((v_109).toNat) v_113)) (Nat.le_of_ble_eq_true (by kernel_rfl))) ?_
                  exact R.retX (res := .agg [AI n_1, LI (xs_2.set ((v_109).toNat) v_113)]) (hp' := [.box 106 [LB c, AI (p1_114 : Int), .int .u64 h1_115], .list eo1 so1 no1 co1, .dead, .box 26 [AI n_1, LI (xs_2.set ((v_109).toNat) v_113)], .dead, .box 26 [AI n_1, LI (xs_2.set ((v_109).toNat) v_113)]]) (by kernel_rfl) (by kernel_rfl) (by kernel_rfl) (by kernel_rfl) ⟨[0, 1], by kernel_rfl, by decide, n_1, xs_2.set ((v_109).toNat) v_113, p1_114, h1_115, by first | omega | (simp; done) | (simp only [List.length_append, List.length_cons, List.length_nil, List.length_set]; omega), by kernel_rfl, by kernel_rfl⟩
                · refine R.call true (l01Full_c n_1 (by omega) (by omega)) (by kernel_rfl) rfl (by kernel_rfl) ?_
                  refine R.go 1 (R.anyI 10 (AI (IntKind.i64.wrap (((shl64 1 n_1) - 1) + 1))) (by kernel_rfl) (np_retX _ _ _ _ _ _) ?_)
                  refine R.any2 1 11 (by kernel_rfl) (by kernel_rfl) ?_ ?_
                  · refine R.go 2 (R.any1 11 (by kernel_rfl) (by kernel_rfl) ?_)
                    refine R.lit (s := 1) (n := 2) (cs := rows eI [(-1), IntKind.i64.wrap (((shl64 1 n_1) - 1) + 1)]) (by kernel_rfl) (by kernel_rfl) ?_
                    refine R.go 1 (R.any1 12 (by kernel_rfl) (by kernel_rfl) ?_)
                    refine R.callX (CallX.inF 2 usC frC (CallX.box 2 26 [AI 0, .nil] (pickX_c_r3b c p1_110 h1_111 [(-1), IntKind.i64.wrap (((shl64 1 n_1) - 1) + 1)] eo1 so1 no1 co1 26 2 1 [AI 0, .nil] 2 1 xs_2.length (rows eI xs_2) 26 n_1 hc (by simp)) (by kernel_rfl) (by kernel_rfl) (by kernel_rfl) (by kernel_rfl) (by rintro _ _ ⟨_, _, _, rfl, rfl⟩; exact ⟨by kernel_rfl, by kernel_rfl, by kernel_rfl⟩)) (Nat.le_of_ble_eq_true (by kernel_rfl)) (by kernel_rfl) (by kernel_rfl) (by rintro _ _ ⟨_, ⟨_, _, _, rfl, rfl⟩, rfl⟩; exact Nat.le_of_ble_eq_true (by kernel_rfl))) (by kernel_rfl) (by kernel_rfl) (by kernel_rfl) ?_
                    rintro _ _ ⟨_, _, ⟨_, ⟨v_116, p1_117, h1_118, rfl, rfl⟩, rfl⟩, rfl, rfl⟩
                    refine R.go 1 (R.any1 13 (by kernel_rfl) (by kernel_rfl) ?_)
                    refine R.idxO 4 1 xs_2.length ((v_109).toNat) v_109 (by kernel_rfl) (by omega) (by omega) (by kernel_rfl) ?_
                    refine R.go 1 (R.any1 14 (by kernel_rfl) (by kernel_rfl) ?_)
                    refine R.stI 4 2 xs_2 ((v_109).toNat) v_116 (by kernel_rfl) (by omega) (by kernel_rfl) ?_
                    refine R.go 1 (R.any0 (by kernel_rfl) ?_)
                    refine R.go 6 (R.frz 4 (by kernel_rfl) ?_)
                    refine R.kfix 2 (us := usC) (by kernel_rfl) (hfC.frz 4 (LI (xs_2.set ((v_109).toNat) v_116)) (Nat.le_of_ble_eq_true (by kernel_rfl))) ?_
                    exact R.retX (res := .agg [AI n_1, LI (xs_2.set ((v_109).toNat) v_116)]) (hp' := [.box 106 [LB c, AI (p1_117 : Int), .int .u64 h1_118], .list eo1 so1 no1 co1, .dead, .box 26 [AI n_1, LI (xs_2.set ((v_109).toNat) v_116)], .dead, .box 26 [AI n_1, LI (xs_2.set ((v_109).toNat) v_116)]]) (by kernel_rfl) (by kernel_rfl) (by kernel_rfl) (by kernel_rfl) ⟨[0, 1], by kernel_rfl, by decide, n_1, xs_2.set ((v_109).toNat) v_116, p1_117, h1_118, by first | omega | (simp; done) | (simp only [List.length_append, List.length_cons, List.length_nil, List.length_set]; omega), by kernel_rfl, by kernel_rfl⟩
                  · refine R.lit (s := 1) (n := 2) (cs := rows eI [(-1), IntKind.i64.wrap (((shl64 1 n_1) - 1) + 1)]) (by kernel_rfl) (by kernel_rfl) ?_
                    refine R.go 1 (R.any2 1 12 (by kernel_rfl) (by kernel_rfl) ?_ ?_)
                    · refine R.go 2 (R.any1 12 (by kernel_rfl) (by kernel_rfl) ?_)
                      refine R.callX (CallX.inF 2 usC frC (CallX.box 2 26 [AI 0, .nil] (pickX_c_r3b c p1_110 h1_111 [(-1), IntKind.i64.wrap (((shl64 1 n_1) - 1) + 1)] eo1 so1 no1 co1 26 2 1 [AI 0, .nil] 2 1 xs_2.length (rows eI xs_2) 26 n_1 hc (by simp)) (by kernel_rfl) (by kernel_rfl) (by kernel_rfl) (by kernel_rfl) (by rintro _ _ ⟨_, _, _, rfl, rfl⟩; exact ⟨by kernel_rfl, by kernel_rfl, by kernel_rfl⟩)) (Nat.le_of_ble_eq_true (by kernel_rfl)) (by kernel_rfl) (by kernel_rfl) (by rintro _ _ ⟨_, ⟨_, _, _, rfl, rfl⟩, rfl⟩; exact Nat.le_of_ble_eq_true (by kernel_rfl))) (by kernel_rfl) (by kernel_rfl) (by kernel_rfl) ?_
                      rintro _ _ ⟨_, _, ⟨_, ⟨v_119, p1_120, h1_121, rfl, rfl⟩, rfl⟩, rfl, rfl⟩
                      refine R.go 1 (R.any1 13 (by kernel_rfl) (by kernel_rfl) ?_)
                      refine R.idxO 4 1 xs_2.length ((v_109).toNat) v_109 (by kernel_rfl) (by omega) (by omega) (by kernel_rfl) ?_
                      refine R.go 1 (R.any1 14 (by kernel_rfl) (by kernel_rfl) ?_)
                      refine R.stI 4 2 xs_2 ((v_109).toNat) v_119 (by kernel_rfl) (by omega) (by kernel_rfl) ?_
                      refine R.go 1 (R.any0 (by kernel_rfl) ?_)
                      refine R.go 6 (R.frz 4 (by kernel_rfl) ?_)
                      refine R.kfix 2 (us := usC) (by kernel_rfl) (hfC.frz 4 (LI (xs_2.set ((v_109).toNat) v_119)) (Nat.le_of_ble_eq_true (by kernel_rfl))) ?_
                      exact R.retX (res := .agg [AI n_1, LI (xs_2.set ((v_109).toNat) v_119)]) (hp' := [.box 106 [LB c, AI (p1_120 : Int), .int .u64 h1_121], .list eo1 so1 no1 co1, .dead, .box 26 [AI n_1, LI (xs_2.set ((v_109).toNat) v_119)], .dead, .box 26 [AI n_1, LI (xs_2.set ((v_109).toNat) v_119)]]) (by kernel_rfl) (by kernel_rfl) (by kernel_rfl) (by kernel_rfl) ⟨[0, 1], by kernel_rfl, by decide, n_1, xs_2.set ((v_109).toNat) v_119, p1_120, h1_121, by first | omega | (simp; done) | (simp only [List.length_append, List.length_cons, List.length_nil, List.length_set]; omega), by kernel_rfl, by kernel_rfl⟩
                    · refine R.callX (CallX.inF 2 usC frC (CallX.box 2 26 [AI 0, .nil] (pickX_c_r3b c p1_110 h1_111 [(-1), IntKind.i64.wrap (((shl64 1 n_1) - 1) + 1)] eo1 so1 no1 co1 26 2 1 [AI 0, .nil] 2 1 xs_2.length (rows eI xs_2) 26 n_1 hc (by simp)) (by kernel_rfl) (by kernel_rfl) (by kernel_rfl) (by kernel_rfl) (by rintro _ _ ⟨_, _, _, rfl, rfl⟩; exact ⟨by kernel_rfl, by kernel_rfl, by kernel_rfl⟩)) (Nat.le_of_ble_eq_true (by kernel_rfl)) (by kernel_rfl) (by kernel_rfl) (by rintro _ _ ⟨_, ⟨_, _, _, rfl, rfl⟩, rfl⟩; exact Nat.le_of_ble_eq_true (by kernel_rfl))) (by kernel_rfl) (by kernel_rfl) (by kernel_rfl) ?_
                      rintro _ _ ⟨_, _, ⟨_, ⟨v_122, p1_123, h1_124, rfl, rfl⟩, rfl⟩, rfl, rfl⟩
                      refine R.go 1 (R.any1 1 (by kernel_rfl) (by kernel_rfl) ?_)
                      refine R.go 2 (R.any1 13 (by kernel_rfl) (by kernel_rfl) ?_)
                      refine R.idxO 4 1 xs_2.length ((v_109).toNat) v_109 (by kernel_rfl) (by omega) (by omega) (by kernel_rfl) ?_
                      refine R.go 1 (R.any1 14 (by kernel_rfl) (by kernel_rfl) ?_)
                      refine R.stI 4 2 xs_2 ((v_109).toNat) v_122 (by kernel_rfl) (by omega) (by kernel_rfl) ?_
                      refine R.go 1 (R.any0 (by kernel_rfl) ?_)
                      refine R.go 6 (R.frz 4 (by kernel_rfl) ?_)
                      refine R.kfix 2 (us := usC) (by kernel_rfl) (hfC.frz 4 (LI (xs_2.set ((v_109).toNat) v_122)) (Nat.le_of_ble_eq_true (by kernel_rfl))) ?_
                      exact R.retX (res := .agg [AI n_1, LI (xs_2.set ((v_109).toNat) v_122)]) (hp' := [.box 106 [LB c, AI (p1_123 : Int), .int .u64 h1_124], .list eo1 so1 no1 co1, .dead, .box 26 [AI n_1, LI (xs_2.set ((v_109).toNat) v_122)], .dead, .box 26 [AI n_1, LI (xs_2.set ((v_109).toNat) v_122)]]) (by kernel_rfl) (by kernel_rfl) (by kernel_rfl) (by kernel_rfl) ⟨[0, 1], by kernel_rfl, by decide, n_1, xs_2.set ((v_109).toNat) v_122, p1_123, h1_124, by first | omega | (simp; done) | (simp only [List.length_append, List.length_cons, List.length_nil, List.length_set]; omega), by kernel_rfl, by kernel_rfl⟩
        · refine R.go 7 (R.frz 4 (by kernel_rfl) ?_)
          refine R.kfix 2 (us := usC) (by kernel_rfl) (hfC.frz 4 (LI xs_2) (Nat.le_of_ble_eq_true (by kernel_rfl))) ?_
          exact R.retX (res := .agg [AI n_1, LI xs_2]) (hp' := [.box 106 [LB c, AI (p1_8 : Int), .int .u64 h1_9], .list eo1 so1 no1 co1, .dead, .box 26 [AI n_1, LI xs_2], .dead, .box 26 [AI n_1, LI xs_2]]) (by kernel_rfl) (by kernel_rfl) (by kernel_rfl) (by kernel_rfl) ⟨[0, 1], by kernel_rfl, by decide, n_1, xs_2, p1_8, h1_9, by first | omega | (simp; done) | (simp only [List.length_append, List.length_cons, List.length_nil, List.length_set]; omega), by kernel_rfl, by kernel_rfl⟩
      · refine R.go 7 (R.frz 4 (by kernel_rfl) ?_)
        refine R.kfix 2 (us := usC) (by kernel_rfl) (hfC.frz 4 (LI xs_2) (Nat.le_of_ble_eq_true (by kernel_rfl))) ?_
        exact R.retX (res := .agg [AI n_1, LI xs_2]) (hp' := [.box 106 [LB c, AI (p1_8 : Int), .int .u64 h1_9], .list eo1 so1 no1 co1, .dead, .box 26 [AI n_1, LI xs_2], .dead, .box 26 [AI n_1, LI xs_2]]) (by kernel_rfl) (by kernel_rfl) (by kernel_rfl) (by kernel_rfl) ⟨[0, 1], by kernel_rfl, by decide, n_1, xs_2, p1_8, h1_9, by first | omega | (simp; done) | (simp only [List.length_append, List.length_cons, List.length_nil, List.length_set]; omega), by kernel_rfl, by kernel_rfl⟩

end Go.Proofs.Ytejaikeemahobaa


/-! Draws of the laws. -/
namespace Go.Proofs.Ytejaikeemahobaa
open Go.RowKit Go.Abs

theorem drClusters_c (c : List Int) (hc : BY c) : CallX Try.prog 35 [LB c] [] (fun (resX : AV) (objX : List AObj) => ∃ n : Int, ∃ xs : List Int, (xs.length ≤ 1000) ∧ resX = .agg [AI n, LI xs] ∧ objX = []) := by
  have hcl : c.length ≤ 4096 := hc.1
  have hcb := hc.2
  refine CallX.dropE (CallX.ofF Try.func35 rfl (by kernel_rfl) ?_)
  intro usC frC hfC
  refine R.go 7 (R.enter (avs := [LB c]) Try.func40 rfl (by kernel_rfl) (by kernel_rfl) (by kernel_rfl) ?_)
  intro us1
  refine R.go 9 (R.cv .u64 (c.length : Int) (by kernel_rfl) (u64_id (by omega) (by omega)) (by kernel_rfl) ?_)
  refine R.go 11 (R.loop ((fun | (i, hh) => (⟨(frm 38 [(0, LB c), (3, .ptr 3 0), (4, AI (i : Int))]), [.frame usC frC, .box 26 [AI 0, .nil], .frame us1 (frm 6 [(0, LB c), (2, .ptr 1 0), (3, LB c)]), .box 106 [LB c, AI 0, .int .u64 hh]]⟩ : St) : Nat × Int → St)) (fun | (i, hh) => i ≤ c.length) (fun | (i, hh) => c.length - i) (0, (IntKind.u64.wrap (7129 + (c.length : Int)))) [0, 3, 4] none (by kernel_rfl) (by kernel_rfl) (by kernel_rfl) (by omega) ?_)
  rintro ⟨i, hh⟩ h5_1 R2 N3
  refine R.go 8 ?_
  by_cases c6 : (i : Int) < (c.length : Int)
  · refine R.want (decide ((i : Int) < (c.length : Int))) true (by kernel_rfl) (dT c6) ?_
    refine R.go 1 (R.want (decide ((i : Int) < (c.length : Int))) true (by kernel_rfl) (dT c6) ?_)
    refine R.go 1 (R.pick (decide ((i : Int) < (c.length : Int))) true (by kernel_rfl) (dT c6) (by kernel_rfl) ?_)
    refine R.go 1 (R.cond ((i : Int) < 4096) (by kernel_rfl) (fun c7 => ?_) (fun c7 => ?_))
    · have hbi := hcb i (by omega)
      refine R.go 12 (R.idx eB c 0 i (i : Int) (by kernel_rfl) rfl eB_len (by omega) (by kernel_rfl) ?_)
      refine R.go 1 (R.cv .u64 (c.getD i 0) (by kernel_rfl) (u64_id (by omega) (by omega)) (by kernel_rfl) ?_)
      refine R.go 9 (R.ar ((i : Int) + 1) (by kernel_rfl) (by omega) (by omega) (by kernel_rfl) ?_)
      exact R.go 2 (R.stop R2 (by kernel_rfl) (N3 (i + 1, IntKind.u64.wrap ((IntKind.u64.wrap ((IntKind.u64.wrap (hh * 1099511628211)) + (c.getD i 0))) + 11)) [0, 3, 4] none _ (by kernel_rfl) (by kernel_rfl) (by omega) (by show (c.length - (i + 1)) < (c.length - i); omega)))
    · refine R.go 6 (R.back (.ptr 3 0) (frm 6 [(0, LB c), (2, .ptr 1 0), (3, LB c)]) (by kernel_rfl) (by kernel_rfl) (by kernel_rfl) ?_)
      refine R.deadF 2 (by kernel_rfl) (by kernel_rfl) ?_
      refine R.callX (CallX.inF 0 usC frC (CallX.inF 1 [] [] (CallX.perm [1, 0] [1, 0] (CallX.box 1 26 [AI 0, .nil] (frameX_c_r1 c 0 hh 8 26 2 1 [AI 0, .nil] hc (by omega)) (by kernel_rfl) (by kernel_rfl) (by kernel_rfl) (by kernel_rfl) (by rintro _ _ ⟨_, _, _, _, _, rfl, rfl⟩; exact ⟨by kernel_rfl, by kernel_rfl, by kernel_rfl⟩)) (by kernel_rfl) (by kernel_rfl) (by kernel_rfl) (by rintro _ _ ⟨_, ⟨_, _, _, _, _, rfl, rfl⟩, rfl⟩; exact Nat.le_of_ble_eq_true (by kernel_rfl))) (Nat.le_of_ble_eq_true (by kernel_rfl)) (by kernel_rfl) (by kernel_rfl) (by rintro _ _ ⟨_, _, ⟨_, ⟨_, _, _, _, _, rfl, rfl⟩, rfl⟩, rfl, rfl⟩; exact Nat.le_of_ble_eq_true (by kernel_rfl))) (Nat.le_of_ble_eq_true (by kernel_rfl)) (by kernel_rfl) (by kernel_rfl) (by rintro _ _ ⟨_, _, ⟨_, _, ⟨_, ⟨_, _, _, _, _, rfl, rfl⟩, rfl⟩, rfl, rfl⟩, rfl, rfl⟩; exact Nat.le_of_ble_eq_true (by kernel_rfl))) (by kernel_rfl) (by kernel_rfl) (by kernel_rfl) ?_
      rintro _ _ ⟨_, _, ⟨_, _, ⟨_, _, ⟨_, ⟨n_8, xs_9, p1_10, h1_11, f12, rfl, rfl⟩, rfl⟩, rfl, rfl⟩, rfl, rfl⟩, rfl, rfl⟩
      exact R.go 2 (R.retX (res := .agg [AI n_8, LI xs_9]) (hp' := [.dead, .box 26 [AI n_8, LI xs_9], .frame [] [], .box 106 [LB c, AI (p1_10 : Int), .int .u64 h1_11]]) (by kernel_rfl) (by kernel_rfl) (by kernel_rfl) (by kernel_rfl) ⟨[], by kernel_rfl, by decide, n_8, xs_9, by first | assumption | omega, by kernel_rfl, by kernel_rfl⟩)
  · refine R.skp (decide ((i : Int) < (c.length : Int))) true (by kernel_rfl) (dF c6) (by kernel_rfl) ?_
    refine R.skp (decide ((i : Int) < (c.length : Int))) true (by kernel_rfl) (dF c6) (by kernel_rfl) ?_
    refine R.pick (decide ((i : Int) < (c.length : Int))) false (by kernel_rfl) (dF c6) (by kernel_rfl) ?_
    refine R.go 8 (R.back (.ptr 3 0) (frm 6 [(0, LB c), (2, .ptr 1 0), (3, LB c)]) (by kernel_rfl) (by kernel_rfl) (by kernel_rfl) ?_)
    refine R.deadF 2 (by kernel_rfl) (by kernel_rfl) ?_
    refine R.callX (CallX.inF 0 usC frC (CallX.inF 1 [] [] (CallX.perm [1, 0] [1, 0] (CallX.box 1 26 [AI 0, .nil] (frameX_c_r1 c 0 hh 8 26 2 1 [AI 0, .nil] hc (by omega)) (by kernel_rfl) (by kernel_rfl) (by kernel_rfl) (by kernel_rfl) (by rintro _ _ ⟨_, _, _, _, _, rfl, rfl⟩; exact ⟨by kernel_rfl, by kernel_rfl, by kernel_rfl⟩)) (by kernel_rfl) (by kernel_rfl) (by kernel_rfl) (by rintro _ _ ⟨_, ⟨_, _, _, _, _, rfl, rfl⟩, rfl⟩; exact Nat.le_of_ble_eq_true (by kernel_rfl))) (Nat.le_of_ble_eq_true (by kernel_rfl)) (by kernel_rfl) (by kernel_rfl) (by rintro _ _ ⟨_, _, ⟨_, ⟨_, _, _, _, _, rfl, rfl⟩, rfl⟩, rfl, rfl⟩; exact Nat.le_of_ble_eq_true (by kernel_rfl))) (Nat.le_of_ble_eq_true (by kernel_rfl)) (by kernel_rfl) (by kernel_rfl) (by rintro _ _ ⟨_, _, ⟨_, _, ⟨_, ⟨_, _, _, _, _, rfl, rfl⟩, rfl⟩, rfl, rfl⟩, rfl, rfl⟩; exact Nat.le_of_ble_eq_true (by kernel_rfl))) (by kernel_rfl) (by kernel_rfl) (by kernel_rfl) ?_
    rintro _ _ ⟨_, _, ⟨_, _, ⟨_, _, ⟨_, ⟨n_13, xs_14, p1_15, h1_16, f17, rfl, rfl⟩, rfl⟩, rfl, rfl⟩, rfl, rfl⟩, rfl, rfl⟩
    exact R.go 2 (R.retX (res := .agg [AI n_13, LI xs_14]) (hp' := [.dead, .box 26 [AI n_13, LI xs_14], .frame [] [], .box 106 [LB c, AI (p1_15 : Int), .int .u64 h1_16]]) (by kernel_rfl) (by kernel_rfl) (by kernel_rfl) (by kernel_rfl) ⟨[], by kernel_rfl, by decide, n_13, xs_14, by first | assumption | omega, by kernel_rfl, by kernel_rfl⟩)

end Go.Proofs.Ytejaikeemahobaa


/-! Negation normal forms: the reference, the tops; models. -/
namespace Go.Proofs.Ytejaikeemahobaa
open Go.RowKit Go.Abs

section
variable {nv : Nat} {a : List (Int × Int)} {p : Bool}
end
theorem full9_c (n : Int) (h0 : 0 ≤ n) (h1 : n ≤ 60) : CallA Try.prog 25 [AI n] (AI ((shl64 1 n) - 1)) := by
  have hb : 1 ≤ shl64 1 n ∧ shl64 1 n ≤ 4611686018427387904 := shl_rng n h0 (by omega)
  refine CallA.of Try.func25 rfl (by kernel_rfl) ?_
  refine R.go 10 ?_
  by_cases c1 : n < 0
  · refine R.skp (decide (n < 0)) false (by kernel_rfl) (dT c1) (by kernel_rfl) ?_
    refine R.skp (decide (n < 0)) false (by kernel_rfl) (dT c1) (by kernel_rfl) ?_
    refine R.pick (decide (n < 0)) true (by kernel_rfl) (dT c1) (by kernel_rfl) ?_
    exact R.go 6 (R.retE (AI 0) (by kernel_rfl) (by kernel_rfl) (by first | (rfl) | (exfalso; omega)))
  · refine R.want (decide (n < 0)) false (by kernel_rfl) (dF c1) ?_
    refine R.go 1 (R.want (decide (n < 0)) false (by kernel_rfl) (dF c1) ?_)
    refine R.go 1 (R.pick (decide (n < 0)) false (by kernel_rfl) (dF c1) (by kernel_rfl) ?_)
    refine R.go 1 (R.cond (n > 60) (by kernel_rfl) (fun c2 => ?_) (fun c2 => ?_))
    · exact R.go 4 (R.retE (AI 0) (by kernel_rfl) (by kernel_rfl) (by first | (rfl) | (exfalso; omega)))
    · refine R.go 4 (R.cv .u64 n (by kernel_rfl) (u64_id (by omega) (by omega)) (by kernel_rfl) ?_)
      refine R.shl 1 n (by kernel_rfl) (by omega) (by kernel_rfl) ?_
      refine R.ar ((shl64 1 n) - 1) (by kernel_rfl) (by omega) (by omega) (by kernel_rfl) ?_
      exact R.go 2 (R.retE (AI ((shl64 1 n) - 1)) (by kernel_rfl) (by kernel_rfl) (by rfl))

end Go.Proofs.Ytejaikeemahobaa


/-! Parts and sums of models: the program and the reference. -/
namespace Go.Proofs.Ytejaikeemahobaa
open Go.RowKit Go.Abs

def imT (R L : List Int) : Nat → Int
  | 0 => 0
  | t + 1 => bor (imT R L t) (R.getD (L.getD t 0).toNat 0)
theorem imT_ok {N : Nat} {R : List Int} {C : Int} (hN : N ≤ 61) (hR : RelOK N R) (hC : InM N C) : ∀ t, t ≤ (mem C).length → InM N (imT R (mem C) t) ∧ ∀ u, tb (imT R (mem C) t) u = true ↔ ∃ k, k < t ∧ tb (R.getD ((mem C).getD k 0).toNat 0) u = true
  | 0, _ => ⟨inM_zero N, fun u => by simp [imT, tb_zero]⟩
  | t + 1, ht => by
    obtain ⟨i1, i2⟩ := imT_ok hN hR hC t (by omega)
    obtain ⟨_, h2, _⟩ := mem_in hN hC (k := t) (by omega)
    have i3 := hR.2 _ h2
    refine ⟨inM_bor hN i1 i3, fun u => ?_⟩
    rw [imT, tb_bor hN i1 i3, Bool.or_eq_true, i2]
    constructor
    · rintro (⟨k, hk, h⟩ | h)
      · exact ⟨k, by omega, h⟩
      · exact ⟨t, by omega, h⟩
    · rintro ⟨k, hk, h⟩
      by_cases e : k = t
      · subst e; exact .inr h
      · exact .inl ⟨k, by omega, h⟩
def gwI (xs : List Int) (C : Int) : Int := imT (clo xs) (mem C) (mem C).length
theorem gw_ok {n : Int} {xs : List Int} {C : Int} (hR : okFr n xs = true) (hC : InM n.toNat C) : InM n.toNat (gwI xs C) ∧ ClosedS xs (gwI xs C) := by
  obtain ⟨h0, h8, hxl, hrr⟩ := okFr_rel hR
  obtain ⟨c1, c2⟩ := clo_ok (n := n.toNat) (by omega) hrr
  obtain ⟨i1, i2⟩ := imT_ok (by omega) c1 hC (mem C).length (Nat.le_refl _)
  refine ⟨i1, fun w u hw hu => ?_⟩
  obtain ⟨k, hk, h⟩ := (i2 w).1 hw
  obtain ⟨_, h2, _⟩ := mem_in (by omega) hC hk
  refine (i2 u).2 ⟨k, hk, ?_⟩
  rw [c2 _ h2] at h ⊢
  have hwn : w < n.toNat := tb_lt i1 hw
  exact h.tail ⟨by omega, hu⟩
end Go.Proofs.Ytejaikeemahobaa
