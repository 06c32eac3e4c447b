/- Texts of the proof: E03, Sym4, Sym8. -/
import Derived.Test.YtpalghbfhgimkaaPartG

/-! Draws of frames. -/
namespace Go.Proofs.Ytpalghbfhgimkaa
open Go.RowKit Go.Abs

def refI (xs : List Int) : Nat → List Int
  | 0 => []
  | i + 1 => refI xs i ++ [bor (xs.getD i 0) (shl64 1 (i : Int))]
theorem refI_len (xs : List Int) : ∀ i, (refI xs i).length = i
  | 0 => rfl
  | i + 1 => by simp [refI, refI_len xs i]

theorem l05Make_c (xs : List Int) (hl : xs.length ≤ 1000000000) : CallA Try.prog 118 [LI xs] (.agg [AI xs.length, ownA eI 2 1 xs]) := by
  refine CallA.of Try.func118 rfl (by kernel_rfl) ?_
  refine R.go 9 (R.call true (l01Own_c xs hl) (by kernel_rfl) rfl (by kernel_rfl) ?_)
  exact R.go 3 (R.retE (.agg [AI xs.length, ownA eI 2 1 xs]) (by kernel_rfl) (by kernel_rfl) (by rfl))

theorem l01Refl_c (xs : List Int) (hl : xs.length ≤ 60) : CallA Try.prog 116 [LI xs] (ownA eI 2 1 (refI xs xs.length)) := by
  refine CallA.of Try.func116 rfl (by kernel_rfl) ?_
  refine R.go 15 (R.loop ((fun | (i, ys) => (⟨(frm 23 [(0, LI xs), (3, .ref 0), (4, AI (i : Int))]), [rowA eI 2 1 ys]⟩ : St) : Nat × (List Int) → St)) (fun | (i, ys) => (i ≤ xs.length) ∧ (ys.length = i) ∧ (ys = refI xs i)) (fun | (i, ys) => xs.length - i) (0, []) [0, 3, 4] none (by kernel_rfl) (by kernel_rfl) (by kernel_rfl) ⟨(by omega), (by rfl), (by rfl)⟩ ?_)
  rintro ⟨i, ys⟩ ⟨h4_1, h4_2, h4_3⟩ R1 N2
  refine R.go 8 (R.cond ((i : Int) < (xs.length : Int)) (by kernel_rfl) (fun c5 => ?_) (fun c5 => ?_))
  · refine R.go 7 (R.idx eI xs 0 i (i : Int) (by kernel_rfl) rfl eI_len (by omega) (by kernel_rfl) ?_)
    refine R.go 2 (R.call true (l01One_c (i : Int) (by omega) (by omega)) (by kernel_rfl) rfl (by kernel_rfl) ?_)
    refine R.go 2 (R.app eI ys [bor (xs.getD i 0) (shl64 1 (i : Int))] 0 2 1 8 (by kernel_rfl) eI_one (by decide) (by first | omega | (simp <;> omega)) (by kernel_rfl) ?_)
    refine R.go 5 (R.ar ((i : Int) + 1) (by kernel_rfl) (by omega) (by omega) (by kernel_rfl) ?_)
    exact R.go 2 (R.stop R1 (by kernel_rfl) (N2 (i + 1, ys ++ [bor (xs.getD i 0) (shl64 1 (i : Int))]) [0, 3, 4] (some [0]) _ (by kernel_rfl) (by kernel_rfl) ⟨(by omega), (by (simp <;> omega)), (by rw [refI, ← ‹ys = refI xs i›])⟩ (by show (xs.length - (i + 1)) < (xs.length - i); omega)))
  · exact R.go 6 (R.retE (ownA eI 2 1 ys) (by kernel_rfl) (by kernel_rfl) (by first | (rw [‹ys = refI xs i›, show xs.length = i by omega]) | (exfalso; omega)))

theorem l01Clos_c (xs : List Int) (hl : xs.length ≤ 60) : CallA Try.prog 117 [LI xs] (ownA eI 2 1 (wout xs xs.length)) := by
  refine CallA.of Try.func117 rfl (by kernel_rfl) ?_
  refine R.go 7 (R.call true (l01Own_c xs (by first | omega | (simp <;> omega))) (by kernel_rfl) rfl (by kernel_rfl) ?_)
  refine R.go 8 (R.loop ((fun | (j, out) => (⟨(frm 39 [(3, .ref 0), (4, AI (j : Int))]), [rowA eI 2 1 out]⟩ : St) : Nat × (List Int) → St)) (fun | (j, out) => (j ≤ xs.length) ∧ (out = wout xs j)) (fun | (j, out) => xs.length - j) (0, xs) [3, 4] none (by kernel_rfl) (by kernel_rfl) (by kernel_rfl) ⟨(by omega), (by rfl)⟩ ?_)
  rintro ⟨j, out⟩ ⟨h4_1, h4_2⟩ R1 N2
  have hlen : out.length = xs.length := by rw [‹out = wout xs j›]; exact wout_len xs j
  refine R.go 8 (R.cond ((j : Int) < (out.length : Int)) (by kernel_rfl) (fun c5 => ?_) (fun c5 => ?_))
  · refine R.go 8 (R.loop ((fun | (i, o2) => (⟨(frm 39 [(3, .ref 0), (4, AI (j : Int)), (5, AI (i : Int))]), [rowA eI 2 1 o2]⟩ : St) : Nat × (List Int) → St)) (fun | (i, o2) => (i ≤ xs.length) ∧ (o2 = win out j i)) (fun | (i, o2) => xs.length - i) (0, out) [3, 4, 5] none (by kernel_rfl) (by kernel_rfl) (by kernel_rfl) ⟨(by omega), (by rfl)⟩ ?_)
    rintro ⟨i, o2⟩ ⟨h9_1, h9_2⟩ R6 N7
    have hlen2 : o2.length = xs.length := by rw [‹o2 = win out j i›, win_len]; exact hlen
    refine R.go 8 (R.cond ((i : Int) < (o2.length : Int)) (by kernel_rfl) (fun c10 => ?_) (fun c10 => ?_))
    · refine R.go 7 (R.idxO 0 1 o2.length i (i : Int) (by kernel_rfl) rfl (by omega) (by kernel_rfl) ?_)
      refine R.ldI o2 i (by kernel_rfl) (by omega) (by kernel_rfl) ?_
      refine R.go 1 (R.call true (l01Bit_c (o2.getD i 0) (j : Int) (by omega) (by omega)) (by kernel_rfl) rfl (by kernel_rfl) ?_)
      refine R.go 1 (R.cond (band (shr64 (o2.getD i 0) (j : Int)) 1 = 1) (by kernel_rfl) (fun c11 => ?_) (fun c11 => ?_))
      · refine R.go 5 (R.idxO 0 1 o2.length i (i : Int) (by kernel_rfl) rfl (by omega) (by kernel_rfl) ?_)
        refine R.ldI o2 i (by kernel_rfl) (by omega) (by kernel_rfl) ?_
        refine R.go 2 (R.idxO 0 1 o2.length j (j : Int) (by kernel_rfl) rfl (by omega) (by kernel_rfl) ?_)
        refine R.ldI o2 j (by kernel_rfl) (by omega) (by kernel_rfl) ?_
        refine R.go 1 (R.idxO 0 1 o2.length i (i : Int) (by kernel_rfl) rfl (by omega) (by kernel_rfl) ?_)
        refine R.stI 0 2 o2 i (bor (o2.getD i 0) (o2.getD j 0)) (by kernel_rfl) (by omega) (by kernel_rfl) ?_
        refine R.go 4 (R.ar ((i : Int) + 1) (by kernel_rfl) (by omega) (by omega) (by kernel_rfl) ?_)
        exact R.go 2 (R.stop R6 (by kernel_rfl) (N7 (i + 1, o2.set i (bor (o2.getD i 0) (o2.getD j 0))) [3, 4, 5] none _ (by kernel_rfl) (by kernel_rfl) ⟨(by omega), (by first | (rw [win, wrow, ← ‹o2 = win out j i›, if_pos ‹band (shr64 (o2.getD i 0) (j : Int)) 1 = 1›]) | (rw [win, wrow, ← ‹o2 = win out j i›, if_neg ‹¬ band (shr64 (o2.getD i 0) (j : Int)) 1 = 1›]))⟩ (by show (xs.length - (i + 1)) < (xs.length - i); omega)))
      · refine R.go 4 (R.ar ((i : Int) + 1) (by kernel_rfl) (by omega) (by omega) (by kernel_rfl) ?_)
        exact R.go 2 (R.stop R6 (by kernel_rfl) (N7 (i + 1, o2) [3, 4, 5] none _ (by kernel_rfl) (by kernel_rfl) ⟨(by omega), (by first | (rw [win, wrow, ← ‹o2 = win out j i›, if_pos ‹band (shr64 (o2.getD i 0) (j : Int)) 1 = 1›]) | (rw [win, wrow, ← ‹o2 = win out j i›, if_neg ‹¬ band (shr64 (o2.getD i 0) (j : Int)) 1 = 1›]))⟩ (by show (xs.length - (i + 1)) < (xs.length - i); omega)))
    · refine R.go 4 (R.ar ((j : Int) + 1) (by kernel_rfl) (by omega) (by omega) (by kernel_rfl) ?_)
      exact R.go 2 (R.stop R1 (by kernel_rfl) (N2 (j + 1, o2) [3, 4] none _ (by kernel_rfl) (by kernel_rfl) ⟨(by omega), (by rw [wout, ← ‹out = wout xs j›, ← show i = xs.length by omega]; assumption)⟩ (by show (xs.length - (j + 1)) < (xs.length - j); omega)))
  · exact R.go 6 (R.retE (ownA eI 2 1 out) (by kernel_rfl) (by kernel_rfl) (by first | (rw [‹out = wout xs j›, show j = xs.length by omega]) | (exfalso; omega)))

theorem someX_c_r3 (c : List Int) (p : Nat) (h : Int) (worlds : Int) (eo1 : Nat) (so1 : Nat) (no1 : Nat) (co1 : List AV) (eo2 : Nat) (so2 : Nat) (no2 : Nat) (co2 : List AV) (eo3 : Nat) (so3 : Nat) (no3 : Nat) (co3 : List AV) (hc : BY c) (hw : 0 ≤ worlds ∧ worlds ≤ 20) : CallX Try.prog 92 [.ptr 0 0, AI worlds] [.box 98 [LB c, AI (p : Int), .int .u64 h], .list eo1 so1 no1 co1, .list eo2 so2 no2 co2, .list eo3 so3 no3 co3] (fun (resX : AV) (objX : List AObj) => ∃ n : Int, ∃ xs : List Int, ∃ p1 : Nat, ∃ h1 : Int, (0 ≤ n ∧ n ≤ worlds) ∧ ((xs.length : Int) = n) ∧ resX = .agg [AI n, LI xs] ∧ objX = [.box 98 [LB c, AI (p1 : Int), .int .u64 h1], .list eo1 so1 no1 co1, .list eo2 so2 no2 co2, .list eo3 so3 no3 co3]) := by
  have hcl : c.length ≤ 4096 := hc.1
  have hcb := hc.2
  refine CallX.dropE (CallX.ofF Try.func92 rfl (by kernel_rfl) ?_)
  intro usC frC hfC
  refine R.go 8 (R.ar (worlds + 1) (by kernel_rfl) (by omega) (by omega) (by kernel_rfl) ?_)
  refine R.callX (CallX.inF 4 usC frC (CallX.box 4 32 [AI 0, .nil] (nextX_c_r4 c p h (worlds + 1) eo1 so1 no1 co1 eo2 so2 no2 co2 eo3 so3 no3 co3 32 2 1 [AI 0, .nil] hc) (by kernel_rfl) (by kernel_rfl) (by kernel_rfl) (by kernel_rfl) (by rintro _ _ ⟨_, _, _, _, rfl, rfl⟩; exact ⟨by kernel_rfl, by kernel_rfl, by kernel_rfl⟩)) (Nat.le_of_ble_eq_true (by kernel_rfl)) (by kernel_rfl) (by kernel_rfl) (by rintro _ _ ⟨_, ⟨_, _, _, _, rfl, rfl⟩, rfl⟩; exact Nat.le_of_ble_eq_true (by kernel_rfl))) (by kernel_rfl) (by kernel_rfl) (by kernel_rfl) ?_
  rintro _ _ ⟨_, _, ⟨_, ⟨v_1, p1_2, h1_3, f4, rfl, rfl⟩, rfl⟩, rfl, rfl⟩
  refine R.go 10 (R.callX (CallX.inF 4 usC frC (CallX.box 4 32 [AI 0, .nil] (nextX_c_r5 c p1_2 h1_3 3 eo1 so1 no1 co1 eo2 so2 no2 co2 eo3 so3 no3 co3 32 2 1 [AI 0, .nil] 2 1 0 (rows eI []) hc) (by kernel_rfl) (by kernel_rfl) (by kernel_rfl) (by kernel_rfl) (by rintro _ _ ⟨_, _, _, _, rfl, rfl⟩; exact ⟨by kernel_rfl, by kernel_rfl, by kernel_rfl⟩)) (Nat.le_of_ble_eq_true (by kernel_rfl)) (by kernel_rfl) (by kernel_rfl) (by rintro _ _ ⟨_, ⟨_, _, _, _, rfl, rfl⟩, rfl⟩; exact Nat.le_of_ble_eq_true (by kernel_rfl))) (by kernel_rfl) (by kernel_rfl) (by kernel_rfl) ?_)
  rintro _ _ ⟨_, _, ⟨_, ⟨v_5, p1_6, h1_7, f8, rfl, rfl⟩, rfl⟩, rfl, rfl⟩
  refine R.go 8 (R.loop ((fun | (i, ys, q, k) => (⟨(frm 101 [(0, .ptr 0 0), (4, .ptr 5 0), (5, AI v_1), (6, .ref 6), (7, AI v_5), (8, AI (i : Int))]), [.box 98 [LB c, AI (q : Int), .int .u64 k], .list eo1 so1 no1 co1, .list eo2 so2 no2 co2, .list eo3 so3 no3 co3, .frame usC frC, .box 32 [AI 0, .nil], rowA eI 2 1 ys]⟩ : St) : Nat × (List Int) × Nat × Int → St)) (fun | (i, ys, q, k) => ((i : Int) ≤ v_1) ∧ (ys.length = i)) (fun | (i, ys, q, k) => (v_1 - i).toNat) (0, [], p1_6, h1_7) [0, 4, 5, 6, 7, 8] none (by kernel_rfl) (by kernel_rfl) (by kernel_rfl) ⟨(by omega), (by rfl)⟩ ?_)
  rintro ⟨i, ys, q, k⟩ ⟨h12_1, h12_2⟩ R9 N10
  refine R.go 7 (R.cond ((i : Int) < v_1) (by kernel_rfl) (fun c13 => ?_) (fun c13 => ?_))
  · have hb : 1 ≤ shl64 1 v_1 ∧ shl64 1 v_1 ≤ 4611686018427387904 := shl_rng v_1 (by omega) (by omega)
    refine R.go 7 (R.call true (l01Full_c v_1 (by first | omega | (simp only [refI_len, wout_len]; omega) | (simp <;> omega)) (by first | omega | (simp only [refI_len, wout_len]; omega) | (simp <;> omega))) (by kernel_rfl) rfl (by kernel_rfl) ?_)
    refine R.ar (((shl64 1 v_1) - 1) + 1) (by kernel_rfl) (by omega) (by omega) (by kernel_rfl) ?_
    refine R.callX (CallX.inF 4 usC frC (CallX.box 4 32 [AI 0, .nil] (nextX_c_r5 c q k (((shl64 1 v_1) - 1) + 1) eo1 so1 no1 co1 eo2 so2 no2 co2 eo3 so3 no3 co3 32 2 1 [AI 0, .nil] 2 1 ys.length (rows eI ys) hc) (by kernel_rfl) (by kernel_rfl) (by kernel_rfl) (by kernel_rfl) (by rintro _ _ ⟨_, _, _, _, rfl, rfl⟩; exact ⟨by kernel_rfl, by kernel_rfl, by kernel_rfl⟩)) (Nat.le_of_ble_eq_true (by kernel_rfl)) (by kernel_rfl) (by kernel_rfl) (by rintro _ _ ⟨_, ⟨_, _, _, _, rfl, rfl⟩, rfl⟩; exact Nat.le_of_ble_eq_true (by kernel_rfl))) (by kernel_rfl) (by kernel_rfl) (by kernel_rfl) ?_
    rintro _ _ ⟨_, _, ⟨_, ⟨v_14, p1_15, h1_16, f17, rfl, rfl⟩, rfl⟩, rfl, rfl⟩
    refine R.go 8 (R.loop ((fun | (j, m, q2, k2) => (⟨(frm 101 [(0, .ptr 0 0), (4, .ptr 5 0), (5, AI v_1), (6, .ref 6), (7, AI v_5), (8, AI (i : Int)), (9, AI m), (10, AI (j : Int))]), [.box 98 [LB c, AI (q2 : Int), .int .u64 k2], .list eo1 so1 no1 co1, .list eo2 so2 no2 co2, .list eo3 so3 no3 co3, .frame usC frC, .box 32 [AI 0, .nil], rowA eI 2 1 ys]⟩ : St) : Nat × Int × Nat × Int → St)) (fun | (j, m, q2, k2) => True) (fun | (j, m, q2, k2) => (v_5 - j).toNat) (0, v_14, p1_15, h1_16) [0, 4, 5, 6, 7, 8, 9, 10] none (by kernel_rfl) (by kernel_rfl) (by kernel_rfl) trivial ?_)
    rintro ⟨j, m, q2, k2⟩ _ R18 N19
    refine R.go 7 (R.cond ((j : Int) < v_5) (by kernel_rfl) (fun c22 => ?_) (fun c22 => ?_))
    · refine R.go 7 (R.call true (l01Full_c v_1 (by first | omega | (simp only [refI_len, wout_len]; omega) | (simp <;> omega)) (by first | omega | (simp only [refI_len, wout_len]; omega) | (simp <;> omega))) (by kernel_rfl) rfl (by kernel_rfl) ?_)
      refine R.ar (((shl64 1 v_1) - 1) + 1) (by kernel_rfl) (by omega) (by omega) (by kernel_rfl) ?_
      refine R.callX (CallX.inF 4 usC frC (CallX.box 4 32 [AI 0, .nil] (nextX_c_r5 c q2 k2 (((shl64 1 v_1) - 1) + 1) eo1 so1 no1 co1 eo2 so2 no2 co2 eo3 so3 no3 co3 32 2 1 [AI 0, .nil] 2 1 ys.length (rows eI ys) hc) (by kernel_rfl) (by kernel_rfl) (by kernel_rfl) (by kernel_rfl) (by rintro _ _ ⟨_, _, _, _, rfl, rfl⟩; exact ⟨by kernel_rfl, by kernel_rfl, by kernel_rfl⟩)) (Nat.le_of_ble_eq_true (by kernel_rfl)) (by kernel_rfl) (by kernel_rfl) (by rintro _ _ ⟨_, ⟨_, _, _, _, rfl, rfl⟩, rfl⟩; exact Nat.le_of_ble_eq_true (by kernel_rfl))) (by kernel_rfl) (by kernel_rfl) (by kernel_rfl) ?_
      rintro _ _ ⟨_, _, ⟨_, ⟨v_23, p1_24, h1_25, f26, rfl, rfl⟩, rfl⟩, rfl, rfl⟩
      refine R.go 6 (R.ar ((j : Int) + 1) (by kernel_rfl) (by omega) (by omega) (by kernel_rfl) ?_)
      exact R.go 2 (R.stop R18 (by kernel_rfl) (N19 (j + 1, band m v_23, p1_24, h1_25) [0, 4, 5, 6, 7, 8, 9, 10] none _ (by kernel_rfl) (by kernel_rfl) trivial (by show ((v_5 - (j + 1)).toNat) < ((v_5 - j).toNat); omega)))
    · refine R.go 5 (R.app eI ys [m] 6 2 1 8 (by kernel_rfl) eI_one (by decide) (by first | omega | (simp <;> omega)) (by kernel_rfl) ?_)
      refine R.kfix 4 (us := usC) (by kernel_rfl) (hfC.kill 6 (Nat.le_of_ble_eq_true (by kernel_rfl))) ?_
      refine R.go 5 (R.ar ((i : Int) + 1) (by kernel_rfl) (by omega) (by omega) (by kernel_rfl) ?_)
      exact R.go 2 (R.stop R9 (by kernel_rfl) (N10 (i + 1, ys ++ [m], q2, k2) [0, 4, 5, 6, 7, 8] (some [0, 1, 2, 3, 4, 5, 6]) _ (by kernel_rfl) (canonF (fr := frC) (fun (frX : List AV) => (⟨(frm 101 [(0, .ptr 0 0), (4, .ptr 5 0), (5, AI v_1), (6, .ref 6), (7, AI v_5), (8, AI ((i : Int) + 1))]), [.box 98 [LB c, AI (q2 : Int), .int .u64 k2], .list eo1 so1 no1 co1, .list eo2 so2 no2 co2, .list eo3 so3 no3 co3, .frame usC frX, .box 32 [AI 0, .nil], rowA eI 2 1 (ys ++ [m])]⟩ : St)) (hfC.ren _ (by kernel_rfl)) (by kernel_rfl) (by kernel_rfl)) ⟨(by omega), (by (simp <;> omega))⟩ (by show ((v_1 - (i + 1)).toNat) < ((v_1 - i).toNat); omega)))
  · refine R.go 5 (R.callX (CallX.inF 4 usC frC (CallX.box 4 32 [AI 0, .nil] (nextX_c_r5 c q k 8 eo1 so1 no1 co1 eo2 so2 no2 co2 eo3 so3 no3 co3 32 2 1 [AI 0, .nil] 2 1 ys.length (rows eI ys) hc) (by kernel_rfl) (by kernel_rfl) (by kernel_rfl) (by kernel_rfl) (by rintro _ _ ⟨_, _, _, _, rfl, rfl⟩; exact ⟨by kernel_rfl, by kernel_rfl, by kernel_rfl⟩)) (Nat.le_of_ble_eq_true (by kernel_rfl)) (by kernel_rfl) (by kernel_rfl) (by rintro _ _ ⟨_, ⟨_, _, _, _, rfl, rfl⟩, rfl⟩; exact Nat.le_of_ble_eq_true (by kernel_rfl))) (by kernel_rfl) (by kernel_rfl) (by kernel_rfl) ?_)
    rintro _ _ ⟨_, _, ⟨_, ⟨v_27, p1_28, h1_29, f30, rfl, rfl⟩, rfl⟩, rfl, rfl⟩
    refine R.go 7 (R.cond (v_27 = 0) (by kernel_rfl) (fun c31 => ?_) (fun c31 => ?_))
    · refine R.go 2 (R.call false (l01Refl_c ys (by first | omega | (simp only [refI_len, wout_len]; omega) | (simp <;> omega))) (by kernel_rfl) (ownA_closed eI_closed 2 1 (refI ys ys.length)) (by kernel_rfl) ?_)
      refine R.go 6 (R.call false (l05Make_c (refI ys ys.length) (by first | omega | (simp only [refI_len, wout_len]; omega) | (simp <;> omega))) (by kernel_rfl) (by simp [AV.closed, closedL, AI, ownA_closed eI_closed]) (by kernel_rfl) ?_)
      refine R.go 2 (R.frz 8 (by kernel_rfl) ?_)
      refine R.kfix 4 (us := usC) (by kernel_rfl) (hfC.frz 8 (LI (refI ys ys.length)) (Nat.le_of_ble_eq_true (by kernel_rfl))) ?_
      exact R.retX (res := .agg [AI ((refI ys ys.length).length), LI (refI ys ys.length)]) (hp' := [.box 98 [LB c, AI (p1_28 : Int), .int .u64 h1_29], .list eo1 so1 no1 co1, .list eo2 so2 no2 co2, .list eo3 so3 no3 co3, .dead, .box 32 [AI ((refI ys ys.length).length), LI (refI ys ys.length)], rowA eI 2 1 ys, rowA eI 2 1 (refI ys ys.length), .dead]) (by kernel_rfl) (by kernel_rfl) (by kernel_rfl) (by kernel_rfl) ⟨[0, 1, 2, 3], by kernel_rfl, by decide, (refI ys ys.length).length, refI ys ys.length, p1_28, h1_29, by first | omega | (simp only [refI_len, wout_len]; done) | (simp only [refI_len, wout_len]; omega), by first | omega | (simp only [refI_len, wout_len]; done) | (simp only [refI_len, wout_len]; omega), by kernel_rfl, by kernel_rfl⟩
    · refine R.go 5 (R.cond (v_27 = 1) (by kernel_rfl) (fun c32 => ?_) (fun c32 => ?_))
      · refine R.go 2 (R.call false (l01Clos_c ys (by first | omega | (simp only [refI_len, wout_len]; omega) | (simp <;> omega))) (by kernel_rfl) (ownA_closed eI_closed 2 1 (wout ys ys.length)) (by kernel_rfl) ?_)
        refine R.go 6 (R.call false (l05Make_c (wout ys ys.length) (by first | omega | (simp only [refI_len, wout_len]; omega) | (simp <;> omega))) (by kernel_rfl) (by simp [AV.closed, closedL, AI, ownA_closed eI_closed]) (by kernel_rfl) ?_)
        refine R.go 2 (R.frz 8 (by kernel_rfl) ?_)
        refine R.kfix 4 (us := usC) (by kernel_rfl) (hfC.frz 8 (LI (wout ys ys.length)) (Nat.le_of_ble_eq_true (by kernel_rfl))) ?_
        exact R.retX (res := .agg [AI ((wout ys ys.length).length), LI (wout ys ys.length)]) (hp' := [.box 98 [LB c, AI (p1_28 : Int), .int .u64 h1_29], .list eo1 so1 no1 co1, .list eo2 so2 no2 co2, .list eo3 so3 no3 co3, .dead, .box 32 [AI ((wout ys ys.length).length), LI (wout ys ys.length)], rowA eI 2 1 ys, rowA eI 2 1 (wout ys ys.length), .dead]) (by kernel_rfl) (by kernel_rfl) (by kernel_rfl) (by kernel_rfl) ⟨[0, 1, 2, 3], by kernel_rfl, by decide, (wout ys ys.length).length, wout ys ys.length, p1_28, h1_29, by first | omega | (simp only [refI_len, wout_len]; done) | (simp only [refI_len, wout_len]; omega), by first | omega | (simp only [refI_len, wout_len]; done) | (simp only [refI_len, wout_len]; omega), by kernel_rfl, by kernel_rfl⟩
      · refine R.go 5 (R.cond (v_27 = 2) (by kernel_rfl) (fun c33 => ?_) (fun c33 => ?_))
        · refine R.go 2 (R.call false (l01Clos_c ys (by first | omega | (simp only [refI_len, wout_len]; omega) | (simp <;> omega))) (by kernel_rfl) (ownA_closed eI_closed 2 1 (wout ys ys.length)) (by kernel_rfl) ?_)
          refine R.call false (l01Refl_c (wout ys ys.length) (by first | omega | (simp only [refI_len, wout_len]; omega) | (simp <;> omega))) (by kernel_rfl) (ownA_closed eI_closed 2 1 (refI (wout ys ys.length) (wout ys ys.length).length)) (by kernel_rfl) ?_
          refine R.go 6 (R.call false (l05Make_c (refI (wout ys ys.length) (wout ys ys.length).length) (by first | omega | (simp only [refI_len, wout_len]; omega) | (simp <;> omega))) (by kernel_rfl) (by simp [AV.closed, closedL, AI, ownA_closed eI_closed]) (by kernel_rfl) ?_)
          refine R.go 2 (R.frz 9 (by kernel_rfl) ?_)
          refine R.kfix 4 (us := usC) (by kernel_rfl) (hfC.frz 9 (LI (refI (wout ys ys.length) (wout ys ys.length).length)) (Nat.le_of_ble_eq_true (by kernel_rfl))) ?_
          exact R.retX (res := .agg [AI ((refI (wout ys ys.length) (wout ys ys.length).length).length), LI (refI (wout ys ys.length) (wout ys ys.length).length)]) (hp' := [.box 98 [LB c, AI (p1_28 : Int), .int .u64 h1_29], .list eo1 so1 no1 co1, .list eo2 so2 no2 co2, .list eo3 so3 no3 co3, .dead, .box 32 [AI ((refI (wout ys ys.length) (wout ys ys.length).length).length), LI (refI (wout ys ys.length) (wout ys ys.length).length)], rowA eI 2 1 ys, rowA eI 2 1 (wout ys ys.length), rowA eI 2 1 (refI (wout ys ys.length) (wout ys ys.length).length), .dead]) (by kernel_rfl) (by kernel_rfl) (by kernel_rfl) (by kernel_rfl) ⟨[0, 1, 2, 3], by kernel_rfl, by decide, (refI (wout ys ys.length) (wout ys ys.length).length).length, refI (wout ys ys.length) (wout ys ys.length).length, p1_28, h1_29, by first | omega | (simp only [refI_len, wout_len]; done) | (simp only [refI_len, wout_len]; omega), by first | omega | (simp only [refI_len, wout_len]; done) | (simp only [refI_len, wout_len]; omega), by kernel_rfl, by kernel_rfl⟩
        · refine R.go 5 (R.cond (v_27 = 3) (by kernel_rfl) (fun c34 => ?_) (fun c34 => ?_))
          · refine R.go 5 (R.loop ((fun | (i3, zs) => (⟨(frm 101 [(4, .ptr 5 0), (5, AI v_1), (6, .ref 6), (11, AI (i3 : Int))]), [.box 98 [LB c, AI (p1_28 : Int), .int .u64 h1_29], .list eo1 so1 no1 co1, .list eo2 so2 no2 co2, .list eo3 so3 no3 co3, .frame usC frC, .box 32 [AI 0, .nil], rowA eI 2 1 zs]⟩ : St) : Nat × (List Int) → St)) (fun | (i3, zs) => ((i3 : Int) ≤ v_1) ∧ ((zs.length : Int) = v_1)) (fun | (i3, zs) => (v_1 - i3).toNat) (0, ys) [4, 5, 6, 11] none (by kernel_rfl) (by kernel_rfl) (by kernel_rfl) ⟨(by omega), (by omega)⟩ ?_)
            rintro ⟨i3, zs⟩ ⟨h38_1, h38_2⟩ R35 N36
            refine R.go 7 (R.cond ((i3 : Int) < v_1) (by kernel_rfl) (fun c39 => ?_) (fun c39 => ?_))
            · refine R.go 8 (R.idxO 6 1 zs.length i3 (i3 : Int) (by kernel_rfl) rfl (by omega) (by kernel_rfl) ?_)
              refine R.ldI zs i3 (by kernel_rfl) (by omega) (by kernel_rfl) ?_
              refine R.go 1 (R.ar ((i3 : Int) + 1) (by kernel_rfl) (by omega) (by omega) (by kernel_rfl) ?_)
              refine R.call true (l01Full_c ((i3 : Int) + 1) (by first | omega | (simp only [refI_len, wout_len]; omega) | (simp <;> omega)) (by first | omega | (simp only [refI_len, wout_len]; omega) | (simp <;> omega))) (by kernel_rfl) rfl (by kernel_rfl) ?_
              refine R.go 1 (R.idxO 6 1 zs.length i3 (i3 : Int) (by kernel_rfl) rfl (by omega) (by kernel_rfl) ?_)
              refine R.stI 6 2 zs i3 (bnot (zs.getD i3 0) ((shl64 1 ((i3 : Int) + 1)) - 1)) (by kernel_rfl) (by omega) (by kernel_rfl) ?_
              refine R.go 4 (R.ar ((i3 : Int) + 1) (by kernel_rfl) (by omega) (by omega) (by kernel_rfl) ?_)
              exact R.go 2 (R.stop R35 (by kernel_rfl) (N36 (i3 + 1, zs.set i3 (bnot (zs.getD i3 0) ((shl64 1 ((i3 : Int) + 1)) - 1))) [4, 5, 6, 11] none _ (by kernel_rfl) (by kernel_rfl) ⟨(by omega), (by (simp <;> omega))⟩ (by show ((v_1 - (i3 + 1)).toNat) < ((v_1 - i3).toNat); omega)))
            · refine R.go 5 (R.call false (l05Make_c zs (by first | omega | (simp only [refI_len, wout_len]; omega) | (simp <;> omega))) (by kernel_rfl) (by simp [AV.closed, closedL, AI, ownA_closed eI_closed]) (by kernel_rfl) ?_)
              refine R.go 2 (R.frz 7 (by kernel_rfl) ?_)
              refine R.kfix 4 (us := usC) (by kernel_rfl) (hfC.frz 7 (LI zs) (Nat.le_of_ble_eq_true (by kernel_rfl))) ?_
              exact R.retX (res := .agg [AI zs.length, LI zs]) (hp' := [.box 98 [LB c, AI (p1_28 : Int), .int .u64 h1_29], .list eo1 so1 no1 co1, .list eo2 so2 no2 co2, .list eo3 so3 no3 co3, .dead, .box 32 [AI zs.length, LI zs], rowA eI 2 1 zs, .dead]) (by kernel_rfl) (by kernel_rfl) (by kernel_rfl) (by kernel_rfl) ⟨[0, 1, 2, 3], by kernel_rfl, by decide, zs.length, zs, p1_28, h1_29, by first | omega | (simp only [refI_len, wout_len]; done) | (simp only [refI_len, wout_len]; omega), by first | omega | (simp only [refI_len, wout_len]; done) | (simp only [refI_len, wout_len]; omega), by kernel_rfl, by kernel_rfl⟩
          · refine R.go 5 (R.cond (v_27 = 4) (by kernel_rfl) (fun c40 => ?_) (fun c40 => ?_))
            · refine R.go 6 (R.loop ((fun | (i4, zs) => (⟨(frm 101 [(4, .ptr 5 0), (5, AI v_1), (6, .ref 6), (12, AI (i4 : Int))]), [.box 98 [LB c, AI (p1_28 : Int), .int .u64 h1_29], .list eo1 so1 no1 co1, .list eo2 so2 no2 co2, .list eo3 so3 no3 co3, .frame usC frC, .box 32 [AI 0, .nil], rowA eI 2 1 zs]⟩ : St) : Nat × (List Int) → St)) (fun | (i4, zs) => ((i4 : Int) ≤ v_1) ∧ ((zs.length : Int) = v_1)) (fun | (i4, zs) => (v_1 - i4).toNat) (0, ys) [4, 5, 6, 12] none (by kernel_rfl) (by kernel_rfl) (by kernel_rfl) ⟨(by omega), (by omega)⟩ ?_)
              rintro ⟨i4, zs⟩ ⟨h44_1, h44_2⟩ R41 N42
              refine R.go 7 (R.cond ((i4 : Int) < v_1) (by kernel_rfl) (fun c45 => ?_) (fun c45 => ?_))
              · refine R.go 8 (R.idxO 6 1 zs.length i4 (i4 : Int) (by kernel_rfl) rfl (by omega) (by kernel_rfl) ?_)
                refine R.ldI zs i4 (by kernel_rfl) (by omega) (by kernel_rfl) ?_
                refine R.go 1 (R.ar ((i4 : Int) + 1) (by kernel_rfl) (by omega) (by omega) (by kernel_rfl) ?_)
                refine R.call true (l01Full_c ((i4 : Int) + 1) (by first | omega | (simp only [refI_len, wout_len]; omega) | (simp <;> omega)) (by first | omega | (simp only [refI_len, wout_len]; omega) | (simp <;> omega))) (by kernel_rfl) rfl (by kernel_rfl) ?_
                refine R.go 1 (R.idxO 6 1 zs.length i4 (i4 : Int) (by kernel_rfl) rfl (by omega) (by kernel_rfl) ?_)
                refine R.stI 6 2 zs i4 (bnot (zs.getD i4 0) ((shl64 1 ((i4 : Int) + 1)) - 1)) (by kernel_rfl) (by omega) (by kernel_rfl) ?_
                refine R.go 4 (R.ar ((i4 : Int) + 1) (by kernel_rfl) (by omega) (by omega) (by kernel_rfl) ?_)
                exact R.go 2 (R.stop R41 (by kernel_rfl) (N42 (i4 + 1, zs.set i4 (bnot (zs.getD i4 0) ((shl64 1 ((i4 : Int) + 1)) - 1))) [4, 5, 6, 12] none _ (by kernel_rfl) (by kernel_rfl) ⟨(by omega), (by (simp <;> omega))⟩ (by show ((v_1 - (i4 + 1)).toNat) < ((v_1 - i4).toNat); omega)))
              · refine R.go 3 (R.call false (l01Clos_c zs (by first | omega | (simp only [refI_len, wout_len]; omega) | (simp <;> omega))) (by kernel_rfl) (ownA_closed eI_closed 2 1 (wout zs zs.length)) (by kernel_rfl) ?_)
                refine R.go 6 (R.call false (l05Make_c (wout zs zs.length) (by first | omega | (simp only [refI_len, wout_len]; omega) | (simp <;> omega))) (by kernel_rfl) (by simp [AV.closed, closedL, AI, ownA_closed eI_closed]) (by kernel_rfl) ?_)
                refine R.go 2 (R.frz 8 (by kernel_rfl) ?_)
                refine R.kfix 4 (us := usC) (by kernel_rfl) (hfC.frz 8 (LI (wout zs zs.length)) (Nat.le_of_ble_eq_true (by kernel_rfl))) ?_
                exact R.retX (res := .agg [AI ((wout zs zs.length).length), LI (wout zs zs.length)]) (hp' := [.box 98 [LB c, AI (p1_28 : Int), .int .u64 h1_29], .list eo1 so1 no1 co1, .list eo2 so2 no2 co2, .list eo3 so3 no3 co3, .dead, .box 32 [AI ((wout zs zs.length).length), LI (wout zs zs.length)], rowA eI 2 1 zs, rowA eI 2 1 (wout zs zs.length), .dead]) (by kernel_rfl) (by kernel_rfl) (by kernel_rfl) (by kernel_rfl) ⟨[0, 1, 2, 3], by kernel_rfl, by decide, (wout zs zs.length).length, wout zs zs.length, p1_28, h1_29, by first | omega | (simp only [refI_len, wout_len]; done) | (simp only [refI_len, wout_len]; omega), by first | omega | (simp only [refI_len, wout_len]; done) | (simp only [refI_len, wout_len]; omega), by kernel_rfl, by kernel_rfl⟩
            · refine R.go 5 (R.call false (l05Make_c ys (by first | omega | (simp only [refI_len, wout_len]; omega) | (simp <;> omega))) (by kernel_rfl) (by simp [AV.closed, closedL, AI, ownA_closed eI_closed]) (by kernel_rfl) ?_)
              refine R.go 2 (R.frz 7 (by kernel_rfl) ?_)
              refine R.kfix 4 (us := usC) (by kernel_rfl) (hfC.frz 7 (LI ys) (Nat.le_of_ble_eq_true (by kernel_rfl))) ?_
              exact R.retX (res := .agg [AI ys.length, LI ys]) (hp' := [.box 98 [LB c, AI (p1_28 : Int), .int .u64 h1_29], .list eo1 so1 no1 co1, .list eo2 so2 no2 co2, .list eo3 so3 no3 co3, .dead, .box 32 [AI ys.length, LI ys], rowA eI 2 1 ys, .dead]) (by kernel_rfl) (by kernel_rfl) (by kernel_rfl) (by kernel_rfl) ⟨[0, 1, 2, 3], by kernel_rfl, by decide, ys.length, ys, p1_28, h1_29, by first | omega | (simp only [refI_len, wout_len]; done) | (simp only [refI_len, wout_len]; omega), by first | omega | (simp only [refI_len, wout_len]; done) | (simp only [refI_len, wout_len]; omega), by kernel_rfl, by kernel_rfl⟩

theorem someO_c_r4 (c : List Int) (p : Nat) (h : Int) (worlds : Int) (eo1 : Nat) (so1 : Nat) (no1 : Nat) (co1 : List AV) (eo2 : Nat) (so2 : Nat) (no2 : Nat) (co2 : List AV) (eo3 : Nat) (so3 : Nat) (no3 : Nat) (co3 : List AV) (eo4 : Nat) (so4 : Nat) (no4 : Nat) (co4 : List AV) (hc : BY c) (hw : 0 ≤ worlds ∧ worlds ≤ 20) : CallX Try.prog 92 [.ptr 0 0, AI worlds] [.box 98 [LB c, AI (p : Int), .int .u64 h], .list eo1 so1 no1 co1, .list eo2 so2 no2 co2, .list eo3 so3 no3 co3, .list eo4 so4 no4 co4] (fun (resX : AV) (objX : List AObj) => ∃ n : Int, ∃ xs : List Int, ∃ p1 : Nat, ∃ h1 : Int, (0 ≤ n ∧ n ≤ worlds) ∧ ((xs.length : Int) = n) ∧ resX = .agg [AI n, .ref 5] ∧ objX = [.box 98 [LB c, AI (p1 : Int), .int .u64 h1], .list eo1 so1 no1 co1, .list eo2 so2 no2 co2, .list eo3 so3 no3 co3, .list eo4 so4 no4 co4, rowA eI 2 1 xs]) := by
  have hcl : c.length ≤ 4096 := hc.1
  have hcb := hc.2
  refine CallX.dropE (CallX.ofF Try.func92 rfl (by kernel_rfl) ?_)
  intro usC frC hfC
  refine R.go 8 (R.ar (worlds + 1) (by kernel_rfl) (by omega) (by omega) (by kernel_rfl) ?_)
  refine R.callX (CallX.inF 5 usC frC (CallX.box 5 32 [AI 0, .nil] (nextX_c_r5 c p h (worlds + 1) eo1 so1 no1 co1 eo2 so2 no2 co2 eo3 so3 no3 co3 eo4 so4 no4 co4 32 2 1 [AI 0, .nil] hc) (by kernel_rfl) (by kernel_rfl) (by kernel_rfl) (by kernel_rfl) (by rintro _ _ ⟨_, _, _, _, rfl, rfl⟩; exact ⟨by kernel_rfl, by kernel_rfl, by kernel_rfl⟩)) (Nat.le_of_ble_eq_true (by kernel_rfl)) (by kernel_rfl) (by kernel_rfl) (by rintro _ _ ⟨_, ⟨_, _, _, _, rfl, rfl⟩, rfl⟩; exact Nat.le_of_ble_eq_true (by kernel_rfl))) (by kernel_rfl) (by kernel_rfl) (by kernel_rfl) ?_
  rintro _ _ ⟨_, _, ⟨_, ⟨v_1, p1_2, h1_3, f4, rfl, rfl⟩, rfl⟩, rfl, rfl⟩
  refine R.go 10 (R.callX (CallX.inF 5 usC frC (CallX.box 5 32 [AI 0, .nil] (nextX_c_r6 c p1_2 h1_3 3 eo1 so1 no1 co1 eo2 so2 no2 co2 eo3 so3 no3 co3 eo4 so4 no4 co4 32 2 1 [AI 0, .nil] 2 1 0 (rows eI []) hc) (by kernel_rfl) (by kernel_rfl) (by kernel_rfl) (by kernel_rfl) (by rintro _ _ ⟨_, _, _, _, rfl, rfl⟩; exact ⟨by kernel_rfl, by kernel_rfl, by kernel_rfl⟩)) (Nat.le_of_ble_eq_true (by kernel_rfl)) (by kernel_rfl) (by kernel_rfl) (by rintro _ _ ⟨_, ⟨_, _, _, _, rfl, rfl⟩, rfl⟩; exact Nat.le_of_ble_eq_true (by kernel_rfl))) (by kernel_rfl) (by kernel_rfl) (by kernel_rfl) ?_)
  rintro _ _ ⟨_, _, ⟨_, ⟨v_5, p1_6, h1_7, f8, rfl, rfl⟩, rfl⟩, rfl, rfl⟩
  refine R.go 8 (R.loop ((fun | (i, ys, q, k) => (⟨(frm 101 [(0, .ptr 0 0), (4, .ptr 6 0), (5, AI v_1), (6, .ref 7), (7, AI v_5), (8, AI (i : Int))]), [.box 98 [LB c, AI (q : Int), .int .u64 k], .list eo1 so1 no1 co1, .list eo2 so2 no2 co2, .list eo3 so3 no3 co3, .list eo4 so4 no4 co4, .frame usC frC, .box 32 [AI 0, .nil], rowA eI 2 1 ys]⟩ : St) : Nat × (List Int) × Nat × Int → St)) (fun | (i, ys, q, k) => ((i : Int) ≤ v_1) ∧ (ys.length = i)) (fun | (i, ys, q, k) => (v_1 - i).toNat) (0, [], p1_6, h1_7) [0, 4, 5, 6, 7, 8] none (by kernel_rfl) (by kernel_rfl) (by kernel_rfl) ⟨(by omega), (by rfl)⟩ ?_)
  rintro ⟨i, ys, q, k⟩ ⟨h12_1, h12_2⟩ R9 N10
  refine R.go 7 (R.cond ((i : Int) < v_1) (by kernel_rfl) (fun c13 => ?_) (fun c13 => ?_))
  · have hb : 1 ≤ shl64 1 v_1 ∧ shl64 1 v_1 ≤ 4611686018427387904 := shl_rng v_1 (by omega) (by omega)
    refine R.go 7 (R.call true (l01Full_c v_1 (by first | omega | (simp only [refI_len, wout_len]; omega) | (simp <;> omega)) (by first | omega | (simp only [refI_len, wout_len]; omega) | (simp <;> omega))) (by kernel_rfl) rfl (by kernel_rfl) ?_)
    refine R.ar (((shl64 1 v_1) - 1) + 1) (by kernel_rfl) (by omega) (by omega) (by kernel_rfl) ?_
    refine R.callX (CallX.inF 5 usC frC (CallX.box 5 32 [AI 0, .nil] (nextX_c_r6 c q k (((shl64 1 v_1) - 1) + 1) eo1 so1 no1 co1 eo2 so2 no2 co2 eo3 so3 no3 co3 eo4 so4 no4 co4 32 2 1 [AI 0, .nil] 2 1 ys.length (rows eI ys) hc) (by kernel_rfl) (by kernel_rfl) (by kernel_rfl) (by kernel_rfl) (by rintro _ _ ⟨_, _, _, _, rfl, rfl⟩; exact ⟨by kernel_rfl, by kernel_rfl, by kernel_rfl⟩)) (Nat.le_of_ble_eq_true (by kernel_rfl)) (by kernel_rfl) (by kernel_rfl) (by rintro _ _ ⟨_, ⟨_, _, _, _, rfl, rfl⟩, rfl⟩; exact Nat.le_of_ble_eq_true (by kernel_rfl))) (by kernel_rfl) (by kernel_rfl) (by kernel_rfl) ?_
    rintro _ _ ⟨_, _, ⟨_, ⟨v_14, p1_15, h1_16, f17, rfl, rfl⟩, rfl⟩, rfl, rfl⟩
    refine R.go 8 (R.loop ((fun | (j, m, q2, k2) => (⟨(frm 101 [(0, .ptr 0 0), (4, .ptr 6 0), (5, AI v_1), (6, .ref 7), (7, AI v_5), (8, AI (i : Int)), (9, AI m), (10, AI (j : Int))]), [.box 98 [LB c, AI (q2 : Int), .int .u64 k2], .list eo1 so1 no1 co1, .list eo2 so2 no2 co2, .list eo3 so3 no3 co3, .list eo4 so4 no4 co4, .frame usC frC, .box 32 [AI 0, .nil], rowA eI 2 1 ys]⟩ : St) : Nat × Int × Nat × Int → St)) (fun | (j, m, q2, k2) => True) (fun | (j, m, q2, k2) => (v_5 - j).toNat) (0, v_14, p1_15, h1_16) [0, 4, 5, 6, 7, 8, 9, 10] none (by kernel_rfl) (by kernel_rfl) (by kernel_rfl) trivial ?_)
    rintro ⟨j, m, q2, k2⟩ _ R18 N19
    refine R.go 7 (R.cond ((j : Int) < v_5) (by kernel_rfl) (fun c22 => ?_) (fun c22 => ?_))
    · refine R.go 7 (R.call true (l01Full_c v_1 (by first | omega | (simp only [refI_len, wout_len]; omega) | (simp <;> omega)) (by first | omega | (simp only [refI_len, wout_len]; omega) | (simp <;> omega))) (by kernel_rfl) rfl (by kernel_rfl) ?_)
      refine R.ar (((shl64 1 v_1) - 1) + 1) (by kernel_rfl) (by omega) (by omega) (by kernel_rfl) ?_
      refine R.callX (CallX.inF 5 usC frC (CallX.box 5 32 [AI 0, .nil] (nextX_c_r6 c q2 k2 (((shl64 1 v_1) - 1) + 1) eo1 so1 no1 co1 eo2 so2 no2 co2 eo3 so3 no3 co3 eo4 so4 no4 co4 32 2 1 [AI 0, .nil] 2 1 ys.length (rows eI ys) hc) (by kernel_rfl) (by kernel_rfl) (by kernel_rfl) (by kernel_rfl) (by rintro _ _ ⟨_, _, _, _, rfl, rfl⟩; exact ⟨by kernel_rfl, by kernel_rfl, by kernel_rfl⟩)) (Nat.le_of_ble_eq_true (by kernel_rfl)) (by kernel_rfl) (by kernel_rfl) (by rintro _ _ ⟨_, ⟨_, _, _, _, rfl, rfl⟩, rfl⟩; exact Nat.le_of_ble_eq_true (by kernel_rfl))) (by kernel_rfl) (by kernel_rfl) (by kernel_rfl) ?_
      rintro _ _ ⟨_, _, ⟨_, ⟨v_23, p1_24, h1_25, f26, rfl, rfl⟩, rfl⟩, rfl, rfl⟩
      refine R.go 6 (R.ar ((j : Int) + 1) (by kernel_rfl) (by omega) (by omega) (by kernel_rfl) ?_)
      exact R.go 2 (R.stop R18 (by kernel_rfl) (N19 (j + 1, band m v_23, p1_24, h1_25) [0, 4, 5, 6, 7, 8, 9, 10] none _ (by kernel_rfl) (by kernel_rfl) trivial (by show ((v_5 - (j + 1)).toNat) < ((v_5 - j).toNat); omega)))
    · refine R.go 5 (R.app eI ys [m] 7 2 1 8 (by kernel_rfl) eI_one (by decide) (by first | omega | (simp <;> omega)) (by kernel_rfl) ?_)
      refine R.kfix 5 (us := usC) (by kernel_rfl) (hfC.kill 7 (Nat.le_of_ble_eq_true (by kernel_rfl))) ?_
      refine R.go 5 (R.ar ((i : Int) + 1) (by kernel_rfl) (by omega) (by omega) (by kernel_rfl) ?_)
      exact R.go 2 (R.stop R9 (by kernel_rfl) (N10 (i + 1, ys ++ [m], q2, k2) [0, 4, 5, 6, 7, 8] (some [0, 1, 2, 3, 4, 5, 6, 7]) _ (by kernel_rfl) (canonF (fr := frC) (fun (frX : List AV) => (⟨(frm 101 [(0, .ptr 0 0), (4, .ptr 6 0), (5, AI v_1), (6, .ref 7), (7, AI v_5), (8, AI ((i : Int) + 1))]), [.box 98 [LB c, AI (q2 : Int), .int .u64 k2], .list eo1 so1 no1 co1, .list eo2 so2 no2 co2, .list eo3 so3 no3 co3, .list eo4 so4 no4 co4, .frame usC frX, .box 32 [AI 0, .nil], rowA eI 2 1 (ys ++ [m])]⟩ : St)) (hfC.ren _ (by kernel_rfl)) (by kernel_rfl) (by kernel_rfl)) ⟨(by omega), (by (simp <;> omega))⟩ (by show ((v_1 - (i + 1)).toNat) < ((v_1 - i).toNat); omega)))
  · refine R.go 5 (R.callX (CallX.inF 5 usC frC (CallX.box 5 32 [AI 0, .nil] (nextX_c_r6 c q k 8 eo1 so1 no1 co1 eo2 so2 no2 co2 eo3 so3 no3 co3 eo4 so4 no4 co4 32 2 1 [AI 0, .nil] 2 1 ys.length (rows eI ys) hc) (by kernel_rfl) (by kernel_rfl) (by kernel_rfl) (by kernel_rfl) (by rintro _ _ ⟨_, _, _, _, rfl, rfl⟩; exact ⟨by kernel_rfl, by kernel_rfl, by kernel_rfl⟩)) (Nat.le_of_ble_eq_true (by kernel_rfl)) (by kernel_rfl) (by kernel_rfl) (by rintro _ _ ⟨_, ⟨_, _, _, _, rfl, rfl⟩, rfl⟩; exact Nat.le_of_ble_eq_true (by kernel_rfl))) (by kernel_rfl) (by kernel_rfl) (by kernel_rfl) ?_)
    rintro _ _ ⟨_, _, ⟨_, ⟨v_27, p1_28, h1_29, f30, rfl, rfl⟩, rfl⟩, rfl, rfl⟩
    refine R.go 7 (R.cond (v_27 = 0) (by kernel_rfl) (fun c31 => ?_) (fun c31 => ?_))
    · refine R.go 2 (R.call false (l01Refl_c ys (by first | omega | (simp only [refI_len, wout_len]; omega) | (simp <;> omega))) (by kernel_rfl) (ownA_closed eI_closed 2 1 (refI ys ys.length)) (by kernel_rfl) ?_)
      refine R.go 6 (R.call false (l05Make_c (refI ys ys.length) (by first | omega | (simp only [refI_len, wout_len]; omega) | (simp <;> omega))) (by kernel_rfl) (by simp [AV.closed, closedL, AI, ownA_closed eI_closed]) (by kernel_rfl) ?_)
      exact R.go 2 (R.retX (res := .agg [AI ((refI ys ys.length).length), .ref 9]) (hp' := [.box 98 [LB c, AI (p1_28 : Int), .int .u64 h1_29], .list eo1 so1 no1 co1, .list eo2 so2 no2 co2, .list eo3 so3 no3 co3, .list eo4 so4 no4 co4, .dead, .box 32 [AI ((refI ys ys.length).length), .ref 9], rowA eI 2 1 ys, rowA eI 2 1 (refI ys ys.length), rowA eI 2 1 (refI ys ys.length)]) (by kernel_rfl) (by kernel_rfl) (by kernel_rfl) (by kernel_rfl) ⟨[0, 1, 2, 3, 4, 9], by kernel_rfl, by decide, (refI ys ys.length).length, refI ys ys.length, p1_28, h1_29, by first | omega | (simp only [refI_len, wout_len]; done) | (simp only [refI_len, wout_len]; omega), by first | omega | (simp only [refI_len, wout_len]; done) | (simp only [refI_len, wout_len]; omega), by kernel_rfl, by kernel_rfl⟩)
    · refine R.go 5 (R.cond (v_27 = 1) (by kernel_rfl) (fun c32 => ?_) (fun c32 => ?_))
      · refine R.go 2 (R.call false (l01Clos_c ys (by first | omega | (simp only [refI_len, wout_len]; omega) | (simp <;> omega))) (by kernel_rfl) (ownA_closed eI_closed 2 1 (wout ys ys.length)) (by kernel_rfl) ?_)
        refine R.go 6 (R.call false (l05Make_c (wout ys ys.length) (by first | omega | (simp only [refI_len, wout_len]; omega) | (simp <;> omega))) (by kernel_rfl) (by simp [AV.closed, closedL, AI, ownA_closed eI_closed]) (by kernel_rfl) ?_)
        exact R.go 2 (R.retX (res := .agg [AI ((wout ys ys.length).length), .ref 9]) (hp' := [.box 98 [LB c, AI (p1_28 : Int), .int .u64 h1_29], .list eo1 so1 no1 co1, .list eo2 so2 no2 co2, .list eo3 so3 no3 co3, .list eo4 so4 no4 co4, .dead, .box 32 [AI ((wout ys ys.length).length), .ref 9], rowA eI 2 1 ys, rowA eI 2 1 (wout ys ys.length), rowA eI 2 1 (wout ys ys.length)]) (by kernel_rfl) (by kernel_rfl) (by kernel_rfl) (by kernel_rfl) ⟨[0, 1, 2, 3, 4, 9], by kernel_rfl, by decide, (wout ys ys.length).length, wout ys ys.length, p1_28, h1_29, by first | omega | (simp only [refI_len, wout_len]; done) | (simp only [refI_len, wout_len]; omega), by first | omega | (simp only [refI_len, wout_len]; done) | (simp only [refI_len, wout_len]; omega), by kernel_rfl, by kernel_rfl⟩)
      · refine R.go 5 (R.cond (v_27 = 2) (by kernel_rfl) (fun c33 => ?_) (fun c33 => ?_))
        · refine R.go 2 (R.call false (l01Clos_c ys (by first | omega | (simp only [refI_len, wout_len]; omega) | (simp <;> omega))) (by kernel_rfl) (ownA_closed eI_closed 2 1 (wout ys ys.length)) (by kernel_rfl) ?_)
          refine R.call false (l01Refl_c (wout ys ys.length) (by first | omega | (simp only [refI_len, wout_len]; omega) | (simp <;> omega))) (by kernel_rfl) (ownA_closed eI_closed 2 1 (refI (wout ys ys.length) (wout ys ys.length).length)) (by kernel_rfl) ?_
          refine R.go 6 (R.call false (l05Make_c (refI (wout ys ys.length) (wout ys ys.length).length) (by first | omega | (simp only [refI_len, wout_len]; omega) | (simp <;> omega))) (by kernel_rfl) (by simp [AV.closed, closedL, AI, ownA_closed eI_closed]) (by kernel_rfl) ?_)
          exact R.go 2 (R.retX (res := .agg [AI ((refI (wout ys ys.length) (wout ys ys.length).length).length), .ref 10]) (hp' := [.box 98 [LB c, AI (p1_28 : Int), .int .u64 h1_29], .list eo1 so1 no1 co1, .list eo2 so2 no2 co2, .list eo3 so3 no3 co3, .list eo4 so4 no4 co4, .dead, .box 32 [AI ((refI (wout ys ys.length) (wout ys ys.length).length).length), .ref 10], rowA eI 2 1 ys, rowA eI 2 1 (wout ys ys.length), rowA eI 2 1 (refI (wout ys ys.length) (wout ys ys.length).length), rowA eI 2 1 (refI (wout ys ys.length) (wout ys ys.length).length)]) (by kernel_rfl) (by kernel_rfl) (by kernel_rfl) (by kernel_rfl) ⟨[0, 1, 2, 3, 4, 10], by kernel_rfl, by decide, (refI (wout ys ys.length) (wout ys ys.length).length).length, refI (wout ys ys.length) (wout ys ys.length).length, p1_28, h1_29, by first | omega | (simp only [refI_len, wout_len]; done) | (simp only [refI_len, wout_len]; omega), by first | omega | (simp only [refI_len, wout_len]; done) | (simp only [refI_len, wout_len]; omega), by kernel_rfl, by kernel_rfl⟩)
        · refine R.go 5 (R.cond (v_27 = 3) (by kernel_rfl) (fun c34 => ?_) (fun c34 => ?_))
          · refine R.go 5 (R.loop ((fun | (i3, zs) => (⟨(frm 101 [(4, .ptr 6 0), (5, AI v_1), (6, .ref 7), (11, AI (i3 : Int))]), [.box 98 [LB c, AI (p1_28 : Int), .int .u64 h1_29], .list eo1 so1 no1 co1, .list eo2 so2 no2 co2, .list eo3 so3 no3 co3, .list eo4 so4 no4 co4, .frame usC frC, .box 32 [AI 0, .nil], rowA eI 2 1 zs]⟩ : St) : Nat × (List Int) → St)) (fun | (i3, zs) => ((i3 : Int) ≤ v_1) ∧ ((zs.length : Int) = v_1)) (fun | (i3, zs) => (v_1 - i3).toNat) (0, ys) [4, 5, 6, 11] none (by kernel_rfl) (by kernel_rfl) (by kernel_rfl) ⟨(by omega), (by omega)⟩ ?_)
            rintro ⟨i3, zs⟩ ⟨h38_1, h38_2⟩ R35 N36
            refine R.go 7 (R.cond ((i3 : Int) < v_1) (by kernel_rfl) (fun c39 => ?_) (fun c39 => ?_))
            · refine R.go 8 (R.idxO 7 1 zs.length i3 (i3 : Int) (by kernel_rfl) rfl (by omega) (by kernel_rfl) ?_)
              refine R.ldI zs i3 (by kernel_rfl) (by omega) (by kernel_rfl) ?_
              refine R.go 1 (R.ar ((i3 : Int) + 1) (by kernel_rfl) (by omega) (by omega) (by kernel_rfl) ?_)
              refine R.call true (l01Full_c ((i3 : Int) + 1) (by first | omega | (simp only [refI_len, wout_len]; omega) | (simp <;> omega)) (by first | omega | (simp only [refI_len, wout_len]; omega) | (simp <;> omega))) (by kernel_rfl) rfl (by kernel_rfl) ?_
              refine R.go 1 (R.idxO 7 1 zs.length i3 (i3 : Int) (by kernel_rfl) rfl (by omega) (by kernel_rfl) ?_)
              refine R.stI 7 2 zs i3 (bnot (zs.getD i3 0) ((shl64 1 ((i3 : Int) + 1)) - 1)) (by kernel_rfl) (by omega) (by kernel_rfl) ?_
              refine R.go 4 (R.ar ((i3 : Int) + 1) (by kernel_rfl) (by omega) (by omega) (by kernel_rfl) ?_)
              exact R.go 2 (R.stop R35 (by kernel_rfl) (N36 (i3 + 1, zs.set i3 (bnot (zs.getD i3 0) ((shl64 1 ((i3 : Int) + 1)) - 1))) [4, 5, 6, 11] none _ (by kernel_rfl) (by kernel_rfl) ⟨(by omega), (by (simp <;> omega))⟩ (by show ((v_1 - (i3 + 1)).toNat) < ((v_1 - i3).toNat); omega)))
            · refine R.go 5 (R.call false (l05Make_c zs (by first | omega | (simp only [refI_len, wout_len]; omega) | (simp <;> omega))) (by kernel_rfl) (by simp [AV.closed, closedL, AI, ownA_closed eI_closed]) (by kernel_rfl) ?_)
              exact R.go 2 (R.retX (res := .agg [AI zs.length, .ref 8]) (hp' := [.box 98 [LB c, AI (p1_28 : Int), .int .u64 h1_29], .list eo1 so1 no1 co1, .list eo2 so2 no2 co2, .list eo3 so3 no3 co3, .list eo4 so4 no4 co4, .dead, .box 32 [AI zs.length, .ref 8], rowA eI 2 1 zs, rowA eI 2 1 zs]) (by kernel_rfl) (by kernel_rfl) (by kernel_rfl) (by kernel_rfl) ⟨[0, 1, 2, 3, 4, 8], by kernel_rfl, by decide, zs.length, zs, p1_28, h1_29, by first | omega | (simp only [refI_len, wout_len]; done) | (simp only [refI_len, wout_len]; omega), by first | omega | (simp only [refI_len, wout_len]; done) | (simp only [refI_len, wout_len]; omega), by kernel_rfl, by kernel_rfl⟩)
          · refine R.go 5 (R.cond (v_27 = 4) (by kernel_rfl) (fun c40 => ?_) (fun c40 => ?_))
            · refine R.go 6 (R.loop ((fun | (i4, zs) => (⟨(frm 101 [(4, .ptr 6 0), (5, AI v_1), (6, .ref 7), (12, AI (i4 : Int))]), [.box 98 [LB c, AI (p1_28 : Int), .int .u64 h1_29], .list eo1 so1 no1 co1, .list eo2 so2 no2 co2, .list eo3 so3 no3 co3, .list eo4 so4 no4 co4, .frame usC frC, .box 32 [AI 0, .nil], rowA eI 2 1 zs]⟩ : St) : Nat × (List Int) → St)) (fun | (i4, zs) => ((i4 : Int) ≤ v_1) ∧ ((zs.length : Int) = v_1)) (fun | (i4, zs) => (v_1 - i4).toNat) (0, ys) [4, 5, 6, 12] none (by kernel_rfl) (by kernel_rfl) (by kernel_rfl) ⟨(by omega), (by omega)⟩ ?_)
              rintro ⟨i4, zs⟩ ⟨h44_1, h44_2⟩ R41 N42
              refine R.go 7 (R.cond ((i4 : Int) < v_1) (by kernel_rfl) (fun c45 => ?_) (fun c45 => ?_))
              · refine R.go 8 (R.idxO 7 1 zs.length i4 (i4 : Int) (by kernel_rfl) rfl (by omega) (by kernel_rfl) ?_)
                refine R.ldI zs i4 (by kernel_rfl) (by omega) (by kernel_rfl) ?_
                refine R.go 1 (R.ar ((i4 : Int) + 1) (by kernel_rfl) (by omega) (by omega) (by kernel_rfl) ?_)
                refine R.call true (l01Full_c ((i4 : Int) + 1) (by first | omega | (simp only [refI_len, wout_len]; omega) | (simp <;> omega)) (by first | omega | (simp only [refI_len, wout_len]; omega) | (simp <;> omega))) (by kernel_rfl) rfl (by kernel_rfl) ?_
                refine R.go 1 (R.idxO 7 1 zs.length i4 (i4 : Int) (by kernel_rfl) rfl (by omega) (by kernel_rfl) ?_)
                refine R.stI 7 2 zs i4 (bnot (zs.getD i4 0) ((shl64 1 ((i4 : Int) + 1)) - 1)) (by kernel_rfl) (by omega) (by kernel_rfl) ?_
                refine R.go 4 (R.ar ((i4 : Int) + 1) (by kernel_rfl) (by omega) (by omega) (by kernel_rfl) ?_)
                exact R.go 2 (R.stop R41 (by kernel_rfl) (N42 (i4 + 1, zs.set i4 (bnot (zs.getD i4 0) ((shl64 1 ((i4 : Int) + 1)) - 1))) [4, 5, 6, 12] none _ (by kernel_rfl) (by kernel_rfl) ⟨(by omega), (by (simp <;> omega))⟩ (by show ((v_1 - (i4 + 1)).toNat) < ((v_1 - i4).toNat); omega)))
              · refine R.go 3 (R.call false (l01Clos_c zs (by first | omega | (simp only [refI_len, wout_len]; omega) | (simp <;> omega))) (by kernel_rfl) (ownA_closed eI_closed 2 1 (wout zs zs.length)) (by kernel_rfl) ?_)
                refine R.go 6 (R.call false (l05Make_c (wout zs zs.length) (by first | omega | (simp only [refI_len, wout_len]; omega) | (simp <;> omega))) (by kernel_rfl) (by simp [AV.closed, closedL, AI, ownA_closed eI_closed]) (by kernel_rfl) ?_)
                exact R.go 2 (R.retX (res := .agg [AI ((wout zs zs.length).length), .ref 9]) (hp' := [.box 98 [LB c, AI (p1_28 : Int), .int .u64 h1_29], .list eo1 so1 no1 co1, .list eo2 so2 no2 co2, .list eo3 so3 no3 co3, .list eo4 so4 no4 co4, .dead, .box 32 [AI ((wout zs zs.length).length), .ref 9], rowA eI 2 1 zs, rowA eI 2 1 (wout zs zs.length), rowA eI 2 1 (wout zs zs.length)]) (by kernel_rfl) (by kernel_rfl) (by kernel_rfl) (by kernel_rfl) ⟨[0, 1, 2, 3, 4, 9], by kernel_rfl, by decide, (wout zs zs.length).length, wout zs zs.length, p1_28, h1_29, by first | omega | (simp only [refI_len, wout_len]; done) | (simp only [refI_len, wout_len]; omega), by first | omega | (simp only [refI_len, wout_len]; done) | (simp only [refI_len, wout_len]; omega), by kernel_rfl, by kernel_rfl⟩)
            · refine R.go 5 (R.call false (l05Make_c ys (by first | omega | (simp only [refI_len, wout_len]; omega) | (simp <;> omega))) (by kernel_rfl) (by simp [AV.closed, closedL, AI, ownA_closed eI_closed]) (by kernel_rfl) ?_)
              exact R.go 2 (R.retX (res := .agg [AI ys.length, .ref 8]) (hp' := [.box 98 [LB c, AI (p1_28 : Int), .int .u64 h1_29], .list eo1 so1 no1 co1, .list eo2 so2 no2 co2, .list eo3 so3 no3 co3, .list eo4 so4 no4 co4, .dead, .box 32 [AI ys.length, .ref 8], rowA eI 2 1 ys, rowA eI 2 1 ys]) (by kernel_rfl) (by kernel_rfl) (by kernel_rfl) (by kernel_rfl) ⟨[0, 1, 2, 3, 4, 8], by kernel_rfl, by decide, ys.length, ys, p1_28, h1_29, by first | omega | (simp only [refI_len, wout_len]; done) | (simp only [refI_len, wout_len]; omega), by first | omega | (simp only [refI_len, wout_len]; done) | (simp only [refI_len, wout_len]; omega), by kernel_rfl, by kernel_rfl⟩)

end Go.Proofs.Ytpalghbfhgimkaa


/-! Calls that need no object of the caller's, beside any objects. -/
namespace Go.Abs
open Go.RowKit

theorem zone_two {Z0 F F1 : Nat → Prop} {B C : Nat} (hBC : B ≤ C) (hF : ∀ b, F b → B ≤ b ∧ b < C) (hF1 : ∀ b, F1 b → C ≤ b) (b : Nat) : Zone Z0 (fun b => F b ∨ F1 b) B b ↔ Zone (Zone Z0 F B) F1 C b := by
  unfold Zone
  constructor
  · rintro (⟨h1, h2⟩ | ⟨h1, h2⟩)
    · exact .inl ⟨by omega, .inl ⟨h1, h2⟩⟩
    · rcases Nat.lt_or_ge b C with h | h
      · exact .inl ⟨h, .inr ⟨h1, fun hf => h2 (.inl hf)⟩⟩
      · exact .inr ⟨h, fun hf => h2 (.inr hf)⟩
  · rintro (⟨h1, h2 | h2⟩ | ⟨h1, h2⟩)
    · exact .inl h2
    · refine .inr ⟨h2.1, ?_⟩
      rintro (hf | hf)
      · exact h2.2 hf
      · have := hF1 b hf; omega
    · refine .inr ⟨by omega, ?_⟩
      rintro (hf | hf)
      · have := hF b hf; omega
      · exact h2 hf

section
variable {rd : Option Nat} {P : Program} {m : M} {Q : Exit → St → Prop}
theorem CallX.any {f : FuncId} {args : List AV} {Φ : AV → List AObj → Prop} (hp : List AObj) (hc : CallX P f args [] Φ) (hl : leafyL args = true) (hΦ : ∀ r h, Φ r h → h = []) : CallX P f args hp fun r h => h = hp ∧ Φ r [] := by
  obtain ⟨hen, hc⟩ := hc
  refine ⟨hen, ?_⟩
  intro Z0 F w0 w μ vs us fr hFb hH hvs hus hbel
  have hBC := hbel.size
  have zn : ∀ b, b < w.heap.size → (Zone (Zone Z0 F w0.heap.size) NoF w.heap.size b ↔ Zone Z0 F w0.heap.size b) := fun b hb => by
    unfold Zone NoF
    constructor
    · rintro (h | h)
      · exact h.2
      · omega
    · exact fun h => .inl ⟨hb, h⟩
  have hvs1 : RelL w (Zone (Zone Z0 F w0.heap.size) NoF w.heap.size) [] args vs := (RelL.leafy hl hvs).weak fun b hb h1 h2 => h1 ((zn b hb).1 h2)
  have h0 : HRel w (Zone (Zone Z0 F w0.heap.size) NoF w.heap.size) w.heap.size [] [] := ⟨rfl, fun i o u g h => by simp at h, fun i u h => by simp at h, fun i o u h => by simp at h, fun i j oi oj ui uj g _ h => by simp at h⟩
  refine (hc (Zone Z0 F w0.heap.size) NoF w w [] vs [] [] (fun b h => h.elim) h0 hvs1 RelL.nil (Below.refl _ _)).mono ?_
  rintro e w' ⟨v, μ', F1, res, hp', hΦ1, rfl, hF1, hH1, hres, _, hb1⟩
  have e1 := hΦ _ _ hΦ1
  subst e1
  have hm' : μ' = [] := List.eq_nil_of_length_eq_zero (by simpa using hH1.len)
  subst hm'
  have z2 := zone_two (Z0 := Z0) hBC hFb (fun b h => (hF1 b h).1)
  have hk : ∀ b, b < w.heap.size → w'.heap[b]? = w.heap[b]? := fun b hb => hb1.block b hb
  have hold : ∀ b, b < w'.heap.size → ¬ Zone Z0 F w0.heap.size b → ¬ Zone Z0 (fun b => F b ∨ F1 b) w0.heap.size b := by
    intro b _ h1 h2
    rcases Nat.lt_or_ge b w.heap.size with h | h
    · rcases (z2 b).1 h2 with h3 | h3
      · exact h1 h3.2
      · omega
    · exact h1 (.inr ⟨by omega, fun hf => by have := hFb b hf; omega⟩)
  refine ⟨v, μ, fun b => F b ∨ F1 b, res, hp, ⟨rfl, hΦ1⟩, rfl, ?_, ?_, ?_, ?_, hbel.trans (hb1.mono hBC)⟩
  · rintro b (h | h)
    · have := hFb b h; have := hb1.size; omega
    · have := hF1 b h; omega
  · refine ⟨hH.len, fun i o u g h1 ha h2 hg => ?_, hH.one, fun i o u h1 h2 => ?_, hH.sep⟩
    · have hz := hH.zone i o u g h1 ha h2 hg
      have hlt := ((hH.obj i o u h1 h2).blk_ge ha hg).2
      exact (z2 g).2 (.inl ⟨hlt, hz⟩)
    · have h3 := hH.obj i o u h1 h2
      cases ha : o.alive with
      | true => exact (h3.keep (w' := w') (fun b hb _ => hk b hb) (fun _ _ h => h) (fun g hg => hk g (h3.blk_ge ha hg).2)).weak hold
      | false => exact (h3.keep_dead (w' := w') (B' := w0.heap.size) (u' := u) (fun b hb _ => hk b hb) (fun _ _ h => h) ha).weak hold
  · exact Rel.lift (hres.weak fun b _ h1 h2 => h1 ((z2 b).1 h2))
  · exact (hus.keep (w' := w') (fun b hb _ => hk b hb) (fun _ _ h => h)).weak hold

end
end Go.Abs


/-! Ways that meet again in a family of states. -/
namespace Go.Abs
open Go.RowKit Go.ChangeShapes Go.WideShapes Go.Deep
section
variable {rd : Option Nat} {P : Program} {m : M} {Q : Exit → St → Prop}
def meetQF {α : Type} (I : α → Prop) (S : α → St) : Exit → St → Prop := fun e st => e = .normal ∧ ∃ a, I a ∧ st = S a
theorem np_meetF {α : Type} (I : α → Prop) (S : α → St) : NoPanic (meetQF I S) := fun _ _ h => by simp [meetQF] at h
theorem R.meetF {α : Type} (I : α → Prop) (S : α → St) (h : mtAt m = true) (h1 : Runs rd P ⟨m.ks.take 1, m.st⟩ (meetQF I S)) (h2 : ∀ a, I a → Runs rd P ⟨m.ks.tail, S a⟩ Q) : Runs rd P m Q := by
  obtain ⟨ks, st⟩ := m
  unfold mtAt at h
  simp only [runs_iff] at h h1 h2 ⊢
  split at h
  · rename_i c ks'
    simp only [List.take_succ_cons, List.take_zero, List.tail_cons, RunsK] at h1 h2 ⊢
    refine h1.mono ?_
    rintro e st' ⟨rfl, a, ha, rfl⟩
    exact h2 a ha
  · cases h
theorem R.metF {α : Type} {I : α → Prop} {S : α → St} (a : α) (h : m.ks = []) (hi : I a) (hs : m.st = S a) : Runs rd P m (meetQF I S) := by
  obtain ⟨ks, st⟩ := m
  simp only at h hs
  subst h hs
  rw [runs_iff]
  exact ⟨rfl, a, hi, rfl⟩
end
end Go.Abs
