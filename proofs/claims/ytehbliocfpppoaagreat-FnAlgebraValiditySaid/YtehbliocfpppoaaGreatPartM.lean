/- Texts of the proof: E03, Q15. -/
import Derived.Test.YtehbliocfpppoaaGreatPartL

/-! Draws of frames. -/
namespace Go.Proofs.YtehbliocfpppoaaGreat
open Go.RowKit Go.Abs
def refI (xs : List Int) : Nat → List Int
 | 0 => []
 | i + 1 => refI xs i ++ [bor (xs.getD i 0) (shl64 1 (i : Int))]
theorem refI_len (xs : List Int) : ∀ i, (refI xs i).length = i
 | 0 => rfl
 | i + 1 => by simp [refI, refI_len xs i]
theorem l05Make_c (xs : List Int) (hl : xs.length ≤ 1000000000) : CallA Tryz.prog 121 [LI xs] (.agg [AI xs.length, ownA eI 2 1 xs]) := by
 refine CallA.of Tryz.func121 rfl (by kernel_rfl) (R.go 9 (k15 true (l01Own_c xs hl) ?_))
 exact R.go 3 (k18 (.agg [AI xs.length, ownA eI 2 1 xs]) (by rfl))
theorem l01Refl_c (xs : List Int) (hl : xs.length ≤ 60) : CallA Tryz.prog 211 [LI xs] (ownA eI 2 1 (refI xs xs.length)) := by
 refine CallA.of Tryz.func211 rfl (by kernel_rfl) (R.go 15 (k16 ((fun | (i, ys) => (⟨(frm 23 [(0, LI xs), (3, .ref 0), (4, AI (i : Int))]), [rowA eI 2 1 ys]⟩ : St) : Nat × (List Int) → St)) (fun | (i, ys) => (i ≤ xs.length) ∧ (ys.length = i) ∧ (ys = refI xs i)) (fun | (i, ys) => xs.length - i) (0, []) [0, 3, 4] none ⟨(by omega), (by rfl), (by rfl)⟩ ?_))
 rintro ⟨i, ys⟩ ⟨h4_1, h4_2, h4_3⟩ R1 N2
 refine R.go 8 (k4 ((i : Int) < (xs.length : Int)) (fun c5 => ?_) (fun c5 => ?_))
 ·refine R.go 7 (k10 eI xs 0 i (i : Int) eI_len (R.go 2 (k15 true (l01One_c (i : Int) (by omega) (by omega)) (R.go 2 (k14 eI ys [bor (xs.getD i 0) (shl64 1 (i : Int))] 0 2 1 8 eI_one (R.go 5 (k1 ((i : Int) + 1) ?_)))))))
  exact R.go 2 (k17 R1 (N2 (i + 1, ys ++ [bor (xs.getD i 0) (shl64 1 (i : Int))]) [0, 3, 4] (some [0]) _ (by kernel_rfl) (by kernel_rfl) ⟨(by omega), (by (simp <;> omega)), (by rw [refI, ← ‹ys = refI xs i›])⟩ (by show (xs.length - (i + 1)) < (xs.length - i); omega)))
 exact R.go 6 (k18 (ownA eI 2 1 ys) (by first | (rw [‹ys = refI xs i›, show xs.length = i by omega]) | (exfalso; omega)))
theorem l01Clos_c (xs : List Int) (hl : xs.length ≤ 60) : CallA Tryz.prog 137 [LI xs] (ownA eI 2 1 (wout xs xs.length)) := by
 refine CallA.of Tryz.func137 rfl (by kernel_rfl) (R.go 7 (k15 true (l01Own_c xs (by first | omega | (simp <;> omega))) (R.go 8 (k16 ((fun | (j, out) => (⟨(frm 39 [(3, .ref 0), (4, AI (j : Int))]), [rowA eI 2 1 out]⟩ : St) : Nat × (List Int) → St)) (fun | (j, out) => (j ≤ xs.length) ∧ (out = wout xs j)) (fun | (j, out) => xs.length - j) (0, xs) [3, 4] none ⟨(by omega), (by rfl)⟩ ?_))))
 rintro ⟨j, out⟩ ⟨h4_1, h4_2⟩ R1 N2
 have hlen : out.length = xs.length := by rw [‹out = wout xs j›]; exact wout_len xs j
 refine R.go 8 (k4 ((j : Int) < (out.length : Int)) (fun c5 => ?_) (fun c5 => ?_))
 ·refine R.go 8 (k16 ((fun | (i, o2) => (⟨(frm 39 [(3, .ref 0), (4, AI (j : Int)), (5, AI (i : Int))]), [rowA eI 2 1 o2]⟩ : St) : Nat × (List Int) → St)) (fun | (i, o2) => (i ≤ xs.length) ∧ (o2 = win out j i)) (fun | (i, o2) => xs.length - i) (0, out) [3, 4, 5] none ⟨(by omega), (by rfl)⟩ ?_)
  rintro ⟨i, o2⟩ ⟨h9_1, h9_2⟩ R6 N7
  have hlen2 : o2.length = xs.length := by rw [‹o2 = win out j i›, win_len]; exact hlen
  refine R.go 8 (k4 ((i : Int) < (o2.length : Int)) (fun c10 => ?_) (fun c10 => ?_))
  ·refine R.go 7 (k11 0 1 o2.length i (i : Int) ?_ (hji := rfl))
   refine k12 o2 i (R.go 1 (k15 true (l01Bit_c (o2.getD i 0) (j : Int) (by omega) (by omega)) (R.go 1 (k4 (band (shr64 (o2.getD i 0) (j : Int)) 1 = 1) (fun c11 => ?_) (fun c11 => ?_)))))
   ·refine R.go 5 (k11 0 1 o2.length i (i : Int) ?_ (hji := rfl))
    refine k12 o2 i (R.go 2 (k11 0 1 o2.length j (j : Int) ?_ (hji := rfl)))
    refine k12 o2 j (R.go 1 (k11 0 1 o2.length i (i : Int) ?_ (hji := rfl)))
    refine k13 0 2 o2 i (bor (o2.getD i 0) (o2.getD j 0)) (R.go 4 (k1 ((i : Int) + 1) ?_))
    exact R.go 2 (k17 R6 (N7 (i + 1, o2.set i (bor (o2.getD i 0) (o2.getD j 0))) [3, 4, 5] none _ (by kernel_rfl) (by kernel_rfl) ⟨(by omega), (by first | (rw [win, wrow, ← ‹o2 = win out j i›, if_pos ‹band (shr64 (o2.getD i 0) (j : Int)) 1 = 1›]) | (rw [win, wrow, ← ‹o2 = win out j i›, if_neg ‹¬ band (shr64 (o2.getD i 0) (j : Int)) 1 = 1›]))⟩ (by show (xs.length - (i + 1)) < (xs.length - i); omega)))
   refine R.go 4 (k1 ((i : Int) + 1) ?_)
   exact R.go 2 (k17 R6 (N7 (i + 1, o2) [3, 4, 5] none _ (by kernel_rfl) (by kernel_rfl) ⟨(by omega), (by first | (rw [win, wrow, ← ‹o2 = win out j i›, if_pos ‹band (shr64 (o2.getD i 0) (j : Int)) 1 = 1›]) | (rw [win, wrow, ← ‹o2 = win out j i›, if_neg ‹¬ band (shr64 (o2.getD i 0) (j : Int)) 1 = 1›]))⟩ (by show (xs.length - (i + 1)) < (xs.length - i); omega)))
  refine R.go 4 (k1 ((j : Int) + 1) ?_)
  exact R.go 2 (k17 R1 (N2 (j + 1, o2) [3, 4] none _ (by kernel_rfl) (by kernel_rfl) ⟨(by omega), (by rw [wout, ← ‹out = wout xs j›, ← show i = xs.length by omega]; assumption)⟩ (by show (xs.length - (j + 1)) < (xs.length - j); omega)))
 exact R.go 6 (k18 (ownA eI 2 1 out) (by first | (rw [‹out = wout xs j›, show j = xs.length by omega]) | (exfalso; omega)))
theorem someX_c_r3 (c : List Int) (p : Nat) (h worlds : Int) (eo1 so1 no1 : Nat) (co1 : List AV) (eo2 so2 no2 : Nat) (co2 : List AV) (eo3 so3 no3 : Nat) (co3 : List AV) (hc : BY c) (hw : 0 ≤ worlds ∧ worlds ≤ 20) : CallX Tryz.prog 184 [.ptr 0 0, AI worlds] [.box 123 [LB c, AI (p : Int), .int .u64 h], .list eo1 so1 no1 co1, .list eo2 so2 no2 co2, .list eo3 so3 no3 co3] (fun (resX : AV) (objX : List AObj) => ∃ n : Int, ∃ xs : List Int, ∃ p1 : Nat, ∃ h1 : Int, (0 ≤ n ∧ n ≤ worlds) ∧ ((xs.length : Int) = n) ∧ resX = .agg [AI n, LI xs] ∧ objX = [.box 123 [LB c, AI (p1 : Int), .int .u64 h1], .list eo1 so1 no1 co1, .list eo2 so2 no2 co2, .list eo3 so3 no3 co3]) := by
 have hcl : c.length ≤ 4096 := hc.1
 have hcb := hc.2
 refine CallX.dropE (CallX.ofF Tryz.func184 rfl (by kernel_rfl) ?_)
 intro usC frC hfC
 refine R.go 8 (k1 (worlds + 1) (k25 (k26d 4 usC frC (k27a 4 46 [AI 0, .nil] (nextX_c_r4 c p h (worlds + 1) eo1 so1 no1 co1 eo2 so2 no2 co2 eo3 so3 no3 co3 46 2 1 [AI 0, .nil] hc))) ?_))
 rintro _ _ ⟨_, _, ⟨_, ⟨v_1, p1_2, h1_3, f4, rfl, rfl⟩, rfl⟩, rfl, rfl⟩
 refine R.go 10 (k25 (k26d 4 usC frC (k27a 4 46 [AI 0, .nil] (nextX_c_r5 c p1_2 h1_3 3 eo1 so1 no1 co1 eo2 so2 no2 co2 eo3 so3 no3 co3 46 2 1 [AI 0, .nil] 2 1 0 (rows eI []) hc))) ?_)
 rintro _ _ ⟨_, _, ⟨_, ⟨v_5, p1_6, h1_7, f8, rfl, rfl⟩, rfl⟩, rfl, rfl⟩
 refine R.go 8 (k16 ((fun | (i, ys, q, k) => (⟨(frm 101 [(0, .ptr 0 0), (4, .ptr 5 0), (5, AI v_1), (6, .ref 6), (7, AI v_5), (8, AI (i : Int))]), [.box 123 [LB c, AI (q : Int), .int .u64 k], .list eo1 so1 no1 co1, .list eo2 so2 no2 co2, .list eo3 so3 no3 co3, .frame usC frC, .box 46 [AI 0, .nil], rowA eI 2 1 ys]⟩ : St) : Nat × (List Int) × Nat × Int → St)) (fun | (i, ys, q, k) => ((i : Int) ≤ v_1) ∧ (ys.length = i)) (fun | (i, ys, q, k) => (v_1 - i).toNat) (0, [], p1_6, h1_7) [0, 4, 5, 6, 7, 8] none ⟨(by omega), (by rfl)⟩ ?_)
 rintro ⟨i, ys, q, k⟩ ⟨h12_1, h12_2⟩ R9 N10
 refine R.go 7 (k4 ((i : Int) < v_1) (fun c13 => ?_) (fun c13 => ?_))
 ·have hb : 1 ≤ shl64 1 v_1 ∧ shl64 1 v_1 ≤ 4611686018427387904 := shl_rng v_1 (by omega) (by omega)
  refine R.go 7 (k15 true (l01Full_c v_1 (by first | omega | (simp only [refI_len, wout_len]; omega) | (simp <;> omega)) (by first | omega | (simp only [refI_len, wout_len]; omega) | (simp <;> omega))) (k1 (((shl64 1 v_1) - 1) + 1) (k25 (k26d 4 usC frC (k27a 4 46 [AI 0, .nil] (nextX_c_r5 c q k (((shl64 1 v_1) - 1) + 1) eo1 so1 no1 co1 eo2 so2 no2 co2 eo3 so3 no3 co3 46 2 1 [AI 0, .nil] 2 1 ys.length (rows eI ys) hc))) ?_)))
  rintro _ _ ⟨_, _, ⟨_, ⟨v_14, p1_15, h1_16, f17, rfl, rfl⟩, rfl⟩, rfl, rfl⟩
  refine R.go 8 (k16 ((fun | (j, m, q2, k2) => (⟨(frm 101 [(0, .ptr 0 0), (4, .ptr 5 0), (5, AI v_1), (6, .ref 6), (7, AI v_5), (8, AI (i : Int)), (9, AI m), (10, AI (j : Int))]), [.box 123 [LB c, AI (q2 : Int), .int .u64 k2], .list eo1 so1 no1 co1, .list eo2 so2 no2 co2, .list eo3 so3 no3 co3, .frame usC frC, .box 46 [AI 0, .nil], rowA eI 2 1 ys]⟩ : St) : Nat × Int × Nat × Int → St)) (fun | (j, m, q2, k2) => True) (fun | (j, m, q2, k2) => (v_5 - j).toNat) (0, v_14, p1_15, h1_16) [0, 4, 5, 6, 7, 8, 9, 10] none trivial ?_)
  rintro ⟨j, m, q2, k2⟩ _ R18 N19
  refine R.go 7 (k4 ((j : Int) < v_5) (fun c22 => ?_) (fun c22 => ?_))
  ·refine R.go 7 (k15 true (l01Full_c v_1 (by first | omega | (simp only [refI_len, wout_len]; omega) | (simp <;> omega)) (by first | omega | (simp only [refI_len, wout_len]; omega) | (simp <;> omega))) (k1 (((shl64 1 v_1) - 1) + 1) (k25 (k26d 4 usC frC (k27a 4 46 [AI 0, .nil] (nextX_c_r5 c q2 k2 (((shl64 1 v_1) - 1) + 1) eo1 so1 no1 co1 eo2 so2 no2 co2 eo3 so3 no3 co3 46 2 1 [AI 0, .nil] 2 1 ys.length (rows eI ys) hc))) ?_)))
   rintro _ _ ⟨_, _, ⟨_, ⟨v_23, p1_24, h1_25, f26, rfl, rfl⟩, rfl⟩, rfl, rfl⟩
   refine R.go 6 (k1 ((j : Int) + 1) ?_)
   exact R.go 2 (k17 R18 (N19 (j + 1, band m v_23, p1_24, h1_25) [0, 4, 5, 6, 7, 8, 9, 10] none _ (by kernel_rfl) (by kernel_rfl) trivial (by show ((v_5 - (j + 1)).toNat) < ((v_5 - j).toNat); omega)))
  refine R.go 5 (k14 eI ys [m] 6 2 1 8 eI_one (R.kfix 4 (us := usC) (by kernel_rfl) (hfC.kill 6 (Nat.le_of_ble_eq_true (by kernel_rfl))) (R.go 5 (k1 ((i : Int) + 1) ?_))))
  exact R.go 2 (k17 R9 (N10 (i + 1, ys ++ [m], q2, k2) [0, 4, 5, 6, 7, 8] (some [0, 1, 2, 3, 4, 5, 6]) _ (by kernel_rfl) (canonF (fr := frC) (fun (frX : List AV) => (⟨(frm 101 [(0, .ptr 0 0), (4, .ptr 5 0), (5, AI v_1), (6, .ref 6), (7, AI v_5), (8, AI ((i : Int) + 1))]), [.box 123 [LB c, AI (q2 : Int), .int .u64 k2], .list eo1 so1 no1 co1, .list eo2 so2 no2 co2, .list eo3 so3 no3 co3, .frame usC frX, .box 46 [AI 0, .nil], rowA eI 2 1 (ys ++ [m])]⟩ : St)) (hfC.ren _ (by kernel_rfl)) (by kernel_rfl) (by kernel_rfl)) ⟨(by omega), (by (simp <;> omega))⟩ (by show ((v_1 - (i + 1)).toNat) < ((v_1 - i).toNat); omega)))
 refine R.go 5 (k25 (k26d 4 usC frC (k27a 4 46 [AI 0, .nil] (nextX_c_r5 c q k 8 eo1 so1 no1 co1 eo2 so2 no2 co2 eo3 so3 no3 co3 46 2 1 [AI 0, .nil] 2 1 ys.length (rows eI ys) hc))) ?_)
 rintro _ _ ⟨_, _, ⟨_, ⟨v_27, p1_28, h1_29, f30, rfl, rfl⟩, rfl⟩, rfl, rfl⟩
 refine R.go 7 (k4 (v_27 = 0) (fun c31 => ?_) (fun c31 => ?_))
 ·refine R.go 2 (k15 false (l01Refl_c ys (by first | omega | (simp only [refI_len, wout_len]; omega) | (simp <;> omega))) ?_ (hr := ownA_closed eI_closed 2 1 (refI ys ys.length)))
  refine R.go 6 (k15 false (l05Make_c (refI ys ys.length) (by first | omega | (simp only [refI_len, wout_len]; omega) | (simp <;> omega))) ?_ (hr := by simp [AV.closed, closedL, AI, ownA_closed eI_closed]))
  refine R.go 2 (k19 8 (R.kfix 4 (us := usC) (by kernel_rfl) (hfC.frz 8 (LI (refI ys ys.length)) (Nat.le_of_ble_eq_true (by kernel_rfl))) ?_))
  exact R.retX (res := .agg [AI ((refI ys ys.length).length), LI (refI ys ys.length)]) (hp' := [.box 123 [LB c, AI (p1_28 : Int), .int .u64 h1_29], .list eo1 so1 no1 co1, .list eo2 so2 no2 co2, .list eo3 so3 no3 co3, .dead, .box 46 [AI ((refI ys ys.length).length), LI (refI ys ys.length)], rowA eI 2 1 ys, rowA eI 2 1 (refI ys ys.length), .dead]) (by kernel_rfl) (by kernel_rfl) (by kernel_rfl) (by kernel_rfl) ⟨[0, 1, 2, 3], by kernel_rfl, by decide, (refI ys ys.length).length, refI ys ys.length, p1_28, h1_29, by first | omega | (simp only [refI_len, wout_len]; done) | (simp only [refI_len, wout_len]; omega), by first | omega | (simp only [refI_len, wout_len]; done) | (simp only [refI_len, wout_len]; omega), by kernel_rfl, by kernel_rfl⟩
 refine R.go 5 (k4 (v_27 = 1) (fun c32 => ?_) (fun c32 => ?_))
 ·refine R.go 2 (k15 false (l01Clos_c ys (by first | omega | (simp only [refI_len, wout_len]; omega) | (simp <;> omega))) ?_ (hr := ownA_closed eI_closed 2 1 (wout ys ys.length)))
  refine R.go 6 (k15 false (l05Make_c (wout ys ys.length) (by first | omega | (simp only [refI_len, wout_len]; omega) | (simp <;> omega))) ?_ (hr := by simp [AV.closed, closedL, AI, ownA_closed eI_closed]))
  refine R.go 2 (k19 8 (R.kfix 4 (us := usC) (by kernel_rfl) (hfC.frz 8 (LI (wout ys ys.length)) (Nat.le_of_ble_eq_true (by kernel_rfl))) ?_))
  exact R.retX (res := .agg [AI ((wout ys ys.length).length), LI (wout ys ys.length)]) (hp' := [.box 123 [LB c, AI (p1_28 : Int), .int .u64 h1_29], .list eo1 so1 no1 co1, .list eo2 so2 no2 co2, .list eo3 so3 no3 co3, .dead, .box 46 [AI ((wout ys ys.length).length), LI (wout ys ys.length)], rowA eI 2 1 ys, rowA eI 2 1 (wout ys ys.length), .dead]) (by kernel_rfl) (by kernel_rfl) (by kernel_rfl) (by kernel_rfl) ⟨[0, 1, 2, 3], by kernel_rfl, by decide, (wout ys ys.length).length, wout ys ys.length, p1_28, h1_29, by first | omega | (simp only [refI_len, wout_len]; done) | (simp only [refI_len, wout_len]; omega), by first | omega | (simp only [refI_len, wout_len]; done) | (simp only [refI_len, wout_len]; omega), by kernel_rfl, by kernel_rfl⟩
 refine R.go 5 (k4 (v_27 = 2) (fun c33 => ?_) (fun c33 => ?_))
 ·refine R.go 2 (k15 false (l01Clos_c ys (by first | omega | (simp only [refI_len, wout_len]; omega) | (simp <;> omega))) ?_ (hr := ownA_closed eI_closed 2 1 (wout ys ys.length)))
  refine k15 false (l01Refl_c (wout ys ys.length) (by first | omega | (simp only [refI_len, wout_len]; omega) | (simp <;> omega))) ?_ (hr := ownA_closed eI_closed 2 1 (refI (wout ys ys.length) (wout ys ys.length).length))
  refine R.go 6 (k15 false (l05Make_c (refI (wout ys ys.length) (wout ys ys.length).length) (by first | omega | (simp only [refI_len, wout_len]; omega) | (simp <;> omega))) ?_ (hr := by simp [AV.closed, closedL, AI, ownA_closed eI_closed]))
  refine R.go 2 (k19 9 (R.kfix 4 (us := usC) (by kernel_rfl) (hfC.frz 9 (LI (refI (wout ys ys.length) (wout ys ys.length).length)) (Nat.le_of_ble_eq_true (by kernel_rfl))) ?_))
  exact R.retX (res := .agg [AI ((refI (wout ys ys.length) (wout ys ys.length).length).length), LI (refI (wout ys ys.length) (wout ys ys.length).length)]) (hp' := [.box 123 [LB c, AI (p1_28 : Int), .int .u64 h1_29], .list eo1 so1 no1 co1, .list eo2 so2 no2 co2, .list eo3 so3 no3 co3, .dead, .box 46 [AI ((refI (wout ys ys.length) (wout ys ys.length).length).length), LI (refI (wout ys ys.length) (wout ys ys.length).length)], rowA eI 2 1 ys, rowA eI 2 1 (wout ys ys.length), rowA eI 2 1 (refI (wout ys ys.length) (wout ys ys.length).length), .dead]) (by kernel_rfl) (by kernel_rfl) (by kernel_rfl) (by kernel_rfl) ⟨[0, 1, 2, 3], by kernel_rfl, by decide, (refI (wout ys ys.length) (wout ys ys.length).length).length, refI (wout ys ys.length) (wout ys ys.length).length, p1_28, h1_29, by first | omega | (simp only [refI_len, wout_len]; done) | (simp only [refI_len, wout_len]; omega), by first | omega | (simp only [refI_len, wout_len]; done) | (simp only [refI_len, wout_len]; omega), by kernel_rfl, by kernel_rfl⟩
 refine R.go 5 (k4 (v_27 = 3) (fun c34 => ?_) (fun c34 => ?_))
 ·refine R.go 5 (k16 ((fun | (i3, zs) => (⟨(frm 101 [(4, .ptr 5 0), (5, AI v_1), (6, .ref 6), (11, AI (i3 : Int))]), [.box 123 [LB c, AI (p1_28 : Int), .int .u64 h1_29], .list eo1 so1 no1 co1, .list eo2 so2 no2 co2, .list eo3 so3 no3 co3, .frame usC frC, .box 46 [AI 0, .nil], rowA eI 2 1 zs]⟩ : St) : Nat × (List Int) → St)) (fun | (i3, zs) => ((i3 : Int) ≤ v_1) ∧ ((zs.length : Int) = v_1)) (fun | (i3, zs) => (v_1 - i3).toNat) (0, ys) [4, 5, 6, 11] none ⟨(by omega), (by omega)⟩ ?_)
  rintro ⟨i3, zs⟩ ⟨h38_1, h38_2⟩ R35 N36
  refine R.go 7 (k4 ((i3 : Int) < v_1) (fun c39 => ?_) (fun c39 => ?_))
  ·refine R.go 8 (k11 6 1 zs.length i3 (i3 : Int) ?_ (hji := rfl))
   refine k12 zs i3 (R.go 1 (k1 ((i3 : Int) + 1) (k15 true (l01Full_c ((i3 : Int) + 1) (by first | omega | (simp only [refI_len, wout_len]; omega) | (simp <;> omega)) (by first | omega | (simp only [refI_len, wout_len]; omega) | (simp <;> omega))) (R.go 1 (k11 6 1 zs.length i3 (i3 : Int) ?_ (hji := rfl))))))
   refine k13 6 2 zs i3 (bnot (zs.getD i3 0) ((shl64 1 ((i3 : Int) + 1)) - 1)) (R.go 4 (k1 ((i3 : Int) + 1) ?_))
   exact R.go 2 (k17 R35 (N36 (i3 + 1, zs.set i3 (bnot (zs.getD i3 0) ((shl64 1 ((i3 : Int) + 1)) - 1))) [4, 5, 6, 11] none _ (by kernel_rfl) (by kernel_rfl) ⟨(by omega), (by (simp <;> omega))⟩ (by show ((v_1 - (i3 + 1)).toNat) < ((v_1 - i3).toNat); omega)))
  refine R.go 5 (k15 false (l05Make_c zs (by first | omega | (simp only [refI_len, wout_len]; omega) | (simp <;> omega))) ?_ (hr := by simp [AV.closed, closedL, AI, ownA_closed eI_closed]))
  refine R.go 2 (k19 7 (R.kfix 4 (us := usC) (by kernel_rfl) (hfC.frz 7 (LI zs) (Nat.le_of_ble_eq_true (by kernel_rfl))) ?_))
  exact R.retX (res := .agg [AI zs.length, LI zs]) (hp' := [.box 123 [LB c, AI (p1_28 : Int), .int .u64 h1_29], .list eo1 so1 no1 co1, .list eo2 so2 no2 co2, .list eo3 so3 no3 co3, .dead, .box 46 [AI zs.length, LI zs], rowA eI 2 1 zs, .dead]) (by kernel_rfl) (by kernel_rfl) (by kernel_rfl) (by kernel_rfl) ⟨[0, 1, 2, 3], by kernel_rfl, by decide, zs.length, zs, p1_28, h1_29, by first | omega | (simp only [refI_len, wout_len]; done) | (simp only [refI_len, wout_len]; omega), by first | omega | (simp only [refI_len, wout_len]; done) | (simp only [refI_len, wout_len]; omega), by kernel_rfl, by kernel_rfl⟩
 refine R.go 5 (k4 (v_27 = 4) (fun c40 => ?_) (fun c40 => ?_))
 ·refine R.go 6 (k16 ((fun | (i4, zs) => (⟨(frm 101 [(4, .ptr 5 0), (5, AI v_1), (6, .ref 6), (12, AI (i4 : Int))]), [.box 123 [LB c, AI (p1_28 : Int), .int .u64 h1_29], .list eo1 so1 no1 co1, .list eo2 so2 no2 co2, .list eo3 so3 no3 co3, .frame usC frC, .box 46 [AI 0, .nil], rowA eI 2 1 zs]⟩ : St) : Nat × (List Int) → St)) (fun | (i4, zs) => ((i4 : Int) ≤ v_1) ∧ ((zs.length : Int) = v_1)) (fun | (i4, zs) => (v_1 - i4).toNat) (0, ys) [4, 5, 6, 12] none ⟨(by omega), (by omega)⟩ ?_)
  rintro ⟨i4, zs⟩ ⟨h44_1, h44_2⟩ R41 N42
  refine R.go 7 (k4 ((i4 : Int) < v_1) (fun c45 => ?_) (fun c45 => ?_))
  ·refine R.go 8 (k11 6 1 zs.length i4 (i4 : Int) ?_ (hji := rfl))
   refine k12 zs i4 (R.go 1 (k1 ((i4 : Int) + 1) (k15 true (l01Full_c ((i4 : Int) + 1) (by first | omega | (simp only [refI_len, wout_len]; omega) | (simp <;> omega)) (by first | omega | (simp only [refI_len, wout_len]; omega) | (simp <;> omega))) (R.go 1 (k11 6 1 zs.length i4 (i4 : Int) ?_ (hji := rfl))))))
   refine k13 6 2 zs i4 (bnot (zs.getD i4 0) ((shl64 1 ((i4 : Int) + 1)) - 1)) (R.go 4 (k1 ((i4 : Int) + 1) ?_))
   exact R.go 2 (k17 R41 (N42 (i4 + 1, zs.set i4 (bnot (zs.getD i4 0) ((shl64 1 ((i4 : Int) + 1)) - 1))) [4, 5, 6, 12] none _ (by kernel_rfl) (by kernel_rfl) ⟨(by omega), (by (simp <;> omega))⟩ (by show ((v_1 - (i4 + 1)).toNat) < ((v_1 - i4).toNat); omega)))
  refine R.go 3 (k15 false (l01Clos_c zs (by first | omega | (simp only [refI_len, wout_len]; omega) | (simp <;> omega))) ?_ (hr := ownA_closed eI_closed 2 1 (wout zs zs.length)))
  refine R.go 6 (k15 false (l05Make_c (wout zs zs.length) (by first | omega | (simp only [refI_len, wout_len]; omega) | (simp <;> omega))) ?_ (hr := by simp [AV.closed, closedL, AI, ownA_closed eI_closed]))
  refine R.go 2 (k19 8 (R.kfix 4 (us := usC) (by kernel_rfl) (hfC.frz 8 (LI (wout zs zs.length)) (Nat.le_of_ble_eq_true (by kernel_rfl))) ?_))
  exact R.retX (res := .agg [AI ((wout zs zs.length).length), LI (wout zs zs.length)]) (hp' := [.box 123 [LB c, AI (p1_28 : Int), .int .u64 h1_29], .list eo1 so1 no1 co1, .list eo2 so2 no2 co2, .list eo3 so3 no3 co3, .dead, .box 46 [AI ((wout zs zs.length).length), LI (wout zs zs.length)], rowA eI 2 1 zs, rowA eI 2 1 (wout zs zs.length), .dead]) (by kernel_rfl) (by kernel_rfl) (by kernel_rfl) (by kernel_rfl) ⟨[0, 1, 2, 3], by kernel_rfl, by decide, (wout zs zs.length).length, wout zs zs.length, p1_28, h1_29, by first | omega | (simp only [refI_len, wout_len]; done) | (simp only [refI_len, wout_len]; omega), by first | omega | (simp only [refI_len, wout_len]; done) | (simp only [refI_len, wout_len]; omega), by kernel_rfl, by kernel_rfl⟩
 refine R.go 5 (k15 false (l05Make_c ys (by first | omega | (simp only [refI_len, wout_len]; omega) | (simp <;> omega))) ?_ (hr := by simp [AV.closed, closedL, AI, ownA_closed eI_closed]))
 refine R.go 2 (k19 7 (R.kfix 4 (us := usC) (by kernel_rfl) (hfC.frz 7 (LI ys) (Nat.le_of_ble_eq_true (by kernel_rfl))) ?_))
 exact R.retX (res := .agg [AI ys.length, LI ys]) (hp' := [.box 123 [LB c, AI (p1_28 : Int), .int .u64 h1_29], .list eo1 so1 no1 co1, .list eo2 so2 no2 co2, .list eo3 so3 no3 co3, .dead, .box 46 [AI ys.length, LI ys], rowA eI 2 1 ys, .dead]) (by kernel_rfl) (by kernel_rfl) (by kernel_rfl) (by kernel_rfl) ⟨[0, 1, 2, 3], by kernel_rfl, by decide, ys.length, ys, p1_28, h1_29, by first | omega | (simp only [refI_len, wout_len]; done) | (simp only [refI_len, wout_len]; omega), by first | omega | (simp only [refI_len, wout_len]; done) | (simp only [refI_len, wout_len]; omega), by kernel_rfl, by kernel_rfl⟩
end Go.Proofs.YtehbliocfpppoaaGreat

/-! Modal algebras: what both packages take for one; the value of a formula. -/
namespace Go.Proofs.YtehbliocfpppoaaGreat
open Go.RowKit Go.Abs
def addB (ys : List Int) (x y : Nat) : Bool := decide (ys.getD (band (x : Int) (y : Int)).toNat 0 = band (ys.getD x 0) (ys.getD y 0))
def addR (ys : List Int) (x : Nat) : Nat → Bool
 | 0 => true
 | y + 1 => addR ys x y && addB ys x y
def addA (ys : List Int) : Nat → Bool
 | 0 => true
 | x + 1 => addA ys x && addR ys x x
def outE (n m : Int) : Bool := !inR m 0 ((shl64 1 n) - 1)
def okAl (n : Int) (ys : List Int) : Bool := inR n 0 5 && decide ((ys.length : Int) = shl64 1 n) && (!ys.any (outE n)) && decide (ys.getD ((shl64 1 n) - 1).toNat 0 = (shl64 1 n) - 1) && addA ys ys.length
theorem addR_of {ys : List Int} {x y z : Nat} (h : addR ys x z = true) (hy : y < z) : addB ys x y = true := by
 induction z with
 | zero => omega
 | succ z ih =>
  rw [addR, Bool.and_eq_true] at h
  by_cases e : y = z
  ·rw [e]; exact h.2
  ·exact ih h.1 (by omega)
theorem addA_of {ys : List Int} {x y z : Nat} (h : addA ys z = true) (hx : x < z) (hy : y < x) : addB ys x y = true := by
 induction z with
 | zero => omega
 | succ z ih =>
  rw [addA, Bool.and_eq_true] at h
  by_cases e : x = z
  ·rw [e] at hy ⊢; exact addR_of h.2 hy
  ·exact ih h.1 (by omega)
theorem addA_go {ys : List Int} {x y : Nat} (h1 : addA ys x = true) (h2 : addR ys x y = true) (e : y = x) : addA ys (x + 1) = true := by
 subst e
 rw [addA, h1, h2]; rfl
theorem okAl_1 {n : Int} {ys : List Int} (h : inR n 0 5 = false) : false = okAl n ys := by simp [okAl, h]
theorem okAl_2 {n : Int} {ys : List Int} (h : ¬ (ys.length : Int) = shl64 1 n) : false = okAl n ys := by simp [okAl, h]
theorem okAl_2' {n : Int} {ys : List Int} (h : ¬ (ys.length : Int) = (shl64 1 n) - 1 + 1) : false = okAl n ys := okAl_2 (by omega)
theorem okAl_3 {n : Int} {ys : List Int} (h : ys.any (outE n) = true) : false = okAl n ys := by simp [okAl, h]
theorem okAl_3' {n : Int} {ys : List Int} (h : (!ys.any (outE n)) = false) : false = okAl n ys := okAl_3 (by simpa using h)
theorem okAl_4 {n : Int} {ys : List Int} (h : ¬ ys.getD ((shl64 1 n) - 1).toNat 0 = (shl64 1 n) - 1) : false = okAl n ys := by rw [okAl, decide_eq_false h]; simp
theorem okAl_5 {n : Int} {ys : List Int} {x y : Nat} (hx : x < ys.length) (hy : y < x) (h : ¬ ys.getD (band (x : Int) (y : Int)).toNat 0 = band (ys.getD x 0) (ys.getD y 0)) : false = okAl n ys := by
 cases e : okAl n ys with
 | false => rfl
 | true =>
  simp only [okAl, Bool.and_eq_true] at e
  have := addA_of e.2 hx hy
  rw [addB, decide_eq_false h] at this
  cases this
theorem okAl_6 {n : Int} {ys : List Int} (h1 : inR n 0 5 = true) (h2 : (ys.length : Int) = shl64 1 n) (h3 : ys.any (outE n) = false) (h4 : addA ys ys.length = true) : decide (ys.getD ((shl64 1 n) - 1).toNat 0 = (shl64 1 n) - 1) = okAl n ys := by simp [okAl, h1, h2, h3, h4]
theorem okAl_7 {n : Int} {ys : List Int} (h1 : inR n 0 5 = true) (h2 : (ys.length : Int) = shl64 1 n) (h3 : ys.any (outE n) = false) (h4 : addA ys ys.length = true) (h5 : ys.getD ((shl64 1 n) - 1).toNat 0 = (shl64 1 n) - 1) : true = okAl n ys := by rw [← okAl_6 h1 h2 h3 h4, h5]; simp
theorem band_rng (x y : Nat) (hx : x < 4611686018427387904) (hy : y < 4611686018427387904) : 0 ≤ band (x : Int) (y : Int) ∧ band (x : Int) (y : Int) ≤ (x : Int) := by
 rw [band_nat (by omega) (by omega)]
 have := @Nat.and_le_left x y
 omega
theorem fullM_c (n : Int) (ys : List Int) (h0 : 0 ≤ n) (h1 : n ≤ 62) : CallA Tryz.prog 104 [.agg [AI n, LI ys]] (AI ((shl64 1 n) - 1)) := by
 have hb : 1 ≤ shl64 1 n ∧ shl64 1 n ≤ 4611686018427387904 := shl_rng n h0 h1
 refine CallA.of Tryz.func104 rfl (by kernel_rfl) (R.go 9 (R.shl 1 n (by kernel_rfl) (by omega) (by kernel_rfl) (k1 ((shl64 1 n) - 1) ?_)))
 exact R.go 2 (k18 (AI ((shl64 1 n) - 1)) (by rfl))
theorem isElement_c (n : Int) (ys : List Int) (x : Int) (h0 : 0 ≤ n) (h1 : n ≤ 62) : CallA Tryz.prog 107 [.agg [AI n, LI ys], AI x] (.bool (inR x 0 ((shl64 1 n) - 1))) := by
 refine CallA.of Tryz.func107 rfl (by kernel_rfl) (R.go 9 (k15 true (fullM_c n ys h0 h1) (k15 true (inRange_c x 0 ((shl64 1 n) - 1)) ?_)))
 exact R.go 2 (k18 (.bool (inR x 0 ((shl64 1 n) - 1))) (by rfl))
theorem isAl1_c (m n : Int) (ys : List Int) (h0 : 0 ≤ n) (h1 : n ≤ 62) : CallA Tryz.prog 106 [AI m, .rptr [AI n, LI ys]] (.bool (outE n m)) := by
 refine CallA.of Tryz.func106 rfl (by kernel_rfl) (R.go 8 (k15 true (isElement_c n ys m h0 h1) ?_))
 exact R.go 3 (k18 (.bool (!(inR m 0 ((shl64 1 n) - 1)))) (by first | (apply congrArg AV.bool; simp [outE]) | (exfalso; omega)))
theorem indexAl_c (a : List Int) (n : Int) (ys : List Int) (h0 : 0 ≤ n) (h1 : n ≤ 62) (hl : a.length ≤ 1000000000) : CallA Tryz.prog 190 [LI a, .fn 106 [.rptr [AI n, LI ys]]] (AI (fidxI (outE n) a 0)) := by
 refine CallA.of Tryz.func190 rfl (by kernel_rfl) (R.go 12 (k16 (fun (i : Nat) => (⟨(frm 19 [(0, LI a), (1, .fn 106 [.rptr [AI n, LI ys]]), (7, AI a.length), (8, AI (i : Int))]), []⟩ : St)) (fun (i : Nat) => (i ≤ a.length) ∧ (fidxI (outE n) a 0 = fidxI (outE n) (a.drop i) i)) (fun (i : Nat) => a.length - i) 0 [0, 1, 7, 8] none ⟨(by omega), (by rfl)⟩ ?_))
 rintro i ⟨h3_1, h3_2⟩ R1 N2
 refine R.go 5 (k4 ((i : Int) < (a.length : Int)) (fun c4 => ?_) (fun c4 => ?_))
 ·refine R.go 13 (k10 eI a 0 i (i : Int) eI_len (R.go 1 (k15 true (isAl1_c (a.getD i 0) n ys h0 h1) (R.go 1 (k3 (outE n (a.getD i 0)) (fun c5 => ?_) (fun c5 => ?_))))))
  ·exact R.go 5 (k18 (AI (i : Int)) (by first | (apply congrArg AI; rw [‹fidxI (outE n) a 0 = _›]; first | exact (fidxI_end (by omega)).symm | exact (fidxI_hit (by omega) (by assumption)).symm) | (exfalso; omega)))
  refine R.go 3 (k1 ((i : Int) + 1) ?_)
  exact R.go 2 (k17 R1 (N2 (i + 1) [0, 1, 7, 8] none _ (by kernel_rfl) (by kernel_rfl) ⟨(by omega), (by rw [‹fidxI (outE n) a 0 = _›]; exact fidxI_miss (by omega) (by assumption))⟩ (by show (a.length - (i + 1)) < (a.length - i); omega)))
 exact R.go 5 (k18 (AI (-1)) (by first | (apply congrArg AI; rw [‹fidxI (outE n) a 0 = _›]; first | exact (fidxI_end (by omega)).symm | exact (fidxI_hit (by omega) (by assumption)).symm) | (exfalso; omega)))
theorem containsAl_c (a : List Int) (n : Int) (ys : List Int) (h0 : 0 ≤ n) (h1 : n ≤ 62) (hl : a.length ≤ 1000000000) : CallA Tryz.prog 105 [LI a, .fn 106 [.rptr [AI n, LI ys]]] (.bool (a.any (outE n))) := by
 refine CallA.of Tryz.func105 rfl (by kernel_rfl) (R.go 8 (k15 true (indexAl_c a n ys h0 h1 hl) ?_))
 exact R.go 3 (k18 (.bool (decide ((fidxI (outE n) a 0) ≥ 0))) (by first | (apply congrArg AV.bool; rw [Bool.eq_iff_iff, decide_eq_true_iff]; exact fidxI_any (Int.le_refl 0)) | (exfalso; omega)))
theorem isEl1_c (m n : Int) (ys : List Int) (h0 : 0 ≤ n) (h1 : n ≤ 62) : CallA Tryz.prog 112 [AI m, .rptr [AI n, LI ys]] (.bool (outE n m)) := by
 refine CallA.of Tryz.func112 rfl (by kernel_rfl) (R.go 8 (k15 true (isElement_c n ys m h0 h1) ?_))
 exact R.go 3 (k18 (.bool (!(inR m 0 ((shl64 1 n) - 1)))) (by first | (apply congrArg AV.bool; simp [outE]) | (exfalso; omega)))
theorem indexEl_c (a : List Int) (n : Int) (ys : List Int) (h0 : 0 ≤ n) (h1 : n ≤ 62) (hl : a.length ≤ 1000000000) : CallA Tryz.prog 190 [LI a, .fn 112 [.rptr [AI n, LI ys]]] (AI (fidxI (outE n) a 0)) := by
 refine CallA.of Tryz.func190 rfl (by kernel_rfl) (R.go 12 (k16 (fun (i : Nat) => (⟨(frm 19 [(0, LI a), (1, .fn 112 [.rptr [AI n, LI ys]]), (7, AI a.length), (8, AI (i : Int))]), []⟩ : St)) (fun (i : Nat) => (i ≤ a.length) ∧ (fidxI (outE n) a 0 = fidxI (outE n) (a.drop i) i)) (fun (i : Nat) => a.length - i) 0 [0, 1, 7, 8] none ⟨(by omega), (by rfl)⟩ ?_))
 rintro i ⟨h3_1, h3_2⟩ R1 N2
 refine R.go 5 (k4 ((i : Int) < (a.length : Int)) (fun c4 => ?_) (fun c4 => ?_))
 ·refine R.go 13 (k10 eI a 0 i (i : Int) eI_len (R.go 1 (k15 true (isEl1_c (a.getD i 0) n ys h0 h1) (R.go 1 (k3 (outE n (a.getD i 0)) (fun c5 => ?_) (fun c5 => ?_))))))
  ·exact R.go 5 (k18 (AI (i : Int)) (by first | (apply congrArg AI; rw [‹fidxI (outE n) a 0 = _›]; first | exact (fidxI_end (by omega)).symm | exact (fidxI_hit (by omega) (by assumption)).symm) | (exfalso; omega)))
  refine R.go 3 (k1 ((i : Int) + 1) ?_)
  exact R.go 2 (k17 R1 (N2 (i + 1) [0, 1, 7, 8] none _ (by kernel_rfl) (by kernel_rfl) ⟨(by omega), (by rw [‹fidxI (outE n) a 0 = _›]; exact fidxI_miss (by omega) (by assumption))⟩ (by show (a.length - (i + 1)) < (a.length - i); omega)))
 exact R.go 5 (k18 (AI (-1)) (by first | (apply congrArg AI; rw [‹fidxI (outE n) a 0 = _›]; first | exact (fidxI_end (by omega)).symm | exact (fidxI_hit (by omega) (by assumption)).symm) | (exfalso; omega)))
theorem containsEl_c (a : List Int) (n : Int) (ys : List Int) (h0 : 0 ≤ n) (h1 : n ≤ 62) (hl : a.length ≤ 1000000000) : CallA Tryz.prog 105 [LI a, .fn 112 [.rptr [AI n, LI ys]]] (.bool (a.any (outE n))) := by
 refine CallA.of Tryz.func105 rfl (by kernel_rfl) (R.go 8 (k15 true (indexEl_c a n ys h0 h1 hl) ?_))
 exact R.go 3 (k18 (.bool (decide ((fidxI (outE n) a 0) ≥ 0))) (by first | (apply congrArg AV.bool; rw [Bool.eq_iff_iff, decide_eq_true_iff]; exact fidxI_any (Int.le_refl 0)) | (exfalso; omega)))
theorem l01MasksE_c (n : Int) (xs : List Int) (hl : xs.length ≤ 1000000000) (h0 : 0 ≤ n) (h1 : n ≤ 62) : CallA Tryz.prog 57 [AI n, LI xs] (.bool (!xs.any (outE n))) := l01Masks_c n xs hl h0 h1
theorem isModalAlgebra_c (n : Int) (ys : List Int) (hl : ys.length ≤ 1000000000) : CallA Tryz.prog 50 [.agg [AI n, LI ys]] (.bool (okAl n ys)) := by
 have hsh : ∀ k : Int, 0 ≤ k → k ≤ 62 → 1 ≤ shl64 1 k ∧ shl64 1 k ≤ 4611686018427387904 := fun k h0 h1 => shl_rng k h0 h1
 have hnr := fun h : inR n 0 5 = true => (inR_iff n 0 5).1 h
 have hsr := fun h : inR n 0 5 = true => shl_rng n (hnr h).1 (by have := hnr h; omega)
 refine CallA.of Tryz.func50 rfl (by kernel_rfl) (R.go 10 (k15 true (inRange_c n 0 5) (R.go 2 ((Bool.eq_false_or_eq_true (inR n 0 5)).elim (fun c1 => ?_) (fun c1 => ?_)))))
 ·refine k7 false (bnF c1) ?_
  iterate 2 refine R.go 1 (k7 false (bnF c1) ?_)
  refine k15 true (size_c ys) (k7 false (bnF c1) (R.go 1 (k7 false (bnF c1) (k15 true (fullM_c n ys (by first | omega | (have hq1 := hnr (by assumption); have hq2 := hsr (by assumption); omega)) (by first | omega | (have hq1 := hnr (by assumption); have hq2 := hsr (by assumption); omega))) (k7 false (bnF c1) (k1 (((shl64 1 n) - 1) + 1) ?_ (h0 := by first | omega | (have hq1 := hnr (by assumption); have hq2 := hsr (by assumption); omega)) (h1 := by first | omega | (have hq1 := hnr (by assumption); have hq2 := hsr (by assumption); omega))))))))
  refine k7 false (bnF c1) (R.go 1 (k9 false (bnF c1) (R.go 1 ?_)))
  by_cases c2 : (ys.length : Int) = (((shl64 1 n) - 1) + 1)
  ·refine k7 false (nF c2) ?_
   iterate 3 refine R.go 1 (k7 false (nF c2) ?_)
   refine k15 false (containsAl_c ys n ys (by first | omega | (have hq1 := hnr (by assumption); have hq2 := hsr (by assumption); omega)) (by first | omega | (have hq1 := hnr (by assumption); have hq2 := hsr (by assumption); omega)) hl) (k9 false (nF c2) (R.go 1 (k3 (ys.any (outE n)) (fun c3 => ?_) (fun c3 => ?_))))
   ·exact R.go 4 (k18 (.bool false) (by first | (apply congrArg AV.bool; first | exact okAl_1 (by assumption) | exact okAl_2 (by assumption) | exact okAl_2' (by assumption) | exact okAl_3 (by assumption) | exact okAl_3' (by assumption) | exact okAl_4 (by assumption) | exact okAl_5 (x := x) (y := y) (by omega) (by omega) (by assumption) | exact okAl_6 (by assumption) (by omega) (by assumption) (by rw [show ys.length = x by omega]; assumption)) | (exfalso; omega)))
   have hn := hnr (by assumption)
   have hs := hsr (by assumption)
   refine R.go 10 (k16 (fun (x : Nat) => (⟨(frm 64 [(1, .ptr 0 0), (26, AI ys.length), (27, AI (x : Int))]), [.box 39 [AI n, LI ys]]⟩ : St)) (fun (x : Nat) => (x ≤ ys.length) ∧ (addA ys x = true)) (fun (x : Nat) => ys.length - x) 0 [1, 26, 27] none ⟨(by omega), (by rfl)⟩ ?_)
   rintro x ⟨h6_1, h6_2⟩ R4 N5
   refine R.go 5 (k4 ((x : Int) < (ys.length : Int)) (fun c7 => ?_) (fun c7 => ?_))
   ·refine R.go 14 (k16 (fun (y : Nat) => (⟨(frm 64 [(1, .ptr 0 0), (3, AI (x : Int)), (26, AI ys.length), (27, AI (x : Int)), (30, AI (x : Int)), (31, AI (y : Int))]), [.box 39 [AI n, LI ys]]⟩ : St)) (fun (y : Nat) => (y ≤ x) ∧ (addR ys x y = true)) (fun (y : Nat) => x - y) 0 [1, 3, 26, 27, 30, 31] none ⟨(by omega), (by rfl)⟩ ?_)
    rintro y ⟨h10_1, h10_2⟩ R8 N9
    refine R.go 5 (k4 ((y : Int) < (x : Int)) (fun c11 => ?_) (fun c11 => ?_))
    ·have hxy := band_rng x y (by omega) (by omega)
     refine R.go 15 (k10 eI ys 0 ((band (x : Int) (y : Int)).toNat) (band (x : Int) (y : Int)) eI_len ?_ (hji := by first | omega | (have hq1 := hnr (by assumption); have hq2 := hsr (by assumption); omega)) (hj := by first | omega | (have hq1 := hnr (by assumption); have hq2 := hsr (by assumption); omega)))
     refine R.go 4 (k10 eI ys 0 x (x : Int) eI_len ?_ (hj := by first | omega | (have hq1 := hnr (by assumption); have hq2 := hsr (by assumption); omega)))
     refine R.go 4 (k10 eI ys 0 y (y : Int) eI_len ?_ (hj := by first | omega | (have hq1 := hnr (by assumption); have hq2 := hsr (by assumption); omega)))
     refine R.go 4 (k5 ((ys.getD ((band (x : Int) (y : Int)).toNat) 0) = (band (ys.getD x 0) (ys.getD y 0))) (fun c12 => ?_) (fun c12 => ?_))
     ·exact R.go 4 (k18 (.bool false) (by first | (apply congrArg AV.bool; first | exact okAl_1 (by assumption) | exact okAl_2 (by assumption) | exact okAl_2' (by assumption) | exact okAl_3 (by assumption) | exact okAl_3' (by assumption) | exact okAl_4 (by assumption) | exact okAl_5 (x := x) (y := y) (by omega) (by omega) (by assumption) | exact okAl_6 (by assumption) (by omega) (by assumption) (by rw [show ys.length = x by omega]; assumption)) | (exfalso; omega)))
     refine R.go 3 (k1 ((y : Int) + 1) ?_ (h0 := by first | omega | (have hq1 := hnr (by assumption); have hq2 := hsr (by assumption); omega)) (h1 := by first | omega | (have hq1 := hnr (by assumption); have hq2 := hsr (by assumption); omega)))
     exact R.go 2 (k17 R8 (N9 (y + 1) [1, 3, 26, 27, 30, 31] none _ (by kernel_rfl) (by kernel_rfl) ⟨(by omega), (by rw [addR, ‹addR ys x y = true›, addB, decide_eq_true (by assumption)]; rfl)⟩ (by show (x - (y + 1)) < (x - y); omega)))
    refine R.go 3 (k1 ((x : Int) + 1) ?_ (h0 := by first | omega | (have hq1 := hnr (by assumption); have hq2 := hsr (by assumption); omega)) (h1 := by first | omega | (have hq1 := hnr (by assumption); have hq2 := hsr (by assumption); omega)))
    exact R.go 2 (k17 R4 (N5 (x + 1) [1, 26, 27] none _ (by kernel_rfl) (by kernel_rfl) ⟨(by omega), (by exact addA_go (by assumption) (by assumption) (by omega))⟩ (by show (ys.length - (x + 1)) < (ys.length - x); omega)))
   refine R.go 6 (k15 true (fullM_c n ys (by first | omega | (have hq1 := hnr (by assumption); have hq2 := hsr (by assumption); omega)) (by first | omega | (have hq1 := hnr (by assumption); have hq2 := hsr (by assumption); omega))) (k10 eI ys 0 (((shl64 1 n) - 1).toNat) ((shl64 1 n) - 1) eI_len ?_ (hji := by first | omega | (have hq1 := hnr (by assumption); have hq2 := hsr (by assumption); omega)) (hj := by first | omega | (have hq1 := hnr (by assumption); have hq2 := hsr (by assumption); omega))))
   refine R.go 2 (k15 true (fullM_c n ys (by first | omega | (have hq1 := hnr (by assumption); have hq2 := hsr (by assumption); omega)) (by first | omega | (have hq1 := hnr (by assumption); have hq2 := hsr (by assumption); omega))) ?_)
   exact R.go 3 (k18 (.bool (decide ((ys.getD (((shl64 1 n) - 1).toNat) 0) = ((shl64 1 n) - 1)))) (by first | (apply congrArg AV.bool; first | exact okAl_1 (by assumption) | exact okAl_2 (by assumption) | exact okAl_2' (by assumption) | exact okAl_3 (by assumption) | exact okAl_3' (by assumption) | exact okAl_4 (by assumption) | exact okAl_5 (x := x) (y := y) (by omega) (by omega) (by assumption) | exact okAl_6 (by assumption) (by omega) (by assumption) (by rw [show ys.length = x by omega]; assumption)) | (exfalso; omega)))
  iterate 4 refine k8 false (nT c2) ?_
  refine k9 true (nT c2) ?_
  exact R.go 6 (k18 (.bool false) (by first | (apply congrArg AV.bool; first | exact okAl_1 (by assumption) | exact okAl_2 (by assumption) | exact okAl_2' (by assumption) | exact okAl_3 (by assumption) | exact okAl_3' (by assumption) | exact okAl_4 (by assumption) | exact okAl_5 (x := x) (y := y) (by omega) (by omega) (by assumption) | exact okAl_6 (by assumption) (by omega) (by assumption) (by rw [show ys.length = x by omega]; assumption)) | (exfalso; omega)))
 iterate 7 refine k8 false (bnT c1) ?_
 refine k9 true (bnT c1) ?_
 exact R.go 12 (k18 (.bool false) (by first | (apply congrArg AV.bool; first | exact okAl_1 (by assumption) | exact okAl_2 (by assumption) | exact okAl_2' (by assumption) | exact okAl_3 (by assumption) | exact okAl_3' (by assumption) | exact okAl_4 (by assumption) | exact okAl_5 (x := x) (y := y) (by omega) (by omega) (by assumption) | exact okAl_6 (by assumption) (by omega) (by assumption) (by rw [show ys.length = x by omega]; assumption)) | (exfalso; omega)))
theorem l15Is_c (n : Int) (ys : List Int) (hl : ys.length ≤ 1000000000) : CallA Tryz.prog 55 [.agg [AI n, LI ys]] (.bool (okAl n ys)) := by
 have hsh : ∀ k : Int, 0 ≤ k → k ≤ 62 → 1 ≤ shl64 1 k ∧ shl64 1 k ≤ 4611686018427387904 := fun k h0 h1 => shl_rng k h0 h1
 have hnr := fun h : inR n 0 5 = true => (inR_iff n 0 5).1 h
 have hsr := fun h : inR n 0 5 = true => shl_rng n (hnr h).1 (by have := hnr h; omega)
 refine CallA.of Tryz.func55 rfl (by kernel_rfl) (R.go 10 (k15 true (l01In_c n 0 5) (R.go 2 ((Bool.eq_false_or_eq_true (inR n 0 5)).elim (fun c1 => ?_) (fun c1 => ?_)))))
 ·refine k7 false (bnF c1) ?_
  iterate 5 refine R.go 1 (k7 false (bnF c1) ?_)
  refine k15 true (l01One_c n (by first | omega | (have hq1 := hnr (by assumption); have hq2 := hsr (by assumption); omega)) (by first | omega | (have hq1 := hnr (by assumption); have hq2 := hsr (by assumption); omega))) (k7 false (bnF c1) (R.go 1 (k9 false (bnF c1) (R.go 1 ?_))))
  by_cases c2 : (ys.length : Int) = (shl64 1 n)
  ·refine k7 false (nF c2) ?_
   iterate 4 refine R.go 1 (k7 false (nF c2) ?_)
   refine k15 true (l01MasksE_c n ys hl (by first | omega | (have hq1 := hnr (by assumption); have hq2 := hsr (by assumption); omega)) (by first | omega | (have hq1 := hnr (by assumption); have hq2 := hsr (by assumption); omega))) (k7 false (nF c2) (R.go 1 (k9 false (nF c2) (R.go 1 (k20 (!(ys.any (outE n))) (fun c3 => ?_) (fun c3 => ?_))))))
   ·exact R.go 4 (k18 (.bool false) (by first | (apply congrArg AV.bool; first | exact okAl_1 (by assumption) | exact okAl_2 (by assumption) | exact okAl_2' (by assumption) | exact okAl_3 (by assumption) | exact okAl_3' (by assumption) | exact okAl_4 (by assumption) | exact okAl_5 (x := x) (y := y) (by omega) (by omega) (by assumption) | exact okAl_7 (by assumption) (by omega) (by simpa using (by assumption : (!ys.any (outE n)) = true)) (by rw [show ys.length = x by omega]; assumption) (by assumption)) | (exfalso; omega)))
   have hn := hnr (by assumption)
   have hs := hsr (by assumption)
   refine R.go 5 (k15 true (l01Full_c n (by first | omega | (have hq1 := hnr (by assumption); have hq2 := hsr (by assumption); omega)) (by first | omega | (have hq1 := hnr (by assumption); have hq2 := hsr (by assumption); omega))) (R.go 8 (k10 eI ys 0 (((shl64 1 n) - 1).toNat) ((shl64 1 n) - 1) eI_len ?_ (hji := by first | omega | (have hq1 := hnr (by assumption); have hq2 := hsr (by assumption); omega)) (hj := by first | omega | (have hq1 := hnr (by assumption); have hq2 := hsr (by assumption); omega)))))
   refine R.go 4 (k5 ((ys.getD (((shl64 1 n) - 1).toNat) 0) = ((shl64 1 n) - 1)) (fun c4 => ?_) (fun c4 => ?_))
   ·exact R.go 4 (k18 (.bool false) (by first | (apply congrArg AV.bool; first | exact okAl_1 (by assumption) | exact okAl_2 (by assumption) | exact okAl_2' (by assumption) | exact okAl_3 (by assumption) | exact okAl_3' (by assumption) | exact okAl_4 (by assumption) | exact okAl_5 (x := x) (y := y) (by omega) (by omega) (by assumption) | exact okAl_7 (by assumption) (by omega) (by simpa using (by assumption : (!ys.any (outE n)) = true)) (by rw [show ys.length = x by omega]; assumption) (by assumption)) | (exfalso; omega)))
   refine R.go 7 (k16 (fun (x : Nat) => (⟨(frm 66 [(1, .ptr 0 0), (3, AI ((shl64 1 n) - 1)), (4, AI (x : Int))]), [.box 39 [AI n, LI ys]]⟩ : St)) (fun (x : Nat) => (x ≤ ys.length) ∧ (addA ys x = true)) (fun (x : Nat) => ys.length - x) 0 [1, 3, 4] none ⟨(by omega), (by rfl)⟩ ?_)
   rintro x ⟨h7_1, h7_2⟩ R5 N6
   refine R.go 7 (k4 ((x : Int) ≤ ((shl64 1 n) - 1)) (fun c8 => ?_) (fun c8 => ?_))
   ·refine R.go 8 (k16 (fun (y : Nat) => (⟨(frm 66 [(1, .ptr 0 0), (3, AI ((shl64 1 n) - 1)), (4, AI (x : Int)), (5, AI (y : Int))]), [.box 39 [AI n, LI ys]]⟩ : St)) (fun (y : Nat) => (y ≤ x) ∧ (addR ys x y = true)) (fun (y : Nat) => x - y) 0 [1, 3, 4, 5] none ⟨(by omega), (by rfl)⟩ ?_)
    rintro y ⟨h11_1, h11_2⟩ R9 N10
    refine R.go 7 (k4 ((y : Int) < (x : Int)) (fun c12 => ?_) (fun c12 => ?_))
    ·have hxy := band_rng x y (by omega) (by omega)
     refine R.go 10 (k10 eI ys 0 ((band (x : Int) (y : Int)).toNat) (band (x : Int) (y : Int)) eI_len ?_ (hji := by first | omega | (have hq1 := hnr (by assumption); have hq2 := hsr (by assumption); omega)) (hj := by first | omega | (have hq1 := hnr (by assumption); have hq2 := hsr (by assumption); omega)))
     refine R.go 4 (k10 eI ys 0 x (x : Int) eI_len ?_ (hj := by first | omega | (have hq1 := hnr (by assumption); have hq2 := hsr (by assumption); omega)))
     refine R.go 4 (k10 eI ys 0 y (y : Int) eI_len ?_ (hj := by first | omega | (have hq1 := hnr (by assumption); have hq2 := hsr (by assumption); omega)))
     refine R.go 4 (k5 ((ys.getD ((band (x : Int) (y : Int)).toNat) 0) = (band (ys.getD x 0) (ys.getD y 0))) (fun c13 => ?_) (fun c13 => ?_))
     ·exact R.go 4 (k18 (.bool false) (by first | (apply congrArg AV.bool; first | exact okAl_1 (by assumption) | exact okAl_2 (by assumption) | exact okAl_2' (by assumption) | exact okAl_3 (by assumption) | exact okAl_3' (by assumption) | exact okAl_4 (by assumption) | exact okAl_5 (x := x) (y := y) (by omega) (by omega) (by assumption) | exact okAl_7 (by assumption) (by omega) (by simpa using (by assumption : (!ys.any (outE n)) = true)) (by rw [show ys.length = x by omega]; assumption) (by assumption)) | (exfalso; omega)))
     refine R.go 4 (k1 ((y : Int) + 1) ?_ (h0 := by first | omega | (have hq1 := hnr (by assumption); have hq2 := hsr (by assumption); omega)) (h1 := by first | omega | (have hq1 := hnr (by assumption); have hq2 := hsr (by assumption); omega)))
     exact R.go 2 (k17 R9 (N10 (y + 1) [1, 3, 4, 5] none _ (by kernel_rfl) (by kernel_rfl) ⟨(by omega), (by rw [addR, ‹addR ys x y = true›, addB, decide_eq_true (by assumption)]; rfl)⟩ (by show (x - (y + 1)) < (x - y); omega)))
    refine R.go 4 (k1 ((x : Int) + 1) ?_ (h0 := by first | omega | (have hq1 := hnr (by assumption); have hq2 := hsr (by assumption); omega)) (h1 := by first | omega | (have hq1 := hnr (by assumption); have hq2 := hsr (by assumption); omega)))
    exact R.go 2 (k17 R5 (N6 (x + 1) [1, 3, 4] none _ (by kernel_rfl) (by kernel_rfl) ⟨(by omega), (by exact addA_go (by assumption) (by assumption) (by omega))⟩ (by show (ys.length - (x + 1)) < (ys.length - x); omega)))
   exact R.go 5 (k18 (.bool true) (by first | (apply congrArg AV.bool; first | exact okAl_1 (by assumption) | exact okAl_2 (by assumption) | exact okAl_2' (by assumption) | exact okAl_3 (by assumption) | exact okAl_3' (by assumption) | exact okAl_4 (by assumption) | exact okAl_5 (x := x) (y := y) (by omega) (by omega) (by assumption) | exact okAl_7 (by assumption) (by omega) (by simpa using (by assumption : (!ys.any (outE n)) = true)) (by rw [show ys.length = x by omega]; assumption) (by assumption)) | (exfalso; omega)))
  iterate 6 refine k8 false (nT c2) ?_
  refine k9 true (nT c2) ?_
  exact R.go 6 (k18 (.bool false) (by first | (apply congrArg AV.bool; first | exact okAl_1 (by assumption) | exact okAl_2 (by assumption) | exact okAl_2' (by assumption) | exact okAl_3 (by assumption) | exact okAl_3' (by assumption) | exact okAl_4 (by assumption) | exact okAl_5 (x := x) (y := y) (by omega) (by omega) (by assumption) | exact okAl_7 (by assumption) (by omega) (by simpa using (by assumption : (!ys.any (outE n)) = true)) (by rw [show ys.length = x by omega]; assumption) (by assumption)) | (exfalso; omega)))
 iterate 7 refine k8 false (bnT c1) ?_
 refine k9 true (bnT c1) ?_
 exact R.go 14 (k18 (.bool false) (by first | (apply congrArg AV.bool; first | exact okAl_1 (by assumption) | exact okAl_2 (by assumption) | exact okAl_2' (by assumption) | exact okAl_3 (by assumption) | exact okAl_3' (by assumption) | exact okAl_4 (by assumption) | exact okAl_5 (x := x) (y := y) (by omega) (by omega) (by assumption) | exact okAl_7 (by assumption) (by omega) (by simpa using (by assumption : (!ys.any (outE n)) = true)) (by rw [show ys.length = x by omega]; assumption) (by assumption)) | (exfalso; omega)))
theorem rowN_ext {N : Nat} {X Y : List Int} (hx : X.length = N) (hy : Y.length = N) (h : ∀ j : Nat, j < N → X.getD j 0 = Y.getD j 0) : X = Y := by
 apply List.ext_getElem (by omega)
 intro j h1 h2
 have := h j (by omega)
 simpa [List.getD_eq_getElem?_getD, List.getElem?_eq_getElem h1, List.getElem?_eq_getElem h2] using this
theorem band_comm' (a b : Int) : band a b = band b a := by rw [band_bv, band_bv, BitVec.and_comm]
def bxT (ys : List Int) (m : Int) : Int := ys.getD m.toNat 0
theorem okAl_rel {n : Int} {ys : List Int} (h : okAl n ys = true) : 0 ≤ n ∧ n ≤ 5 ∧ (ys.length : Int) = shl64 1 n ∧ ys.length = 2 ^ n.toNat ∧ (∀ p, InM n.toNat p → InM n.toNat (bxT ys p)) ∧ bxT ys ((shl64 1 n) - 1) = (shl64 1 n) - 1 ∧ ∀ p q, InM n.toNat p → InM n.toNat q → bxT ys (band p q) = band (bxT ys p) (bxT ys q) := by
 simp only [okAl, Bool.and_eq_true, decide_eq_true_eq, inR_iff, Bool.not_eq_true'] at h
 obtain ⟨⟨⟨⟨⟨h0, h5⟩, hl⟩, hm⟩, ht⟩, ha⟩ := h
 have hn : n.toNat ≤ 61 := by omega
 have hl2 : ys.length = 2 ^ n.toNat := by
  have := shl_nat (i := n.toNat) (by omega)
  rw [nn_eq h0] at this
  omega
 have hlt : ys.length < 4611686018427387904 := by
  have := shl_rng n h0 (by omega)
  rw [hl2]
  have h2 : (2 : Nat) ^ n.toNat ≤ 2 ^ 5 := Nat.pow_le_pow_right (by decide) (by omega)
  omega
 have hin : ∀ p, InM n.toNat p → InM n.toNat (bxT ys p) := fun p hp => by
  have h1 := List.any_eq_false.1 hm (ys.getD p.toNat 0) (by rw [List.getD_eq_getElem?_getD, List.getElem?_eq_getElem (by rw [hl2]; exact hp.2)]; exact List.getElem_mem _)
  simp only [outE, Bool.not_eq_true', Bool.not_eq_false] at h1
  have h2 := (full_rng (n := n.toNat) hn (m := bxT ys p)).2
  rw [nn_eq h0] at h2
  exact h2 (by simpa [bxT] using h1)
 refine ⟨h0, h5, hl, hl2, hin, ht, fun p q hp hq => ?_⟩
 obtain ⟨a, rfl, ha2⟩ := inM_nat hp
 obtain ⟨b, rfl, hb2⟩ := inM_nat hq
 have step : ∀ x y : Nat, x < 2 ^ n.toNat → y < x → bxT ys (band (x : Int) (y : Int)) = band (bxT ys (x : Int)) (bxT ys (y : Int)) := fun x y hx hy => by
  have := addA_of ha (x := x) (y := y) (by omega) hy
  simpa [addB, bxT] using this
 rcases Nat.lt_trichotomy a b with hlt2 | rfl | hlt2
 ·have := step b a hb2 hlt2
  rwa [band_comm' (b : Int), band_comm' (bxT ys (b : Int))] at this
 ·have e : ∀ p, InM n.toNat p → band p p = p := fun p hp => by
   refine tb_ext (inM_band hn hp hp).1 hp.1 fun i => ?_
   rw [tb_band hn hp hp, Bool.and_self]
  rw [e _ hp, e _ (hin _ hp)]
 ·exact step a b ha2 hlt2
def mkT (n m : Int) : Nat → Int
 | 0 => (shl64 1 n) - 1
 | k + 1 => if tb m k = true then mkT n m k else band (mkT n m k) (bnot ((shl64 1 n) - 1) (shl64 1 (k : Int)))
theorem mkT_ok {n : Int} {ys : List Int} {m : Int} (h : okAl n ys = true) (hm : InM n.toNat m) : ∀ k : Nat, k ≤ n.toNat → InM n.toNat (mkT n m k) ∧ (∀ v, tb (mkT n m k) v = true ↔ v < n.toNat ∧ (v < k → tb m v = true)) ∧
  ∀ w, tb (bxT ys (mkT n m k)) w = true ↔ w < n.toNat ∧ ∀ v, v < k → tb m v = false → tb (bxT ys (bnot ((shl64 1 n) - 1) (shl64 1 (v : Int)))) w = true := by
 obtain ⟨h0, h5, hl, hl2, hin, ht, had⟩ := okAl_rel h
 have hn : n.toNat ≤ 61 := by omega
 have hf := inM_full (n := n.toNat) hn
 have htf := tb_full (n := n.toNat) hn
 rw [nn_eq h0] at hf htf
 intro k
 induction k with
 | zero =>
  intro _
  refine ⟨hf, fun v => ?_, fun w => ?_⟩
  ·simp [mkT, htf]
  ·simp [mkT, ht, htf]
 | succ k ih =>
  intro hk
  obtain ⟨i1, i2, i3⟩ := ih (by omega)
  have ho := inM_one (n := n.toNat) hn (show k < n.toNat by omega)
  have hc := inM_bnot hn hf ho
  have hct : ∀ v, tb (bnot ((shl64 1 n) - 1) (shl64 1 (k : Int))) v = (decide (v < n.toNat) && !decide (k = v)) := fun v => by rw [tb_bnot hn hf ho, htf, tb_one (by omega)]
  simp only [mkT]
  split
  ·rename_i hb
   refine ⟨i1, fun v => ?_, fun w => ?_⟩
   ·rw [i2]
    constructor
    ·rintro ⟨a1, a2⟩
     refine ⟨a1, fun hv => ?_⟩
     by_cases e : v = k
     ·rw [e]; exact hb
     ·exact a2 (by omega)
    ·rintro ⟨a1, a2⟩
     exact ⟨a1, fun hv => a2 (by omega)⟩
   ·rw [i3]
    constructor
    ·rintro ⟨a1, a2⟩
     refine ⟨a1, fun v hv hz => ?_⟩
     by_cases e : v = k
     ·rw [e, hb] at hz; cases hz
     ·exact a2 v (by omega) hz
    ·rintro ⟨a1, a2⟩
     exact ⟨a1, fun v hv => a2 v (by omega)⟩
  ·rename_i hb
   have hb : tb m k = false := by simpa using hb
   refine ⟨inM_band hn i1 hc, fun v => ?_, fun w => ?_⟩
   ·rw [tb_band hn i1 hc, Bool.and_eq_true, i2, hct]
    constructor
    ·rintro ⟨⟨a1, a2⟩, a3⟩
     simp only [Bool.and_eq_true, decide_eq_true_eq, Bool.not_eq_true', decide_eq_false_iff_not] at a3
     exact ⟨a1, fun hv => a2 (by omega)⟩
    ·rintro ⟨a1, a2⟩
     refine ⟨⟨a1, fun hv => a2 (by omega)⟩, ?_⟩
     have : k ≠ v := fun e => by rw [e] at hb; rw [a2 (by omega)] at hb; cases hb
     simp [a1, this]
   ·rw [had _ _ i1 hc, tb_band hn (hin _ i1) (hin _ hc), Bool.and_eq_true, i3]
    constructor
    ·rintro ⟨⟨a1, a2⟩, a3⟩
     refine ⟨a1, fun v hv hz => ?_⟩
     by_cases e : v = k
     ·rw [e]; exact a3
     ·exact a2 v (by omega) hz
    ·rintro ⟨a1, a2⟩
     exact ⟨⟨a1, fun v hv => a2 v (by omega)⟩, a2 k (by omega) hb⟩
theorem tb_bxT {n : Int} {ys : List Int} {m : Int} (h : okAl n ys = true) (hm : InM n.toNat m) (w : Nat) : tb (bxT ys m) w = true ↔ w < n.toNat ∧ ∀ v, v < n.toNat → tb m v = false → tb (bxT ys (bnot ((shl64 1 n) - 1) (shl64 1 (v : Int)))) w = true := by
 obtain ⟨i1, i2, i3⟩ := mkT_ok h hm n.toNat (Nat.le_refl _)
 have e : mkT n m n.toNat = m := tb_ext i1.1 hm.1 fun v => by
  rw [Bool.eq_iff_iff, i2]
  exact ⟨fun a => a.2 a.1, fun a => ⟨tb_lt hm a, fun _ => a⟩⟩
 rw [← i3, e]
def arw (n : Int) (ys : List Int) (w : Nat) : Nat → Int
 | 0 => 0
 | v + 1 => if band (shr64 (ys.getD (bnot ((shl64 1 n) - 1) (shl64 1 (v : Int))).toNat 0) (w : Int)) 1 = 1 then arw n ys w v else bor (arw n ys w v) (shl64 1 (v : Int))
def arwS (n : Int) (ys : List Int) (N v w : Nat) : List Int := (List.range N).map fun j => if j < w then arw n ys j (v + 1) else arw n ys j v
def frT (n : Int) (ys : List Int) : List Int := arwS n ys n.toNat n.toNat 0
theorem arwS_len (n : Int) (ys : List Int) (N v w : Nat) : (arwS n ys N v w).length = N := by simp [arwS]
theorem arwS_get (n : Int) (ys : List Int) (N v w j : Nat) (hj : j < N) : (arwS n ys N v w).getD j 0 = if j < w then arw n ys j (v + 1) else arw n ys j v := by
 simp [arwS, List.getD_eq_getElem?_getD, List.getElem?_range hj]
theorem arwS_zero (n : Int) (ys : List Int) (N : Nat) : List.replicate N (0 : Int) = arwS n ys N 0 0 := by
 refine rowN_ext (by simp) (arwS_len _ _ _ _ _) fun j hj => ?_
 rw [arwS_get _ _ _ _ _ _ hj]
 simp [arw, List.getD_eq_getElem?_getD, List.getElem?_replicate]
 split <;> rfl
theorem arwS_next {n : Int} {ys : List Int} {N v w : Nat} (h : w = N) : arwS n ys N v w = arwS n ys N (v + 1) 0 := by
 subst h
 refine rowN_ext (arwS_len _ _ _ _ _) (arwS_len _ _ _ _ _) fun j hj => ?_
 rw [arwS_get _ _ _ _ _ _ hj, arwS_get _ _ _ _ _ _ hj, if_pos hj, if_neg (by omega)]
theorem arwS_same {n : Int} {ys : List Int} {N v w : Nat} (hw : w < N) (h : band (shr64 (ys.getD (bnot ((shl64 1 n) - 1) (shl64 1 (v : Int))).toNat 0) (w : Int)) 1 = 1) : arwS n ys N v w = arwS n ys N v (w + 1) := by
 refine rowN_ext (arwS_len _ _ _ _ _) (arwS_len _ _ _ _ _) fun j hj => ?_
 rw [arwS_get _ _ _ _ _ _ hj, arwS_get _ _ _ _ _ _ hj]
 by_cases e : j = w
 ·subst e
  rw [if_neg (by omega), if_pos (by omega), arw, if_pos h]
 ·by_cases e2 : j < w
  ·rw [if_pos e2, if_pos (by omega)]
  ·rw [if_neg e2, if_neg (by omega)]
theorem arwS_set {n : Int} {ys : List Int} {N v w : Nat} (hw : w < N) (h : ¬ band (shr64 (ys.getD (bnot ((shl64 1 n) - 1) (shl64 1 (v : Int))).toNat 0) (w : Int)) 1 = 1) : (arwS n ys N v w).set w (bor ((arwS n ys N v w).getD w 0) (shl64 1 (v : Int))) = arwS n ys N v (w + 1) := by
 refine rowN_ext (by rw [List.length_set, arwS_len]) (arwS_len _ _ _ _ _) fun j hj => ?_
 rw [getD_set_if _ _ _ _ _ (by rw [arwS_len]; exact hw), arwS_get _ _ _ _ _ _ hw, arwS_get _ _ _ _ _ _ hj, arwS_get _ _ _ _ _ _ hj]
 by_cases e : w = j
 ·subst e
  rw [if_pos rfl, if_neg (by omega), if_pos (by omega), arw, if_neg h]
 ·rw [if_neg e]
  by_cases e2 : j < w
  ·rw [if_pos e2, if_pos (by omega)]
  ·rw [if_neg e2, if_neg (by omega)]
theorem cut_in {n : Int} (h0 : 0 ≤ n) (h5 : n ≤ 5) {v : Nat} (hv : v < n.toNat) : InM n.toNat (bnot ((shl64 1 n) - 1) (shl64 1 (v : Int))) := by
 have hn : n.toNat ≤ 61 := by omega
 have hf := inM_full (n := n.toNat) hn
 rw [nn_eq h0] at hf
 exact inM_bnot hn hf (inM_one hn hv)
theorem inM_len {n : Int} {ys : List Int} (h : okAl n ys = true) {p : Int} (hp : InM n.toNat p) : 0 ≤ p ∧ p < (ys.length : Int) := by
 obtain ⟨h0, h5, hl, hl2, _⟩ := okAl_rel h
 have h1 := hp.1
 have h2 := hp.2
 rw [← hl2] at h2
 omega
theorem arw_ok {n : Int} {ys : List Int} (h : okAl n ys = true) {w : Nat} (hw : w < n.toNat) : ∀ v : Nat, v ≤ n.toNat → InM n.toNat (arw n ys w v) ∧ ∀ j, tb (arw n ys w v) j = true ↔ j < v ∧ tb (bxT ys (bnot ((shl64 1 n) - 1) (shl64 1 (j : Int)))) w = false := by
 obtain ⟨h0, h5, hl, hl2, hin, ht, had⟩ := okAl_rel h
 have hn : n.toNat ≤ 61 := by omega
 intro v
 induction v with
 | zero => exact fun _ => ⟨inM_zero _, fun j => by simp [arw, tb_zero]⟩
 | succ v ih =>
  intro hv
  obtain ⟨i1, i2⟩ := ih (by omega)
  have ho := inM_one (n := n.toNat) hn (show v < n.toNat by omega)
  have hc := hin _ (cut_in h0 h5 (show v < n.toNat by omega))
  have hb := has_tb (n := n.toNat) hn hc (i := w) (by omega)
  simp only [arw]
  split
  ·rename_i hy
   have hy := hb.1 hy
   refine ⟨i1, fun j => ?_⟩
   rw [i2]
   constructor
   ·rintro ⟨a1, a2⟩
    exact ⟨by omega, a2⟩
   ·rintro ⟨a1, a2⟩
    refine ⟨?_, a2⟩
    have : j ≠ v := fun e => by rw [e, hy] at a2; cases a2
    omega
  ·rename_i hy
   have hy : tb (bxT ys (bnot ((shl64 1 n) - 1) (shl64 1 (v : Int)))) w = false := by
    cases e : tb (bxT ys (bnot ((shl64 1 n) - 1) (shl64 1 (v : Int)))) w with
    | false => rfl
    | true => exact absurd (hb.2 e) hy
   refine ⟨inM_bor hn i1 ho, fun j => ?_⟩
   rw [tb_bor hn i1 ho, tb_one (by omega), Bool.or_eq_true, i2, decide_eq_true_eq]
   constructor
   ·rintro (⟨a1, a2⟩ | rfl)
    ·exact ⟨by omega, a2⟩
    ·exact ⟨by omega, hy⟩
   ·rintro ⟨a1, a2⟩
    by_cases e : v = j
    ·exact .inr e
    ·exact .inl ⟨by omega, a2⟩
theorem frT_rel {n : Int} {ys : List Int} (h : okAl n ys = true) : RelOK n.toNat (frT n ys) := by
 refine ⟨arwS_len _ _ _ _ _, fun j hj => ?_⟩
 rw [frT, arwS_get _ _ _ _ _ _ hj, if_neg (by omega)]
 exact (arw_ok h hj _ (Nat.le_refl _)).1
theorem bxT_box {n : Int} {ys : List Int} (h : okAl n ys = true) {m : Int} (hm : InM n.toNat m) : bxB (frT n ys) m = bxT ys m := by
 have h0 := okAl_rel h
 obtain ⟨h0, h5, hl, hl2, hin, ht, had⟩ := okAl_rel h
 have hn : n.toNat ≤ 61 := by omega
 have hr := frT_rel h
 have hlen : (frT n ys).length = n.toNat := hr.1
 obtain ⟨b1, b2⟩ := boxB_ok hn hr hm n.toNat (Nat.le_refl _)
 have e : bxB (frT n ys) m = boxB (frT n ys) m n.toNat := by rw [bxB, hlen]
 rw [e]
 refine tb_ext b1.1 (hin _ hm).1 fun k => ?_
 rw [Bool.eq_iff_iff, b2, tb_bxT h hm]
 constructor
 ·rintro ⟨a1, a2⟩
  refine ⟨a1, fun v hv hz => ?_⟩
  cases e3 : tb (bxT ys (bnot ((shl64 1 n) - 1) (shl64 1 (v : Int)))) k with
  | true => rfl
  | false =>
   have := a2 v (by rw [frT, arwS_get _ _ _ _ _ _ a1, if_neg (by omega)]; exact ((arw_ok h a1 _ (Nat.le_refl _)).2 v).2 ⟨hv, e3⟩)
   rw [this] at hz
   cases hz
 ·rintro ⟨a1, a2⟩
  refine ⟨a1, fun j hj => ?_⟩
  rw [frT, arwS_get _ _ _ _ _ _ a1, if_neg (by omega)] at hj
  obtain ⟨c1, c2⟩ := ((arw_ok h a1 _ (Nat.le_refl _)).2 j).1 hj
  cases e3 : tb m j with
  | true => rfl
  | false => rw [a2 j c1 e3] at c2; cases c2
def avl (n : Int) (ys vs : List Int) (a : List (Int × Int)) : Int := gv (mT n) (mU n (bxT ys)) vs a
theorem vs_in {n : Int} {vs : List Int} (h0 : 0 ≤ n) (h5 : n ≤ 5) (h : vs.any (outE n) = false) (j : Nat) (hj : j < vs.length) : InM n.toNat (vs.getD j 0) := by
 have h1 := List.any_eq_false.1 h (vs.getD j 0) (by rw [List.getD_eq_getElem?_getD, List.getElem?_eq_getElem hj]; exact List.getElem_mem _)
 simp only [outE, Bool.not_eq_true', Bool.not_eq_false] at h1
 have h2 := (full_rng (n := n.toNat) (by omega) (m := vs.getD j 0)).2
 rw [nn_eq h0] at h2
 exact h2 (by simpa using h1)
theorem mUT_in {n : Int} {ys : List Int} (h : okAl n ys = true) {k p : Int} (hp : InM n.toNat p) : InM n.toNat (mU n (bxT ys) k p) ∧ mU n (bxT ys) k p = mU n (bxB (frT n ys)) k p := by
 obtain ⟨h0, h5, hl, hl2, hin, ht, had⟩ := okAl_rel h
 have hn : n.toNat ≤ 61 := by omega
 have hf := inM_full (n := n.toNat) hn
 rw [nn_eq h0] at hf
 have hb := inM_bnot hn hf hp
 unfold mU
 split
 ·exact ⟨hin _ hp, (bxT_box h hp).symm⟩
 ·exact ⟨inM_bnot hn hf (hin _ hb), by rw [bxT_box h hb]⟩
theorem avl_in {n : Int} {ys vs : List Int} {a : List (Int × Int)} (h : okAl n ys = true) (hv : vs.any (outE n) = false) (ha : OKM vs.length a) : InM n.toNat (avl n ys vs a) ∧ avl n ys vs a = gv (mT n) (mU n (bxB (frT n ys))) vs a := by
 have h5 := okAl_rel h
 exact gv_in ha (inM_zero _) (fun j hj => vs_in h5.1 h5.2.1 hv j hj) (fun k p q hp hq => mT_in h5.1 (by omega) hp hq) (fun k p _ hp => mUT_in h hp)
theorem avl_rng {n : Int} {ys vs : List Int} {a : List (Int × Int)} (h : okAl n ys = true) (hv : vs.any (outE n) = false) (ha : OKM vs.length a) : (0 ≤ gv (mT n) (mU n (bxT ys)) vs a ∧ gv (mT n) (mU n (bxT ys)) vs a < (ys.length : Int)) ∧ 0 ≤ bnot ((shl64 1 n) - 1) (gv (mT n) (mU n (bxT ys)) vs a) ∧ bnot ((shl64 1 n) - 1) (gv (mT n) (mU n (bxT ys)) vs a) < (ys.length : Int) := by
 have h5 := okAl_rel h
 have h1 := (avl_in h hv ha).1
 have hf := inM_full (n := n.toNat) (by omega)
 rw [nn_eq h5.1] at hf
 exact ⟨inM_len h h1, inM_len h (inM_bnot (by omega) hf h1)⟩
theorem frameOf_c (xs : List Int) : CallA Tryz.prog 36 [LI xs] (.agg [AI xs.length, LI xs]) := by
 refine CallA.of Tryz.func36 rfl (by kernel_rfl) (R.go 7 (k15 true (size_c xs) ?_))
 exact R.go 4 (k18 (.agg [AI xs.length, LI xs]) (by rfl))
theorem frameA_c (n : Int) (ys : List Int) (hal : okAl n ys = true) : CallA Tryz.prog 54 [.agg [AI n, LI ys]] (.agg [AI n, LI (frT n ys)]) := by
 have hr5 := okAl_rel hal
 have hb5 : 0 ≤ n ∧ n ≤ 5 := ⟨hr5.1, hr5.2.1⟩
 have hsh := shl_rng n hr5.1 (by omega)
 refine CallA.of Tryz.func54 rfl (by kernel_rfl) (R.go 9 (R.mk eI 0 2 8 ((n).toNat) n (by kernel_rfl) (by omega) (by decide) (by omega) (by kernel_rfl) (R.go 10 (k16 ((fun | (v, out) => (⟨(frm 43 [(1, .ptr 0 0), (2, .ptr 1 0), (3, .ref 2), (10, AI n), (11, AI (v : Int))]), [.box 39 [AI n, LI ys], .box 46 [AI 0, .nil], rowA eI 2 1 out]⟩ : St) : Nat × (List Int) → St)) (fun | (v, out) => (v ≤ n.toNat) ∧ (out = arwS n ys n.toNat v 0)) (fun | (v, out) => n.toNat - v) (0, (List.replicate ((n).toNat) 0)) [1, 2, 3, 10, 11] none ⟨(by omega), (by exact arwS_zero _ _ _)⟩ ?_))))
 rintro ⟨v, out⟩ ⟨h4_1, rfl⟩ R1 N2
 refine R.go 5 (k4 ((v : Int) < n) (fun c5 => ?_) (fun c5 => ?_))
 ·refine R.go 15 (k16 ((fun | (w, o2) => (⟨(frm 43 [(1, .ptr 0 0), (2, .ptr 1 0), (3, .ref 2), (4, AI (v : Int)), (10, AI n), (11, AI (v : Int)), (15, AI n), (16, AI (w : Int))]), [.box 39 [AI n, LI ys], .box 46 [AI 0, .nil], rowA eI 2 1 o2]⟩ : St) : Nat × (List Int) → St)) (fun | (w, o2) => (w ≤ n.toNat) ∧ (o2 = arwS n ys n.toNat v w)) (fun | (w, o2) => n.toNat - w) (0, (arwS n ys n.toNat v 0)) [1, 2, 3, 4, 10, 11, 15, 16] none ⟨(by omega), (by rfl)⟩ ?_)
  rintro ⟨w, o2⟩ ⟨h9_1, rfl⟩ R6 N7
  have hol := arwS_len n ys n.toNat v w
  have hvs := shl_rng (v : Int) (by omega) (by omega)
  refine R.go 5 (k4 ((w : Int) < n) (fun c10 => ?_) (fun c10 => ?_))
  ·have hci := inM_len hal (cut_in hr5.1 hr5.2.1 (v := v) (by omega))
   refine R.go 13 (k15 true (fullM_c n ys (by omega) (by omega)) (R.go 1 (R.shl 1 (v : Int) (by kernel_rfl) (by omega) (by kernel_rfl) (R.go 1 (k10 eI ys 0 ((bnot ((shl64 1 n) - 1) (shl64 1 (v : Int))).toNat) (bnot ((shl64 1 n) - 1) (shl64 1 (v : Int))) eI_len ?_ (hji := by omega))))))
   refine R.go 2 (k15 true (has_c (ys.getD ((bnot ((shl64 1 n) - 1) (shl64 1 (v : Int))).toNat) 0) (w : Int) (by omega)) (R.go 2 (k5 (band (shr64 (ys.getD ((bnot ((shl64 1 n) - 1) (shl64 1 (v : Int))).toNat) 0) (w : Int)) 1 = 1) (fun c11 => ?_) (fun c11 => ?_))))
   ·refine R.go 3 (k11 2 1 (arwS n ys n.toNat v w).length w (w : Int) ?_ (hji := rfl))
    refine k12 (arwS n ys n.toNat v w) w (R.go 1 (R.shl 1 (v : Int) (by kernel_rfl) (by omega) (by kernel_rfl) (R.go 1 (k11 2 1 (arwS n ys n.toNat v w).length w (w : Int) ?_ (hji := rfl)))))
    refine k13 2 2 (arwS n ys n.toNat v w) w (bor ((arwS n ys n.toNat v w).getD w 0) (shl64 1 (v : Int))) (R.go 3 (k1 ((w : Int) + 1) ?_))
    exact R.go 2 (k17 R6 (N7 (w + 1, (arwS n ys n.toNat v w).set w (bor ((arwS n ys n.toNat v w).getD w 0) (shl64 1 (v : Int)))) [1, 2, 3, 4, 10, 11, 15, 16] none _ (by kernel_rfl) (by kernel_rfl) ⟨(by omega), (by first | exact arwS_same (by omega) (by assumption) | exact arwS_set (by omega) (by assumption))⟩ (by show (n.toNat - (w + 1)) < (n.toNat - w); omega)))
   refine R.go 3 (k1 ((w : Int) + 1) ?_)
   exact R.go 2 (k17 R6 (N7 (w + 1, arwS n ys n.toNat v w) [1, 2, 3, 4, 10, 11, 15, 16] none _ (by kernel_rfl) (by kernel_rfl) ⟨(by omega), (by first | exact arwS_same (by omega) (by assumption) | exact arwS_set (by omega) (by assumption))⟩ (by show (n.toNat - (w + 1)) < (n.toNat - w); omega)))
  refine R.go 3 (k1 ((v : Int) + 1) ?_)
  exact R.go 2 (k17 R1 (N2 (v + 1, arwS n ys n.toNat v w) [1, 2, 3, 10, 11] none _ (by kernel_rfl) (by kernel_rfl) ⟨(by omega), (by exact arwS_next (by omega))⟩ (by show (n.toNat - (v + 1)) < (n.toNat - v); omega)))
 refine R.go 4 (k19 2 (k15 true (frameOf_c (arwS n ys n.toNat v 0)) ?_))
 exact R.go 2 (k18 (.agg [AI ((arwS n ys n.toNat v 0).length), LI (arwS n ys n.toNat v 0)]) (by first | (rw [show v = n.toNat by omega, arwS_len, show ((n.toNat : Nat) : Int) = n by omega]; rfl) | (exfalso; omega)))
theorem l15Value_c : ∀ (k : Nat) (n : Int) (ys vs : List Int) (a : List (Int × Int)) (hk : a.length = k) (hok : OKM vs.length a) (hal : okAl n ys = true) (hv : vs.any (outE n) = false) (hl : a.length ≤ 1000000000), CallA Tryz.prog 58 [.agg [AI n, LI ys], LI vs, LN a] (AI (gv (mT n) (mU n (bxT ys)) vs a)) := by
 intro k
 induction k using Nat.strongRecOn with
 | _ k ih =>
 intro n ys vs a hk hok hal hv hl
 have hlen := okm_pos hok
 have hg := okm_get hok 0 (by omega)
 have hr5 := okAl_rel hal
 have hb5 : 0 ≤ n ∧ n ≤ 5 := ⟨hr5.1, hr5.2.1⟩
 refine CallA.of Tryz.func58 rfl (by kernel_rfl) (R.go 9 (k15 true (l01Full_c n (by first | omega | (have hq := lenm_lef hok ((partsN_two _).2 (by omega)); omega) | (simp; omega)) (by first | omega | (have hq := lenm_lef hok ((partsN_two _).2 (by omega)); omega) | (simp; omega))) (R.go 6 (k10 eN a (0, 0) 0 0 eN_len ?_ (hj := by first | omega | (have hq := lenm_lef hok ((partsN_two _).2 (by omega)); omega) | (simp; omega))))))
 refine R.go 9 (k4 (((a.getD 0 (0, 0)).1) = 0) (fun c1 => ?_) (fun c1 => ?_))
 ·refine R.go 4 (k10 eN a (0, 0) 0 0 eN_len ?_ (hj := by first | omega | (have hq := lenm_lef hok ((partsN_two _).2 (by omega)); omega) | (simp; omega)))
  refine R.go 2 (k10 eI vs 0 (((a.getD 0 (0, 0)).2).toNat) ((a.getD 0 (0, 0)).2) eI_len ?_ (hji := by first | omega | (have hq := lenm_lef hok ((partsN_two _).2 (by omega)); omega) | (simp; omega)) (hj := by first | omega | (have hq := lenm_lef hok ((partsN_two _).2 (by omega)); omega) | (simp; omega)))
  exact R.go 3 (k18 (AI (vs.getD (((a.getD 0 (0, 0)).2).toNat) 0)) (by first | (apply congrArg AI; first | exact gv_two (mT n) (mU n (bxT ys)) vs hok ‹(a.getD 0 (0, 0)).1 = _› (by omega) | exact gv_one (mT n) (mU n (bxT ys)) vs hok ‹(a.getD 0 (0, 0)).1 = _› (by omega) | exact gv_one (mT n) (mU n (bxT ys)) vs hok (k := 6) (by omega) (by omega) | exact gv_var _ _ _ hok (by omega) | exact gv_bot _ _ _ hok (by omega)) | (exfalso; omega)))
 refine R.go 5 (k4 (((a.getD 0 (0, 0)).1) = 1) (fun c2 => ?_) (fun c2 => ?_))
 ·exact R.go 4 (k18 (AI 0) (by first | (apply congrArg AI; first | exact gv_two (mT n) (mU n (bxT ys)) vs hok ‹(a.getD 0 (0, 0)).1 = _› (by omega) | exact gv_one (mT n) (mU n (bxT ys)) vs hok ‹(a.getD 0 (0, 0)).1 = _› (by omega) | exact gv_one (mT n) (mU n (bxT ys)) vs hok (k := 6) (by omega) (by omega) | exact gv_var _ _ _ hok (by omega) | exact gv_bot _ _ _ hok (by omega)) | (exfalso; omega)))
 refine R.go 5 (k4 (((a.getD 0 (0, 0)).1) = 2) (fun c3 => ?_) (fun c3 => ?_))
 ·refine R.go 5 (k15 true (l02Left_c vs.length a hok (by exact (partsN_two _).2 (by omega)) hl) (k15 true (ih ((lef a).length) (by first | omega | (have hq := lenm_lef hok ((partsN_two _).2 (by omega)); omega) | (simp; omega)) n ys vs (lef a) (by first | rfl | simp) (by first | assumption | exact okm_lef hok ((partsN_two _).2 (by omega)) | exact okm_rig hok ((partsN_two _).2 (by omega)) | exact okm_tail hok (partsN_1 (by omega))) hal hv (by first | omega | (have hq := lenm_lef hok ((partsN_two _).2 (by omega)); omega) | (simp; omega))) (R.go 3 (k15 true (l02Right_c vs.length a hok (by exact (partsN_two _).2 (by omega)) hl) (k15 true (ih ((rig a).length) (by first | omega | (have hq := lenm_lef hok ((partsN_two _).2 (by omega)); omega) | (simp; omega)) n ys vs (rig a) (by first | rfl | simp) (by first | assumption | exact okm_lef hok ((partsN_two _).2 (by omega)) | exact okm_rig hok ((partsN_two _).2 (by omega)) | exact okm_tail hok (partsN_1 (by omega))) hal hv (by first | omega | (have hq := lenm_lef hok ((partsN_two _).2 (by omega)); omega) | (simp; omega))) ?_)))))
  exact R.go 3 (k18 (AI (band (gv (mT n) (mU n (bxT ys)) vs (lef a)) (gv (mT n) (mU n (bxT ys)) vs (rig a)))) (by first | (apply congrArg AI; first | exact gv_two (mT n) (mU n (bxT ys)) vs hok ‹(a.getD 0 (0, 0)).1 = _› (by omega) | exact gv_one (mT n) (mU n (bxT ys)) vs hok ‹(a.getD 0 (0, 0)).1 = _› (by omega) | exact gv_one (mT n) (mU n (bxT ys)) vs hok (k := 6) (by omega) (by omega) | exact gv_var _ _ _ hok (by omega) | exact gv_bot _ _ _ hok (by omega)) | (exfalso; omega)))
 refine R.go 5 (k4 (((a.getD 0 (0, 0)).1) = 3) (fun c4 => ?_) (fun c4 => ?_))
 ·refine R.go 5 (k15 true (l02Left_c vs.length a hok (by exact (partsN_two _).2 (by omega)) hl) (k15 true (ih ((lef a).length) (by first | omega | (have hq := lenm_lef hok ((partsN_two _).2 (by omega)); omega) | (simp; omega)) n ys vs (lef a) (by first | rfl | simp) (by first | assumption | exact okm_lef hok ((partsN_two _).2 (by omega)) | exact okm_rig hok ((partsN_two _).2 (by omega)) | exact okm_tail hok (partsN_1 (by omega))) hal hv (by first | omega | (have hq := lenm_lef hok ((partsN_two _).2 (by omega)); omega) | (simp; omega))) (R.go 3 (k15 true (l02Right_c vs.length a hok (by exact (partsN_two _).2 (by omega)) hl) (k15 true (ih ((rig a).length) (by first | omega | (have hq := lenm_lef hok ((partsN_two _).2 (by omega)); omega) | (simp; omega)) n ys vs (rig a) (by first | rfl | simp) (by first | assumption | exact okm_lef hok ((partsN_two _).2 (by omega)) | exact okm_rig hok ((partsN_two _).2 (by omega)) | exact okm_tail hok (partsN_1 (by omega))) hal hv (by first | omega | (have hq := lenm_lef hok ((partsN_two _).2 (by omega)); omega) | (simp; omega))) ?_)))))
  exact R.go 3 (k18 (AI (bor (gv (mT n) (mU n (bxT ys)) vs (lef a)) (gv (mT n) (mU n (bxT ys)) vs (rig a)))) (by first | (apply congrArg AI; first | exact gv_two (mT n) (mU n (bxT ys)) vs hok ‹(a.getD 0 (0, 0)).1 = _› (by omega) | exact gv_one (mT n) (mU n (bxT ys)) vs hok ‹(a.getD 0 (0, 0)).1 = _› (by omega) | exact gv_one (mT n) (mU n (bxT ys)) vs hok (k := 6) (by omega) (by omega) | exact gv_var _ _ _ hok (by omega) | exact gv_bot _ _ _ hok (by omega)) | (exfalso; omega)))
 refine R.go 5 (k4 (((a.getD 0 (0, 0)).1) = 4) (fun c5 => ?_) (fun c5 => ?_))
 ·refine R.go 6 (k15 true (l02Left_c vs.length a hok (by exact (partsN_two _).2 (by omega)) hl) (k15 true (ih ((lef a).length) (by first | omega | (have hq := lenm_lef hok ((partsN_two _).2 (by omega)); omega) | (simp; omega)) n ys vs (lef a) (by first | rfl | simp) (by first | assumption | exact okm_lef hok ((partsN_two _).2 (by omega)) | exact okm_rig hok ((partsN_two _).2 (by omega)) | exact okm_tail hok (partsN_1 (by omega))) hal hv (by first | omega | (have hq := lenm_lef hok ((partsN_two _).2 (by omega)); omega) | (simp; omega))) (R.go 4 (k15 true (l02Right_c vs.length a hok (by exact (partsN_two _).2 (by omega)) hl) (k15 true (ih ((rig a).length) (by first | omega | (have hq := lenm_lef hok ((partsN_two _).2 (by omega)); omega) | (simp; omega)) n ys vs (rig a) (by first | rfl | simp) (by first | assumption | exact okm_lef hok ((partsN_two _).2 (by omega)) | exact okm_rig hok ((partsN_two _).2 (by omega)) | exact okm_tail hok (partsN_1 (by omega))) hal hv (by first | omega | (have hq := lenm_lef hok ((partsN_two _).2 (by omega)); omega) | (simp; omega))) ?_)))))
  exact R.go 3 (k18 (AI (bor (bnot ((shl64 1 n) - 1) (gv (mT n) (mU n (bxT ys)) vs (lef a))) (gv (mT n) (mU n (bxT ys)) vs (rig a)))) (by first | (apply congrArg AI; first | exact gv_two (mT n) (mU n (bxT ys)) vs hok ‹(a.getD 0 (0, 0)).1 = _› (by omega) | exact gv_one (mT n) (mU n (bxT ys)) vs hok ‹(a.getD 0 (0, 0)).1 = _› (by omega) | exact gv_one (mT n) (mU n (bxT ys)) vs hok (k := 6) (by omega) (by omega) | exact gv_var _ _ _ hok (by omega) | exact gv_bot _ _ _ hok (by omega)) | (exfalso; omega)))
 refine R.go 5 (k4 (((a.getD 0 (0, 0)).1) = 5) (fun c6 => ?_) (fun c6 => ?_))
 ·have hri := (avl_rng hal hv (okm_tail hok (partsN_1 (by omega)))).1
  refine R.go 7 (R.slL eN a 1 1 (by kernel_rfl) rfl eN_len (by first | omega | (have hq := lenm_lef hok ((partsN_two _).2 (by omega)); omega) | (simp; omega)) (by kernel_rfl) (k15 true (ih ((a.drop 1).length) (by first | omega | (have hq := lenm_lef hok ((partsN_two _).2 (by omega)); omega) | (simp; omega)) n ys vs (a.drop 1) (by first | rfl | simp) (by first | assumption | exact okm_lef hok ((partsN_two _).2 (by omega)) | exact okm_rig hok ((partsN_two _).2 (by omega)) | exact okm_tail hok (partsN_1 (by omega))) hal hv (by first | omega | (have hq := lenm_lef hok ((partsN_two _).2 (by omega)); omega) | (simp; omega))) (k10 eI ys 0 ((gv (mT n) (mU n (bxT ys)) vs (a.drop 1)).toNat) (gv (mT n) (mU n (bxT ys)) vs (a.drop 1)) eI_len ?_ (hji := by first | omega | (have hq := lenm_lef hok ((partsN_two _).2 (by omega)); omega) | (simp; omega)) (hj := by first | omega | (have hq := lenm_lef hok ((partsN_two _).2 (by omega)); omega) | (simp; omega)))))
  exact R.go 3 (k18 (AI (ys.getD ((gv (mT n) (mU n (bxT ys)) vs (a.drop 1)).toNat) 0)) (by first | (apply congrArg AI; first | exact gv_two (mT n) (mU n (bxT ys)) vs hok ‹(a.getD 0 (0, 0)).1 = _› (by omega) | exact gv_one (mT n) (mU n (bxT ys)) vs hok ‹(a.getD 0 (0, 0)).1 = _› (by omega) | exact gv_one (mT n) (mU n (bxT ys)) vs hok (k := 6) (by omega) (by omega) | exact gv_var _ _ _ hok (by omega) | exact gv_bot _ _ _ hok (by omega)) | (exfalso; omega)))
 have hri := (avl_rng hal hv (okm_tail hok (partsN_1 (by omega)))).2
 refine R.go 11 (R.slL eN a 1 1 (by kernel_rfl) rfl eN_len (by first | omega | (have hq := lenm_lef hok ((partsN_two _).2 (by omega)); omega) | (simp; omega)) (by kernel_rfl) (k15 true (ih ((a.drop 1).length) (by first | omega | (have hq := lenm_lef hok ((partsN_two _).2 (by omega)); omega) | (simp; omega)) n ys vs (a.drop 1) (by first | rfl | simp) (by first | assumption | exact okm_lef hok ((partsN_two _).2 (by omega)) | exact okm_rig hok ((partsN_two _).2 (by omega)) | exact okm_tail hok (partsN_1 (by omega))) hal hv (by first | omega | (have hq := lenm_lef hok ((partsN_two _).2 (by omega)); omega) | (simp; omega))) (R.go 1 (k10 eI ys 0 ((bnot ((shl64 1 n) - 1) (gv (mT n) (mU n (bxT ys)) vs (a.drop 1))).toNat) (bnot ((shl64 1 n) - 1) (gv (mT n) (mU n (bxT ys)) vs (a.drop 1))) eI_len ?_ (hji := by first | omega | (have hq := lenm_lef hok ((partsN_two _).2 (by omega)); omega) | (simp; omega)) (hj := by first | omega | (have hq := lenm_lef hok ((partsN_two _).2 (by omega)); omega) | (simp; omega))))))
 exact R.go 4 (k18 (AI (bnot ((shl64 1 n) - 1) (ys.getD ((bnot ((shl64 1 n) - 1) (gv (mT n) (mU n (bxT ys)) vs (a.drop 1))).toNat) 0))) (by first | (apply congrArg AI; first | exact gv_two (mT n) (mU n (bxT ys)) vs hok ‹(a.getD 0 (0, 0)).1 = _› (by omega) | exact gv_one (mT n) (mU n (bxT ys)) vs hok ‹(a.getD 0 (0, 0)).1 = _› (by omega) | exact gv_one (mT n) (mU n (bxT ys)) vs hok (k := 6) (by omega) (by omega) | exact gv_var _ _ _ hok (by omega) | exact gv_bot _ _ _ hok (by omega)) | (exfalso; omega)))
end Go.Proofs.YtehbliocfpppoaaGreat
