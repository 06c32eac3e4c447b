/- Texts of the proof: AV5, AV6. -/
import Derived.Test.YtehbliocfpppoaaGreatPartN

/-! Drawn algebras; the frame of an algebra. -/
namespace Go.Proofs.YtehbliocfpppoaaGreat
open Go.RowKit Go.Abs
theorem cut_sub {n : Int} (h0 : 0 ≤ n) (h5 : n ≤ 5) {v : Nat} (hv : v < n.toNat) : (shl64 1 n) - 1 - shl64 1 (v : Int) = bnot ((shl64 1 n) - 1) (shl64 1 (v : Int)) := by
 obtain ⟨k, rfl⟩ := Int.eq_ofNat_of_zero_le h0
 have hk : k ≤ 5 := by omega
 have hv' : v < k := by simpa using hv
 have key : ∀ k : Fin 6, ∀ v : Fin 6, v.val < k.val → (shl64 1 (k.val : Int)) - 1 - shl64 1 (v.val : Int) = bnot ((shl64 1 (k.val : Int)) - 1) (shl64 1 (v.val : Int)) := by decide +kernel
 exact key ⟨k, by omega⟩ ⟨v, by omega⟩ hv'
theorem shl_32 {n : Int} (h0 : 0 ≤ n) (h5 : n ≤ 5) : shl64 1 n ≤ 32 := by
 obtain ⟨k, rfl⟩ := Int.eq_ofNat_of_zero_le h0
 have key : ∀ k : Fin 6, shl64 1 (k.val : Int) ≤ 32 := by decide +kernel
 exact key ⟨k, by omega⟩
def frW2 (n : Int) (ys : List Int) (w : Nat) : List Int := (List.range w).map fun j => arw n ys j n.toNat
theorem frW2_s {n : Int} {ys : List Int} {w : Nat} : frW2 n ys w ++ [arw n ys w n.toNat] = frW2 n ys (w + 1) := by rw [frW2, frW2, List.range_succ, List.map_append]; rfl
theorem frW2_len (n : Int) (ys : List Int) (w : Nat) : (frW2 n ys w).length = w := by simp [frW2]
theorem frW2_e {n : Int} {ys : List Int} {w : Nat} (h : w = n.toNat) : frW2 n ys w = frT n ys := by
 subst h
 simp [frW2, frT, arwS]
theorem arw_y {n : Int} {ys : List Int} {w v : Nat} (h : ¬ band (shr64 (ys.getD (bnot ((shl64 1 n) - 1) (shl64 1 (v : Int))).toNat 0) (w : Int)) 1 = 1) : bor (arw n ys w v) (shl64 1 (v : Int)) = arw n ys w (v + 1) := by rw [arw, if_neg h]
theorem arw_n {n : Int} {ys : List Int} {w v : Nat} (h : band (shr64 (ys.getD (bnot ((shl64 1 n) - 1) (shl64 1 (v : Int))).toNat 0) (w : Int)) 1 = 1) : arw n ys w v = arw n ys w (v + 1) := by rw [arw, if_pos h]
def foC (n : Int) (ys : List Int) : Int := if okAl n ys = true then 0 else 1
def foN (n : Int) (ys : List Int) : Int := if okAl n ys = true then n else 0
def foR (n : Int) (ys : List Int) : List Int := if okAl n ys = true then frT n ys else []
theorem fo_0 {n : Int} {ys : List Int} (h : okAl n ys = true) : foC n ys = 0 ∧ foN n ys = n ∧ foR n ys = frT n ys := by simp [foC, foN, foR, h]
theorem fo_1 {n : Int} {ys : List Int} (h : okAl n ys = false) : foC n ys = 1 ∧ foN n ys = 0 ∧ foR n ys = [] := by simp [foC, foN, foR, h]
theorem l15Frame_c (n : Int) (ys : List Int) (hal : okAl n ys = true) : CallA Tryz.prog 59 [.agg [AI n, LI ys]] (.agg [AI n, ownA eI 2 1 (frT n ys)]) := by
 have hr5 := okAl_rel hal
 have hb5 : 0 ≤ n ∧ n ≤ 5 := ⟨hr5.1, hr5.2.1⟩
 have hsh := shl_rng n hr5.1 (by omega)
 refine CallA.of Tryz.func59 rfl (by kernel_rfl) (R.go 16 (k16 ((fun | (w, R2) => (⟨(frm 43 [(1, .ptr 0 0), (2, .ptr 1 0), (3, .ref 2), (4, AI (w : Int))]), [.box 39 [AI n, LI ys], .box 46 [AI 0, .nil], rowA eI 2 1 R2]⟩ : St) : Nat × (List Int) → St)) (fun | (w, R2) => ((w : Int) ≤ n) ∧ (R2 = frW2 n ys w)) (fun | (w, R2) => (n - w).toNat) (0, []) [1, 2, 3, 4] none ⟨(by omega), (by rfl)⟩ ?_))
 rintro ⟨w, R2⟩ ⟨h4_1, rfl⟩ R1 N2
 have hwl := frW2_len n ys w
 refine R.go 8 (k4 ((w : Int) < n) (fun c5 => ?_) (fun c5 => ?_))
 ·refine R.go 13 (k16 ((fun | (v, m) => (⟨(frm 43 [(1, .ptr 0 0), (2, .ptr 1 0), (3, .ref 2), (4, AI (w : Int)), (5, AI m), (6, AI (v : Int))]), [.box 39 [AI n, LI ys], .box 46 [AI 0, .nil], rowA eI 2 1 (frW2 n ys w)]⟩ : St) : Nat × Int → St)) (fun | (v, m) => ((v : Int) ≤ n) ∧ (m = arw n ys w v)) (fun | (v, m) => (n - v).toNat) (0, 0) [1, 2, 3, 4, 5, 6] none ⟨(by omega), (by rfl)⟩ ?_)
  rintro ⟨v, m⟩ ⟨h9_1, rfl⟩ R6 N7
  refine R.go 8 (k4 ((v : Int) < n) (fun c10 => ?_) (fun c10 => ?_))
  ·have hcs := cut_sub hb5.1 hb5.2 (show v < n.toNat by omega)
   have hin := inM_len hal (cut_in hb5.1 hb5.2 (show v < n.toNat by omega))
   have hs1 := shl_rng (v : Int) (by omega) (by omega)
   refine R.go 9 (k15 true (l01Full_c n (by omega) (by omega)) (R.go 1 (k15 true (l01One_c (v : Int) (by omega) (by omega)) (k1 (((shl64 1 n) - 1) - (shl64 1 (v : Int))) (k10 eI ys 0 ((((shl64 1 n) - 1) - (shl64 1 (v : Int))).toNat) (((shl64 1 n) - 1) - (shl64 1 (v : Int))) eI_len ?_ (hji := by omega))))))
   refine R.go 2 (k15 true (l01Bit_c (ys.getD ((((shl64 1 n) - 1) - (shl64 1 (v : Int))).toNat) 0) (w : Int) (by omega) (by omega)) (R.go 2 (k5 (band (shr64 (ys.getD ((((shl64 1 n) - 1) - (shl64 1 (v : Int))).toNat) 0) (w : Int)) 1 = 1) (fun c11 => ?_) (fun c11 => ?_))))
   ·refine R.go 3 (k15 true (l01One_c (v : Int) (by omega) (by omega)) (R.go 6 (k1 ((v : Int) + 1) ?_)))
    exact R.go 2 (k17 R6 (N7 (v + 1, bor (arw n ys w v) (shl64 1 (v : Int))) [1, 2, 3, 4, 5, 6] none _ (by kernel_rfl) (by kernel_rfl) ⟨(by omega), (by first | exact arw_y (by rw [← hcs]; assumption) | exact arw_n (by rw [← hcs]; assumption))⟩ (by show ((n - (v + 1)).toNat) < ((n - v).toNat); omega)))
   refine R.go 4 (k1 ((v : Int) + 1) ?_)
   exact R.go 2 (k17 R6 (N7 (v + 1, arw n ys w v) [1, 2, 3, 4, 5, 6] none _ (by kernel_rfl) (by kernel_rfl) ⟨(by omega), (by first | exact arw_y (by rw [← hcs]; assumption) | exact arw_n (by rw [← hcs]; assumption))⟩ (by show ((n - (v + 1)).toNat) < ((n - v).toNat); omega)))
  refine R.go 5 (k14 eI (frW2 n ys w) [arw n ys w v] 2 2 1 8 eI_one (R.go 5 (k1 ((w : Int) + 1) ?_)))
  exact R.go 2 (k17 R1 (N2 (w + 1, (frW2 n ys w) ++ [arw n ys w v]) [1, 2, 3, 4] (some [0, 1, 2]) _ (by kernel_rfl) (by kernel_rfl) ⟨(by omega), (by rw [← frW2_s]; exact congrArg (fun q => frW2 n ys w ++ [q]) (by rw [show v = n.toNat by omega]))⟩ (by show ((n - (w + 1)).toNat) < ((n - w).toNat); omega)))
 refine R.go 4 (k15 false (l05Make_c (frW2 n ys w) (by first | omega | (simp <;> omega))) ?_ (hr := by simp [AV.closed, closedL, AI, ownA_closed eI_closed]))
 exact R.go 2 (k18 (.agg [AI ((frW2 n ys w).length), ownA eI 2 1 (frW2 n ys w)]) (by first | (rw [frW2_e (by omega), show ((frT n ys).length : Int) = n by simp [frT, arwS_len]; omega]) | (exfalso; omega)))
theorem foA_c (n : Int) (ys : List Int) (hl : ys.length ≤ 1000000000) : CallA Tryz.prog 18 [.agg [AI n, LI ys]] (.tup [.agg [AI (foN n ys), ownA eI 2 1 (foR n ys)], AI (foC n ys)]) := by
 refine CallA.of Tryz.func18 rfl (by kernel_rfl) (R.go 10 (k15 true (l15Is_c n ys hl) (R.go 2 (k20 (okAl n ys) (fun c1 => ?_) (fun c1 => ?_)))))
 ·obtain ⟨hd1, hd2, hd3⟩ := fo_1 (by assumption : okAl n ys = false)
  refine R.go 6 (R.nilB 1 1 2 1 (by kernel_rfl) ?_)
  exact k18 (.tup [.agg [AI 0, ownA eI 2 1 []], AI 1]) (by first | (rw [hd1, hd2, hd3]) | (exfalso; omega))
 obtain ⟨hd1, hd2, hd3⟩ := fo_0 (by assumption : okAl n ys = true)
 refine R.go 4 (k15 true (l15Frame_c n ys c1) ?_)
 exact R.go 3 (k18 (.tup [.agg [AI n, ownA eI 2 1 (frT n ys)], AI 0]) (by first | (rw [hd1, hd2, hd3]) | (exfalso; omega)))
theorem l15Of_c (n : Int) (xs : List Int) (hn : 0 ≤ n ∧ n ≤ 5 ∧ (xs.length : Int) = n) : CallE Tryz.prog 185 [.agg [AI n, LI xs]] (fun (b : Nat) (r : AV) => ∃ ys : List Int, r = .agg [AI n, ownA eI 2 1 ys] ∧ (1 ≤ ys.length ∧ ys.length ≤ 100)) := by
 have hsh := shl_rng n (by omega) (by omega)
 have hs5 : shl64 1 n ≤ 32 := shl_32 (by omega) (by omega)
 refine CallE.of Tryz.func185 rfl (by kernel_rfl) (fun b => (R.go 20 (k16 ((fun | (m, ys) => (⟨(frm 26 [(1, .ptr 1 0), (2, .ptr 2 0), (3, .ptr 3 0), (4, AI (m : Int))]), [.inert (.base b), .box 46 [AI n, LI xs], .box 39 [AI 0, .nil], .box 39 [AI n, .ref 4], rowA eI 2 1 ys]⟩ : St) : Nat × (List Int) → St)) (fun | (m, ys) => ((m : Int) ≤ shl64 1 n) ∧ (ys.length = m)) (fun | (m, ys) => (shl64 1 n).toNat - m) (0, []) [1, 2, 3, 4] (some [0, 1, 2, 4, 3]) ⟨(by omega), (by rfl)⟩ ?_)))
 rintro ⟨m, ys⟩ ⟨h4_1, h4_2⟩ R1 N2
 refine R.go 6 (k15 true (l01Full_c n (by omega) (by omega)) (R.go 2 (k4 ((m : Int) ≤ ((shl64 1 n) - 1)) (fun c5 => ?_) (fun c5 => ?_))))
 ·refine R.go 9 (k15 true (l01Box_c xs (m : Int) (by first | omega | (simp <;> omega))) (R.go 1 (k14 eI ys [boxA xs (m : Int) xs.length] 4 2 1 8 eI_one (R.go 6 (k1 ((m : Int) + 1) ?_)))))
  exact R.go 2 (k17 R1 (N2 (m + 1, ys ++ [boxA xs (m : Int) xs.length]) [1, 2, 3, 4] (some [0, 1, 2, 3, 4]) _ (by kernel_rfl) (by kernel_rfl) ⟨(by omega), (by (simp <;> omega))⟩ (by show ((shl64 1 n).toNat - (m + 1)) < ((shl64 1 n).toNat - m); omega)))
 exact R.go 6 (R.retB (.agg [AI n, ownA eI 2 1 ys]) (by kernel_rfl) (by kernel_rfl) ⟨ys, rfl, by first | (omega) | (exfalso; omega)⟩)
theorem l15Of_c_cl (n : Int) (xs : List Int) : ∀ (b : Nat) (r : AV), (fun (b : Nat) (r : AV) => ∃ ys : List Int, r = .agg [AI n, ownA eI 2 1 ys] ∧ (1 ≤ ys.length ∧ ys.length ≤ 100)) b r → ClosedN b r := by
 rintro b r ⟨ys, rfl, e0⟩
 exact (closedN_agg (closedNL_cons closedN_int (closedNL_cons (closedN_ownC _ eI_closed) closedNL_nil)))
theorem l15Some_c_r2 (c : List Int) (p : Nat) (h atoms : Int) (eo1 so1 no1 : Nat) (co1 : List AV) (eo2 so2 no2 : Nat) (co2 : List AV) (hc : BY c) (ha : 1 ≤ atoms ∧ atoms ≤ 5) : CallX Tryz.prog 100 [.ptr 0 0, AI atoms] [.box 123 [LB c, AI (p : Int), .int .u64 h], .list eo1 so1 no1 co1, .list eo2 so2 no2 co2] (fun (resX : AV) (objX : List AObj) => ∃ n : Int, ∃ ys : List Int, ∃ p1 : Nat, ∃ h1 : Int, (1 ≤ ys.length ∧ ys.length ≤ 100) ∧ resX = .agg [AI n, .ref 3] ∧ objX = [.box 123 [LB c, AI (p1 : Int), .int .u64 h1], .list eo1 so1 no1 co1, .list eo2 so2 no2 co2, rowA eI 2 1 ys]) := by
 have hcl : c.length ≤ 4096 := hc.1
 have hcb := hc.2
 refine CallX.dropE (CallX.ofF Tryz.func100 rfl (by kernel_rfl) ?_)
 intro usC frC hfC
 refine R.go 8 (k25 (k26a 3 usC frC (k27f 3 39 [AI 0, .nil] (someX_c_r3 c p h atoms eo1 so1 no1 co1 eo2 so2 no2 co2 39 2 1 [AI 0, .nil] hc (by omega))) (h3 := by rintro _ _ ⟨_, ⟨_, _, _, _, _, _, rfl, rfl⟩, rfl⟩; exact Nat.le_of_ble_eq_true (by kernel_rfl))) ?_)
 rintro _ _ ⟨_, _, ⟨_, ⟨n_1, xs_2, p1_3, h1_4, f5, f6, rfl, rfl⟩, rfl⟩, rfl, rfl⟩
 refine R.go 11 (k4 (n_1 > atoms) (fun c7 => ?_) (fun c7 => ?_))
 ·refine R.go 1 (R.lit (s := 1) (n := 1) (cs := rows eI [1]) (by kernel_rfl) (by kernel_rfl) (k15 true (l05Make_c [1] (by first | omega | (simp <;> omega))).frz (R.go 5 (R.callE (avs0 := [.agg [AI ([1].length), LI [1]]]) (l15Of_c ([1].length) [1] (by first | omega | (simp; done) | (simp; omega))) (by kernel_rfl) (.cons (.agg (.cons (.leaf rfl) (.cons (.leaf rfl) (.nil)))) (.nil)) (l15Of_c_cl ([1].length) [1]) (by kernel_rfl) ?_))))
  intro bE1 hbn8 hsn9 rn10 hrn11
  obtain ⟨ysE1, rfl, heE1_1⟩ := hrn11
  clear hbn8 hsn9
  exact R.go 2 (R.retX (res := .agg [AI ([1].length), .ref 6]) (hp' := [.box 123 [LB c, AI (p1_3 : Int), .int .u64 h1_4], .list eo1 so1 no1 co1, .list eo2 so2 no2 co2, .dead, .box 39 [AI ([1].length), .ref 6], .box 46 [AI ([1].length), LI [1]], rowA eI 2 1 ysE1]) (by kernel_rfl) (by kernel_rfl) (by kernel_rfl) (by kernel_rfl) ⟨[0, 1, 2, 6], by kernel_rfl, by decide, [1].length, ysE1, p1_3, h1_4, by first | assumption | omega, by kernel_rfl, by kernel_rfl⟩)
 refine R.go 4 (R.callE (avs0 := [.agg [AI n_1, LI xs_2]]) (l15Of_c n_1 xs_2 (by first | omega | (simp; done) | (simp; omega))) (by kernel_rfl) (.cons (.agg (.cons (.leaf rfl) (.cons (.leaf rfl) (.nil)))) (.nil)) (l15Of_c_cl n_1 xs_2) (by kernel_rfl) ?_)
 intro bE2 hbn12 hsn13 rn14 hrn15
 obtain ⟨ysE2, rfl, heE2_1⟩ := hrn15
 clear hbn12 hsn13
 exact R.go 2 (R.retX (res := .agg [AI n_1, .ref 6]) (hp' := [.box 123 [LB c, AI (p1_3 : Int), .int .u64 h1_4], .list eo1 so1 no1 co1, .list eo2 so2 no2 co2, .dead, .box 39 [AI n_1, .ref 6], .box 46 [AI n_1, LI xs_2], rowA eI 2 1 ysE2]) (by kernel_rfl) (by kernel_rfl) (by kernel_rfl) (by kernel_rfl) ⟨[0, 1, 2, 6], by kernel_rfl, by decide, n_1, ysE2, p1_3, h1_4, by first | assumption | omega, by kernel_rfl, by kernel_rfl⟩)
theorem l15Draw_c_r1 (c : List Int) (p : Nat) (h atoms : Int) (eo1 so1 no1 : Nat) (co1 : List AV) (hc : BY c) (ha : 1 ≤ atoms ∧ atoms ≤ 5) : CallX Tryz.prog 46 [.ptr 0 0, AI atoms] [.box 123 [LB c, AI (p : Int), .int .u64 h], .list eo1 so1 no1 co1] (fun (resX : AV) (objX : List AObj) => ∃ n : Int, ∃ ys : List Int, ∃ p1 : Nat, ∃ h1 : Int, (1 ≤ ys.length ∧ ys.length ≤ 100) ∧ resX = .agg [AI n, .ref 2] ∧ objX = [.box 123 [LB c, AI (p1 : Int), .int .u64 h1], .list eo1 so1 no1 co1, rowA eI 2 1 ys]) := by
 have hcl : c.length ≤ 4096 := hc.1
 have hcb := hc.2
 refine CallX.dropE (CallX.ofF Tryz.func46 rfl (by kernel_rfl) ?_)
 intro usC frC hfC
 refine R.go 8 (k25 (k26a 2 usC frC (k27d 2 39 [AI 0, .nil] (l15Some_c_r2 c p h atoms eo1 so1 no1 co1 39 2 1 [AI 0, .nil] hc ha)) (h3 := by rintro _ _ ⟨_, ⟨_, _, _, _, _, rfl, rfl⟩, rfl⟩; exact Nat.le_of_ble_eq_true (by kernel_rfl))) ?_)
 rintro _ _ ⟨_, _, ⟨_, ⟨n_1, ys_2, p1_3, h1_4, f5, rfl, rfl⟩, rfl⟩, rfl, rfl⟩
 refine R.go 7 (k25 (k26d 2 usC frC (k27a 2 39 [AI 0, .nil] (nextX_c_r3b c p1_3 h1_4 20 eo1 so1 no1 co1 39 2 1 [AI 0, .nil] 2 1 ys_2.length (rows eI ys_2) 39 n_1 hc))) ?_)
 rintro _ _ ⟨_, _, ⟨_, ⟨v_6, p1_7, h1_8, f9, rfl, rfl⟩, rfl⟩, rfl, rfl⟩
 refine R.go 7 (k4 (v_6 = 0) (fun c10 => ?_) (fun c10 => ?_))
 ·refine R.any (by decide +kernel) (by kernel_rfl) (k24 2 (np_retX _ _ _ _ _ _) (k24 7 (np_retX _ _ _ _ _ _) (R.anyA 0 (.ptr 5 1) (by kernel_rfl) (np_retX _ _ _ _ _ _) (R.anyA 3 (.ptr 5 1) (by kernel_rfl) (np_retX _ _ _ _ _ _) (k23 1 4 ?_ ?_)))))
  ·refine R.go 2 (k22 4 (R.go 2 (k22 5 (R.go 2 (k22 6 (k25 (k26d 2 usC frC (k27a 2 39 [AI 0, .nil] (nextX_c_r3b c p1_7 h1_8 ys_2.length eo1 so1 no1 co1 39 2 1 [AI 0, .nil] 2 1 ys_2.length (rows eI ys_2) 39 n_1 hc))) ?_))))))
   rintro _ _ ⟨_, _, ⟨_, ⟨v_11, p1_12, h1_13, f14, rfl, rfl⟩, rfl⟩, rfl, rfl⟩
   refine R.go 1 (k22 8 (k25 (k26d 2 usC frC (k27a 2 39 [AI 0, .nil] (nextX_c_r3b c p1_12 h1_13 4 eo1 so1 no1 co1 39 2 1 [AI 0, .nil] 2 1 ys_2.length (rows eI ys_2) 39 n_1 hc))) ?_))
   rintro _ _ ⟨_, _, ⟨_, ⟨v_15, p1_16, h1_17, f18, rfl, rfl⟩, rfl⟩, rfl, rfl⟩
   refine R.go 1 (R.anyO 9 4 1 ys_2.length ((v_11).toNat) v_11 (by kernel_rfl) (by omega) (by omega) (np_retX _ _ _ _ _ _) (k22 10 (k13 4 2 ys_2 ((v_11).toNat) v_15 (R.go 1 (k21 ?_)))))
   exact R.go 6 (R.retX (res := .agg [AI n_1, .ref 4]) (hp' := [.box 123 [LB c, AI (p1_16 : Int), .int .u64 h1_17], .list eo1 so1 no1 co1, .dead, .box 39 [AI n_1, .ref 4], rowA eI 2 1 (ys_2.set ((v_11).toNat) v_15), .box 39 [AI n_1, .ref 4]]) (by kernel_rfl) (by kernel_rfl) (by kernel_rfl) (by kernel_rfl) ⟨[0, 1, 4], by kernel_rfl, by decide, n_1, ys_2.set ((v_11).toNat) v_15, p1_16, h1_17, by first | assumption | omega | (simp only [List.length_set]; omega), by kernel_rfl, by kernel_rfl⟩)
  refine R.go 2 (k23 1 5 ?_ ?_)
  ·refine R.go 2 (k22 5 (R.go 2 (k22 6 (k25 (k26d 2 usC frC (k27a 2 39 [AI 0, .nil] (nextX_c_r3b c p1_7 h1_8 ys_2.length eo1 so1 no1 co1 39 2 1 [AI 0, .nil] 2 1 ys_2.length (rows eI ys_2) 39 n_1 hc))) ?_))))
   rintro _ _ ⟨_, _, ⟨_, ⟨v_19, p1_20, h1_21, f22, rfl, rfl⟩, rfl⟩, rfl, rfl⟩
   refine R.go 1 (k22 8 (k25 (k26d 2 usC frC (k27a 2 39 [AI 0, .nil] (nextX_c_r3b c p1_20 h1_21 4 eo1 so1 no1 co1 39 2 1 [AI 0, .nil] 2 1 ys_2.length (rows eI ys_2) 39 n_1 hc))) ?_))
   rintro _ _ ⟨_, _, ⟨_, ⟨v_23, p1_24, h1_25, f26, rfl, rfl⟩, rfl⟩, rfl, rfl⟩
   refine R.go 1 (R.anyO 9 4 1 ys_2.length ((v_19).toNat) v_19 (by kernel_rfl) (by omega) (by omega) (np_retX _ _ _ _ _ _) (k22 10 (k13 4 2 ys_2 ((v_19).toNat) v_23 (R.go 1 (k21 ?_)))))
   exact R.go 6 (R.retX (res := .agg [AI n_1, .ref 4]) (hp' := [.box 123 [LB c, AI (p1_24 : Int), .int .u64 h1_25], .list eo1 so1 no1 co1, .dead, .box 39 [AI n_1, .ref 4], rowA eI 2 1 (ys_2.set ((v_19).toNat) v_23), .box 39 [AI n_1, .ref 4]]) (by kernel_rfl) (by kernel_rfl) (by kernel_rfl) (by kernel_rfl) ⟨[0, 1, 4], by kernel_rfl, by decide, n_1, ys_2.set ((v_19).toNat) v_23, p1_24, h1_25, by first | assumption | omega | (simp only [List.length_set]; omega), by kernel_rfl, by kernel_rfl⟩)
  refine R.go 2 (k23 1 6 ?_ ?_)
  ·refine R.go 2 (k22 6 (k25 (k26d 2 usC frC (k27a 2 39 [AI 0, .nil] (nextX_c_r3b c p1_7 h1_8 ys_2.length eo1 so1 no1 co1 39 2 1 [AI 0, .nil] 2 1 ys_2.length (rows eI ys_2) 39 n_1 hc))) ?_))
   rintro _ _ ⟨_, _, ⟨_, ⟨v_27, p1_28, h1_29, f30, rfl, rfl⟩, rfl⟩, rfl, rfl⟩
   refine R.go 1 (k22 8 (k25 (k26d 2 usC frC (k27a 2 39 [AI 0, .nil] (nextX_c_r3b c p1_28 h1_29 4 eo1 so1 no1 co1 39 2 1 [AI 0, .nil] 2 1 ys_2.length (rows eI ys_2) 39 n_1 hc))) ?_))
   rintro _ _ ⟨_, _, ⟨_, ⟨v_31, p1_32, h1_33, f34, rfl, rfl⟩, rfl⟩, rfl, rfl⟩
   refine R.go 1 (R.anyO 9 4 1 ys_2.length ((v_27).toNat) v_27 (by kernel_rfl) (by omega) (by omega) (np_retX _ _ _ _ _ _) (k22 10 (k13 4 2 ys_2 ((v_27).toNat) v_31 (R.go 1 (k21 ?_)))))
   exact R.go 6 (R.retX (res := .agg [AI n_1, .ref 4]) (hp' := [.box 123 [LB c, AI (p1_32 : Int), .int .u64 h1_33], .list eo1 so1 no1 co1, .dead, .box 39 [AI n_1, .ref 4], rowA eI 2 1 (ys_2.set ((v_27).toNat) v_31), .box 39 [AI n_1, .ref 4]]) (by kernel_rfl) (by kernel_rfl) (by kernel_rfl) (by kernel_rfl) ⟨[0, 1, 4], by kernel_rfl, by decide, n_1, ys_2.set ((v_27).toNat) v_31, p1_32, h1_33, by first | assumption | omega | (simp only [List.length_set]; omega), by kernel_rfl, by kernel_rfl⟩)
  refine k25 (k26d 2 usC frC (k27a 2 39 [AI 0, .nil] (nextX_c_r3b c p1_7 h1_8 ys_2.length eo1 so1 no1 co1 39 2 1 [AI 0, .nil] 2 1 ys_2.length (rows eI ys_2) 39 n_1 hc))) ?_
  rintro _ _ ⟨_, _, ⟨_, ⟨v_35, p1_36, h1_37, f38, rfl, rfl⟩, rfl⟩, rfl, rfl⟩
  refine R.go 1 (k23 1 8 ?_ ?_)
  ·refine R.go 2 (k22 8 (k25 (k26d 2 usC frC (k27a 2 39 [AI 0, .nil] (nextX_c_r3b c p1_36 h1_37 4 eo1 so1 no1 co1 39 2 1 [AI 0, .nil] 2 1 ys_2.length (rows eI ys_2) 39 n_1 hc))) ?_))
   rintro _ _ ⟨_, _, ⟨_, ⟨v_39, p1_40, h1_41, f42, rfl, rfl⟩, rfl⟩, rfl, rfl⟩
   refine R.go 1 (R.anyO 9 4 1 ys_2.length ((v_35).toNat) v_35 (by kernel_rfl) (by omega) (by omega) (np_retX _ _ _ _ _ _) (k22 10 (k13 4 2 ys_2 ((v_35).toNat) v_39 (R.go 1 (k21 ?_)))))
   exact R.go 6 (R.retX (res := .agg [AI n_1, .ref 4]) (hp' := [.box 123 [LB c, AI (p1_40 : Int), .int .u64 h1_41], .list eo1 so1 no1 co1, .dead, .box 39 [AI n_1, .ref 4], rowA eI 2 1 (ys_2.set ((v_35).toNat) v_39), .box 39 [AI n_1, .ref 4]]) (by kernel_rfl) (by kernel_rfl) (by kernel_rfl) (by kernel_rfl) ⟨[0, 1, 4], by kernel_rfl, by decide, n_1, ys_2.set ((v_35).toNat) v_39, p1_40, h1_41, by first | assumption | omega | (simp only [List.length_set]; omega), by kernel_rfl, by kernel_rfl⟩)
  refine k25 (k26d 2 usC frC (k27a 2 39 [AI 0, .nil] (nextX_c_r3b c p1_36 h1_37 4 eo1 so1 no1 co1 39 2 1 [AI 0, .nil] 2 1 ys_2.length (rows eI ys_2) 39 n_1 hc))) ?_
  rintro _ _ ⟨_, _, ⟨_, ⟨v_43, p1_44, h1_45, f46, rfl, rfl⟩, rfl⟩, rfl, rfl⟩
  refine R.go 1 (k22 1 (R.go 2 (R.anyO 9 4 1 ys_2.length ((v_35).toNat) v_35 (by kernel_rfl) (by omega) (by omega) (np_retX _ _ _ _ _ _) (k22 10 (k13 4 2 ys_2 ((v_35).toNat) v_43 (R.go 1 (k21 ?_)))))))
  exact R.go 6 (R.retX (res := .agg [AI n_1, .ref 4]) (hp' := [.box 123 [LB c, AI (p1_44 : Int), .int .u64 h1_45], .list eo1 so1 no1 co1, .dead, .box 39 [AI n_1, .ref 4], rowA eI 2 1 (ys_2.set ((v_35).toNat) v_43), .box 39 [AI n_1, .ref 4]]) (by kernel_rfl) (by kernel_rfl) (by kernel_rfl) (by kernel_rfl) ⟨[0, 1, 4], by kernel_rfl, by decide, n_1, ys_2.set ((v_35).toNat) v_43, p1_44, h1_45, by first | assumption | omega | (simp only [List.length_set]; omega), by kernel_rfl, by kernel_rfl⟩)
 refine R.go 5 (k4 (v_6 = 1) (fun c47 => ?_) (fun c47 => ?_))
 ·refine R.go 2 (R.lit (s := 1) (n := 3) (cs := rows eI [(-1), 6, 2]) (by kernel_rfl) (by kernel_rfl) (k25 (k26a 2 usC frC (k27e 2 39 [AI 0, .nil] (pickX_c_r3b c p1_7 h1_8 [(-1), 6, 2] eo1 so1 no1 co1 39 2 1 [AI 0, .nil] 2 1 ys_2.length (rows eI ys_2) 39 n_1 hc (by simp))) (h3 := by rintro _ _ ⟨_, ⟨_, _, _, rfl, rfl⟩, rfl⟩; exact Nat.le_of_ble_eq_true (by kernel_rfl))) ?_))
  rintro _ _ ⟨_, _, ⟨_, ⟨v_48, p1_49, h1_50, rfl, rfl⟩, rfl⟩, rfl, rfl⟩
  exact R.go 9 (R.retX (res := .agg [AI v_48, .ref 4]) (hp' := [.box 123 [LB c, AI (p1_49 : Int), .int .u64 h1_50], .list eo1 so1 no1 co1, .dead, .box 39 [AI v_48, .ref 4], rowA eI 2 1 ys_2, .box 39 [AI v_48, .ref 4]]) (by kernel_rfl) (by kernel_rfl) (by kernel_rfl) (by kernel_rfl) ⟨[0, 1, 4], by kernel_rfl, by decide, v_48, ys_2, p1_49, h1_50, by first | assumption | omega | (simp only [List.length_set]; omega), by kernel_rfl, by kernel_rfl⟩)
 exact R.go 7 (R.retX (res := .agg [AI n_1, .ref 4]) (hp' := [.box 123 [LB c, AI (p1_7 : Int), .int .u64 h1_8], .list eo1 so1 no1 co1, .dead, .box 39 [AI n_1, .ref 4], rowA eI 2 1 ys_2, .box 39 [AI n_1, .ref 4]]) (by kernel_rfl) (by kernel_rfl) (by kernel_rfl) (by kernel_rfl) ⟨[0, 1, 4], by kernel_rfl, by decide, n_1, ys_2, p1_7, h1_8, by first | assumption | omega | (simp only [List.length_set]; omega), by kernel_rfl, by kernel_rfl⟩)
theorem drAV_c (c : List Int) (hc : BY c) : CallX Tryz.prog 15 [LB c] [] (fun (resX : AV) (objX : List AObj) => ∃ n : Int, ∃ ys vs : List Int, ∃ a : List (Int × Int), (ys.length ≤ 100) ∧ (vs.length ≤ 6) ∧ (a.length ≤ 1000) ∧ resX = .tup [.agg [AI n, LI ys], LI vs, LN a] ∧ objX = []) := by
 have hcl : c.length ≤ 4096 := hc.1
 have hcb := hc.2
 refine CallX.dropE (CallX.ofF Tryz.func15 rfl (by kernel_rfl) ?_)
 intro usC frC hfC
 refine R.go 9 (R.enter (avs := [LB c]) Tryz.func45 rfl (by kernel_rfl) (by kernel_rfl) (by kernel_rfl) ?_)
 intro us1
 refine R.go 9 (k2 .u64 (c.length : Int) (u64_id (by omega) (by omega)) (R.go 11 (k16 ((fun | (i, hh) => (⟨(frm 38 [(0, LB c), (3, .ptr 3 0), (4, AI (i : Int))]), [.frame usC frC, .box 39 [AI 0, .nil], .frame us1 (frm 46 [(0, LB c), (2, .ptr 1 0), (3, .nil), (4, .nil), (9, LB c)]), .box 123 [LB c, AI 0, .int .u64 hh]]⟩ : St) : Nat × Int → St)) (fun | (i, hh) => i ≤ c.length) (fun | (i, hh) => c.length - i) (0, (IntKind.u64.wrap (7129 + (c.length : Int)))) [0, 3, 4] none (by omega) ?_)))
 rintro ⟨i, hh⟩ h5_1 R2 N3
 refine R.go 8 ?_
 by_cases c6 : (i : Int) < (c.length : Int)
 ·refine k7 true (dT c6) (R.go 1 (k7 true (dT c6) (R.go 1 (k9 true (dT c6) (R.go 1 ?_)))))
  have c7 : (i : Int) < 4096 := by omega
  refine k6 (dT c7) ?_
  have hbi := hcb i (by omega)
  refine R.go 12 (k10 eB c 0 i (i : Int) eB_len (R.go 1 (k2 .u64 (c.getD i 0) (u64_id (by omega) (by omega)) (R.go 9 (k1 ((i : Int) + 1) ?_)))))
  exact R.go 2 (k17 R2 (N3 (i + 1, IntKind.u64.wrap ((IntKind.u64.wrap ((IntKind.u64.wrap (hh * 1099511628211)) + (c.getD i 0))) + 11)) [0, 3, 4] none _ (by kernel_rfl) (by kernel_rfl) (by omega) (by show (c.length - (i + 1)) < (c.length - i); omega)))
 iterate 2 refine k8 true (dF c6) ?_
 refine k9 false (dF c6) (R.go 8 (R.back (.ptr 3 0) (frm 46 [(0, LB c), (2, .ptr 1 0), (3, .nil), (4, .nil), (9, LB c)]) (by kernel_rfl) (by kernel_rfl) (by kernel_rfl) (R.go 5 (R.deadF 2 (by kernel_rfl) (by kernel_rfl) (k25 (k26a 0 usC frC (k26a 1 [] [] (CallX.perm [1, 0] [1, 0] (k27d 1 39 [AI 0, .nil] (l15Draw_c_r1 c 0 hh 4 39 2 1 [AI 0, .nil] hc (by first | omega | (rw [wrap_id (by omega) (by omega)]; omega)))) (by kernel_rfl) (by kernel_rfl) (by kernel_rfl) (by rintro _ _ ⟨_, ⟨_, _, _, _, _, rfl, rfl⟩, rfl⟩; exact Nat.le_of_ble_eq_true (by kernel_rfl))) (h3 := by rintro _ _ ⟨_, _, ⟨_, ⟨_, _, _, _, _, rfl, rfl⟩, rfl⟩, rfl, rfl⟩; exact Nat.le_of_ble_eq_true (by kernel_rfl))) (h3 := by rintro _ _ ⟨_, _, ⟨_, _, ⟨_, ⟨_, _, _, _, _, rfl, rfl⟩, rfl⟩, rfl, rfl⟩, rfl, rfl⟩; exact Nat.le_of_ble_eq_true (by kernel_rfl))) ?_)))))
 rintro _ _ ⟨_, _, ⟨_, _, ⟨_, _, ⟨_, ⟨n_8, ys_9, p1_10, h1_11, f12, rfl, rfl⟩, rfl⟩, rfl, rfl⟩, rfl, rfl⟩, rfl, rfl⟩
 refine R.go 8 (k19 4 (R.kfix 0 (us := usC) (by kernel_rfl) (hfC.frz 4 (LI ys_9) (Nat.le_of_ble_eq_true (by kernel_rfl))) (R.go 3 (k16 ((fun | (i, vs, q, hs) => (⟨(frm 46 [(2, .ptr 1 0), (5, .ptr 2 0), (6, .ptr 3 0), (7, .ref 4), (8, AI (i : Int))]), [.frame usC frC, .box 39 [AI 0, .nil], .box 123 [LB c, AI (q : Int), .int .u64 hs], .box 39 [AI n_8, LI ys_9], rowA eI 2 1 vs]⟩ : St) : Nat × (List Int) × Nat × Int → St)) (fun | (i, vs, q, hs) => (i ≤ 6) ∧ (vs.length = i)) (fun | (i, vs, q, hs) => 6 - i) (0, [], p1_10, h1_11) [2, 5, 6, 7, 8] (some [0, 1, 3, 6, 5]) ⟨(by omega), (by rfl)⟩ ?_ (hs := canonF (fr := frC) (fun (frX : List AV) => (⟨(frm 46 [(2, .ptr 1 0), (5, .ptr 2 0), (6, .ptr 3 0), (7, .ref 4), (8, AI 0)]), [.frame usC frX, .box 39 [AI 0, .nil], .box 123 [LB c, AI (p1_10 : Int), .int .u64 h1_11], .box 39 [AI n_8, LI ys_9], rowA eI 2 1 []]⟩ : St)) (hfC.ren _ (by kernel_rfl)) (by kernel_rfl) (by kernel_rfl))))))
 rintro ⟨i, vs, q, hs⟩ ⟨h16_1, h16_2⟩ R13 N14
 refine R.go 6 (k4 ((i : Int) < 6) (fun c17 => ?_) (fun c17 => ?_))
 ·refine R.go 9 (k25 (k26b 0 usC frC (CallX.perm [1, 0, 2, 3] [1, 0, 2, 3] (k27b 2 39 [AI n_8, LI ys_9] (k27a 1 39 [AI 0, .nil] (nextX_c_r3 c q hs ys_9.length 39 2 1 [AI 0, .nil] 39 2 1 [AI n_8, LI ys_9] 2 1 vs.length (rows eI vs) hc))) (by kernel_rfl) (by kernel_rfl) (by kernel_rfl) (by rintro _ _ ⟨_, ⟨_, ⟨_, _, _, _, rfl, rfl⟩, rfl⟩, rfl⟩; exact Nat.le_of_ble_eq_true (by kernel_rfl)))) ?_)
  rintro _ _ ⟨_, _, ⟨_, _, ⟨_, ⟨_, ⟨v_18, p1_19, h1_20, f21, rfl, rfl⟩, rfl⟩, rfl⟩, rfl, rfl⟩, rfl, rfl⟩
  refine R.go 1 (k14 eI vs [v_18] 4 2 1 8 eI_one (R.kfix 0 (us := usC) (by kernel_rfl) (hfC.kill 4 (Nat.le_of_ble_eq_true (by kernel_rfl))) (R.go 5 (k1 ((i : Int) + 1) ?_))))
  exact R.go 2 (k17 R13 (N14 (i + 1, vs ++ [v_18], p1_19, h1_20) [2, 5, 6, 7, 8] (some [0, 1, 2, 3, 4]) _ (by kernel_rfl) (canonF (fr := frC) (fun (frX : List AV) => (⟨(frm 46 [(2, .ptr 1 0), (5, .ptr 2 0), (6, .ptr 3 0), (7, .ref 4), (8, AI ((i : Int) + 1))]), [.frame usC frX, .box 39 [AI 0, .nil], .box 123 [LB c, AI (p1_19 : Int), .int .u64 h1_20], .box 39 [AI n_8, LI ys_9], rowA eI 2 1 (vs ++ [v_18])]⟩ : St)) (hfC.ren _ (by kernel_rfl)) (by kernel_rfl) (by kernel_rfl)) ⟨(by omega), (by (simp <;> omega))⟩ (by show (6 - (i + 1)) < (6 - i); omega)))
 refine R.go 5 (k25 (k26b 0 usC frC (CallX.perm [1, 0, 2, 3] [1, 0, 2, 3] (k27b 2 39 [AI n_8, LI ys_9] (k27a 1 39 [AI 0, .nil] (nextX_c_r3 c q hs 24 39 2 1 [AI 0, .nil] 39 2 1 [AI n_8, LI ys_9] 2 1 vs.length (rows eI vs) hc))) (by kernel_rfl) (by kernel_rfl) (by kernel_rfl) (by rintro _ _ ⟨_, ⟨_, ⟨_, _, _, _, rfl, rfl⟩, rfl⟩, rfl⟩; exact Nat.le_of_ble_eq_true (by kernel_rfl)))) ?_)
 rintro _ _ ⟨_, _, ⟨_, _, ⟨_, ⟨_, ⟨v_22, p1_23, h1_24, f25, rfl, rfl⟩, rfl⟩, rfl⟩, rfl, rfl⟩, rfl, rfl⟩
 refine R.go 7 (k4 (v_22 = 0) (fun c26 => ?_) (fun c26 => ?_))
 ·refine R.go 3 (R.lit (s := 1) (n := 2) (cs := rows eI [(-1), 32]) (by kernel_rfl) (by kernel_rfl) (k25 (k26a 0 usC frC (CallX.perm [1, 0, 2, 3] [1, 0, 2, 3] (k27g 2 39 [AI n_8, LI ys_9] (k27e 1 39 [AI 0, .nil] (pickX_c_r3 c p1_23 h1_24 [(-1), 32] 39 2 1 [AI 0, .nil] 39 2 1 [AI n_8, LI ys_9] 2 1 vs.length (rows eI vs) hc (by simp)))) (by kernel_rfl) (by kernel_rfl) (by kernel_rfl) (by rintro _ _ ⟨_, ⟨_, ⟨_, _, _, rfl, rfl⟩, rfl⟩, rfl⟩; exact Nat.le_of_ble_eq_true (by kernel_rfl))) (h3 := by rintro _ _ ⟨_, _, ⟨_, ⟨_, ⟨_, _, _, rfl, rfl⟩, rfl⟩, rfl⟩, rfl, rfl⟩; exact Nat.le_of_ble_eq_true (by kernel_rfl))) ?_))
  rintro _ _ ⟨_, _, ⟨_, _, ⟨_, ⟨_, ⟨v_27, p1_28, h1_29, rfl, rfl⟩, rfl⟩, rfl⟩, rfl, rfl⟩, rfl, rfl⟩
  refine k11 4 1 vs.length 0 0 ?_ (hji := rfl)
  refine k13 4 2 vs 0 v_27 (R.go 3 (R.any (by decide +kernel) (by kernel_rfl) (k24 1 (np_retX _ _ _ _ _ _) (k24 2 (np_retX _ _ _ _ _ _) (k24 3 (np_retX _ _ _ _ _ _) (k23 0 4 ?_ ?_))))))
  ·refine R.go 2 (k22 4 (k25 (k26b 0 usC frC (CallX.perm [1, 0, 2, 3] [1, 0, 2, 3] (k27b 2 39 [AI n_8, LI ys_9] (k27a 1 39 [AI 0, .nil] (nextX_c_r3 c p1_28 h1_29 12 39 2 1 [AI 0, .nil] 39 2 1 [AI n_8, LI ys_9] 2 1 ((vs.set 0 v_27).length) (rows eI (vs.set 0 v_27)) hc))) (by kernel_rfl) (by kernel_rfl) (by kernel_rfl) (by rintro _ _ ⟨_, ⟨_, ⟨_, _, _, _, rfl, rfl⟩, rfl⟩, rfl⟩; exact Nat.le_of_ble_eq_true (by kernel_rfl)))) ?_))
   rintro _ _ ⟨_, _, ⟨_, _, ⟨_, ⟨_, ⟨v_30, p1_31, h1_32, f33, rfl, rfl⟩, rfl⟩, rfl⟩, rfl, rfl⟩, rfl, rfl⟩
   refine R.go 1 (k28 5 (AI (IntKind.i64.wrap (2 + v_30))) (np_retX _ _ _ _ _ _) (k22 6 (k25 (k26b 0 usC frC (CallX.perm [1, 0, 2, 3] [1, 0, 2, 3] (k27b 2 39 [AI n_8, LI ys_9] (k27a 1 39 [AI 0, .nil] (anyX_c_r3 c p1_31 h1_32 (IntKind.i64.wrap (2 + v_30)) 4 true 39 2 1 [AI 0, .nil] 39 2 1 [AI n_8, LI ys_9] 2 1 ((vs.set 0 v_27).length) (rows eI (vs.set 0 v_27)) hc (by first | omega | (rw [wrap_id (by omega) (by omega)]; omega))))) (by kernel_rfl) (by kernel_rfl) (by kernel_rfl) (by rintro _ _ ⟨_, ⟨_, ⟨_, _, _, _, rfl, rfl⟩, rfl⟩, rfl⟩; exact Nat.le_of_ble_eq_true (by kernel_rfl)))) ?_)))
   rintro _ _ ⟨_, _, ⟨_, _, ⟨_, ⟨_, ⟨r_34, p1_35, h1_36, f37, rfl, rfl⟩, rfl⟩, rfl⟩, rfl, rfl⟩, rfl, rfl⟩
   refine R.go 1 (k22 7 (R.go 2 (k22 8 (R.go 2 (k22 9 (R.go 2 (k21 (k19 4 (R.kfix 0 (us := usC) (by kernel_rfl) (hfC.frz 4 (LI (vs.set 0 v_27)) (Nat.le_of_ble_eq_true (by kernel_rfl))) ?_)))))))))
   exact R.retX (res := .tup [.agg [AI n_8, LI ys_9], LI (vs.set 0 v_27), LN r_34]) (hp' := [.dead, .box 39 [AI n_8, LI ys_9], .box 123 [LB c, AI (p1_35 : Int), .int .u64 h1_36], .box 39 [AI n_8, LI ys_9], .dead]) (by kernel_rfl) (by kernel_rfl) (by kernel_rfl) (by kernel_rfl) ⟨[], by kernel_rfl, by decide, n_8, ys_9, vs.set 0 v_27, r_34, by first | omega | (simp; omega), by first | omega | (simp; omega), by first | omega | (simp; omega), by kernel_rfl, by kernel_rfl⟩
  refine k25 (k26b 0 usC frC (CallX.perm [1, 0, 2, 3] [1, 0, 2, 3] (k27b 2 39 [AI n_8, LI ys_9] (k27a 1 39 [AI 0, .nil] (nextX_c_r3 c p1_28 h1_29 12 39 2 1 [AI 0, .nil] 39 2 1 [AI n_8, LI ys_9] 2 1 ((vs.set 0 v_27).length) (rows eI (vs.set 0 v_27)) hc))) (by kernel_rfl) (by kernel_rfl) (by kernel_rfl) (by rintro _ _ ⟨_, ⟨_, ⟨_, _, _, _, rfl, rfl⟩, rfl⟩, rfl⟩; exact Nat.le_of_ble_eq_true (by kernel_rfl)))) ?_
  rintro _ _ ⟨_, _, ⟨_, _, ⟨_, ⟨_, ⟨v_38, p1_39, h1_40, f41, rfl, rfl⟩, rfl⟩, rfl⟩, rfl, rfl⟩, rfl, rfl⟩
  refine R.go 1 (k28 5 (AI (IntKind.i64.wrap (2 + v_38))) (np_retX _ _ _ _ _ _) (k23 0 6 ?_ ?_))
  ·refine R.go 2 (k22 6 (k25 (k26b 0 usC frC (CallX.perm [1, 0, 2, 3] [1, 0, 2, 3] (k27b 2 39 [AI n_8, LI ys_9] (k27a 1 39 [AI 0, .nil] (anyX_c_r3 c p1_39 h1_40 (IntKind.i64.wrap (2 + v_38)) 4 true 39 2 1 [AI 0, .nil] 39 2 1 [AI n_8, LI ys_9] 2 1 ((vs.set 0 v_27).length) (rows eI (vs.set 0 v_27)) hc (by first | omega | (rw [wrap_id (by omega) (by omega)]; omega))))) (by kernel_rfl) (by kernel_rfl) (by kernel_rfl) (by rintro _ _ ⟨_, ⟨_, ⟨_, _, _, _, rfl, rfl⟩, rfl⟩, rfl⟩; exact Nat.le_of_ble_eq_true (by kernel_rfl)))) ?_))
   rintro _ _ ⟨_, _, ⟨_, _, ⟨_, ⟨_, ⟨r_42, p1_43, h1_44, f45, rfl, rfl⟩, rfl⟩, rfl⟩, rfl, rfl⟩, rfl, rfl⟩
   refine R.go 1 (k22 7 (R.go 2 (k22 8 (R.go 2 (k22 9 (R.go 2 (k21 (k19 4 (R.kfix 0 (us := usC) (by kernel_rfl) (hfC.frz 4 (LI (vs.set 0 v_27)) (Nat.le_of_ble_eq_true (by kernel_rfl))) ?_)))))))))
   exact R.retX (res := .tup [.agg [AI n_8, LI ys_9], LI (vs.set 0 v_27), LN r_42]) (hp' := [.dead, .box 39 [AI n_8, LI ys_9], .box 123 [LB c, AI (p1_43 : Int), .int .u64 h1_44], .box 39 [AI n_8, LI ys_9], .dead]) (by kernel_rfl) (by kernel_rfl) (by kernel_rfl) (by kernel_rfl) ⟨[], by kernel_rfl, by decide, n_8, ys_9, vs.set 0 v_27, r_42, by first | omega | (simp; omega), by first | omega | (simp; omega), by first | omega | (simp; omega), by kernel_rfl, by kernel_rfl⟩
  refine k25 (k26b 0 usC frC (CallX.perm [1, 0, 2, 3] [1, 0, 2, 3] (k27b 2 39 [AI n_8, LI ys_9] (k27a 1 39 [AI 0, .nil] (anyX_c_r3 c p1_39 h1_40 (IntKind.i64.wrap (2 + v_38)) 4 true 39 2 1 [AI 0, .nil] 39 2 1 [AI n_8, LI ys_9] 2 1 ((vs.set 0 v_27).length) (rows eI (vs.set 0 v_27)) hc (by first | omega | (rw [wrap_id (by omega) (by omega)]; omega))))) (by kernel_rfl) (by kernel_rfl) (by kernel_rfl) (by rintro _ _ ⟨_, ⟨_, ⟨_, _, _, _, rfl, rfl⟩, rfl⟩, rfl⟩; exact Nat.le_of_ble_eq_true (by kernel_rfl)))) ?_
  rintro _ _ ⟨_, _, ⟨_, _, ⟨_, ⟨_, ⟨r_46, p1_47, h1_48, f49, rfl, rfl⟩, rfl⟩, rfl⟩, rfl, rfl⟩, rfl, rfl⟩
  refine R.go 1 (k22 0 (R.go 2 (k22 7 (R.go 2 (k22 8 (R.go 2 (k22 9 (R.go 2 (k21 (k19 4 (R.kfix 0 (us := usC) (by kernel_rfl) (hfC.frz 4 (LI (vs.set 0 v_27)) (Nat.le_of_ble_eq_true (by kernel_rfl))) ?_)))))))))))
  exact R.retX (res := .tup [.agg [AI n_8, LI ys_9], LI (vs.set 0 v_27), LN r_46]) (hp' := [.dead, .box 39 [AI n_8, LI ys_9], .box 123 [LB c, AI (p1_47 : Int), .int .u64 h1_48], .box 39 [AI n_8, LI ys_9], .dead]) (by kernel_rfl) (by kernel_rfl) (by kernel_rfl) (by kernel_rfl) ⟨[], by kernel_rfl, by decide, n_8, ys_9, vs.set 0 v_27, r_46, by first | omega | (simp; omega), by first | omega | (simp; omega), by first | omega | (simp; omega), by kernel_rfl, by kernel_rfl⟩
 refine R.go 5 (k4 (v_22 = 1) (fun c50 => ?_) (fun c50 => ?_))
 ·refine R.go 2 (k19 4 (R.kfix 0 (us := usC) (by kernel_rfl) (hfC.frz 4 (LI vs) (Nat.le_of_ble_eq_true (by kernel_rfl))) (R.slL eI vs 1 1 (by kernel_rfl) rfl eI_len (by omega) (by kernel_rfl) (R.go 4 (R.any (by decide +kernel) (by kernel_rfl) (k24 1 (np_retX _ _ _ _ _ _) (k24 2 (np_retX _ _ _ _ _ _) (k24 3 (np_retX _ _ _ _ _ _) (k23 0 4 ?_ ?_)))))))))
  ·refine R.go 2 (k22 4 (R.deadF 4 (by kernel_rfl) (by kernel_rfl) (k25 (k26f 0 usC frC (k26b 3 [] [] (CallX.perm [1, 0, 2] [1, 0, 2] (k27b 2 39 [AI n_8, LI ys_9] (k27a 1 39 [AI 0, .nil] (nextX_c_r2 c p1_23 h1_24 12 39 2 1 [AI 0, .nil] 39 2 1 [AI n_8, LI ys_9] hc))) (by kernel_rfl) (by kernel_rfl) (by kernel_rfl) (by rintro _ _ ⟨_, ⟨_, ⟨_, _, _, _, rfl, rfl⟩, rfl⟩, rfl⟩; exact Nat.le_of_ble_eq_true (by kernel_rfl))))) ?_)))
   rintro _ _ ⟨_, _, ⟨_, _, ⟨_, _, ⟨_, ⟨_, ⟨v_51, p1_52, h1_53, f54, rfl, rfl⟩, rfl⟩, rfl⟩, rfl, rfl⟩, rfl, rfl⟩, rfl, rfl⟩
   refine R.go 1 (k28 5 (AI (IntKind.i64.wrap (2 + v_51))) (np_retX _ _ _ _ _ _) (k22 6 (k25 (k26f 0 usC frC (k26b 3 [] [] (CallX.perm [1, 0, 2] [1, 0, 2] (k27b 2 39 [AI n_8, LI ys_9] (k27a 1 39 [AI 0, .nil] (anyX_c_r2 c p1_52 h1_53 (IntKind.i64.wrap (2 + v_51)) 4 true 39 2 1 [AI 0, .nil] 39 2 1 [AI n_8, LI ys_9] hc (by first | omega | (rw [wrap_id (by omega) (by omega)]; omega))))) (by kernel_rfl) (by kernel_rfl) (by kernel_rfl) (by rintro _ _ ⟨_, ⟨_, ⟨_, _, _, _, rfl, rfl⟩, rfl⟩, rfl⟩; exact Nat.le_of_ble_eq_true (by kernel_rfl))))) ?_)))
   rintro _ _ ⟨_, _, ⟨_, _, ⟨_, _, ⟨_, ⟨_, ⟨r_55, p1_56, h1_57, f58, rfl, rfl⟩, rfl⟩, rfl⟩, rfl, rfl⟩, rfl, rfl⟩, rfl, rfl⟩
   refine R.go 1 (k22 7 (R.go 2 (k22 8 (R.go 2 (k22 9 (R.go 2 (k21 ?_)))))))
   exact R.retX (res := .tup [.agg [AI n_8, LI ys_9], LI (vs.drop 1), LN r_55]) (hp' := [.dead, .box 39 [AI n_8, LI ys_9], .box 123 [LB c, AI (p1_56 : Int), .int .u64 h1_57], .box 39 [AI n_8, LI ys_9], .frame [] []]) (by kernel_rfl) (by kernel_rfl) (by kernel_rfl) (by kernel_rfl) ⟨[], by kernel_rfl, by decide, n_8, ys_9, vs.drop 1, r_55, by first | omega | (simp; omega), by first | omega | (simp; omega), by first | omega | (simp; omega), by kernel_rfl, by kernel_rfl⟩
  refine R.deadF 4 (by kernel_rfl) (by kernel_rfl) (k25 (k26f 0 usC frC (k26b 3 [] [] (CallX.perm [1, 0, 2] [1, 0, 2] (k27b 2 39 [AI n_8, LI ys_9] (k27a 1 39 [AI 0, .nil] (nextX_c_r2 c p1_23 h1_24 12 39 2 1 [AI 0, .nil] 39 2 1 [AI n_8, LI ys_9] hc))) (by kernel_rfl) (by kernel_rfl) (by kernel_rfl) (by rintro _ _ ⟨_, ⟨_, ⟨_, _, _, _, rfl, rfl⟩, rfl⟩, rfl⟩; exact Nat.le_of_ble_eq_true (by kernel_rfl))))) ?_)
  rintro _ _ ⟨_, _, ⟨_, _, ⟨_, _, ⟨_, ⟨_, ⟨v_59, p1_60, h1_61, f62, rfl, rfl⟩, rfl⟩, rfl⟩, rfl, rfl⟩, rfl, rfl⟩, rfl, rfl⟩
  refine R.go 1 (k28 5 (AI (IntKind.i64.wrap (2 + v_59))) (np_retX _ _ _ _ _ _) (k23 0 6 ?_ ?_))
  ·refine R.go 2 (k22 6 (k25 (k26f 0 usC frC (k26b 3 [] [] (CallX.perm [1, 0, 2] [1, 0, 2] (k27b 2 39 [AI n_8, LI ys_9] (k27a 1 39 [AI 0, .nil] (anyX_c_r2 c p1_60 h1_61 (IntKind.i64.wrap (2 + v_59)) 4 true 39 2 1 [AI 0, .nil] 39 2 1 [AI n_8, LI ys_9] hc (by first | omega | (rw [wrap_id (by omega) (by omega)]; omega))))) (by kernel_rfl) (by kernel_rfl) (by kernel_rfl) (by rintro _ _ ⟨_, ⟨_, ⟨_, _, _, _, rfl, rfl⟩, rfl⟩, rfl⟩; exact Nat.le_of_ble_eq_true (by kernel_rfl))))) ?_))
   rintro _ _ ⟨_, _, ⟨_, _, ⟨_, _, ⟨_, ⟨_, ⟨r_63, p1_64, h1_65, f66, rfl, rfl⟩, rfl⟩, rfl⟩, rfl, rfl⟩, rfl, rfl⟩, rfl, rfl⟩
   refine R.go 1 (k22 7 (R.go 2 (k22 8 (R.go 2 (k22 9 (R.go 2 (k21 ?_)))))))
   exact R.retX (res := .tup [.agg [AI n_8, LI ys_9], LI (vs.drop 1), LN r_63]) (hp' := [.dead, .box 39 [AI n_8, LI ys_9], .box 123 [LB c, AI (p1_64 : Int), .int .u64 h1_65], .box 39 [AI n_8, LI ys_9], .frame [] []]) (by kernel_rfl) (by kernel_rfl) (by kernel_rfl) (by kernel_rfl) ⟨[], by kernel_rfl, by decide, n_8, ys_9, vs.drop 1, r_63, by first | omega | (simp; omega), by first | omega | (simp; omega), by first | omega | (simp; omega), by kernel_rfl, by kernel_rfl⟩
  refine k25 (k26f 0 usC frC (k26b 3 [] [] (CallX.perm [1, 0, 2] [1, 0, 2] (k27b 2 39 [AI n_8, LI ys_9] (k27a 1 39 [AI 0, .nil] (anyX_c_r2 c p1_60 h1_61 (IntKind.i64.wrap (2 + v_59)) 4 true 39 2 1 [AI 0, .nil] 39 2 1 [AI n_8, LI ys_9] hc (by first | omega | (rw [wrap_id (by omega) (by omega)]; omega))))) (by kernel_rfl) (by kernel_rfl) (by kernel_rfl) (by rintro _ _ ⟨_, ⟨_, ⟨_, _, _, _, rfl, rfl⟩, rfl⟩, rfl⟩; exact Nat.le_of_ble_eq_true (by kernel_rfl))))) ?_
  rintro _ _ ⟨_, _, ⟨_, _, ⟨_, _, ⟨_, ⟨_, ⟨r_67, p1_68, h1_69, f70, rfl, rfl⟩, rfl⟩, rfl⟩, rfl, rfl⟩, rfl, rfl⟩, rfl, rfl⟩
  refine R.go 1 (k22 0 (R.go 2 (k22 7 (R.go 2 (k22 8 (R.go 2 (k22 9 (R.go 2 (k21 ?_)))))))))
  exact R.retX (res := .tup [.agg [AI n_8, LI ys_9], LI (vs.drop 1), LN r_67]) (hp' := [.dead, .box 39 [AI n_8, LI ys_9], .box 123 [LB c, AI (p1_68 : Int), .int .u64 h1_69], .box 39 [AI n_8, LI ys_9], .frame [] []]) (by kernel_rfl) (by kernel_rfl) (by kernel_rfl) (by kernel_rfl) ⟨[], by kernel_rfl, by decide, n_8, ys_9, vs.drop 1, r_67, by first | omega | (simp; omega), by first | omega | (simp; omega), by first | omega | (simp; omega), by kernel_rfl, by kernel_rfl⟩
 refine R.go 3 (R.any (by decide +kernel) (by kernel_rfl) (k24 1 (np_retX _ _ _ _ _ _) (k24 2 (np_retX _ _ _ _ _ _) (k24 3 (np_retX _ _ _ _ _ _) (k23 0 4 ?_ ?_)))))
 ·refine R.go 2 (k22 4 (k25 (k26b 0 usC frC (CallX.perm [1, 0, 2, 3] [1, 0, 2, 3] (k27b 2 39 [AI n_8, LI ys_9] (k27a 1 39 [AI 0, .nil] (nextX_c_r3 c p1_23 h1_24 12 39 2 1 [AI 0, .nil] 39 2 1 [AI n_8, LI ys_9] 2 1 vs.length (rows eI vs) hc))) (by kernel_rfl) (by kernel_rfl) (by kernel_rfl) (by rintro _ _ ⟨_, ⟨_, ⟨_, _, _, _, rfl, rfl⟩, rfl⟩, rfl⟩; exact Nat.le_of_ble_eq_true (by kernel_rfl)))) ?_))
  rintro _ _ ⟨_, _, ⟨_, _, ⟨_, ⟨_, ⟨v_71, p1_72, h1_73, f74, rfl, rfl⟩, rfl⟩, rfl⟩, rfl, rfl⟩, rfl, rfl⟩
  refine R.go 1 (k28 5 (AI (IntKind.i64.wrap (2 + v_71))) (np_retX _ _ _ _ _ _) (k22 6 (k25 (k26b 0 usC frC (CallX.perm [1, 0, 2, 3] [1, 0, 2, 3] (k27b 2 39 [AI n_8, LI ys_9] (k27a 1 39 [AI 0, .nil] (anyX_c_r3 c p1_72 h1_73 (IntKind.i64.wrap (2 + v_71)) 4 true 39 2 1 [AI 0, .nil] 39 2 1 [AI n_8, LI ys_9] 2 1 vs.length (rows eI vs) hc (by first | omega | (rw [wrap_id (by omega) (by omega)]; omega))))) (by kernel_rfl) (by kernel_rfl) (by kernel_rfl) (by rintro _ _ ⟨_, ⟨_, ⟨_, _, _, _, rfl, rfl⟩, rfl⟩, rfl⟩; exact Nat.le_of_ble_eq_true (by kernel_rfl)))) ?_)))
  rintro _ _ ⟨_, _, ⟨_, _, ⟨_, ⟨_, ⟨r_75, p1_76, h1_77, f78, rfl, rfl⟩, rfl⟩, rfl⟩, rfl, rfl⟩, rfl, rfl⟩
  refine R.go 1 (k22 7 (R.go 2 (k22 8 (R.go 2 (k22 9 (R.go 2 (k21 (k19 4 (R.kfix 0 (us := usC) (by kernel_rfl) (hfC.frz 4 (LI vs) (Nat.le_of_ble_eq_true (by kernel_rfl))) ?_)))))))))
  exact R.retX (res := .tup [.agg [AI n_8, LI ys_9], LI vs, LN r_75]) (hp' := [.dead, .box 39 [AI n_8, LI ys_9], .box 123 [LB c, AI (p1_76 : Int), .int .u64 h1_77], .box 39 [AI n_8, LI ys_9], .dead]) (by kernel_rfl) (by kernel_rfl) (by kernel_rfl) (by kernel_rfl) ⟨[], by kernel_rfl, by decide, n_8, ys_9, vs, r_75, by first | omega | (simp; omega), by first | omega | (simp; omega), by first | omega | (simp; omega), by kernel_rfl, by kernel_rfl⟩
 refine k25 (k26b 0 usC frC (CallX.perm [1, 0, 2, 3] [1, 0, 2, 3] (k27b 2 39 [AI n_8, LI ys_9] (k27a 1 39 [AI 0, .nil] (nextX_c_r3 c p1_23 h1_24 12 39 2 1 [AI 0, .nil] 39 2 1 [AI n_8, LI ys_9] 2 1 vs.length (rows eI vs) hc))) (by kernel_rfl) (by kernel_rfl) (by kernel_rfl) (by rintro _ _ ⟨_, ⟨_, ⟨_, _, _, _, rfl, rfl⟩, rfl⟩, rfl⟩; exact Nat.le_of_ble_eq_true (by kernel_rfl)))) ?_
 rintro _ _ ⟨_, _, ⟨_, _, ⟨_, ⟨_, ⟨v_79, p1_80, h1_81, f82, rfl, rfl⟩, rfl⟩, rfl⟩, rfl, rfl⟩, rfl, rfl⟩
 refine R.go 1 (k28 5 (AI (IntKind.i64.wrap (2 + v_79))) (np_retX _ _ _ _ _ _) (k23 0 6 ?_ ?_))
 ·refine R.go 2 (k22 6 (k25 (k26b 0 usC frC (CallX.perm [1, 0, 2, 3] [1, 0, 2, 3] (k27b 2 39 [AI n_8, LI ys_9] (k27a 1 39 [AI 0, .nil] (anyX_c_r3 c p1_80 h1_81 (IntKind.i64.wrap (2 + v_79)) 4 true 39 2 1 [AI 0, .nil] 39 2 1 [AI n_8, LI ys_9] 2 1 vs.length (rows eI vs) hc (by first | omega | (rw [wrap_id (by omega) (by omega)]; omega))))) (by kernel_rfl) (by kernel_rfl) (by kernel_rfl) (by rintro _ _ ⟨_, ⟨_, ⟨_, _, _, _, rfl, rfl⟩, rfl⟩, rfl⟩; exact Nat.le_of_ble_eq_true (by kernel_rfl)))) ?_))
  rintro _ _ ⟨_, _, ⟨_, _, ⟨_, ⟨_, ⟨r_83, p1_84, h1_85, f86, rfl, rfl⟩, rfl⟩, rfl⟩, rfl, rfl⟩, rfl, rfl⟩
  refine R.go 1 (k22 7 (R.go 2 (k22 8 (R.go 2 (k22 9 (R.go 2 (k21 (k19 4 (R.kfix 0 (us := usC) (by kernel_rfl) (hfC.frz 4 (LI vs) (Nat.le_of_ble_eq_true (by kernel_rfl))) ?_)))))))))
  exact R.retX (res := .tup [.agg [AI n_8, LI ys_9], LI vs, LN r_83]) (hp' := [.dead, .box 39 [AI n_8, LI ys_9], .box 123 [LB c, AI (p1_84 : Int), .int .u64 h1_85], .box 39 [AI n_8, LI ys_9], .dead]) (by kernel_rfl) (by kernel_rfl) (by kernel_rfl) (by kernel_rfl) ⟨[], by kernel_rfl, by decide, n_8, ys_9, vs, r_83, by first | omega | (simp; omega), by first | omega | (simp; omega), by first | omega | (simp; omega), by kernel_rfl, by kernel_rfl⟩
 refine k25 (k26b 0 usC frC (CallX.perm [1, 0, 2, 3] [1, 0, 2, 3] (k27b 2 39 [AI n_8, LI ys_9] (k27a 1 39 [AI 0, .nil] (anyX_c_r3 c p1_80 h1_81 (IntKind.i64.wrap (2 + v_79)) 4 true 39 2 1 [AI 0, .nil] 39 2 1 [AI n_8, LI ys_9] 2 1 vs.length (rows eI vs) hc (by first | omega | (rw [wrap_id (by omega) (by omega)]; omega))))) (by kernel_rfl) (by kernel_rfl) (by kernel_rfl) (by rintro _ _ ⟨_, ⟨_, ⟨_, _, _, _, rfl, rfl⟩, rfl⟩, rfl⟩; exact Nat.le_of_ble_eq_true (by kernel_rfl)))) ?_
 rintro _ _ ⟨_, _, ⟨_, _, ⟨_, ⟨_, ⟨r_87, p1_88, h1_89, f90, rfl, rfl⟩, rfl⟩, rfl⟩, rfl, rfl⟩, rfl, rfl⟩
 refine R.go 1 (k22 0 (R.go 2 (k22 7 (R.go 2 (k22 8 (R.go 2 (k22 9 (R.go 2 (k21 (k19 4 (R.kfix 0 (us := usC) (by kernel_rfl) (hfC.frz 4 (LI vs) (Nat.le_of_ble_eq_true (by kernel_rfl))) ?_)))))))))))
 exact R.retX (res := .tup [.agg [AI n_8, LI ys_9], LI vs, LN r_87]) (hp' := [.dead, .box 39 [AI n_8, LI ys_9], .box 123 [LB c, AI (p1_88 : Int), .int .u64 h1_89], .box 39 [AI n_8, LI ys_9], .dead]) (by kernel_rfl) (by kernel_rfl) (by kernel_rfl) (by kernel_rfl) ⟨[], by kernel_rfl, by decide, n_8, ys_9, vs, r_87, by first | omega | (simp; omega), by first | omega | (simp; omega), by first | omega | (simp; omega), by kernel_rfl, by kernel_rfl⟩
theorem drVA_c (c : List Int) (hc : BY c) : CallX Tryz.prog 20 [LB c] [] (fun (resX : AV) (objX : List AObj) => ∃ n : Int, ∃ ys : List Int, ∃ a : List (Int × Int), (ys.length ≤ 100) ∧ (a.length ≤ 1000) ∧ resX = .tup [.agg [AI n, LI ys], LN a] ∧ objX = []) := by
 have hcl : c.length ≤ 4096 := hc.1
 have hcb := hc.2
 refine CallX.dropE (CallX.ofF Tryz.func20 rfl (by kernel_rfl) ?_)
 intro usC frC hfC
 refine R.go 8 (R.enter (avs := [LB c]) Tryz.func45 rfl (by kernel_rfl) (by kernel_rfl) (by kernel_rfl) ?_)
 intro us1
 refine R.go 9 (k2 .u64 (c.length : Int) (u64_id (by omega) (by omega)) (R.go 11 (k16 ((fun | (i, hh) => (⟨(frm 38 [(0, LB c), (3, .ptr 3 0), (4, AI (i : Int))]), [.frame usC frC, .box 39 [AI 0, .nil], .frame us1 (frm 43 [(0, LB c), (2, .ptr 1 0), (3, .nil), (10, LB c)]), .box 123 [LB c, AI 0, .int .u64 hh]]⟩ : St) : Nat × Int → St)) (fun | (i, hh) => i ≤ c.length) (fun | (i, hh) => c.length - i) (0, (IntKind.u64.wrap (7129 + (c.length : Int)))) [0, 3, 4] none (by omega) ?_)))
 rintro ⟨i, hh⟩ h5_1 R2 N3
 refine R.go 8 ?_
 by_cases c6 : (i : Int) < (c.length : Int)
 ·refine k7 true (dT c6) (R.go 1 (k7 true (dT c6) (R.go 1 (k9 true (dT c6) (R.go 1 ?_)))))
  have c7 : (i : Int) < 4096 := by omega
  refine k6 (dT c7) ?_
  have hbi := hcb i (by omega)
  refine R.go 12 (k10 eB c 0 i (i : Int) eB_len (R.go 1 (k2 .u64 (c.getD i 0) (u64_id (by omega) (by omega)) (R.go 9 (k1 ((i : Int) + 1) ?_)))))
  exact R.go 2 (k17 R2 (N3 (i + 1, IntKind.u64.wrap ((IntKind.u64.wrap ((IntKind.u64.wrap (hh * 1099511628211)) + (c.getD i 0))) + 11)) [0, 3, 4] none _ (by kernel_rfl) (by kernel_rfl) (by omega) (by show (c.length - (i + 1)) < (c.length - i); omega)))
 iterate 2 refine k8 true (dF c6) ?_
 refine k9 false (dF c6) (R.go 8 (R.back (.ptr 3 0) (frm 43 [(0, LB c), (2, .ptr 1 0), (3, .nil), (10, LB c)]) (by kernel_rfl) (by kernel_rfl) (by kernel_rfl) (R.go 6 (R.deadF 2 (by kernel_rfl) (by kernel_rfl) (k25 (k26k 0 usC frC (k26l 1 [] [] (CallX.perm [1, 0] [1, 0] (k27a 1 39 [AI 0, .nil] (nextX_c_r1 c 0 hh 4 39 2 1 [AI 0, .nil] hc)) (by kernel_rfl) (by kernel_rfl) (by kernel_rfl) (by rintro _ _ ⟨_, ⟨_, _, _, _, rfl, rfl⟩, rfl⟩; exact Nat.le_of_ble_eq_true (by kernel_rfl))))) ?_)))))
 rintro _ _ ⟨_, _, ⟨_, _, ⟨_, _, ⟨_, ⟨v_8, p1_9, h1_10, f11, rfl, rfl⟩, rfl⟩, rfl, rfl⟩, rfl, rfl⟩, rfl, rfl⟩
 refine k1 (1 + v_8) (k25 (k26a 0 usC frC (k26a 1 [] [] (CallX.perm [1, 0] [1, 0] (k27d 1 39 [AI 0, .nil] (l15Draw_c_r1 c p1_9 h1_10 (1 + v_8) 39 2 1 [AI 0, .nil] hc (by first | omega | (rw [wrap_id (by omega) (by omega)]; omega)))) (by kernel_rfl) (by kernel_rfl) (by kernel_rfl) (by rintro _ _ ⟨_, ⟨_, _, _, _, _, rfl, rfl⟩, rfl⟩; exact Nat.le_of_ble_eq_true (by kernel_rfl))) (h3 := by rintro _ _ ⟨_, _, ⟨_, ⟨_, _, _, _, _, rfl, rfl⟩, rfl⟩, rfl, rfl⟩; exact Nat.le_of_ble_eq_true (by kernel_rfl))) (h3 := by rintro _ _ ⟨_, _, ⟨_, _, ⟨_, ⟨_, _, _, _, _, rfl, rfl⟩, rfl⟩, rfl, rfl⟩, rfl, rfl⟩; exact Nat.le_of_ble_eq_true (by kernel_rfl))) ?_)
 rintro _ _ ⟨_, _, ⟨_, _, ⟨_, _, ⟨_, ⟨n_12, ys_13, p1_14, h1_15, f16, rfl, rfl⟩, rfl⟩, rfl, rfl⟩, rfl, rfl⟩, rfl, rfl⟩
 refine R.go 6 (k19 4 (R.kfix 0 (us := usC) (by kernel_rfl) (hfC.frz 4 (LI ys_13) (Nat.le_of_ble_eq_true (by kernel_rfl))) (R.go 1 (R.deadF 4 (by kernel_rfl) (by kernel_rfl) (k25 (k26g 0 usC frC (k26f 1 [] [] (k26b 2 [] [] (CallX.perm [1, 0, 2] [1, 0, 2] (k27b 2 39 [AI n_12, LI ys_13] (k27a 1 39 [AI 0, .nil] (nextX_c_r2 c p1_14 h1_15 2 39 2 1 [AI 0, .nil] 39 2 1 [AI n_12, LI ys_13] hc))) (by kernel_rfl) (by kernel_rfl) (by kernel_rfl) (by rintro _ _ ⟨_, ⟨_, ⟨_, _, _, _, rfl, rfl⟩, rfl⟩, rfl⟩; exact Nat.le_of_ble_eq_true (by kernel_rfl)))))) ?_)))))
 rintro _ _ ⟨_, _, ⟨_, _, ⟨_, _, ⟨_, _, ⟨_, ⟨_, ⟨v_17, p1_18, h1_19, f20, rfl, rfl⟩, rfl⟩, rfl⟩, rfl, rfl⟩, rfl, rfl⟩, rfl, rfl⟩, rfl, rfl⟩
 refine R.go 2 (k4 (v_17 = 0) (fun c21 => ?_) (fun c21 => ?_))
 ·refine R.go 3 (k25 (k26a 0 usC frC (k26a 1 [] [] (k26a 2 [] [] (CallX.perm [1, 0, 2] [1, 0, 2] (k27h 2 39 [AI n_12, LI ys_13] (k27i 1 39 [AI 0, .nil] (known_c_r2 c p1_18 h1_19 39 2 1 [AI 0, .nil] 39 2 1 [AI n_12, LI ys_13] hc))) (by kernel_rfl) (by kernel_rfl) (by kernel_rfl) (by rintro _ _ ⟨_, ⟨_, ⟨_, _, _, _, _, _, _, _, rfl, rfl⟩, rfl⟩, rfl⟩; exact Nat.le_of_ble_eq_true (by kernel_rfl))) (h3 := by rintro _ _ ⟨_, _, ⟨_, ⟨_, ⟨_, _, _, _, _, _, _, _, rfl, rfl⟩, rfl⟩, rfl⟩, rfl, rfl⟩; exact Nat.le_of_ble_eq_true (by kernel_rfl))) (h3 := by rintro _ _ ⟨_, _, ⟨_, _, ⟨_, ⟨_, ⟨_, _, _, _, _, _, _, _, rfl, rfl⟩, rfl⟩, rfl⟩, rfl, rfl⟩, rfl, rfl⟩; exact Nat.le_of_ble_eq_true (by kernel_rfl))) (h3 := by rintro _ _ ⟨_, _, ⟨_, _, ⟨_, _, ⟨_, ⟨_, ⟨_, _, _, _, _, _, _, _, rfl, rfl⟩, rfl⟩, rfl⟩, rfl, rfl⟩, rfl, rfl⟩, rfl, rfl⟩; exact Nat.le_of_ble_eq_true (by kernel_rfl))) ?_)
  rintro _ _ ⟨_, _, ⟨_, _, ⟨_, _, ⟨_, _, ⟨_, ⟨_, ⟨nm_22, L_23, W_24, p1_25, h1_26, f27, f28, f29, rfl, rfl⟩, rfl⟩, rfl⟩, rfl, rfl⟩, rfl, rfl⟩, rfl, rfl⟩, rfl, rfl⟩
  refine R.go 10 (k29 (seq_c L_23 W_24 (by first | omega | (rw [wrap_id (by omega) (by omega)]; omega)) f28 (by first | omega | (rw [wrap_id (by omega) (by omega)]; omega)) f29) (by rintro _ _ ⟨_, _, _, rfl, rfl⟩; rfl) ?_)
  rintro _ ⟨r_30, k_31, f32, rfl, _⟩
  refine R.go 11 (k4 (k_31 = 0) (fun c33 => ?_) (fun c33 => ?_))
  ·exact R.go 7 (R.retX (res := .tup [.agg [AI n_12, LI ys_13], LN r_30]) (hp' := [.dead, .box 39 [AI n_12, LI ys_13], .frame [] [], .box 123 [LB c, AI (p1_25 : Int), .int .u64 h1_26], .frame [] [], .box 39 [AI n_12, LI ys_13], .box 92 [lstA eY 1 L_23, lstA eY 1 W_24]]) (by kernel_rfl) (by kernel_rfl) (by kernel_rfl) (by kernel_rfl) ⟨[], by kernel_rfl, by decide, n_12, ys_13, r_30, by omega, by omega, by kernel_rfl, by kernel_rfl⟩)
  refine R.go 2 (R.any (by decide +kernel) (by kernel_rfl) (k24 1 (np_retX _ _ _ _ _ _) (k24 2 (np_retX _ _ _ _ _ _) (k24 5 (np_retX _ _ _ _ _ _) (k23 0 3 ?_ ?_)))))
  ·refine R.go 2 (k22 3 (k25 (k26h 0 usC frC (k26i 1 [] [] (k26j 2 [] [] (CallX.perm [1, 0, 2, 3] [1, 0, 2, 3] (k27c 3 92 [lstA eY 1 L_23, lstA eY 1 W_24] (k27b 2 39 [AI n_12, LI ys_13] (k27a 1 39 [AI 0, .nil] (nextX_c_r3 c p1_25 h1_26 10 39 2 1 [AI 0, .nil] 39 2 1 [AI n_12, LI ys_13] 92 2 1 [lstA eY 1 L_23, lstA eY 1 W_24] hc)))) (by kernel_rfl) (by kernel_rfl) (by kernel_rfl) (by rintro _ _ ⟨_, ⟨_, ⟨_, ⟨_, _, _, _, rfl, rfl⟩, rfl⟩, rfl⟩, rfl⟩; exact Nat.le_of_ble_eq_true (by kernel_rfl)))))) ?_))
   rintro _ _ ⟨_, _, ⟨_, _, ⟨_, _, ⟨_, _, ⟨_, ⟨_, ⟨_, ⟨v_34, p1_35, h1_36, f37, rfl, rfl⟩, rfl⟩, rfl⟩, rfl⟩, rfl, rfl⟩, rfl, rfl⟩, rfl, rfl⟩, rfl, rfl⟩
   refine R.go 1 (k28 4 (AI (IntKind.i64.wrap (2 + v_34))) (np_retX _ _ _ _ _ _) (k22 6 (k25 (k26h 0 usC frC (k26i 1 [] [] (k26j 2 [] [] (CallX.perm [1, 0, 2, 3] [1, 0, 2, 3] (k27c 3 92 [lstA eY 1 L_23, lstA eY 1 W_24] (k27b 2 39 [AI n_12, LI ys_13] (k27a 1 39 [AI 0, .nil] (nextX_c_r3 c p1_35 h1_36 4 39 2 1 [AI 0, .nil] 39 2 1 [AI n_12, LI ys_13] 92 2 1 [lstA eY 1 L_23, lstA eY 1 W_24] hc)))) (by kernel_rfl) (by kernel_rfl) (by kernel_rfl) (by rintro _ _ ⟨_, ⟨_, ⟨_, ⟨_, _, _, _, rfl, rfl⟩, rfl⟩, rfl⟩, rfl⟩; exact Nat.le_of_ble_eq_true (by kernel_rfl)))))) ?_)))
   rintro _ _ ⟨_, _, ⟨_, _, ⟨_, _, ⟨_, _, ⟨_, ⟨_, ⟨_, ⟨v_38, p1_39, h1_40, f41, rfl, rfl⟩, rfl⟩, rfl⟩, rfl⟩, rfl, rfl⟩, rfl, rfl⟩, rfl, rfl⟩, rfl, rfl⟩
   refine R.go 1 (k28 7 (AI (IntKind.i64.wrap (1 + v_38))) (np_retX _ _ _ _ _ _) (k22 8 (k25 (k26h 0 usC frC (k26i 1 [] [] (k26j 2 [] [] (CallX.perm [1, 0, 2, 3] [1, 0, 2, 3] (k27c 3 92 [lstA eY 1 L_23, lstA eY 1 W_24] (k27b 2 39 [AI n_12, LI ys_13] (k27a 1 39 [AI 0, .nil] (anyX_c_r3 c p1_39 h1_40 (IntKind.i64.wrap (2 + v_34)) (IntKind.i64.wrap (1 + v_38)) true 39 2 1 [AI 0, .nil] 39 2 1 [AI n_12, LI ys_13] 92 2 1 [lstA eY 1 L_23, lstA eY 1 W_24] hc (by first | omega | (rw [wrap_id (by omega) (by omega)]; omega)))))) (by kernel_rfl) (by kernel_rfl) (by kernel_rfl) (by rintro _ _ ⟨_, ⟨_, ⟨_, ⟨_, _, _, _, rfl, rfl⟩, rfl⟩, rfl⟩, rfl⟩; exact Nat.le_of_ble_eq_true (by kernel_rfl)))))) ?_)))
   rintro _ _ ⟨_, _, ⟨_, _, ⟨_, _, ⟨_, _, ⟨_, ⟨_, ⟨_, ⟨r_42, p1_43, h1_44, f45, rfl, rfl⟩, rfl⟩, rfl⟩, rfl⟩, rfl, rfl⟩, rfl, rfl⟩, rfl, rfl⟩, rfl, rfl⟩
   refine R.go 1 (k22 9 (R.go 2 (k22 10 (R.go 2 (k21 ?_)))))
   exact R.retX (res := .tup [.agg [AI n_12, LI ys_13], LN r_42]) (hp' := [.dead, .box 39 [AI n_12, LI ys_13], .frame [] [], .box 123 [LB c, AI (p1_43 : Int), .int .u64 h1_44], .frame [] [], .box 39 [AI n_12, LI ys_13], .box 92 [lstA eY 1 L_23, lstA eY 1 W_24]]) (by kernel_rfl) (by kernel_rfl) (by kernel_rfl) (by kernel_rfl) ⟨[], by kernel_rfl, by decide, n_12, ys_13, r_42, by omega, by omega, by kernel_rfl, by kernel_rfl⟩
  refine k25 (k26h 0 usC frC (k26i 1 [] [] (k26j 2 [] [] (CallX.perm [1, 0, 2, 3] [1, 0, 2, 3] (k27c 3 92 [lstA eY 1 L_23, lstA eY 1 W_24] (k27b 2 39 [AI n_12, LI ys_13] (k27a 1 39 [AI 0, .nil] (nextX_c_r3 c p1_25 h1_26 10 39 2 1 [AI 0, .nil] 39 2 1 [AI n_12, LI ys_13] 92 2 1 [lstA eY 1 L_23, lstA eY 1 W_24] hc)))) (by kernel_rfl) (by kernel_rfl) (by kernel_rfl) (by rintro _ _ ⟨_, ⟨_, ⟨_, ⟨_, _, _, _, rfl, rfl⟩, rfl⟩, rfl⟩, rfl⟩; exact Nat.le_of_ble_eq_true (by kernel_rfl)))))) ?_
  rintro _ _ ⟨_, _, ⟨_, _, ⟨_, _, ⟨_, _, ⟨_, ⟨_, ⟨_, ⟨v_46, p1_47, h1_48, f49, rfl, rfl⟩, rfl⟩, rfl⟩, rfl⟩, rfl, rfl⟩, rfl, rfl⟩, rfl, rfl⟩, rfl, rfl⟩
  refine R.go 1 (k28 4 (AI (IntKind.i64.wrap (2 + v_46))) (np_retX _ _ _ _ _ _) (k23 0 6 ?_ ?_))
  ·refine R.go 2 (k22 6 (k25 (k26h 0 usC frC (k26i 1 [] [] (k26j 2 [] [] (CallX.perm [1, 0, 2, 3] [1, 0, 2, 3] (k27c 3 92 [lstA eY 1 L_23, lstA eY 1 W_24] (k27b 2 39 [AI n_12, LI ys_13] (k27a 1 39 [AI 0, .nil] (nextX_c_r3 c p1_47 h1_48 4 39 2 1 [AI 0, .nil] 39 2 1 [AI n_12, LI ys_13] 92 2 1 [lstA eY 1 L_23, lstA eY 1 W_24] hc)))) (by kernel_rfl) (by kernel_rfl) (by kernel_rfl) (by rintro _ _ ⟨_, ⟨_, ⟨_, ⟨_, _, _, _, rfl, rfl⟩, rfl⟩, rfl⟩, rfl⟩; exact Nat.le_of_ble_eq_true (by kernel_rfl)))))) ?_))
   rintro _ _ ⟨_, _, ⟨_, _, ⟨_, _, ⟨_, _, ⟨_, ⟨_, ⟨_, ⟨v_50, p1_51, h1_52, f53, rfl, rfl⟩, rfl⟩, rfl⟩, rfl⟩, rfl, rfl⟩, rfl, rfl⟩, rfl, rfl⟩, rfl, rfl⟩
   refine R.go 1 (k28 7 (AI (IntKind.i64.wrap (1 + v_50))) (np_retX _ _ _ _ _ _) (k22 8 (k25 (k26h 0 usC frC (k26i 1 [] [] (k26j 2 [] [] (CallX.perm [1, 0, 2, 3] [1, 0, 2, 3] (k27c 3 92 [lstA eY 1 L_23, lstA eY 1 W_24] (k27b 2 39 [AI n_12, LI ys_13] (k27a 1 39 [AI 0, .nil] (anyX_c_r3 c p1_51 h1_52 (IntKind.i64.wrap (2 + v_46)) (IntKind.i64.wrap (1 + v_50)) true 39 2 1 [AI 0, .nil] 39 2 1 [AI n_12, LI ys_13] 92 2 1 [lstA eY 1 L_23, lstA eY 1 W_24] hc (by first | omega | (rw [wrap_id (by omega) (by omega)]; omega)))))) (by kernel_rfl) (by kernel_rfl) (by kernel_rfl) (by rintro _ _ ⟨_, ⟨_, ⟨_, ⟨_, _, _, _, rfl, rfl⟩, rfl⟩, rfl⟩, rfl⟩; exact Nat.le_of_ble_eq_true (by kernel_rfl)))))) ?_)))
   rintro _ _ ⟨_, _, ⟨_, _, ⟨_, _, ⟨_, _, ⟨_, ⟨_, ⟨_, ⟨r_54, p1_55, h1_56, f57, rfl, rfl⟩, rfl⟩, rfl⟩, rfl⟩, rfl, rfl⟩, rfl, rfl⟩, rfl, rfl⟩, rfl, rfl⟩
   refine R.go 1 (k22 9 (R.go 2 (k22 10 (R.go 2 (k21 ?_)))))
   exact R.retX (res := .tup [.agg [AI n_12, LI ys_13], LN r_54]) (hp' := [.dead, .box 39 [AI n_12, LI ys_13], .frame [] [], .box 123 [LB c, AI (p1_55 : Int), .int .u64 h1_56], .frame [] [], .box 39 [AI n_12, LI ys_13], .box 92 [lstA eY 1 L_23, lstA eY 1 W_24]]) (by kernel_rfl) (by kernel_rfl) (by kernel_rfl) (by kernel_rfl) ⟨[], by kernel_rfl, by decide, n_12, ys_13, r_54, by omega, by omega, by kernel_rfl, by kernel_rfl⟩
  refine k25 (k26h 0 usC frC (k26i 1 [] [] (k26j 2 [] [] (CallX.perm [1, 0, 2, 3] [1, 0, 2, 3] (k27c 3 92 [lstA eY 1 L_23, lstA eY 1 W_24] (k27b 2 39 [AI n_12, LI ys_13] (k27a 1 39 [AI 0, .nil] (nextX_c_r3 c p1_47 h1_48 4 39 2 1 [AI 0, .nil] 39 2 1 [AI n_12, LI ys_13] 92 2 1 [lstA eY 1 L_23, lstA eY 1 W_24] hc)))) (by kernel_rfl) (by kernel_rfl) (by kernel_rfl) (by rintro _ _ ⟨_, ⟨_, ⟨_, ⟨_, _, _, _, rfl, rfl⟩, rfl⟩, rfl⟩, rfl⟩; exact Nat.le_of_ble_eq_true (by kernel_rfl)))))) ?_
  rintro _ _ ⟨_, _, ⟨_, _, ⟨_, _, ⟨_, _, ⟨_, ⟨_, ⟨_, ⟨v_58, p1_59, h1_60, f61, rfl, rfl⟩, rfl⟩, rfl⟩, rfl⟩, rfl, rfl⟩, rfl, rfl⟩, rfl, rfl⟩, rfl, rfl⟩
  refine R.go 1 (k28 7 (AI (IntKind.i64.wrap (1 + v_58))) (np_retX _ _ _ _ _ _) (k23 0 8 ?_ ?_))
  ·refine R.go 2 (k22 8 (k25 (k26h 0 usC frC (k26i 1 [] [] (k26j 2 [] [] (CallX.perm [1, 0, 2, 3] [1, 0, 2, 3] (k27c 3 92 [lstA eY 1 L_23, lstA eY 1 W_24] (k27b 2 39 [AI n_12, LI ys_13] (k27a 1 39 [AI 0, .nil] (anyX_c_r3 c p1_59 h1_60 (IntKind.i64.wrap (2 + v_46)) (IntKind.i64.wrap (1 + v_58)) true 39 2 1 [AI 0, .nil] 39 2 1 [AI n_12, LI ys_13] 92 2 1 [lstA eY 1 L_23, lstA eY 1 W_24] hc (by first | omega | (rw [wrap_id (by omega) (by omega)]; omega)))))) (by kernel_rfl) (by kernel_rfl) (by kernel_rfl) (by rintro _ _ ⟨_, ⟨_, ⟨_, ⟨_, _, _, _, rfl, rfl⟩, rfl⟩, rfl⟩, rfl⟩; exact Nat.le_of_ble_eq_true (by kernel_rfl)))))) ?_))
   rintro _ _ ⟨_, _, ⟨_, _, ⟨_, _, ⟨_, _, ⟨_, ⟨_, ⟨_, ⟨r_62, p1_63, h1_64, f65, rfl, rfl⟩, rfl⟩, rfl⟩, rfl⟩, rfl, rfl⟩, rfl, rfl⟩, rfl, rfl⟩, rfl, rfl⟩
   refine R.go 1 (k22 9 (R.go 2 (k22 10 (R.go 2 (k21 ?_)))))
   exact R.retX (res := .tup [.agg [AI n_12, LI ys_13], LN r_62]) (hp' := [.dead, .box 39 [AI n_12, LI ys_13], .frame [] [], .box 123 [LB c, AI (p1_63 : Int), .int .u64 h1_64], .frame [] [], .box 39 [AI n_12, LI ys_13], .box 92 [lstA eY 1 L_23, lstA eY 1 W_24]]) (by kernel_rfl) (by kernel_rfl) (by kernel_rfl) (by kernel_rfl) ⟨[], by kernel_rfl, by decide, n_12, ys_13, r_62, by omega, by omega, by kernel_rfl, by kernel_rfl⟩
  refine k25 (k26h 0 usC frC (k26i 1 [] [] (k26j 2 [] [] (CallX.perm [1, 0, 2, 3] [1, 0, 2, 3] (k27c 3 92 [lstA eY 1 L_23, lstA eY 1 W_24] (k27b 2 39 [AI n_12, LI ys_13] (k27a 1 39 [AI 0, .nil] (anyX_c_r3 c p1_59 h1_60 (IntKind.i64.wrap (2 + v_46)) (IntKind.i64.wrap (1 + v_58)) true 39 2 1 [AI 0, .nil] 39 2 1 [AI n_12, LI ys_13] 92 2 1 [lstA eY 1 L_23, lstA eY 1 W_24] hc (by first | omega | (rw [wrap_id (by omega) (by omega)]; omega)))))) (by kernel_rfl) (by kernel_rfl) (by kernel_rfl) (by rintro _ _ ⟨_, ⟨_, ⟨_, ⟨_, _, _, _, rfl, rfl⟩, rfl⟩, rfl⟩, rfl⟩; exact Nat.le_of_ble_eq_true (by kernel_rfl)))))) ?_
  rintro _ _ ⟨_, _, ⟨_, _, ⟨_, _, ⟨_, _, ⟨_, ⟨_, ⟨_, ⟨r_66, p1_67, h1_68, f69, rfl, rfl⟩, rfl⟩, rfl⟩, rfl⟩, rfl, rfl⟩, rfl, rfl⟩, rfl, rfl⟩, rfl, rfl⟩
  refine R.go 1 (k22 0 (R.go 2 (k22 9 (R.go 2 (k22 10 (R.go 2 (k21 ?_)))))))
  exact R.retX (res := .tup [.agg [AI n_12, LI ys_13], LN r_66]) (hp' := [.dead, .box 39 [AI n_12, LI ys_13], .frame [] [], .box 123 [LB c, AI (p1_67 : Int), .int .u64 h1_68], .frame [] [], .box 39 [AI n_12, LI ys_13], .box 92 [lstA eY 1 L_23, lstA eY 1 W_24]]) (by kernel_rfl) (by kernel_rfl) (by kernel_rfl) (by kernel_rfl) ⟨[], by kernel_rfl, by decide, n_12, ys_13, r_66, by omega, by omega, by kernel_rfl, by kernel_rfl⟩
 refine R.go 2 (R.any (by decide +kernel) (by kernel_rfl) (k24 1 (np_retX _ _ _ _ _ _) (k24 2 (np_retX _ _ _ _ _ _) (k24 5 (np_retX _ _ _ _ _ _) (k23 0 3 ?_ ?_)))))
 ·refine R.go 2 (k22 3 (k25 (k26g 0 usC frC (k26f 1 [] [] (k26b 2 [] [] (CallX.perm [1, 0, 2] [1, 0, 2] (k27b 2 39 [AI n_12, LI ys_13] (k27a 1 39 [AI 0, .nil] (nextX_c_r2 c p1_18 h1_19 10 39 2 1 [AI 0, .nil] 39 2 1 [AI n_12, LI ys_13] hc))) (by kernel_rfl) (by kernel_rfl) (by kernel_rfl) (by rintro _ _ ⟨_, ⟨_, ⟨_, _, _, _, rfl, rfl⟩, rfl⟩, rfl⟩; exact Nat.le_of_ble_eq_true (by kernel_rfl)))))) ?_))
  rintro _ _ ⟨_, _, ⟨_, _, ⟨_, _, ⟨_, _, ⟨_, ⟨_, ⟨v_70, p1_71, h1_72, f73, rfl, rfl⟩, rfl⟩, rfl⟩, rfl, rfl⟩, rfl, rfl⟩, rfl, rfl⟩, rfl, rfl⟩
  refine R.go 1 (k28 4 (AI (IntKind.i64.wrap (2 + v_70))) (np_retX _ _ _ _ _ _) (k22 6 (k25 (k26g 0 usC frC (k26f 1 [] [] (k26b 2 [] [] (CallX.perm [1, 0, 2] [1, 0, 2] (k27b 2 39 [AI n_12, LI ys_13] (k27a 1 39 [AI 0, .nil] (nextX_c_r2 c p1_71 h1_72 4 39 2 1 [AI 0, .nil] 39 2 1 [AI n_12, LI ys_13] hc))) (by kernel_rfl) (by kernel_rfl) (by kernel_rfl) (by rintro _ _ ⟨_, ⟨_, ⟨_, _, _, _, rfl, rfl⟩, rfl⟩, rfl⟩; exact Nat.le_of_ble_eq_true (by kernel_rfl)))))) ?_)))
  rintro _ _ ⟨_, _, ⟨_, _, ⟨_, _, ⟨_, _, ⟨_, ⟨_, ⟨v_74, p1_75, h1_76, f77, rfl, rfl⟩, rfl⟩, rfl⟩, rfl, rfl⟩, rfl, rfl⟩, rfl, rfl⟩, rfl, rfl⟩
  refine R.go 1 (k28 7 (AI (IntKind.i64.wrap (1 + v_74))) (np_retX _ _ _ _ _ _) (k22 8 (k25 (k26g 0 usC frC (k26f 1 [] [] (k26b 2 [] [] (CallX.perm [1, 0, 2] [1, 0, 2] (k27b 2 39 [AI n_12, LI ys_13] (k27a 1 39 [AI 0, .nil] (anyX_c_r2 c p1_75 h1_76 (IntKind.i64.wrap (2 + v_70)) (IntKind.i64.wrap (1 + v_74)) true 39 2 1 [AI 0, .nil] 39 2 1 [AI n_12, LI ys_13] hc (by first | omega | (rw [wrap_id (by omega) (by omega)]; omega))))) (by kernel_rfl) (by kernel_rfl) (by kernel_rfl) (by rintro _ _ ⟨_, ⟨_, ⟨_, _, _, _, rfl, rfl⟩, rfl⟩, rfl⟩; exact Nat.le_of_ble_eq_true (by kernel_rfl)))))) ?_)))
  rintro _ _ ⟨_, _, ⟨_, _, ⟨_, _, ⟨_, _, ⟨_, ⟨_, ⟨r_78, p1_79, h1_80, f81, rfl, rfl⟩, rfl⟩, rfl⟩, rfl, rfl⟩, rfl, rfl⟩, rfl, rfl⟩, rfl, rfl⟩
  refine R.go 1 (k22 9 (R.go 2 (k22 10 (R.go 2 (k21 ?_)))))
  exact R.retX (res := .tup [.agg [AI n_12, LI ys_13], LN r_78]) (hp' := [.dead, .box 39 [AI n_12, LI ys_13], .frame [] [], .box 123 [LB c, AI (p1_79 : Int), .int .u64 h1_80], .frame [] [], .box 39 [AI n_12, LI ys_13]]) (by kernel_rfl) (by kernel_rfl) (by kernel_rfl) (by kernel_rfl) ⟨[], by kernel_rfl, by decide, n_12, ys_13, r_78, by omega, by omega, by kernel_rfl, by kernel_rfl⟩
 refine k25 (k26g 0 usC frC (k26f 1 [] [] (k26b 2 [] [] (CallX.perm [1, 0, 2] [1, 0, 2] (k27b 2 39 [AI n_12, LI ys_13] (k27a 1 39 [AI 0, .nil] (nextX_c_r2 c p1_18 h1_19 10 39 2 1 [AI 0, .nil] 39 2 1 [AI n_12, LI ys_13] hc))) (by kernel_rfl) (by kernel_rfl) (by kernel_rfl) (by rintro _ _ ⟨_, ⟨_, ⟨_, _, _, _, rfl, rfl⟩, rfl⟩, rfl⟩; exact Nat.le_of_ble_eq_true (by kernel_rfl)))))) ?_
 rintro _ _ ⟨_, _, ⟨_, _, ⟨_, _, ⟨_, _, ⟨_, ⟨_, ⟨v_82, p1_83, h1_84, f85, rfl, rfl⟩, rfl⟩, rfl⟩, rfl, rfl⟩, rfl, rfl⟩, rfl, rfl⟩, rfl, rfl⟩
 refine R.go 1 (k28 4 (AI (IntKind.i64.wrap (2 + v_82))) (np_retX _ _ _ _ _ _) (k23 0 6 ?_ ?_))
 ·refine R.go 2 (k22 6 (k25 (k26g 0 usC frC (k26f 1 [] [] (k26b 2 [] [] (CallX.perm [1, 0, 2] [1, 0, 2] (k27b 2 39 [AI n_12, LI ys_13] (k27a 1 39 [AI 0, .nil] (nextX_c_r2 c p1_83 h1_84 4 39 2 1 [AI 0, .nil] 39 2 1 [AI n_12, LI ys_13] hc))) (by kernel_rfl) (by kernel_rfl) (by kernel_rfl) (by rintro _ _ ⟨_, ⟨_, ⟨_, _, _, _, rfl, rfl⟩, rfl⟩, rfl⟩; exact Nat.le_of_ble_eq_true (by kernel_rfl)))))) ?_))
  rintro _ _ ⟨_, _, ⟨_, _, ⟨_, _, ⟨_, _, ⟨_, ⟨_, ⟨v_86, p1_87, h1_88, f89, rfl, rfl⟩, rfl⟩, rfl⟩, rfl, rfl⟩, rfl, rfl⟩, rfl, rfl⟩, rfl, rfl⟩
  refine R.go 1 (k28 7 (AI (IntKind.i64.wrap (1 + v_86))) (np_retX _ _ _ _ _ _) (k22 8 (k25 (k26g 0 usC frC (k26f 1 [] [] (k26b 2 [] [] (CallX.perm [1, 0, 2] [1, 0, 2] (k27b 2 39 [AI n_12, LI ys_13] (k27a 1 39 [AI 0, .nil] (anyX_c_r2 c p1_87 h1_88 (IntKind.i64.wrap (2 + v_82)) (IntKind.i64.wrap (1 + v_86)) true 39 2 1 [AI 0, .nil] 39 2 1 [AI n_12, LI ys_13] hc (by first | omega | (rw [wrap_id (by omega) (by omega)]; omega))))) (by kernel_rfl) (by kernel_rfl) (by kernel_rfl) (by rintro _ _ ⟨_, ⟨_, ⟨_, _, _, _, rfl, rfl⟩, rfl⟩, rfl⟩; exact Nat.le_of_ble_eq_true (by kernel_rfl)))))) ?_)))
  rintro _ _ ⟨_, _, ⟨_, _, ⟨_, _, ⟨_, _, ⟨_, ⟨_, ⟨r_90, p1_91, h1_92, f93, rfl, rfl⟩, rfl⟩, rfl⟩, rfl, rfl⟩, rfl, rfl⟩, rfl, rfl⟩, rfl, rfl⟩
  refine R.go 1 (k22 9 (R.go 2 (k22 10 (R.go 2 (k21 ?_)))))
  exact R.retX (res := .tup [.agg [AI n_12, LI ys_13], LN r_90]) (hp' := [.dead, .box 39 [AI n_12, LI ys_13], .frame [] [], .box 123 [LB c, AI (p1_91 : Int), .int .u64 h1_92], .frame [] [], .box 39 [AI n_12, LI ys_13]]) (by kernel_rfl) (by kernel_rfl) (by kernel_rfl) (by kernel_rfl) ⟨[], by kernel_rfl, by decide, n_12, ys_13, r_90, by omega, by omega, by kernel_rfl, by kernel_rfl⟩
 refine k25 (k26g 0 usC frC (k26f 1 [] [] (k26b 2 [] [] (CallX.perm [1, 0, 2] [1, 0, 2] (k27b 2 39 [AI n_12, LI ys_13] (k27a 1 39 [AI 0, .nil] (nextX_c_r2 c p1_83 h1_84 4 39 2 1 [AI 0, .nil] 39 2 1 [AI n_12, LI ys_13] hc))) (by kernel_rfl) (by kernel_rfl) (by kernel_rfl) (by rintro _ _ ⟨_, ⟨_, ⟨_, _, _, _, rfl, rfl⟩, rfl⟩, rfl⟩; exact Nat.le_of_ble_eq_true (by kernel_rfl)))))) ?_
 rintro _ _ ⟨_, _, ⟨_, _, ⟨_, _, ⟨_, _, ⟨_, ⟨_, ⟨v_94, p1_95, h1_96, f97, rfl, rfl⟩, rfl⟩, rfl⟩, rfl, rfl⟩, rfl, rfl⟩, rfl, rfl⟩, rfl, rfl⟩
 refine R.go 1 (k28 7 (AI (IntKind.i64.wrap (1 + v_94))) (np_retX _ _ _ _ _ _) (k23 0 8 ?_ ?_))
 ·refine R.go 2 (k22 8 (k25 (k26g 0 usC frC (k26f 1 [] [] (k26b 2 [] [] (CallX.perm [1, 0, 2] [1, 0, 2] (k27b 2 39 [AI n_12, LI ys_13] (k27a 1 39 [AI 0, .nil] (anyX_c_r2 c p1_95 h1_96 (IntKind.i64.wrap (2 + v_82)) (IntKind.i64.wrap (1 + v_94)) true 39 2 1 [AI 0, .nil] 39 2 1 [AI n_12, LI ys_13] hc (by first | omega | (rw [wrap_id (by omega) (by omega)]; omega))))) (by kernel_rfl) (by kernel_rfl) (by kernel_rfl) (by rintro _ _ ⟨_, ⟨_, ⟨_, _, _, _, rfl, rfl⟩, rfl⟩, rfl⟩; exact Nat.le_of_ble_eq_true (by kernel_rfl)))))) ?_))
  rintro _ _ ⟨_, _, ⟨_, _, ⟨_, _, ⟨_, _, ⟨_, ⟨_, ⟨r_98, p1_99, h1_100, f101, rfl, rfl⟩, rfl⟩, rfl⟩, rfl, rfl⟩, rfl, rfl⟩, rfl, rfl⟩, rfl, rfl⟩
  refine R.go 1 (k22 9 (R.go 2 (k22 10 (R.go 2 (k21 ?_)))))
  exact R.retX (res := .tup [.agg [AI n_12, LI ys_13], LN r_98]) (hp' := [.dead, .box 39 [AI n_12, LI ys_13], .frame [] [], .box 123 [LB c, AI (p1_99 : Int), .int .u64 h1_100], .frame [] [], .box 39 [AI n_12, LI ys_13]]) (by kernel_rfl) (by kernel_rfl) (by kernel_rfl) (by kernel_rfl) ⟨[], by kernel_rfl, by decide, n_12, ys_13, r_98, by omega, by omega, by kernel_rfl, by kernel_rfl⟩
 refine k25 (k26g 0 usC frC (k26f 1 [] [] (k26b 2 [] [] (CallX.perm [1, 0, 2] [1, 0, 2] (k27b 2 39 [AI n_12, LI ys_13] (k27a 1 39 [AI 0, .nil] (anyX_c_r2 c p1_95 h1_96 (IntKind.i64.wrap (2 + v_82)) (IntKind.i64.wrap (1 + v_94)) true 39 2 1 [AI 0, .nil] 39 2 1 [AI n_12, LI ys_13] hc (by first | omega | (rw [wrap_id (by omega) (by omega)]; omega))))) (by kernel_rfl) (by kernel_rfl) (by kernel_rfl) (by rintro _ _ ⟨_, ⟨_, ⟨_, _, _, _, rfl, rfl⟩, rfl⟩, rfl⟩; exact Nat.le_of_ble_eq_true (by kernel_rfl)))))) ?_
 rintro _ _ ⟨_, _, ⟨_, _, ⟨_, _, ⟨_, _, ⟨_, ⟨_, ⟨r_102, p1_103, h1_104, f105, rfl, rfl⟩, rfl⟩, rfl⟩, rfl, rfl⟩, rfl, rfl⟩, rfl, rfl⟩, rfl, rfl⟩
 refine R.go 1 (k22 0 (R.go 2 (k22 9 (R.go 2 (k22 10 (R.go 2 (k21 ?_)))))))
 exact R.retX (res := .tup [.agg [AI n_12, LI ys_13], LN r_102]) (hp' := [.dead, .box 39 [AI n_12, LI ys_13], .frame [] [], .box 123 [LB c, AI (p1_103 : Int), .int .u64 h1_104], .frame [] [], .box 39 [AI n_12, LI ys_13]]) (by kernel_rfl) (by kernel_rfl) (by kernel_rfl) (by kernel_rfl) ⟨[], by kernel_rfl, by decide, n_12, ys_13, r_102, by omega, by omega, by kernel_rfl, by kernel_rfl⟩
end Go.Proofs.YtehbliocfpppoaaGreat

/-! The law FnAlgebraValidity. -/
namespace Go.Proofs.YtehbliocfpppoaaGreat
open Go.RowKit Go.Abs
theorem avC_get {n : Int} {ys vs : List Int} {a : List (Int × Int)} (h : avC n ys vs a = 0) : okAl n ys = true ∧ isF a = true ∧ vs.length = 6 ∧ vs.any (outE n) = false := Classical.byContradiction fun q => by
 rw [avC_bad q] at h; cases h
theorem foR_len (n : Int) (ys : List Int) : (foR n ys).length ≤ 8 := by
 unfold foR
 split
 ·rename_i h
  have := okFr_rel (frT_ok h)
  have := okAl_rel h
  omega
 ·exact Nat.zero_le _
theorem av_law {n : Int} {ys vs : List Int} {a : List (Int × Int)} (h : avC n ys vs a = 0) : foC n ys = 0 ∧ mcode (foN n ys) (foR n ys) vs a = 0 ∧ tval (foN n ys) (foR n ys) vs a = avV n ys vs a := by
 obtain ⟨h1, h2, h3, h4⟩ := avC_get h
 obtain ⟨e1, e2, e3⟩ := fo_0 h1
 have hM : okMo n (frT n ys) vs = true := by
  rw [← okMo_out (frT_ok h1) (by omega)]
  have hb := okAl_rel h1
  have e0 : outR n = outE n := by
   funext m
   unfold outR outE
   rw [(inR_iff n 0 30).2 (by omega)]; rfl
  have e : vs.any (outR n) = vs.any (outE n) := by rw [e0]
  rw [e, h4]; rfl
 have hm : mcode n (frT n ys) vs a = 0 := (mcode_0 hM h2).symm
 have hok : OKM vs.length a := by rw [h3]; exact (isF_okm h2).1
 rw [e1, e2, e3]
 refine ⟨rfl, hm, ?_⟩
 rw [tval, if_pos hm, avV, if_pos h]
 exact ((avl_in h1 h4 hok).2).symm
theorem vaC_get {n : Int} {ys : List Int} {a : List (Int × Int)} (h : vaC n ys a = 0) : okAl n ys = true ∧ isF a = true ∧ n * ((mem (vmT [a] [a].length)).length : Int) ≤ 16 := by
 unfold vaC at h
 split at h
 ·rename_i hc
  split at h
  ·rename_i hf; exact ⟨hc.1, hc.2, hf⟩
  ·cases h
 ·cases h
theorem va_law {n : Int} {ys : List Int} {a : List (Int × Int)} (h : vaC n ys a = 0) : scode (foN n ys) (foR n ys) [a] = 0 ∧ vdB (foN n ys) (foR n ys) a = vaB n ys a := by
 obtain ⟨h1, h2, h3⟩ := vaC_get h
 obtain ⟨e1, e2, e3⟩ := fo_0 h1
 rw [e2, e3]
 have hs : scode n (frT n ys) [a] = 0 := by
  unfold scode
  rw [if_pos ⟨frT_ok h1, by simp [allF, h2]⟩, if_neg (by omega)]
 refine ⟨hs, ?_⟩
 rw [vdB, vaB, hs, h, va_same h1 (isF_okm h2).1 h3]
theorem big_c (c : List Int) : CallA Tryz.prog 14 [LB c] (.bool (decide ((c.length : Int) > 4096))) := by
 refine CallA.of Tryz.func14 rfl (by kernel_rfl) ?_
 exact R.go 11 (R.retE (.bool (decide ((c.length : Int) > 4096))) (by kernel_rfl) (by kernel_rfl) (by rfl))
set_option maxHeartbeats 4000000 in
theorem lawAV_c (c : List Int) (hcb : ∀ q : Nat, q < c.length → 0 ≤ c.getD q 0 ∧ c.getD q 0 ≤ 255) : CallA Tryz.prog 4 [LB c] (.bool true) := by
 refine CallA.of Tryz.func4 rfl (by kernel_rfl) (R.go 8 (k15 true (big_c c) (R.go 1 (k4 ((c.length : Int) > 4096) (fun c1 => ?_) (fun c1 => ?_)))))
 ·exact R.go 4 (k18 (.bool true) (by rfl))
 have hc : BY c := ⟨by omega, hcb⟩
 refine R.go 4 (k25 (drAV_c c hc) ?_)
 rintro _ _ ⟨n_2, ys_3, vs_4, a_5, f6, f7, f8, rfl, rfl⟩
 refine R.go 14 (k15 true (AV_impl n_2 ys_3 vs_4 a_5 (by first | omega | assumption | exact Nat.le_trans (foR_len _ _) (by decide) | (simp <;> omega)) (by first | omega | assumption | exact Nat.le_trans (foR_len _ _) (by decide) | (simp <;> omega)) (by first | omega | assumption | exact Nat.le_trans (foR_len _ _) (by decide) | (simp <;> omega))) (R.go 11 (k15 true (AV_spec n_2 ys_3 vs_4 a_5 (by first | omega | assumption | exact Nat.le_trans (foR_len _ _) (by decide) | (simp <;> omega)) (by first | omega | assumption | exact Nat.le_trans (foR_len _ _) (by decide) | (simp <;> omega)) (by first | omega | assumption | exact Nat.le_trans (foR_len _ _) (by decide) | (simp <;> omega))) (R.go 13 (k7 false (nF rfl) ?_ (b := (!decide ((avC n_2 ys_3 vs_4 a_5) = (avC n_2 ys_3 vs_4 a_5)))))))))
 iterate 2 refine R.go 1 (k7 false (nF rfl) ?_ (b := (!decide ((avC n_2 ys_3 vs_4 a_5) = (avC n_2 ys_3 vs_4 a_5)))))
 refine R.go 1 (k9 false (nF rfl) ?_ (b := (!decide ((avC n_2 ys_3 vs_4 a_5) = (avC n_2 ys_3 vs_4 a_5)))))
 refine R.go 1 (R.els (!decide ((avV n_2 ys_3 vs_4 a_5) = (avV n_2 ys_3 vs_4 a_5))) (by kernel_rfl) (nF rfl) (R.go 7 (k4 ((avC n_2 ys_3 vs_4 a_5) = 0) (fun c9 => ?_) (fun c9 => ?_))))
 ·have hav := av_law (by assumption : avC n_2 ys_3 vs_4 a_5 = 0)
  have hf0 : (foC n_2 ys_3) = 0 := hav.1
  have hf1 : (mcode (foN n_2 ys_3) (foR n_2 ys_3) vs_4 a_5) = 0 := hav.2.1
  have hf2 : (tval (foN n_2 ys_3) (foR n_2 ys_3) vs_4 a_5) = (avV n_2 ys_3 vs_4 a_5) := hav.2.2
  refine R.go 3 (k15 true (foA_c n_2 ys_3 (by first | omega | assumption | exact Nat.le_trans (foR_len _ _) (by decide) | (simp <;> omega))).frz (R.go 13 (k15 true (TS_impl (foN n_2 ys_3) (foR n_2 ys_3) vs_4 a_5 (by first | omega | assumption | exact Nat.le_trans (foR_len _ _) (by decide) | (simp <;> omega)) (by first | omega | assumption | exact Nat.le_trans (foR_len _ _) (by decide) | (simp <;> omega)) (by first | omega | assumption | exact Nat.le_trans (foR_len _ _) (by decide) | (simp <;> omega))) (R.go 11 (k7 false (nF hf0) (R.go 1 (k7 false (nF hf0) (R.go 1 (k9 false (nF hf0) ?_)))))))))
  iterate 3 refine R.go 1 (k7 false (nF hf1) ?_)
  refine R.go 1 (k9 false (nF hf1) (R.go 1 (R.els (!decide ((tval (foN n_2 ys_3) (foR n_2 ys_3) vs_4 a_5) = (avV n_2 ys_3 vs_4 a_5))) (by kernel_rfl) (nF hf2) (R.go 4 (k29 (drVA_c c hc) (by rintro _ _ ⟨_, _, _, _, _, rfl, rfl⟩; rfl) ?_)))))
  rintro _ ⟨n_10, ys_11, a_12, f13, f14, rfl, _⟩
  refine R.go 11 (k15 true (VA_impl n_10 ys_11 a_12 (by first | omega | assumption | exact Nat.le_trans (foR_len _ _) (by decide) | (simp <;> omega)) (by first | omega | assumption | exact Nat.le_trans (foR_len _ _) (by decide) | (simp <;> omega))) (R.go 10 (k15 true (VA_spec n_10 ys_11 a_12 (by first | omega | assumption | exact Nat.le_trans (foR_len _ _) (by decide) | (simp <;> omega)) (by first | omega | assumption | exact Nat.le_trans (foR_len _ _) (by decide) | (simp <;> omega))) (R.go 13 (k7 false (nF rfl) ?_ (b := (!decide ((vaC n_10 ys_11 a_12) = (vaC n_10 ys_11 a_12)))))))))
  iterate 2 refine R.go 1 (k7 false (nF rfl) ?_ (b := (!decide ((vaC n_10 ys_11 a_12) = (vaC n_10 ys_11 a_12)))))
  refine R.go 1 (k9 false (nF rfl) ?_ (b := (!decide ((vaC n_10 ys_11 a_12) = (vaC n_10 ys_11 a_12)))))
  refine R.go 1 (R.els (!((vaB n_10 ys_11 a_12) == (vaB n_10 ys_11 a_12))) (by kernel_rfl) (bnF (beq_self_eq_true _)) (R.go 7 (k5 ((vaC n_10 ys_11 a_12) = 0) (fun c15 => ?_) (fun c15 => ?_))))
  ·exact R.go 4 (k18 (.bool true) (by rfl))
  have hva := va_law (by assumption : vaC n_10 ys_11 a_12 = 0)
  have hs0 : (scode (foN n_10 ys_11) (foR n_10 ys_11) [a_12]) = 0 := hva.1
  have hs3 : ¬ (scode (foN n_10 ys_11) (foR n_10 ys_11) [a_12]) = 3 := by rw [hs0]; decide
  have hvb := hva.2
  refine R.go 4 (k15 true (foA_c n_10 ys_11 (by first | omega | assumption | exact Nat.le_trans (foR_len _ _) (by decide) | (simp <;> omega))).frz (R.go 11 (k15 true (VO_impl (foN n_10 ys_11) (foR n_10 ys_11) a_12 (by first | omega | assumption | exact Nat.le_trans (foR_len _ _) (by decide) | (simp <;> omega)) (by first | omega | assumption | exact Nat.le_trans (foR_len _ _) (by decide) | (simp <;> omega))) (R.go 11 (k7 false (dF hs3) ?_)))))
  iterate 2 refine R.go 1 (k7 false (dF hs3) ?_)
  iterate 3 refine R.go 1 (k7 true (dT hs0) ?_)
  refine R.go 1 (k7 false (dF hs3) (k9 true (dT hs0) (k9 false (dF hs3) ?_)))
  exact R.go 2 (k18 (.bool ((vdB (foN n_10 ys_11) (foR n_10 ys_11) a_12) == (vaB n_10 ys_11 a_12))) (by first | (first | rfl | exact congrArg AV.bool (by rw [hvb]; exact beq_self_eq_true _) | (exfalso; omega)) | (exfalso; omega)))
 refine R.go 4 (k29 (drVA_c c hc) (by rintro _ _ ⟨_, _, _, _, _, rfl, rfl⟩; rfl) ?_)
 rintro _ ⟨n_16, ys_17, a_18, f19, f20, rfl, _⟩
 refine R.go 11 (k15 true (VA_impl n_16 ys_17 a_18 (by first | omega | assumption | exact Nat.le_trans (foR_len _ _) (by decide) | (simp <;> omega)) (by first | omega | assumption | exact Nat.le_trans (foR_len _ _) (by decide) | (simp <;> omega))) (R.go 10 (k15 true (VA_spec n_16 ys_17 a_18 (by first | omega | assumption | exact Nat.le_trans (foR_len _ _) (by decide) | (simp <;> omega)) (by first | omega | assumption | exact Nat.le_trans (foR_len _ _) (by decide) | (simp <;> omega))) (R.go 13 (k7 false (nF rfl) ?_ (b := (!decide ((vaC n_16 ys_17 a_18) = (vaC n_16 ys_17 a_18)))))))))
 iterate 2 refine R.go 1 (k7 false (nF rfl) ?_ (b := (!decide ((vaC n_16 ys_17 a_18) = (vaC n_16 ys_17 a_18)))))
 refine R.go 1 (k9 false (nF rfl) ?_ (b := (!decide ((vaC n_16 ys_17 a_18) = (vaC n_16 ys_17 a_18)))))
 refine R.go 1 (R.els (!((vaB n_16 ys_17 a_18) == (vaB n_16 ys_17 a_18))) (by kernel_rfl) (bnF (beq_self_eq_true _)) (R.go 7 (k5 ((vaC n_16 ys_17 a_18) = 0) (fun c21 => ?_) (fun c21 => ?_))))
 ·exact R.go 4 (k18 (.bool true) (by rfl))
 have hva := va_law (by assumption : vaC n_16 ys_17 a_18 = 0)
 have hs0 : (scode (foN n_16 ys_17) (foR n_16 ys_17) [a_18]) = 0 := hva.1
 have hs3 : ¬ (scode (foN n_16 ys_17) (foR n_16 ys_17) [a_18]) = 3 := by rw [hs0]; decide
 have hvb := hva.2
 refine R.go 4 (k15 true (foA_c n_16 ys_17 (by first | omega | assumption | exact Nat.le_trans (foR_len _ _) (by decide) | (simp <;> omega))).frz (R.go 11 (k15 true (VO_impl (foN n_16 ys_17) (foR n_16 ys_17) a_18 (by first | omega | assumption | exact Nat.le_trans (foR_len _ _) (by decide) | (simp <;> omega)) (by first | omega | assumption | exact Nat.le_trans (foR_len _ _) (by decide) | (simp <;> omega))) (R.go 11 (k7 false (dF hs3) ?_)))))
 iterate 2 refine R.go 1 (k7 false (dF hs3) ?_)
 iterate 3 refine R.go 1 (k7 true (dT hs0) ?_)
 refine R.go 1 (k7 false (dF hs3) (k9 true (dT hs0) (k9 false (dF hs3) ?_)))
 exact R.go 2 (k18 (.bool ((vdB (foN n_16 ys_17) (foR n_16 ys_17) a_18) == (vaB n_16 ys_17 a_18))) (by first | (first | rfl | exact congrArg AV.bool (by rw [hvb]; exact beq_self_eq_true _) | (exfalso; omega)) | (exfalso; omega)))
end Go.Proofs.YtehbliocfpppoaaGreat
