/- Texts of the proof: G02, G03. -/
import Derived.Test.YtgebepfdphmjcaaPartK

/-! Signs of the places of a formula, by a function that calls itself. -/
namespace Go.Proofs.Ytgebepfdphmjcaa
open Go.RowKit Go.Abs

theorem partsA_c (nv : Nat) (a : List (Int × Int)) (hok : OKM nv a) (hl : a.length ≤ 1000000000) : CallA Try.prog 106 [LN a] (ownA eLN 29 1 (prtsL a)) := by
  by_cases h1 : partsN (a.getD 0 (0, 0)).1 = 1
  · rw [prts_1 h1]; exact parts1_c nv a hok h1 hl
  · by_cases h2 : partsN (a.getD 0 (0, 0)).1 = 2
    · rw [prts_2 h2]; exact parts2_c nv a hok h2 hl
    · rw [prts_0 h1 h2]; exact parts0_c nv a hok h1 h2 hl

theorem polT_mono (a : List (Int × Int)) (p : Int) (i : Nat) : ∀ d, (polT a p i).length ≤ (polT a p (i + d)).length
  | 0 => Nat.le_refl _
  | d + 1 => by
    have := polT_mono a p i d
    rw [← Nat.add_assoc, polT, List.length_append]
    omega
theorem polT_le {nv : Nat} {a : List (Int × Int)} (ha : OKM nv a) (p : Int) {i : Nat} (hi : i < (prtsL a).length) : (polT a p i).length + ((prtsL a).getD i []).length ≤ a.length := by
  have h := polT_mono a p (i + 1) ((prtsL a).length - (i + 1))
  rw [show i + 1 + ((prtsL a).length - (i + 1)) = (prtsL a).length by omega, polT_end ha rfl, polF_len ha, polT, List.length_append, polF_len (prts_ok ha hi).1] at h
  exact h
theorem polT_s1 {a : List (Int × Int)} {p : Int} {X Z Y : List Int} {i : Nat} (hZ : Z = X ++ polT a p i) (hY : Y = Z ++ polF ((prtsL a).getD i []) (IntKind.i64.wrap (0 - p))) (h4 : (a.getD 0 (0, 0)).1 = 4) (hi : i = 0) : Y = X ++ polT a p (i + 1) := by
  rw [hY, hZ, polT, if_pos ⟨h4, hi⟩, List.append_assoc]
theorem polT_s2 {a : List (Int × Int)} {p : Int} {X Z Y : List Int} {i : Nat} (hZ : Z = X ++ polT a p i) (hY : Y = Z ++ polF ((prtsL a).getD i []) p) (h4 : ¬ (a.getD 0 (0, 0)).1 = 4 ∨ ¬ i = 0) : Y = X ++ polT a p (i + 1) := by
  rw [hY, hZ, polT, if_neg (by rintro ⟨h, h'⟩; exact h4.elim (fun e => e h) (fun e => e h')), List.append_assoc]
theorem polT_t1 {a : List (Int × Int)} {p : Int} {Z Y : List Int} {i : Nat} (hZ : Z = polT a p i) (hY : Y = Z ++ polF ((prtsL a).getD i []) (IntKind.i64.wrap (0 - p))) (h4 : (a.getD 0 (0, 0)).1 = 4) (hi : i = 0) : Y = polT a p (i + 1) := by
  rw [hY, hZ, polT, if_pos ⟨h4, hi⟩]
theorem polT_t2 {a : List (Int × Int)} {p : Int} {Z Y : List Int} {i : Nat} (hZ : Z = polT a p i) (hY : Y = Z ++ polF ((prtsL a).getD i []) p) (h4 : ¬ (a.getD 0 (0, 0)).1 = 4 ∨ ¬ i = 0) : Y = polT a p (i + 1) := by
  rw [hY, hZ, polT, if_neg (by rintro ⟨h, h'⟩; exact h4.elim (fun e => e h) (fun e => e h'))]
theorem polT_fin0 {nv : Nat} {a : List (Int × Int)} {p : Int} {Z : List Int} {i : Nat} (ha : OKM nv a) (hZ : Z = polT a p i) (h1 : i ≤ (prtsL a).length) (h2 : ¬ (i : Int) < ((prtsL a).length : Int)) : Z = polF a p := by
  rw [hZ, polT_end ha (by omega)]
theorem polT_fin {nv : Nat} {a : List (Int × Int)} {p : Int} {X Z : List Int} {i : Nat} (ha : OKM nv a) (hZ : Z = X ++ polT a p i) (h1 : i ≤ (prtsL a).length) (h2 : ¬ (i : Int) < ((prtsL a).length : Int)) : Z = X ++ polF a p := by
  rw [hZ, polT_end ha (by omega)]

theorem walkP_c : ∀ (k : Nat) (nv : Nat) (a : List (Int × Int)) (p : Int) (X : List Int) (hk : a.length = k) (hok : OKM nv a) (hl : a.length ≤ 300000) (hX : X.length + a.length ≤ 1000000), CallY Try.prog 2 135 [LN a, AI p, .ptr 0 0, .ptr 1 0] [.box 24 [.ref 2], .box 138 [.fn 135 [.ptr 0 0, .ptr 1 0]], rowA eI 2 1 X] (fun (resX : AV) (objX : List AObj) => ∃ Y : List Int, (Y = X ++ polF a p) ∧ resX = .tup [] ∧ objX = [.box 24 [.ref 2], .box 138 [.fn 135 [.ptr 0 0, .ptr 1 0]], rowA eI 2 1 Y]) := by
  intro k
  induction k using Nat.strongRecOn with
  | _ k ih =>
  intro nv a p X hk hok hl hX
  have hpos := okm_pos hok
  have hp2 := prts_le a
  refine CallY.dropE (CallY.ofF Try.func135 rfl (by kernel_rfl) ?_)
  intro usC frC hfC hkC
  refine R.go 5 (R.app eI X [p] 2 2 1 8 (by kernel_rfl) eI_one (by decide) (by first | omega | (simp <;> omega)) (by kernel_rfl) ?_)
  refine R.kfix 3 (us := usC) (by kernel_rfl) hkC ?_
  refine R.go 5 (R.call true (partsA_c nv a hok (by first | omega | (simp <;> omega))) (by kernel_rfl) rfl (by kernel_rfl) ?_)
  refine R.frz 5 (by kernel_rfl) ?_
  refine R.kfix 3 (us := usC) (by kernel_rfl) (hfC.frz 5 (LLN (prtsL a)) (Nat.le_of_ble_eq_true (by kernel_rfl))) ?_
  refine R.go 4 (R.loop ((fun | (i, Z) => (⟨(frm 39 [(0, LN a), (1, AI p), (3, .ptr 1 0), (13, LLN (prtsL a)), (14, AI ((prtsL a).length)), (15, AI (i : Int))]), [.box 24 [.ref 2], .box 138 [.fn 135 [.ptr 0 0, .ptr 1 0]], rowA eI 2 1 Z, .frame usC frC]⟩ : St) : Nat × (List Int) → St)) (fun | (i, Z) => (i ≤ (prtsL a).length) ∧ (Z = X ++ polT a p i)) (fun | (i, Z) => (prtsL a).length - i) (0, (X ++ [p])) [0, 1, 3, 13, 14, 15] (some [0, 1, 2, 3]) (by kernel_rfl) (by kernel_rfl) (canonF (fr := frC) (fun (frX : List AV) => (⟨(frm 39 [(0, LN a), (1, AI p), (3, .ptr 1 0), (13, LLN (prtsL a)), (14, AI ((prtsL a).length)), (15, AI 0)]), [.box 24 [.ref 2], .box 138 [.fn 135 [.ptr 0 0, .ptr 1 0]], rowA eI 2 1 (X ++ [p]), .frame usC frX]⟩ : St)) (hfC.ren _ (by kernel_rfl)) (by kernel_rfl) (by kernel_rfl)) ⟨(by omega), (by rfl)⟩ ?_)
  rintro ⟨i, Z⟩ ⟨h4_1, h4_2⟩ R1 N2
  refine R.go 5 (R.cond ((i : Int) < ((prtsL a).length : Int)) (by kernel_rfl) (fun c5 => ?_) (fun c5 => ?_))
  · refine R.go 6 (R.idx eLN (prtsL a) [] i (i : Int) (by kernel_rfl) rfl eLN_len (by omega) (by kernel_rfl) ?_)
    refine R.go 7 (R.idx eN a (0, 0) 0 0 (by kernel_rfl) rfl eN_len (by omega) (by kernel_rfl) ?_)
    refine R.go 4 ?_
    by_cases c6 : ((a.getD 0 (0, 0)).1) = 4
    · refine R.want (decide (((a.getD 0 (0, 0)).1) = 4)) true (by kernel_rfl) (dT c6) ?_
      refine R.go 1 (R.want (decide (((a.getD 0 (0, 0)).1) = 4)) true (by kernel_rfl) (dT c6) ?_)
      refine R.go 1 (R.pick (decide (((a.getD 0 (0, 0)).1) = 4)) true (by kernel_rfl) (dT c6) (by kernel_rfl) ?_)
      refine R.go 1 (R.cond ((i : Int) = 0) (by kernel_rfl) (fun c7 => ?_) (fun c7 => ?_))
      · have hpr := prts_ok hok (show i < (prtsL a).length by omega)
        have hpr1 := hpr.1
        have hpr2 := hpr.2
        have hpr3 := polT_le hok p (show i < (prtsL a).length by omega)
        have hZl : Z.length = X.length + (polT a p i).length := by rw [‹Z = X ++ polT a p i›, List.length_append]
        refine R.go 5 (R.callY (CallY.inF 3 usC frC (ih (((prtsL a).getD i []).length) (by omega) nv ((prtsL a).getD i []) (IntKind.i64.wrap (0 - p)) Z (by first | rfl | simp) (by first | assumption | exact (prts_ok hok (by omega)).1) (by omega) (by omega)) (Nat.le_of_ble_eq_true (by kernel_rfl)) (by kernel_rfl) (by kernel_rfl) (by rintro _ _ ⟨_, _, rfl, rfl⟩; exact Nat.le_of_ble_eq_true (by kernel_rfl)) 2 rfl hkC) (by kernel_rfl) (by kernel_rfl) (by kernel_rfl) (by kernel_rfl) ?_)
        rintro _ _ ⟨_, _, ⟨Y_8, f9, rfl, rfl⟩, rfl, rfl⟩
        refine R.go 3 (R.ar ((i : Int) + 1) (by kernel_rfl) (by omega) (by omega) (by kernel_rfl) ?_)
        exact R.go 2 (R.stop R1 (by kernel_rfl) (N2 (i + 1, Y_8) [0, 1, 3, 13, 14, 15] none _ (by kernel_rfl) (by kernel_rfl) ⟨(by omega), (by first | exact polT_s1 ‹Z = X ++ polT a p i› (by assumption) (by assumption) (by omega) | exact polT_s2 ‹Z = X ++ polT a p i› (by assumption) (.inl (by assumption)) | exact polT_s2 ‹Z = X ++ polT a p i› (by assumption) (.inr (by omega)))⟩ (by show ((prtsL a).length - (i + 1)) < ((prtsL a).length - i); omega)))
      · have hpr := prts_ok hok (show i < (prtsL a).length by omega)
        have hpr1 := hpr.1
        have hpr2 := hpr.2
        have hpr3 := polT_le hok p (show i < (prtsL a).length by omega)
        have hZl : Z.length = X.length + (polT a p i).length := by rw [‹Z = X ++ polT a p i›, List.length_append]
        refine R.go 4 (R.callY (CallY.inF 3 usC frC (ih (((prtsL a).getD i []).length) (by omega) nv ((prtsL a).getD i []) p Z (by first | rfl | simp) (by first | assumption | exact (prts_ok hok (by omega)).1) (by omega) (by omega)) (Nat.le_of_ble_eq_true (by kernel_rfl)) (by kernel_rfl) (by kernel_rfl) (by rintro _ _ ⟨_, _, rfl, rfl⟩; exact Nat.le_of_ble_eq_true (by kernel_rfl)) 2 rfl hkC) (by kernel_rfl) (by kernel_rfl) (by kernel_rfl) (by kernel_rfl) ?_)
        rintro _ _ ⟨_, _, ⟨Y_10, f11, rfl, rfl⟩, rfl, rfl⟩
        refine R.go 3 (R.ar ((i : Int) + 1) (by kernel_rfl) (by omega) (by omega) (by kernel_rfl) ?_)
        exact R.go 2 (R.stop R1 (by kernel_rfl) (N2 (i + 1, Y_10) [0, 1, 3, 13, 14, 15] none _ (by kernel_rfl) (by kernel_rfl) ⟨(by omega), (by first | exact polT_s1 ‹Z = X ++ polT a p i› (by assumption) (by assumption) (by omega) | exact polT_s2 ‹Z = X ++ polT a p i› (by assumption) (.inl (by assumption)) | exact polT_s2 ‹Z = X ++ polT a p i› (by assumption) (.inr (by omega)))⟩ (by show ((prtsL a).length - (i + 1)) < ((prtsL a).length - i); omega)))
    · refine R.skp (decide (((a.getD 0 (0, 0)).1) = 4)) true (by kernel_rfl) (dF c6) (by kernel_rfl) ?_
      refine R.skp (decide (((a.getD 0 (0, 0)).1) = 4)) true (by kernel_rfl) (dF c6) (by kernel_rfl) ?_
      refine R.pick (decide (((a.getD 0 (0, 0)).1) = 4)) false (by kernel_rfl) (dF c6) (by kernel_rfl) ?_
      have hpr := prts_ok hok (show i < (prtsL a).length by omega)
      have hpr1 := hpr.1
      have hpr2 := hpr.2
      have hpr3 := polT_le hok p (show i < (prtsL a).length by omega)
      have hZl : Z.length = X.length + (polT a p i).length := by rw [‹Z = X ++ polT a p i›, List.length_append]
      refine R.go 6 (R.callY (CallY.inF 3 usC frC (ih (((prtsL a).getD i []).length) (by omega) nv ((prtsL a).getD i []) p Z (by first | rfl | simp) (by first | assumption | exact (prts_ok hok (by omega)).1) (by omega) (by omega)) (Nat.le_of_ble_eq_true (by kernel_rfl)) (by kernel_rfl) (by kernel_rfl) (by rintro _ _ ⟨_, _, rfl, rfl⟩; exact Nat.le_of_ble_eq_true (by kernel_rfl)) 2 rfl hkC) (by kernel_rfl) (by kernel_rfl) (by kernel_rfl) (by kernel_rfl) ?_)
      rintro _ _ ⟨_, _, ⟨Y_12, f13, rfl, rfl⟩, rfl, rfl⟩
      refine R.go 3 (R.ar ((i : Int) + 1) (by kernel_rfl) (by omega) (by omega) (by kernel_rfl) ?_)
      exact R.go 2 (R.stop R1 (by kernel_rfl) (N2 (i + 1, Y_12) [0, 1, 3, 13, 14, 15] none _ (by kernel_rfl) (by kernel_rfl) ⟨(by omega), (by first | exact polT_s1 ‹Z = X ++ polT a p i› (by assumption) (by assumption) (by omega) | exact polT_s2 ‹Z = X ++ polT a p i› (by assumption) (.inl (by assumption)) | exact polT_s2 ‹Z = X ++ polT a p i› (by assumption) (.inr (by omega)))⟩ (by show ((prtsL a).length - (i + 1)) < ((prtsL a).length - i); omega)))
  · exact R.go 1 (R.retX (res := .tup []) (hp' := [.box 24 [.ref 2], .box 138 [.fn 135 [.ptr 0 0, .ptr 1 0]], rowA eI 2 1 Z, .dead]) (by kernel_rfl) (by kernel_rfl) (by kernel_rfl) (by kernel_rfl) ⟨[0, 1, 2], by kernel_rfl, by decide, Z, by exact polT_fin hok ‹Z = X ++ polT a p i› (by omega) (by omega), by kernel_rfl, by kernel_rfl⟩)

theorem walkP0_c (nv : Nat) (a : List (Int × Int)) (p : Int) (hok : OKM nv a) (hl : a.length ≤ 300000) : CallX Try.prog 135 [LN a, AI p, .ptr 0 0, .ptr 1 0] [.box 24 [.nil], .box 138 [.fn 135 [.ptr 0 0, .ptr 1 0]]] (fun (resX : AV) (objX : List AObj) => ∃ Y : List Int, (Y = polF a p) ∧ resX = .tup [] ∧ objX = [.box 24 [.ref 2], .box 138 [.fn 135 [.ptr 0 0, .ptr 1 0]], rowA eI 2 1 Y]) := by
  have hpos := okm_pos hok
  have hp2 := prts_le a
  refine CallX.dropE (CallX.ofF Try.func135 rfl (by kernel_rfl) ?_)
  intro usC frC hfC
  refine R.go 5 (R.appN eI [p] 2 1 8 (by kernel_rfl) eI_one (by decide) (by first | omega | (simp <;> omega)) (by kernel_rfl) ?_)
  refine R.go 5 (R.call true (partsA_c nv a hok (by first | omega | (simp <;> omega))) (by kernel_rfl) rfl (by kernel_rfl) ?_)
  refine R.frz 5 (by kernel_rfl) ?_
  refine R.kfix 2 (us := usC) (by kernel_rfl) (hfC.frz 5 (LLN (prtsL a)) (Nat.le_of_ble_eq_true (by kernel_rfl))) ?_
  refine R.go 4 (R.loop ((fun | (i, Z) => (⟨(frm 39 [(0, LN a), (1, AI p), (3, .ptr 1 0), (13, LLN (prtsL a)), (14, AI ((prtsL a).length)), (15, AI (i : Int))]), [.box 24 [.ref 3], .box 138 [.fn 135 [.ptr 0 0, .ptr 1 0]], .frame usC frC, rowA eI 2 1 Z]⟩ : St) : Nat × (List Int) → St)) (fun | (i, Z) => (i ≤ (prtsL a).length) ∧ (Z = polT a p i)) (fun | (i, Z) => (prtsL a).length - i) (0, [p]) [0, 1, 3, 13, 14, 15] (some [0, 1, 2, 4]) (by kernel_rfl) (by kernel_rfl) (canonF (fr := frC) (fun (frX : List AV) => (⟨(frm 39 [(0, LN a), (1, AI p), (3, .ptr 1 0), (13, LLN (prtsL a)), (14, AI ((prtsL a).length)), (15, AI 0)]), [.box 24 [.ref 3], .box 138 [.fn 135 [.ptr 0 0, .ptr 1 0]], .frame usC frX, rowA eI 2 1 [p]]⟩ : St)) (hfC.ren _ (by kernel_rfl)) (by kernel_rfl) (by kernel_rfl)) ⟨(by omega), (by rfl)⟩ ?_)
  rintro ⟨i, Z⟩ ⟨h4_1, h4_2⟩ R1 N2
  refine R.go 5 (R.cond ((i : Int) < ((prtsL a).length : Int)) (by kernel_rfl) (fun c5 => ?_) (fun c5 => ?_))
  · refine R.go 6 (R.idx eLN (prtsL a) [] i (i : Int) (by kernel_rfl) rfl eLN_len (by omega) (by kernel_rfl) ?_)
    refine R.go 7 (R.idx eN a (0, 0) 0 0 (by kernel_rfl) rfl eN_len (by omega) (by kernel_rfl) ?_)
    refine R.go 4 ?_
    by_cases c6 : ((a.getD 0 (0, 0)).1) = 4
    · refine R.want (decide (((a.getD 0 (0, 0)).1) = 4)) true (by kernel_rfl) (dT c6) ?_
      refine R.go 1 (R.want (decide (((a.getD 0 (0, 0)).1) = 4)) true (by kernel_rfl) (dT c6) ?_)
      refine R.go 1 (R.pick (decide (((a.getD 0 (0, 0)).1) = 4)) true (by kernel_rfl) (dT c6) (by kernel_rfl) ?_)
      refine R.go 1 (R.cond ((i : Int) = 0) (by kernel_rfl) (fun c7 => ?_) (fun c7 => ?_))
      · have hpr := prts_ok hok (show i < (prtsL a).length by omega)
        have hpr1 := hpr.1
        have hpr2 := hpr.2
        have hpr3 := polT_le hok p (show i < (prtsL a).length by omega)
        have hZl : Z.length = (polT a p i).length := by rw [‹Z = polT a p i›]
        refine R.go 5 (R.callY (CallY.inF 2 usC frC (walkP_c (((prtsL a).getD i []).length) nv ((prtsL a).getD i []) (IntKind.i64.wrap (0 - p)) Z (by first | rfl | simp) (by first | assumption | exact (prts_ok hok (by omega)).1) (by omega) (by omega)) (Nat.le_of_ble_eq_true (by kernel_rfl)) (by kernel_rfl) (by kernel_rfl) (by rintro _ _ ⟨_, _, rfl, rfl⟩; exact Nat.le_of_ble_eq_true (by kernel_rfl)) 3 rfl (hfC.kill 3 (Nat.le_of_ble_eq_true (by kernel_rfl)))) (by kernel_rfl) (by kernel_rfl) (by kernel_rfl) (by kernel_rfl) ?_)
        rintro _ _ ⟨_, _, ⟨Y_8, f9, rfl, rfl⟩, rfl, rfl⟩
        refine R.go 3 (R.ar ((i : Int) + 1) (by kernel_rfl) (by omega) (by omega) (by kernel_rfl) ?_)
        exact R.go 2 (R.stop R1 (by kernel_rfl) (N2 (i + 1, Y_8) [0, 1, 3, 13, 14, 15] none _ (by kernel_rfl) (by kernel_rfl) ⟨(by omega), (by first | exact polT_t1 ‹Z = polT a p i› (by assumption) (by assumption) (by omega) | exact polT_t2 ‹Z = polT a p i› (by assumption) (.inl (by assumption)) | exact polT_t2 ‹Z = polT a p i› (by assumption) (.inr (by omega)))⟩ (by show ((prtsL a).length - (i + 1)) < ((prtsL a).length - i); omega)))
      · have hpr := prts_ok hok (show i < (prtsL a).length by omega)
        have hpr1 := hpr.1
        have hpr2 := hpr.2
        have hpr3 := polT_le hok p (show i < (prtsL a).length by omega)
        have hZl : Z.length = (polT a p i).length := by rw [‹Z = polT a p i›]
        refine R.go 4 (R.callY (CallY.inF 2 usC frC (walkP_c (((prtsL a).getD i []).length) nv ((prtsL a).getD i []) p Z (by first | rfl | simp) (by first | assumption | exact (prts_ok hok (by omega)).1) (by omega) (by omega)) (Nat.le_of_ble_eq_true (by kernel_rfl)) (by kernel_rfl) (by kernel_rfl) (by rintro _ _ ⟨_, _, rfl, rfl⟩; exact Nat.le_of_ble_eq_true (by kernel_rfl)) 3 rfl (hfC.kill 3 (Nat.le_of_ble_eq_true (by kernel_rfl)))) (by kernel_rfl) (by kernel_rfl) (by kernel_rfl) (by kernel_rfl) ?_)
        rintro _ _ ⟨_, _, ⟨Y_10, f11, rfl, rfl⟩, rfl, rfl⟩
        refine R.go 3 (R.ar ((i : Int) + 1) (by kernel_rfl) (by omega) (by omega) (by kernel_rfl) ?_)
        exact R.go 2 (R.stop R1 (by kernel_rfl) (N2 (i + 1, Y_10) [0, 1, 3, 13, 14, 15] none _ (by kernel_rfl) (by kernel_rfl) ⟨(by omega), (by first | exact polT_t1 ‹Z = polT a p i› (by assumption) (by assumption) (by omega) | exact polT_t2 ‹Z = polT a p i› (by assumption) (.inl (by assumption)) | exact polT_t2 ‹Z = polT a p i› (by assumption) (.inr (by omega)))⟩ (by show ((prtsL a).length - (i + 1)) < ((prtsL a).length - i); omega)))
    · refine R.skp (decide (((a.getD 0 (0, 0)).1) = 4)) true (by kernel_rfl) (dF c6) (by kernel_rfl) ?_
      refine R.skp (decide (((a.getD 0 (0, 0)).1) = 4)) true (by kernel_rfl) (dF c6) (by kernel_rfl) ?_
      refine R.pick (decide (((a.getD 0 (0, 0)).1) = 4)) false (by kernel_rfl) (dF c6) (by kernel_rfl) ?_
      have hpr := prts_ok hok (show i < (prtsL a).length by omega)
      have hpr1 := hpr.1
      have hpr2 := hpr.2
      have hpr3 := polT_le hok p (show i < (prtsL a).length by omega)
      have hZl : Z.length = (polT a p i).length := by rw [‹Z = polT a p i›]
      refine R.go 6 (R.callY (CallY.inF 2 usC frC (walkP_c (((prtsL a).getD i []).length) nv ((prtsL a).getD i []) p Z (by first | rfl | simp) (by first | assumption | exact (prts_ok hok (by omega)).1) (by omega) (by omega)) (Nat.le_of_ble_eq_true (by kernel_rfl)) (by kernel_rfl) (by kernel_rfl) (by rintro _ _ ⟨_, _, rfl, rfl⟩; exact Nat.le_of_ble_eq_true (by kernel_rfl)) 3 rfl (hfC.kill 3 (Nat.le_of_ble_eq_true (by kernel_rfl)))) (by kernel_rfl) (by kernel_rfl) (by kernel_rfl) (by kernel_rfl) ?_)
      rintro _ _ ⟨_, _, ⟨Y_12, f13, rfl, rfl⟩, rfl, rfl⟩
      refine R.go 3 (R.ar ((i : Int) + 1) (by kernel_rfl) (by omega) (by omega) (by kernel_rfl) ?_)
      exact R.go 2 (R.stop R1 (by kernel_rfl) (N2 (i + 1, Y_12) [0, 1, 3, 13, 14, 15] none _ (by kernel_rfl) (by kernel_rfl) ⟨(by omega), (by first | exact polT_t1 ‹Z = polT a p i› (by assumption) (by assumption) (by omega) | exact polT_t2 ‹Z = polT a p i› (by assumption) (.inl (by assumption)) | exact polT_t2 ‹Z = polT a p i› (by assumption) (.inr (by omega)))⟩ (by show ((prtsL a).length - (i + 1)) < ((prtsL a).length - i); omega)))
  · exact R.go 1 (R.retX (res := .tup []) (hp' := [.box 24 [.ref 3], .box 138 [.fn 135 [.ptr 0 0, .ptr 1 0]], .dead, rowA eI 2 1 Z]) (by kernel_rfl) (by kernel_rfl) (by kernel_rfl) (by kernel_rfl) ⟨[0, 1, 3], by kernel_rfl, by decide, Z, by exact polT_fin0 hok ‹Z = polT a p i› (by omega) (by omega), by kernel_rfl, by kernel_rfl⟩)

theorem polarities_c (nv : Nat) (a : List (Int × Int)) (hok : OKM nv a) (hl : a.length ≤ 300000) : CallA Try.prog 101 [LN a] (ownA eI 2 1 (polF a 1)) := by
  refine CallA.of Try.func101 rfl (by kernel_rfl) ?_
  refine R.go 21 (R.callX (walkP0_c nv a 1 hok hl) (by kernel_rfl) (by kernel_rfl) (by kernel_rfl) ?_)
  rintro _ _ ⟨Y_1, f2, rfl, rfl⟩
  have hYe := (by assumption : Y_1 = polF a 1)
  exact R.go 6 (R.retE (ownA eI 2 1 Y_1) (by kernel_rfl) (by kernel_rfl) (by first | (rw [hYe]) | (exfalso; omega)))

end Go.Proofs.Ytgebepfdphmjcaa


/-! Guarded variables; heights of formulas. -/
namespace Go.Proofs.Ytgebepfdphmjcaa
open Go.RowKit Go.Abs

def guK : Nat → List (Int × Int) → Int → Bool
  | 0, _, _ => false
  | m + 1, a, v => if (a.getD 0 (0, 0)).1 = 5 ∨ (a.getD 0 (0, 0)).1 = 6 then true else decide (¬ ((a.getD 0 (0, 0)).1 = 0 ∧ (a.getD 0 (0, 0)).2 = v)) && !((prtsL a).any fun b => !guK m b v)
theorem any_congr' {l : List (List (Int × Int))} {p q : List (Int × Int) → Bool} (h : ∀ i, i < l.length → p (l.getD i []) = q (l.getD i [])) : l.any p = l.any q := by
  rw [Bool.eq_iff_iff, List.any_eq_true, List.any_eq_true]
  have key : ∀ x ∈ l, p x = q x := fun x hx => by
    obtain ⟨i, hi, e⟩ := List.getElem_of_mem hx
    have := h i hi
    rwa [List.getD_eq_getElem?_getD, List.getElem?_eq_getElem hi, Option.getD_some, e] at this
  exact ⟨fun ⟨x, hx, hp⟩ => ⟨x, hx, by rw [← key x hx]; exact hp⟩, fun ⟨x, hx, hp⟩ => ⟨x, hx, by rw [key x hx]; exact hp⟩⟩
theorem gu_fuel {nv : Nat} : ∀ (k k' : Nat) (a : List (Int × Int)) (v : Int), OKM nv a → a.length ≤ k → a.length ≤ k' → guK k a v = guK k' a v
  | 0, _, a, _, ha, hk, _ => by have := okm_pos ha; omega
  | k + 1, 0, a, _, ha, _, hk => by have := okm_pos ha; omega
  | k + 1, k' + 1, a, v, ha, hk, hk' => by
    rw [guK, guK]
    split
    · rfl
    · congr 2
      refine any_congr' fun i hi => ?_
      obtain ⟨h1, h2⟩ := prts_ok ha hi
      rw [gu_fuel k k' _ v h1 (by omega) (by omega)]
def guF (a : List (Int × Int)) (v : Int) : Bool := guK a.length a v
theorem guF_e {nv : Nat} {a : List (Int × Int)} {v : Int} (ha : OKM nv a) : guF a v = if (a.getD 0 (0, 0)).1 = 5 ∨ (a.getD 0 (0, 0)).1 = 6 then true else decide (¬ ((a.getD 0 (0, 0)).1 = 0 ∧ (a.getD 0 (0, 0)).2 = v)) && !((prtsL a).any fun b => !guF b v) := by
  have hp := okm_pos ha
  obtain ⟨m, hm⟩ : ∃ m, a.length = m + 1 := ⟨a.length - 1, by omega⟩
  unfold guF
  rw [hm, guK]
  split
  · rfl
  · congr 2
    refine any_congr' fun i hi => ?_
    obtain ⟨h1, h2⟩ := prts_ok ha hi
    rw [gu_fuel m _ _ v h1 (by omega) (Nat.le_refl _)]
theorem g_1 {nv : Nat} {a : List (Int × Int)} {v : Int} (ha : OKM nv a) (h : (a.getD 0 (0, 0)).1 = 5 ∨ (a.getD 0 (0, 0)).1 = 6) : true = guF a v := by rw [guF_e ha, if_pos h]
theorem g_2 {nv : Nat} {a : List (Int × Int)} {v : Int} (ha : OKM nv a) (h : ¬ ((a.getD 0 (0, 0)).1 = 5 ∨ (a.getD 0 (0, 0)).1 = 6)) (h2 : (a.getD 0 (0, 0)).1 = 0 ∧ (a.getD 0 (0, 0)).2 = v) : false = guF a v := by rw [guF_e ha, if_neg h, decide_eq_false (fun e => e h2)]; rfl
theorem g_3 {nv : Nat} {a : List (Int × Int)} {v : Int} (ha : OKM nv a) (h : ¬ ((a.getD 0 (0, 0)).1 = 5 ∨ (a.getD 0 (0, 0)).1 = 6)) (h2 : ¬ ((a.getD 0 (0, 0)).1 = 0 ∧ (a.getD 0 (0, 0)).2 = v)) : (!((prtsL a).any fun b => !guF b v)) = guF a v := by rw [guF_e ha, if_neg h, decide_eq_true h2]; rfl
def gidx (p : List (Int × Int) → Bool) : List (List (Int × Int)) → Int → Int
  | [], _ => -1
  | b :: l, i => if p b = true then i else gidx p l (i + 1)
theorem gidx_any {p : List (Int × Int) → Bool} : ∀ {l : List (List (Int × Int))} {i : Int}, 0 ≤ i → (0 ≤ gidx p l i ↔ l.any p = true)
  | [], i, h => by simp [gidx]
  | b :: l, i, h => by
    rw [gidx, List.any_cons]
    cases e : p b with
    | true => simpa using h
    | false => simpa using gidx_any (l := l) (i := i + 1) (by omega)
theorem gdrop {l : List (List (Int × Int))} {j : Nat} (h : j < l.length) : l.drop j = l.getD j [] :: l.drop (j + 1) := by
  rw [List.drop_eq_getElem_cons h, List.getD_eq_getElem?_getD, List.getElem?_eq_getElem h]; rfl
theorem gidx_hit {p : List (Int × Int) → Bool} {l : List (List (Int × Int))} {i : Nat} (h : i < l.length) (hp : p (l.getD i []) = true) : gidx p (l.drop i) i = i := by rw [gdrop h, gidx, if_pos hp]
theorem gidx_miss {p : List (Int × Int) → Bool} {l : List (List (Int × Int))} {i : Nat} (h : i < l.length) (hp : p (l.getD i []) = false) : gidx p (l.drop i) i = gidx p (l.drop (i + 1)) ((i + 1 : Nat) : Int) := by
  rw [gdrop h, gidx, if_neg (by rw [hp]; decide)]; rfl
theorem gidx_hit' {v : Int} {l : List (List (Int × Int))} {i : Nat} (h : i < l.length) (hp : guF (l.getD i []) v = false) : gidx (fun b => !guF b v) (l.drop i) i = i := gidx_hit (p := fun b => !guF b v) h (by show (!guF (l.getD i []) v) = true; rw [hp]; rfl)
theorem gidx_miss' {v : Int} {l : List (List (Int × Int))} {i : Nat} (h : i < l.length) (hp : guF (l.getD i []) v = true) : gidx (fun b => !guF b v) (l.drop i) i = gidx (fun b => !guF b v) (l.drop (i + 1)) ((i + 1 : Nat) : Int) := gidx_miss (p := fun b => !guF b v) h (by show (!guF (l.getD i []) v) = false; rw [hp]; rfl)
theorem gidx_end {p : List (Int × Int) → Bool} {l : List (List (Int × Int))} {i : Nat} (h : l.length ≤ i) : gidx p (l.drop i) i = -1 := by rw [List.drop_eq_nil_of_le h, gidx]

theorem idxG_c (L : List (List (Int × Int))) (v : Int) (hcl : ∀ b : List (Int × Int), b ∈ L → CallA Try.prog 107 [LN b, .rptr [AI v]] (.bool (!(guF b v)))) (hl : L.length ≤ 1000) : CallA Try.prog 138 [LLN L, .fn 107 [.rptr [AI v]]] (AI (gidx (fun b => !guF b v) L 0)) := by
  refine CallA.of Try.func138 rfl (by kernel_rfl) ?_
  refine R.go 12 (R.loop (fun (i : Nat) => (⟨(frm 19 [(0, LLN L), (1, .fn 107 [.rptr [AI v]]), (7, AI L.length), (8, AI (i : Int))]), []⟩ : St)) (fun (i : Nat) => (i ≤ L.length) ∧ (gidx (fun b => !guF b v) L 0 = gidx (fun b => !guF b v) (L.drop i) i)) (fun (i : Nat) => L.length - i) 0 [0, 1, 7, 8] none (by kernel_rfl) (by kernel_rfl) (by kernel_rfl) ⟨(by omega), (by rfl)⟩ ?_)
  rintro i ⟨h3_1, h3_2⟩ R1 N2
  refine R.go 5 (R.cond ((i : Int) < (L.length : Int)) (by kernel_rfl) (fun c4 => ?_) (fun c4 => ?_))
  · refine R.go 13 (R.idx eLN L [] i (i : Int) (by kernel_rfl) rfl eLN_len (by omega) (by kernel_rfl) ?_)
    refine R.go 1 (R.call true (hcl (L.getD i []) (by exact List.mem_iff_getElem.2 ⟨i, by omega, by rw [List.getD_eq_getElem?_getD, List.getElem?_eq_getElem (by omega)]; rfl⟩)) (by kernel_rfl) rfl (by kernel_rfl) ?_)
    refine R.go 1 (R.condM ((guF (L.getD i []) v)) (by kernel_rfl) (fun c5 => ?_) (fun c5 => ?_))
    · exact R.go 5 (R.retE (AI (i : Int)) (by kernel_rfl) (by kernel_rfl) (by first | (apply congrArg AI; rw [‹gidx (fun b => !guF b v) L 0 = _›]; first | exact (gidx_end (by omega)).symm | exact (gidx_hit' (by omega) (by assumption)).symm) | (exfalso; omega)))
    · refine R.go 3 (R.ar ((i : Int) + 1) (by kernel_rfl) (by omega) (by omega) (by kernel_rfl) ?_)
      exact R.go 2 (R.stop R1 (by kernel_rfl) (N2 (i + 1) [0, 1, 7, 8] none _ (by kernel_rfl) (by kernel_rfl) ⟨(by omega), (by rw [‹gidx (fun b => !guF b v) L 0 = _›]; exact gidx_miss' (by omega) (by assumption))⟩ (by show (L.length - (i + 1)) < (L.length - i); omega)))
  · exact R.go 5 (R.retE (AI (-1)) (by kernel_rfl) (by kernel_rfl) (by first | (apply congrArg AI; rw [‹gidx (fun b => !guF b v) L 0 = _›]; first | exact (gidx_end (by omega)).symm | exact (gidx_hit' (by omega) (by assumption)).symm) | (exfalso; omega)))

theorem conG_c (L : List (List (Int × Int))) (v : Int) (hcl : ∀ b : List (Int × Int), b ∈ L → CallA Try.prog 107 [LN b, .rptr [AI v]] (.bool (!(guF b v)))) (hl : L.length ≤ 1000) : CallA Try.prog 105 [LLN L, .fn 107 [.rptr [AI v]]] (.bool (L.any (fun b => !guF b v))) := by
  refine CallA.of Try.func105 rfl (by kernel_rfl) ?_
  refine R.go 8 (R.call true (idxG_c L v hcl hl) (by kernel_rfl) rfl (by kernel_rfl) ?_)
  exact R.go 3 (R.retE (.bool (decide ((gidx (fun b => !guF b v) L 0) ≥ 0))) (by kernel_rfl) (by kernel_rfl) (by first | (apply congrArg AV.bool; rw [Bool.eq_iff_iff, decide_eq_true_iff]; exact gidx_any (Int.le_refl 0)) | (exfalso; omega)))

theorem closG_c (b : List (Int × Int)) (v : Int) (hg : CallA Try.prog 51 [LN b, AI v] (.bool (guF b v))) : CallA Try.prog 107 [LN b, .rptr [AI v]] (.bool (!(guF b v))) := by
  refine CallA.of Try.func107 rfl (by kernel_rfl) ?_
  refine R.go 8 (R.call true (hg) (by kernel_rfl) rfl (by kernel_rfl) ?_)
  exact R.go 3 (R.retE (.bool (!(guF b v))) (by kernel_rfl) (by kernel_rfl) (by rfl))

theorem isGuarded_c : ∀ (k : Nat) (nv : Nat) (a : List (Int × Int)) (v : Int) (hk : a.length = k) (hok : OKM nv a) (hl : a.length ≤ 300000), CallA Try.prog 51 [LN a, AI v] (.bool (guF a v)) := by
  intro k
  induction k using Nat.strongRecOn with
  | _ k ih =>
  intro nv a v hk hok hl
  have hpos := okm_pos hok
  have hp2 := prts_le a
  have hmem : ∀ b, b ∈ prtsL a → OKM nv b ∧ b.length < a.length := fun b hb => by
    obtain ⟨i, hi, e⟩ := List.getElem_of_mem hb
    have := prts_ok hok hi
    rwa [List.getD_eq_getElem?_getD, List.getElem?_eq_getElem hi, Option.getD_some, e] at this
  have hcl : ∀ b : List (Int × Int), b ∈ prtsL a → CallA Try.prog 107 [LN b, .rptr [AI v]] (.bool (!(guF b v))) := fun b hb => closG_c b v (ih b.length (by have := (hmem b hb).2; omega) nv b v rfl (hmem b hb).1 (by have := (hmem b hb).2; omega))
  refine CallA.of Try.func51 rfl (by kernel_rfl) ?_
  refine R.go 9 (R.idx eN a (0, 0) 0 0 (by kernel_rfl) rfl eN_len (by omega) (by kernel_rfl) ?_)
  refine R.go 2 (R.call true (isModal_c ((a.getD 0 (0, 0)).1)) (by kernel_rfl) rfl (by kernel_rfl) ?_)
  refine R.go 1 (R.cond (((a.getD 0 (0, 0)).1) = 5 ∨ ((a.getD 0 (0, 0)).1) = 6) (by kernel_rfl) (fun c1 => ?_) (fun c1 => ?_))
  · exact R.go 4 (R.retE (.bool true) (by kernel_rfl) (by kernel_rfl) (by first | (apply congrArg AV.bool; first | exact g_1 hok (by assumption) | exact g_2 hok (by assumption) (by assumption) | exact g_3 hok (by assumption) (by assumption)) | (exfalso; omega)))
  · refine R.go 2 (R.any (by decide +kernel) (by kernel_rfl) ?_)
    refine R.anyF 0 (by kernel_rfl) (np_ret _ _ _) ?_
    refine R.any2 1 3 (by kernel_rfl) (by kernel_rfl) ?_ ?_
    · refine R.idx eN a (0, 0) 0 0 (by kernel_rfl) rfl eN_len (by omega) (by kernel_rfl) ?_
      refine R.go 1 (R.any2 2 3 (by kernel_rfl) (by kernel_rfl) ?_ ?_)
      · refine R.go 2 (R.any1 3 (by kernel_rfl) (by kernel_rfl) ?_)
        refine R.go 2 (R.any1 4 (by kernel_rfl) (by kernel_rfl) ?_)
        refine R.go 2 (R.any1 5 (by kernel_rfl) (by kernel_rfl) ?_)
        refine R.eqN false ((a.getD 0 (0, 0)).1) ((a.getD 0 (0, 0)).2) 0 v (!decide (((a.getD 0 (0, 0)).1) = 0 ∧ ((a.getD 0 (0, 0)).2) = v)) (by kernel_rfl) (by kernel_rfl) (by rfl) ?_
        refine R.go 1 (R.anyF 6 (by kernel_rfl) (np_ret _ _ _) ?_)
        refine R.any2 7 9 (by kernel_rfl) (by kernel_rfl) ?_ ?_
        · by_cases c2 : ((a.getD 0 (0, 0)).1) = 0 ∧ ((a.getD 0 (0, 0)).2) = v
          · refine R.skp (!decide (((a.getD 0 (0, 0)).1) = 0 ∧ ((a.getD 0 (0, 0)).2) = v)) true (by kernel_rfl) (nF c2) (by kernel_rfl) ?_
            refine R.go 1 (R.any2 8 9 (by kernel_rfl) (by kernel_rfl) ?_ ?_)
            · refine R.skp (!decide (((a.getD 0 (0, 0)).1) = 0 ∧ ((a.getD 0 (0, 0)).2) = v)) true (by kernel_rfl) (nF c2) (by kernel_rfl) ?_
              refine R.go 1 (R.any1 9 (by kernel_rfl) (by kernel_rfl) ?_)
              refine R.skp (!decide (((a.getD 0 (0, 0)).1) = 0 ∧ ((a.getD 0 (0, 0)).2) = v)) true (by kernel_rfl) (nF c2) (by kernel_rfl) ?_
              refine R.go 1 (R.any1 10 (by kernel_rfl) (by kernel_rfl) ?_)
              refine R.skp (!decide (((a.getD 0 (0, 0)).1) = 0 ∧ ((a.getD 0 (0, 0)).2) = v)) true (by kernel_rfl) (nF c2) (by kernel_rfl) ?_
              refine R.go 1 (R.any1 11 (by kernel_rfl) (by kernel_rfl) ?_)
              refine R.skp (!decide (((a.getD 0 (0, 0)).1) = 0 ∧ ((a.getD 0 (0, 0)).2) = v)) true (by kernel_rfl) (nF c2) (by kernel_rfl) ?_
              refine R.go 1 (R.any1 12 (by kernel_rfl) (by kernel_rfl) ?_)
              refine R.pick (!decide (((a.getD 0 (0, 0)).1) = 0 ∧ ((a.getD 0 (0, 0)).2) = v)) false (by kernel_rfl) (nF c2) (by kernel_rfl) ?_
              refine R.go 1 (R.any1 13 (by kernel_rfl) (by kernel_rfl) ?_)
              refine R.go 2 (R.any0 (by kernel_rfl) ?_)
              exact R.retE (.bool false) (by kernel_rfl) (by kernel_rfl) (by first | (apply congrArg AV.bool; first | exact g_1 hok (by assumption) | exact g_2 hok (by assumption) (by assumption) | exact g_3 hok (by assumption) (by assumption)) | (exfalso; omega))
            · refine R.skp (!decide (((a.getD 0 (0, 0)).1) = 0 ∧ ((a.getD 0 (0, 0)).2) = v)) true (by kernel_rfl) (nF c2) (by kernel_rfl) ?_
              refine R.go 1 (R.any1 8 (by kernel_rfl) (by kernel_rfl) ?_)
              refine R.skp (!decide (((a.getD 0 (0, 0)).1) = 0 ∧ ((a.getD 0 (0, 0)).2) = v)) true (by kernel_rfl) (nF c2) (by kernel_rfl) ?_
              refine R.go 1 (R.any1 10 (by kernel_rfl) (by kernel_rfl) ?_)
              refine R.skp (!decide (((a.getD 0 (0, 0)).1) = 0 ∧ ((a.getD 0 (0, 0)).2) = v)) true (by kernel_rfl) (nF c2) (by kernel_rfl) ?_
              refine R.go 1 (R.any1 11 (by kernel_rfl) (by kernel_rfl) ?_)
              refine R.skp (!decide (((a.getD 0 (0, 0)).1) = 0 ∧ ((a.getD 0 (0, 0)).2) = v)) true (by kernel_rfl) (nF c2) (by kernel_rfl) ?_
              refine R.go 1 (R.any1 12 (by kernel_rfl) (by kernel_rfl) ?_)
              refine R.pick (!decide (((a.getD 0 (0, 0)).1) = 0 ∧ ((a.getD 0 (0, 0)).2) = v)) false (by kernel_rfl) (nF c2) (by kernel_rfl) ?_
              refine R.go 1 (R.any1 13 (by kernel_rfl) (by kernel_rfl) ?_)
              refine R.go 2 (R.any0 (by kernel_rfl) ?_)
              exact R.retE (.bool false) (by kernel_rfl) (by kernel_rfl) (by first | (apply congrArg AV.bool; first | exact g_1 hok (by assumption) | exact g_2 hok (by assumption) (by assumption) | exact g_3 hok (by assumption) (by assumption)) | (exfalso; omega))
          · refine R.want (!decide (((a.getD 0 (0, 0)).1) = 0 ∧ ((a.getD 0 (0, 0)).2) = v)) true (by kernel_rfl) (nT c2) ?_
            refine R.go 2 (R.any2 8 9 (by kernel_rfl) (by kernel_rfl) ?_ ?_)
            · refine R.want (!decide (((a.getD 0 (0, 0)).1) = 0 ∧ ((a.getD 0 (0, 0)).2) = v)) true (by kernel_rfl) (nT c2) ?_
              refine R.call true (partsA_c nv a hok (by first | omega | (simp <;> omega))) (by kernel_rfl) rfl (by kernel_rfl) ?_
              refine R.go 1 (R.any1 9 (by kernel_rfl) (by kernel_rfl) ?_)
              refine R.want (!decide (((a.getD 0 (0, 0)).1) = 0 ∧ ((a.getD 0 (0, 0)).2) = v)) true (by kernel_rfl) (nT c2) ?_
              refine R.go 2 (R.any1 10 (by kernel_rfl) (by kernel_rfl) ?_)
              refine R.want (!decide (((a.getD 0 (0, 0)).1) = 0 ∧ ((a.getD 0 (0, 0)).2) = v)) true (by kernel_rfl) (nT c2) ?_
              refine R.call false (conG_c (prtsL a) v (by exact hcl) (by first | omega | (simp <;> omega))) (by kernel_rfl) rfl (by kernel_rfl) ?_
              refine R.go 1 (R.any1 11 (by kernel_rfl) (by kernel_rfl) ?_)
              refine R.want (!decide (((a.getD 0 (0, 0)).1) = 0 ∧ ((a.getD 0 (0, 0)).2) = v)) true (by kernel_rfl) (nT c2) ?_
              refine R.go 2 (R.any1 12 (by kernel_rfl) (by kernel_rfl) ?_)
              refine R.pick (!decide (((a.getD 0 (0, 0)).1) = 0 ∧ ((a.getD 0 (0, 0)).2) = v)) true (by kernel_rfl) (nT c2) (by kernel_rfl) ?_
              refine R.go 1 (R.any1 13 (by kernel_rfl) (by kernel_rfl) ?_)
              refine R.go 2 (R.any0 (by kernel_rfl) ?_)
              exact R.retE (.bool (!((prtsL a).any (fun b => !guF b v)))) (by kernel_rfl) (by kernel_rfl) (by first | (apply congrArg AV.bool; first | exact g_1 hok (by assumption) | exact g_2 hok (by assumption) (by assumption) | exact g_3 hok (by assumption) (by assumption)) | (exfalso; omega))
            · refine R.want (!decide (((a.getD 0 (0, 0)).1) = 0 ∧ ((a.getD 0 (0, 0)).2) = v)) true (by kernel_rfl) (nT c2) ?_
              refine R.go 2 (R.any1 8 (by kernel_rfl) (by kernel_rfl) ?_)
              refine R.want (!decide (((a.getD 0 (0, 0)).1) = 0 ∧ ((a.getD 0 (0, 0)).2) = v)) true (by kernel_rfl) (nT c2) ?_
              refine R.call true (partsA_c nv a hok (by first | omega | (simp <;> omega))) (by kernel_rfl) rfl (by kernel_rfl) ?_
              refine R.go 1 (R.any1 10 (by kernel_rfl) (by kernel_rfl) ?_)
              refine R.want (!decide (((a.getD 0 (0, 0)).1) = 0 ∧ ((a.getD 0 (0, 0)).2) = v)) true (by kernel_rfl) (nT c2) ?_
              refine R.call false (conG_c (prtsL a) v (by exact hcl) (by first | omega | (simp <;> omega))) (by kernel_rfl) rfl (by kernel_rfl) ?_
              refine R.go 1 (R.any1 11 (by kernel_rfl) (by kernel_rfl) ?_)
              refine R.want (!decide (((a.getD 0 (0, 0)).1) = 0 ∧ ((a.getD 0 (0, 0)).2) = v)) true (by kernel_rfl) (nT c2) ?_
              refine R.go 2 (R.any1 12 (by kernel_rfl) (by kernel_rfl) ?_)
              refine R.pick (!decide (((a.getD 0 (0, 0)).1) = 0 ∧ ((a.getD 0 (0, 0)).2) = v)) true (by kernel_rfl) (nT c2) (by kernel_rfl) ?_
              refine R.go 1 (R.any1 13 (by kernel_rfl) (by kernel_rfl) ?_)
              refine R.go 2 (R.any0 (by kernel_rfl) ?_)
              exact R.retE (.bool (!((prtsL a).any (fun b => !guF b v)))) (by kernel_rfl) (by kernel_rfl) (by first | (apply congrArg AV.bool; first | exact g_1 hok (by assumption) | exact g_2 hok (by assumption) (by assumption) | exact g_3 hok (by assumption) (by assumption)) | (exfalso; omega))
        · by_cases c3 : ((a.getD 0 (0, 0)).1) = 0 ∧ ((a.getD 0 (0, 0)).2) = v
          · refine R.skp (!decide (((a.getD 0 (0, 0)).1) = 0 ∧ ((a.getD 0 (0, 0)).2) = v)) true (by kernel_rfl) (nF c3) (by kernel_rfl) ?_
            refine R.go 1 (R.any1 7 (by kernel_rfl) (by kernel_rfl) ?_)
            refine R.skp (!decide (((a.getD 0 (0, 0)).1) = 0 ∧ ((a.getD 0 (0, 0)).2) = v)) true (by kernel_rfl) (nF c3) (by kernel_rfl) ?_
            refine R.go 1 (R.any1 8 (by kernel_rfl) (by kernel_rfl) ?_)
            refine R.skp (!decide (((a.getD 0 (0, 0)).1) = 0 ∧ ((a.getD 0 (0, 0)).2) = v)) true (by kernel_rfl) (nF c3) (by kernel_rfl) ?_
            refine R.go 1 (R.any1 10 (by kernel_rfl) (by kernel_rfl) ?_)
            refine R.skp (!decide (((a.getD 0 (0, 0)).1) = 0 ∧ ((a.getD 0 (0, 0)).2) = v)) true (by kernel_rfl) (nF c3) (by kernel_rfl) ?_
            refine R.go 1 (R.any1 11 (by kernel_rfl) (by kernel_rfl) ?_)
            refine R.skp (!decide (((a.getD 0 (0, 0)).1) = 0 ∧ ((a.getD 0 (0, 0)).2) = v)) true (by kernel_rfl) (nF c3) (by kernel_rfl) ?_
            refine R.go 1 (R.any1 12 (by kernel_rfl) (by kernel_rfl) ?_)
            refine R.pick (!decide (((a.getD 0 (0, 0)).1) = 0 ∧ ((a.getD 0 (0, 0)).2) = v)) false (by kernel_rfl) (nF c3) (by kernel_rfl) ?_
            refine R.go 1 (R.any1 13 (by kernel_rfl) (by kernel_rfl) ?_)
            refine R.go 2 (R.any0 (by kernel_rfl) ?_)
            exact R.retE (.bool false) (by kernel_rfl) (by kernel_rfl) (by first | (apply congrArg AV.bool; first | exact g_1 hok (by assumption) | exact g_2 hok (by assumption) (by assumption) | exact g_3 hok (by assumption) (by assumption)) | (exfalso; omega))
          · refine R.want (!decide (((a.getD 0 (0, 0)).1) = 0 ∧ ((a.getD 0 (0, 0)).2) = v)) true (by kernel_rfl) (nT c3) ?_
            refine R.go 2 (R.any1 7 (by kernel_rfl) (by kernel_rfl) ?_)
            refine R.want (!decide (((a.getD 0 (0, 0)).1) = 0 ∧ ((a.getD 0 (0, 0)).2) = v)) true (by kernel_rfl) (nT c3) ?_
            refine R.go 2 (R.any1 8 (by kernel_rfl) (by kernel_rfl) ?_)
            refine R.want (!decide (((a.getD 0 (0, 0)).1) = 0 ∧ ((a.getD 0 (0, 0)).2) = v)) true (by kernel_rfl) (nT c3) ?_
            refine R.call true (partsA_c nv a hok (by first | omega | (simp <;> omega))) (by kernel_rfl) rfl (by kernel_rfl) ?_
            refine R.go 1 (R.any1 10 (by kernel_rfl) (by kernel_rfl) ?_)
            refine R.want (!decide (((a.getD 0 (0, 0)).1) = 0 ∧ ((a.getD 0 (0, 0)).2) = v)) true (by kernel_rfl) (nT c3) ?_
            refine R.call false (conG_c (prtsL a) v (by exact hcl) (by first | omega | (simp <;> omega))) (by kernel_rfl) rfl (by kernel_rfl) ?_
            refine R.go 1 (R.any1 11 (by kernel_rfl) (by kernel_rfl) ?_)
            refine R.want (!decide (((a.getD 0 (0, 0)).1) = 0 ∧ ((a.getD 0 (0, 0)).2) = v)) true (by kernel_rfl) (nT c3) ?_
            refine R.go 2 (R.any1 12 (by kernel_rfl) (by kernel_rfl) ?_)
            refine R.pick (!decide (((a.getD 0 (0, 0)).1) = 0 ∧ ((a.getD 0 (0, 0)).2) = v)) true (by kernel_rfl) (nT c3) (by kernel_rfl) ?_
            refine R.go 1 (R.any1 13 (by kernel_rfl) (by kernel_rfl) ?_)
            refine R.go 2 (R.any0 (by kernel_rfl) ?_)
            exact R.retE (.bool (!((prtsL a).any (fun b => !guF b v)))) (by kernel_rfl) (by kernel_rfl) (by first | (apply congrArg AV.bool; first | exact g_1 hok (by assumption) | exact g_2 hok (by assumption) (by assumption) | exact g_3 hok (by assumption) (by assumption)) | (exfalso; omega))
      · refine R.go 2 (R.any2 2 4 (by kernel_rfl) (by kernel_rfl) ?_ ?_)
        · refine R.go 2 (R.any1 4 (by kernel_rfl) (by kernel_rfl) ?_)
          refine R.go 2 (R.any1 5 (by kernel_rfl) (by kernel_rfl) ?_)
          refine R.eqN false ((a.getD 0 (0, 0)).1) ((a.getD 0 (0, 0)).2) 0 v (!decide (((a.getD 0 (0, 0)).1) = 0 ∧ ((a.getD 0 (0, 0)).2) = v)) (by kernel_rfl) (by kernel_rfl) (by rfl) ?_
          refine R.go 1 (R.anyF 6 (by kernel_rfl) (np_ret _ _ _) ?_)
          refine R.any2 7 9 (by kernel_rfl) (by kernel_rfl) ?_ ?_
          · by_cases c4 : ((a.getD 0 (0, 0)).1) = 0 ∧ ((a.getD 0 (0, 0)).2) = v
            · refine R.skp (!decide (((a.getD 0 (0, 0)).1) = 0 ∧ ((a.getD 0 (0, 0)).2) = v)) true (by kernel_rfl) (nF c4) (by kernel_rfl) ?_
              refine R.go 1 (R.any2 8 9 (by kernel_rfl) (by kernel_rfl) ?_ ?_)
              · refine R.skp (!decide (((a.getD 0 (0, 0)).1) = 0 ∧ ((a.getD 0 (0, 0)).2) = v)) true (by kernel_rfl) (nF c4) (by kernel_rfl) ?_
                refine R.go 1 (R.any1 9 (by kernel_rfl) (by kernel_rfl) ?_)
                refine R.skp (!decide (((a.getD 0 (0, 0)).1) = 0 ∧ ((a.getD 0 (0, 0)).2) = v)) true (by kernel_rfl) (nF c4) (by kernel_rfl) ?_
                refine R.go 1 (R.any1 10 (by kernel_rfl) (by kernel_rfl) ?_)
                refine R.skp (!decide (((a.getD 0 (0, 0)).1) = 0 ∧ ((a.getD 0 (0, 0)).2) = v)) true (by kernel_rfl) (nF c4) (by kernel_rfl) ?_
                refine R.go 1 (R.any1 11 (by kernel_rfl) (by kernel_rfl) ?_)
                refine R.skp (!decide (((a.getD 0 (0, 0)).1) = 0 ∧ ((a.getD 0 (0, 0)).2) = v)) true (by kernel_rfl) (nF c4) (by kernel_rfl) ?_
                refine R.go 1 (R.any1 12 (by kernel_rfl) (by kernel_rfl) ?_)
                refine R.pick (!decide (((a.getD 0 (0, 0)).1) = 0 ∧ ((a.getD 0 (0, 0)).2) = v)) false (by kernel_rfl) (nF c4) (by kernel_rfl) ?_
                refine R.go 1 (R.any1 13 (by kernel_rfl) (by kernel_rfl) ?_)
                refine R.go 2 (R.any0 (by kernel_rfl) ?_)
                exact R.retE (.bool false) (by kernel_rfl) (by kernel_rfl) (by first | (apply congrArg AV.bool; first | exact g_1 hok (by assumption) | exact g_2 hok (by assumption) (by assumption) | exact g_3 hok (by assumption) (by assumption)) | (exfalso; omega))
              · refine R.skp (!decide (((a.getD 0 (0, 0)).1) = 0 ∧ ((a.getD 0 (0, 0)).2) = v)) true (by kernel_rfl) (nF c4) (by kernel_rfl) ?_
                refine R.go 1 (R.any1 8 (by kernel_rfl) (by kernel_rfl) ?_)
                refine R.skp (!decide (((a.getD 0 (0, 0)).1) = 0 ∧ ((a.getD 0 (0, 0)).2) = v)) true (by kernel_rfl) (nF c4) (by kernel_rfl) ?_
                refine R.go 1 (R.any1 10 (by kernel_rfl) (by kernel_rfl) ?_)
                refine R.skp (!decide (((a.getD 0 (0, 0)).1) = 0 ∧ ((a.getD 0 (0, 0)).2) = v)) true (by kernel_rfl) (nF c4) (by kernel_rfl) ?_
                refine R.go 1 (R.any1 11 (by kernel_rfl) (by kernel_rfl) ?_)
                refine R.skp (!decide (((a.getD 0 (0, 0)).1) = 0 ∧ ((a.getD 0 (0, 0)).2) = v)) true (by kernel_rfl) (nF c4) (by kernel_rfl) ?_
                refine R.go 1 (R.any1 12 (by kernel_rfl) (by kernel_rfl) ?_)
                refine R.pick (!decide (((a.getD 0 (0, 0)).1) = 0 ∧ ((a.getD 0 (0, 0)).2) = v)) false (by kernel_rfl) (nF c4) (by kernel_rfl) ?_
                refine R.go 1 (R.any1 13 (by kernel_rfl) (by kernel_rfl) ?_)
                refine R.go 2 (R.any0 (by kernel_rfl) ?_)
                exact R.retE (.bool false) (by kernel_rfl) (by kernel_rfl) (by first | (apply congrArg AV.bool; first | exact g_1 hok (by assumption) | exact g_2 hok (by assumption) (by assumption) | exact g_3 hok (by assumption) (by assumption)) | (exfalso; omega))
            · refine R.want (!decide (((a.getD 0 (0, 0)).1) = 0 ∧ ((a.getD 0 (0, 0)).2) = v)) true (by kernel_rfl) (nT c4) ?_
              refine R.go 2 (R.any2 8 9 (by kernel_rfl) (by kernel_rfl) ?_ ?_)
              · refine R.want (!decide (((a.getD 0 (0, 0)).1) = 0 ∧ ((a.getD 0 (0, 0)).2) = v)) true (by kernel_rfl) (nT c4) ?_
                refine R.call true (partsA_c nv a hok (by first | omega | (simp <;> omega))) (by kernel_rfl) rfl (by kernel_rfl) ?_
                refine R.go 1 (R.any1 9 (by kernel_rfl) (by kernel_rfl) ?_)
                refine R.want (!decide (((a.getD 0 (0, 0)).1) = 0 ∧ ((a.getD 0 (0, 0)).2) = v)) true (by kernel_rfl) (nT c4) ?_
                refine R.go 2 (R.any1 10 (by kernel_rfl) (by kernel_rfl) ?_)
                refine R.want (!decide (((a.getD 0 (0, 0)).1) = 0 ∧ ((a.getD 0 (0, 0)).2) = v)) true (by kernel_rfl) (nT c4) ?_
                refine R.call false (conG_c (prtsL a) v (by exact hcl) (by first | omega | (simp <;> omega))) (by kernel_rfl) rfl (by kernel_rfl) ?_
                refine R.go 1 (R.any1 11 (by kernel_rfl) (by kernel_rfl) ?_)
                refine R.want (!decide (((a.getD 0 (0, 0)).1) = 0 ∧ ((a.getD 0 (0, 0)).2) = v)) true (by kernel_rfl) (nT c4) ?_
                refine R.go 2 (R.any1 12 (by kernel_rfl) (by kernel_rfl) ?_)
                refine R.pick (!decide (((a.getD 0 (0, 0)).1) = 0 ∧ ((a.getD 0 (0, 0)).2) = v)) true (by kernel_rfl) (nT c4) (by kernel_rfl) ?_
                refine R.go 1 (R.any1 13 (by kernel_rfl) (by kernel_rfl) ?_)
                refine R.go 2 (R.any0 (by kernel_rfl) ?_)
                exact R.retE (.bool (!((prtsL a).any (fun b => !guF b v)))) (by kernel_rfl) (by kernel_rfl) (by first | (apply congrArg AV.bool; first | exact g_1 hok (by assumption) | exact g_2 hok (by assumption) (by assumption) | exact g_3 hok (by assumption) (by assumption)) | (exfalso; omega))
              · refine R.want (!decide (((a.getD 0 (0, 0)).1) = 0 ∧ ((a.getD 0 (0, 0)).2) = v)) true (by kernel_rfl) (nT c4) ?_
                refine R.go 2 (R.any1 8 (by kernel_rfl) (by kernel_rfl) ?_)
                refine R.want (!decide (((a.getD 0 (0, 0)).1) = 0 ∧ ((a.getD 0 (0, 0)).2) = v)) true (by kernel_rfl) (nT c4) ?_
                refine R.call true (partsA_c nv a hok (by first | omega | (simp <;> omega))) (by kernel_rfl) rfl (by kernel_rfl) ?_
                refine R.go 1 (R.any1 10 (by kernel_rfl) (by kernel_rfl) ?_)
                refine R.want (!decide (((a.getD 0 (0, 0)).1) = 0 ∧ ((a.getD 0 (0, 0)).2) = v)) true (by kernel_rfl) (nT c4) ?_
                refine R.call false (conG_c (prtsL a) v (by exact hcl) (by first | omega | (simp <;> omega))) (by kernel_rfl) rfl (by kernel_rfl) ?_
                refine R.go 1 (R.any1 11 (by kernel_rfl) (by kernel_rfl) ?_)
                refine R.want (!decide (((a.getD 0 (0, 0)).1) = 0 ∧ ((a.getD 0 (0, 0)).2) = v)) true (by kernel_rfl) (nT c4) ?_
                refine R.go 2 (R.any1 12 (by kernel_rfl) (by kernel_rfl) ?_)
                refine R.pick (!decide (((a.getD 0 (0, 0)).1) = 0 ∧ ((a.getD 0 (0, 0)).2) = v)) true (by kernel_rfl) (nT c4) (by kernel_rfl) ?_
                refine R.go 1 (R.any1 13 (by kernel_rfl) (by kernel_rfl) ?_)
                refine R.go 2 (R.any0 (by kernel_rfl) ?_)
                exact R.retE (.bool (!((prtsL a).any (fun b => !guF b v)))) (by kernel_rfl) (by kernel_rfl) (by first | (apply congrArg AV.bool; first | exact g_1 hok (by assumption) | exact g_2 hok (by assumption) (by assumption) | exact g_3 hok (by assumption) (by assumption)) | (exfalso; omega))
          · by_cases c5 : ((a.getD 0 (0, 0)).1) = 0 ∧ ((a.getD 0 (0, 0)).2) = v
            · refine R.skp (!decide (((a.getD 0 (0, 0)).1) = 0 ∧ ((a.getD 0 (0, 0)).2) = v)) true (by kernel_rfl) (nF c5) (by kernel_rfl) ?_
              refine R.go 1 (R.any1 7 (by kernel_rfl) (by kernel_rfl) ?_)
              refine R.skp (!decide (((a.getD 0 (0, 0)).1) = 0 ∧ ((a.getD 0 (0, 0)).2) = v)) true (by kernel_rfl) (nF c5) (by kernel_rfl) ?_
              refine R.go 1 (R.any1 8 (by kernel_rfl) (by kernel_rfl) ?_)
              refine R.skp (!decide (((a.getD 0 (0, 0)).1) = 0 ∧ ((a.getD 0 (0, 0)).2) = v)) true (by kernel_rfl) (nF c5) (by kernel_rfl) ?_
              refine R.go 1 (R.any1 10 (by kernel_rfl) (by kernel_rfl) ?_)
              refine R.skp (!decide (((a.getD 0 (0, 0)).1) = 0 ∧ ((a.getD 0 (0, 0)).2) = v)) true (by kernel_rfl) (nF c5) (by kernel_rfl) ?_
              refine R.go 1 (R.any1 11 (by kernel_rfl) (by kernel_rfl) ?_)
              refine R.skp (!decide (((a.getD 0 (0, 0)).1) = 0 ∧ ((a.getD 0 (0, 0)).2) = v)) true (by kernel_rfl) (nF c5) (by kernel_rfl) ?_
              refine R.go 1 (R.any1 12 (by kernel_rfl) (by kernel_rfl) ?_)
              refine R.pick (!decide (((a.getD 0 (0, 0)).1) = 0 ∧ ((a.getD 0 (0, 0)).2) = v)) false (by kernel_rfl) (nF c5) (by kernel_rfl) ?_
              refine R.go 1 (R.any1 13 (by kernel_rfl) (by kernel_rfl) ?_)
              refine R.go 2 (R.any0 (by kernel_rfl) ?_)
              exact R.retE (.bool false) (by kernel_rfl) (by kernel_rfl) (by first | (apply congrArg AV.bool; first | exact g_1 hok (by assumption) | exact g_2 hok (by assumption) (by assumption) | exact g_3 hok (by assumption) (by assumption)) | (exfalso; omega))
            · refine R.want (!decide (((a.getD 0 (0, 0)).1) = 0 ∧ ((a.getD 0 (0, 0)).2) = v)) true (by kernel_rfl) (nT c5) ?_
              refine R.go 2 (R.any1 7 (by kernel_rfl) (by kernel_rfl) ?_)
              refine R.want (!decide (((a.getD 0 (0, 0)).1) = 0 ∧ ((a.getD 0 (0, 0)).2) = v)) true (by kernel_rfl) (nT c5) ?_
              refine R.go 2 (R.any1 8 (by kernel_rfl) (by kernel_rfl) ?_)
              refine R.want (!decide (((a.getD 0 (0, 0)).1) = 0 ∧ ((a.getD 0 (0, 0)).2) = v)) true (by kernel_rfl) (nT c5) ?_
              refine R.call true (partsA_c nv a hok (by first | omega | (simp <;> omega))) (by kernel_rfl) rfl (by kernel_rfl) ?_
              refine R.go 1 (R.any1 10 (by kernel_rfl) (by kernel_rfl) ?_)
              refine R.want (!decide (((a.getD 0 (0, 0)).1) = 0 ∧ ((a.getD 0 (0, 0)).2) = v)) true (by kernel_rfl) (nT c5) ?_
              refine R.call false (conG_c (prtsL a) v (by exact hcl) (by first | omega | (simp <;> omega))) (by kernel_rfl) rfl (by kernel_rfl) ?_
              refine R.go 1 (R.any1 11 (by kernel_rfl) (by kernel_rfl) ?_)
              refine R.want (!decide (((a.getD 0 (0, 0)).1) = 0 ∧ ((a.getD 0 (0, 0)).2) = v)) true (by kernel_rfl) (nT c5) ?_
              refine R.go 2 (R.any1 12 (by kernel_rfl) (by kernel_rfl) ?_)
              refine R.pick (!decide (((a.getD 0 (0, 0)).1) = 0 ∧ ((a.getD 0 (0, 0)).2) = v)) true (by kernel_rfl) (nT c5) (by kernel_rfl) ?_
              refine R.go 1 (R.any1 13 (by kernel_rfl) (by kernel_rfl) ?_)
              refine R.go 2 (R.any0 (by kernel_rfl) ?_)
              exact R.retE (.bool (!((prtsL a).any (fun b => !guF b v)))) (by kernel_rfl) (by kernel_rfl) (by first | (apply congrArg AV.bool; first | exact g_1 hok (by assumption) | exact g_2 hok (by assumption) (by assumption) | exact g_3 hok (by assumption) (by assumption)) | (exfalso; omega))
        · refine R.go 2 (R.any1 2 (by kernel_rfl) (by kernel_rfl) ?_)
          refine R.go 2 (R.any1 5 (by kernel_rfl) (by kernel_rfl) ?_)
          refine R.eqN false ((a.getD 0 (0, 0)).1) ((a.getD 0 (0, 0)).2) 0 v (!decide (((a.getD 0 (0, 0)).1) = 0 ∧ ((a.getD 0 (0, 0)).2) = v)) (by kernel_rfl) (by kernel_rfl) (by rfl) ?_
          refine R.go 1 (R.anyF 6 (by kernel_rfl) (np_ret _ _ _) ?_)
          refine R.any2 7 9 (by kernel_rfl) (by kernel_rfl) ?_ ?_
          · by_cases c6 : ((a.getD 0 (0, 0)).1) = 0 ∧ ((a.getD 0 (0, 0)).2) = v
            · refine R.skp (!decide (((a.getD 0 (0, 0)).1) = 0 ∧ ((a.getD 0 (0, 0)).2) = v)) true (by kernel_rfl) (nF c6) (by kernel_rfl) ?_
              refine R.go 1 (R.any2 8 9 (by kernel_rfl) (by kernel_rfl) ?_ ?_)
              · refine R.skp (!decide (((a.getD 0 (0, 0)).1) = 0 ∧ ((a.getD 0 (0, 0)).2) = v)) true (by kernel_rfl) (nF c6) (by kernel_rfl) ?_
                refine R.go 1 (R.any1 9 (by kernel_rfl) (by kernel_rfl) ?_)
                refine R.skp (!decide (((a.getD 0 (0, 0)).1) = 0 ∧ ((a.getD 0 (0, 0)).2) = v)) true (by kernel_rfl) (nF c6) (by kernel_rfl) ?_
                refine R.go 1 (R.any1 10 (by kernel_rfl) (by kernel_rfl) ?_)
                refine R.skp (!decide (((a.getD 0 (0, 0)).1) = 0 ∧ ((a.getD 0 (0, 0)).2) = v)) true (by kernel_rfl) (nF c6) (by kernel_rfl) ?_
                refine R.go 1 (R.any1 11 (by kernel_rfl) (by kernel_rfl) ?_)
                refine R.skp (!decide (((a.getD 0 (0, 0)).1) = 0 ∧ ((a.getD 0 (0, 0)).2) = v)) true (by kernel_rfl) (nF c6) (by kernel_rfl) ?_
                refine R.go 1 (R.any1 12 (by kernel_rfl) (by kernel_rfl) ?_)
                refine R.pick (!decide (((a.getD 0 (0, 0)).1) = 0 ∧ ((a.getD 0 (0, 0)).2) = v)) false (by kernel_rfl) (nF c6) (by kernel_rfl) ?_
                refine R.go 1 (R.any1 13 (by kernel_rfl) (by kernel_rfl) ?_)
                refine R.go 2 (R.any0 (by kernel_rfl) ?_)
                exact R.retE (.bool false) (by kernel_rfl) (by kernel_rfl) (by first | (apply congrArg AV.bool; first | exact g_1 hok (by assumption) | exact g_2 hok (by assumption) (by assumption) | exact g_3 hok (by assumption) (by assumption)) | (exfalso; omega))
              · refine R.skp (!decide (((a.getD 0 (0, 0)).1) = 0 ∧ ((a.getD 0 (0, 0)).2) = v)) true (by kernel_rfl) (nF c6) (by kernel_rfl) ?_
                refine R.go 1 (R.any1 8 (by kernel_rfl) (by kernel_rfl) ?_)
                refine R.skp (!decide (((a.getD 0 (0, 0)).1) = 0 ∧ ((a.getD 0 (0, 0)).2) = v)) true (by kernel_rfl) (nF c6) (by kernel_rfl) ?_
                refine R.go 1 (R.any1 10 (by kernel_rfl) (by kernel_rfl) ?_)
                refine R.skp (!decide (((a.getD 0 (0, 0)).1) = 0 ∧ ((a.getD 0 (0, 0)).2) = v)) true (by kernel_rfl) (nF c6) (by kernel_rfl) ?_
                refine R.go 1 (R.any1 11 (by kernel_rfl) (by kernel_rfl) ?_)
                refine R.skp (!decide (((a.getD 0 (0, 0)).1) = 0 ∧ ((a.getD 0 (0, 0)).2) = v)) true (by kernel_rfl) (nF c6) (by kernel_rfl) ?_
                refine R.go 1 (R.any1 12 (by kernel_rfl) (by kernel_rfl) ?_)
                refine R.pick (!decide (((a.getD 0 (0, 0)).1) = 0 ∧ ((a.getD 0 (0, 0)).2) = v)) false (by kernel_rfl) (nF c6) (by kernel_rfl) ?_
                refine R.go 1 (R.any1 13 (by kernel_rfl) (by kernel_rfl) ?_)
                refine R.go 2 (R.any0 (by kernel_rfl) ?_)
                exact R.retE (.bool false) (by kernel_rfl) (by kernel_rfl) (by first | (apply congrArg AV.bool; first | exact g_1 hok (by assumption) | exact g_2 hok (by assumption) (by assumption) | exact g_3 hok (by assumption) (by assumption)) | (exfalso; omega))
            · refine R.want (!decide (((a.getD 0 (0, 0)).1) = 0 ∧ ((a.getD 0 (0, 0)).2) = v)) true (by kernel_rfl) (nT c6) ?_
              refine R.go 2 (R.any2 8 9 (by kernel_rfl) (by kernel_rfl) ?_ ?_)
              · refine R.want (!decide (((a.getD 0 (0, 0)).1) = 0 ∧ ((a.getD 0 (0, 0)).2) = v)) true (by kernel_rfl) (nT c6) ?_
                refine R.call true (partsA_c nv a hok (by first | omega | (simp <;> omega))) (by kernel_rfl) rfl (by kernel_rfl) ?_
                refine R.go 1 (R.any1 9 (by kernel_rfl) (by kernel_rfl) ?_)
                refine R.want (!decide (((a.getD 0 (0, 0)).1) = 0 ∧ ((a.getD 0 (0, 0)).2) = v)) true (by kernel_rfl) (nT c6) ?_
                refine R.go 2 (R.any1 10 (by kernel_rfl) (by kernel_rfl) ?_)
                refine R.want (!decide (((a.getD 0 (0, 0)).1) = 0 ∧ ((a.getD 0 (0, 0)).2) = v)) true (by kernel_rfl) (nT c6) ?_
                refine R.call false (conG_c (prtsL a) v (by exact hcl) (by first | omega | (simp <;> omega))) (by kernel_rfl) rfl (by kernel_rfl) ?_
                refine R.go 1 (R.any1 11 (by kernel_rfl) (by kernel_rfl) ?_)
                refine R.want (!decide (((a.getD 0 (0, 0)).1) = 0 ∧ ((a.getD 0 (0, 0)).2) = v)) true (by kernel_rfl) (nT c6) ?_
                refine R.go 2 (R.any1 12 (by kernel_rfl) (by kernel_rfl) ?_)
                refine R.pick (!decide (((a.getD 0 (0, 0)).1) = 0 ∧ ((a.getD 0 (0, 0)).2) = v)) true (by kernel_rfl) (nT c6) (by kernel_rfl) ?_
                refine R.go 1 (R.any1 13 (by kernel_rfl) (by kernel_rfl) ?_)
                refine R.go 2 (R.any0 (by kernel_rfl) ?_)
                exact R.retE (.bool (!((prtsL a).any (fun b => !guF b v)))) (by kernel_rfl) (by kernel_rfl) (by first | (apply congrArg AV.bool; first | exact g_1 hok (by assumption) | exact g_2 hok (by assumption) (by assumption) | exact g_3 hok (by assumption) (by assumption)) | (exfalso; omega))
              · refine R.want (!decide (((a.getD 0 (0, 0)).1) = 0 ∧ ((a.getD 0 (0, 0)).2) = v)) true (by kernel_rfl) (nT c6) ?_
                refine R.go 2 (R.any1 8 (by kernel_rfl) (by kernel_rfl) ?_)
                refine R.want (!decide (((a.getD 0 (0, 0)).1) = 0 ∧ ((a.getD 0 (0, 0)).2) = v)) true (by kernel_rfl) (nT c6) ?_
                refine R.call true (partsA_c nv a hok (by first | omega | (simp <;> omega))) (by kernel_rfl) rfl (by kernel_rfl) ?_
                refine R.go 1 (R.any1 10 (by kernel_rfl) (by kernel_rfl) ?_)
                refine R.want (!decide (((a.getD 0 (0, 0)).1) = 0 ∧ ((a.getD 0 (0, 0)).2) = v)) true (by kernel_rfl) (nT c6) ?_
                refine R.call false (conG_c (prtsL a) v (by exact hcl) (by first | omega | (simp <;> omega))) (by kernel_rfl) rfl (by kernel_rfl) ?_
                refine R.go 1 (R.any1 11 (by kernel_rfl) (by kernel_rfl) ?_)
                refine R.want (!decide (((a.getD 0 (0, 0)).1) = 0 ∧ ((a.getD 0 (0, 0)).2) = v)) true (by kernel_rfl) (nT c6) ?_
                refine R.go 2 (R.any1 12 (by kernel_rfl) (by kernel_rfl) ?_)
                refine R.pick (!decide (((a.getD 0 (0, 0)).1) = 0 ∧ ((a.getD 0 (0, 0)).2) = v)) true (by kernel_rfl) (nT c6) (by kernel_rfl) ?_
                refine R.go 1 (R.any1 13 (by kernel_rfl) (by kernel_rfl) ?_)
                refine R.go 2 (R.any0 (by kernel_rfl) ?_)
                exact R.retE (.bool (!((prtsL a).any (fun b => !guF b v)))) (by kernel_rfl) (by kernel_rfl) (by first | (apply congrArg AV.bool; first | exact g_1 hok (by assumption) | exact g_2 hok (by assumption) (by assumption) | exact g_3 hok (by assumption) (by assumption)) | (exfalso; omega))
          · by_cases c7 : ((a.getD 0 (0, 0)).1) = 0 ∧ ((a.getD 0 (0, 0)).2) = v
            · refine R.skp (!decide (((a.getD 0 (0, 0)).1) = 0 ∧ ((a.getD 0 (0, 0)).2) = v)) true (by kernel_rfl) (nF c7) (by kernel_rfl) ?_
              refine R.go 1 (R.any1 7 (by kernel_rfl) (by kernel_rfl) ?_)
              refine R.skp (!decide (((a.getD 0 (0, 0)).1) = 0 ∧ ((a.getD 0 (0, 0)).2) = v)) true (by kernel_rfl) (nF c7) (by kernel_rfl) ?_
              refine R.go 1 (R.any1 8 (by kernel_rfl) (by kernel_rfl) ?_)
              refine R.skp (!decide (((a.getD 0 (0, 0)).1) = 0 ∧ ((a.getD 0 (0, 0)).2) = v)) true (by kernel_rfl) (nF c7) (by kernel_rfl) ?_
              refine R.go 1 (R.any1 10 (by kernel_rfl) (by kernel_rfl) ?_)
              refine R.skp (!decide (((a.getD 0 (0, 0)).1) = 0 ∧ ((a.getD 0 (0, 0)).2) = v)) true (by kernel_rfl) (nF c7) (by kernel_rfl) ?_
              refine R.go 1 (R.any1 11 (by kernel_rfl) (by kernel_rfl) ?_)
              refine R.skp (!decide (((a.getD 0 (0, 0)).1) = 0 ∧ ((a.getD 0 (0, 0)).2) = v)) true (by kernel_rfl) (nF c7) (by kernel_rfl) ?_
              refine R.go 1 (R.any1 12 (by kernel_rfl) (by kernel_rfl) ?_)
              refine R.pick (!decide (((a.getD 0 (0, 0)).1) = 0 ∧ ((a.getD 0 (0, 0)).2) = v)) false (by kernel_rfl) (nF c7) (by kernel_rfl) ?_
              refine R.go 1 (R.any1 13 (by kernel_rfl) (by kernel_rfl) ?_)
              refine R.go 2 (R.any0 (by kernel_rfl) ?_)
              exact R.retE (.bool false) (by kernel_rfl) (by kernel_rfl) (by first | (apply congrArg AV.bool; first | exact g_1 hok (by assumption) | exact g_2 hok (by assumption) (by assumption) | exact g_3 hok (by assumption) (by assumption)) | (exfalso; omega))
            · refine R.want (!decide (((a.getD 0 (0, 0)).1) = 0 ∧ ((a.getD 0 (0, 0)).2) = v)) true (by kernel_rfl) (nT c7) ?_
              refine R.go 2 (R.any1 7 (by kernel_rfl) (by kernel_rfl) ?_)
              refine R.want (!decide (((a.getD 0 (0, 0)).1) = 0 ∧ ((a.getD 0 (0, 0)).2) = v)) true (by kernel_rfl) (nT c7) ?_
              refine R.go 2 (R.any1 8 (by kernel_rfl) (by kernel_rfl) ?_)
              refine R.want (!decide (((a.getD 0 (0, 0)).1) = 0 ∧ ((a.getD 0 (0, 0)).2) = v)) true (by kernel_rfl) (nT c7) ?_
              refine R.call true (partsA_c nv a hok (by first | omega | (simp <;> omega))) (by kernel_rfl) rfl (by kernel_rfl) ?_
              refine R.go 1 (R.any1 10 (by kernel_rfl) (by kernel_rfl) ?_)
              refine R.want (!decide (((a.getD 0 (0, 0)).1) = 0 ∧ ((a.getD 0 (0, 0)).2) = v)) true (by kernel_rfl) (nT c7) ?_
              refine R.call false (conG_c (prtsL a) v (by exact hcl) (by first | omega | (simp <;> omega))) (by kernel_rfl) rfl (by kernel_rfl) ?_
              refine R.go 1 (R.any1 11 (by kernel_rfl) (by kernel_rfl) ?_)
              refine R.want (!decide (((a.getD 0 (0, 0)).1) = 0 ∧ ((a.getD 0 (0, 0)).2) = v)) true (by kernel_rfl) (nT c7) ?_
              refine R.go 2 (R.any1 12 (by kernel_rfl) (by kernel_rfl) ?_)
              refine R.pick (!decide (((a.getD 0 (0, 0)).1) = 0 ∧ ((a.getD 0 (0, 0)).2) = v)) true (by kernel_rfl) (nT c7) (by kernel_rfl) ?_
              refine R.go 1 (R.any1 13 (by kernel_rfl) (by kernel_rfl) ?_)
              refine R.go 2 (R.any0 (by kernel_rfl) ?_)
              exact R.retE (.bool (!((prtsL a).any (fun b => !guF b v)))) (by kernel_rfl) (by kernel_rfl) (by first | (apply congrArg AV.bool; first | exact g_1 hok (by assumption) | exact g_2 hok (by assumption) (by assumption) | exact g_3 hok (by assumption) (by assumption)) | (exfalso; omega))
    · refine R.go 2 (R.any2 1 4 (by kernel_rfl) (by kernel_rfl) ?_ ?_)
      · refine R.idx eN a (0, 0) 0 0 (by kernel_rfl) rfl eN_len (by omega) (by kernel_rfl) ?_
        refine R.go 1 (R.any2 2 4 (by kernel_rfl) (by kernel_rfl) ?_ ?_)
        · refine R.go 2 (R.any1 4 (by kernel_rfl) (by kernel_rfl) ?_)
          refine R.go 2 (R.any1 5 (by kernel_rfl) (by kernel_rfl) ?_)
          refine R.eqN false ((a.getD 0 (0, 0)).1) ((a.getD 0 (0, 0)).2) 0 v (!decide (((a.getD 0 (0, 0)).1) = 0 ∧ ((a.getD 0 (0, 0)).2) = v)) (by kernel_rfl) (by kernel_rfl) (by rfl) ?_
          refine R.go 1 (R.anyF 6 (by kernel_rfl) (np_ret _ _ _) ?_)
          refine R.any2 7 9 (by kernel_rfl) (by kernel_rfl) ?_ ?_
          · by_cases c8 : ((a.getD 0 (0, 0)).1) = 0 ∧ ((a.getD 0 (0, 0)).2) = v
            · refine R.skp (!decide (((a.getD 0 (0, 0)).1) = 0 ∧ ((a.getD 0 (0, 0)).2) = v)) true (by kernel_rfl) (nF c8) (by kernel_rfl) ?_
              refine R.go 1 (R.any2 8 9 (by kernel_rfl) (by kernel_rfl) ?_ ?_)
              · refine R.skp (!decide (((a.getD 0 (0, 0)).1) = 0 ∧ ((a.getD 0 (0, 0)).2) = v)) true (by kernel_rfl) (nF c8) (by kernel_rfl) ?_
                refine R.go 1 (R.any1 9 (by kernel_rfl) (by kernel_rfl) ?_)
                refine R.skp (!decide (((a.getD 0 (0, 0)).1) = 0 ∧ ((a.getD 0 (0, 0)).2) = v)) true (by kernel_rfl) (nF c8) (by kernel_rfl) ?_
                refine R.go 1 (R.any1 10 (by kernel_rfl) (by kernel_rfl) ?_)
                refine R.skp (!decide (((a.getD 0 (0, 0)).1) = 0 ∧ ((a.getD 0 (0, 0)).2) = v)) true (by kernel_rfl) (nF c8) (by kernel_rfl) ?_
                refine R.go 1 (R.any1 11 (by kernel_rfl) (by kernel_rfl) ?_)
                refine R.skp (!decide (((a.getD 0 (0, 0)).1) = 0 ∧ ((a.getD 0 (0, 0)).2) = v)) true (by kernel_rfl) (nF c8) (by kernel_rfl) ?_
                refine R.go 1 (R.any1 12 (by kernel_rfl) (by kernel_rfl) ?_)
                refine R.pick (!decide (((a.getD 0 (0, 0)).1) = 0 ∧ ((a.getD 0 (0, 0)).2) = v)) false (by kernel_rfl) (nF c8) (by kernel_rfl) ?_
                refine R.go 1 (R.any1 13 (by kernel_rfl) (by kernel_rfl) ?_)
                refine R.go 2 (R.any0 (by kernel_rfl) ?_)
                exact R.retE (.bool false) (by kernel_rfl) (by kernel_rfl) (by first | (apply congrArg AV.bool; first | exact g_1 hok (by assumption) | exact g_2 hok (by assumption) (by assumption) | exact g_3 hok (by assumption) (by assumption)) | (exfalso; omega))
              · refine R.skp (!decide (((a.getD 0 (0, 0)).1) = 0 ∧ ((a.getD 0 (0, 0)).2) = v)) true (by kernel_rfl) (nF c8) (by kernel_rfl) ?_
                refine R.go 1 (R.any1 8 (by kernel_rfl) (by kernel_rfl) ?_)
                refine R.skp (!decide (((a.getD 0 (0, 0)).1) = 0 ∧ ((a.getD 0 (0, 0)).2) = v)) true (by kernel_rfl) (nF c8) (by kernel_rfl) ?_
                refine R.go 1 (R.any1 10 (by kernel_rfl) (by kernel_rfl) ?_)
                refine R.skp (!decide (((a.getD 0 (0, 0)).1) = 0 ∧ ((a.getD 0 (0, 0)).2) = v)) true (by kernel_rfl) (nF c8) (by kernel_rfl) ?_
                refine R.go 1 (R.any1 11 (by kernel_rfl) (by kernel_rfl) ?_)
                refine R.skp (!decide (((a.getD 0 (0, 0)).1) = 0 ∧ ((a.getD 0 (0, 0)).2) = v)) true (by kernel_rfl) (nF c8) (by kernel_rfl) ?_
                refine R.go 1 (R.any1 12 (by kernel_rfl) (by kernel_rfl) ?_)
                refine R.pick (!decide (((a.getD 0 (0, 0)).1) = 0 ∧ ((a.getD 0 (0, 0)).2) = v)) false (by kernel_rfl) (nF c8) (by kernel_rfl) ?_
                refine R.go 1 (R.any1 13 (by kernel_rfl) (by kernel_rfl) ?_)
                refine R.go 2 (R.any0 (by kernel_rfl) ?_)
                exact R.retE (.bool false) (by kernel_rfl) (by kernel_rfl) (by first | (apply congrArg AV.bool; first | exact g_1 hok (by assumption) | exact g_2 hok (by assumption) (by assumption) | exact g_3 hok (by assumption) (by assumption)) | (exfalso; omega))
            · refine R.want (!decide (((a.getD 0 (0, 0)).1) = 0 ∧ ((a.getD 0 (0, 0)).2) = v)) true (by kernel_rfl) (nT c8) ?_
              refine R.go 2 (R.any2 8 9 (by kernel_rfl) (by kernel_rfl) ?_ ?_)
              · refine R.want (!decide (((a.getD 0 (0, 0)).1) = 0 ∧ ((a.getD 0 (0, 0)).2) = v)) true (by kernel_rfl) (nT c8) ?_
                refine R.call true (partsA_c nv a hok (by first | omega | (simp <;> omega))) (by kernel_rfl) rfl (by kernel_rfl) ?_
                refine R.go 1 (R.any1 9 (by kernel_rfl) (by kernel_rfl) ?_)
                refine R.want (!decide (((a.getD 0 (0, 0)).1) = 0 ∧ ((a.getD 0 (0, 0)).2) = v)) true (by kernel_rfl) (nT c8) ?_
                refine R.go 2 (R.any1 10 (by kernel_rfl) (by kernel_rfl) ?_)
                refine R.want (!decide (((a.getD 0 (0, 0)).1) = 0 ∧ ((a.getD 0 (0, 0)).2) = v)) true (by kernel_rfl) (nT c8) ?_
                refine R.call false (conG_c (prtsL a) v (by exact hcl) (by first | omega | (simp <;> omega))) (by kernel_rfl) rfl (by kernel_rfl) ?_
                refine R.go 1 (R.any1 11 (by kernel_rfl) (by kernel_rfl) ?_)
                refine R.want (!decide (((a.getD 0 (0, 0)).1) = 0 ∧ ((a.getD 0 (0, 0)).2) = v)) true (by kernel_rfl) (nT c8) ?_
                refine R.go 2 (R.any1 12 (by kernel_rfl) (by kernel_rfl) ?_)
                refine R.pick (!decide (((a.getD 0 (0, 0)).1) = 0 ∧ ((a.getD 0 (0, 0)).2) = v)) true (by kernel_rfl) (nT c8) (by kernel_rfl) ?_
                refine R.go 1 (R.any1 13 (by kernel_rfl) (by kernel_rfl) ?_)
                refine R.go 2 (R.any0 (by kernel_rfl) ?_)
                exact R.retE (.bool (!((prtsL a).any (fun b => !guF b v)))) (by kernel_rfl) (by kernel_rfl) (by first | (apply congrArg AV.bool; first | exact g_1 hok (by assumption) | exact g_2 hok (by assumption) (by assumption) | exact g_3 hok (by assumption) (by assumption)) | (exfalso; omega))
              · refine R.want (!decide (((a.getD 0 (0, 0)).1) = 0 ∧ ((a.getD 0 (0, 0)).2) = v)) true (by kernel_rfl) (nT c8) ?_
                refine R.go 2 (R.any1 8 (by kernel_rfl) (by kernel_rfl) ?_)
                refine R.want (!decide (((a.getD 0 (0, 0)).1) = 0 ∧ ((a.getD 0 (0, 0)).2) = v)) true (by kernel_rfl) (nT c8) ?_
                refine R.call true (partsA_c nv a hok (by first | omega | (simp <;> omega))) (by kernel_rfl) rfl (by kernel_rfl) ?_
                refine R.go 1 (R.any1 10 (by kernel_rfl) (by kernel_rfl) ?_)
                refine R.want (!decide (((a.getD 0 (0, 0)).1) = 0 ∧ ((a.getD 0 (0, 0)).2) = v)) true (by kernel_rfl) (nT c8) ?_
                refine R.call false (conG_c (prtsL a) v (by exact hcl) (by first | omega | (simp <;> omega))) (by kernel_rfl) rfl (by kernel_rfl) ?_
                refine R.go 1 (R.any1 11 (by kernel_rfl) (by kernel_rfl) ?_)
                refine R.want (!decide (((a.getD 0 (0, 0)).1) = 0 ∧ ((a.getD 0 (0, 0)).2) = v)) true (by kernel_rfl) (nT c8) ?_
                refine R.go 2 (R.any1 12 (by kernel_rfl) (by kernel_rfl) ?_)
                refine R.pick (!decide (((a.getD 0 (0, 0)).1) = 0 ∧ ((a.getD 0 (0, 0)).2) = v)) true (by kernel_rfl) (nT c8) (by kernel_rfl) ?_
                refine R.go 1 (R.any1 13 (by kernel_rfl) (by kernel_rfl) ?_)
                refine R.go 2 (R.any0 (by kernel_rfl) ?_)
                exact R.retE (.bool (!((prtsL a).any (fun b => !guF b v)))) (by kernel_rfl) (by kernel_rfl) (by first | (apply congrArg AV.bool; first | exact g_1 hok (by assumption) | exact g_2 hok (by assumption) (by assumption) | exact g_3 hok (by assumption) (by assumption)) | (exfalso; omega))
          · by_cases c9 : ((a.getD 0 (0, 0)).1) = 0 ∧ ((a.getD 0 (0, 0)).2) = v
            · refine R.skp (!decide (((a.getD 0 (0, 0)).1) = 0 ∧ ((a.getD 0 (0, 0)).2) = v)) true (by kernel_rfl) (nF c9) (by kernel_rfl) ?_
              refine R.go 1 (R.any1 7 (by kernel_rfl) (by kernel_rfl) ?_)
              refine R.skp (!decide (((a.getD 0 (0, 0)).1) = 0 ∧ ((a.getD 0 (0, 0)).2) = v)) true (by kernel_rfl) (nF c9) (by kernel_rfl) ?_
              refine R.go 1 (R.any1 8 (by kernel_rfl) (by kernel_rfl) ?_)
              refine R.skp (!decide (((a.getD 0 (0, 0)).1) = 0 ∧ ((a.getD 0 (0, 0)).2) = v)) true (by kernel_rfl) (nF c9) (by kernel_rfl) ?_
              refine R.go 1 (R.any1 10 (by kernel_rfl) (by kernel_rfl) ?_)
              refine R.skp (!decide (((a.getD 0 (0, 0)).1) = 0 ∧ ((a.getD 0 (0, 0)).2) = v)) true (by kernel_rfl) (nF c9) (by kernel_rfl) ?_
              refine R.go 1 (R.any1 11 (by kernel_rfl) (by kernel_rfl) ?_)
              refine R.skp (!decide (((a.getD 0 (0, 0)).1) = 0 ∧ ((a.getD 0 (0, 0)).2) = v)) true (by kernel_rfl) (nF c9) (by kernel_rfl) ?_
              refine R.go 1 (R.any1 12 (by kernel_rfl) (by kernel_rfl) ?_)
              refine R.pick (!decide (((a.getD 0 (0, 0)).1) = 0 ∧ ((a.getD 0 (0, 0)).2) = v)) false (by kernel_rfl) (nF c9) (by kernel_rfl) ?_
              refine R.go 1 (R.any1 13 (by kernel_rfl) (by kernel_rfl) ?_)
              refine R.go 2 (R.any0 (by kernel_rfl) ?_)
              exact R.retE (.bool false) (by kernel_rfl) (by kernel_rfl) (by first | (apply congrArg AV.bool; first | exact g_1 hok (by assumption) | exact g_2 hok (by assumption) (by assumption) | exact g_3 hok (by assumption) (by assumption)) | (exfalso; omega))
            · refine R.want (!decide (((a.getD 0 (0, 0)).1) = 0 ∧ ((a.getD 0 (0, 0)).2) = v)) true (by kernel_rfl) (nT c9) ?_
              refine R.go 2 (R.any1 7 (by kernel_rfl) (by kernel_rfl) ?_)
              refine R.want (!decide (((a.getD 0 (0, 0)).1) = 0 ∧ ((a.getD 0 (0, 0)).2) = v)) true (by kernel_rfl) (nT c9) ?_
              refine R.go 2 (R.any1 8 (by kernel_rfl) (by kernel_rfl) ?_)
              refine R.want (!decide (((a.getD 0 (0, 0)).1) = 0 ∧ ((a.getD 0 (0, 0)).2) = v)) true (by kernel_rfl) (nT c9) ?_
              refine R.call true (partsA_c nv a hok (by first | omega | (simp <;> omega))) (by kernel_rfl) rfl (by kernel_rfl) ?_
              refine R.go 1 (R.any1 10 (by kernel_rfl) (by kernel_rfl) ?_)
              refine R.want (!decide (((a.getD 0 (0, 0)).1) = 0 ∧ ((a.getD 0 (0, 0)).2) = v)) true (by kernel_rfl) (nT c9) ?_
              refine R.call false (conG_c (prtsL a) v (by exact hcl) (by first | omega | (simp <;> omega))) (by kernel_rfl) rfl (by kernel_rfl) ?_
              refine R.go 1 (R.any1 11 (by kernel_rfl) (by kernel_rfl) ?_)
              refine R.want (!decide (((a.getD 0 (0, 0)).1) = 0 ∧ ((a.getD 0 (0, 0)).2) = v)) true (by kernel_rfl) (nT c9) ?_
              refine R.go 2 (R.any1 12 (by kernel_rfl) (by kernel_rfl) ?_)
              refine R.pick (!decide (((a.getD 0 (0, 0)).1) = 0 ∧ ((a.getD 0 (0, 0)).2) = v)) true (by kernel_rfl) (nT c9) (by kernel_rfl) ?_
              refine R.go 1 (R.any1 13 (by kernel_rfl) (by kernel_rfl) ?_)
              refine R.go 2 (R.any0 (by kernel_rfl) ?_)
              exact R.retE (.bool (!((prtsL a).any (fun b => !guF b v)))) (by kernel_rfl) (by kernel_rfl) (by first | (apply congrArg AV.bool; first | exact g_1 hok (by assumption) | exact g_2 hok (by assumption) (by assumption) | exact g_3 hok (by assumption) (by assumption)) | (exfalso; omega))
        · refine R.go 2 (R.any1 2 (by kernel_rfl) (by kernel_rfl) ?_)
          refine R.go 2 (R.any1 5 (by kernel_rfl) (by kernel_rfl) ?_)
          refine R.eqN false ((a.getD 0 (0, 0)).1) ((a.getD 0 (0, 0)).2) 0 v (!decide (((a.getD 0 (0, 0)).1) = 0 ∧ ((a.getD 0 (0, 0)).2) = v)) (by kernel_rfl) (by kernel_rfl) (by rfl) ?_
          refine R.go 1 (R.anyF 6 (by kernel_rfl) (np_ret _ _ _) ?_)
          refine R.any2 7 9 (by kernel_rfl) (by kernel_rfl) ?_ ?_
          · by_cases c10 : ((a.getD 0 (0, 0)).1) = 0 ∧ ((a.getD 0 (0, 0)).2) = v
            · refine R.skp (!decide (((a.getD 0 (0, 0)).1) = 0 ∧ ((a.getD 0 (0, 0)).2) = v)) true (by kernel_rfl) (nF c10) (by kernel_rfl) ?_
              refine R.go 1 (R.any2 8 9 (by kernel_rfl) (by kernel_rfl) ?_ ?_)
              · refine R.skp (!decide (((a.getD 0 (0, 0)).1) = 0 ∧ ((a.getD 0 (0, 0)).2) = v)) true (by kernel_rfl) (nF c10) (by kernel_rfl) ?_
                refine R.go 1 (R.any1 9 (by kernel_rfl) (by kernel_rfl) ?_)
                refine R.skp (!decide (((a.getD 0 (0, 0)).1) = 0 ∧ ((a.getD 0 (0, 0)).2) = v)) true (by kernel_rfl) (nF c10) (by kernel_rfl) ?_
                refine R.go 1 (R.any1 10 (by kernel_rfl) (by kernel_rfl) ?_)
                refine R.skp (!decide (((a.getD 0 (0, 0)).1) = 0 ∧ ((a.getD 0 (0, 0)).2) = v)) true (by kernel_rfl) (nF c10) (by kernel_rfl) ?_
                refine R.go 1 (R.any1 11 (by kernel_rfl) (by kernel_rfl) ?_)
                refine R.skp (!decide (((a.getD 0 (0, 0)).1) = 0 ∧ ((a.getD 0 (0, 0)).2) = v)) true (by kernel_rfl) (nF c10) (by kernel_rfl) ?_
                refine R.go 1 (R.any1 12 (by kernel_rfl) (by kernel_rfl) ?_)
                refine R.pick (!decide (((a.getD 0 (0, 0)).1) = 0 ∧ ((a.getD 0 (0, 0)).2) = v)) false (by kernel_rfl) (nF c10) (by kernel_rfl) ?_
                refine R.go 1 (R.any1 13 (by kernel_rfl) (by kernel_rfl) ?_)
                refine R.go 2 (R.any0 (by kernel_rfl) ?_)
                exact R.retE (.bool false) (by kernel_rfl) (by kernel_rfl) (by first | (apply congrArg AV.bool; first | exact g_1 hok (by assumption) | exact g_2 hok (by assumption) (by assumption) | exact g_3 hok (by assumption) (by assumption)) | (exfalso; omega))
              · refine R.skp (!decide (((a.getD 0 (0, 0)).1) = 0 ∧ ((a.getD 0 (0, 0)).2) = v)) true (by kernel_rfl) (nF c10) (by kernel_rfl) ?_
                refine R.go 1 (R.any1 8 (by kernel_rfl) (by kernel_rfl) ?_)
                refine R.skp (!decide (((a.getD 0 (0, 0)).1) = 0 ∧ ((a.getD 0 (0, 0)).2) = v)) true (by kernel_rfl) (nF c10) (by kernel_rfl) ?_
                refine R.go 1 (R.any1 10 (by kernel_rfl) (by kernel_rfl) ?_)
                refine R.skp (!decide (((a.getD 0 (0, 0)).1) = 0 ∧ ((a.getD 0 (0, 0)).2) = v)) true (by kernel_rfl) (nF c10) (by kernel_rfl) ?_
                refine R.go 1 (R.any1 11 (by kernel_rfl) (by kernel_rfl) ?_)
                refine R.skp (!decide (((a.getD 0 (0, 0)).1) = 0 ∧ ((a.getD 0 (0, 0)).2) = v)) true (by kernel_rfl) (nF c10) (by kernel_rfl) ?_
                refine R.go 1 (R.any1 12 (by kernel_rfl) (by kernel_rfl) ?_)
                refine R.pick (!decide (((a.getD 0 (0, 0)).1) = 0 ∧ ((a.getD 0 (0, 0)).2) = v)) false (by kernel_rfl) (nF c10) (by kernel_rfl) ?_
                refine R.go 1 (R.any1 13 (by kernel_rfl) (by kernel_rfl) ?_)
                refine R.go 2 (R.any0 (by kernel_rfl) ?_)
                exact R.retE (.bool false) (by kernel_rfl) (by kernel_rfl) (by first | (apply congrArg AV.bool; first | exact g_1 hok (by assumption) | exact g_2 hok (by assumption) (by assumption) | exact g_3 hok (by assumption) (by assumption)) | (exfalso; omega))
            · refine R.want (!decide (((a.getD 0 (0, 0)).1) = 0 ∧ ((a.getD 0 (0, 0)).2) = v)) true (by kernel_rfl) (nT c10) ?_
              refine R.go 2 (R.any2 8 9 (by kernel_rfl) (by kernel_rfl) ?_ ?_)
              · refine R.want (!decide (((a.getD 0 (0, 0)).1) = 0 ∧ ((a.getD 0 (0, 0)).2) = v)) true (by kernel_rfl) (nT c10) ?_
                refine R.call true (partsA_c nv a hok (by first | omega | (simp <;> omega))) (by kernel_rfl) rfl (by kernel_rfl) ?_
                refine R.go 1 (R.any1 9 (by kernel_rfl) (by kernel_rfl) ?_)
                refine R.want (!decide (((a.getD 0 (0, 0)).1) = 0 ∧ ((a.getD 0 (0, 0)).2) = v)) true (by kernel_rfl) (nT c10) ?_
                refine R.go 2 (R.any1 10 (by kernel_rfl) (by kernel_rfl) ?_)
                refine R.want (!decide (((a.getD 0 (0, 0)).1) = 0 ∧ ((a.getD 0 (0, 0)).2) = v)) true (by kernel_rfl) (nT c10) ?_
                refine R.call false (conG_c (prtsL a) v (by exact hcl) (by first | omega | (simp <;> omega))) (by kernel_rfl) rfl (by kernel_rfl) ?_
                refine R.go 1 (R.any1 11 (by kernel_rfl) (by kernel_rfl) ?_)
                refine R.want (!decide (((a.getD 0 (0, 0)).1) = 0 ∧ ((a.getD 0 (0, 0)).2) = v)) true (by kernel_rfl) (nT c10) ?_
                refine R.go 2 (R.any1 12 (by kernel_rfl) (by kernel_rfl) ?_)
                refine R.pick (!decide (((a.getD 0 (0, 0)).1) = 0 ∧ ((a.getD 0 (0, 0)).2) = v)) true (by kernel_rfl) (nT c10) (by kernel_rfl) ?_
                refine R.go 1 (R.any1 13 (by kernel_rfl) (by kernel_rfl) ?_)
                refine R.go 2 (R.any0 (by kernel_rfl) ?_)
                exact R.retE (.bool (!((prtsL a).any (fun b => !guF b v)))) (by kernel_rfl) (by kernel_rfl) (by first | (apply congrArg AV.bool; first | exact g_1 hok (by assumption) | exact g_2 hok (by assumption) (by assumption) | exact g_3 hok (by assumption) (by assumption)) | (exfalso; omega))
              · refine R.want (!decide (((a.getD 0 (0, 0)).1) = 0 ∧ ((a.getD 0 (0, 0)).2) = v)) true (by kernel_rfl) (nT c10) ?_
                refine R.go 2 (R.any1 8 (by kernel_rfl) (by kernel_rfl) ?_)
                refine R.want (!decide (((a.getD 0 (0, 0)).1) = 0 ∧ ((a.getD 0 (0, 0)).2) = v)) true (by kernel_rfl) (nT c10) ?_
                refine R.call true (partsA_c nv a hok (by first | omega | (simp <;> omega))) (by kernel_rfl) rfl (by kernel_rfl) ?_
                refine R.go 1 (R.any1 10 (by kernel_rfl) (by kernel_rfl) ?_)
                refine R.want (!decide (((a.getD 0 (0, 0)).1) = 0 ∧ ((a.getD 0 (0, 0)).2) = v)) true (by kernel_rfl) (nT c10) ?_
                refine R.call false (conG_c (prtsL a) v (by exact hcl) (by first | omega | (simp <;> omega))) (by kernel_rfl) rfl (by kernel_rfl) ?_
                refine R.go 1 (R.any1 11 (by kernel_rfl) (by kernel_rfl) ?_)
                refine R.want (!decide (((a.getD 0 (0, 0)).1) = 0 ∧ ((a.getD 0 (0, 0)).2) = v)) true (by kernel_rfl) (nT c10) ?_
                refine R.go 2 (R.any1 12 (by kernel_rfl) (by kernel_rfl) ?_)
                refine R.pick (!decide (((a.getD 0 (0, 0)).1) = 0 ∧ ((a.getD 0 (0, 0)).2) = v)) true (by kernel_rfl) (nT c10) (by kernel_rfl) ?_
                refine R.go 1 (R.any1 13 (by kernel_rfl) (by kernel_rfl) ?_)
                refine R.go 2 (R.any0 (by kernel_rfl) ?_)
                exact R.retE (.bool (!((prtsL a).any (fun b => !guF b v)))) (by kernel_rfl) (by kernel_rfl) (by first | (apply congrArg AV.bool; first | exact g_1 hok (by assumption) | exact g_2 hok (by assumption) (by assumption) | exact g_3 hok (by assumption) (by assumption)) | (exfalso; omega))
          · by_cases c11 : ((a.getD 0 (0, 0)).1) = 0 ∧ ((a.getD 0 (0, 0)).2) = v
            · refine R.skp (!decide (((a.getD 0 (0, 0)).1) = 0 ∧ ((a.getD 0 (0, 0)).2) = v)) true (by kernel_rfl) (nF c11) (by kernel_rfl) ?_
              refine R.go 1 (R.any1 7 (by kernel_rfl) (by kernel_rfl) ?_)
              refine R.skp (!decide (((a.getD 0 (0, 0)).1) = 0 ∧ ((a.getD 0 (0, 0)).2) = v)) true (by kernel_rfl) (nF c11) (by kernel_rfl) ?_
              refine R.go 1 (R.any1 8 (by kernel_rfl) (by kernel_rfl) ?_)
              refine R.skp (!decide (((a.getD 0 (0, 0)).1) = 0 ∧ ((a.getD 0 (0, 0)).2) = v)) true (by kernel_rfl) (nF c11) (by kernel_rfl) ?_
              refine R.go 1 (R.any1 10 (by kernel_rfl) (by kernel_rfl) ?_)
              refine R.skp (!decide (((a.getD 0 (0, 0)).1) = 0 ∧ ((a.getD 0 (0, 0)).2) = v)) true (by kernel_rfl) (nF c11) (by kernel_rfl) ?_
              refine R.go 1 (R.any1 11 (by kernel_rfl) (by kernel_rfl) ?_)
              refine R.skp (!decide (((a.getD 0 (0, 0)).1) = 0 ∧ ((a.getD 0 (0, 0)).2) = v)) true (by kernel_rfl) (nF c11) (by kernel_rfl) ?_
              refine R.go 1 (R.any1 12 (by kernel_rfl) (by kernel_rfl) ?_)
              refine R.pick (!decide (((a.getD 0 (0, 0)).1) = 0 ∧ ((a.getD 0 (0, 0)).2) = v)) false (by kernel_rfl) (nF c11) (by kernel_rfl) ?_
              refine R.go 1 (R.any1 13 (by kernel_rfl) (by kernel_rfl) ?_)
              refine R.go 2 (R.any0 (by kernel_rfl) ?_)
              exact R.retE (.bool false) (by kernel_rfl) (by kernel_rfl) (by first | (apply congrArg AV.bool; first | exact g_1 hok (by assumption) | exact g_2 hok (by assumption) (by assumption) | exact g_3 hok (by assumption) (by assumption)) | (exfalso; omega))
            · refine R.want (!decide (((a.getD 0 (0, 0)).1) = 0 ∧ ((a.getD 0 (0, 0)).2) = v)) true (by kernel_rfl) (nT c11) ?_
              refine R.go 2 (R.any1 7 (by kernel_rfl) (by kernel_rfl) ?_)
              refine R.want (!decide (((a.getD 0 (0, 0)).1) = 0 ∧ ((a.getD 0 (0, 0)).2) = v)) true (by kernel_rfl) (nT c11) ?_
              refine R.go 2 (R.any1 8 (by kernel_rfl) (by kernel_rfl) ?_)
              refine R.want (!decide (((a.getD 0 (0, 0)).1) = 0 ∧ ((a.getD 0 (0, 0)).2) = v)) true (by kernel_rfl) (nT c11) ?_
              refine R.call true (partsA_c nv a hok (by first | omega | (simp <;> omega))) (by kernel_rfl) rfl (by kernel_rfl) ?_
              refine R.go 1 (R.any1 10 (by kernel_rfl) (by kernel_rfl) ?_)
              refine R.want (!decide (((a.getD 0 (0, 0)).1) = 0 ∧ ((a.getD 0 (0, 0)).2) = v)) true (by kernel_rfl) (nT c11) ?_
              refine R.call false (conG_c (prtsL a) v (by exact hcl) (by first | omega | (simp <;> omega))) (by kernel_rfl) rfl (by kernel_rfl) ?_
              refine R.go 1 (R.any1 11 (by kernel_rfl) (by kernel_rfl) ?_)
              refine R.want (!decide (((a.getD 0 (0, 0)).1) = 0 ∧ ((a.getD 0 (0, 0)).2) = v)) true (by kernel_rfl) (nT c11) ?_
              refine R.go 2 (R.any1 12 (by kernel_rfl) (by kernel_rfl) ?_)
              refine R.pick (!decide (((a.getD 0 (0, 0)).1) = 0 ∧ ((a.getD 0 (0, 0)).2) = v)) true (by kernel_rfl) (nT c11) (by kernel_rfl) ?_
              refine R.go 1 (R.any1 13 (by kernel_rfl) (by kernel_rfl) ?_)
              refine R.go 2 (R.any0 (by kernel_rfl) ?_)
              exact R.retE (.bool (!((prtsL a).any (fun b => !guF b v)))) (by kernel_rfl) (by kernel_rfl) (by first | (apply congrArg AV.bool; first | exact g_1 hok (by assumption) | exact g_2 hok (by assumption) (by assumption) | exact g_3 hok (by assumption) (by assumption)) | (exfalso; omega))
      · refine R.go 2 (R.any1 1 (by kernel_rfl) (by kernel_rfl) ?_)
        refine R.idx eN a (0, 0) 0 0 (by kernel_rfl) rfl eN_len (by omega) (by kernel_rfl) ?_
        refine R.go 1 (R.any1 2 (by kernel_rfl) (by kernel_rfl) ?_)
        refine R.go 2 (R.any1 5 (by kernel_rfl) (by kernel_rfl) ?_)
        refine R.eqN false ((a.getD 0 (0, 0)).1) ((a.getD 0 (0, 0)).2) 0 v (!decide (((a.getD 0 (0, 0)).1) = 0 ∧ ((a.getD 0 (0, 0)).2) = v)) (by kernel_rfl) (by kernel_rfl) (by rfl) ?_
        refine R.go 1 (R.anyF 6 (by kernel_rfl) (np_ret _ _ _) ?_)
        refine R.any2 7 9 (by kernel_rfl) (by kernel_rfl) ?_ ?_
        · by_cases c12 : ((a.getD 0 (0, 0)).1) = 0 ∧ ((a.getD 0 (0, 0)).2) = v
          · refine R.skp (!decide (((a.getD 0 (0, 0)).1) = 0 ∧ ((a.getD 0 (0, 0)).2) = v)) true (by kernel_rfl) (nF c12) (by kernel_rfl) ?_
            refine R.go 1 (R.any2 8 9 (by kernel_rfl) (by kernel_rfl) ?_ ?_)
            · refine R.skp (!decide (((a.getD 0 (0, 0)).1) = 0 ∧ ((a.getD 0 (0, 0)).2) = v)) true (by kernel_rfl) (nF c12) (by kernel_rfl) ?_
              refine R.go 1 (R.any1 9 (by kernel_rfl) (by kernel_rfl) ?_)
              refine R.skp (!decide (((a.getD 0 (0, 0)).1) = 0 ∧ ((a.getD 0 (0, 0)).2) = v)) true (by kernel_rfl) (nF c12) (by kernel_rfl) ?_
              refine R.go 1 (R.any1 10 (by kernel_rfl) (by kernel_rfl) ?_)
              refine R.skp (!decide (((a.getD 0 (0, 0)).1) = 0 ∧ ((a.getD 0 (0, 0)).2) = v)) true (by kernel_rfl) (nF c12) (by kernel_rfl) ?_
              refine R.go 1 (R.any1 11 (by kernel_rfl) (by kernel_rfl) ?_)
              refine R.skp (!decide (((a.getD 0 (0, 0)).1) = 0 ∧ ((a.getD 0 (0, 0)).2) = v)) true (by kernel_rfl) (nF c12) (by kernel_rfl) ?_
              refine R.go 1 (R.any1 12 (by kernel_rfl) (by kernel_rfl) ?_)
              refine R.pick (!decide (((a.getD 0 (0, 0)).1) = 0 ∧ ((a.getD 0 (0, 0)).2) = v)) false (by kernel_rfl) (nF c12) (by kernel_rfl) ?_
              refine R.go 1 (R.any1 13 (by kernel_rfl) (by kernel_rfl) ?_)
              refine R.go 2 (R.any0 (by kernel_rfl) ?_)
              exact R.retE (.bool false) (by kernel_rfl) (by kernel_rfl) (by first | (apply congrArg AV.bool; first | exact g_1 hok (by assumption) | exact g_2 hok (by assumption) (by assumption) | exact g_3 hok (by assumption) (by assumption)) | (exfalso; omega))
            · refine R.skp (!decide (((a.getD 0 (0, 0)).1) = 0 ∧ ((a.getD 0 (0, 0)).2) = v)) true (by kernel_rfl) (nF c12) (by kernel_rfl) ?_
              refine R.go 1 (R.any1 8 (by kernel_rfl) (by kernel_rfl) ?_)
              refine R.skp (!decide (((a.getD 0 (0, 0)).1) = 0 ∧ ((a.getD 0 (0, 0)).2) = v)) true (by kernel_rfl) (nF c12) (by kernel_rfl) ?_
              refine R.go 1 (R.any1 10 (by kernel_rfl) (by kernel_rfl) ?_)
              refine R.skp (!decide (((a.getD 0 (0, 0)).1) = 0 ∧ ((a.getD 0 (0, 0)).2) = v)) true (by kernel_rfl) (nF c12) (by kernel_rfl) ?_
              refine R.go 1 (R.any1 11 (by kernel_rfl) (by kernel_rfl) ?_)
              refine R.skp (!decide (((a.getD 0 (0, 0)).1) = 0 ∧ ((a.getD 0 (0, 0)).2) = v)) true (by kernel_rfl) (nF c12) (by kernel_rfl) ?_
              refine R.go 1 (R.any1 12 (by kernel_rfl) (by kernel_rfl) ?_)
              refine R.pick (!decide (((a.getD 0 (0, 0)).1) = 0 ∧ ((a.getD 0 (0, 0)).2) = v)) false (by kernel_rfl) (nF c12) (by kernel_rfl) ?_
              refine R.go 1 (R.any1 13 (by kernel_rfl) (by kernel_rfl) ?_)
              refine R.go 2 (R.any0 (by kernel_rfl) ?_)
              exact R.retE (.bool false) (by kernel_rfl) (by kernel_rfl) (by first | (apply congrArg AV.bool; first | exact g_1 hok (by assumption) | exact g_2 hok (by assumption) (by assumption) | exact g_3 hok (by assumption) (by assumption)) | (exfalso; omega))
          · refine R.want (!decide (((a.getD 0 (0, 0)).1) = 0 ∧ ((a.getD 0 (0, 0)).2) = v)) true (by kernel_rfl) (nT c12) ?_
            refine R.go 2 (R.any2 8 9 (by kernel_rfl) (by kernel_rfl) ?_ ?_)
            · refine R.want (!decide (((a.getD 0 (0, 0)).1) = 0 ∧ ((a.getD 0 (0, 0)).2) = v)) true (by kernel_rfl) (nT c12) ?_
              refine R.call true (partsA_c nv a hok (by first | omega | (simp <;> omega))) (by kernel_rfl) rfl (by kernel_rfl) ?_
              refine R.go 1 (R.any1 9 (by kernel_rfl) (by kernel_rfl) ?_)
              refine R.want (!decide (((a.getD 0 (0, 0)).1) = 0 ∧ ((a.getD 0 (0, 0)).2) = v)) true (by kernel_rfl) (nT c12) ?_
              refine R.go 2 (R.any1 10 (by kernel_rfl) (by kernel_rfl) ?_)
              refine R.want (!decide (((a.getD 0 (0, 0)).1) = 0 ∧ ((a.getD 0 (0, 0)).2) = v)) true (by kernel_rfl) (nT c12) ?_
              refine R.call false (conG_c (prtsL a) v (by exact hcl) (by first | omega | (simp <;> omega))) (by kernel_rfl) rfl (by kernel_rfl) ?_
              refine R.go 1 (R.any1 11 (by kernel_rfl) (by kernel_rfl) ?_)
              refine R.want (!decide (((a.getD 0 (0, 0)).1) = 0 ∧ ((a.getD 0 (0, 0)).2) = v)) true (by kernel_rfl) (nT c12) ?_
              refine R.go 2 (R.any1 12 (by kernel_rfl) (by kernel_rfl) ?_)
              refine R.pick (!decide (((a.getD 0 (0, 0)).1) = 0 ∧ ((a.getD 0 (0, 0)).2) = v)) true (by kernel_rfl) (nT c12) (by kernel_rfl) ?_
              refine R.go 1 (R.any1 13 (by kernel_rfl) (by kernel_rfl) ?_)
              refine R.go 2 (R.any0 (by kernel_rfl) ?_)
              exact R.retE (.bool (!((prtsL a).any (fun b => !guF b v)))) (by kernel_rfl) (by kernel_rfl) (by first | (apply congrArg AV.bool; first | exact g_1 hok (by assumption) | exact g_2 hok (by assumption) (by assumption) | exact g_3 hok (by assumption) (by assumption)) | (exfalso; omega))
            · refine R.want (!decide (((a.getD 0 (0, 0)).1) = 0 ∧ ((a.getD 0 (0, 0)).2) = v)) true (by kernel_rfl) (nT c12) ?_
              refine R.go 2 (R.any1 8 (by kernel_rfl) (by kernel_rfl) ?_)
              refine R.want (!decide (((a.getD 0 (0, 0)).1) = 0 ∧ ((a.getD 0 (0, 0)).2) = v)) true (by kernel_rfl) (nT c12) ?_
              refine R.call true (partsA_c nv a hok (by first | omega | (simp <;> omega))) (by kernel_rfl) rfl (by kernel_rfl) ?_
              refine R.go 1 (R.any1 10 (by kernel_rfl) (by kernel_rfl) ?_)
              refine R.want (!decide (((a.getD 0 (0, 0)).1) = 0 ∧ ((a.getD 0 (0, 0)).2) = v)) true (by kernel_rfl) (nT c12) ?_
              refine R.call false (conG_c (prtsL a) v (by exact hcl) (by first | omega | (simp <;> omega))) (by kernel_rfl) rfl (by kernel_rfl) ?_
              refine R.go 1 (R.any1 11 (by kernel_rfl) (by kernel_rfl) ?_)
              refine R.want (!decide (((a.getD 0 (0, 0)).1) = 0 ∧ ((a.getD 0 (0, 0)).2) = v)) true (by kernel_rfl) (nT c12) ?_
              refine R.go 2 (R.any1 12 (by kernel_rfl) (by kernel_rfl) ?_)
              refine R.pick (!decide (((a.getD 0 (0, 0)).1) = 0 ∧ ((a.getD 0 (0, 0)).2) = v)) true (by kernel_rfl) (nT c12) (by kernel_rfl) ?_
              refine R.go 1 (R.any1 13 (by kernel_rfl) (by kernel_rfl) ?_)
              refine R.go 2 (R.any0 (by kernel_rfl) ?_)
              exact R.retE (.bool (!((prtsL a).any (fun b => !guF b v)))) (by kernel_rfl) (by kernel_rfl) (by first | (apply congrArg AV.bool; first | exact g_1 hok (by assumption) | exact g_2 hok (by assumption) (by assumption) | exact g_3 hok (by assumption) (by assumption)) | (exfalso; omega))
        · by_cases c13 : ((a.getD 0 (0, 0)).1) = 0 ∧ ((a.getD 0 (0, 0)).2) = v
          · refine R.skp (!decide (((a.getD 0 (0, 0)).1) = 0 ∧ ((a.getD 0 (0, 0)).2) = v)) true (by kernel_rfl) (nF c13) (by kernel_rfl) ?_
            refine R.go 1 (R.any1 7 (by kernel_rfl) (by kernel_rfl) ?_)
            refine R.skp (!decide (((a.getD 0 (0, 0)).1) = 0 ∧ ((a.getD 0 (0, 0)).2) = v)) true (by kernel_rfl) (nF c13) (by kernel_rfl) ?_
            refine R.go 1 (R.any1 8 (by kernel_rfl) (by kernel_rfl) ?_)
            refine R.skp (!decide (((a.getD 0 (0, 0)).1) = 0 ∧ ((a.getD 0 (0, 0)).2) = v)) true (by kernel_rfl) (nF c13) (by kernel_rfl) ?_
            refine R.go 1 (R.any1 10 (by kernel_rfl) (by kernel_rfl) ?_)
            refine R.skp (!decide (((a.getD 0 (0, 0)).1) = 0 ∧ ((a.getD 0 (0, 0)).2) = v)) true (by kernel_rfl) (nF c13) (by kernel_rfl) ?_
            refine R.go 1 (R.any1 11 (by kernel_rfl) (by kernel_rfl) ?_)
            refine R.skp (!decide (((a.getD 0 (0, 0)).1) = 0 ∧ ((a.getD 0 (0, 0)).2) = v)) true (by kernel_rfl) (nF c13) (by kernel_rfl) ?_
            refine R.go 1 (R.any1 12 (by kernel_rfl) (by kernel_rfl) ?_)
            refine R.pick (!decide (((a.getD 0 (0, 0)).1) = 0 ∧ ((a.getD 0 (0, 0)).2) = v)) false (by kernel_rfl) (nF c13) (by kernel_rfl) ?_
            refine R.go 1 (R.any1 13 (by kernel_rfl) (by kernel_rfl) ?_)
            refine R.go 2 (R.any0 (by kernel_rfl) ?_)
            exact R.retE (.bool false) (by kernel_rfl) (by kernel_rfl) (by first | (apply congrArg AV.bool; first | exact g_1 hok (by assumption) | exact g_2 hok (by assumption) (by assumption) | exact g_3 hok (by assumption) (by assumption)) | (exfalso; omega))
          · refine R.want (!decide (((a.getD 0 (0, 0)).1) = 0 ∧ ((a.getD 0 (0, 0)).2) = v)) true (by kernel_rfl) (nT c13) ?_
            refine R.go 2 (R.any1 7 (by kernel_rfl) (by kernel_rfl) ?_)
            refine R.want (!decide (((a.getD 0 (0, 0)).1) = 0 ∧ ((a.getD 0 (0, 0)).2) = v)) true (by kernel_rfl) (nT c13) ?_
            refine R.go 2 (R.any1 8 (by kernel_rfl) (by kernel_rfl) ?_)
            refine R.want (!decide (((a.getD 0 (0, 0)).1) = 0 ∧ ((a.getD 0 (0, 0)).2) = v)) true (by kernel_rfl) (nT c13) ?_
            refine R.call true (partsA_c nv a hok (by first | omega | (simp <;> omega))) (by kernel_rfl) rfl (by kernel_rfl) ?_
            refine R.go 1 (R.any1 10 (by kernel_rfl) (by kernel_rfl) ?_)
            refine R.want (!decide (((a.getD 0 (0, 0)).1) = 0 ∧ ((a.getD 0 (0, 0)).2) = v)) true (by kernel_rfl) (nT c13) ?_
            refine R.call false (conG_c (prtsL a) v (by exact hcl) (by first | omega | (simp <;> omega))) (by kernel_rfl) rfl (by kernel_rfl) ?_
            refine R.go 1 (R.any1 11 (by kernel_rfl) (by kernel_rfl) ?_)
            refine R.want (!decide (((a.getD 0 (0, 0)).1) = 0 ∧ ((a.getD 0 (0, 0)).2) = v)) true (by kernel_rfl) (nT c13) ?_
            refine R.go 2 (R.any1 12 (by kernel_rfl) (by kernel_rfl) ?_)
            refine R.pick (!decide (((a.getD 0 (0, 0)).1) = 0 ∧ ((a.getD 0 (0, 0)).2) = v)) true (by kernel_rfl) (nT c13) (by kernel_rfl) ?_
            refine R.go 1 (R.any1 13 (by kernel_rfl) (by kernel_rfl) ?_)
            refine R.go 2 (R.any0 (by kernel_rfl) ?_)
            exact R.retE (.bool (!((prtsL a).any (fun b => !guF b v)))) (by kernel_rfl) (by kernel_rfl) (by first | (apply congrArg AV.bool; first | exact g_1 hok (by assumption) | exact g_2 hok (by assumption) (by assumption) | exact g_3 hok (by assumption) (by assumption)) | (exfalso; omega))

end Go.Proofs.Ytgebepfdphmjcaa
