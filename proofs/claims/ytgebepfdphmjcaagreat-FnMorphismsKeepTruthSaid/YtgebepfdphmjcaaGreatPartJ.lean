/- Texts of the proof: MO2, MO2B, S02, E02, E05. -/
import Derived.Test.YtgebepfdphmjcaaGreatPartI

/-! Draws of two frames and a map. -/
namespace Go.Proofs.YtgebepfdphmjcaaGreat
open Go.RowKit Go.Abs

/-! Bits counted. -/
def cntR : Nat → Int → Int
  | 0, _ => 0
  | f + 1, m => if m > 0 then m % 2 + cntR f (m / 2) else 0
def cntI (m : Int) : Int := cntR m.toNat m
theorem cntR_ext : ∀ (f g : Nat) (m : Int), m.toNat ≤ f → m.toNat ≤ g → cntR f m = cntR g m
  | 0, 0, _, _, _ => rfl
  | 0, g + 1, m, h, _ => by rw [cntR, cntR, if_neg (by omega)]
  | f + 1, 0, m, _, h => by rw [cntR, cntR, if_neg (by omega)]
  | f + 1, g + 1, m, h1, h2 => by
    rw [cntR, cntR]
    split
    · rw [cntR_ext f g (m / 2) (by omega) (by omega)]
    · rfl
theorem cntI_pos {m : Int} (h : m > 0) : cntI m = m % 2 + cntI (m / 2) := by
  obtain ⟨f, hf⟩ : ∃ f, m.toNat = f + 1 := ⟨m.toNat - 1, by omega⟩
  rw [cntI, hf, cntR, if_pos h, cntI, cntR_ext f (m / 2).toNat (m / 2) (by omega) (Nat.le_refl _)]
theorem cntI_no {m : Int} (h : ¬ m > 0) : cntI m = 0 := by
  rw [cntI, show m.toNat = 0 by omega]; rfl
theorem cntR_nn : ∀ (f : Nat) (m : Int), 0 ≤ cntR f m ∧ (0 ≤ m → cntR f m ≤ m)
  | 0, m => ⟨Int.le_refl 0, fun h => h⟩
  | f + 1, m => by
    have ih := cntR_nn f (m / 2)
    rw [cntR]
    split
    · have := ih.2 (by omega)
      refine ⟨by omega, fun _ => by omega⟩
    · exact ⟨Int.le_refl 0, fun h => h⟩
theorem cntI_nn (m : Int) : 0 ≤ cntI m ∧ (0 ≤ m → cntI m ≤ m) ∧ (m < 0 → cntI m = 0) := ⟨(cntR_nn _ m).1, (cntR_nn _ m).2, fun h => cntI_no (by omega)⟩

/-! Lists of classes. -/
/-- Lists of n numbers from 0 to 8. -/
def GL (n : Int) (F : List (List Int)) : Prop := ∀ j, j < F.length → ((F.getD j []).length : Int) = n ∧ ∀ i, i < (F.getD j []).length → 0 ≤ (F.getD j []).getD i 0 ∧ (F.getD j []).getD i 0 ≤ 8
/-- Lists of n numbers below m. -/
def GM (n m : Int) (F : List (List Int)) : Prop := ∀ j, j < F.length → ((F.getD j []).length : Int) = n ∧ ∀ i, i < (F.getD j []).length → 0 ≤ (F.getD j []).getD i 0 ∧ (F.getD j []).getD i 0 < m
def iota (t : Nat) : List Int := (List.range t).map fun (i : Nat) => (i : Int)
theorem iota_len (t : Nat) : (iota t).length = t := by simp [iota]
theorem iota_get {t i : Nat} (h : i < t) : (iota t).getD i 0 = (i : Int) := by simp [iota, List.getD_eq_getElem?_getD, h]
theorem iota_s (t : Nat) : iota (t + 1) = iota t ++ [(t : Int)] := by rw [iota, List.range_succ, List.map_append]; rfl
def IOT (cl : List Int) (tp : Int) : Prop := cl = iota cl.length ∧ tp = (cl.length : Int)
def HAS (n : Int) (F : List (List Int)) : Prop := ∃ j, j < F.length ∧ F.getD j [] = iota n.toNat
theorem getL_pre {a b : List (List Int)} {j : Nat} (h : j < a.length) : (a ++ b).getD j [] = a.getD j [] := by
  rw [List.getD_eq_getElem?_getD, List.getD_eq_getElem?_getD, List.getElem?_append_left h]
theorem getL_post {a : List (List Int)} {x : List Int} : (a ++ [x]).getD a.length [] = x := by
  rw [List.getD_eq_getElem?_getD, List.getElem?_append_right (Nat.le_refl _), Nat.sub_self]; rfl
theorem all_snoc {P : List Int → Prop} {F : List (List Int)} {x : List Int} (h : ∀ j, j < F.length → P (F.getD j [])) (hx : P x) : ∀ j, j < (F ++ [x]).length → P ((F ++ [x]).getD j []) := by
  intro j hj
  rw [List.length_append, List.length_singleton] at hj
  rcases Nat.lt_or_ge j F.length with h2 | h2
  · rw [getL_pre h2]; exact h j h2
  · rw [show j = F.length by omega, getL_post]; exact hx
theorem has_snoc {n : Int} {F : List (List Int)} {x : List Int} (h : HAS n F) : HAS n (F ++ [x]) := by
  obtain ⟨j, h1, h2⟩ := h
  exact ⟨j, by rw [List.length_append]; omega, by rw [getL_pre h1]; exact h2⟩
theorem has_new {n : Int} {F : List (List Int)} {cl : List Int} {tp : Int} (hn : (cl.length : Int) = n) (h : IOT cl tp) : HAS n (F ++ [cl]) :=
  ⟨F.length, by simp, by rw [getL_post, show n.toNat = cl.length by omega]; exact h.1⟩
theorem iot_snoc {cl : List Int} {tp : Int} {k : Nat} (h : IOT cl tp) (hk : tp = (k : Int)) : IOT (cl ++ [(k : Int)]) (if (k : Int) + 1 > tp then (k : Int) + 1 else tp) := by
  have hl : cl.length = k := by have := h.2; omega
  refine ⟨?_, ?_⟩
  · rw [List.length_append, List.length_singleton, iota_s, ← h.1, hl]
  · rw [List.length_append, List.length_singleton, if_pos (by omega)]; omega
def PRTF (n : Int) (cl : List Int) (tp : Int) (Fd F1 : List (List Int)) : Prop := (GL n Fd → GL n F1) ∧ (HAS n Fd → HAS n F1) ∧ (IOT cl tp → HAS n F1)
def PRTL (n : Int) (cl : List Int) (tp : Int) (Fd F2 : List (List Int)) (k : Nat) : Prop := (GL n Fd → GL n F2) ∧ (HAS n Fd → HAS n F2) ∧ (IOT cl tp → tp < (k : Int) → HAS n F2)
theorem prtF_base {n : Int} {cl : List Int} {tp : Int} {Fd : List (List Int)} (hn : (cl.length : Int) = n) (hc : ∀ i, i < cl.length → 0 ≤ cl.getD i 0 ∧ cl.getD i 0 ≤ 8) : PRTF n cl tp Fd (Fd ++ [cl]) :=
  ⟨fun h => all_snoc (P := fun x => (x.length : Int) = n ∧ ∀ i, i < x.length → 0 ≤ x.getD i 0 ∧ x.getD i 0 ≤ 8) h ⟨hn, hc⟩, has_snoc, fun h => has_new hn h⟩
theorem prtF_zero {n : Int} {cl : List Int} {tp : Int} {Fd : List (List Int)} (h0 : 0 ≤ tp) : PRTL n cl tp Fd Fd 0 := ⟨id, id, fun _ h => absurd h (by omega)⟩
theorem prtF_step {n : Int} {cl : List Int} {tp : Int} {Fd F2 F3 : List (List Int)} {k : Nat} (h : PRTL n cl tp Fd F2 k) (h2 : PRTF n (cl ++ [(k : Int)]) (if (k : Int) + 1 > tp then (k : Int) + 1 else tp) F2 F3) : PRTL n cl tp Fd F3 (k + 1) :=
  ⟨fun g => h2.1 (h.1 g), fun g => h2.2.1 (h.2.1 g), fun g e => by
    by_cases hk : tp < (k : Int)
    · exact h2.2.1 (h.2.2 g hk)
    · exact h2.2.2 (iot_snoc g (by omega))⟩
theorem prtF_end {n : Int} {cl : List Int} {tp : Int} {Fd F2 : List (List Int)} {k : Nat} (h : PRTL n cl tp Fd F2 k) (hk : tp < (k : Int)) : PRTF n cl tp Fd F2 := ⟨h.1, h.2.1, fun g => h.2.2 g hk⟩
theorem snoc_rng {cl : List Int} {v hi : Int} (h : ∀ i, i < cl.length → 0 ≤ cl.getD i 0 ∧ cl.getD i 0 ≤ hi) (h0 : 0 ≤ v) (h1 : v ≤ hi) : ∀ i, i < (cl ++ [v]).length → 0 ≤ (cl ++ [v]).getD i 0 ∧ (cl ++ [v]).getD i 0 ≤ hi := by
  intro i hi2
  rw [List.length_append, List.length_singleton] at hi2
  rcases Nat.lt_or_ge i cl.length with h2 | h2
  · rw [pre_get h2]; exact h i h2
  · rw [post_get h2, show i - cl.length = 0 by omega]; exact ⟨h0, h1⟩
theorem pow9 (r : Nat) : 9 ^ (r + 1) = 9 * 9 ^ r := by rw [Nat.pow_succ, Nat.mul_comm]
theorem pow9_le {r : Nat} (h : r ≤ 8) : 9 ^ r ≤ 43046721 := Nat.le_trans (Nat.pow_le_pow_right (by decide) h) (by decide)
theorem l01Bits_c (m0 : Int) (hb : -9223372036854775808 ≤ m0 ∧ m0 ≤ 9223372036854775807) : CallA Tryz.prog 200 [AI m0] (AI (cntI m0)) := by
  refine CallA.of Tryz.func200 rfl (by kernel_rfl) ?_
  refine R.go 10 (R.loop ((fun | (m, n) => (⟨(frm 13 [(0, AI m), (3, AI n)]), []⟩ : St) : Int × Int → St)) (fun | (m, n) => (0 ≤ n) ∧ (n + cntI m = cntI m0) ∧ (m ≤ 9223372036854775807) ∧ (n + m ≤ 9223372036854775807 ∨ m ≤ 0)) (fun | (m, n) => m.toNat) (m0, 0) [0, 3] none (by kernel_rfl) (by kernel_rfl) (by kernel_rfl) ⟨(by omega), (by omega), (by omega), (by omega)⟩ ?_)
  rintro ⟨m, n⟩ ⟨h4_1, h4_2, h4_3, h4_4⟩ R1 N2
  have hcp := fun h : m > 0 => cntI_pos h
  have hcn := fun h : ¬ m > 0 => cntI_no h
  refine R.go 6 (R.cond (m > 0) (by kernel_rfl) (fun c5 => ?_) (fun c5 => ?_))
  · refine R.go 6 (R.rem m 2 (by kernel_rfl) (by omega) (by omega) (by kernel_rfl) ?_)
    refine R.ar (n + (m % 2)) (by kernel_rfl) (by omega) (by omega) (by kernel_rfl) ?_
    refine R.go 5 (R.quo m 2 (by kernel_rfl) (by omega) (by omega) (by omega) (by kernel_rfl) ?_)
    exact R.go 2 (R.stop R1 (by kernel_rfl) (N2 (m / 2, n + (m % 2)) [0, 3] none _ (by kernel_rfl) (by kernel_rfl) ⟨(by omega), (by (have hq := hcp (by assumption); omega)), (by omega), (by omega)⟩ (by show ((m / 2).toNat) < m.toNat; omega)))
  · exact R.go 6 (R.retE (AI n) (by kernel_rfl) (by kernel_rfl) (by first | ((have hq := hcn (by assumption); rw [show cntI m0 = n by omega])) | (exfalso; omega)))

theorem partsX_c : ∀ (r : Nat) (n : Int) (cl : List Int) (tp : Int) (Fd : List (List Int)) (Bd : Nat) (hr : n = (cl.length : Int) + (r : Int)) (hB : Bd = 9 ^ r) (hn : n ≤ 8) (ht : 0 ≤ tp ∧ tp ≤ (cl.length : Int)) (hcl : ∀ i, i < cl.length → 0 ≤ cl.getD i 0 ∧ cl.getD i 0 ≤ 8) (hF : Fd.length + Bd ≤ 100000000), CallY Tryz.prog 0 188 [AI n, LI cl, AI tp, .ref 0] [rowA eLI 24 1 Fd] (fun (resX : AV) (objX : List AObj) => ∃ F1 : List (List Int), (F1.length ≤ Fd.length + Bd) ∧ (PRTF n cl tp Fd F1) ∧ resX = .ref 0 ∧ objX = [rowA eLI 24 1 F1]) := by
  intro r
  induction r using Nat.strongRecOn with
  | _ r ih =>
  intro n cl tp Fd Bd hr hB hn ht hcl hF
  obtain ⟨B1, hB1⟩ : ∃ B1, B1 = 9 ^ (r - 1) := ⟨_, rfl⟩
  have hB9 : 1 ≤ r → Bd = 9 * B1 := fun h => by rw [hB, hB1, ← pow9, show r - 1 + 1 = r by omega]
  have hBr : Bd ≤ 43046721 := by rw [hB]; exact pow9_le (by omega)
  have hB0 : 1 ≤ Bd := by rw [hB]; exact Nat.one_le_pow _ _ (by decide)
  refine CallY.dropE (CallY.ofF Tryz.func188 rfl (by kernel_rfl) ?_)
  intro usC frC hfC hkC
  refine R.go 12 (R.cond ((cl.length : Int) = n) (by kernel_rfl) (fun c1 => ?_) (fun c1 => ?_))
  · refine R.go 5 (R.app eLI Fd [cl] 0 24 1 24 (by kernel_rfl) eLI_one (by decide) (by first | omega | (simp <;> omega)) (by kernel_rfl) ?_)
    refine R.kfix 1 (us := usC) (by kernel_rfl) hkC ?_
    exact R.go 2 (R.retX (res := .ref 0) (hp' := [rowA eLI 24 1 (Fd ++ [cl]), .dead, rowA eLI 24 1 [cl]]) (by kernel_rfl) (by kernel_rfl) (by kernel_rfl) (by kernel_rfl) ⟨[0], by kernel_rfl, by decide, Fd ++ [cl], by first | assumption | omega | (simp only [List.length_append, List.length_singleton]; omega) | exact prtF_base (by omega) hcl | exact prtF_end (by assumption) (by omega), by first | assumption | omega | (simp only [List.length_append, List.length_singleton]; omega) | exact prtF_base (by omega) hcl | exact prtF_end (by assumption) (by omega), by kernel_rfl, by kernel_rfl⟩)
  · refine R.go 7 (R.loop ((fun | (k, F2) => (⟨(frm 36 [(0, AI n), (1, LI cl), (2, AI tp), (3, .ref 0), (9, AI (k : Int))]), [rowA eLI 24 1 F2, .frame usC frC]⟩ : St) : Nat × (List (List Int)) → St)) (fun | (k, F2) => ((k : Int) ≤ tp + 1) ∧ (F2.length ≤ Fd.length + k * B1) ∧ (PRTL n cl tp Fd F2 k)) (fun | (k, F2) => (tp + 1 - k).toNat) (0, Fd) [0, 1, 2, 3, 9] none (by kernel_rfl) (by kernel_rfl) (by kernel_rfl) ⟨(by omega), (by omega), (by exact prtF_zero ht.1)⟩ ?_)
    rintro ⟨k, F2⟩ ⟨h5_1, h5_2, h5_3⟩ R2 N3
    have hk9 := Nat.mul_le_mul_right B1 (show k + 1 ≤ 9 by omega)
    have hk8 : (k + 1) * B1 = k * B1 + B1 := Nat.succ_mul k B1
    have hsl : (cl ++ [(k : Int)]).length = cl.length + 1 := by simp
    have hB10 := hB9 (by omega)
    have hmx : (if (k : Int) + 1 > tp then (k : Int) + 1 else tp) ≤ (cl.length : Int) + 1 ∨ tp < k := by split <;> omega
    refine R.go 7 (R.cond ((k : Int) ≤ tp) (by kernel_rfl) (fun c6 => ?_) (fun c6 => ?_))
    · refine R.go 6 (R.call true (l01Own_c cl (by first | omega | (simp <;> omega))) (by kernel_rfl) rfl (by kernel_rfl) ?_)
      refine R.go 2 (R.app eI cl [(k : Int)] 2 2 1 8 (by kernel_rfl) eI_one (by decide) (by first | omega | (simp <;> omega)) (by kernel_rfl) ?_)
      refine R.kfix 1 (us := usC) (by kernel_rfl) (hfC.kill 2 (Nat.le_of_ble_eq_true (by kernel_rfl))) ?_
      refine R.go 2 (R.ar ((k : Int) + 1) (by kernel_rfl) (by omega) (by omega) (by kernel_rfl) ?_)
      refine R.go 2 (R.frz 3 (by kernel_rfl) ?_)
      refine R.kfix 1 (us := usC) (by kernel_rfl) (hfC.frz 3 (LI [(k : Int)]) (Nat.le_of_ble_eq_true (by kernel_rfl))) ?_
      refine R.frz 2 (by kernel_rfl) ?_
      refine R.kfix 1 (us := usC) (by kernel_rfl) (hfC.frz 2 (LI (cl ++ [(k : Int)])) (Nat.le_of_ble_eq_true (by kernel_rfl))) ?_
      refine R.deadF 2 (by kernel_rfl) (by kernel_rfl) ?_
      refine R.deadF 3 (by kernel_rfl) (by kernel_rfl) ?_
      refine R.callZ (CallY.inF 1 usC frC (CallY.inF 1 [] [] (CallY.inF 1 [] [] (ih (((n) - (((cl ++ [(k : Int)])).length : Int)).toNat) (by omega) n (cl ++ [(k : Int)]) (if ((k : Int) + 1) > tp then ((k : Int) + 1) else tp) F2 B1 (by first | omega | (simp; omega)) (by first | assumption | (rw [hB1]; congr 1; simp; omega)) hn (by first | omega | (simp only [List.length_append, List.length_singleton]; split <;> omega)) (by first | assumption | exact snoc_rng hcl (by omega) (by omega) | (intro i hi; simp at hi)) (by first | omega | (simp; omega))) (Nat.le_of_ble_eq_true (by kernel_rfl)) (by kernel_rfl) (by kernel_rfl) (by rintro _ _ ⟨_, _, _, rfl, rfl⟩; exact Nat.le_of_ble_eq_true (by kernel_rfl)) 0 rfl (by kernel_rfl)) (Nat.le_of_ble_eq_true (by kernel_rfl)) (by kernel_rfl) (by kernel_rfl) (by rintro _ _ ⟨_, _, ⟨_, _, _, rfl, rfl⟩, rfl, rfl⟩; exact Nat.le_of_ble_eq_true (by kernel_rfl)) 0 rfl (by kernel_rfl)) (Nat.le_of_ble_eq_true (by kernel_rfl)) (by kernel_rfl) (by kernel_rfl) (by rintro _ _ ⟨_, _, ⟨_, _, ⟨_, _, _, rfl, rfl⟩, rfl, rfl⟩, rfl, rfl⟩; exact Nat.le_of_ble_eq_true (by kernel_rfl)) 0 rfl hkC) (by kernel_rfl) (by kernel_rfl) (by kernel_rfl) ?_
      rintro _ _ ⟨_, _, ⟨_, _, ⟨_, _, ⟨F1_7, f8, f9, rfl, rfl⟩, rfl, rfl⟩, rfl, rfl⟩, rfl, rfl⟩
      refine R.go 5 (R.ar ((k : Int) + 1) (by kernel_rfl) (by omega) (by omega) (by kernel_rfl) ?_)
      exact R.go 2 (R.stop R2 (by kernel_rfl) (N3 (k + 1, F1_7) [0, 1, 2, 3, 9] (some [0, 1]) _ (by kernel_rfl) (canonF (fr := frC) (fun (frX : List AV) => (⟨(frm 36 [(0, AI n), (1, LI cl), (2, AI tp), (3, .ref 0), (9, AI ((k : Int) + 1))]), [rowA eLI 24 1 F1_7, .frame usC frX]⟩ : St)) (hfC.ren _ (by kernel_rfl)) (by kernel_rfl) (by kernel_rfl)) ⟨(by omega), (by (have hq : (k + 1) * B1 = k * B1 + B1 := Nat.succ_mul k B1; omega)), (by exact prtF_step (by assumption) (by assumption))⟩ (by show ((tp + 1 - (k + 1)).toNat) < ((tp + 1 - k).toNat); omega)))
    · exact R.go 6 (R.retX (res := .ref 0) (hp' := [rowA eLI 24 1 F2, .dead]) (by kernel_rfl) (by kernel_rfl) (by kernel_rfl) (by kernel_rfl) ⟨[0], by kernel_rfl, by decide, F2, by first | assumption | omega | (simp only [List.length_append, List.length_singleton]; omega) | exact prtF_base (by omega) hcl | exact prtF_end (by assumption) (by omega), by first | assumption | omega | (simp only [List.length_append, List.length_singleton]; omega) | exact prtF_base (by omega) hcl | exact prtF_end (by assumption) (by omega), by kernel_rfl, by kernel_rfl⟩)

theorem i64_rng (x : Int) : -9223372036854775808 ≤ IntKind.i64.wrap x ∧ IntKind.i64.wrap x ≤ 9223372036854775807 := by
  rw [IntKind.wrap_i64]
  have h1 := Int.le_bmod (x := x) (m := 18446744073709551616) (by decide)
  have h2 := Int.bmod_lt (x := x) (m := 18446744073709551616) (by decide)
  omega
theorem bnot_rng (a b : Int) : -9223372036854775808 ≤ bnot a b ∧ bnot a b ≤ 9223372036854775807 := i64_rng _
theorem bor_rng (a b : Int) : -9223372036854775808 ≤ bor a b ∧ bor a b ≤ 9223372036854775807 := i64_rng _
theorem imgL_rng (ims : List Int) (m : Int) : ∀ i, -9223372036854775808 ≤ imgL ims m i ∧ imgL ims m i ≤ 9223372036854775807
  | 0 => by rw [imgL]; decide
  | i + 1 => by
    rw [imgL]
    split
    · exact bor_rng _ _
    · exact imgL_rng ims m i
theorem iota_at {cl : List Int} {n : Int} {x : Nat} (h : cl = iota n.toNat) (hx : x < cl.length) : cl.getD x 0 = (x : Int) := by
  have hl : x < n.toNat := by rw [h, iota_len] at hx; exact hx
  rw [h, iota_get hl]
theorem iota_ln {cl : List Int} {n : Int} (h : cl = iota n.toNat) : cl.length = n.toNat := by rw [h, iota_len]
theorem mx_step {cl : List Int} {x : Nat} {ct : Int} (h : ∀ j, j < x → cl.getD j 0 < ct) : ∀ j, j < x + 1 → cl.getD j 0 < (if cl.getD x 0 + 1 > ct then cl.getD x 0 + 1 else ct) := by
  intro j hj
  rcases Nat.lt_or_ge j x with h2 | h2
  · have := h j h2; split <;> omega
  · rw [show j = x by omega]; split <;> omega
theorem gm_snoc {n m : Int} {F : List (List Int)} {im : List Int} (h : GM n m F) (hn : n = (im.length : Int)) (hi : ∀ i, i < im.length → 0 ≤ im.getD i 0 ∧ im.getD i 0 < m) : GM n m (F ++ [im]) :=
  all_snoc (P := fun x => (x.length : Int) = n ∧ ∀ i, i < x.length → 0 ≤ x.getD i 0 ∧ x.getD i 0 < m) h ⟨hn.symm, hi⟩
theorem gl_snoc {n : Int} {F : List (List Int)} {cl : List Int} (h : GL n F) (hn : (cl.length : Int) = n) (hi : ∀ i, i < cl.length → 0 ≤ cl.getD i 0 ∧ cl.getD i 0 ≤ 8) : GL n (F ++ [cl]) :=
  all_snoc (P := fun x => (x.length : Int) = n ∧ ∀ i, i < x.length → 0 ≤ x.getD i 0 ∧ x.getD i 0 ≤ 8) h ⟨hn, hi⟩
theorem snoc_lt {cl : List Int} {v hi : Int} (h : ∀ i, i < cl.length → 0 ≤ cl.getD i 0 ∧ cl.getD i 0 < hi) (h0 : 0 ≤ v) (h1 : v < hi) : ∀ i, i < (cl ++ [v]).length → 0 ≤ (cl ++ [v]).getD i 0 ∧ (cl ++ [v]).getD i 0 < hi := fun i hi2 => by
  have := snoc_rng (hi := hi - 1) (fun i hi => by have := h i hi; omega) h0 (show v ≤ hi - 1 by omega) i hi2
  omega
theorem has_at {n : Int} {F : List (List Int)} (h : HAS n F) {L : List (List Int)} {i : Nat} (hi : F.length ≤ i) (hq : (∃ j, j < i ∧ F.getD j [] = iota n.toNat) → 1 ≤ L.length) : 1 ≤ L.length := by
  obtain ⟨j, h1, h2⟩ := h
  exact hq ⟨j, by omega, h2⟩
theorem ex_step {n : Int} {F : List (List Int)} {i l : Nat} {r : Bool} (h : (∃ j, j < i ∧ F.getD j [] = iota n.toNat) → 1 ≤ l) (hr : F.getD i [] = iota n.toNat → r = true) (h0 : r = false) : (∃ j, j < i + 1 ∧ F.getD j [] = iota n.toNat) → 1 ≤ l := by
  rintro ⟨j, h1, h2⟩
  rcases Nat.lt_or_ge j i with h3 | h3
  · exact h ⟨j, h3, h2⟩
  · rw [show j = i by omega] at h2
    exact absurd ((hr h2).symm.trans h0) (by decide)

theorem ordX_c (n : Int) (xs : List Int) (cl : List Int) (h0 : 0 ≤ n) (lc : cl.length ≤ 1000) (hcl : ∀ i, i < cl.length → 0 ≤ cl.getD i 0 ∧ cl.getD i 0 ≤ 8) : CallX Tryz.prog 199 [.agg [AI n, LI xs], LI cl] [] (fun (resX : AV) (objX : List AObj) => ∃ rb : Bool, (cl = iota n.toNat → rb = true) ∧ resX = .bool rb ∧ objX = []) := by
  have hio := fun (h : cl = iota n.toNat) (x : Nat) (hx : x < cl.length) => iota_at h hx
  refine CallX.dropE (CallX.ofF Tryz.func199 rfl (by kernel_rfl) ?_)
  intro usC frC hfC
  refine R.go 14 (R.condN ((cl.length : Int) = n) (by kernel_rfl) (fun c1 => ?_) (fun c1 => ?_))
  · exact R.go 4 (R.retX (res := .bool false) (hp' := [.dead, .box 26 [AI n, LI xs]]) (by kernel_rfl) (by kernel_rfl) (by kernel_rfl) (by kernel_rfl) ⟨[], by kernel_rfl, by decide, false, by first | exact fun _ => rfl | exact fun h => (by exfalso; have h1 := iota_ln h; omega) | exact fun h => (by exfalso; have h1 := htq h; have h2 := hio h x (by omega); have h3 := (inR_not _ _ _).1 (by assumption); omega), by kernel_rfl, by kernel_rfl⟩)
  · refine R.go 11 (R.loop ((fun | (x, top) => (⟨(frm 33 [(1, LI cl), (5, AI top), (6, AI (x : Int))]), [.frame usC frC]⟩ : St) : Nat × Int → St)) (fun | (x, top) => (x ≤ cl.length) ∧ (0 ≤ top ∧ top ≤ x) ∧ (cl = iota n.toNat → top = (x : Int))) (fun | (x, top) => cl.length - x) (0, 0) [1, 5, 6] (some [0]) (by kernel_rfl) (by kernel_rfl) (canonF (fr := frC) (fun (frX : List AV) => (⟨(frm 33 [(1, LI cl), (5, AI 0), (6, AI 0)]), [.frame usC frX]⟩ : St)) (hfC.ren _ (by kernel_rfl)) (by kernel_rfl) (by kernel_rfl)) ⟨(by omega), (by omega), (by exact fun _ => rfl)⟩ ?_)
    rintro ⟨x, top⟩ ⟨h5_1, h5_2, h5_3⟩ R2 N3
    have hiq := by assumption
    have htq : cl = iota n.toNat → top = (x : Int) := by assumption
    refine R.go 8 (R.cond ((x : Int) < (cl.length : Int)) (by kernel_rfl) (fun c6 => ?_) (fun c6 => ?_))
    · refine R.go 8 (R.idx eI cl 0 x (x : Int) (by kernel_rfl) rfl eI_len (by omega) (by kernel_rfl) ?_)
      refine R.go 2 (R.call true (l01In_c (cl.getD x 0) 0 top) (by kernel_rfl) rfl (by kernel_rfl) ?_)
      refine R.go 2 (R.condM (inR (cl.getD x 0) 0 top) (by kernel_rfl) (fun c7 => ?_) (fun c7 => ?_))
      · exact R.go 4 (R.retX (res := .bool false) (hp' := [.dead]) (by kernel_rfl) (by kernel_rfl) (by kernel_rfl) (by kernel_rfl) ⟨[], by kernel_rfl, by decide, false, by first | exact fun _ => rfl | exact fun h => (by exfalso; have h1 := iota_ln h; omega) | exact fun h => (by exfalso; have h1 := htq h; have h2 := hio h x (by omega); have h3 := (inR_not _ _ _).1 (by assumption); omega), by kernel_rfl, by kernel_rfl⟩)
      · refine R.go 5 (R.idx eI cl 0 x (x : Int) (by kernel_rfl) rfl eI_len (by omega) (by kernel_rfl) ?_)
        refine R.go 4 (R.cond ((cl.getD x 0) = top) (by kernel_rfl) (fun c8 => ?_) (fun c8 => ?_))
        · refine R.go 2 (R.ar (top + 1) (by kernel_rfl) (by omega) (by omega) (by kernel_rfl) ?_)
          refine R.go 5 (R.ar ((x : Int) + 1) (by kernel_rfl) (by omega) (by omega) (by kernel_rfl) ?_)
          exact R.go 2 (R.stop R2 (by kernel_rfl) (N3 (x + 1, top + 1) [1, 5, 6] none _ (by kernel_rfl) (by kernel_rfl) ⟨(by omega), (by omega), (by exact fun h => (by have h1 := htq h; have h2 := hio h x (by omega); omega))⟩ (by show (cl.length - (x + 1)) < (cl.length - x); omega)))
        · refine R.go 4 (R.ar ((x : Int) + 1) (by kernel_rfl) (by omega) (by omega) (by kernel_rfl) ?_)
          exact R.go 2 (R.stop R2 (by kernel_rfl) (N3 (x + 1, top) [1, 5, 6] none _ (by kernel_rfl) (by kernel_rfl) ⟨(by omega), (by omega), (by exact fun h => (by have h1 := htq h; have h2 := hio h x (by omega); omega))⟩ (by show (cl.length - (x + 1)) < (cl.length - x); omega)))
    · exact R.go 5 (R.retX (res := .bool true) (hp' := [.dead]) (by kernel_rfl) (by kernel_rfl) (by kernel_rfl) (by kernel_rfl) ⟨[], by kernel_rfl, by decide, true, by first | exact fun _ => rfl | exact fun h => (by exfalso; have h1 := iota_ln h; omega) | exact fun h => (by exfalso; have h1 := htq h; have h2 := hio h x (by omega); have h3 := (inR_not _ _ _).1 (by assumption); omega), by kernel_rfl, by kernel_rfl⟩)

theorem cgX_c (n : Int) (xs : List Int) (cl : List Int) (hF : okFr n xs = true) (lc : (cl.length : Int) = n) (hcl : ∀ i, i < cl.length → 0 ≤ cl.getD i 0 ∧ cl.getD i 0 ≤ 8) : CallX Tryz.prog 189 [.agg [AI n, LI xs], LI cl] [] (fun (resX : AV) (objX : List AObj) => ∃ rb : Bool, (cl = iota n.toNat → rb = true) ∧ resX = .bool rb ∧ objX = []) := by
  have hr := okFr_rel hF
  have hb : 0 ≤ n ∧ n ≤ 8 ∧ (xs.length : Int) = n := ⟨hr.1, hr.2.1, hr.2.2.1⟩
  have hcl60 : ∀ i, i < cl.length → 0 ≤ cl.getD i 0 ∧ cl.getD i 0 ≤ 60 := fun i hi => by have := hcl i hi; omega
  have hio := fun (h : cl = iota n.toNat) (x : Nat) (hx : x < cl.length) => iota_at h hx
  refine CallX.dropE (CallX.ofF Tryz.func189 rfl (by kernel_rfl) ?_)
  intro usC frC hfC
  refine R.go 10 (R.callX0 (ordX_c n xs cl (by omega) (by omega) hcl) (by kernel_rfl) (by rintro _ _ ⟨_, _, rfl, rfl⟩; rfl) (by kernel_rfl) (by kernel_rfl) ?_)
  rintro _ ⟨rb_1, f2, rfl, _⟩
  refine R.go 2 (R.condM (rb_1) (by kernel_rfl) (fun c3 => ?_) (fun c3 => ?_))
  · exact R.go 4 (R.retX (res := .bool false) (hp' := [.dead, .box 26 [AI n, LI xs]]) (by kernel_rfl) (by kernel_rfl) (by kernel_rfl) (by kernel_rfl) ⟨[], by kernel_rfl, by decide, false, by first | exact fun _ => rfl | exact fun h => (by have h1 := (by assumption : cl = iota n.toNat → _ = true) h; exact absurd (h1.symm.trans (by assumption : _ = false)) (by decide)) | exact fun h => (by exfalso; have h1 := hio h x (by omega); have h2 := hio h y (by omega); omega), by kernel_rfl, by kernel_rfl⟩)
  · refine R.go 7 (R.loop (fun (x : Nat) => (⟨(frm 48 [(1, LI cl), (2, .ptr 1 0), (5, AI (x : Int))]), [.frame usC frC, .box 26 [AI n, LI xs]]⟩ : St)) (fun (x : Nat) => x ≤ cl.length) (fun (x : Nat) => cl.length - x) 0 [1, 2, 5] none (by kernel_rfl) (by kernel_rfl) (by kernel_rfl) (by omega) ?_)
    rintro x h6_1 R4 N5
    refine R.go 8 (R.cond ((x : Int) < (cl.length : Int)) (by kernel_rfl) (fun c7 => ?_) (fun c7 => ?_))
    · refine R.go 8 (R.loop (fun (y : Nat) => (⟨(frm 48 [(1, LI cl), (2, .ptr 1 0), (5, AI (x : Int)), (6, AI (y : Int))]), [.frame usC frC, .box 26 [AI n, LI xs]]⟩ : St)) (fun (y : Nat) => y ≤ x) (fun (y : Nat) => x - y) 0 [1, 2, 5, 6] none (by kernel_rfl) (by kernel_rfl) (by kernel_rfl) (by omega) ?_)
      rintro y h10_1 R8 N9
      refine R.go 7 (R.cond ((y : Int) < (x : Int)) (by kernel_rfl) (fun c11 => ?_) (fun c11 => ?_))
      · refine R.go 7 (R.idx eI cl 0 x (x : Int) (by kernel_rfl) rfl eI_len (by omega) (by kernel_rfl) ?_)
        refine R.go 3 (R.idx eI cl 0 y (y : Int) (by kernel_rfl) rfl eI_len (by omega) (by kernel_rfl) ?_)
        refine R.go 3 ?_
        by_cases c12 : (cl.getD x 0) = (cl.getD y 0)
        · refine R.want (decide ((cl.getD x 0) = (cl.getD y 0))) true (by kernel_rfl) (dT c12) ?_
          refine R.go 1 (R.want (decide ((cl.getD x 0) = (cl.getD y 0))) true (by kernel_rfl) (dT c12) ?_)
          refine R.go 1 (R.want (decide ((cl.getD x 0) = (cl.getD y 0))) true (by kernel_rfl) (dT c12) ?_)
          refine R.go 1 (R.want (decide ((cl.getD x 0) = (cl.getD y 0))) true (by kernel_rfl) (dT c12) ?_)
          refine R.go 1 (R.want (decide ((cl.getD x 0) = (cl.getD y 0))) true (by kernel_rfl) (dT c12) ?_)
          refine R.idx eI xs 0 x (x : Int) (by kernel_rfl) rfl eI_len (by omega) (by kernel_rfl) ?_
          refine R.want (decide ((cl.getD x 0) = (cl.getD y 0))) true (by kernel_rfl) (dT c12) ?_
          refine R.go 1 (R.want (decide ((cl.getD x 0) = (cl.getD y 0))) true (by kernel_rfl) (dT c12) ?_)
          refine R.call true (l08Image_c cl (xs.getD x 0) (by first | omega | (simp <;> omega)) (by assumption)) (by kernel_rfl) rfl (by kernel_rfl) ?_
          refine R.want (decide ((cl.getD x 0) = (cl.getD y 0))) true (by kernel_rfl) (dT c12) ?_
          refine R.go 1 (R.want (decide ((cl.getD x 0) = (cl.getD y 0))) true (by kernel_rfl) (dT c12) ?_)
          refine R.go 1 (R.want (decide ((cl.getD x 0) = (cl.getD y 0))) true (by kernel_rfl) (dT c12) ?_)
          refine R.go 1 (R.want (decide ((cl.getD x 0) = (cl.getD y 0))) true (by kernel_rfl) (dT c12) ?_)
          refine R.go 1 (R.want (decide ((cl.getD x 0) = (cl.getD y 0))) true (by kernel_rfl) (dT c12) ?_)
          refine R.idx eI xs 0 y (y : Int) (by kernel_rfl) rfl eI_len (by omega) (by kernel_rfl) ?_
          refine R.want (decide ((cl.getD x 0) = (cl.getD y 0))) true (by kernel_rfl) (dT c12) ?_
          refine R.go 1 (R.want (decide ((cl.getD x 0) = (cl.getD y 0))) true (by kernel_rfl) (dT c12) ?_)
          refine R.call true (l08Image_c cl (xs.getD y 0) (by first | omega | (simp <;> omega)) (by assumption)) (by kernel_rfl) rfl (by kernel_rfl) ?_
          refine R.want (decide ((cl.getD x 0) = (cl.getD y 0))) true (by kernel_rfl) (dT c12) ?_
          refine R.go 1 (R.pick (decide ((cl.getD x 0) = (cl.getD y 0))) true (by kernel_rfl) (dT c12) (by kernel_rfl) ?_)
          refine R.go 1 (R.condN ((imgL cl (xs.getD x 0) cl.length) = (imgL cl (xs.getD y 0) cl.length)) (by kernel_rfl) (fun c13 => ?_) (fun c13 => ?_))
          · exact R.go 4 (R.retX (res := .bool false) (hp' := [.dead, .box 26 [AI n, LI xs]]) (by kernel_rfl) (by kernel_rfl) (by kernel_rfl) (by kernel_rfl) ⟨[], by kernel_rfl, by decide, false, by first | exact fun _ => rfl | exact fun h => (by have h1 := (by assumption : cl = iota n.toNat → _ = true) h; exact absurd (h1.symm.trans (by assumption : _ = false)) (by decide)) | exact fun h => (by exfalso; have h1 := hio h x (by omega); have h2 := hio h y (by omega); omega), by kernel_rfl, by kernel_rfl⟩)
          · refine R.go 4 (R.ar ((y : Int) + 1) (by kernel_rfl) (by omega) (by omega) (by kernel_rfl) ?_)
            exact R.go 2 (R.stop R8 (by kernel_rfl) (N9 (y + 1) [1, 2, 5, 6] none _ (by kernel_rfl) (by kernel_rfl) (by omega) (by show (x - (y + 1)) < (x - y); omega)))
        · refine R.skp (decide ((cl.getD x 0) = (cl.getD y 0))) true (by kernel_rfl) (dF c12) (by kernel_rfl) ?_
          refine R.skp (decide ((cl.getD x 0) = (cl.getD y 0))) true (by kernel_rfl) (dF c12) (by kernel_rfl) ?_
          refine R.skp (decide ((cl.getD x 0) = (cl.getD y 0))) true (by kernel_rfl) (dF c12) (by kernel_rfl) ?_
          refine R.skp (decide ((cl.getD x 0) = (cl.getD y 0))) true (by kernel_rfl) (dF c12) (by kernel_rfl) ?_
          refine R.skp (decide ((cl.getD x 0) = (cl.getD y 0))) true (by kernel_rfl) (dF c12) (by kernel_rfl) ?_
          refine R.skp (decide ((cl.getD x 0) = (cl.getD y 0))) true (by kernel_rfl) (dF c12) (by kernel_rfl) ?_
          refine R.skp (decide ((cl.getD x 0) = (cl.getD y 0))) true (by kernel_rfl) (dF c12) (by kernel_rfl) ?_
          refine R.skp (decide ((cl.getD x 0) = (cl.getD y 0))) true (by kernel_rfl) (dF c12) (by kernel_rfl) ?_
          refine R.skp (decide ((cl.getD x 0) = (cl.getD y 0))) true (by kernel_rfl) (dF c12) (by kernel_rfl) ?_
          refine R.skp (decide ((cl.getD x 0) = (cl.getD y 0))) true (by kernel_rfl) (dF c12) (by kernel_rfl) ?_
          refine R.skp (decide ((cl.getD x 0) = (cl.getD y 0))) true (by kernel_rfl) (dF c12) (by kernel_rfl) ?_
          refine R.skp (decide ((cl.getD x 0) = (cl.getD y 0))) true (by kernel_rfl) (dF c12) (by kernel_rfl) ?_
          refine R.skp (decide ((cl.getD x 0) = (cl.getD y 0))) true (by kernel_rfl) (dF c12) (by kernel_rfl) ?_
          refine R.skp (decide ((cl.getD x 0) = (cl.getD y 0))) true (by kernel_rfl) (dF c12) (by kernel_rfl) ?_
          refine R.skp (decide ((cl.getD x 0) = (cl.getD y 0))) true (by kernel_rfl) (dF c12) (by kernel_rfl) ?_
          refine R.pick (decide ((cl.getD x 0) = (cl.getD y 0))) false (by kernel_rfl) (dF c12) (by kernel_rfl) ?_
          refine R.go 6 (R.ar ((y : Int) + 1) (by kernel_rfl) (by omega) (by omega) (by kernel_rfl) ?_)
          exact R.go 2 (R.stop R8 (by kernel_rfl) (N9 (y + 1) [1, 2, 5, 6] none _ (by kernel_rfl) (by kernel_rfl) (by omega) (by show (x - (y + 1)) < (x - y); omega)))
      · refine R.go 4 (R.ar ((x : Int) + 1) (by kernel_rfl) (by omega) (by omega) (by kernel_rfl) ?_)
        exact R.go 2 (R.stop R4 (by kernel_rfl) (N5 (x + 1) [1, 2, 5] none _ (by kernel_rfl) (by kernel_rfl) (by omega) (by show (cl.length - (x + 1)) < (cl.length - x); omega)))
    · exact R.go 5 (R.retX (res := .bool true) (hp' := [.dead, .box 26 [AI n, LI xs]]) (by kernel_rfl) (by kernel_rfl) (by kernel_rfl) (by kernel_rfl) ⟨[], by kernel_rfl, by decide, true, by first | exact fun _ => rfl | exact fun h => (by have h1 := (by assumption : cl = iota n.toNat → _ = true) h; exact absurd (h1.symm.trans (by assumption : _ = false)) (by decide)) | exact fun h => (by exfalso; have h1 := hio h x (by omega); have h2 := hio h y (by omega); omega), by kernel_rfl, by kernel_rfl⟩)

theorem quoX_c (n : Int) (xs : List Int) (cl : List Int) (hF : okFr n xs = true) (lc : (cl.length : Int) = n) (hcl : ∀ i, i < cl.length → 0 ≤ cl.getD i 0 ∧ cl.getD i 0 ≤ 8) : CallX Tryz.prog 158 [.agg [AI n, LI xs], LI cl] [] (fun (resX : AV) (objX : List AObj) => ∃ m : Int, ∃ ys : List Int, ((ys.length : Int) = m ∧ 0 ≤ m ∧ m ≤ 9) ∧ resX = .agg [AI m, LI ys] ∧ objX = []) := by
  have hr := okFr_rel hF
  have hb : 0 ≤ n ∧ n ≤ 8 ∧ (xs.length : Int) = n := ⟨hr.1, hr.2.1, hr.2.2.1⟩
  have hcl60 : ∀ i, i < cl.length → 0 ≤ cl.getD i 0 ∧ cl.getD i 0 ≤ 60 := fun i hi => by have := hcl i hi; omega
  refine CallX.dropE (CallX.ofF Tryz.func158 rfl (by kernel_rfl) ?_)
  intro usC frC hfC
  refine R.go 7 (R.bx 1 (by kernel_rfl) ?_)
  refine R.kfix 0 (us := usC) (by kernel_rfl) (bxL_kill 1 [AI n, LI xs] _ (hfC.kill 1 (Nat.le_of_ble_eq_true (by kernel_rfl)))) ?_
  refine R.go 8 (R.loop ((fun | (x, ct) => (⟨(frm 46 [(1, LI cl), (2, .rptr [AI n, LI xs]), (4, .ptr 1 0), (5, AI ct), (6, AI (x : Int))]), [.frame usC frC, .box 26 [AI 0, .nil]]⟩ : St) : Nat × Int → St)) (fun | (x, ct) => (x ≤ cl.length) ∧ (0 ≤ ct ∧ ct ≤ 9) ∧ (∀ j, j < x → cl.getD j 0 < ct)) (fun | (x, ct) => cl.length - x) (0, 0) [1, 2, 4, 5, 6] (some [0, 2]) (by kernel_rfl) (by kernel_rfl) (canonF (fr := frC) (fun (frX : List AV) => (⟨(frm 46 [(1, LI cl), (2, .rptr [AI n, LI xs]), (4, .ptr 1 0), (5, AI 0), (6, AI 0)]), [.frame usC frX, .box 26 [AI 0, .nil]]⟩ : St)) (hfC.ren _ (by kernel_rfl)) (by kernel_rfl) (by kernel_rfl)) ⟨(by omega), (by omega), (by exact fun j hj => absurd hj (by omega))⟩ ?_)
  rintro ⟨x, ct⟩ ⟨h4_1, h4_2, h4_3⟩ R1 N2
  have hcx := fun h : x < cl.length => hcl x h
  refine R.go 8 (R.cond ((x : Int) < (cl.length : Int)) (by kernel_rfl) (fun c5 => ?_) (fun c5 => ?_))
  · refine R.go 7 (R.idx eI cl 0 x (x : Int) (by kernel_rfl) rfl eI_len (by omega) (by kernel_rfl) ?_)
    refine R.go 1 (R.ar ((cl.getD x 0) + 1) (by kernel_rfl) (by omega) (by omega) (by kernel_rfl) ?_)
    refine R.go 6 (R.ar ((x : Int) + 1) (by kernel_rfl) (by omega) (by omega) (by kernel_rfl) ?_)
    exact R.go 2 (R.stop R1 (by kernel_rfl) (N2 (x + 1, if ((cl.getD x 0) + 1) > ct then ((cl.getD x 0) + 1) else ct) [1, 2, 4, 5, 6] none _ (by kernel_rfl) (by kernel_rfl) ⟨(by omega), (by (split <;> omega)), (by exact mx_step (by assumption))⟩ (by show (cl.length - (x + 1)) < (cl.length - x); omega)))
  · refine R.go 4 (R.mk eI 0 2 8 ((ct).toNat) ct (by kernel_rfl) (by omega) (by decide) (by omega) (by kernel_rfl) ?_)
    refine R.go 8 (R.loop ((fun | (z, ws) => (⟨(frm 46 [(1, LI cl), (2, .rptr [AI n, LI xs]), (4, .ptr 1 0), (5, AI ct), (7, .ref 2), (8, AI (z : Int))]), [.frame usC frC, .box 26 [AI 0, .nil], rowA eI 2 1 ws]⟩ : St) : Nat × (List Int) → St)) (fun | (z, ws) => (z ≤ cl.length) ∧ ((ws.length : Int) = ct)) (fun | (z, ws) => cl.length - z) (0, (List.replicate ((ct).toNat) 0)) [1, 2, 4, 5, 7, 8] none (by kernel_rfl) (by kernel_rfl) (by kernel_rfl) ⟨(by omega), (by (simp; omega))⟩ ?_)
    rintro ⟨z, ws⟩ ⟨h9_1, h9_2⟩ R6 N7
    have hcz := fun h : z < cl.length => hcl z h
    have hcq := fun h : z < x => (by assumption : ∀ j, j < x → cl.getD j 0 < ct) z h
    refine R.go 8 (R.cond ((z : Int) < (cl.length : Int)) (by kernel_rfl) (fun c10 => ?_) (fun c10 => ?_))
    · refine R.go 7 (R.idx eI cl 0 z (z : Int) (by kernel_rfl) rfl eI_len (by omega) (by kernel_rfl) ?_)
      refine R.go 5 (R.idx eI xs 0 z (z : Int) (by kernel_rfl) rfl eI_len (by omega) (by kernel_rfl) ?_)
      refine R.go 1 (R.call true (l08Image_c cl (xs.getD z 0) (by first | omega | (simp <;> omega)) (by assumption)) (by kernel_rfl) rfl (by kernel_rfl) ?_)
      refine R.idxO 2 1 ws.length (((cl.getD z 0)).toNat) (cl.getD z 0) (by kernel_rfl) (by omega) (by omega) (by kernel_rfl) ?_
      refine R.stI 2 2 ws (((cl.getD z 0)).toNat) (imgL cl (xs.getD z 0) cl.length) (by kernel_rfl) (by omega) (by kernel_rfl) ?_
      refine R.go 4 (R.ar ((z : Int) + 1) (by kernel_rfl) (by omega) (by omega) (by kernel_rfl) ?_)
      exact R.go 2 (R.stop R6 (by kernel_rfl) (N7 (z + 1, ws.set (((cl.getD z 0)).toNat) (imgL cl (xs.getD z 0) cl.length)) [1, 2, 4, 5, 7, 8] none _ (by kernel_rfl) (by kernel_rfl) ⟨(by omega), (by (rw [List.length_set]; omega))⟩ (by show (cl.length - (z + 1)) < (cl.length - z); omega)))
    · refine R.go 8 (R.frz 2 (by kernel_rfl) ?_)
      refine R.kfix 0 (us := usC) (by kernel_rfl) (hfC.frz 2 (LI ws) (Nat.le_of_ble_eq_true (by kernel_rfl))) ?_
      exact R.retX (res := .agg [AI ct, LI ws]) (hp' := [.dead, .box 26 [AI ct, LI ws], .dead]) (by kernel_rfl) (by kernel_rfl) (by kernel_rfl) (by kernel_rfl) ⟨[], by kernel_rfl, by decide, ct, ws, by omega, by kernel_rfl, by kernel_rfl⟩

theorem congX_c (n : Int) (xs : List Int) (hF : okFr n xs = true) : CallX Tryz.prog 157 [.agg [AI n, LI xs]] [] (fun (resX : AV) (objX : List AObj) => ∃ L : List (List Int), (1 ≤ L.length ∧ L.length ≤ 50000000) ∧ (GL n L) ∧ resX = LLI L ∧ objX = []) := by
  have hr := okFr_rel hF
  have hb : 0 ≤ n ∧ n ≤ 8 ∧ (xs.length : Int) = n := ⟨hr.1, hr.2.1, hr.2.2.1⟩
  obtain ⟨B1, hB1⟩ : ∃ B1, B1 = 9 ^ n.toNat := ⟨_, rfl⟩
  have hB2 : B1 ≤ 43046721 := by rw [hB1]; exact pow9_le (by omega)
  refine CallX.dropE (CallX.ofF Tryz.func157 rfl (by kernel_rfl) ?_)
  intro usC frC hfC
  refine R.go 7 (R.bx 1 (by kernel_rfl) ?_)
  refine R.kfix 0 (us := usC) (by kernel_rfl) (bxL_kill 1 [AI n, LI xs] _ (hfC.kill 1 (Nat.le_of_ble_eq_true (by kernel_rfl)))) ?_
  refine R.go 2 (R.lit (s := 1) (n := 0) (cs := rows eI []) (by kernel_rfl) (by kernel_rfl) ?_)
  refine R.go 1 (R.deadF 1 (by kernel_rfl) (by kernel_rfl) ?_)
  refine R.callZ (CallY.inF 0 usC frC (CallY.inF 0 [] [] (partsX_c n.toNat n [] 0 [] B1 (by first | omega | (simp; omega)) (by first | assumption | (rw [hB1]; congr 1; simp; omega)) (by first | assumption | omega | (simp; omega) | simp) (by first | omega | (simp only [List.length_append, List.length_singleton]; split <;> omega)) (by first | assumption | exact snoc_rng hcl (by omega) (by omega) | (intro i hi; simp at hi)) (by first | omega | (simp; omega))) (Nat.le_of_ble_eq_true (by kernel_rfl)) (by kernel_rfl) (by kernel_rfl) (by rintro _ _ ⟨_, _, _, rfl, rfl⟩; exact Nat.le_of_ble_eq_true (by kernel_rfl)) 1 rfl (by kernel_rfl)) (Nat.le_of_ble_eq_true (by kernel_rfl)) (by kernel_rfl) (by kernel_rfl) (by rintro _ _ ⟨_, _, ⟨_, _, _, rfl, rfl⟩, rfl, rfl⟩; exact Nat.le_of_ble_eq_true (by kernel_rfl)) 2 rfl (hfC.kill 2 (Nat.le_of_ble_eq_true (by kernel_rfl)))) (by kernel_rfl) (by kernel_rfl) (by kernel_rfl) ?_
  rintro _ _ ⟨_, _, ⟨_, _, ⟨F1_1, f2, f3, rfl, rfl⟩, rfl, rfl⟩, rfl, rfl⟩
  have hPF := (by assumption : PRTF n [] 0 [] F1_1)
  have hGL : GL n F1_1 := hPF.1 (fun j hj => absurd hj (by simp))
  have hHS : HAS n F1_1 := hPF.2.2 ⟨rfl, rfl⟩
  have hl3 := (by assumption : (F1_1).length ≤ _)
  have hl4 : (F1_1).length ≤ B1 := by simpa using hl3
  refine R.go 10 (R.loop ((fun | (i, out) => (⟨(frm 32 [(1, .rptr [AI n, LI xs]), (3, .ref 1), (4, .ref 2), (5, AI (i : Int))]), [.frame usC frC, rowA eLI 24 1 F1_1, rowA eLI 24 1 out]⟩ : St) : Nat × (List (List Int)) → St)) (fun | (i, out) => (i ≤ (F1_1).length) ∧ (out.length ≤ i) ∧ (GL n out) ∧ ((∃ j, j < i ∧ (F1_1).getD j [] = iota n.toNat) → 1 ≤ out.length)) (fun | (i, out) => (F1_1).length - i) (0, []) [1, 3, 4, 5] (some [0, 2, 3]) (by kernel_rfl) (by kernel_rfl) (canonF (fr := frC) (fun (frX : List AV) => (⟨(frm 32 [(1, .rptr [AI n, LI xs]), (3, .ref 1), (4, .ref 2), (5, AI 0)]), [.frame usC frX, rowA eLI 24 1 F1_1, rowA eLI 24 1 []]⟩ : St)) (hfC.ren _ (by kernel_rfl)) (by kernel_rfl) (by kernel_rfl)) ⟨(by omega), (by simp), (by exact fun j hj => absurd hj (by simp)), (by (rintro ⟨j, hj, _⟩; omega))⟩ ?_)
  rintro ⟨i, out⟩ ⟨h7_1, h7_2, h7_3, h7_4⟩ R4 N5
  have hgi := fun h : i < (F1_1).length => hGL i h
  refine R.go 8 (R.cond ((i : Int) < (F1_1.length : Int)) (by kernel_rfl) (fun c8 => ?_) (fun c8 => ?_))
  · refine R.go 4 (R.meetF (α := Bool) (fun (rb_9 : Bool) => ((F1_1.getD i []) = iota n.toNat → rb_9 = true)) (fun (rb_9 : Bool) => (⟨(frm 32 [(1, .rptr [AI n, LI xs]), (3, .ref 1), (4, .ref 2), (5, AI (i : Int)), (12, AI (i : Int)), (13, .ref 1), (14, AI F1_1.length), (15, .bool (decide ((i : Int) < (F1_1.length : Int)))), (18, .agg [AI n, LI xs]), (19, .ref 1), (20, AI (i : Int)), (21, .ptr 1 (i * 1)), (22, LI (F1_1.getD i [])), (23, .bool rb_9)]), [.frame usC frC, rowA eLI 24 1 F1_1, rowA eLI 24 1 out]⟩ : St)) (by kernel_rfl) ?_ ?_)
    · refine R.any (by decide +kernel) (by kernel_rfl) ?_
      refine R.anyF 1 (by kernel_rfl) (np_meetF _ _) ?_
      refine R.anyF 2 (by kernel_rfl) (np_meetF _ _) ?_
      refine R.any2 0 3 (by kernel_rfl) (by kernel_rfl) ?_ ?_
      · have hgi := hGL i (by omega)
        have hgi1 : (((F1_1).getD i []).length : Int) = n := hgi.1
        have hgi2 : ∀ i_1, i_1 < ((F1_1).getD i []).length → 0 ≤ ((F1_1).getD i []).getD i_1 0 ∧ ((F1_1).getD i []).getD i_1 0 ≤ 8 := hgi.2
        refine R.go 2 (R.any1 3 (by kernel_rfl) (by kernel_rfl) ?_)
        refine R.idxO 1 1 F1_1.length i (i : Int) (by kernel_rfl) rfl (by omega) (by kernel_rfl) ?_
        refine R.go 1 (R.any1 4 (by kernel_rfl) (by kernel_rfl) ?_)
        refine R.ldE eLI 1 0 F1_1 [] i (LI (F1_1.getD i [])) (by kernel_rfl) eLI_len (by omega) rfl (by kernel_rfl) ?_
        refine R.go 1 (R.any1 5 (by kernel_rfl) (by kernel_rfl) ?_)
        refine R.callX0 (cgX_c n xs (F1_1.getD i []) (by assumption) (by first | assumption | exact (hgl _ (by omega)).1) (by first | assumption | exact (hgl _ (by omega)).2)) (by kernel_rfl) (by rintro _ _ ⟨_, _, rfl, rfl⟩; rfl) (by kernel_rfl) (by kernel_rfl) ?_
        rintro _ ⟨rb_9, f10, rfl, _⟩
        refine R.go 1 (R.any0 (by kernel_rfl) ?_)
        exact R.metF rb_9 (by kernel_rfl) (by first | assumption | omega) (by kernel_rfl)
      · refine R.idxO 1 1 F1_1.length i (i : Int) (by kernel_rfl) rfl (by omega) (by kernel_rfl) ?_
        refine R.go 1 (R.any2 0 4 (by kernel_rfl) (by kernel_rfl) ?_ ?_)
        · have hgi := hGL i (by omega)
          have hgi1 : (((F1_1).getD i []).length : Int) = n := hgi.1
          have hgi2 : ∀ i_1, i_1 < ((F1_1).getD i []).length → 0 ≤ ((F1_1).getD i []).getD i_1 0 ∧ ((F1_1).getD i []).getD i_1 0 ≤ 8 := hgi.2
          refine R.go 2 (R.any1 4 (by kernel_rfl) (by kernel_rfl) ?_)
          refine R.ldE eLI 1 0 F1_1 [] i (LI (F1_1.getD i [])) (by kernel_rfl) eLI_len (by omega) rfl (by kernel_rfl) ?_
          refine R.go 1 (R.any1 5 (by kernel_rfl) (by kernel_rfl) ?_)
          refine R.callX0 (cgX_c n xs (F1_1.getD i []) (by assumption) (by first | assumption | exact (hgl _ (by omega)).1) (by first | assumption | exact (hgl _ (by omega)).2)) (by kernel_rfl) (by rintro _ _ ⟨_, _, rfl, rfl⟩; rfl) (by kernel_rfl) (by kernel_rfl) ?_
          rintro _ ⟨rb_11, f12, rfl, _⟩
          refine R.go 1 (R.any0 (by kernel_rfl) ?_)
          exact R.metF rb_11 (by kernel_rfl) (by first | assumption | omega) (by kernel_rfl)
        · refine R.ldE eLI 1 0 F1_1 [] i (LI (F1_1.getD i [])) (by kernel_rfl) eLI_len (by omega) rfl (by kernel_rfl) ?_
          refine R.go 1 (R.any1 0 (by kernel_rfl) (by kernel_rfl) ?_)
          have hgi := hGL i (by omega)
          have hgi1 : (((F1_1).getD i []).length : Int) = n := hgi.1
          have hgi2 : ∀ i_1, i_1 < ((F1_1).getD i []).length → 0 ≤ ((F1_1).getD i []).getD i_1 0 ∧ ((F1_1).getD i []).getD i_1 0 ≤ 8 := hgi.2
          refine R.go 2 (R.any1 5 (by kernel_rfl) (by kernel_rfl) ?_)
          refine R.callX0 (cgX_c n xs (F1_1.getD i []) (by assumption) (by first | assumption | exact (hgl _ (by omega)).1) (by first | assumption | exact (hgl _ (by omega)).2)) (by kernel_rfl) (by rintro _ _ ⟨_, _, rfl, rfl⟩; rfl) (by kernel_rfl) (by kernel_rfl) ?_
          rintro _ ⟨rb_13, f14, rfl, _⟩
          refine R.go 1 (R.any0 (by kernel_rfl) ?_)
          exact R.metF rb_13 (by kernel_rfl) (by first | assumption | omega) (by kernel_rfl)
    · rintro rb_9 f10
      refine R.condB (rb_9) (by kernel_rfl) (fun c15 => ?_) (fun c15 => ?_)
      · refine R.go 4 (R.idxO 1 1 F1_1.length i (i : Int) (by kernel_rfl) rfl (by omega) (by kernel_rfl) ?_)
        refine R.ldE eLI 1 0 F1_1 [] i (LI (F1_1.getD i [])) (by kernel_rfl) eLI_len (by omega) rfl (by kernel_rfl) ?_
        refine R.go 1 (R.app eLI out [(F1_1.getD i [])] 2 24 1 24 (by kernel_rfl) eLI_one (by decide) (by first | omega | (simp <;> omega)) (by kernel_rfl) ?_)
        refine R.kfix 0 (us := usC) (by kernel_rfl) (hfC.kill 2 (Nat.le_of_ble_eq_true (by kernel_rfl))) ?_
        refine R.go 5 (R.ar ((i : Int) + 1) (by kernel_rfl) (by omega) (by omega) (by kernel_rfl) ?_)
        exact R.go 2 (R.stop R4 (by kernel_rfl) (N5 (i + 1, out ++ [(F1_1.getD i [])]) [1, 3, 4, 5] (some [0, 1, 2]) _ (by kernel_rfl) (canonF (fr := frC) (fun (frX : List AV) => (⟨(frm 32 [(1, .rptr [AI n, LI xs]), (3, .ref 1), (4, .ref 2), (5, AI ((i : Int) + 1))]), [.frame usC frX, rowA eLI 24 1 F1_1, rowA eLI 24 1 (out ++ [(F1_1.getD i [])])]⟩ : St)) (hfC.ren _ (by kernel_rfl)) (by kernel_rfl) (by kernel_rfl)) ⟨(by omega), (by first | omega | (rw [List.length_append, List.length_singleton]; omega)), (by first | assumption | exact gl_snoc (by assumption) (hgi (by omega)).1 (hgi (by omega)).2), (by first | exact ex_step (by assumption) (by assumption) (by assumption) | exact fun _ => (by rw [List.length_append, List.length_singleton]; omega))⟩ (by show ((F1_1).length - (i + 1)) < ((F1_1).length - i); omega)))
      · refine R.go 4 (R.ar ((i : Int) + 1) (by kernel_rfl) (by omega) (by omega) (by kernel_rfl) ?_)
        exact R.go 2 (R.stop R4 (by kernel_rfl) (N5 (i + 1, out) [1, 3, 4, 5] none _ (by kernel_rfl) (by kernel_rfl) ⟨(by omega), (by first | omega | (rw [List.length_append, List.length_singleton]; omega)), (by first | assumption | exact gl_snoc (by assumption) (hgi (by omega)).1 (hgi (by omega)).2), (by first | exact ex_step (by assumption) (by assumption) (by assumption) | exact fun _ => (by rw [List.length_append, List.length_singleton]; omega))⟩ (by show ((F1_1).length - (i + 1)) < ((F1_1).length - i); omega)))
  · refine R.go 6 (R.frz 2 (by kernel_rfl) ?_)
    refine R.kfix 0 (us := usC) (by kernel_rfl) (hfC.frz 2 (LLI out) (Nat.le_of_ble_eq_true (by kernel_rfl))) ?_
    exact R.retX (res := LLI out) (hp' := [.dead, rowA eLI 24 1 F1_1, .dead]) (by kernel_rfl) (by kernel_rfl) (by kernel_rfl) (by kernel_rfl) ⟨[], by kernel_rfl, by decide, out, by first | assumption | exact ⟨has_at (i := i) hHS (by omega) (by assumption), by omega⟩, by first | assumption | exact ⟨has_at (i := i) hHS (by omega) (by assumption), by omega⟩, by kernel_rfl, by kernel_rfl⟩

end Go.Proofs.YtgebepfdphmjcaaGreat


/-! Maps between frames that are searched for. -/
namespace Go.Proofs.YtgebepfdphmjcaaGreat
open Go.RowKit Go.Abs

theorem mayX_c (n : Int) (xs : List Int) (m : Int) (ys : List Int) (onto : Bool) (one : Bool) (mo : Int) (im : List Int) (Fd : List (List Int)) (hF : okFr n xs = true) (hG : okFr m ys = true) (him : ∀ i, i < im.length → 0 ≤ im.getD i 0 ∧ im.getD i 0 < m) (hl : (im.length : Int) ≤ n) : CallX Tryz.prog 190 [.ptr 1 0, LI im] [rowA eLI 24 1 Fd, .box 163 [AI n, LI xs, AI m, LI ys, .bool onto, .bool one, AI mo, .ref 0]] (fun (resX : AV) (objX : List AObj) => ∃ rb : Bool, resX = .bool rb ∧ objX = [rowA eLI 24 1 Fd, .box 163 [AI n, LI xs, AI m, LI ys, .bool onto, .bool one, AI mo, .ref 0]]) := by
  have hr := okFr_rel hF
  have hb : 0 ≤ n ∧ n ≤ 8 ∧ (xs.length : Int) = n := ⟨hr.1, hr.2.1, hr.2.2.1⟩
  have hg := okFr_rel hG
  have hb2 : 0 ≤ m ∧ m ≤ 8 ∧ (ys.length : Int) = m := ⟨hg.1, hg.2.1, hg.2.2.1⟩
  have him60 : ∀ i, i < im.length → 0 ≤ im.getD i 0 ∧ im.getD i 0 ≤ 60 := fun i hi => by have := him i hi; omega
  refine CallX.dropE (CallX.ofF Tryz.func190 rfl (by kernel_rfl) ?_)
  intro usC frC hfC
  refine R.go 16 (R.loop (fun (x : Nat) => (⟨(frm 107 [(0, .ptr 1 0), (1, LI im), (5, AI im.length), (6, AI (x : Int))]), [rowA eLI 24 1 Fd, .box 163 [AI n, LI xs, AI m, LI ys, .bool onto, .bool one, AI mo, .ref 0], .frame usC frC]⟩ : St)) (fun (x : Nat) => x ≤ im.length) (fun (x : Nat) => im.length - x) 0 [0, 1, 5, 6] none (by kernel_rfl) (by kernel_rfl) (by kernel_rfl) (by omega) ?_)
  rintro x h3_1 R1 N2
  refine R.go 7 (R.cond ((x : Int) < (im.length : Int)) (by kernel_rfl) (fun c4 => ?_) (fun c4 => ?_))
  · have hix := him x (by omega)
    refine R.go 12 (R.idx eI xs 0 x (x : Int) (by kernel_rfl) rfl eI_len (by omega) (by kernel_rfl) ?_)
    refine R.go 1 (R.call true (l08Image_c im (xs.getD x 0) (by first | assumption | omega | exact bnot_rng _ _ | exact imgL_rng _ _ _) (by assumption)) (by kernel_rfl) rfl (by kernel_rfl) ?_)
    refine R.go 7 (R.idx eI im 0 x (x : Int) (by kernel_rfl) rfl eI_len (by omega) (by kernel_rfl) ?_)
    refine R.go 1 (R.idx eI ys 0 (((im.getD x 0)).toNat) (im.getD x 0) (by kernel_rfl) (by omega) eI_len (by omega) (by kernel_rfl) ?_)
    refine R.go 12 (R.condN ((bnot (imgL im (xs.getD x 0) im.length) (ys.getD (((im.getD x 0)).toNat) 0)) = 0) (by kernel_rfl) (fun c5 => ?_) (fun c5 => ?_))
    · exact R.go 4 (R.retX (res := .bool false) (hp' := [rowA eLI 24 1 Fd, .box 163 [AI n, LI xs, AI m, LI ys, .bool onto, .bool one, AI mo, .ref 0], .dead]) (by kernel_rfl) (by kernel_rfl) (by kernel_rfl) (by kernel_rfl) ⟨[0, 1], by kernel_rfl, by decide, false, by kernel_rfl, by kernel_rfl⟩)
    · refine R.go 9 (R.idx eI xs 0 x (x : Int) (by kernel_rfl) rfl eI_len (by omega) (by kernel_rfl) ?_)
      refine R.go 2 (R.call true (l01Full_c im.length (by first | assumption | omega | exact bnot_rng _ _ | exact imgL_rng _ _ _) (by first | assumption | omega | exact bnot_rng _ _ | exact imgL_rng _ _ _)) (by kernel_rfl) rfl (by kernel_rfl) ?_)
      refine R.go 9 (R.call true (l01Bits_c (bnot (ys.getD (((im.getD x 0)).toNat) 0) (imgL im (xs.getD x 0) im.length)) (by first | omega | exact bnot_rng _ _ | exact imgL_rng _ _ _)) (by kernel_rfl) rfl (by kernel_rfl) ?_)
      refine R.go 1 (R.call true (l01Bits_c (bnot (xs.getD x 0) ((shl64 1 im.length) - 1)) (by first | omega | exact bnot_rng _ _ | exact imgL_rng _ _ _)) (by kernel_rfl) rfl (by kernel_rfl) ?_)
      refine R.go 2 (R.cond ((cntI (bnot (ys.getD (((im.getD x 0)).toNat) 0) (imgL im (xs.getD x 0) im.length))) > (cntI (bnot (xs.getD x 0) ((shl64 1 im.length) - 1)))) (by kernel_rfl) (fun c6 => ?_) (fun c6 => ?_))
      · exact R.go 4 (R.retX (res := .bool false) (hp' := [rowA eLI 24 1 Fd, .box 163 [AI n, LI xs, AI m, LI ys, .bool onto, .bool one, AI mo, .ref 0], .dead]) (by kernel_rfl) (by kernel_rfl) (by kernel_rfl) (by kernel_rfl) ⟨[0, 1], by kernel_rfl, by decide, false, by kernel_rfl, by kernel_rfl⟩)
      · refine R.go 8 ?_
        refine (Bool.eq_false_or_eq_true (one)).elim (fun c7 => ?_) (fun c7 => ?_)
        · refine R.want (one) true (by kernel_rfl) c7 ?_
          refine R.go 1 (R.want (one) true (by kernel_rfl) c7 ?_)
          refine R.go 1 (R.want (one) true (by kernel_rfl) c7 ?_)
          refine R.ar ((im.length : Int) - 1) (by kernel_rfl) (by omega) (by omega) (by kernel_rfl) ?_
          refine R.want (one) true (by kernel_rfl) c7 ?_
          refine R.go 1 (R.pick (one) true (by kernel_rfl) c7 (by kernel_rfl) ?_)
          refine R.go 1 ?_
          by_cases c8 : (x : Int) < ((im.length : Int) - 1)
          · refine R.want (decide ((x : Int) < ((im.length : Int) - 1))) true (by kernel_rfl) (dT c8) ?_
            refine R.go 1 (R.want (decide ((x : Int) < ((im.length : Int) - 1))) true (by kernel_rfl) (dT c8) ?_)
            refine R.go 1 (R.want (decide ((x : Int) < ((im.length : Int) - 1))) true (by kernel_rfl) (dT c8) ?_)
            refine R.idx eI im 0 x (x : Int) (by kernel_rfl) rfl eI_len (by omega) (by kernel_rfl) ?_
            refine R.want (decide ((x : Int) < ((im.length : Int) - 1))) true (by kernel_rfl) (dT c8) ?_
            refine R.go 1 (R.want (decide ((x : Int) < ((im.length : Int) - 1))) true (by kernel_rfl) (dT c8) ?_)
            refine R.go 1 (R.want (decide ((x : Int) < ((im.length : Int) - 1))) true (by kernel_rfl) (dT c8) ?_)
            refine R.go 1 (R.want (decide ((x : Int) < ((im.length : Int) - 1))) true (by kernel_rfl) (dT c8) ?_)
            refine R.ar ((im.length : Int) - 1) (by kernel_rfl) (by omega) (by omega) (by kernel_rfl) ?_
            refine R.want (decide ((x : Int) < ((im.length : Int) - 1))) true (by kernel_rfl) (dT c8) ?_
            refine R.idx eI im 0 (((im.length : Int) - 1).toNat) ((im.length : Int) - 1) (by kernel_rfl) (by omega) eI_len (by omega) (by kernel_rfl) ?_
            refine R.want (decide ((x : Int) < ((im.length : Int) - 1))) true (by kernel_rfl) (dT c8) ?_
            refine R.go 1 (R.want (decide ((x : Int) < ((im.length : Int) - 1))) true (by kernel_rfl) (dT c8) ?_)
            refine R.go 1 (R.pick (decide ((x : Int) < ((im.length : Int) - 1))) true (by kernel_rfl) (dT c8) (by kernel_rfl) ?_)
            refine R.go 1 (R.cond ((im.getD x 0) = (im.getD (((im.length : Int) - 1).toNat) 0)) (by kernel_rfl) (fun c9 => ?_) (fun c9 => ?_))
            · exact R.go 4 (R.retX (res := .bool false) (hp' := [rowA eLI 24 1 Fd, .box 163 [AI n, LI xs, AI m, LI ys, .bool onto, .bool one, AI mo, .ref 0], .dead]) (by kernel_rfl) (by kernel_rfl) (by kernel_rfl) (by kernel_rfl) ⟨[0, 1], by kernel_rfl, by decide, false, by kernel_rfl, by kernel_rfl⟩)
            · refine R.go 4 (R.ar ((x : Int) + 1) (by kernel_rfl) (by omega) (by omega) (by kernel_rfl) ?_)
              exact R.go 2 (R.stop R1 (by kernel_rfl) (N2 (x + 1) [0, 1, 5, 6] none _ (by kernel_rfl) (by kernel_rfl) (by omega) (by show (im.length - (x + 1)) < (im.length - x); omega)))
          · refine R.skp (decide ((x : Int) < ((im.length : Int) - 1))) true (by kernel_rfl) (dF c8) (by kernel_rfl) ?_
            refine R.skp (decide ((x : Int) < ((im.length : Int) - 1))) true (by kernel_rfl) (dF c8) (by kernel_rfl) ?_
            refine R.skp (decide ((x : Int) < ((im.length : Int) - 1))) true (by kernel_rfl) (dF c8) (by kernel_rfl) ?_
            refine R.skp (decide ((x : Int) < ((im.length : Int) - 1))) true (by kernel_rfl) (dF c8) (by kernel_rfl) ?_
            refine R.skp (decide ((x : Int) < ((im.length : Int) - 1))) true (by kernel_rfl) (dF c8) (by kernel_rfl) ?_
            refine R.skp (decide ((x : Int) < ((im.length : Int) - 1))) true (by kernel_rfl) (dF c8) (by kernel_rfl) ?_
            refine R.skp (decide ((x : Int) < ((im.length : Int) - 1))) true (by kernel_rfl) (dF c8) (by kernel_rfl) ?_
            refine R.skp (decide ((x : Int) < ((im.length : Int) - 1))) true (by kernel_rfl) (dF c8) (by kernel_rfl) ?_
            refine R.skp (decide ((x : Int) < ((im.length : Int) - 1))) true (by kernel_rfl) (dF c8) (by kernel_rfl) ?_
            refine R.skp (decide ((x : Int) < ((im.length : Int) - 1))) true (by kernel_rfl) (dF c8) (by kernel_rfl) ?_
            refine R.pick (decide ((x : Int) < ((im.length : Int) - 1))) false (by kernel_rfl) (dF c8) (by kernel_rfl) ?_
            refine R.go 6 (R.ar ((x : Int) + 1) (by kernel_rfl) (by omega) (by omega) (by kernel_rfl) ?_)
            exact R.go 2 (R.stop R1 (by kernel_rfl) (N2 (x + 1) [0, 1, 5, 6] none _ (by kernel_rfl) (by kernel_rfl) (by omega) (by show (im.length - (x + 1)) < (im.length - x); omega)))
        · refine R.skp (one) true (by kernel_rfl) c7 (by kernel_rfl) ?_
          refine R.skp (one) true (by kernel_rfl) c7 (by kernel_rfl) ?_
          refine R.skp (one) true (by kernel_rfl) c7 (by kernel_rfl) ?_
          refine R.skp (one) true (by kernel_rfl) c7 (by kernel_rfl) ?_
          refine R.pick (one) false (by kernel_rfl) c7 (by kernel_rfl) ?_
          refine R.go 18 (R.ar ((x : Int) + 1) (by kernel_rfl) (by omega) (by omega) (by kernel_rfl) ?_)
          exact R.go 2 (R.stop R1 (by kernel_rfl) (N2 (x + 1) [0, 1, 5, 6] none _ (by kernel_rfl) (by kernel_rfl) (by omega) (by show (im.length - (x + 1)) < (im.length - x); omega)))
  · have hci := cntI_nn (imgL im ((shl64 1 (im.length : Int)) - 1) im.length)
    have hcr := imgL_rng im ((shl64 1 (im.length : Int)) - 1) im.length
    refine R.go 9 ?_
    refine (Bool.eq_false_or_eq_true (onto)).elim (fun c10 => ?_) (fun c10 => ?_)
    · refine R.want (onto) true (by kernel_rfl) c10 ?_
      refine R.go 1 (R.want (onto) true (by kernel_rfl) c10 ?_)
      refine R.go 1 (R.want (onto) true (by kernel_rfl) c10 ?_)
      refine R.go 1 (R.want (onto) true (by kernel_rfl) c10 ?_)
      refine R.go 1 (R.want (onto) true (by kernel_rfl) c10 ?_)
      refine R.go 1 (R.want (onto) true (by kernel_rfl) c10 ?_)
      refine R.go 1 (R.want (onto) true (by kernel_rfl) c10 ?_)
      refine R.go 1 (R.want (onto) true (by kernel_rfl) c10 ?_)
      refine R.call true (l01Full_c im.length (by first | assumption | omega | exact bnot_rng _ _ | exact imgL_rng _ _ _) (by first | assumption | omega | exact bnot_rng _ _ | exact imgL_rng _ _ _)) (by kernel_rfl) rfl (by kernel_rfl) ?_
      refine R.want (onto) true (by kernel_rfl) c10 ?_
      refine R.call true (l08Image_c im ((shl64 1 im.length) - 1) (by first | assumption | omega | exact bnot_rng _ _ | exact imgL_rng _ _ _) (by assumption)) (by kernel_rfl) rfl (by kernel_rfl) ?_
      refine R.want (onto) true (by kernel_rfl) c10 ?_
      refine R.call true (l01Bits_c (imgL im ((shl64 1 im.length) - 1) im.length) (by first | omega | exact bnot_rng _ _ | exact imgL_rng _ _ _)) (by kernel_rfl) rfl (by kernel_rfl) ?_
      refine R.want (onto) true (by kernel_rfl) c10 ?_
      refine R.ar (m - (cntI (imgL im ((shl64 1 im.length) - 1) im.length))) (by kernel_rfl) (by omega) (by omega) (by kernel_rfl) ?_
      refine R.want (onto) true (by kernel_rfl) c10 ?_
      refine R.go 1 (R.want (onto) true (by kernel_rfl) c10 ?_)
      refine R.go 1 (R.want (onto) true (by kernel_rfl) c10 ?_)
      refine R.go 1 (R.want (onto) true (by kernel_rfl) c10 ?_)
      refine R.go 1 (R.want (onto) true (by kernel_rfl) c10 ?_)
      refine R.go 1 (R.want (onto) true (by kernel_rfl) c10 ?_)
      refine R.go 1 (R.want (onto) true (by kernel_rfl) c10 ?_)
      refine R.ar (n - (im.length : Int)) (by kernel_rfl) (by omega) (by omega) (by kernel_rfl) ?_
      refine R.want (onto) true (by kernel_rfl) c10 ?_
      refine R.go 1 (R.pick (onto) true (by kernel_rfl) c10 (by kernel_rfl) ?_)
      refine R.go 1 (R.cond ((m - (cntI (imgL im ((shl64 1 im.length) - 1) im.length))) > (n - (im.length : Int))) (by kernel_rfl) (fun c11 => ?_) (fun c11 => ?_))
      · exact R.go 4 (R.retX (res := .bool false) (hp' := [rowA eLI 24 1 Fd, .box 163 [AI n, LI xs, AI m, LI ys, .bool onto, .bool one, AI mo, .ref 0], .dead]) (by kernel_rfl) (by kernel_rfl) (by kernel_rfl) (by kernel_rfl) ⟨[0, 1], by kernel_rfl, by decide, false, by kernel_rfl, by kernel_rfl⟩)
      · exact R.go 5 (R.retX (res := .bool true) (hp' := [rowA eLI 24 1 Fd, .box 163 [AI n, LI xs, AI m, LI ys, .bool onto, .bool one, AI mo, .ref 0], .dead]) (by kernel_rfl) (by kernel_rfl) (by kernel_rfl) (by kernel_rfl) ⟨[0, 1], by kernel_rfl, by decide, true, by kernel_rfl, by kernel_rfl⟩)
    · refine R.skp (onto) true (by kernel_rfl) c10 (by kernel_rfl) ?_
      refine R.skp (onto) true (by kernel_rfl) c10 (by kernel_rfl) ?_
      refine R.skp (onto) true (by kernel_rfl) c10 (by kernel_rfl) ?_
      refine R.skp (onto) true (by kernel_rfl) c10 (by kernel_rfl) ?_
      refine R.skp (onto) true (by kernel_rfl) c10 (by kernel_rfl) ?_
      refine R.skp (onto) true (by kernel_rfl) c10 (by kernel_rfl) ?_
      refine R.skp (onto) true (by kernel_rfl) c10 (by kernel_rfl) ?_
      refine R.skp (onto) true (by kernel_rfl) c10 (by kernel_rfl) ?_
      refine R.skp (onto) true (by kernel_rfl) c10 (by kernel_rfl) ?_
      refine R.skp (onto) true (by kernel_rfl) c10 (by kernel_rfl) ?_
      refine R.skp (onto) true (by kernel_rfl) c10 (by kernel_rfl) ?_
      refine R.skp (onto) true (by kernel_rfl) c10 (by kernel_rfl) ?_
      refine R.skp (onto) true (by kernel_rfl) c10 (by kernel_rfl) ?_
      refine R.skp (onto) true (by kernel_rfl) c10 (by kernel_rfl) ?_
      refine R.skp (onto) true (by kernel_rfl) c10 (by kernel_rfl) ?_
      refine R.skp (onto) true (by kernel_rfl) c10 (by kernel_rfl) ?_
      refine R.skp (onto) true (by kernel_rfl) c10 (by kernel_rfl) ?_
      refine R.skp (onto) true (by kernel_rfl) c10 (by kernel_rfl) ?_
      refine R.skp (onto) true (by kernel_rfl) c10 (by kernel_rfl) ?_
      refine R.pick (onto) false (by kernel_rfl) c10 (by kernel_rfl) ?_
      exact R.go 7 (R.retX (res := .bool true) (hp' := [rowA eLI 24 1 Fd, .box 163 [AI n, LI xs, AI m, LI ys, .bool onto, .bool one, AI mo, .ref 0], .dead]) (by kernel_rfl) (by kernel_rfl) (by kernel_rfl) (by kernel_rfl) ⟨[0, 1], by kernel_rfl, by decide, true, by kernel_rfl, by kernel_rfl⟩)

theorem goX_c : ∀ (r : Nat) (n : Int) (xs : List Int) (m : Int) (ys : List Int) (onto : Bool) (one : Bool) (mo : Int) (im : List Int) (Fd : List (List Int)) (hr2 : n = (im.length : Int) + (r : Int)) (hF : okFr n xs = true) (hG : okFr m ys = true) (him : ∀ i, i < im.length → 0 ≤ im.getD i 0 ∧ im.getD i 0 < m) (hlen : (Fd.length : Int) < mo ∧ mo ≤ 1000), CallY Tryz.prog 0 159 [.ptr 1 0, LI im] [rowA eLI 24 1 Fd, .box 163 [AI n, LI xs, AI m, LI ys, .bool onto, .bool one, AI mo, .ref 0]] (fun (resX : AV) (objX : List AObj) => ∃ F1 : List (List Int), ((F1.length : Int) ≤ mo) ∧ (GM n m Fd → GM n m F1) ∧ resX = .tup [] ∧ objX = [rowA eLI 24 1 F1, .box 163 [AI n, LI xs, AI m, LI ys, .bool onto, .bool one, AI mo, .ref 0]]) := by
  intro r
  induction r using Nat.strongRecOn with
  | _ r ih =>
  intro n xs m ys onto one mo im Fd hr2 hF hG him hlen
  have hr := okFr_rel hF
  have hb : 0 ≤ n ∧ n ≤ 8 ∧ (xs.length : Int) = n := ⟨hr.1, hr.2.1, hr.2.2.1⟩
  have hg := okFr_rel hG
  have hb2 : 0 ≤ m ∧ m ≤ 8 ∧ (ys.length : Int) = m := ⟨hg.1, hg.2.1, hg.2.2.1⟩
  have him60 : ∀ i, i < im.length → 0 ≤ im.getD i 0 ∧ im.getD i 0 ≤ 60 := fun i hi => by have := him i hi; omega
  refine CallY.dropE (CallY.ofF Tryz.func159 rfl (by kernel_rfl) ?_)
  intro usC frC hfC hkC
  refine R.go 12 (R.cond ((im.length : Int) = n) (by kernel_rfl) (fun c1 => ?_) (fun c1 => ?_))
  · refine R.go 9 (R.app eLI Fd [im] 0 24 1 24 (by kernel_rfl) eLI_one (by decide) (by first | omega | (simp <;> omega)) (by kernel_rfl) ?_)
    refine R.kfix 2 (us := usC) (by kernel_rfl) hkC ?_
    exact R.go 4 (R.retX (res := .tup []) (hp' := [rowA eLI 24 1 (Fd ++ [im]), .box 163 [AI n, LI xs, AI m, LI ys, .bool onto, .bool one, AI mo, .ref 0], .dead, rowA eLI 24 1 [im]]) (by kernel_rfl) (by kernel_rfl) (by kernel_rfl) (by kernel_rfl) ⟨[0, 1], by kernel_rfl, by decide, Fd ++ [im], by first | assumption | omega | (rw [List.length_append, List.length_singleton]; omega) | exact fun h => gm_snoc h (by omega) him, by first | assumption | omega | (rw [List.length_append, List.length_singleton]; omega) | exact fun h => gm_snoc h (by omega) him, by kernel_rfl, by kernel_rfl⟩)
  · refine R.go 6 (R.loop ((fun | (y, F2) => (⟨(frm 56 [(0, .ptr 1 0), (1, LI im), (4, AI (y : Int))]), [rowA eLI 24 1 F2, .box 163 [AI n, LI xs, AI m, LI ys, .bool onto, .bool one, AI mo, .ref 0], .frame usC frC]⟩ : St) : Nat × (List (List Int)) → St)) (fun | (y, F2) => ((y : Int) ≤ m) ∧ ((F2.length : Int) ≤ mo) ∧ (GM n m Fd → GM n m F2)) (fun | (y, F2) => (m - y).toNat) (0, Fd) [0, 1, 4] none (by kernel_rfl) (by kernel_rfl) (by kernel_rfl) ⟨(by omega), (by omega), (by exact fun h => h)⟩ ?_)
    rintro ⟨y, F2⟩ ⟨h5_1, h5_2, h5_3⟩ R2 N3
    refine R.go 11 ?_
    by_cases c6 : (y : Int) < m
    · refine R.want (decide ((y : Int) < m)) true (by kernel_rfl) (dT c6) ?_
      refine R.go 1 (R.want (decide ((y : Int) < m)) true (by kernel_rfl) (dT c6) ?_)
      refine R.go 1 (R.want (decide ((y : Int) < m)) true (by kernel_rfl) (dT c6) ?_)
      refine R.go 1 (R.want (decide ((y : Int) < m)) true (by kernel_rfl) (dT c6) ?_)
      refine R.go 1 (R.want (decide ((y : Int) < m)) true (by kernel_rfl) (dT c6) ?_)
      refine R.go 1 (R.want (decide ((y : Int) < m)) true (by kernel_rfl) (dT c6) ?_)
      refine R.go 1 (R.want (decide ((y : Int) < m)) true (by kernel_rfl) (dT c6) ?_)
      refine R.go 1 (R.want (decide ((y : Int) < m)) true (by kernel_rfl) (dT c6) ?_)
      refine R.go 1 (R.want (decide ((y : Int) < m)) true (by kernel_rfl) (dT c6) ?_)
      refine R.go 1 (R.want (decide ((y : Int) < m)) true (by kernel_rfl) (dT c6) ?_)
      refine R.go 1 (R.pick (decide ((y : Int) < m)) true (by kernel_rfl) (dT c6) (by kernel_rfl) ?_)
      refine R.go 1 (R.cond ((F2.length : Int) < mo) (by kernel_rfl) (fun c7 => ?_) (fun c7 => ?_))
      · refine R.go 6 (R.call true (l01Own_c im (by first | omega | (rw [List.length_append, List.length_singleton]; omega))) (by kernel_rfl) rfl (by kernel_rfl) ?_)
        refine R.go 2 (R.app eI im [(y : Int)] 3 2 1 8 (by kernel_rfl) eI_one (by decide) (by first | omega | (simp <;> omega)) (by kernel_rfl) ?_)
        refine R.kfix 2 (us := usC) (by kernel_rfl) (hfC.kill 3 (Nat.le_of_ble_eq_true (by kernel_rfl))) ?_
        refine R.go 6 (R.frz 4 (by kernel_rfl) ?_)
        refine R.kfix 2 (us := usC) (by kernel_rfl) (hfC.frz 4 (LI [(y : Int)]) (Nat.le_of_ble_eq_true (by kernel_rfl))) ?_
        refine R.frz 3 (by kernel_rfl) ?_
        refine R.kfix 2 (us := usC) (by kernel_rfl) (hfC.frz 3 (LI (im ++ [(y : Int)])) (Nat.le_of_ble_eq_true (by kernel_rfl))) ?_
        refine R.deadF 3 (by kernel_rfl) (by kernel_rfl) ?_
        refine R.deadF 4 (by kernel_rfl) (by kernel_rfl) ?_
        refine R.callX (CallX.inF 2 usC frC (CallX.inF 2 [] [] (CallX.inF 2 [] [] (mayX_c n xs m ys onto one mo (im ++ [(y : Int)]) F2 (by assumption) (by assumption) (by first | assumption | exact snoc_lt him (by omega) (by omega) | (intro i hi; simp at hi)) (by first | omega | (rw [List.length_append, List.length_singleton]; omega))) (Nat.le_of_ble_eq_true (by kernel_rfl)) (by kernel_rfl) (by kernel_rfl) (by rintro _ _ ⟨_, rfl, rfl⟩; exact Nat.le_of_ble_eq_true (by kernel_rfl))) (Nat.le_of_ble_eq_true (by kernel_rfl)) (by kernel_rfl) (by kernel_rfl) (by rintro _ _ ⟨_, _, ⟨_, rfl, rfl⟩, rfl, rfl⟩; exact Nat.le_of_ble_eq_true (by kernel_rfl))) (Nat.le_of_ble_eq_true (by kernel_rfl)) (by kernel_rfl) (by kernel_rfl) (by rintro _ _ ⟨_, _, ⟨_, _, ⟨_, rfl, rfl⟩, rfl, rfl⟩, rfl, rfl⟩; exact Nat.le_of_ble_eq_true (by kernel_rfl))) (by kernel_rfl) (by kernel_rfl) (by kernel_rfl) ?_
        rintro _ _ ⟨_, _, ⟨_, _, ⟨_, _, ⟨rb_8, rfl, rfl⟩, rfl, rfl⟩, rfl, rfl⟩, rfl, rfl⟩
        refine R.go 1 (R.condB (rb_8) (by kernel_rfl) (fun c9 => ?_) (fun c9 => ?_))
        · refine R.go 3 (R.callZ (CallY.inF 2 usC frC (CallY.inF 2 [] [] (CallY.inF 2 [] [] (ih (((n) - (((im ++ [(y : Int)])).length : Int)).toNat) (by first | omega | (rw [List.length_append, List.length_singleton]; omega)) n xs m ys onto one mo (im ++ [(y : Int)]) F2 (by first | omega | (rw [List.length_append, List.length_singleton]; omega) | (simp; omega)) (by assumption) (by assumption) (by first | assumption | exact snoc_lt him (by omega) (by omega) | (intro i hi; simp at hi)) (by first | omega | simp)) (Nat.le_of_ble_eq_true (by kernel_rfl)) (by kernel_rfl) (by kernel_rfl) (by rintro _ _ ⟨_, _, _, rfl, rfl⟩; exact Nat.le_of_ble_eq_true (by kernel_rfl)) 0 rfl (by kernel_rfl)) (Nat.le_of_ble_eq_true (by kernel_rfl)) (by kernel_rfl) (by kernel_rfl) (by rintro _ _ ⟨_, _, ⟨_, _, _, rfl, rfl⟩, rfl, rfl⟩; exact Nat.le_of_ble_eq_true (by kernel_rfl)) 0 rfl (by kernel_rfl)) (Nat.le_of_ble_eq_true (by kernel_rfl)) (by kernel_rfl) (by kernel_rfl) (by rintro _ _ ⟨_, _, ⟨_, _, ⟨_, _, _, rfl, rfl⟩, rfl, rfl⟩, rfl, rfl⟩; exact Nat.le_of_ble_eq_true (by kernel_rfl)) 0 rfl hkC) (by kernel_rfl) (by kernel_rfl) (by kernel_rfl) ?_)
          rintro _ _ ⟨_, _, ⟨_, _, ⟨_, _, ⟨F1_10, f11, f12, rfl, rfl⟩, rfl, rfl⟩, rfl, rfl⟩, rfl, rfl⟩
          refine R.go 4 (R.ar ((y : Int) + 1) (by kernel_rfl) (by first | omega | (rw [List.length_append, List.length_singleton]; omega)) (by first | omega | (rw [List.length_append, List.length_singleton]; omega)) (by kernel_rfl) ?_)
          exact R.go 2 (R.stop R2 (by kernel_rfl) (N3 (y + 1, F1_10) [0, 1, 4] (some [0, 1, 2]) _ (by kernel_rfl) (canonF (fr := frC) (fun (frX : List AV) => (⟨(frm 56 [(0, .ptr 1 0), (1, LI im), (4, AI ((y : Int) + 1))]), [rowA eLI 24 1 F1_10, .box 163 [AI n, LI xs, AI m, LI ys, .bool onto, .bool one, AI mo, .ref 0], .frame usC frX]⟩ : St)) (hfC.ren _ (by kernel_rfl)) (by kernel_rfl) (by kernel_rfl)) ⟨(by omega), (by omega), (by first | assumption | exact fun h => (by assumption : GM n m F2 → GM n m _) ((by assumption : GM n m Fd → GM n m F2) h))⟩ (by show ((m - (y + 1)).toNat) < ((m - y).toNat); omega)))
        · refine R.go 4 (R.ar ((y : Int) + 1) (by kernel_rfl) (by first | omega | (rw [List.length_append, List.length_singleton]; omega)) (by first | omega | (rw [List.length_append, List.length_singleton]; omega)) (by kernel_rfl) ?_)
          exact R.go 2 (R.stop R2 (by kernel_rfl) (N3 (y + 1, F2) [0, 1, 4] (some [0, 1, 2]) _ (by kernel_rfl) (canonF (fr := frC) (fun (frX : List AV) => (⟨(frm 56 [(0, .ptr 1 0), (1, LI im), (4, AI ((y : Int) + 1))]), [rowA eLI 24 1 F2, .box 163 [AI n, LI xs, AI m, LI ys, .bool onto, .bool one, AI mo, .ref 0], .frame usC frX]⟩ : St)) (hfC.ren _ (by kernel_rfl)) (by kernel_rfl) (by kernel_rfl)) ⟨(by omega), (by omega), (by first | assumption | exact fun h => (by assumption : GM n m F2 → GM n m _) ((by assumption : GM n m Fd → GM n m F2) h))⟩ (by show ((m - (y + 1)).toNat) < ((m - y).toNat); omega)))
      · exact R.go 1 (R.retX (res := .tup []) (hp' := [rowA eLI 24 1 F2, .box 163 [AI n, LI xs, AI m, LI ys, .bool onto, .bool one, AI mo, .ref 0], .dead]) (by kernel_rfl) (by kernel_rfl) (by kernel_rfl) (by kernel_rfl) ⟨[0, 1], by kernel_rfl, by decide, F2, by first | assumption | omega | (rw [List.length_append, List.length_singleton]; omega) | exact fun h => gm_snoc h (by omega) him, by first | assumption | omega | (rw [List.length_append, List.length_singleton]; omega) | exact fun h => gm_snoc h (by omega) him, by kernel_rfl, by kernel_rfl⟩)
    · refine R.skp (decide ((y : Int) < m)) true (by kernel_rfl) (dF c6) (by kernel_rfl) ?_
      refine R.skp (decide ((y : Int) < m)) true (by kernel_rfl) (dF c6) (by kernel_rfl) ?_
      refine R.skp (decide ((y : Int) < m)) true (by kernel_rfl) (dF c6) (by kernel_rfl) ?_
      refine R.skp (decide ((y : Int) < m)) true (by kernel_rfl) (dF c6) (by kernel_rfl) ?_
      refine R.skp (decide ((y : Int) < m)) true (by kernel_rfl) (dF c6) (by kernel_rfl) ?_
      refine R.skp (decide ((y : Int) < m)) true (by kernel_rfl) (dF c6) (by kernel_rfl) ?_
      refine R.skp (decide ((y : Int) < m)) true (by kernel_rfl) (dF c6) (by kernel_rfl) ?_
      refine R.skp (decide ((y : Int) < m)) true (by kernel_rfl) (dF c6) (by kernel_rfl) ?_
      refine R.skp (decide ((y : Int) < m)) true (by kernel_rfl) (dF c6) (by kernel_rfl) ?_
      refine R.skp (decide ((y : Int) < m)) true (by kernel_rfl) (dF c6) (by kernel_rfl) ?_
      refine R.pick (decide ((y : Int) < m)) false (by kernel_rfl) (dF c6) (by kernel_rfl) ?_
      exact R.go 3 (R.retX (res := .tup []) (hp' := [rowA eLI 24 1 F2, .box 163 [AI n, LI xs, AI m, LI ys, .bool onto, .bool one, AI mo, .ref 0], .dead]) (by kernel_rfl) (by kernel_rfl) (by kernel_rfl) (by kernel_rfl) ⟨[0, 1], by kernel_rfl, by decide, F2, by first | assumption | omega | (rw [List.length_append, List.length_singleton]; omega) | exact fun h => gm_snoc h (by omega) him, by first | assumption | omega | (rw [List.length_append, List.length_singleton]; omega) | exact fun h => gm_snoc h (by omega) him, by kernel_rfl, by kernel_rfl⟩)

theorem findX_c (n : Int) (xs : List Int) (m : Int) (ys : List Int) (hF : okFr n xs = true) (hG : okFr m ys = true) : CallX Tryz.prog 90 [.agg [AI n, LI xs], .agg [AI m, LI ys], .bool false, .bool false, AI 20] [] (fun (resX : AV) (objX : List AObj) => ∃ L : List (List Int), (L.length ≤ 20) ∧ (GM n m L) ∧ resX = LLI L ∧ objX = []) := by
  have hr := okFr_rel hF
  have hb : 0 ≤ n ∧ n ≤ 8 ∧ (xs.length : Int) = n := ⟨hr.1, hr.2.1, hr.2.2.1⟩
  refine CallX.dropE (CallX.ofF Tryz.func90 rfl (by kernel_rfl) ?_)
  intro usC frC hfC
  refine R.go 9 (R.bx 1 (by kernel_rfl) ?_)
  refine R.kfix 0 (us := usC) (by kernel_rfl) (bxL_kill 1 [AI n, LI xs] _ (hfC.kill 1 (Nat.le_of_ble_eq_true (by kernel_rfl)))) ?_
  refine R.bx 2 (by kernel_rfl) ?_
  refine R.kfix 0 (us := usC) (by kernel_rfl) (bxL_kill 2 [AI m, LI ys] _ (hfC.kill 2 (Nat.le_of_ble_eq_true (by kernel_rfl)))) ?_
  refine R.go 36 (R.lit (s := 1) (n := 0) (cs := rows eI []) (by kernel_rfl) (by kernel_rfl) ?_)
  refine R.deadF 1 (by kernel_rfl) (by kernel_rfl) ?_
  refine R.deadF 2 (by kernel_rfl) (by kernel_rfl) ?_
  refine R.callZ (CallY.inF 0 usC frC (CallY.inF 0 [] [] (CallY.inF 0 [] [] (goX_c n.toNat n xs m ys false false 20 [] [] (by first | omega | (rw [List.length_append, List.length_singleton]; omega) | (simp; omega)) (by assumption) (by assumption) (by first | assumption | exact snoc_lt him (by omega) (by omega) | (intro i hi; simp at hi)) (by first | omega | simp)) (Nat.le_of_ble_eq_true (by kernel_rfl)) (by kernel_rfl) (by kernel_rfl) (by rintro _ _ ⟨_, _, _, rfl, rfl⟩; exact Nat.le_of_ble_eq_true (by kernel_rfl)) 1 rfl (by kernel_rfl)) (Nat.le_of_ble_eq_true (by kernel_rfl)) (by kernel_rfl) (by kernel_rfl) (by rintro _ _ ⟨_, _, ⟨_, _, _, rfl, rfl⟩, rfl, rfl⟩; exact Nat.le_of_ble_eq_true (by kernel_rfl)) 2 rfl (by kernel_rfl)) (Nat.le_of_ble_eq_true (by kernel_rfl)) (by kernel_rfl) (by kernel_rfl) (by rintro _ _ ⟨_, _, ⟨_, _, ⟨_, _, _, rfl, rfl⟩, rfl, rfl⟩, rfl, rfl⟩; exact Nat.le_of_ble_eq_true (by kernel_rfl)) 3 rfl (hfC.kill 3 (Nat.le_of_ble_eq_true (by kernel_rfl)))) (by kernel_rfl) (by kernel_rfl) (by kernel_rfl) ?_
  rintro _ _ ⟨_, _, ⟨_, _, ⟨_, _, ⟨F1_1, f2, f3, rfl, rfl⟩, rfl, rfl⟩, rfl, rfl⟩, rfl, rfl⟩
  refine R.go 9 (R.frz 3 (by kernel_rfl) ?_)
  refine R.kfix 0 (us := usC) (by kernel_rfl) (hfC.frz 3 (LLI F1_1) (Nat.le_of_ble_eq_true (by kernel_rfl))) ?_
  exact R.retX (res := LLI F1_1) (hp' := [.dead, .frame [] [], .frame [] [], .dead, .box 163 [AI n, LI xs, AI m, LI ys, .bool false, .bool false, AI 20, LLI F1_1]]) (by kernel_rfl) (by kernel_rfl) (by kernel_rfl) (by kernel_rfl) ⟨[], by kernel_rfl, by decide, F1_1, by first | assumption | omega | (intro j hj; simp at hj) | exact (by assumption : GM n m [] → GM n m _) (fun j hj => absurd hj (by simp)), by first | assumption | omega | (intro j hj; simp at hj) | exact (by assumption : GM n m [] → GM n m _) (fun j hj => absurd hj (by simp)), by kernel_rfl, by kernel_rfl⟩

end Go.Proofs.YtgebepfdphmjcaaGreat


/-! Formulas as lists of nodes. -/
namespace Go.Proofs.YtgebepfdphmjcaaGreat
open Go.RowKit Go.Abs

theorem l02False_c : CallA Tryz.prog 163 [] (ownA eN 126 2 [(1, 0)]) := by
  refine CallA.of Tryz.func163 rfl (by kernel_rfl) ?_
  exact R.go 10 (R.retE (ownA eN 126 2 [(1, 0)]) (by kernel_rfl) (by kernel_rfl) (by rfl))

theorem l02Var_c (v : Int) : CallA Tryz.prog 164 [AI v] (ownA eN 126 2 [(0, v)]) := by
  refine CallA.of Tryz.func164 rfl (by kernel_rfl) ?_
  exact R.go 11 (R.retE (ownA eN 126 2 [(0, v)]) (by kernel_rfl) (by kernel_rfl) (by rfl))

theorem l02Pair_c (k : Int) (a : List (Int × Int)) (b : List (Int × Int)) (ha : a.length ≤ 1000000) (hb : b.length ≤ 1000000) : CallA Tryz.prog 105 [AI k, LN a, LN b] (ownA eN 126 2 ((k, 0) :: (a ++ b))) := by
  refine CallA.of Tryz.func105 rfl (by kernel_rfl) ?_
  refine R.go 10 (R.app eN [(k, 0)] a 0 126 2 16 (by kernel_rfl) eN_one (by decide) (by first | omega | (simp <;> omega)) (by kernel_rfl) ?_)
  refine R.go 1 (R.app eN ([(k, 0)] ++ a) b 0 126 2 16 (by kernel_rfl) eN_one (by decide) (by first | omega | (simp <;> omega)) (by kernel_rfl) ?_)
  exact R.go 2 (R.retE (ownA eN 126 2 ([(k, 0)] ++ a ++ b)) (by kernel_rfl) (by kernel_rfl) (by first | (rfl) | (exfalso; omega)))

theorem l02Not_c (a : List (Int × Int)) (ha : a.length ≤ 1000000) : CallA Tryz.prog 165 [LN a] (ownA eN 126 2 ((4, 0) :: (a ++ [(1, 0)]))) := by
  refine CallA.of Tryz.func165 rfl (by kernel_rfl) ?_
  refine R.go 7 (R.call true (l02False_c).frz (by kernel_rfl) rfl (by kernel_rfl) ?_)
  refine R.call true (l02Pair_c 4 a [(1, 0)] ha (by first | omega | (simp <;> omega))) (by kernel_rfl) rfl (by kernel_rfl) ?_
  exact R.go 2 (R.retE (ownA eN 126 2 ((4, 0) :: (a ++ [(1, 0)]))) (by kernel_rfl) (by kernel_rfl) (by rfl))

end Go.Proofs.YtgebepfdphmjcaaGreat


/-! Draws of formulas. -/
namespace Go.Proofs.YtgebepfdphmjcaaGreat
open Go.RowKit Go.Abs

theorem l02Pre_c (k : Int) (a : List (Int × Int)) (ha : a.length ≤ 1000000) : CallA Tryz.prog 145 [AI k, LN a] (ownA eN 126 2 ((k, 0) :: a)) := by
  refine CallA.of Tryz.func145 rfl (by kernel_rfl) ?_
  refine R.go 10 (R.app eN [(k, 0)] a 0 126 2 16 (by kernel_rfl) eN_one (by decide) (by first | omega | (simp <;> omega)) (by kernel_rfl) ?_)
  exact R.go 2 (R.retE (ownA eN 126 2 ([(k, 0)] ++ a)) (by kernel_rfl) (by kernel_rfl) (by first | (rfl) | (exfalso; omega)))

theorem drawX_c : ∀ (k : Nat) (c : List Int) (p : Nat) (h : Int) (size : Int) (vars : Int) (modal : Bool) (hk : size.toNat = k) (hc : BY c) (hs : size ≤ 1000), CallX Tryz.prog 103 [.ptr 0 0, AI size, AI vars, .bool modal] [.box 120 [LB c, AI (p : Int), .int .u64 h]] (fun (resX : AV) (objX : List AObj) => ∃ r : List (Int × Int), ∃ p1 : Nat, ∃ h1 : Int, (((r.length : Int) ≤ size ∨ r.length ≤ 1) ∧ 1 ≤ r.length) ∧ resX = LN r ∧ objX = [.box 120 [LB c, AI (p1 : Int), .int .u64 h1]]) := by
  intro k
  induction k using Nat.strongRecOn with
  | _ k ih =>
  intro c p h size vars modal hk hc hs
  refine CallX.dropE (CallX.ofF Tryz.func103 rfl (by kernel_rfl) ?_)
  intro usC frC hfC
  refine R.go 10 ?_
  by_cases c1 : size ≤ 2
  · refine R.skp (decide (size ≤ 2)) false (by kernel_rfl) (dT c1) (by kernel_rfl) ?_
    refine R.skp (decide (size ≤ 2)) false (by kernel_rfl) (dT c1) (by kernel_rfl) ?_
    refine R.skp (decide (size ≤ 2)) false (by kernel_rfl) (dT c1) (by kernel_rfl) ?_
    refine R.pick (decide (size ≤ 2)) true (by kernel_rfl) (dT c1) (by kernel_rfl) ?_
    refine R.go 6 (R.callX (CallX.inF 1 usC frC (nextX_c c p h 8 hc) (Nat.le_of_ble_eq_true (by kernel_rfl)) (by kernel_rfl) (by kernel_rfl) (by rintro _ _ ⟨_, _, _, _, rfl, rfl⟩; exact Nat.le_of_ble_eq_true (by kernel_rfl))) (by kernel_rfl) (by kernel_rfl) (by kernel_rfl) ?_)
    rintro _ _ ⟨_, _, ⟨v_2, p1_3, h1_4, f5, rfl, rfl⟩, rfl, rfl⟩
    refine R.go 2 (R.cond (v_2 = 0) (by kernel_rfl) (fun c6 => ?_) (fun c6 => ?_))
    · refine R.go 2 (R.call true (l02False_c).frz (by kernel_rfl) rfl (by kernel_rfl) ?_)
      exact R.go 2 (R.retX (res := LN [(1, 0)]) (hp' := [.box 120 [LB c, AI (p1_3 : Int), .int .u64 h1_4], .dead]) (by kernel_rfl) (by kernel_rfl) (by kernel_rfl) (by kernel_rfl) ⟨[0], by kernel_rfl, by decide, [(1, 0)], p1_3, h1_4, by first | (simp; done) | (simp only [List.length_cons, List.length_append, List.length_nil]; omega), by kernel_rfl, by kernel_rfl⟩)
    · refine R.go 5 (R.callX (CallX.inF 1 usC frC (nextX_c c p1_3 h1_4 vars hc) (Nat.le_of_ble_eq_true (by kernel_rfl)) (by kernel_rfl) (by kernel_rfl) (by rintro _ _ ⟨_, _, _, _, rfl, rfl⟩; exact Nat.le_of_ble_eq_true (by kernel_rfl))) (by kernel_rfl) (by kernel_rfl) (by kernel_rfl) ?_)
      rintro _ _ ⟨_, _, ⟨v_7, p1_8, h1_9, f10, rfl, rfl⟩, rfl, rfl⟩
      refine R.call true (l02Var_c v_7).frz (by kernel_rfl) rfl (by kernel_rfl) ?_
      exact R.go 2 (R.retX (res := LN [(0, v_7)]) (hp' := [.box 120 [LB c, AI (p1_8 : Int), .int .u64 h1_9], .dead]) (by kernel_rfl) (by kernel_rfl) (by kernel_rfl) (by kernel_rfl) ⟨[0], by kernel_rfl, by decide, [(0, v_7)], p1_8, h1_9, by first | (simp; done) | (simp only [List.length_cons, List.length_append, List.length_nil]; omega), by kernel_rfl, by kernel_rfl⟩)
  · refine R.want (decide (size ≤ 2)) false (by kernel_rfl) (dF c1) ?_
    refine R.go 1 (R.want (decide (size ≤ 2)) false (by kernel_rfl) (dF c1) ?_)
    refine R.callX (CallX.inF 1 usC frC (nextX_c c p h 9 hc) (Nat.le_of_ble_eq_true (by kernel_rfl)) (by kernel_rfl) (by kernel_rfl) (by rintro _ _ ⟨_, _, _, _, rfl, rfl⟩; exact Nat.le_of_ble_eq_true (by kernel_rfl))) (by kernel_rfl) (by kernel_rfl) (by kernel_rfl) ?_
    rintro _ _ ⟨_, _, ⟨v_11, p1_12, h1_13, f14, rfl, rfl⟩, rfl, rfl⟩
    refine R.want (decide (size ≤ 2)) false (by kernel_rfl) (dF c1) ?_
    refine R.go 1 (R.pick (decide (size ≤ 2)) false (by kernel_rfl) (dF c1) (by kernel_rfl) ?_)
    refine R.go 1 (R.cond (v_11 = 0) (by kernel_rfl) (fun c15 => ?_) (fun c15 => ?_))
    · refine R.go 4 (R.callX (CallX.inF 1 usC frC (nextX_c c p1_12 h1_13 8 hc) (Nat.le_of_ble_eq_true (by kernel_rfl)) (by kernel_rfl) (by kernel_rfl) (by rintro _ _ ⟨_, _, _, _, rfl, rfl⟩; exact Nat.le_of_ble_eq_true (by kernel_rfl))) (by kernel_rfl) (by kernel_rfl) (by kernel_rfl) ?_)
      rintro _ _ ⟨_, _, ⟨v_16, p1_17, h1_18, f19, rfl, rfl⟩, rfl, rfl⟩
      refine R.go 2 (R.cond (v_16 = 0) (by kernel_rfl) (fun c20 => ?_) (fun c20 => ?_))
      · refine R.go 2 (R.call true (l02False_c).frz (by kernel_rfl) rfl (by kernel_rfl) ?_)
        exact R.go 2 (R.retX (res := LN [(1, 0)]) (hp' := [.box 120 [LB c, AI (p1_17 : Int), .int .u64 h1_18], .dead]) (by kernel_rfl) (by kernel_rfl) (by kernel_rfl) (by kernel_rfl) ⟨[0], by kernel_rfl, by decide, [(1, 0)], p1_17, h1_18, by first | (simp; done) | (simp only [List.length_cons, List.length_append, List.length_nil]; omega), by kernel_rfl, by kernel_rfl⟩)
      · refine R.go 5 (R.callX (CallX.inF 1 usC frC (nextX_c c p1_17 h1_18 vars hc) (Nat.le_of_ble_eq_true (by kernel_rfl)) (by kernel_rfl) (by kernel_rfl) (by rintro _ _ ⟨_, _, _, _, rfl, rfl⟩; exact Nat.le_of_ble_eq_true (by kernel_rfl))) (by kernel_rfl) (by kernel_rfl) (by kernel_rfl) ?_)
        rintro _ _ ⟨_, _, ⟨v_21, p1_22, h1_23, f24, rfl, rfl⟩, rfl, rfl⟩
        refine R.call true (l02Var_c v_21).frz (by kernel_rfl) rfl (by kernel_rfl) ?_
        exact R.go 2 (R.retX (res := LN [(0, v_21)]) (hp' := [.box 120 [LB c, AI (p1_22 : Int), .int .u64 h1_23], .dead]) (by kernel_rfl) (by kernel_rfl) (by kernel_rfl) (by kernel_rfl) ⟨[0], by kernel_rfl, by decide, [(0, v_21)], p1_22, h1_23, by first | (simp; done) | (simp only [List.length_cons, List.length_append, List.length_nil]; omega), by kernel_rfl, by kernel_rfl⟩)
    · refine R.go 6 ?_
      refine (Bool.eq_false_or_eq_true (modal)).elim (fun c25 => ?_) (fun c25 => ?_)
      · refine R.want (modal) true (by kernel_rfl) c25 ?_
        refine R.go 1 (R.want (modal) true (by kernel_rfl) c25 ?_)
        refine R.callX (CallX.inF 1 usC frC (nextX_c c p1_12 h1_13 3 hc) (Nat.le_of_ble_eq_true (by kernel_rfl)) (by kernel_rfl) (by kernel_rfl) (by rintro _ _ ⟨_, _, _, _, rfl, rfl⟩; exact Nat.le_of_ble_eq_true (by kernel_rfl))) (by kernel_rfl) (by kernel_rfl) (by kernel_rfl) ?_
        rintro _ _ ⟨_, _, ⟨v_26, p1_27, h1_28, f29, rfl, rfl⟩, rfl, rfl⟩
        refine R.want (modal) true (by kernel_rfl) c25 ?_
        refine R.go 1 (R.pick (modal) true (by kernel_rfl) c25 (by kernel_rfl) ?_)
        refine R.go 1 (R.cond (v_26 = 0) (by kernel_rfl) (fun c30 => ?_) (fun c30 => ?_))
        · refine R.go 3 (R.callX (CallX.inF 1 usC frC (nextX_c c p1_27 h1_28 2 hc) (Nat.le_of_ble_eq_true (by kernel_rfl)) (by kernel_rfl) (by kernel_rfl) (by rintro _ _ ⟨_, _, _, _, rfl, rfl⟩; exact Nat.le_of_ble_eq_true (by kernel_rfl))) (by kernel_rfl) (by kernel_rfl) (by kernel_rfl) ?_)
          rintro _ _ ⟨_, _, ⟨v_31, p1_32, h1_33, f34, rfl, rfl⟩, rfl, rfl⟩
          refine R.ar (5 + v_31) (by kernel_rfl) (by omega) (by omega) (by kernel_rfl) ?_
          refine R.go 2 (R.ar (size - 1) (by kernel_rfl) (by omega) (by omega) (by kernel_rfl) ?_)
          refine R.go 2 (R.callX (CallX.inF 1 usC frC (ih (((size - 1) : Int).toNat) (by omega) c p1_32 h1_33 (size - 1) vars modal (by rfl) hc (by omega)) (Nat.le_of_ble_eq_true (by kernel_rfl)) (by kernel_rfl) (by kernel_rfl) (by rintro _ _ ⟨_, _, _, _, rfl, rfl⟩; exact Nat.le_of_ble_eq_true (by kernel_rfl))) (by kernel_rfl) (by kernel_rfl) (by kernel_rfl) ?_)
          rintro _ _ ⟨_, _, ⟨r_35, p1_36, h1_37, f38, rfl, rfl⟩, rfl, rfl⟩
          refine R.call true (l02Pre_c (5 + v_31) r_35 (by first | omega | (simp <;> omega))).frz (by kernel_rfl) rfl (by kernel_rfl) ?_
          exact R.go 2 (R.retX (res := LN (((5 + v_31), 0) :: r_35)) (hp' := [.box 120 [LB c, AI (p1_36 : Int), .int .u64 h1_37], .dead]) (by kernel_rfl) (by kernel_rfl) (by kernel_rfl) (by kernel_rfl) ⟨[0], by kernel_rfl, by decide, ((5 + v_31), 0) :: r_35, p1_36, h1_37, by first | (simp; done) | (simp only [List.length_cons, List.length_append, List.length_nil]; omega), by kernel_rfl, by kernel_rfl⟩)
        · refine R.go 5 (R.callX (CallX.inF 1 usC frC (nextX_c c p1_27 h1_28 6 hc) (Nat.le_of_ble_eq_true (by kernel_rfl)) (by kernel_rfl) (by kernel_rfl) (by rintro _ _ ⟨_, _, _, _, rfl, rfl⟩; exact Nat.le_of_ble_eq_true (by kernel_rfl))) (by kernel_rfl) (by kernel_rfl) (by kernel_rfl) ?_)
          rintro _ _ ⟨_, _, ⟨v_39, p1_40, h1_41, f42, rfl, rfl⟩, rfl, rfl⟩
          refine R.go 2 (R.cond (v_39 = 0) (by kernel_rfl) (fun c43 => ?_) (fun c43 => ?_))
          · refine R.go 4 (R.ar (size - 2) (by kernel_rfl) (by omega) (by omega) (by kernel_rfl) ?_)
            refine R.go 2 (R.callX (CallX.inF 1 usC frC (ih (((size - 2) : Int).toNat) (by omega) c p1_40 h1_41 (size - 2) vars modal (by rfl) hc (by omega)) (Nat.le_of_ble_eq_true (by kernel_rfl)) (by kernel_rfl) (by kernel_rfl) (by rintro _ _ ⟨_, _, _, _, rfl, rfl⟩; exact Nat.le_of_ble_eq_true (by kernel_rfl))) (by kernel_rfl) (by kernel_rfl) (by kernel_rfl) ?_)
            rintro _ _ ⟨_, _, ⟨r_44, p1_45, h1_46, f47, rfl, rfl⟩, rfl, rfl⟩
            refine R.call true (l02Not_c r_44 (by first | omega | (simp <;> omega))).frz (by kernel_rfl) rfl (by kernel_rfl) ?_
            exact R.go 2 (R.retX (res := LN ((4, 0) :: (r_44 ++ [(1, 0)]))) (hp' := [.box 120 [LB c, AI (p1_45 : Int), .int .u64 h1_46], .dead]) (by kernel_rfl) (by kernel_rfl) (by kernel_rfl) (by kernel_rfl) ⟨[0], by kernel_rfl, by decide, (4, 0) :: (r_44 ++ [(1, 0)]), p1_45, h1_46, by first | (simp; done) | (simp only [List.length_cons, List.length_append, List.length_nil]; omega), by kernel_rfl, by kernel_rfl⟩)
          · refine R.go 5 (R.ar (size - 2) (by kernel_rfl) (by omega) (by omega) (by kernel_rfl) ?_)
            refine R.callX (CallX.inF 1 usC frC (nextX_c c p1_40 h1_41 (size - 2) hc) (Nat.le_of_ble_eq_true (by kernel_rfl)) (by kernel_rfl) (by kernel_rfl) (by rintro _ _ ⟨_, _, _, _, rfl, rfl⟩; exact Nat.le_of_ble_eq_true (by kernel_rfl))) (by kernel_rfl) (by kernel_rfl) (by kernel_rfl) ?_
            rintro _ _ ⟨_, _, ⟨v_48, p1_49, h1_50, f51, rfl, rfl⟩, rfl, rfl⟩
            refine R.ar (1 + v_48) (by kernel_rfl) (by omega) (by omega) (by kernel_rfl) ?_
            refine R.go 8 (R.callX (CallX.inF 1 usC frC (ih (((1 + v_48) : Int).toNat) (by omega) c p1_49 h1_50 (1 + v_48) vars modal (by rfl) hc (by omega)) (Nat.le_of_ble_eq_true (by kernel_rfl)) (by kernel_rfl) (by kernel_rfl) (by rintro _ _ ⟨_, _, _, _, rfl, rfl⟩; exact Nat.le_of_ble_eq_true (by kernel_rfl))) (by kernel_rfl) (by kernel_rfl) (by kernel_rfl) ?_)
            rintro _ _ ⟨_, _, ⟨r_52, p1_53, h1_54, f55, rfl, rfl⟩, rfl, rfl⟩
            refine R.go 5 (R.callX (CallX.inF 1 usC frC (nextX_c c p1_53 h1_54 3 hc) (Nat.le_of_ble_eq_true (by kernel_rfl)) (by kernel_rfl) (by kernel_rfl) (by rintro _ _ ⟨_, _, _, _, rfl, rfl⟩; exact Nat.le_of_ble_eq_true (by kernel_rfl))) (by kernel_rfl) (by kernel_rfl) (by kernel_rfl) ?_)
            rintro _ _ ⟨_, _, ⟨v_56, p1_57, h1_58, f59, rfl, rfl⟩, rfl, rfl⟩
            refine R.ar (2 + v_56) (by kernel_rfl) (by omega) (by omega) (by kernel_rfl) ?_
            refine R.go 3 (R.ar (size - 1) (by kernel_rfl) (by omega) (by omega) (by kernel_rfl) ?_)
            refine R.go 1 (R.ar ((size - 1) - (1 + v_48)) (by kernel_rfl) (by omega) (by omega) (by kernel_rfl) ?_)
            refine R.go 2 (R.callX (CallX.inF 1 usC frC (ih ((((size - 1) - (1 + v_48)) : Int).toNat) (by omega) c p1_57 h1_58 ((size - 1) - (1 + v_48)) vars modal (by rfl) hc (by omega)) (Nat.le_of_ble_eq_true (by kernel_rfl)) (by kernel_rfl) (by kernel_rfl) (by rintro _ _ ⟨_, _, _, _, rfl, rfl⟩; exact Nat.le_of_ble_eq_true (by kernel_rfl))) (by kernel_rfl) (by kernel_rfl) (by kernel_rfl) ?_)
            rintro _ _ ⟨_, _, ⟨r_60, p1_61, h1_62, f63, rfl, rfl⟩, rfl, rfl⟩
            refine R.call true (l02Pair_c (2 + v_56) r_52 r_60 (by first | omega | (simp <;> omega)) (by first | omega | (simp <;> omega))).frz (by kernel_rfl) rfl (by kernel_rfl) ?_
            exact R.go 2 (R.retX (res := LN (((2 + v_56), 0) :: (r_52 ++ r_60))) (hp' := [.box 120 [LB c, AI (p1_61 : Int), .int .u64 h1_62], .dead]) (by kernel_rfl) (by kernel_rfl) (by kernel_rfl) (by kernel_rfl) ⟨[0], by kernel_rfl, by decide, ((2 + v_56), 0) :: (r_52 ++ r_60), p1_61, h1_62, by first | (simp; done) | (simp only [List.length_cons, List.length_append, List.length_nil]; omega), by kernel_rfl, by kernel_rfl⟩)
      · refine R.skp (modal) true (by kernel_rfl) c25 (by kernel_rfl) ?_
        refine R.skp (modal) true (by kernel_rfl) c25 (by kernel_rfl) ?_
        refine R.skp (modal) true (by kernel_rfl) c25 (by kernel_rfl) ?_
        refine R.pick (modal) false (by kernel_rfl) c25 (by kernel_rfl) ?_
        refine R.go 7 (R.callX (CallX.inF 1 usC frC (nextX_c c p1_12 h1_13 6 hc) (Nat.le_of_ble_eq_true (by kernel_rfl)) (by kernel_rfl) (by kernel_rfl) (by rintro _ _ ⟨_, _, _, _, rfl, rfl⟩; exact Nat.le_of_ble_eq_true (by kernel_rfl))) (by kernel_rfl) (by kernel_rfl) (by kernel_rfl) ?_)
        rintro _ _ ⟨_, _, ⟨v_64, p1_65, h1_66, f67, rfl, rfl⟩, rfl, rfl⟩
        refine R.go 2 (R.cond (v_64 = 0) (by kernel_rfl) (fun c68 => ?_) (fun c68 => ?_))
        · refine R.go 4 (R.ar (size - 2) (by kernel_rfl) (by omega) (by omega) (by kernel_rfl) ?_)
          refine R.go 2 (R.callX (CallX.inF 1 usC frC (ih (((size - 2) : Int).toNat) (by omega) c p1_65 h1_66 (size - 2) vars modal (by rfl) hc (by omega)) (Nat.le_of_ble_eq_true (by kernel_rfl)) (by kernel_rfl) (by kernel_rfl) (by rintro _ _ ⟨_, _, _, _, rfl, rfl⟩; exact Nat.le_of_ble_eq_true (by kernel_rfl))) (by kernel_rfl) (by kernel_rfl) (by kernel_rfl) ?_)
          rintro _ _ ⟨_, _, ⟨r_69, p1_70, h1_71, f72, rfl, rfl⟩, rfl, rfl⟩
          refine R.call true (l02Not_c r_69 (by first | omega | (simp <;> omega))).frz (by kernel_rfl) rfl (by kernel_rfl) ?_
          exact R.go 2 (R.retX (res := LN ((4, 0) :: (r_69 ++ [(1, 0)]))) (hp' := [.box 120 [LB c, AI (p1_70 : Int), .int .u64 h1_71], .dead]) (by kernel_rfl) (by kernel_rfl) (by kernel_rfl) (by kernel_rfl) ⟨[0], by kernel_rfl, by decide, (4, 0) :: (r_69 ++ [(1, 0)]), p1_70, h1_71, by first | (simp; done) | (simp only [List.length_cons, List.length_append, List.length_nil]; omega), by kernel_rfl, by kernel_rfl⟩)
        · refine R.go 5 (R.ar (size - 2) (by kernel_rfl) (by omega) (by omega) (by kernel_rfl) ?_)
          refine R.callX (CallX.inF 1 usC frC (nextX_c c p1_65 h1_66 (size - 2) hc) (Nat.le_of_ble_eq_true (by kernel_rfl)) (by kernel_rfl) (by kernel_rfl) (by rintro _ _ ⟨_, _, _, _, rfl, rfl⟩; exact Nat.le_of_ble_eq_true (by kernel_rfl))) (by kernel_rfl) (by kernel_rfl) (by kernel_rfl) ?_
          rintro _ _ ⟨_, _, ⟨v_73, p1_74, h1_75, f76, rfl, rfl⟩, rfl, rfl⟩
          refine R.ar (1 + v_73) (by kernel_rfl) (by omega) (by omega) (by kernel_rfl) ?_
          refine R.go 8 (R.callX (CallX.inF 1 usC frC (ih (((1 + v_73) : Int).toNat) (by omega) c p1_74 h1_75 (1 + v_73) vars modal (by rfl) hc (by omega)) (Nat.le_of_ble_eq_true (by kernel_rfl)) (by kernel_rfl) (by kernel_rfl) (by rintro _ _ ⟨_, _, _, _, rfl, rfl⟩; exact Nat.le_of_ble_eq_true (by kernel_rfl))) (by kernel_rfl) (by kernel_rfl) (by kernel_rfl) ?_)
          rintro _ _ ⟨_, _, ⟨r_77, p1_78, h1_79, f80, rfl, rfl⟩, rfl, rfl⟩
          refine R.go 5 (R.callX (CallX.inF 1 usC frC (nextX_c c p1_78 h1_79 3 hc) (Nat.le_of_ble_eq_true (by kernel_rfl)) (by kernel_rfl) (by kernel_rfl) (by rintro _ _ ⟨_, _, _, _, rfl, rfl⟩; exact Nat.le_of_ble_eq_true (by kernel_rfl))) (by kernel_rfl) (by kernel_rfl) (by kernel_rfl) ?_)
          rintro _ _ ⟨_, _, ⟨v_81, p1_82, h1_83, f84, rfl, rfl⟩, rfl, rfl⟩
          refine R.ar (2 + v_81) (by kernel_rfl) (by omega) (by omega) (by kernel_rfl) ?_
          refine R.go 3 (R.ar (size - 1) (by kernel_rfl) (by omega) (by omega) (by kernel_rfl) ?_)
          refine R.go 1 (R.ar ((size - 1) - (1 + v_73)) (by kernel_rfl) (by omega) (by omega) (by kernel_rfl) ?_)
          refine R.go 2 (R.callX (CallX.inF 1 usC frC (ih ((((size - 1) - (1 + v_73)) : Int).toNat) (by omega) c p1_82 h1_83 ((size - 1) - (1 + v_73)) vars modal (by rfl) hc (by omega)) (Nat.le_of_ble_eq_true (by kernel_rfl)) (by kernel_rfl) (by kernel_rfl) (by rintro _ _ ⟨_, _, _, _, rfl, rfl⟩; exact Nat.le_of_ble_eq_true (by kernel_rfl))) (by kernel_rfl) (by kernel_rfl) (by kernel_rfl) ?_)
          rintro _ _ ⟨_, _, ⟨r_85, p1_86, h1_87, f88, rfl, rfl⟩, rfl, rfl⟩
          refine R.call true (l02Pair_c (2 + v_81) r_77 r_85 (by first | omega | (simp <;> omega)) (by first | omega | (simp <;> omega))).frz (by kernel_rfl) rfl (by kernel_rfl) ?_
          exact R.go 2 (R.retX (res := LN (((2 + v_81), 0) :: (r_77 ++ r_85))) (hp' := [.box 120 [LB c, AI (p1_86 : Int), .int .u64 h1_87], .dead]) (by kernel_rfl) (by kernel_rfl) (by kernel_rfl) (by kernel_rfl) ⟨[0], by kernel_rfl, by decide, ((2 + v_81), 0) :: (r_77 ++ r_85), p1_86, h1_87, by first | (simp; done) | (simp only [List.length_cons, List.length_append, List.length_nil]; omega), by kernel_rfl, by kernel_rfl⟩)

end Go.Proofs.YtgebepfdphmjcaaGreat


/-! Draws of formulas, second part. -/
namespace Go.Proofs.YtgebepfdphmjcaaGreat
open Go.RowKit Go.Abs

theorem l02Own_c (xs : List (Int × Int)) (hl : xs.length ≤ 1000000000) : CallA Tryz.prog 166 [LN xs] (ownA eN 126 2 xs) := by
  refine CallA.of Tryz.func166 rfl (by kernel_rfl) ?_
  refine R.go 8 (R.app eN [] xs 0 126 2 16 (by kernel_rfl) eN_one (by decide) (by first | omega | (simp <;> omega)) (by kernel_rfl) ?_)
  exact R.go 2 (R.retE (ownA eN 126 2 ([] ++ xs)) (by kernel_rfl) (by kernel_rfl) (by first | (rfl) | (exfalso; omega)))

theorem bendX_c (c : List Int) (p : Nat) (h : Int) (a : List (Int × Int)) (hc : BY c) (ha : 1 ≤ a.length ∧ a.length ≤ 900) : CallX Tryz.prog 104 [.ptr 0 0, LN a] [.box 120 [LB c, AI (p : Int), .int .u64 h]] (fun (resX : AV) (objX : List AObj) => ∃ r : List (Int × Int), ∃ p1 : Nat, ∃ h1 : Int, (r.length ≤ 1000) ∧ resX = LN r ∧ objX = [.box 120 [LB c, AI (p1 : Int), .int .u64 h1]]) := by
  have hcl : c.length ≤ 4096 := hc.1
  have hcb := hc.2
  refine CallX.dropE (CallX.ofF Tryz.func104 rfl (by kernel_rfl) ?_)
  intro usC frC hfC
  refine R.go 7 (R.call true (l02Own_c a (by first | omega | (simp <;> omega))) (by kernel_rfl) rfl (by kernel_rfl) ?_)
  refine R.go 7 (R.callX (CallX.inF 1 usC frC (nextX_c_r1 c p h a.length 126 2 a.length (rows eN a) hc) (Nat.le_of_ble_eq_true (by kernel_rfl)) (by kernel_rfl) (by kernel_rfl) (by rintro _ _ ⟨_, _, _, _, rfl, rfl⟩; exact Nat.le_of_ble_eq_true (by kernel_rfl))) (by kernel_rfl) (by kernel_rfl) (by kernel_rfl) ?_)
  rintro _ _ ⟨_, _, ⟨v_1, p1_2, h1_3, f4, rfl, rfl⟩, rfl, rfl⟩
  refine R.go 6 (R.callX (CallX.inF 1 usC frC (nextX_c_r1 c p1_2 h1_3 5 126 2 a.length (rows eN a) hc) (Nat.le_of_ble_eq_true (by kernel_rfl)) (by kernel_rfl) (by kernel_rfl) (by rintro _ _ ⟨_, _, _, _, rfl, rfl⟩; exact Nat.le_of_ble_eq_true (by kernel_rfl))) (by kernel_rfl) (by kernel_rfl) (by kernel_rfl) ?_)
  rintro _ _ ⟨_, _, ⟨v_5, p1_6, h1_7, f8, rfl, rfl⟩, rfl, rfl⟩
  refine R.go 7 (R.cond (v_5 = 0) (by kernel_rfl) (fun c9 => ?_) (fun c9 => ?_))
  · refine R.go 4 (R.callX (CallX.inF 1 usC frC (nextX_c_r1 c p1_6 h1_7 9 126 2 a.length (rows eN a) hc) (Nat.le_of_ble_eq_true (by kernel_rfl)) (by kernel_rfl) (by kernel_rfl) (by rintro _ _ ⟨_, _, _, _, rfl, rfl⟩; exact Nat.le_of_ble_eq_true (by kernel_rfl))) (by kernel_rfl) (by kernel_rfl) (by kernel_rfl) ?_)
    rintro _ _ ⟨_, _, ⟨v_10, p1_11, h1_12, f13, rfl, rfl⟩, rfl, rfl⟩
    refine R.ar (v_10 - 1) (by kernel_rfl) (by omega) (by omega) (by kernel_rfl) ?_
    refine R.idxO 2 2 a.length ((v_1).toNat) v_1 (by kernel_rfl) (by omega) (by omega) (by kernel_rfl) ?_
    refine R.go 1 (R.stF eN 2 126 2 a (0, 0) ((v_1).toNat) 0 (AI (v_10 - 1)) (v_10 - 1, (a.getD ((v_1).toNat) (0, 0)).2) (by kernel_rfl) eN_len (by omega) (by decide) rfl (by kernel_rfl) ?_)
    refine R.go 7 (R.frz 2 (by kernel_rfl) ?_)
    refine R.kfix 1 (us := usC) (by kernel_rfl) (hfC.frz 2 (LN (a.set ((v_1).toNat) (v_10 - 1, (a.getD ((v_1).toNat) (0, 0)).2))) (Nat.le_of_ble_eq_true (by kernel_rfl))) ?_
    exact R.retX (res := LN (a.set ((v_1).toNat) (v_10 - 1, (a.getD ((v_1).toNat) (0, 0)).2))) (hp' := [.box 120 [LB c, AI (p1_11 : Int), .int .u64 h1_12], .dead, .dead]) (by kernel_rfl) (by kernel_rfl) (by kernel_rfl) (by kernel_rfl) ⟨[0], by kernel_rfl, by decide, a.set ((v_1).toNat) (v_10 - 1, (a.getD ((v_1).toNat) (0, 0)).2), p1_11, h1_12, by first | omega | (simp only [List.length_append, List.length_cons, List.length_nil, List.length_set, List.length_take, List.length_drop]; omega), by kernel_rfl, by kernel_rfl⟩
  · refine R.go 5 (R.cond (v_5 = 1) (by kernel_rfl) (fun c14 => ?_) (fun c14 => ?_))
    · refine R.go 4 (R.lit (s := 1) (n := 5) (cs := rows eI [(-1), 0, 1, 5, 6]) (by kernel_rfl) (by kernel_rfl) ?_)
      refine R.callX (CallX.inF 1 usC frC (pickX_c_r1 c p1_6 h1_7 [(-1), 0, 1, 5, 6] 126 2 a.length (rows eN a) hc (by simp)) (Nat.le_of_ble_eq_true (by kernel_rfl)) (by kernel_rfl) (by kernel_rfl) (by rintro _ _ ⟨_, _, _, rfl, rfl⟩; exact Nat.le_of_ble_eq_true (by kernel_rfl))) (by kernel_rfl) (by kernel_rfl) (by kernel_rfl) ?_
      rintro _ _ ⟨_, _, ⟨v_15, p1_16, h1_17, rfl, rfl⟩, rfl, rfl⟩
      refine R.idxO 2 2 a.length ((v_1).toNat) v_1 (by kernel_rfl) (by omega) (by omega) (by kernel_rfl) ?_
      refine R.go 1 (R.stF eN 2 126 2 a (0, 0) ((v_1).toNat) 1 (AI v_15) ((a.getD ((v_1).toNat) (0, 0)).1, v_15) (by kernel_rfl) eN_len (by omega) (by decide) rfl (by kernel_rfl) ?_)
      refine R.go 7 (R.frz 2 (by kernel_rfl) ?_)
      refine R.kfix 1 (us := usC) (by kernel_rfl) (hfC.frz 2 (LN (a.set ((v_1).toNat) ((a.getD ((v_1).toNat) (0, 0)).1, v_15))) (Nat.le_of_ble_eq_true (by kernel_rfl))) ?_
      exact R.retX (res := LN (a.set ((v_1).toNat) ((a.getD ((v_1).toNat) (0, 0)).1, v_15))) (hp' := [.box 120 [LB c, AI (p1_16 : Int), .int .u64 h1_17], .dead, .dead]) (by kernel_rfl) (by kernel_rfl) (by kernel_rfl) (by kernel_rfl) ⟨[0], by kernel_rfl, by decide, a.set ((v_1).toNat) ((a.getD ((v_1).toNat) (0, 0)).1, v_15), p1_16, h1_17, by first | omega | (simp only [List.length_append, List.length_cons, List.length_nil, List.length_set, List.length_take, List.length_drop]; omega), by kernel_rfl, by kernel_rfl⟩
    · refine R.go 5 (R.cond (v_5 = 2) (by kernel_rfl) (fun c18 => ?_) (fun c18 => ?_))
      · refine R.go 3 (R.callX (CallX.inF 1 usC frC (nextX_c_r1 c p1_6 h1_7 7 126 2 a.length (rows eN a) hc) (Nat.le_of_ble_eq_true (by kernel_rfl)) (by kernel_rfl) (by kernel_rfl) (by rintro _ _ ⟨_, _, _, _, rfl, rfl⟩; exact Nat.le_of_ble_eq_true (by kernel_rfl))) (by kernel_rfl) (by kernel_rfl) (by kernel_rfl) ?_)
        rintro _ _ ⟨_, _, ⟨v_19, p1_20, h1_21, f22, rfl, rfl⟩, rfl, rfl⟩
        refine R.go 2 (R.app eN a [(v_19, 0)] 2 126 2 16 (by kernel_rfl) eN_one (by decide) (by first | omega | (simp <;> omega)) (by kernel_rfl) ?_)
        refine R.kfix 1 (us := usC) (by kernel_rfl) (hfC.kill 2 (Nat.le_of_ble_eq_true (by kernel_rfl))) ?_
        refine R.go 8 (R.frz 2 (by kernel_rfl) ?_)
        refine R.kfix 1 (us := usC) (by kernel_rfl) (hfC.frz 2 (LN (a ++ [(v_19, 0)])) (Nat.le_of_ble_eq_true (by kernel_rfl))) ?_
        exact R.retX (res := LN (a ++ [(v_19, 0)])) (hp' := [.box 120 [LB c, AI (p1_20 : Int), .int .u64 h1_21], .dead, .dead, rowA eN 126 2 [(v_19, 0)]]) (by kernel_rfl) (by kernel_rfl) (by kernel_rfl) (by kernel_rfl) ⟨[0], by kernel_rfl, by decide, a ++ [(v_19, 0)], p1_20, h1_21, by first | omega | (simp only [List.length_append, List.length_cons, List.length_nil, List.length_set, List.length_take, List.length_drop]; omega), by kernel_rfl, by kernel_rfl⟩
      · refine R.go 5 (R.cond (v_5 = 3) (by kernel_rfl) (fun c23 => ?_) (fun c23 => ?_))
        · refine R.go 3 (R.cut eN a 2 126 ((v_1).toNat) v_1 (by kernel_rfl) (by omega) eN_len (by omega) (by kernel_rfl) ?_)
          refine R.kfix 1 (us := usC) (by kernel_rfl) (hfC.kill 2 (Nat.le_of_ble_eq_true (by kernel_rfl))) ?_
          refine R.go 8 (R.frz 2 (by kernel_rfl) ?_)
          refine R.kfix 1 (us := usC) (by kernel_rfl) (hfC.frz 2 (LN (a.take ((v_1).toNat))) (Nat.le_of_ble_eq_true (by kernel_rfl))) ?_
          exact R.retX (res := LN (a.take ((v_1).toNat))) (hp' := [.box 120 [LB c, AI (p1_6 : Int), .int .u64 h1_7], .dead, .dead]) (by kernel_rfl) (by kernel_rfl) (by kernel_rfl) (by kernel_rfl) ⟨[0], by kernel_rfl, by decide, a.take ((v_1).toNat), p1_6, h1_7, by first | omega | (simp only [List.length_append, List.length_cons, List.length_nil, List.length_set, List.length_take, List.length_drop]; omega), by kernel_rfl, by kernel_rfl⟩
        · refine R.go 5 (R.cond (v_5 = 4) (by kernel_rfl) (fun c24 => ?_) (fun c24 => ?_))
          · refine R.any (by decide +kernel) (by kernel_rfl) ?_
            refine R.anyF 0 (by kernel_rfl) (np_retX _ _ _ _ _ _) ?_
            refine R.anyF 1 (by kernel_rfl) (np_retX _ _ _ _ _ _) ?_
            refine R.anyF 3 (by kernel_rfl) (np_retX _ _ _ _ _ _) ?_
            refine R.anyF 4 (by kernel_rfl) (np_retX _ _ _ _ _ _) ?_
            refine R.anyI 5 (AI (IntKind.i64.wrap (v_1 + 1))) (by kernel_rfl) (np_retX _ _ _ _ _ _) ?_
            refine R.del eN a 2 6 7 2 126 16 ((v_1).toNat) v_1 (IntKind.i64.wrap (v_1 + 1)) (by kernel_rfl) (by omega) (by rw [wrap_id (by omega) (by omega)]; omega) eN_len eN_one (by omega) (by decide) (by omega) (np_retX _ _ _ _ _ _) ?_
            refine R.kfix 1 (us := usC) (by kernel_rfl) (hfC.kill 2 (Nat.le_of_ble_eq_true (by kernel_rfl))) ?_
            refine R.any1 8 (by kernel_rfl) (by kernel_rfl) ?_
            refine R.go 2 (R.any0 (by kernel_rfl) ?_)
            refine R.go 6 (R.frz 2 (by kernel_rfl) ?_)
            refine R.kfix 1 (us := usC) (by kernel_rfl) (hfC.frz 2 (LN (a.take ((v_1).toNat) ++ a.drop ((v_1).toNat + 1))) (Nat.le_of_ble_eq_true (by kernel_rfl))) ?_
            exact R.retX (res := LN (a.take ((v_1).toNat) ++ a.drop ((v_1).toNat + 1))) (hp' := [.box 120 [LB c, AI (p1_6 : Int), .int .u64 h1_7], .dead, .dead]) (by kernel_rfl) (by kernel_rfl) (by kernel_rfl) (by kernel_rfl) ⟨[0], by kernel_rfl, by decide, a.take ((v_1).toNat) ++ a.drop ((v_1).toNat + 1), p1_6, h1_7, by first | omega | (simp only [List.length_append, List.length_cons, List.length_nil, List.length_set, List.length_take, List.length_drop]; omega), by kernel_rfl, by kernel_rfl⟩
          · refine R.go 7 (R.frz 2 (by kernel_rfl) ?_)
            refine R.kfix 1 (us := usC) (by kernel_rfl) (hfC.frz 2 (LN a) (Nat.le_of_ble_eq_true (by kernel_rfl))) ?_
            exact R.retX (res := LN a) (hp' := [.box 120 [LB c, AI (p1_6 : Int), .int .u64 h1_7], .dead, .dead]) (by kernel_rfl) (by kernel_rfl) (by kernel_rfl) (by kernel_rfl) ⟨[0], by kernel_rfl, by decide, a, p1_6, h1_7, by first | omega | (simp only [List.length_append, List.length_cons, List.length_nil, List.length_set, List.length_take, List.length_drop]; omega), by kernel_rfl, by kernel_rfl⟩

theorem anyX_c (c : List Int) (p : Nat) (h : Int) (size : Int) (vars : Int) (modal : Bool) (hc : BY c) (hs : size ≤ 100) : CallX Tryz.prog 47 [.ptr 0 0, AI size, AI vars, .bool modal] [.box 120 [LB c, AI (p : Int), .int .u64 h]] (fun (resX : AV) (objX : List AObj) => ∃ r : List (Int × Int), ∃ p1 : Nat, ∃ h1 : Int, (r.length ≤ 1000) ∧ resX = LN r ∧ objX = [.box 120 [LB c, AI (p1 : Int), .int .u64 h1]]) := by
  have hcl : c.length ≤ 4096 := hc.1
  have hcb := hc.2
  refine CallX.dropE (CallX.ofF Tryz.func47 rfl (by kernel_rfl) ?_)
  intro usC frC hfC
  refine R.go 10 (R.callX (CallX.inF 1 usC frC (drawX_c ((size : Int).toNat) c p h size vars modal (by rfl) hc (by omega)) (Nat.le_of_ble_eq_true (by kernel_rfl)) (by kernel_rfl) (by kernel_rfl) (by rintro _ _ ⟨_, _, _, _, rfl, rfl⟩; exact Nat.le_of_ble_eq_true (by kernel_rfl))) (by kernel_rfl) (by kernel_rfl) (by kernel_rfl) ?_)
  rintro _ _ ⟨_, _, ⟨r_1, p1_2, h1_3, f4, rfl, rfl⟩, rfl, rfl⟩
  refine R.go 6 (R.callX (CallX.inF 1 usC frC (nextX_c c p1_2 h1_3 40 hc) (Nat.le_of_ble_eq_true (by kernel_rfl)) (by kernel_rfl) (by kernel_rfl) (by rintro _ _ ⟨_, _, _, _, rfl, rfl⟩; exact Nat.le_of_ble_eq_true (by kernel_rfl))) (by kernel_rfl) (by kernel_rfl) (by kernel_rfl) ?_)
  rintro _ _ ⟨_, _, ⟨v_5, p1_6, h1_7, f8, rfl, rfl⟩, rfl, rfl⟩
  refine R.go 7 (R.cond (v_5 = 0) (by kernel_rfl) (fun c9 => ?_) (fun c9 => ?_))
  · refine R.go 4 (R.callX (CallX.inF 1 usC frC (bendX_c c p1_6 h1_7 r_1 hc (by omega)) (Nat.le_of_ble_eq_true (by kernel_rfl)) (by kernel_rfl) (by kernel_rfl) (by rintro _ _ ⟨_, _, _, _, rfl, rfl⟩; exact Nat.le_of_ble_eq_true (by kernel_rfl))) (by kernel_rfl) (by kernel_rfl) (by kernel_rfl) ?_)
    rintro _ _ ⟨_, _, ⟨r_10, p1_11, h1_12, f13, rfl, rfl⟩, rfl, rfl⟩
    exact R.go 2 (R.retX (res := LN r_10) (hp' := [.box 120 [LB c, AI (p1_11 : Int), .int .u64 h1_12], .dead]) (by kernel_rfl) (by kernel_rfl) (by kernel_rfl) (by kernel_rfl) ⟨[0], by kernel_rfl, by decide, r_10, p1_11, h1_12, by first | assumption | omega, by kernel_rfl, by kernel_rfl⟩)
  · refine R.go 5 (R.cond (v_5 = 1) (by kernel_rfl) (fun c14 => ?_) (fun c14 => ?_))
    · refine R.go 1 (R.loop ((fun | (b, q, k) => (⟨(frm 42 [(0, .ptr 0 0), (2, AI vars), (3, .bool modal), (9, LN b)]), [.box 120 [LB c, AI (q : Int), .int .u64 k], .frame usC frC]⟩ : St) : (List (Int × Int)) × Nat × Int → St)) (fun | (b, q, k) => (1 ≤ b.length) ∧ (b.length ≤ 200)) (fun | (b, q, k) => 200 - b.length) (r_1, p1_6, h1_7) [0, 2, 3, 9] none (by kernel_rfl) (by kernel_rfl) (by kernel_rfl) ⟨(by omega), (by omega)⟩ ?_)
      rintro ⟨b, q, k⟩ ⟨h18_1, h18_2⟩ R15 N16
      refine R.go 7 ?_
      by_cases c19 : (b.length : Int) ≤ 40
      · refine R.want (decide ((b.length : Int) ≤ 40)) true (by kernel_rfl) (dT c19) ?_
        refine R.go 1 (R.want (decide ((b.length : Int) ≤ 40)) true (by kernel_rfl) (dT c19) ?_)
        refine R.callX (CallX.inF 1 usC frC (nextX_c c q k 60 hc) (Nat.le_of_ble_eq_true (by kernel_rfl)) (by kernel_rfl) (by kernel_rfl) (by rintro _ _ ⟨_, _, _, _, rfl, rfl⟩; exact Nat.le_of_ble_eq_true (by kernel_rfl))) (by kernel_rfl) (by kernel_rfl) (by kernel_rfl) ?_
        rintro _ _ ⟨_, _, ⟨v_20, p1_21, h1_22, f23, rfl, rfl⟩, rfl, rfl⟩
        refine R.want (decide ((b.length : Int) ≤ 40)) true (by kernel_rfl) (dT c19) ?_
        refine R.go 1 (R.pick (decide ((b.length : Int) ≤ 40)) true (by kernel_rfl) (dT c19) (by kernel_rfl) ?_)
        refine R.go 1 (R.cond (v_20 > 0) (by kernel_rfl) (fun c24 => ?_) (fun c24 => ?_))
        · refine R.go 4 (R.callX (CallX.inF 1 usC frC (nextX_c c p1_21 h1_22 3 hc) (Nat.le_of_ble_eq_true (by kernel_rfl)) (by kernel_rfl) (by kernel_rfl) (by rintro _ _ ⟨_, _, _, _, rfl, rfl⟩; exact Nat.le_of_ble_eq_true (by kernel_rfl))) (by kernel_rfl) (by kernel_rfl) (by kernel_rfl) ?_)
          rintro _ _ ⟨_, _, ⟨v_25, p1_26, h1_27, f28, rfl, rfl⟩, rfl, rfl⟩
          refine R.ar (2 + v_25) (by kernel_rfl) (by omega) (by omega) (by kernel_rfl) ?_
          refine R.go 4 (R.callX (CallX.inF 1 usC frC (drawX_c ((6 : Int).toNat) c p1_26 h1_27 6 vars modal (by rfl) hc (by omega)) (Nat.le_of_ble_eq_true (by kernel_rfl)) (by kernel_rfl) (by kernel_rfl) (by rintro _ _ ⟨_, _, _, _, rfl, rfl⟩; exact Nat.le_of_ble_eq_true (by kernel_rfl))) (by kernel_rfl) (by kernel_rfl) (by kernel_rfl) ?_)
          rintro _ _ ⟨_, _, ⟨r_29, p1_30, h1_31, f32, rfl, rfl⟩, rfl, rfl⟩
          refine R.call true (l02Pair_c (2 + v_25) b r_29 (by first | omega | (simp <;> omega)) (by first | omega | (simp <;> omega))).frz (by kernel_rfl) rfl (by kernel_rfl) ?_
          exact R.go 3 (R.stop R15 (by kernel_rfl) (N16 (((2 + v_25), 0) :: (b ++ r_29), p1_30, h1_31) [0, 2, 3, 9] none _ (by kernel_rfl) (by kernel_rfl) ⟨(by (simp only [List.length_cons, List.length_append]; omega)), (by (simp only [List.length_cons, List.length_append]; omega))⟩ (by show (200 - (((2 + v_25), 0) :: (b ++ r_29)).length) < (200 - b.length); (simp only [List.length_cons, List.length_append]; omega))))
        · exact R.go 7 (R.retX (res := LN b) (hp' := [.box 120 [LB c, AI (p1_21 : Int), .int .u64 h1_22], .dead]) (by kernel_rfl) (by kernel_rfl) (by kernel_rfl) (by kernel_rfl) ⟨[0], by kernel_rfl, by decide, b, p1_21, h1_22, by first | assumption | omega, by kernel_rfl, by kernel_rfl⟩)
      · refine R.skp (decide ((b.length : Int) ≤ 40)) true (by kernel_rfl) (dF c19) (by kernel_rfl) ?_
        refine R.skp (decide ((b.length : Int) ≤ 40)) true (by kernel_rfl) (dF c19) (by kernel_rfl) ?_
        refine R.skp (decide ((b.length : Int) ≤ 40)) true (by kernel_rfl) (dF c19) (by kernel_rfl) ?_
        refine R.pick (decide ((b.length : Int) ≤ 40)) false (by kernel_rfl) (dF c19) (by kernel_rfl) ?_
        exact R.go 9 (R.retX (res := LN b) (hp' := [.box 120 [LB c, AI (q : Int), .int .u64 k], .dead]) (by kernel_rfl) (by kernel_rfl) (by kernel_rfl) (by kernel_rfl) ⟨[0], by kernel_rfl, by decide, b, q, k, by first | assumption | omega, by kernel_rfl, by kernel_rfl⟩)
    · exact R.go 7 (R.retX (res := LN r_1) (hp' := [.box 120 [LB c, AI (p1_6 : Int), .int .u64 h1_7], .dead]) (by kernel_rfl) (by kernel_rfl) (by kernel_rfl) (by kernel_rfl) ⟨[0], by kernel_rfl, by decide, r_1, p1_6, h1_7, by first | assumption | omega, by kernel_rfl, by kernel_rfl⟩)

end Go.Proofs.YtgebepfdphmjcaaGreat
