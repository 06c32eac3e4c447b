/- Texts of the proof: G04, G05, G06, Sym7, Sym8, DICE, G07. -/
import Derived.Test.YtgebepfdphmjcaaPartL

/-! Heights of formulas; signs of a variable; dice. -/
namespace Go.Proofs.Ytgebepfdphmjcaa
open Go.RowKit Go.Abs

theorem prts_modal {a : List (Int × Int)} (h : (a.getD 0 (0, 0)).1 = 5 ∨ (a.getD 0 (0, 0)).1 = 6) : (prtsL a).length = 1 := by rw [prts_1 (partsN_1 h)]; rfl
/-- The signs of the places of a variable, as bits. -/
def sgT (a : List (Int × Int)) (v : Int) : Nat → Int
  | 0 => 0
  | i + 1 => if (a.getD i (0, 0)).1 = 0 ∧ (a.getD i (0, 0)).2 = v then (if (polF a 1).getD i 0 = 1 then bor (sgT a v i) 1 else bor (sgT a v i) 2) else sgT a v i
theorem sgT_1 {a : List (Int × Int)} {v o : Int} {i : Nat} (ho : o = sgT a v i) (h : (a.getD i (0, 0)).1 = 0 ∧ (a.getD i (0, 0)).2 = v) (h2 : (polF a 1).getD i 0 = 1) : bor o 1 = sgT a v (i + 1) := by rw [sgT, if_pos h, if_pos h2, ho]
theorem sgT_2 {a : List (Int × Int)} {v o : Int} {i : Nat} (ho : o = sgT a v i) (h : (a.getD i (0, 0)).1 = 0 ∧ (a.getD i (0, 0)).2 = v) (h2 : ¬ (polF a 1).getD i 0 = 1) : bor o 2 = sgT a v (i + 1) := by rw [sgT, if_pos h, if_neg h2, ho]
theorem sgT_0 {a : List (Int × Int)} {v o : Int} {i : Nat} (ho : o = sgT a v i) (h : ¬ ((a.getD i (0, 0)).1 = 0 ∧ (a.getD i (0, 0)).2 = v)) : o = sgT a v (i + 1) := by rw [sgT, if_neg h, ho]
/-- A sign is 1 or -1. -/
theorem neg_sgn {p : Int} (hp : p = 1 ∨ p = -1) : (IntKind.i64.wrap (0 - p) = 1 ∨ IntKind.i64.wrap (0 - p) = -1) ∧ IntKind.i64.wrap (0 - p) = 0 - p := by
  rcases hp with rfl | rfl
  · exact ⟨.inr rfl, rfl⟩
  · exact ⟨.inl rfl, rfl⟩
theorem polF_sgn {nv : Nat} {a : List (Int × Int)} (ha : OKM nv a) : ∀ p : Int, p = 1 ∨ p = -1 → ∀ x ∈ polF a p, x = 1 ∨ x = -1 := by
  refine okm_ind (C := fun a => ∀ p : Int, p = 1 ∨ p = -1 → ∀ x ∈ polF a p, x = 1 ∨ x = -1) ?_ ?_ ?_ ?_ ha
  · intro v h0 h1 p hp x hx
    have : x = p := by simpa [polF, polK, partsN] using hx
    rw [this]; exact hp
  · intro s p hp x hx
    have : x = p := by simpa [polF, polK, partsN] using hx
    rw [this]; exact hp
  · intro k s L R hk hok hL hR iL iR p hp x hx
    obtain ⟨el, er⟩ := okm_two_e (s := s) hk hL hR
    rw [polF_e hok, List.getD_cons_zero] at hx
    simp only at hx
    rw [if_neg (by rw [(partsN_two k).2 hk]; decide), if_pos ((partsN_two k).2 hk), el, er] at hx
    rcases List.mem_cons.1 hx with rfl | hx
    · exact hp
    · rcases List.mem_append.1 hx with hx | hx
      · refine iL _ ?_ x hx
        unfold sgN
        split
        · exact (neg_sgn hp).1
        · exact hp
      · exact iR p hp x hx
  · intro k s L hk hok hL iL p hp x hx
    rw [polF_e hok, List.getD_cons_zero] at hx
    simp only at hx
    rw [if_pos (partsN_1 hk), List.drop_succ_cons, List.drop_zero] at hx
    rcases List.mem_cons.1 hx with rfl | hx
    · exact hp
    · exact iL p hp x hx
theorem pol_gt {nv : Nat} {a : List (Int × Int)} (ha : OKM nv a) {i : Nat} (hi : i < a.length) : (polF a 1).getD i 0 > 0 ↔ (polF a 1).getD i 0 = 1 := by
  have hm : (polF a 1).getD i 0 ∈ polF a 1 := by
    rw [List.getD_eq_getElem?_getD, List.getElem?_eq_getElem (by rw [polF_len ha]; exact hi)]
    exact List.getElem_mem _
  have := polF_sgn ha 1 (.inl rfl) _ hm
  omega

theorem depX_c : ∀ (k : Nat) (nv : Nat) (a : List (Int × Int)) (hk : a.length = k) (hok : OKM nv a) (hl : a.length ≤ 300000), CallX Try.prog 53 [LN a] [] (fun (resX : AV) (objX : List AObj) => ∃ h : Int, ∃ m : Int, (0 ≤ m ∧ m ≤ h ∧ h ≤ (a.length : Int)) ∧ resX = .tup [AI h, AI m] ∧ objX = []) := by
  intro k
  induction k using Nat.strongRecOn with
  | _ k ih =>
  intro nv a hk hok hl
  have hpos := okm_pos hok
  have hp2 := prts_le a
  have hmo := prts_modal (a := a)
  refine CallX.dropE (CallX.ofF Try.func53 rfl (by kernel_rfl) ?_)
  intro usC frC hfC
  refine R.go 9 (R.call true (partsA_c nv a hok (by first | omega | (simp <;> omega))) (by kernel_rfl) rfl (by kernel_rfl) ?_)
  refine R.frz 1 (by kernel_rfl) ?_
  refine R.kfix 0 (us := usC) (by kernel_rfl) (hfC.frz 1 (LLN (prtsL a)) (Nat.le_of_ble_eq_true (by kernel_rfl))) ?_
  refine R.go 4 (R.loop ((fun | (i, h, m) => (⟨(frm 37 [(0, LN a), (2, AI h), (3, AI m), (9, LLN (prtsL a)), (10, AI ((prtsL a).length)), (11, AI (i : Int))]), [.frame usC frC]⟩ : St) : Nat × Int × Int → St)) (fun | (i, h, m) => (i ≤ (prtsL a).length) ∧ (0 ≤ m ∧ h ≤ (a.length : Int)) ∧ ((i = 0 ∧ m = 0 ∧ h = 0) ∨ (1 ≤ i ∧ m + 1 ≤ h))) (fun | (i, h, m) => (prtsL a).length - i) (0, 0, 0) [0, 2, 3, 9, 10, 11] (some [0]) (by kernel_rfl) (by kernel_rfl) (canonF (fr := frC) (fun (frX : List AV) => (⟨(frm 37 [(0, LN a), (2, AI 0), (3, AI 0), (9, LLN (prtsL a)), (10, AI ((prtsL a).length)), (11, AI 0)]), [.frame usC frX]⟩ : St)) (hfC.ren _ (by kernel_rfl)) (by kernel_rfl) (by kernel_rfl)) ⟨(by omega), (by omega), (by omega)⟩ ?_)
  rintro ⟨i, h, m⟩ ⟨h4_1, h4_2, h4_3⟩ R1 N2
  refine R.go 5 (R.cond ((i : Int) < ((prtsL a).length : Int)) (by kernel_rfl) (fun c5 => ?_) (fun c5 => ?_))
  · refine R.go 5 (R.idx eLN (prtsL a) [] i (i : Int) (by kernel_rfl) rfl eLN_len (by omega) (by kernel_rfl) ?_)
    have hpr := prts_ok hok (show i < (prtsL a).length by omega)
    have hpr1 := hpr.1
    have hpr2 := hpr.2
    refine R.go 6 (R.callX (CallX.inF 0 usC frC (ih (((prtsL a).getD i []).length) (by omega) nv ((prtsL a).getD i []) (by first | rfl | simp) (by assumption) (by omega)) (Nat.le_of_ble_eq_true (by kernel_rfl)) (by kernel_rfl) (by kernel_rfl) (by rintro _ _ ⟨_, _, _, rfl, rfl⟩; exact Nat.le_of_ble_eq_true (by kernel_rfl))) (by kernel_rfl) (by kernel_rfl) (by kernel_rfl) ?_)
    rintro _ _ ⟨_, _, ⟨h_6, m_7, f8, rfl, rfl⟩, rfl, rfl⟩
    refine R.go 9 (R.ar (h_6 + 1) (by kernel_rfl) (by omega) (by omega) (by kernel_rfl) ?_)
    refine R.go 9 (R.ar ((i : Int) + 1) (by kernel_rfl) (by omega) (by omega) (by kernel_rfl) ?_)
    exact R.go 2 (R.stop R1 (by kernel_rfl) (N2 (i + 1, if (h_6 + 1) > h then (h_6 + 1) else h, if m_7 > m then m_7 else m) [0, 2, 3, 9, 10, 11] none _ (by kernel_rfl) (by kernel_rfl) ⟨(by omega), (by (split <;> split <;> omega)), (by (split <;> split <;> omega))⟩ (by show ((prtsL a).length - (i + 1)) < ((prtsL a).length - i); omega)))
  · refine R.go 5 (R.idx eN a (0, 0) 0 0 (by kernel_rfl) rfl eN_len (by omega) (by kernel_rfl) ?_)
    refine R.go 2 (R.call true (isModal_c ((a.getD 0 (0, 0)).1)) (by kernel_rfl) rfl (by kernel_rfl) ?_)
    refine R.go 1 (R.cond (((a.getD 0 (0, 0)).1) = 5 ∨ ((a.getD 0 (0, 0)).1) = 6) (by kernel_rfl) (fun c9 => ?_) (fun c9 => ?_))
    · have hm1 := hmo (by assumption)
      refine R.go 2 (R.ar (m + 1) (by kernel_rfl) (by omega) (by omega) (by kernel_rfl) ?_)
      exact R.go 9 (R.retX (res := .tup [AI h, AI (m + 1)]) (hp' := [.dead]) (by kernel_rfl) (by kernel_rfl) (by kernel_rfl) (by kernel_rfl) ⟨[], by kernel_rfl, by decide, h, m + 1, by first | assumption | omega, by kernel_rfl, by kernel_rfl⟩)
    · exact R.go 8 (R.retX (res := .tup [AI h, AI m]) (hp' := [.dead]) (by kernel_rfl) (by kernel_rfl) (by kernel_rfl) (by kernel_rfl) ⟨[], by kernel_rfl, by decide, h, m, by first | assumption | omega, by kernel_rfl, by kernel_rfl⟩)

theorem varPol_c (nv : Nat) (a : List (Int × Int)) (v : Int) (hok : OKM nv a) (hl : a.length ≤ 300000) : CallA Try.prog 46 [LN a, AI v] (AI (sgT a v a.length)) := by
  have hpl := polF_len hok 1
  refine CallA.of Try.func46 rfl (by kernel_rfl) ?_
  refine R.go 12 (R.call true (polarities_c nv a hok hl) (by kernel_rfl) rfl (by kernel_rfl) ?_)
  refine R.go 4 (R.loop ((fun | (i, o) => (⟨(frm 31 [(0, LN a), (1, AI v), (5, AI o), (9, .ref 0), (10, AI ((polF a 1).length)), (11, AI (i : Int))]), [rowA eI 2 1 (polF a 1)]⟩ : St) : Nat × Int → St)) (fun | (i, o) => (i ≤ a.length) ∧ (o = sgT a v i)) (fun | (i, o) => a.length - i) (0, 0) [0, 1, 5, 9, 10, 11] none (by kernel_rfl) (by kernel_rfl) (by kernel_rfl) ⟨(by omega), (by rfl)⟩ ?_)
  rintro ⟨i, o⟩ ⟨h4_1, h4_2⟩ R1 N2
  refine R.go 5 (R.cond ((i : Int) < ((polF a 1).length : Int)) (by kernel_rfl) (fun c5 => ?_) (fun c5 => ?_))
  · refine R.go 6 (R.idxO 0 1 (polF a 1).length i (i : Int) (by kernel_rfl) rfl (by omega) (by kernel_rfl) ?_)
    refine R.ldI (polF a 1) i (by kernel_rfl) (by omega) (by kernel_rfl) ?_
    refine R.go 8 (R.idx eN a (0, 0) i (i : Int) (by kernel_rfl) rfl eN_len (by omega) (by kernel_rfl) ?_)
    refine R.go 3 (R.eqN false ((a.getD i (0, 0)).1) ((a.getD i (0, 0)).2) 0 v (!decide (((a.getD i (0, 0)).1) = 0 ∧ ((a.getD i (0, 0)).2) = v)) (by kernel_rfl) (by kernel_rfl) (by rfl) ?_)
    refine R.go 1 (R.condN (((a.getD i (0, 0)).1) = 0 ∧ ((a.getD i (0, 0)).2) = v) (by kernel_rfl) (fun c6 => ?_) (fun c6 => ?_))
    · refine R.go 2 (R.ar ((i : Int) + 1) (by kernel_rfl) (by omega) (by omega) (by kernel_rfl) ?_)
      exact R.go 2 (R.stop R1 (by kernel_rfl) (N2 (i + 1, o) [0, 1, 5, 9, 10, 11] none _ (by kernel_rfl) (by kernel_rfl) ⟨(by omega), (by first | exact sgT_1 (by assumption) (by assumption) (by assumption) | exact sgT_2 (by assumption) (by assumption) (by assumption) | exact sgT_0 (by assumption) (by assumption))⟩ (by show (a.length - (i + 1)) < (a.length - i); omega)))
    · refine R.go 6 (R.cond (((polF a 1).getD i 0) = 1) (by kernel_rfl) (fun c7 => ?_) (fun c7 => ?_))
      · refine R.go 7 (R.ar ((i : Int) + 1) (by kernel_rfl) (by omega) (by omega) (by kernel_rfl) ?_)
        exact R.go 2 (R.stop R1 (by kernel_rfl) (N2 (i + 1, bor o 1) [0, 1, 5, 9, 10, 11] none _ (by kernel_rfl) (by kernel_rfl) ⟨(by omega), (by first | exact sgT_1 (by assumption) (by assumption) (by assumption) | exact sgT_2 (by assumption) (by assumption) (by assumption) | exact sgT_0 (by assumption) (by assumption))⟩ (by show (a.length - (i + 1)) < (a.length - i); omega)))
      · refine R.go 7 (R.ar ((i : Int) + 1) (by kernel_rfl) (by omega) (by omega) (by kernel_rfl) ?_)
        exact R.go 2 (R.stop R1 (by kernel_rfl) (N2 (i + 1, bor o 2) [0, 1, 5, 9, 10, 11] none _ (by kernel_rfl) (by kernel_rfl) ⟨(by omega), (by first | exact sgT_1 (by assumption) (by assumption) (by assumption) | exact sgT_2 (by assumption) (by assumption) (by assumption) | exact sgT_0 (by assumption) (by assumption))⟩ (by show (a.length - (i + 1)) < (a.length - i); omega)))
  · exact R.go 6 (R.retE (AI o) (by kernel_rfl) (by kernel_rfl) (by first | (rw [‹o = sgT a v i›, show i = a.length by omega]) | (exfalso; omega)))

theorem l03Signs_c (nv : Nat) (a : List (Int × Int)) (v : Int) (hok : OKM nv a) (hl : a.length ≤ 300000) : CallA Try.prog 48 [LN a, AI v] (AI (sgT a v a.length)) := by
  have hpl := polF_len hok 1
  refine CallA.of Try.func48 rfl (by kernel_rfl) ?_
  refine R.go 7 (R.call true (l03Pol_c a.length nv a 1 (by first | rfl | simp) hok hl) (by kernel_rfl) rfl (by kernel_rfl) ?_)
  refine R.go 9 (R.loop ((fun | (i, o) => (⟨(frm 41 [(0, LN a), (1, AI v), (5, .ref 0), (6, AI o), (7, AI (i : Int))]), [rowA eI 2 1 (polF a 1)]⟩ : St) : Nat × Int → St)) (fun | (i, o) => (i ≤ a.length) ∧ (o = sgT a v i)) (fun | (i, o) => a.length - i) (0, 0) [0, 1, 5, 6, 7] none (by kernel_rfl) (by kernel_rfl) (by kernel_rfl) ⟨(by omega), (by rfl)⟩ ?_)
  rintro ⟨i, o⟩ ⟨h4_1, h4_2⟩ R1 N2
  refine R.go 8 (R.cond ((i : Int) < (a.length : Int)) (by kernel_rfl) (fun c5 => ?_) (fun c5 => ?_))
  · refine R.go 8 (R.idx eN a (0, 0) i (i : Int) (by kernel_rfl) rfl eN_len (by omega) (by kernel_rfl) ?_)
    refine R.go 4 ?_
    by_cases c6 : ((a.getD i (0, 0)).1) = 0
    · refine R.want (!decide (((a.getD i (0, 0)).1) = 0)) false (by kernel_rfl) (nF c6) ?_
      refine R.go 1 (R.want (!decide (((a.getD i (0, 0)).1) = 0)) false (by kernel_rfl) (nF c6) ?_)
      refine R.go 1 (R.want (!decide (((a.getD i (0, 0)).1) = 0)) false (by kernel_rfl) (nF c6) ?_)
      refine R.idx eN a (0, 0) i (i : Int) (by kernel_rfl) rfl eN_len (by omega) (by kernel_rfl) ?_
      refine R.want (!decide (((a.getD i (0, 0)).1) = 0)) false (by kernel_rfl) (nF c6) ?_
      refine R.go 1 (R.want (!decide (((a.getD i (0, 0)).1) = 0)) false (by kernel_rfl) (nF c6) ?_)
      refine R.go 1 (R.want (!decide (((a.getD i (0, 0)).1) = 0)) false (by kernel_rfl) (nF c6) ?_)
      refine R.go 1 (R.want (!decide (((a.getD i (0, 0)).1) = 0)) false (by kernel_rfl) (nF c6) ?_)
      refine R.go 1 (R.pick (!decide (((a.getD i (0, 0)).1) = 0)) false (by kernel_rfl) (nF c6) (by kernel_rfl) ?_)
      refine R.go 1 (R.condN (((a.getD i (0, 0)).2) = v) (by kernel_rfl) (fun c7 => ?_) (fun c7 => ?_))
      · refine R.go 3 (R.ar ((i : Int) + 1) (by kernel_rfl) (by omega) (by omega) (by kernel_rfl) ?_)
        exact R.go 2 (R.stop R1 (by kernel_rfl) (N2 (i + 1, o) [0, 1, 5, 6, 7] none _ (by kernel_rfl) (by kernel_rfl) ⟨(by omega), (by first | exact sgT_1 (by assumption) ⟨by assumption, by assumption⟩ (hgt.1 (by assumption)) | exact sgT_2 (by assumption) ⟨by assumption, by assumption⟩ (fun e => absurd (hgt.2 e) (by assumption)) | exact sgT_0 (by assumption) (fun e => absurd e.1 (by assumption)) | exact sgT_0 (by assumption) (fun e => absurd e.2 (by assumption)))⟩ (by show (a.length - (i + 1)) < (a.length - i); omega)))
      · have hgt := pol_gt hok (show i < a.length by omega)
        refine R.go 5 (R.idxO 0 1 (polF a 1).length i (i : Int) (by kernel_rfl) rfl (by omega) (by kernel_rfl) ?_)
        refine R.ldI (polF a 1) i (by kernel_rfl) (by omega) (by kernel_rfl) ?_
        refine R.go 2 (R.cond (((polF a 1).getD i 0) > 0) (by kernel_rfl) (fun c8 => ?_) (fun c8 => ?_))
        · refine R.go 8 (R.ar ((i : Int) + 1) (by kernel_rfl) (by omega) (by omega) (by kernel_rfl) ?_)
          exact R.go 2 (R.stop R1 (by kernel_rfl) (N2 (i + 1, bor o 1) [0, 1, 5, 6, 7] none _ (by kernel_rfl) (by kernel_rfl) ⟨(by omega), (by first | exact sgT_1 (by assumption) ⟨by assumption, by assumption⟩ (hgt.1 (by assumption)) | exact sgT_2 (by assumption) ⟨by assumption, by assumption⟩ (fun e => absurd (hgt.2 e) (by assumption)) | exact sgT_0 (by assumption) (fun e => absurd e.1 (by assumption)) | exact sgT_0 (by assumption) (fun e => absurd e.2 (by assumption)))⟩ (by show (a.length - (i + 1)) < (a.length - i); omega)))
        · refine R.go 8 (R.ar ((i : Int) + 1) (by kernel_rfl) (by omega) (by omega) (by kernel_rfl) ?_)
          exact R.go 2 (R.stop R1 (by kernel_rfl) (N2 (i + 1, bor o 2) [0, 1, 5, 6, 7] none _ (by kernel_rfl) (by kernel_rfl) ⟨(by omega), (by first | exact sgT_1 (by assumption) ⟨by assumption, by assumption⟩ (hgt.1 (by assumption)) | exact sgT_2 (by assumption) ⟨by assumption, by assumption⟩ (fun e => absurd (hgt.2 e) (by assumption)) | exact sgT_0 (by assumption) (fun e => absurd e.1 (by assumption)) | exact sgT_0 (by assumption) (fun e => absurd e.2 (by assumption)))⟩ (by show (a.length - (i + 1)) < (a.length - i); omega)))
    · refine R.skp (!decide (((a.getD i (0, 0)).1) = 0)) false (by kernel_rfl) (nT c6) (by kernel_rfl) ?_
      refine R.skp (!decide (((a.getD i (0, 0)).1) = 0)) false (by kernel_rfl) (nT c6) (by kernel_rfl) ?_
      refine R.skp (!decide (((a.getD i (0, 0)).1) = 0)) false (by kernel_rfl) (nT c6) (by kernel_rfl) ?_
      refine R.skp (!decide (((a.getD i (0, 0)).1) = 0)) false (by kernel_rfl) (nT c6) (by kernel_rfl) ?_
      refine R.skp (!decide (((a.getD i (0, 0)).1) = 0)) false (by kernel_rfl) (nT c6) (by kernel_rfl) ?_
      refine R.skp (!decide (((a.getD i (0, 0)).1) = 0)) false (by kernel_rfl) (nT c6) (by kernel_rfl) ?_
      refine R.skp (!decide (((a.getD i (0, 0)).1) = 0)) false (by kernel_rfl) (nT c6) (by kernel_rfl) ?_
      refine R.pick (!decide (((a.getD i (0, 0)).1) = 0)) true (by kernel_rfl) (nT c6) (by kernel_rfl) ?_
      refine R.go 5 (R.ar ((i : Int) + 1) (by kernel_rfl) (by omega) (by omega) (by kernel_rfl) ?_)
      exact R.go 2 (R.stop R1 (by kernel_rfl) (N2 (i + 1, o) [0, 1, 5, 6, 7] none _ (by kernel_rfl) (by kernel_rfl) ⟨(by omega), (by first | exact sgT_1 (by assumption) ⟨by assumption, by assumption⟩ (hgt.1 (by assumption)) | exact sgT_2 (by assumption) ⟨by assumption, by assumption⟩ (fun e => absurd (hgt.2 e) (by assumption)) | exact sgT_0 (by assumption) (fun e => absurd e.1 (by assumption)) | exact sgT_0 (by assumption) (fun e => absurd e.2 (by assumption)))⟩ (by show (a.length - (i + 1)) < (a.length - i); omega)))
  · exact R.go 6 (R.retE (AI o) (by kernel_rfl) (by kernel_rfl) (by first | (rw [‹o = sgT a v i›, show i = a.length by omega]) | (exfalso; omega)))

end Go.Proofs.Ytgebepfdphmjcaa


/-! Formulas are monotone in a variable that occurs with one sign. -/
namespace Go.Proofs.Ytgebepfdphmjcaa
open Go.RowKit Go.Abs

def exB (a : List (Int × Int)) (v s : Int) : Nat → Bool
  | 0 => false
  | i + 1 => exB a v s i || (decide ((a.getD i (0, 0)).1 = 0 ∧ (a.getD i (0, 0)).2 = v) && decide ((polF a 1).getD i 0 = s))
theorem exB_no {a : List (Int × Int)} {v s : Int} : ∀ {N : Nat}, exB a v s N = false → ∀ i, i < N → (a.getD i (0, 0)).1 = 0 ∧ (a.getD i (0, 0)).2 = v → ¬ (polF a 1).getD i 0 = s
  | N + 1, h, i, hi, ho => by
    rw [exB, Bool.or_eq_false_iff] at h
    by_cases e : i = N
    · subst e
      have h2 := h.2
      rw [decide_eq_true ho, Bool.true_and] at h2
      exact of_decide_eq_false h2
    · exact exB_no h.1 i (by omega) ho
theorem bor_v : bor 0 1 = 1 ∧ bor 1 1 = 1 ∧ bor 2 1 = 3 ∧ bor 3 1 = 3 ∧ bor 0 2 = 2 ∧ bor 1 2 = 3 ∧ bor 2 2 = 2 ∧ bor 3 2 = 3 := by decide
theorem sgT_val {nv : Nat} {a : List (Int × Int)} (ha : OKM nv a) (v : Int) : ∀ i, i ≤ a.length → sgT a v i = (if exB a v 1 i = true then 1 else 0) + (if exB a v (-1) i = true then 2 else 0)
  | 0, _ => rfl
  | i + 1, hi => by
    have ih := sgT_val ha v i (by omega)
    have hm : (polF a 1).getD i 0 ∈ polF a 1 := by
      rw [List.getD_eq_getElem?_getD, List.getElem?_eq_getElem (by rw [polF_len ha]; omega)]
      exact List.getElem_mem _
    have hs := polF_sgn ha 1 (.inl rfl) _ hm
    have hb := bor_v
    rw [sgT, exB, exB, ih]
    generalize (polF a 1).getD i 0 = q at hs
    by_cases ho : (a.getD i (0, 0)).1 = 0 ∧ (a.getD i (0, 0)).2 = v
    · rw [if_pos ho, decide_eq_true ho, Bool.true_and, Bool.true_and]
      rcases hs with rfl | rfl
      · rw [if_pos rfl]
        cases exB a v 1 i <;> cases exB a v (-1) i <;> simp [hb]
      · rw [if_neg (by decide)]
        cases exB a v 1 i <;> cases exB a v (-1) i <;> simp [hb]
    · rw [if_neg ho, decide_eq_false ho, Bool.false_and, Bool.false_and, Bool.or_false, Bool.or_false]
theorem sgT_cases {nv : Nat} {a : List (Int × Int)} (ha : OKM nv a) (v : Int) :
    (sgT a v a.length = 0 → exB a v 1 a.length = false ∧ exB a v (-1) a.length = false) ∧ (sgT a v a.length = 1 → exB a v (-1) a.length = false) ∧ (sgT a v a.length = 2 → exB a v 1 a.length = false) := by
  rw [sgT_val ha v _ (Nat.le_refl _)]
  cases exB a v 1 a.length <;> cases exB a v (-1) a.length <;> simp
theorem occ_sgn {nv : Nat} {a : List (Int × Int)} (ha : OKM nv a) {v s : Int} (hs : s = 1 ∨ s = -1) (h : exB a v (0 - s) a.length = false) : ∀ i, i < a.length → (a.getD i (0, 0)).1 = 0 ∧ (a.getD i (0, 0)).2 = v → (polF a 1).getD i 0 = s := fun i hi ho => by
  have h1 := exB_no h i hi ho
  have hm : (polF a 1).getD i 0 ∈ polF a 1 := by
    rw [List.getD_eq_getElem?_getD, List.getElem?_eq_getElem (by rw [polF_len ha]; exact hi)]
    exact List.getElem_mem _
  have := polF_sgn ha 1 (.inl rfl) _ hm
  omega
theorem getD_cons_app {L R : List (Int × Int)} {x : Int × Int} {i : Nat} : (i < L.length → (x :: (L ++ R)).getD (i + 1) (0, 0) = L.getD i (0, 0)) ∧ (x :: (L ++ R)).getD (i + L.length + 1) (0, 0) = R.getD i (0, 0) := by
  constructor
  · intro h
    rw [List.getD_cons_succ, List.getD_eq_getElem?_getD, List.getElem?_append_left h, ← List.getD_eq_getElem?_getD]
  · rw [List.getD_cons_succ, List.getD_eq_getElem?_getD, List.getElem?_append_right (by omega), Nat.add_sub_cancel, ← List.getD_eq_getElem?_getD]
theorem getI_cons_app {L R : List Int} {x : Int} {i : Nat} : (i < L.length → (x :: (L ++ R)).getD (i + 1) 0 = L.getD i 0) ∧ (x :: (L ++ R)).getD (i + L.length + 1) 0 = R.getD i 0 := by
  constructor
  · intro h
    rw [List.getD_cons_succ, List.getD_eq_getElem?_getD, List.getElem?_append_left h, ← List.getD_eq_getElem?_getD]
  · rw [List.getD_cons_succ, List.getD_eq_getElem?_getD, List.getElem?_append_right (by omega), Nat.add_sub_cancel, ← List.getD_eq_getElem?_getD]
section
variable {n : Int} {xs X Y : List Int}
theorem mono_sgn (hR : okFr n xs = true) (hX : ∀ j : Nat, j < 6 → InM n.toNat (X.getD j 0)) (hY : ∀ j : Nat, j < 6 → InM n.toNat (Y.getD j 0)) {v s : Int} (hs : s = 1 ∨ s = -1) (hv : ∀ u : Int, ¬ u = v → X.getD u.toNat 0 = Y.getD u.toNat 0 ∨ u < 0) (hvv : ∀ w, tb (X.getD v.toNat 0) w = true → tb (Y.getD v.toNat 0) w = true)
    {a : List (Int × Int)} (ha : OKM 6 a) : ∀ p : Int, p = 1 ∨ p = -1 → (∀ i, i < a.length → (a.getD i (0, 0)).1 = 0 ∧ (a.getD i (0, 0)).2 = v → (polF a p).getD i 0 = s) →
      (p = s → ∀ w, w < n.toNat → tr n xs X a w = true → tr n xs Y a w = true) ∧ (¬ p = s → ∀ w, w < n.toNat → tr n xs Y a w = true → tr n xs X a w = true) := by
  refine okm_ind (C := fun a => ∀ p : Int, p = 1 ∨ p = -1 → (∀ i, i < a.length → (a.getD i (0, 0)).1 = 0 ∧ (a.getD i (0, 0)).2 = v → (polF a p).getD i 0 = s) →
      (p = s → ∀ w, w < n.toNat → tr n xs X a w = true → tr n xs Y a w = true) ∧ (¬ p = s → ∀ w, w < n.toNat → tr n xs Y a w = true → tr n xs X a w = true)) ?_ ?_ ?_ ?_ ha
  · intro u h0 h6 p hp ho
    by_cases e : u = v
    · subst e
      have h1 := ho 0 (by simp) ⟨rfl, rfl⟩
      have h2 : p = s := h1
      exact ⟨fun _ w _ h => by rw [tr_var] at h ⊢; exact hvv w h, fun h => absurd h2 h⟩
    · rcases hv u e with e2 | e2
      · exact ⟨fun _ w _ h => by rw [tr_var] at h ⊢; rw [← e2]; exact h, fun _ w _ h => by rw [tr_var] at h ⊢; rw [e2]; exact h⟩
      · omega
  · intro c p hp ho
    exact ⟨fun _ w _ h => (by rw [tr_bot] at h; cases h), fun _ w _ h => (by rw [tr_bot] at h; cases h)⟩
  · intro k c L R hk hok hL hRR iL iR p hp ho
    obtain ⟨el, er⟩ := okm_two_e (s := c) hk hL hRR
    have hpol : polF ((k, c) :: (L ++ R)) p = p :: (polF L (sgN k p) ++ polF R p) := by
      rw [polF_e hok, List.getD_cons_zero]
      simp only
      rw [if_neg (by rw [(partsN_two k).2 hk]; decide), if_pos ((partsN_two k).2 hk), el, er]
    have hpL : sgN k p = 1 ∨ sgN k p = -1 := by
      unfold sgN
      split
      · exact (neg_sgn hp).1
      · exact hp
    have jL := iL (sgN k p) hpL fun i hi hoi => by
      have := ho (i + 1) (by simp; omega) (by rw [getD_cons_app.1 hi]; exact hoi)
      rwa [hpol, getI_cons_app.1 (by rw [polF_len hL]; exact hi)] at this
    have jR := iR p hp fun i hi hoi => by
      have := ho (i + L.length + 1) (by simp; omega) (by rw [getD_cons_app.2]; exact hoi)
      rwa [hpol, ← polF_len hL (sgN k p), getI_cons_app.2] at this
    rcases hk with rfl | rfl | rfl
    · have e : sgN 2 p = p := if_neg (by decide)
      rw [e] at jL
      constructor
      · intro h w hw ht
        rw [tr_and hR hX hL hRR, Bool.and_eq_true] at ht
        rw [tr_and hR hY hL hRR, Bool.and_eq_true]
        exact ⟨jL.1 h w hw ht.1, jR.1 h w hw ht.2⟩
      · intro h w hw ht
        rw [tr_and hR hY hL hRR, Bool.and_eq_true] at ht
        rw [tr_and hR hX hL hRR, Bool.and_eq_true]
        exact ⟨jL.2 h w hw ht.1, jR.2 h w hw ht.2⟩
    · have e : sgN 3 p = p := if_neg (by decide)
      rw [e] at jL
      constructor
      · intro h w hw ht
        rw [tr_or hR hX hL hRR, Bool.or_eq_true] at ht
        rw [tr_or hR hY hL hRR, Bool.or_eq_true]
        exact ht.imp (jL.1 h w hw) (jR.1 h w hw)
      · intro h w hw ht
        rw [tr_or hR hY hL hRR, Bool.or_eq_true] at ht
        rw [tr_or hR hX hL hRR, Bool.or_eq_true]
        exact ht.imp (jL.2 h w hw) (jR.2 h w hw)
    · have e : sgN 4 p = 0 - p := (if_pos rfl).trans (neg_sgn hp).2
      rw [e] at jL
      constructor
      · intro h w hw ht
        rw [tr_imp hR hX hL hRR hw, Bool.or_eq_true] at ht
        rw [tr_imp hR hY hL hRR hw, Bool.or_eq_true]
        refine ht.imp (fun h1 => ?_) (jR.1 h w hw)
        rw [Bool.not_eq_true', ← Bool.not_eq_true] at h1 ⊢
        exact fun h2 => h1 (jL.2 (by omega) w hw h2)
      · intro h w hw ht
        rw [tr_imp hR hY hL hRR hw, Bool.or_eq_true] at ht
        rw [tr_imp hR hX hL hRR hw, Bool.or_eq_true]
        refine ht.imp (fun h1 => ?_) (jR.2 h w hw)
        rw [Bool.not_eq_true', ← Bool.not_eq_true] at h1 ⊢
        exact fun h2 => h1 (jL.1 (by omega) w hw h2)
  · intro k c L hk hok hL iL p hp ho
    have hpol : polF ((k, c) :: L) p = p :: polF L p := by
      rw [polF_e hok, List.getD_cons_zero]
      simp only
      rw [if_pos (partsN_1 hk), List.drop_succ_cons, List.drop_zero]
    have jL := iL p hp fun i hi hoi => by
      have := ho (i + 1) (by simp; omega) (by rw [List.getD_cons_succ]; exact hoi)
      rwa [hpol, List.getD_cons_succ] at this
    have hb := okFr_rel hR
    have hlt : ∀ w j, w < n.toNat → tb (xs.getD w 0) j = true → j < n.toNat := fun w j hw hj => tb_lt (hb.2.2.2.2 w hw) hj
    rcases hk with rfl | rfl
    · constructor
      · intro h w hw ht
        rw [tr_box hR hX hL hw] at ht
        rw [tr_box hR hY hL hw]
        exact fun j hj => jL.1 h j (hlt w j hw hj) (ht j hj)
      · intro h w hw ht
        rw [tr_box hR hY hL hw] at ht
        rw [tr_box hR hX hL hw]
        exact fun j hj => jL.2 h j (hlt w j hw hj) (ht j hj)
    · constructor
      · intro h w hw ht
        rw [tr_dia hR hX hL hw] at ht
        rw [tr_dia hR hY hL hw]
        obtain ⟨j, hj, h2⟩ := ht
        exact ⟨j, hj, jL.1 h j (hlt w j hw hj) h2⟩
      · intro h w hw ht
        rw [tr_dia hR hY hL hw] at ht
        rw [tr_dia hR hX hL hw]
        obtain ⟨j, hj, h2⟩ := ht
        exact ⟨j, hj, jL.2 h j (hlt w j hw hj) h2⟩
end
/-- What does not occur is guarded. -/
theorem gu_free {nv : Nat} {v : Int} {a : List (Int × Int)} (ha : OKM nv a) : (∀ i, i < a.length → ¬ ((a.getD i (0, 0)).1 = 0 ∧ (a.getD i (0, 0)).2 = v)) → guF a v = true := by
  refine okm_ind (C := fun a => (∀ i, i < a.length → ¬ ((a.getD i (0, 0)).1 = 0 ∧ (a.getD i (0, 0)).2 = v)) → guF a v = true) ?_ ?_ ?_ ?_ ha
  · intro u h0 h1 ho
    have h := ho 0 (by simp)
    have hok := okm_var (nv := nv) h0 h1
    rw [← g_3 hok (by simp) h]
    rfl
  · intro c ho
    have h := ho 0 (by simp)
    rw [← g_3 (okm_bot (nv := nv) c) (by simp) h]
    rfl
  · intro k c L R hk hok hL hR iL iR ho
    obtain ⟨el, er⟩ := okm_two_e (s := c) hk hL hR
    rw [← g_3 hok (by simp; omega) (ho 0 (by simp))]
    have hp : prtsL ((k, c) :: (L ++ R)) = [L, R] := by rw [prts_2 (a := (k, c) :: (L ++ R)) (by rw [List.getD_cons_zero]; exact (partsN_two k).2 hk), el, er]
    have h1 := iL fun i hi hoi => ho (i + 1) (by simp; omega) (by rw [getD_cons_app.1 hi]; exact hoi)
    have h2 := iR fun i hi hoi => ho (i + L.length + 1) (by simp; omega) (by rw [getD_cons_app.2]; exact hoi)
    rw [hp]
    simp [h1, h2]
  · intro k c L hk hok hL iL ho
    exact (g_1 hok hk).symm

end Go.Proofs.Ytgebepfdphmjcaa


/-! The law FnPolarity. -/
namespace Go.Proofs.Ytgebepfdphmjcaa
open Go.RowKit Go.Abs

def pC (a : List (Int × Int)) (v : Int) : Int := if isF a = true then (if inR v 0 5 = true then 0 else 2) else 1
def pR (a : List (Int × Int)) (v : Int) : Int := if pC a v = 0 then sgT a v a.length else 0
def gR (a : List (Int × Int)) (v : Int) : Bool := if pC a v = 0 then guF a v else false
theorem pC_1 {a : List (Int × Int)} {v : Int} (h : isF a = false) : pC a v = 1 := by rw [pC, if_neg (by rw [h]; decide)]
theorem pC_2 {a : List (Int × Int)} {v : Int} (h : isF a = true) (h2 : inR v 0 5 = false) : pC a v = 2 := by rw [pC, if_pos h, if_neg (by rw [h2]; decide)]
theorem pC_0 {a : List (Int × Int)} {v : Int} (h : isF a = true) (h2 : inR v 0 5 = true) : pC a v = 0 := by rw [pC, if_pos h, if_pos h2]
theorem pC_ok {a : List (Int × Int)} {v : Int} (h : pC a v = 0) : isF a = true ∧ 0 ≤ v ∧ v ≤ 5 := by
  unfold pC at h
  split at h
  · split at h
    · rename_i h1 h2
      exact ⟨h1, (inR_iff _ _ _).1 h2⟩
    · omega
  · omega
theorem pR_0 {a : List (Int × Int)} {v : Int} (h : pC a v = 0) : sgT a v a.length = pR a v := by rw [pR, if_pos h]
theorem pR_n {a : List (Int × Int)} {v : Int} (h : ¬ pC a v = 0) : 0 = pR a v := by rw [pR, if_neg h]
theorem gR_0 {a : List (Int × Int)} {v : Int} (h : pC a v = 0) : guF a v = gR a v := by rw [gR, if_pos h]
theorem gR_n {a : List (Int × Int)} {v : Int} (h : ¬ pC a v = 0) : false = gR a v := by rw [gR, if_neg h]
theorem tupBB {a b : Bool} {c d : Int} (h : a = b) (h' : c = d) : AV.tup [.bool a, AI c] = AV.tup [.bool b, AI d] := by rw [h, h']
theorem law_gu {a : List (Int × Int)} {v : Int} (h : pC a v = 0) (h0 : pR a v = 0) : gR a v = true := by
  have hok := (isF_okm (pC_ok h).1).1
  rw [← gR_0 h]
  rw [← pR_0 h] at h0
  obtain ⟨c0, _, _⟩ := sgT_cases hok v
  obtain ⟨e1, e2⟩ := c0 h0
  refine gu_free hok fun i hi ho => ?_
  have h1 := exB_no e1 i hi ho
  have h2 := occ_sgn hok (s := 1) (.inl rfl) (v := v) e2 i hi ho
  exact h1 h2
section
variable {n : Int} {xs vs : List Int} {a : List (Int × Int)} {v b : Int}
def vsU (vs : List Int) (v b : Int) : List Int := vs.set v.toNat (bor (vs.getD v.toNat 0) (shl64 1 b))
theorem vsU_in (hm : okMo n xs vs = true) (hv : 0 ≤ v ∧ v < 6) (hb : 0 ≤ b ∧ b < n) : okMo n xs (vsU vs v b) = true ∧ (∀ u : Int, ¬ u = v → vs.getD u.toNat 0 = (vsU vs v b).getD u.toNat 0 ∨ u < 0) ∧ ∀ w, tb (vs.getD v.toNat 0) w = true → tb ((vsU vs v b).getD v.toNat 0) w = true := by
  obtain ⟨r1, r2, r3⟩ := okMo_in hm
  have hr := okFr_rel r1
  obtain ⟨k, hk⟩ := Int.eq_ofNat_of_zero_le hb.1
  have ho : InM n.toNat (shl64 1 b) := by rw [hk]; exact inM_one (by omega) (by omega)
  have hvv := r3 v.toNat (by omega)
  have hbo := inM_bor (n := n.toNat) (by omega) hvv ho
  have hg : ∀ j, (vsU vs v b).getD j 0 = if v.toNat = j then bor (vs.getD v.toNat 0) (shl64 1 b) else vs.getD j 0 := fun j => getD_set_if vs v.toNat j _ 0 (by omega)
  refine ⟨?_, fun u hu => ?_, fun w hw => ?_⟩
  · rw [okMo_3 r1 (by rw [vsU, List.length_set]; omega), Bool.not_eq_true', List.any_eq_false]
    intro x hx
    obtain ⟨j, hj, rfl⟩ := List.getElem_of_mem hx
    rw [vsU, List.length_set] at hj
    have h1 : InM n.toNat ((vsU vs v b).getD j 0) := by
      rw [hg]
      split
      · exact hbo
      · exact r3 j (by omega)
    have := (full_rng (n := n.toNat) (by omega)).1 h1
    rw [List.getD_eq_getElem?_getD, List.getElem?_eq_getElem (by rw [vsU, List.length_set]; exact hj), nn_eq hr.1] at this
    simp only [Option.getD_some] at this
    rw [this]; simp
  · by_cases hu0 : u < 0
    · exact .inr hu0
    · refine .inl ?_
      rw [hg, if_neg (by omega)]
  · rw [hg, if_pos rfl, tb_bor (n := n.toNat) (by omega) hvv ho, hw]; rfl
theorem law_po (hm : mcode n xs vs a = 0) (hp : pC a v = 0) (hb : 0 ≤ b ∧ b < n) : mcode n xs (vsU vs v b) a = 0 ∧ (pR a v = 0 → tval n xs (vsU vs v b) a = tval n xs vs a) ∧ (pR a v = 1 → bnot (tval n xs vs a) (tval n xs (vsU vs v b) a) = 0) ∧ (pR a v = 2 → bnot (tval n xs (vsU vs v b) a) (tval n xs vs a) = 0) := by
  have h1 := mcode_ok hm
  have hpv := pC_ok hp
  obtain ⟨u1, u2, u3⟩ := vsU_in h1.1 (show 0 ≤ v ∧ v < 6 by omega) hb
  obtain ⟨r1, r2, r3⟩ := okMo_in h1.1
  obtain ⟨_, _, q3⟩ := okMo_in u1
  have hr := okFr_rel r1
  have hok := (isF_okm h1.2).1
  have hm2 := mcode_good u1 h1.2
  have tX := tset_in r1 hok r3
  have tY := tset_in r1 hok q3
  have mo := fun s hs ho => mono_sgn r1 r3 q3 (v := v) (s := s) hs u2 u3 hok 1 (.inl rfl) ho
  obtain ⟨c0, c1, c2⟩ := sgT_cases hok v
  rw [pR_0 hp] at c0 c1 c2
  have up : exB a v (-1) a.length = false → ∀ w, tb (tset n xs vs a) w = true → tb (tset n xs (vsU vs v b) a) w = true := fun he w hw =>
    (mo 1 (.inl rfl) (occ_sgn hok (s := 1) (.inl rfl) he)).1 rfl w (tb_lt tX hw) hw
  have dn : exB a v 1 a.length = false → ∀ w, tb (tset n xs (vsU vs v b) a) w = true → tb (tset n xs vs a) w = true := fun he w hw =>
    (mo (-1) (.inr rfl) (occ_sgn hok (s := -1) (.inr rfl) he)).2 (by decide) w (tb_lt tY hw) hw
  unfold tval
  rw [if_pos hm, if_pos hm2]
  refine ⟨hm2, fun h => ?_, fun h => ?_, fun h => ?_⟩
  · obtain ⟨e1, e2⟩ := c0 h
    refine tb_ext tY.1 tX.1 fun w => ?_
    rw [Bool.eq_iff_iff]
    exact ⟨dn e1 w, up e2 w⟩
  · exact (bnot_sub (n := n.toNat) (by omega) tX tY).2 (up (c1 h))
  · exact (bnot_sub (n := n.toNat) (by omega) tY tX).2 (dn (c2 h))
end

theorem l03Code_c (a : List (Int × Int)) (v : Int) (hl : a.length ≤ 1000000) : CallA Try.prog 47 [LN a, AI v] (AI (pC a v)) := by
  refine CallA.of Try.func47 rfl (by kernel_rfl) ?_
  refine R.go 9 (R.call true (l02Is_c a (by first | omega | (simp <;> omega))) (by kernel_rfl) rfl (by kernel_rfl) ?_)
  refine R.go 3 (R.condM (isF a) (by kernel_rfl) (fun c1 => ?_) (fun c1 => ?_))
  · exact R.go 4 (R.retE (AI 1) (by kernel_rfl) (by kernel_rfl) (by first | (apply congrArg AI; first | exact (pC_1 (by assumption)).symm | exact (pC_2 (by assumption) (by assumption)).symm | exact (pC_0 (by assumption) (by assumption)).symm) | (exfalso; omega)))
  · refine R.go 3 (R.call true (l01In_c v 0 5) (by kernel_rfl) rfl (by kernel_rfl) ?_)
    refine R.go 3 (R.condM (inR v 0 5) (by kernel_rfl) (fun c2 => ?_) (fun c2 => ?_))
    · exact R.go 4 (R.retE (AI 2) (by kernel_rfl) (by kernel_rfl) (by first | (apply congrArg AI; first | exact (pC_1 (by assumption)).symm | exact (pC_2 (by assumption) (by assumption)).symm | exact (pC_0 (by assumption) (by assumption)).symm) | (exfalso; omega)))
    · exact R.go 6 (R.retE (AI 0) (by kernel_rfl) (by kernel_rfl) (by first | (apply congrArg AI; first | exact (pC_1 (by assumption)).symm | exact (pC_2 (by assumption) (by assumption)).symm | exact (pC_0 (by assumption) (by assumption)).symm) | (exfalso; omega)))

theorem varCode_c (a : List (Int × Int)) (v : Int) (hl : a.length ≤ 1000000) : CallA Try.prog 45 [LN a, AI v] (AI (pC a v)) := by
  refine CallA.of Try.func45 rfl (by kernel_rfl) ?_
  refine R.go 9 (R.call true (isFormula_c a (by first | omega | (simp <;> omega))) (by kernel_rfl) rfl (by kernel_rfl) ?_)
  refine R.go 3 (R.condM (isF a) (by kernel_rfl) (fun c1 => ?_) (fun c1 => ?_))
  · exact R.go 4 (R.retE (AI 1) (by kernel_rfl) (by kernel_rfl) (by first | (apply congrArg AI; first | exact (pC_1 (by assumption)).symm | exact (pC_2 (by assumption) (by assumption)).symm | exact (pC_0 (by assumption) (by assumption)).symm) | (exfalso; omega)))
  · refine R.go 3 (R.enter (avs := [AI v]) Try.func100 rfl (by kernel_rfl) (by kernel_rfl) (by kernel_rfl) ?_)
    intro us2
    refine R.go 7 (R.call true (inRange_c v 0 5) (by kernel_rfl) rfl (by kernel_rfl) ?_)
    refine R.go 2 (R.back (.bool (inR v 0 5)) (frm 13 [(0, LN a), (1, AI v), (4, AI 0), (5, .bool (!(isF a))), (6, LN a), (7, .bool (isF a)), (8, .bool (!(isF a))), (10, AI v)]) (by kernel_rfl) (by kernel_rfl) (by kernel_rfl) ?_)
    refine R.go 3 (R.condM (inR v 0 5) (by kernel_rfl) (fun c3 => ?_) (fun c3 => ?_))
    · exact R.go 4 (R.retE (AI 2) (by kernel_rfl) (by kernel_rfl) (by first | (apply congrArg AI; first | exact (pC_1 (by assumption)).symm | exact (pC_2 (by assumption) (by assumption)).symm | exact (pC_0 (by assumption) (by assumption)).symm) | (exfalso; omega)))
    · exact R.go 6 (R.retE (AI 0) (by kernel_rfl) (by kernel_rfl) (by first | (apply congrArg AI; first | exact (pC_1 (by assumption)).symm | exact (pC_2 (by assumption) (by assumption)).symm | exact (pC_0 (by assumption) (by assumption)).symm) | (exfalso; omega)))

theorem VP_impl (a : List (Int × Int)) (v : Int) (hl : a.length ≤ 1000000) : CallA Try.prog 11 [LN a, AI v] (.tup [AI (pR a v), AI (pC a v)]) := by
  refine CallA.of Try.func11 rfl (by kernel_rfl) ?_
  refine R.go 10 (R.call true (varCode_c a v hl) (by kernel_rfl) rfl (by kernel_rfl) ?_)
  refine R.go 7 (R.condN ((pC a v) = 0) (by kernel_rfl) (fun c1 => ?_) (fun c1 => ?_))
  · exact R.go 6 (R.retE (.tup [AI 0, AI (pC a v)]) (by kernel_rfl) (by kernel_rfl) (by first | (refine tupI ?_ ?_ <;> first | rfl | exact pR_0 (by assumption) | exact pR_n (by assumption) | exact Eq.symm (by assumption)) | (exfalso; omega)))
  · have hpk := pC_ok (by assumption : pC a v = 0)
    have hok := (isF_okm hpk.1).1
    have hal := (isF_okm hpk.1).2
    refine R.go 5 (R.call true (varPol_c 6 a v (by assumption) (by first | omega | (simp <;> omega))) (by kernel_rfl) rfl (by kernel_rfl) ?_)
    exact R.go 3 (R.retE (.tup [AI (sgT a v a.length), AI 0]) (by kernel_rfl) (by kernel_rfl) (by first | (refine tupI ?_ ?_ <;> first | rfl | exact pR_0 (by assumption) | exact pR_n (by assumption) | exact Eq.symm (by assumption)) | (exfalso; omega)))

theorem VP_spec (a : List (Int × Int)) (v : Int) (hl : a.length ≤ 1000000) : CallA Try.prog 12 [LN a, AI v] (.tup [AI (pR a v), AI (pC a v)]) := by
  refine CallA.of Try.func12 rfl (by kernel_rfl) ?_
  refine R.go 9 (R.call true (l03Code_c a v hl) (by kernel_rfl) rfl (by kernel_rfl) ?_)
  refine R.go 8 (R.condN ((pC a v) = 0) (by kernel_rfl) (fun c1 => ?_) (fun c1 => ?_))
  · exact R.go 6 (R.retE (.tup [AI 0, AI (pC a v)]) (by kernel_rfl) (by kernel_rfl) (by first | (refine tupI ?_ ?_ <;> first | rfl | exact pR_0 (by assumption) | exact pR_n (by assumption) | exact Eq.symm (by assumption)) | (exfalso; omega)))
  · have hpk := pC_ok (by assumption : pC a v = 0)
    have hok := (isF_okm hpk.1).1
    have hal := (isF_okm hpk.1).2
    refine R.go 5 (R.call true (l03Signs_c 6 a v (by assumption) (by first | omega | (simp <;> omega))) (by kernel_rfl) rfl (by kernel_rfl) ?_)
    exact R.go 3 (R.retE (.tup [AI (sgT a v a.length), AI 0]) (by kernel_rfl) (by kernel_rfl) (by first | (refine tupI ?_ ?_ <;> first | rfl | exact pR_0 (by assumption) | exact pR_n (by assumption) | exact Eq.symm (by assumption)) | (exfalso; omega)))

theorem IG_impl (a : List (Int × Int)) (v : Int) (hl : a.length ≤ 1000000) : CallA Try.prog 14 [LN a, AI v] (.tup [.bool (gR a v), AI (pC a v)]) := by
  refine CallA.of Try.func14 rfl (by kernel_rfl) ?_
  refine R.go 10 (R.call true (varCode_c a v hl) (by kernel_rfl) rfl (by kernel_rfl) ?_)
  refine R.go 7 (R.condN ((pC a v) = 0) (by kernel_rfl) (fun c1 => ?_) (fun c1 => ?_))
  · exact R.go 6 (R.retE (.tup [.bool false, AI (pC a v)]) (by kernel_rfl) (by kernel_rfl) (by first | (refine tupBB ?_ ?_ <;> first | rfl | exact gR_0 (by assumption) | exact gR_n (by assumption) | exact Eq.symm (by assumption)) | (exfalso; omega)))
  · have hpk := pC_ok (by assumption : pC a v = 0)
    have hok := (isF_okm hpk.1).1
    have hal := (isF_okm hpk.1).2
    refine R.go 5 (R.call true (isGuarded_c a.length 6 a v (by first | rfl | simp) (by assumption) (by first | omega | (simp <;> omega))) (by kernel_rfl) rfl (by kernel_rfl) ?_)
    exact R.go 3 (R.retE (.tup [.bool (guF a v), AI 0]) (by kernel_rfl) (by kernel_rfl) (by first | (refine tupBB ?_ ?_ <;> first | rfl | exact gR_0 (by assumption) | exact gR_n (by assumption) | exact Eq.symm (by assumption)) | (exfalso; omega)))

theorem DO_impl (a : List (Int × Int)) (hl : a.length ≤ 1000000) : CallX Try.prog 15 [LN a] [] (fun (resX : AV) (objX : List AObj) => ∃ h : Int, ∃ m : Int, ∃ r : Int, (m ≤ h ∧ (isF a = true → r = 0) ∧ 0 ≤ r ∧ r ≤ 1) ∧ resX = .tup [AI h, AI m, AI r] ∧ objX = []) := by
  refine CallX.dropE (CallX.ofF Try.func15 rfl (by kernel_rfl) ?_)
  intro usC frC hfC
  refine R.go 10 (R.call true (isFormula_c a (by first | omega | (simp <;> omega))) (by kernel_rfl) rfl (by kernel_rfl) ?_)
  refine R.go 2 (R.condM (isF a) (by kernel_rfl) (fun c1 => ?_) (fun c1 => ?_))
  · exact R.go 6 (R.retX (res := .tup [AI 0, AI 0, AI 1]) (hp' := [.dead]) (by kernel_rfl) (by kernel_rfl) (by kernel_rfl) (by kernel_rfl) ⟨[], by kernel_rfl, by decide, 0, 0, 1, by first | exact ⟨by omega, fun _ => rfl, by omega, by omega⟩ | exact ⟨by omega, fun h => by simp_all, by omega, by omega⟩, by kernel_rfl, by kernel_rfl⟩)
  · have hok := (isF_okm (by assumption : isF a = true)).1
    have hal := (isF_okm (by assumption : isF a = true)).2
    refine R.go 4 (R.callX (CallX.inF 0 usC frC (depX_c a.length 6 a (by first | rfl | simp) (by assumption) (by omega)) (Nat.le_of_ble_eq_true (by kernel_rfl)) (by kernel_rfl) (by kernel_rfl) (by rintro _ _ ⟨_, _, _, rfl, rfl⟩; exact Nat.le_of_ble_eq_true (by kernel_rfl))) (by kernel_rfl) (by kernel_rfl) (by kernel_rfl) ?_)
    rintro _ _ ⟨_, _, ⟨h_2, m_3, f4, rfl, rfl⟩, rfl, rfl⟩
    exact R.go 14 (R.retX (res := .tup [AI h_2, AI m_3, AI 0]) (hp' := [.dead]) (by kernel_rfl) (by kernel_rfl) (by kernel_rfl) (by kernel_rfl) ⟨[], by kernel_rfl, by decide, h_2, m_3, 0, by first | exact ⟨by omega, fun _ => rfl, by omega, by omega⟩ | exact ⟨by omega, fun h => by simp_all, by omega, by omega⟩, by kernel_rfl, by kernel_rfl⟩)

end Go.Proofs.Ytgebepfdphmjcaa


/-! Conversions and shifts that may come first. -/
namespace Go.Abs
open Go.RowKit Go.ChangeShapes Go.WideShapes Go.Deep
section
variable {P : Program} {m : M} {Q : Exit → St → Prop}
def isAt (m : M) (i : Nat) : Option (Int × Int) :=
  match m.ks with
  | .any ops listed (_ + 1) :: _ => match ops[i]? with
    | some o => match o.op with
      | .binOp .shl _ x y _ => if o.guard.isNone && Region.noSelect ops && Region.free .any ops listed i && (Region.ready .any ops listed).contains i then (match ev m.st.fr x, ev m.st.fr y with
        | .int .i64 a, .int _ b => some (a, b)
        | _, _ => none) else none
      | _ => none
    | none => none
  | _ => none
theorem R.anyS (i : Nat) (a b : Int) (h : isAt m i = some (a, b)) (h0 : 0 ≤ b) (np : NoPanic Q) (h' : Runs none P (exM i (AI (shl64 a b)) m) Q) : Runs none P m Q := by
  obtain ⟨ks, ⟨fr, hp⟩⟩ := m
  simp only [runs_iff] at h' ⊢
  unfold isAt at h
  simp only at h
  split at h
  · rename_i ops listed n ks'
    split at h
    · rename_i o ho
      split at h
      · rename_i t x y ty hx
        split at h
        · rename_i hc
          simp only [Bool.and_eq_true] at hc
          obtain ⟨⟨⟨hg, hs⟩, hf⟩, hr⟩ := hc
          split at h
          · rename_i a1 k' b1 h1 h2
            simp only [Option.some.injEq, Prod.mk.injEq] at h
            obtain ⟨rfl, rfl⟩ := h
            simp only [exM, ho, RunsK] at h' ⊢
            intro Z0 w0 ac w hS
            have hW : Region.wanted o (yielded ops ac.tmps) = true := by
              unfold Region.wanted
              rw [Option.isNone_iff_eq_none.1 hg]
            have h0n : ¬ b1 < 0 := by omega
            have hrun : ∃ u, ∀ w, (execOp ac.eval o).run P w = .ok (.value u) w := by
              obtain ⟨μ, F, _, _, hFr, _, _⟩ := hS
              have e1 := rel_int (h1 ▸ ev_rel hFr x)
              have e2 := rel_int (h2 ▸ ev_rel hFr y)
              refine ⟨.int .i64 (shl64 a1 b1), fun w => ?_⟩
              unfold execOp
              rw [hx]
              simp [e1, e2, binOp_shl, eqGuard_shl, Op.shift, h0n] <;> rfl
            obtain ⟨u, hrun⟩ := hrun
            have hw' : WantedA ops o fr := wantedE_true (by unfold wantedE; rw [Option.isNone_iff_eq_none.1 hg])
            have h1' := StepR.sound (rd := none) (K := fun a' w' => Sim Z0 w0 ⟨putF fr o.dst (AI (shl64 a1 b1)), hp⟩ a' w') (Q := fun _ _ _ => True) (st' := ⟨putF fr o.dst (AI (shl64 a1 b1)), hp⟩) (by simpa using StepR.eff (P := P) (st := ⟨fr, hp⟩) hw' (v := AI (shl64 a1 b1)) (news := []) (by rw [hx]; exact EffR.shl .i64 k' a1 b1 h1 h2 h0)) hS (fun _ _ h => h)
            rw [if_pos hW] at h1'
            unfold Oper.wpIn at h1'
            have h1' := h1'.2
            rw [show (Fc none).round = none from rfl, Oper.semAt_none, hrun w] at h1'
            simp only [Oper.uponIn] at h1'
            exact wpAnyIn_take rfl ho hs hf hr (fun c a w ⟨st', hq, _⟩ => absurd (runsK_panic ks' st' hq) (np c st')) ⟨.inl ⟨hW, hrun⟩, fun w => by unfold Oper.about; rw [hx]⟩ (h' Z0 w0 _ w h1')
          · cases h
        · cases h
      · cases h
    · cases h
  · cases h
def icAt (P : Program) (m : M) (i : Nat) : Option (IntKind × Int) :=
  match m.ks with
  | .any ops listed (_ + 1) :: _ => match ops[i]? with
    | some o => match o.op with
      | .convert s d x => if o.guard.isNone && Region.noSelect ops && Region.free .any ops listed i && (Region.ready .any ops listed).contains i then (match ev m.st.fr x, intB P d with
        | .int _ n, some k' => if (P.underlying s).isSome then some (k', n) else none
        | _, _ => none) else none
      | _ => none
    | none => none
  | _ => none
theorem R.anyC (i : Nat) (k' : IntKind) (n : Int) (h : icAt P m i = some (k', n)) (hw : k'.wrap n = n) (np : NoPanic Q) (h' : Runs none P (exM i (.int k' n) m) Q) : Runs none P m Q := by
  obtain ⟨ks, ⟨fr, hp⟩⟩ := m
  simp only [runs_iff] at h' ⊢
  unfold icAt at h
  simp only at h
  split at h
  · rename_i ops listed n0 ks'
    split at h
    · rename_i o ho
      split at h
      · rename_i sT dT x hx
        split at h
        · rename_i hc
          simp only [Bool.and_eq_true] at hc
          obtain ⟨⟨⟨hg, hs⟩, hf⟩, hr⟩ := hc
          split at h
          · rename_i k n1 k1 h1 h2
            split at h
            · rename_i hsu
              simp only [Option.some.injEq, Prod.mk.injEq] at h
              obtain ⟨rfl, rfl⟩ := h
              simp only [exM, ho, RunsK] at h' ⊢
              intro Z0 w0 ac w hS
              have hW : Region.wanted o (yielded ops ac.tmps) = true := by
                unfold Region.wanted
                rw [Option.isNone_iff_eq_none.1 hg]
              have hrun : ∃ u, ∀ w, (execOp ac.eval o).run P w = .ok (.value u) w := by
                obtain ⟨μ, F, _, _, hFr, _, _⟩ := hS
                have e1 := rel_int (h1 ▸ ev_rel hFr x)
                obtain ⟨d1, hd1⟩ := Option.isSome_iff_exists.mp hsu
                have hd2 : P.underlying dT = some (.int k1) := by
                  unfold intB at h2
                  split at h2
                  · rename_i k2 hu; simp only [Option.some.injEq] at h2; subst h2; exact hu
                  · cases h2
                refine ⟨.int k1 n1, fun w => ?_⟩
                unfold execOp
                rw [hx]
                simp [e1, convert, run_underlying hd1, run_underlying hd2, Conv.intToInt, hw] <;> rfl
              obtain ⟨u, hrun⟩ := hrun
              have hw' : WantedA ops o fr := wantedE_true (by unfold wantedE; rw [Option.isNone_iff_eq_none.1 hg])
              have h1' := StepR.sound (rd := none) (K := fun a' w' => Sim Z0 w0 ⟨putF fr o.dst (.int k1 n1), hp⟩ a' w') (Q := fun _ _ _ => True) (st' := ⟨putF fr o.dst (.int k1 n1), hp⟩) (by simpa using StepR.eff (P := P) (st := ⟨fr, hp⟩) hw' (v := .int k1 n1) (news := []) (by rw [hx]; have := EffR.conv (P := P) (hp := hp) k k1 n1 h1 hsu h2; rwa [hw] at this)) hS (fun _ _ h => h)
              rw [if_pos hW] at h1'
              unfold Oper.wpIn at h1'
              have h1' := h1'.2
              rw [show (Fc none).round = none from rfl, Oper.semAt_none, hrun w] at h1'
              simp only [Oper.uponIn] at h1'
              exact wpAnyIn_take rfl ho hs hf hr (fun c a w ⟨st', hq, _⟩ => absurd (runsK_panic ks' st' hq) (np c st')) ⟨.inl ⟨hW, hrun⟩, fun w => by unfold Oper.about; rw [hx]⟩ (h' Z0 w0 _ w h1')
            · cases h
          · cases h
        · cases h
      · cases h
    · cases h
  · cases h
end
end Go.Abs


/-! Ways that meet again in a family of states. -/
namespace Go.Abs
open Go.RowKit Go.ChangeShapes Go.WideShapes Go.Deep
section
variable {rd : Option Nat} {P : Program} {m : M} {Q : Exit → St → Prop}
def meetQF {α : Type} (I : α → Prop) (S : α → St) : Exit → St → Prop := fun e st => e = .normal ∧ ∃ a, I a ∧ st = S a
theorem np_meetF {α : Type} (I : α → Prop) (S : α → St) : NoPanic (meetQF I S) := fun _ _ h => by simp [meetQF] at h
theorem R.meetF {α : Type} (I : α → Prop) (S : α → St) (h : mtAt m = true) (h1 : Runs rd P ⟨m.ks.take 1, m.st⟩ (meetQF I S)) (h2 : ∀ a, I a → Runs rd P ⟨m.ks.tail, S a⟩ Q) : Runs rd P m Q := by
  obtain ⟨ks, st⟩ := m
  unfold mtAt at h
  simp only [runs_iff] at h h1 h2 ⊢
  split at h
  · rename_i c ks'
    simp only [List.take_succ_cons, List.take_zero, List.tail_cons, RunsK] at h1 h2 ⊢
    refine h1.mono ?_
    rintro e st' ⟨rfl, a, ha, rfl⟩
    exact h2 a ha
  · cases h
theorem R.metF {α : Type} {I : α → Prop} {S : α → St} (a : α) (h : m.ks = []) (hi : I a) (hs : m.st = S a) : Runs rd P m (meetQF I S) := by
  obtain ⟨ks, st⟩ := m
  simp only at h hs
  subst h hs
  rw [runs_iff]
  exact ⟨rfl, a, hi, rfl⟩
end
end Go.Abs


/-! Dice of the laws: a roll, and a number below another one. -/
namespace Go.Proofs.Ytgebepfdphmjcaa
open Go.RowKit Go.Abs

theorem belowX_c_r1 (c : List Int) (p : Nat) (h : Int) (n : Int) (eo1 : Nat) (so1 : Nat) (no1 : Nat) (co1 : List AV) (hc : BY c) : CallX Try.prog 10 [.ptr 0 0, AI n] [.box 77 [LB c, AI (p : Int), .int .u64 h], .list eo1 so1 no1 co1] (fun (resX : AV) (objX : List AObj) => ∃ v : Int, ∃ p1 : Nat, ∃ h1 : Int, ((n < 1 → v = 0) ∧ (1 ≤ n → 0 ≤ v ∧ v < n)) ∧ resX = AI v ∧ objX = [.box 77 [LB c, AI (p1 : Int), .int .u64 h1], .list eo1 so1 no1 co1]) := by
  have hcl : c.length ≤ 4096 := hc.1
  have hcb := hc.2
  have hxr := fun h => u64and (shr64 (IntKind.u64.wrap (IntKind.u64.wrap (h * 6364136223846793005) + 1442695040888963407)) 33)
  have hxh := hxr h
  refine CallX.dropE (CallX.ofF Try.func10 rfl (by kernel_rfl) ?_)
  intro usC frC hfC
  refine R.go 10 (R.cond (n < 1) (by kernel_rfl) (fun c1 => ?_) (fun c1 => ?_))
  · exact R.go 4 (R.retX (res := AI 0) (hp' := [.box 77 [LB c, AI (p : Int), .int .u64 h], .list eo1 so1 no1 co1, .dead]) (by kernel_rfl) (by kernel_rfl) (by kernel_rfl) (by kernel_rfl) ⟨[0, 1], by kernel_rfl, by decide, 0, p, h, by first | exact mod_rng (by assumption) | exact ⟨fun _ => rfl, fun h1 => by omega⟩, by kernel_rfl, by kernel_rfl⟩)
  · refine R.go 22 (R.cv .i64 (bits .and .u64 (shr64 (IntKind.u64.wrap ((IntKind.u64.wrap (h * 6364136223846793005)) + 1442695040888963407)) 33) 16777215) (by kernel_rfl) (wrap_id (by omega) (by omega)) (by kernel_rfl) ?_)
    refine R.go 16 (R.cond ((p : Int) < (c.length : Int)) (by kernel_rfl) (fun c2 => ?_) (fun c2 => ?_))
    · have hbp := hcb p (by omega)
      refine R.go 11 (R.idx eB c 0 p (p : Int) (by kernel_rfl) rfl eB_len (by omega) (by kernel_rfl) ?_)
      refine R.go 1 (R.cv .i64 (c.getD p 0) (by kernel_rfl) (wrap_id (by omega) (by omega)) (by kernel_rfl) ?_)
      refine R.ar ((bits .and .u64 (shr64 (IntKind.u64.wrap ((IntKind.u64.wrap (h * 6364136223846793005)) + 1442695040888963407)) 33) 16777215) + (c.getD p 0)) (by kernel_rfl) (by omega) (by omega) (by kernel_rfl) ?_
      refine R.go 8 (R.ar ((p : Int) + 1) (by kernel_rfl) (by omega) (by omega) (by kernel_rfl) ?_)
      refine R.go 8 (R.rem ((bits .and .u64 (shr64 (IntKind.u64.wrap ((IntKind.u64.wrap (h * 6364136223846793005)) + 1442695040888963407)) 33) 16777215) + (c.getD p 0)) n (by kernel_rfl) (by omega) (by omega) (by kernel_rfl) ?_)
      exact R.go 2 (R.retX (res := AI (((bits .and .u64 (shr64 (IntKind.u64.wrap ((IntKind.u64.wrap (h * 6364136223846793005)) + 1442695040888963407)) 33) 16777215) + (c.getD p 0)) % n)) (hp' := [.box 77 [LB c, AI ((p : Int) + 1), .int .u64 (IntKind.u64.wrap ((IntKind.u64.wrap (h * 6364136223846793005)) + 1442695040888963407))], .list eo1 so1 no1 co1, .dead]) (by kernel_rfl) (by kernel_rfl) (by kernel_rfl) (by kernel_rfl) ⟨[0, 1], by kernel_rfl, by decide, ((bits .and .u64 (shr64 (IntKind.u64.wrap ((IntKind.u64.wrap (h * 6364136223846793005)) + 1442695040888963407)) 33) 16777215) + (c.getD p 0)) % n, p + 1, IntKind.u64.wrap ((IntKind.u64.wrap (h * 6364136223846793005)) + 1442695040888963407), by first | exact mod_rng (by assumption) | exact ⟨fun _ => rfl, fun h1 => by omega⟩, by kernel_rfl, by kernel_rfl⟩)
    · refine R.go 5 (R.rem (bits .and .u64 (shr64 (IntKind.u64.wrap ((IntKind.u64.wrap (h * 6364136223846793005)) + 1442695040888963407)) 33) 16777215) n (by kernel_rfl) (by omega) (by omega) (by kernel_rfl) ?_)
      exact R.go 2 (R.retX (res := AI ((bits .and .u64 (shr64 (IntKind.u64.wrap ((IntKind.u64.wrap (h * 6364136223846793005)) + 1442695040888963407)) 33) 16777215) % n)) (hp' := [.box 77 [LB c, AI (p : Int), .int .u64 (IntKind.u64.wrap ((IntKind.u64.wrap (h * 6364136223846793005)) + 1442695040888963407))], .list eo1 so1 no1 co1, .dead]) (by kernel_rfl) (by kernel_rfl) (by kernel_rfl) (by kernel_rfl) ⟨[0, 1], by kernel_rfl, by decide, (bits .and .u64 (shr64 (IntKind.u64.wrap ((IntKind.u64.wrap (h * 6364136223846793005)) + 1442695040888963407)) 33) 16777215) % n, p, IntKind.u64.wrap ((IntKind.u64.wrap (h * 6364136223846793005)) + 1442695040888963407), by first | exact mod_rng (by assumption) | exact ⟨fun _ => rfl, fun h1 => by omega⟩, by kernel_rfl, by kernel_rfl⟩)

theorem belowX_c_r2 (c : List Int) (p : Nat) (h : Int) (n : Int) (eo1 : Nat) (so1 : Nat) (no1 : Nat) (co1 : List AV) (eo2 : Nat) (so2 : Nat) (no2 : Nat) (co2 : List AV) (hc : BY c) : CallX Try.prog 10 [.ptr 0 0, AI n] [.box 77 [LB c, AI (p : Int), .int .u64 h], .list eo1 so1 no1 co1, .list eo2 so2 no2 co2] (fun (resX : AV) (objX : List AObj) => ∃ v : Int, ∃ p1 : Nat, ∃ h1 : Int, ((n < 1 → v = 0) ∧ (1 ≤ n → 0 ≤ v ∧ v < n)) ∧ resX = AI v ∧ objX = [.box 77 [LB c, AI (p1 : Int), .int .u64 h1], .list eo1 so1 no1 co1, .list eo2 so2 no2 co2]) := by
  have hcl : c.length ≤ 4096 := hc.1
  have hcb := hc.2
  have hxr := fun h => u64and (shr64 (IntKind.u64.wrap (IntKind.u64.wrap (h * 6364136223846793005) + 1442695040888963407)) 33)
  have hxh := hxr h
  refine CallX.dropE (CallX.ofF Try.func10 rfl (by kernel_rfl) ?_)
  intro usC frC hfC
  refine R.go 10 (R.cond (n < 1) (by kernel_rfl) (fun c1 => ?_) (fun c1 => ?_))
  · exact R.go 4 (R.retX (res := AI 0) (hp' := [.box 77 [LB c, AI (p : Int), .int .u64 h], .list eo1 so1 no1 co1, .list eo2 so2 no2 co2, .dead]) (by kernel_rfl) (by kernel_rfl) (by kernel_rfl) (by kernel_rfl) ⟨[0, 1, 2], by kernel_rfl, by decide, 0, p, h, by first | exact mod_rng (by assumption) | exact ⟨fun _ => rfl, fun h1 => by omega⟩, by kernel_rfl, by kernel_rfl⟩)
  · refine R.go 22 (R.cv .i64 (bits .and .u64 (shr64 (IntKind.u64.wrap ((IntKind.u64.wrap (h * 6364136223846793005)) + 1442695040888963407)) 33) 16777215) (by kernel_rfl) (wrap_id (by omega) (by omega)) (by kernel_rfl) ?_)
    refine R.go 16 (R.cond ((p : Int) < (c.length : Int)) (by kernel_rfl) (fun c2 => ?_) (fun c2 => ?_))
    · have hbp := hcb p (by omega)
      refine R.go 11 (R.idx eB c 0 p (p : Int) (by kernel_rfl) rfl eB_len (by omega) (by kernel_rfl) ?_)
      refine R.go 1 (R.cv .i64 (c.getD p 0) (by kernel_rfl) (wrap_id (by omega) (by omega)) (by kernel_rfl) ?_)
      refine R.ar ((bits .and .u64 (shr64 (IntKind.u64.wrap ((IntKind.u64.wrap (h * 6364136223846793005)) + 1442695040888963407)) 33) 16777215) + (c.getD p 0)) (by kernel_rfl) (by omega) (by omega) (by kernel_rfl) ?_
      refine R.go 8 (R.ar ((p : Int) + 1) (by kernel_rfl) (by omega) (by omega) (by kernel_rfl) ?_)
      refine R.go 8 (R.rem ((bits .and .u64 (shr64 (IntKind.u64.wrap ((IntKind.u64.wrap (h * 6364136223846793005)) + 1442695040888963407)) 33) 16777215) + (c.getD p 0)) n (by kernel_rfl) (by omega) (by omega) (by kernel_rfl) ?_)
      exact R.go 2 (R.retX (res := AI (((bits .and .u64 (shr64 (IntKind.u64.wrap ((IntKind.u64.wrap (h * 6364136223846793005)) + 1442695040888963407)) 33) 16777215) + (c.getD p 0)) % n)) (hp' := [.box 77 [LB c, AI ((p : Int) + 1), .int .u64 (IntKind.u64.wrap ((IntKind.u64.wrap (h * 6364136223846793005)) + 1442695040888963407))], .list eo1 so1 no1 co1, .list eo2 so2 no2 co2, .dead]) (by kernel_rfl) (by kernel_rfl) (by kernel_rfl) (by kernel_rfl) ⟨[0, 1, 2], by kernel_rfl, by decide, ((bits .and .u64 (shr64 (IntKind.u64.wrap ((IntKind.u64.wrap (h * 6364136223846793005)) + 1442695040888963407)) 33) 16777215) + (c.getD p 0)) % n, p + 1, IntKind.u64.wrap ((IntKind.u64.wrap (h * 6364136223846793005)) + 1442695040888963407), by first | exact mod_rng (by assumption) | exact ⟨fun _ => rfl, fun h1 => by omega⟩, by kernel_rfl, by kernel_rfl⟩)
    · refine R.go 5 (R.rem (bits .and .u64 (shr64 (IntKind.u64.wrap ((IntKind.u64.wrap (h * 6364136223846793005)) + 1442695040888963407)) 33) 16777215) n (by kernel_rfl) (by omega) (by omega) (by kernel_rfl) ?_)
      exact R.go 2 (R.retX (res := AI ((bits .and .u64 (shr64 (IntKind.u64.wrap ((IntKind.u64.wrap (h * 6364136223846793005)) + 1442695040888963407)) 33) 16777215) % n)) (hp' := [.box 77 [LB c, AI (p : Int), .int .u64 (IntKind.u64.wrap ((IntKind.u64.wrap (h * 6364136223846793005)) + 1442695040888963407))], .list eo1 so1 no1 co1, .list eo2 so2 no2 co2, .dead]) (by kernel_rfl) (by kernel_rfl) (by kernel_rfl) (by kernel_rfl) ⟨[0, 1, 2], by kernel_rfl, by decide, (bits .and .u64 (shr64 (IntKind.u64.wrap ((IntKind.u64.wrap (h * 6364136223846793005)) + 1442695040888963407)) 33) 16777215) % n, p, IntKind.u64.wrap ((IntKind.u64.wrap (h * 6364136223846793005)) + 1442695040888963407), by first | exact mod_rng (by assumption) | exact ⟨fun _ => rfl, fun h1 => by omega⟩, by kernel_rfl, by kernel_rfl⟩)

theorem rollX_c_r1 (c : List Int) (sd : Int) (eo1 : Nat) (so1 : Nat) (no1 : Nat) (co1 : List AV) (hc : BY c) : CallX Try.prog 9 [LB c, .int .u64 sd] [.list eo1 so1 no1 co1] (fun (resX : AV) (objX : List AObj) => ∃ h : Int, resX = .ptr 1 0 ∧ objX = [.list eo1 so1 no1 co1, .box 77 [LB c, AI 0, .int .u64 h]]) := by
  have hcl : c.length ≤ 4096 := hc.1
  have hcb := hc.2
  refine CallX.dropE (CallX.ofF Try.func9 rfl (by kernel_rfl) ?_)
  intro usC frC hfC
  refine R.go 11 (R.cv .u64 (c.length : Int) (by kernel_rfl) (u64_id (by omega) (by omega)) (by kernel_rfl) ?_)
  refine R.go 11 (R.loop ((fun | (i, hh) => (⟨(frm 38 [(0, LB c), (5, .ptr 2 0), (6, AI (i : Int))]), [.list eo1 so1 no1 co1, .frame usC frC, .box 77 [LB c, AI 0, .int .u64 hh]]⟩ : St) : Nat × Int → St)) (fun | (i, hh) => i ≤ c.length) (fun | (i, hh) => c.length - i) (0, (IntKind.u64.wrap ((IntKind.u64.wrap (sd * 7681)) + (c.length : Int)))) [0, 5, 6] none (by kernel_rfl) (by kernel_rfl) (by kernel_rfl) (by omega) ?_)
  rintro ⟨i, hh⟩ h4_1 R1 N2
  refine R.go 8 (R.cond ((i : Int) < (c.length : Int)) (by kernel_rfl) (fun c5 => ?_) (fun c5 => ?_))
  · have hbi := hcb i (by omega)
    refine R.go 12 (R.idx eB c 0 i (i : Int) (by kernel_rfl) rfl eB_len (by omega) (by kernel_rfl) ?_)
    refine R.go 1 (R.cv .u64 (c.getD i 0) (by kernel_rfl) (u64_id (by omega) (by omega)) (by kernel_rfl) ?_)
    refine R.go 9 (R.ar ((i : Int) + 1) (by kernel_rfl) (by omega) (by omega) (by kernel_rfl) ?_)
    exact R.go 2 (R.stop R1 (by kernel_rfl) (N2 (i + 1, IntKind.u64.wrap ((IntKind.u64.wrap ((IntKind.u64.wrap (hh * 1099511628211)) + (c.getD i 0))) + 5)) [0, 5, 6] none _ (by kernel_rfl) (by kernel_rfl) (by omega) (by show (c.length - (i + 1)) < (c.length - i); omega)))
  · exact R.go 6 (R.retX (res := .ptr 2 0) (hp' := [.list eo1 so1 no1 co1, .dead, .box 77 [LB c, AI 0, .int .u64 hh]]) (by kernel_rfl) (by kernel_rfl) (by kernel_rfl) (by kernel_rfl) ⟨[0, 2], by kernel_rfl, by decide, hh, by kernel_rfl, by kernel_rfl⟩)

end Go.Proofs.Ytgebepfdphmjcaa


/-! The law FnPolarity, walked. -/
namespace Go.Proofs.Ytgebepfdphmjcaa
open Go.RowKit Go.Abs

theorem big_c (c : List Int) : CallA Try.prog 7 [LB c] (.bool (decide ((c.length : Int) > 4096))) := by
  refine CallA.of Try.func7 rfl (by kernel_rfl) ?_
  exact R.go 11 (R.retE (.bool (decide ((c.length : Int) > 4096))) (by kernel_rfl) (by kernel_rfl) (by rfl))

set_option maxHeartbeats 4000000 in
theorem lawPol_c (c : List Int) (hcb : ∀ q : Nat, q < c.length → 0 ≤ c.getD q 0 ∧ c.getD q 0 ≤ 255) : CallA Try.prog 3 [LB c] (.bool true) := by
  refine CallA.of Try.func3 rfl (by kernel_rfl) ?_
  refine R.go 8 (R.call true (big_c c) (by kernel_rfl) rfl (by kernel_rfl) ?_)
  refine R.go 1 (R.cond ((c.length : Int) > 4096) (by kernel_rfl) (fun c1 => ?_) (fun c1 => ?_))
  · exact R.go 4 (R.retE (.bool true) (by kernel_rfl) (by kernel_rfl) (by rfl))
  · have hc : BY c := ⟨by omega, hcb⟩
    refine R.go 4 (R.callX (drTruth_c c hc) (by kernel_rfl) (by kernel_rfl) (by kernel_rfl) ?_)
    rintro _ _ ⟨n_2, xs_3, vs_4, a_5, f6, f7, f8, rfl, rfl⟩
    refine R.go 10 (R.callX (CallX.box 0 28 [AI n_2, LI xs_3, LI vs_4] (rollX_c_r1 c 1 28 3 1 [AI n_2, LI xs_3, LI vs_4] hc) (by kernel_rfl) (by kernel_rfl) (by kernel_rfl) (by kernel_rfl) (by rintro _ _ ⟨_, rfl, rfl⟩; exact ⟨by kernel_rfl, by kernel_rfl, by kernel_rfl⟩)) (by kernel_rfl) (by kernel_rfl) (by kernel_rfl) ?_)
    rintro _ _ ⟨_, ⟨h_9, rfl, rfl⟩, rfl⟩
    refine R.go 5 (R.callX (CallX.perm [1, 0] [1, 0] (CallX.box 1 28 [AI n_2, LI xs_3, LI vs_4] (belowX_c_r1 c 0 h_9 6 28 3 1 [AI n_2, LI xs_3, LI vs_4] hc) (by kernel_rfl) (by kernel_rfl) (by kernel_rfl) (by kernel_rfl) (by rintro _ _ ⟨_, _, _, _, rfl, rfl⟩; exact ⟨by kernel_rfl, by kernel_rfl, by kernel_rfl⟩)) (by kernel_rfl) (by kernel_rfl) (by kernel_rfl) (by rintro _ _ ⟨_, ⟨_, _, _, _, rfl, rfl⟩, rfl⟩; exact Nat.le_of_ble_eq_true (by kernel_rfl))) (by kernel_rfl) (by kernel_rfl) (by kernel_rfl) ?_)
    rintro _ _ ⟨_, _, ⟨_, ⟨v_10, p1_11, h1_12, f13, rfl, rfl⟩, rfl⟩, rfl, rfl⟩
    refine R.go 6 (R.call true (VP_impl a_5 v_10 (by first | omega | (simp <;> omega))) (by kernel_rfl) rfl (by kernel_rfl) ?_)
    refine R.go 10 (R.call true (VP_spec a_5 v_10 (by first | omega | (simp <;> omega))) (by kernel_rfl) rfl (by kernel_rfl) ?_)
    refine R.go 13 (R.want (!decide ((pC a_5 v_10) = (pC a_5 v_10))) false (by kernel_rfl) (nF rfl) ?_)
    refine R.go 1 (R.want (!decide ((pC a_5 v_10) = (pC a_5 v_10))) false (by kernel_rfl) (nF rfl) ?_)
    refine R.go 1 (R.want (!decide ((pC a_5 v_10) = (pC a_5 v_10))) false (by kernel_rfl) (nF rfl) ?_)
    refine R.go 1 (R.pick (!decide ((pC a_5 v_10) = (pC a_5 v_10))) false (by kernel_rfl) (nF rfl) (by kernel_rfl) ?_)
    refine R.go 1 (R.els (!decide ((pR a_5 v_10) = (pR a_5 v_10))) (by kernel_rfl) (nF rfl) ?_)
    refine R.go 5 (R.call true (TS_impl n_2 xs_3 vs_4 a_5 (by first | omega | (simp <;> omega)) (by first | omega | (simp <;> omega)) (by first | omega | (simp <;> omega))) (by kernel_rfl) rfl (by kernel_rfl) ?_)
    refine R.go 12 ?_
    by_cases c14 : (pC a_5 v_10) = 0
    · refine R.want (!decide ((pC a_5 v_10) = 0)) false (by kernel_rfl) (nF c14) ?_
      refine R.go 1 (R.want (!decide ((pC a_5 v_10) = 0)) false (by kernel_rfl) (nF c14) ?_)
      refine R.go 1 (R.pick (!decide ((pC a_5 v_10) = 0)) false (by kernel_rfl) (nF c14) (by kernel_rfl) ?_)
      refine R.go 1 ?_
      by_cases c15 : (mcode n_2 xs_3 vs_4 a_5) = 0
      · refine R.want (!decide ((mcode n_2 xs_3 vs_4 a_5) = 0)) false (by kernel_rfl) (nF c15) ?_
        refine R.go 1 (R.want (!decide ((mcode n_2 xs_3 vs_4 a_5) = 0)) false (by kernel_rfl) (nF c15) ?_)
        refine R.go 1 (R.want (!decide ((mcode n_2 xs_3 vs_4 a_5) = 0)) false (by kernel_rfl) (nF c15) ?_)
        refine R.go 1 (R.want (!decide ((mcode n_2 xs_3 vs_4 a_5) = 0)) false (by kernel_rfl) (nF c15) ?_)
        refine R.go 1 (R.pick (!decide ((mcode n_2 xs_3 vs_4 a_5) = 0)) false (by kernel_rfl) (nF c15) (by kernel_rfl) ?_)
        refine R.go 1 (R.cond (n_2 = 0) (by kernel_rfl) (fun c16 => ?_) (fun c16 => ?_))
        · exact R.go 4 (R.retE (.bool true) (by kernel_rfl) (by kernel_rfl) (by rfl))
        · have hm : mcode n_2 xs_3 vs_4 a_5 = 0 := by assumption
          have hpc : pC a_5 v_10 = 0 := by assumption
          have hmo := okMo_in (mcode_ok hm).1
          have hfr := okFr_rel hmo.1
          have hb0 : 0 ≤ n_2 ∧ n_2 ≤ 8 := ⟨hfr.1, hfr.2.1⟩
          have hvl : (vs_4).length = 6 := hmo.2.1
          have hF := (pC_ok hpc).1
          have hgu := law_gu hpc
          refine R.go 6 (R.app eI [] vs_4 2 2 1 8 (by kernel_rfl) eI_one (by decide) (by first | omega | (simp <;> omega)) (by kernel_rfl) ?_)
          refine R.go 3 (R.meetF (α := Int × Nat × Int) (fun | (v_17, p1_18, h1_19) => ((n_2 < 1 → v_17 = 0) ∧ (1 ≤ n_2 → 0 ≤ v_17 ∧ v_17 < n_2))) (fun | (v_17, p1_18, h1_19) => (⟨(frm 147 [(0, LB c), (2, .bool false), (3, .ptr 0 0), (4, LN a_5), (5, .ptr 1 0), (6, AI v_10), (7, AI (pR a_5 v_10)), (8, AI (pC a_5 v_10)), (9, AI (pR a_5 v_10)), (10, AI (pC a_5 v_10)), (11, AI (tval n_2 xs_3 vs_4 a_5)), (12, AI (mcode n_2 xs_3 vs_4 a_5)), (13, .ref 2), (21, LB c), (22, .bool (decide ((c.length : Int) > 4096))), (23, .tup [.agg [AI n_2, LI xs_3, LI vs_4], LN a_5]), (24, LB c), (25, .tup [.agg [AI n_2, LI xs_3, LI vs_4], LN a_5]), (26, .agg [AI n_2, LI xs_3, LI vs_4]), (27, LN a_5), (28, LB c), (29, .ptr 1 0), (30, .ptr 1 0), (31, AI v_10), (32, .tup [AI (pR a_5 v_10), AI (pC a_5 v_10)]), (33, LN a_5), (34, AI v_10), (35, .tup [AI (pR a_5 v_10), AI (pC a_5 v_10)]), (36, AI (pR a_5 v_10)), (37, AI (pC a_5 v_10)), (38, .tup [AI (pR a_5 v_10), AI (pC a_5 v_10)]), (39, LN a_5), (40, AI v_10), (41, .tup [AI (pR a_5 v_10), AI (pC a_5 v_10)]), (42, AI (pR a_5 v_10)), (43, AI (pC a_5 v_10)), (44, AI (pC a_5 v_10)), (45, AI (pC a_5 v_10)), (46, .bool (!decide ((pC a_5 v_10) = (pC a_5 v_10)))), (47, .bool (!decide ((pC a_5 v_10) = (pC a_5 v_10)))), (48, AI (pR a_5 v_10)), (49, AI (pR a_5 v_10)), (50, .bool (!decide ((pR a_5 v_10) = (pR a_5 v_10)))), (51, .bool (!decide ((pR a_5 v_10) = (pR a_5 v_10)))), (52, .tup [AI (tval n_2 xs_3 vs_4 a_5), AI (mcode n_2 xs_3 vs_4 a_5)]), (53, .agg [AI n_2, LI xs_3, LI vs_4]), (54, LN a_5), (55, .tup [AI (tval n_2 xs_3 vs_4 a_5), AI (mcode n_2 xs_3 vs_4 a_5)]), (56, AI (tval n_2 xs_3 vs_4 a_5)), (57, AI (mcode n_2 xs_3 vs_4 a_5)), (58, AI (pC a_5 v_10)), (59, .bool (!decide ((pC a_5 v_10) = 0))), (60, .bool (!decide ((pC a_5 v_10) = 0))), (61, AI (mcode n_2 xs_3 vs_4 a_5)), (62, .bool (!decide ((mcode n_2 xs_3 vs_4 a_5) = 0))), (63, .bool (!decide ((mcode n_2 xs_3 vs_4 a_5) = 0))), (64, .bool (!decide ((mcode n_2 xs_3 vs_4 a_5) = 0))), (65, .ptr 0 0), (66, .ptr 0 0), (67, AI n_2), (68, .bool (decide (n_2 = 0))), (69, .bool (decide (n_2 = 0))), (71, .ptr 0 2), (72, LI vs_4), (73, .ref 2), (74, .ref 2), (75, AI v_10), (76, .ref 2), (77, AI v_10), (78, .ptr 2 (((v_10).toNat) * 1)), (79, AI (([] ++ vs_4).getD ((v_10).toNat) 0)), (80, .ptr 1 0), (81, .ptr 0 0), (82, .ptr 0 0), (83, AI n_2), (84, AI v_17), (85, .int .u64 v_17), (86, AI (shl64 1 v_17)), (87, AI (bor (([] ++ vs_4).getD ((v_10).toNat) 0) (shl64 1 v_17))), (88, .ptr 2 (((v_10).toNat) * 1))]), [.box 28 [AI n_2, LI xs_3, LI vs_4], .box 77 [LB c, AI (p1_18 : Int), .int .u64 h1_19], rowA eI 2 1 (([] ++ vs_4).set ((v_10).toNat) (bor (([] ++ vs_4).getD ((v_10).toNat) 0) (shl64 1 v_17)))]⟩ : St)) (by kernel_rfl) ?_ ?_)
          · refine R.any (by decide +kernel) (by kernel_rfl) ?_
            refine R.anyF 0 (by kernel_rfl) (np_meetF _ _) ?_
            refine R.anyF 1 (by kernel_rfl) (np_meetF _ _) ?_
            refine R.anyF 2 (by kernel_rfl) (np_meetF _ _) ?_
            refine R.anyF 3 (by kernel_rfl) (np_meetF _ _) ?_
            refine R.anyF 6 (by kernel_rfl) (np_meetF _ _) ?_
            refine R.anyA 7 (.ptr 0 0) (by kernel_rfl) (np_meetF _ _) ?_
            refine R.anyA 8 (.ptr 0 0) (by kernel_rfl) (np_meetF _ _) ?_
            refine R.any2 4 9 (by kernel_rfl) (by kernel_rfl) ?_ ?_
            · refine R.idxO 2 1 ([] ++ vs_4).length ((v_10).toNat) v_10 (by kernel_rfl) (by omega) (by first | omega | (simp <;> omega)) (by kernel_rfl) ?_
              refine R.go 1 (R.any2 5 9 (by kernel_rfl) (by kernel_rfl) ?_ ?_)
              · refine R.ldI ([] ++ vs_4) ((v_10).toNat) (by kernel_rfl) (by first | omega | (simp <;> omega)) (by kernel_rfl) ?_
                refine R.go 1 (R.any1 9 (by kernel_rfl) (by kernel_rfl) ?_)
                refine R.go 2 (R.any1 10 (by kernel_rfl) (by kernel_rfl) ?_)
                refine R.callX (CallX.perm [1, 0, 2] [1, 0, 2] (CallX.box 1 28 [AI n_2, LI xs_3, LI vs_4] (belowX_c_r2 c p1_11 h1_12 n_2 28 3 1 [AI n_2, LI xs_3, LI vs_4] 2 1 (([] ++ vs_4).length) (rows eI ([] ++ vs_4)) hc) (by kernel_rfl) (by kernel_rfl) (by kernel_rfl) (by kernel_rfl) (by rintro _ _ ⟨_, _, _, _, rfl, rfl⟩; exact ⟨by kernel_rfl, by kernel_rfl, by kernel_rfl⟩)) (by kernel_rfl) (by kernel_rfl) (by kernel_rfl) (by rintro _ _ ⟨_, ⟨_, _, _, _, rfl, rfl⟩, rfl⟩; exact Nat.le_of_ble_eq_true (by kernel_rfl))) (by kernel_rfl) (by kernel_rfl) (by kernel_rfl) ?_
                rintro _ _ ⟨_, _, ⟨_, ⟨v_17, p1_18, h1_19, f20, rfl, rfl⟩, rfl⟩, rfl, rfl⟩
                refine R.go 1 (R.anyC 11 .u64 v_17 (by kernel_rfl) (u64_id (by omega) (by omega)) (np_meetF _ _) ?_)
                refine R.anyS 12 1 v_17 (by kernel_rfl) (by omega) (np_meetF _ _) ?_
                refine R.any1 13 (by kernel_rfl) (by kernel_rfl) ?_
                refine R.go 2 (R.any1 14 (by kernel_rfl) (by kernel_rfl) ?_)
                refine R.idxO 2 1 ([] ++ vs_4).length ((v_10).toNat) v_10 (by kernel_rfl) (by omega) (by first | omega | (simp <;> omega)) (by kernel_rfl) ?_
                refine R.go 1 (R.any1 15 (by kernel_rfl) (by kernel_rfl) ?_)
                refine R.stI 2 2 ([] ++ vs_4) ((v_10).toNat) (bor (([] ++ vs_4).getD ((v_10).toNat) 0) (shl64 1 v_17)) (by kernel_rfl) (by first | omega | (simp <;> omega)) (by kernel_rfl) ?_
                refine R.go 1 (R.any0 (by kernel_rfl) ?_)
                exact R.metF (v_17, p1_18, h1_19) (by kernel_rfl) (by first | assumption | omega) (by kernel_rfl)
              · refine R.go 2 (R.any2 5 10 (by kernel_rfl) (by kernel_rfl) ?_ ?_)
                · refine R.ldI ([] ++ vs_4) ((v_10).toNat) (by kernel_rfl) (by first | omega | (simp <;> omega)) (by kernel_rfl) ?_
                  refine R.go 1 (R.any1 10 (by kernel_rfl) (by kernel_rfl) ?_)
                  refine R.callX (CallX.perm [1, 0, 2] [1, 0, 2] (CallX.box 1 28 [AI n_2, LI xs_3, LI vs_4] (belowX_c_r2 c p1_11 h1_12 n_2 28 3 1 [AI n_2, LI xs_3, LI vs_4] 2 1 (([] ++ vs_4).length) (rows eI ([] ++ vs_4)) hc) (by kernel_rfl) (by kernel_rfl) (by kernel_rfl) (by kernel_rfl) (by rintro _ _ ⟨_, _, _, _, rfl, rfl⟩; exact ⟨by kernel_rfl, by kernel_rfl, by kernel_rfl⟩)) (by kernel_rfl) (by kernel_rfl) (by kernel_rfl) (by rintro _ _ ⟨_, ⟨_, _, _, _, rfl, rfl⟩, rfl⟩; exact Nat.le_of_ble_eq_true (by kernel_rfl))) (by kernel_rfl) (by kernel_rfl) (by kernel_rfl) ?_
                  rintro _ _ ⟨_, _, ⟨_, ⟨v_21, p1_22, h1_23, f24, rfl, rfl⟩, rfl⟩, rfl, rfl⟩
                  refine R.go 1 (R.anyC 11 .u64 v_21 (by kernel_rfl) (u64_id (by omega) (by omega)) (np_meetF _ _) ?_)
                  refine R.anyS 12 1 v_21 (by kernel_rfl) (by omega) (np_meetF _ _) ?_
                  refine R.any1 13 (by kernel_rfl) (by kernel_rfl) ?_
                  refine R.go 2 (R.any1 14 (by kernel_rfl) (by kernel_rfl) ?_)
                  refine R.idxO 2 1 ([] ++ vs_4).length ((v_10).toNat) v_10 (by kernel_rfl) (by omega) (by first | omega | (simp <;> omega)) (by kernel_rfl) ?_
                  refine R.go 1 (R.any1 15 (by kernel_rfl) (by kernel_rfl) ?_)
                  refine R.stI 2 2 ([] ++ vs_4) ((v_10).toNat) (bor (([] ++ vs_4).getD ((v_10).toNat) 0) (shl64 1 v_21)) (by kernel_rfl) (by first | omega | (simp <;> omega)) (by kernel_rfl) ?_
                  refine R.go 1 (R.any0 (by kernel_rfl) ?_)
                  exact R.metF (v_21, p1_22, h1_23) (by kernel_rfl) (by first | assumption | omega) (by kernel_rfl)
                · refine R.callX (CallX.perm [1, 0, 2] [1, 0, 2] (CallX.box 1 28 [AI n_2, LI xs_3, LI vs_4] (belowX_c_r2 c p1_11 h1_12 n_2 28 3 1 [AI n_2, LI xs_3, LI vs_4] 2 1 (([] ++ vs_4).length) (rows eI ([] ++ vs_4)) hc) (by kernel_rfl) (by kernel_rfl) (by kernel_rfl) (by kernel_rfl) (by rintro _ _ ⟨_, _, _, _, rfl, rfl⟩; exact ⟨by kernel_rfl, by kernel_rfl, by kernel_rfl⟩)) (by kernel_rfl) (by kernel_rfl) (by kernel_rfl) (by rintro _ _ ⟨_, ⟨_, _, _, _, rfl, rfl⟩, rfl⟩; exact Nat.le_of_ble_eq_true (by kernel_rfl))) (by kernel_rfl) (by kernel_rfl) (by kernel_rfl) ?_
                  rintro _ _ ⟨_, _, ⟨_, ⟨v_25, p1_26, h1_27, f28, rfl, rfl⟩, rfl⟩, rfl, rfl⟩
                  refine R.go 1 (R.anyC 11 .u64 v_25 (by kernel_rfl) (u64_id (by omega) (by omega)) (np_meetF _ _) ?_)
                  refine R.anyS 12 1 v_25 (by kernel_rfl) (by omega) (np_meetF _ _) ?_
                  refine R.any1 5 (by kernel_rfl) (by kernel_rfl) ?_
                  refine R.ldI ([] ++ vs_4) ((v_10).toNat) (by kernel_rfl) (by first | omega | (simp <;> omega)) (by kernel_rfl) ?_
                  refine R.go 1 (R.any1 13 (by kernel_rfl) (by kernel_rfl) ?_)
                  refine R.go 2 (R.any1 14 (by kernel_rfl) (by kernel_rfl) ?_)
                  refine R.idxO 2 1 ([] ++ vs_4).length ((v_10).toNat) v_10 (by kernel_rfl) (by omega) (by first | omega | (simp <;> omega)) (by kernel_rfl) ?_
                  refine R.go 1 (R.any1 15 (by kernel_rfl) (by kernel_rfl) ?_)
                  refine R.stI 2 2 ([] ++ vs_4) ((v_10).toNat) (bor (([] ++ vs_4).getD ((v_10).toNat) 0) (shl64 1 v_25)) (by kernel_rfl) (by first | omega | (simp <;> omega)) (by kernel_rfl) ?_
                  refine R.go 1 (R.any0 (by kernel_rfl) ?_)
                  exact R.metF (v_25, p1_26, h1_27) (by kernel_rfl) (by first | assumption | omega) (by kernel_rfl)
            · refine R.go 2 (R.any2 4 10 (by kernel_rfl) (by kernel_rfl) ?_ ?_)
              · refine R.idxO 2 1 ([] ++ vs_4).length ((v_10).toNat) v_10 (by kernel_rfl) (by omega) (by first | omega | (simp <;> omega)) (by kernel_rfl) ?_
                refine R.go 1 (R.any2 5 10 (by kernel_rfl) (by kernel_rfl) ?_ ?_)
                · refine R.ldI ([] ++ vs_4) ((v_10).toNat) (by kernel_rfl) (by first | omega | (simp <;> omega)) (by kernel_rfl) ?_
                  refine R.go 1 (R.any1 10 (by kernel_rfl) (by kernel_rfl) ?_)
                  refine R.callX (CallX.perm [1, 0, 2] [1, 0, 2] (CallX.box 1 28 [AI n_2, LI xs_3, LI vs_4] (belowX_c_r2 c p1_11 h1_12 n_2 28 3 1 [AI n_2, LI xs_3, LI vs_4] 2 1 (([] ++ vs_4).length) (rows eI ([] ++ vs_4)) hc) (by kernel_rfl) (by kernel_rfl) (by kernel_rfl) (by kernel_rfl) (by rintro _ _ ⟨_, _, _, _, rfl, rfl⟩; exact ⟨by kernel_rfl, by kernel_rfl, by kernel_rfl⟩)) (by kernel_rfl) (by kernel_rfl) (by kernel_rfl) (by rintro _ _ ⟨_, ⟨_, _, _, _, rfl, rfl⟩, rfl⟩; exact Nat.le_of_ble_eq_true (by kernel_rfl))) (by kernel_rfl) (by kernel_rfl) (by kernel_rfl) ?_
                  rintro _ _ ⟨_, _, ⟨_, ⟨v_29, p1_30, h1_31, f32, rfl, rfl⟩, rfl⟩, rfl, rfl⟩
                  refine R.go 1 (R.anyC 11 .u64 v_29 (by kernel_rfl) (u64_id (by omega) (by omega)) (np_meetF _ _) ?_)
                  refine R.anyS 12 1 v_29 (by kernel_rfl) (by omega) (np_meetF _ _) ?_
                  refine R.any1 13 (by kernel_rfl) (by kernel_rfl) ?_
                  refine R.go 2 (R.any1 14 (by kernel_rfl) (by kernel_rfl) ?_)
                  refine R.idxO 2 1 ([] ++ vs_4).length ((v_10).toNat) v_10 (by kernel_rfl) (by omega) (by first | omega | (simp <;> omega)) (by kernel_rfl) ?_
                  refine R.go 1 (R.any1 15 (by kernel_rfl) (by kernel_rfl) ?_)
                  refine R.stI 2 2 ([] ++ vs_4) ((v_10).toNat) (bor (([] ++ vs_4).getD ((v_10).toNat) 0) (shl64 1 v_29)) (by kernel_rfl) (by first | omega | (simp <;> omega)) (by kernel_rfl) ?_
                  refine R.go 1 (R.any0 (by kernel_rfl) ?_)
                  exact R.metF (v_29, p1_30, h1_31) (by kernel_rfl) (by first | assumption | omega) (by kernel_rfl)
                · refine R.callX (CallX.perm [1, 0, 2] [1, 0, 2] (CallX.box 1 28 [AI n_2, LI xs_3, LI vs_4] (belowX_c_r2 c p1_11 h1_12 n_2 28 3 1 [AI n_2, LI xs_3, LI vs_4] 2 1 (([] ++ vs_4).length) (rows eI ([] ++ vs_4)) hc) (by kernel_rfl) (by kernel_rfl) (by kernel_rfl) (by kernel_rfl) (by rintro _ _ ⟨_, _, _, _, rfl, rfl⟩; exact ⟨by kernel_rfl, by kernel_rfl, by kernel_rfl⟩)) (by kernel_rfl) (by kernel_rfl) (by kernel_rfl) (by rintro _ _ ⟨_, ⟨_, _, _, _, rfl, rfl⟩, rfl⟩; exact Nat.le_of_ble_eq_true (by kernel_rfl))) (by kernel_rfl) (by kernel_rfl) (by kernel_rfl) ?_
                  rintro _ _ ⟨_, _, ⟨_, ⟨v_33, p1_34, h1_35, f36, rfl, rfl⟩, rfl⟩, rfl, rfl⟩
                  refine R.go 1 (R.anyC 11 .u64 v_33 (by kernel_rfl) (u64_id (by omega) (by omega)) (np_meetF _ _) ?_)
                  refine R.anyS 12 1 v_33 (by kernel_rfl) (by omega) (np_meetF _ _) ?_
                  refine R.any1 5 (by kernel_rfl) (by kernel_rfl) ?_
                  refine R.ldI ([] ++ vs_4) ((v_10).toNat) (by kernel_rfl) (by first | omega | (simp <;> omega)) (by kernel_rfl) ?_
                  refine R.go 1 (R.any1 13 (by kernel_rfl) (by kernel_rfl) ?_)
                  refine R.go 2 (R.any1 14 (by kernel_rfl) (by kernel_rfl) ?_)
                  refine R.idxO 2 1 ([] ++ vs_4).length ((v_10).toNat) v_10 (by kernel_rfl) (by omega) (by first | omega | (simp <;> omega)) (by kernel_rfl) ?_
                  refine R.go 1 (R.any1 15 (by kernel_rfl) (by kernel_rfl) ?_)
                  refine R.stI 2 2 ([] ++ vs_4) ((v_10).toNat) (bor (([] ++ vs_4).getD ((v_10).toNat) 0) (shl64 1 v_33)) (by kernel_rfl) (by first | omega | (simp <;> omega)) (by kernel_rfl) ?_
                  refine R.go 1 (R.any0 (by kernel_rfl) ?_)
                  exact R.metF (v_33, p1_34, h1_35) (by kernel_rfl) (by first | assumption | omega) (by kernel_rfl)
              · refine R.callX (CallX.perm [1, 0, 2] [1, 0, 2] (CallX.box 1 28 [AI n_2, LI xs_3, LI vs_4] (belowX_c_r2 c p1_11 h1_12 n_2 28 3 1 [AI n_2, LI xs_3, LI vs_4] 2 1 (([] ++ vs_4).length) (rows eI ([] ++ vs_4)) hc) (by kernel_rfl) (by kernel_rfl) (by kernel_rfl) (by kernel_rfl) (by rintro _ _ ⟨_, _, _, _, rfl, rfl⟩; exact ⟨by kernel_rfl, by kernel_rfl, by kernel_rfl⟩)) (by kernel_rfl) (by kernel_rfl) (by kernel_rfl) (by rintro _ _ ⟨_, ⟨_, _, _, _, rfl, rfl⟩, rfl⟩; exact Nat.le_of_ble_eq_true (by kernel_rfl))) (by kernel_rfl) (by kernel_rfl) (by kernel_rfl) ?_
                rintro _ _ ⟨_, _, ⟨_, ⟨v_37, p1_38, h1_39, f40, rfl, rfl⟩, rfl⟩, rfl, rfl⟩
                refine R.go 1 (R.anyC 11 .u64 v_37 (by kernel_rfl) (u64_id (by omega) (by omega)) (np_meetF _ _) ?_)
                refine R.anyS 12 1 v_37 (by kernel_rfl) (by omega) (np_meetF _ _) ?_
                refine R.any1 4 (by kernel_rfl) (by kernel_rfl) ?_
                refine R.idxO 2 1 ([] ++ vs_4).length ((v_10).toNat) v_10 (by kernel_rfl) (by omega) (by first | omega | (simp <;> omega)) (by kernel_rfl) ?_
                refine R.go 1 (R.any1 5 (by kernel_rfl) (by kernel_rfl) ?_)
                refine R.ldI ([] ++ vs_4) ((v_10).toNat) (by kernel_rfl) (by first | omega | (simp <;> omega)) (by kernel_rfl) ?_
                refine R.go 1 (R.any1 13 (by kernel_rfl) (by kernel_rfl) ?_)
                refine R.go 2 (R.any1 14 (by kernel_rfl) (by kernel_rfl) ?_)
                refine R.idxO 2 1 ([] ++ vs_4).length ((v_10).toNat) v_10 (by kernel_rfl) (by omega) (by first | omega | (simp <;> omega)) (by kernel_rfl) ?_
                refine R.go 1 (R.any1 15 (by kernel_rfl) (by kernel_rfl) ?_)
                refine R.stI 2 2 ([] ++ vs_4) ((v_10).toNat) (bor (([] ++ vs_4).getD ((v_10).toNat) 0) (shl64 1 v_37)) (by kernel_rfl) (by first | omega | (simp <;> omega)) (by kernel_rfl) ?_
                refine R.go 1 (R.any0 (by kernel_rfl) ?_)
                exact R.metF (v_37, p1_38, h1_39) (by kernel_rfl) (by first | assumption | omega) (by kernel_rfl)
          · rintro ⟨v_17, p1_18, h1_19⟩ f20
            obtain ⟨b, hbb, hrow⟩ : ∃ b : Int, (0 ≤ b ∧ b < n_2) ∧ (([] ++ vs_4).set ((v_10).toNat) (bor (([] ++ vs_4).getD ((v_10).toNat) 0) (shl64 1 v_17))) = vsU vs_4 v_10 b := ⟨v_17, by omega, by rw [List.nil_append]; rfl⟩
            have hlp := law_po hm hpc hbb
            rw [← hrow] at hlp
            have hp1 := hlp.1
            have hp2 := hlp.2.1
            have hp3 := hlp.2.2.1
            have hp4 := hlp.2.2.2
            refine R.go 7 (R.call false (TS_impl n_2 xs_3 (([] ++ vs_4).set ((v_10).toNat) (bor (([] ++ vs_4).getD ((v_10).toNat) 0) (shl64 1 v_17))) a_5 (by first | omega | (simp <;> omega)) (by first | omega | (simp <;> omega)) (by first | omega | (simp <;> omega))) (by kernel_rfl) (by simp [AV.closed, closedL, AI]) (by kernel_rfl) ?_)
            refine R.go 12 (R.condN ((mcode n_2 xs_3 (([] ++ vs_4).set ((v_10).toNat) (bor (([] ++ vs_4).getD ((v_10).toNat) 0) (shl64 1 v_17))) a_5) = 0) (by kernel_rfl) (fun c41 => ?_) (fun c41 => ?_))
            · exact R.go 4 (R.retE (.bool false) (by kernel_rfl) (by kernel_rfl) (by first | (first | rfl | exact absurd hp1 (by assumption) | exact congrArg AV.bool (decide_eq_true (hp2 (by assumption))) | exact congrArg AV.bool (decide_eq_true (hp3 (by assumption))) | exact congrArg AV.bool (decide_eq_true (hp4 (by assumption))) | exact absurd ((hgu (by assumption)).symm.trans (by assumption : _ = false)) (by decide)) | (exfalso; omega)))
            · refine R.go 5 (R.call true (IG_impl a_5 v_10 (by first | omega | (simp <;> omega))) (by kernel_rfl) rfl (by kernel_rfl) ?_)
              refine R.go 9 (R.callX0 (DO_impl a_5 (by omega)) (by kernel_rfl) (by rintro _ _ ⟨_, _, _, _, rfl, rfl⟩; rfl) (by kernel_rfl) (by kernel_rfl) ?_)
              rintro _ ⟨h_42, m_43, r_44, f45, rfl, _⟩
              have hdo := (by assumption : m_43 ≤ h_42 ∧ (isF a_5 = true → r_44 = 0) ∧ 0 ≤ r_44 ∧ r_44 ≤ 1)
              have hr0 := hdo.2.1 hF
              refine R.go 13 (R.ar ((pC a_5 v_10) + r_44) (by kernel_rfl) (by omega) (by omega) (by kernel_rfl) ?_)
              refine R.go 2 ?_
              by_cases c46 : ((pC a_5 v_10) + r_44) = 0
              · refine R.want (!decide (((pC a_5 v_10) + r_44) = 0)) false (by kernel_rfl) (nF c46) ?_
                refine R.go 1 (R.want (!decide (((pC a_5 v_10) + r_44) = 0)) false (by kernel_rfl) (nF c46) ?_)
                refine R.go 1 (R.want (!decide (((pC a_5 v_10) + r_44) = 0)) false (by kernel_rfl) (nF c46) ?_)
                refine R.go 1 (R.pick (!decide (((pC a_5 v_10) + r_44) = 0)) false (by kernel_rfl) (nF c46) (by kernel_rfl) ?_)
                refine R.go 1 ?_
                by_cases c47 : h_42 < m_43
                · refine R.skp (decide (h_42 < m_43)) false (by kernel_rfl) (dT c47) (by kernel_rfl) ?_
                  refine R.skp (decide (h_42 < m_43)) false (by kernel_rfl) (dT c47) (by kernel_rfl) ?_
                  refine R.skp (decide (h_42 < m_43)) false (by kernel_rfl) (dT c47) (by kernel_rfl) ?_
                  refine R.go 2 (R.skp (decide (h_42 < m_43)) false (by kernel_rfl) (dT c47) (by kernel_rfl) ?_)
                  refine R.pick (decide (h_42 < m_43)) true (by kernel_rfl) (dT c47) (by kernel_rfl) ?_
                  exact R.go 6 (R.retE (.bool false) (by kernel_rfl) (by kernel_rfl) (by first | (first | rfl | exact absurd hp1 (by assumption) | exact congrArg AV.bool (decide_eq_true (hp2 (by assumption))) | exact congrArg AV.bool (decide_eq_true (hp3 (by assumption))) | exact congrArg AV.bool (decide_eq_true (hp4 (by assumption))) | exact absurd ((hgu (by assumption)).symm.trans (by assumption : _ = false)) (by decide)) | (exfalso; omega)))
                · refine R.want (decide (h_42 < m_43)) false (by kernel_rfl) (dF c47) ?_
                  refine R.go 1 (R.want (decide (h_42 < m_43)) false (by kernel_rfl) (dF c47) ?_)
                  refine R.go 1 (R.want (decide (h_42 < m_43)) false (by kernel_rfl) (dF c47) ?_)
                  refine R.go 1 ?_
                  by_cases c48 : (pR a_5 v_10) = 0
                  · refine R.want (decide ((pR a_5 v_10) = 0)) true (by kernel_rfl) (dT c48) ?_
                    refine R.go 1 (R.want (decide ((pR a_5 v_10) = 0)) true (by kernel_rfl) (dT c48) ?_)
                    refine R.go 1 (R.want (decide (h_42 < m_43)) false (by kernel_rfl) (dF c47) ?_)
                    refine R.pick (decide ((pR a_5 v_10) = 0)) true (by kernel_rfl) (dT c48) (by kernel_rfl) ?_
                    refine R.pick (decide (h_42 < m_43)) false (by kernel_rfl) (dF c47) (by kernel_rfl) ?_
                    refine R.go 1 (R.condM (gR a_5 v_10) (by kernel_rfl) (fun c49 => ?_) (fun c49 => ?_))
                    · exact R.go 4 (R.retE (.bool false) (by kernel_rfl) (by kernel_rfl) (by first | (first | rfl | exact absurd hp1 (by assumption) | exact congrArg AV.bool (decide_eq_true (hp2 (by assumption))) | exact congrArg AV.bool (decide_eq_true (hp3 (by assumption))) | exact congrArg AV.bool (decide_eq_true (hp4 (by assumption))) | exact absurd ((hgu (by assumption)).symm.trans (by assumption : _ = false)) (by decide)) | (exfalso; omega)))
                    · refine R.go 12 (R.thn (decide ((pR a_5 v_10) = 0)) (by kernel_rfl) (dT c48) ?_)
                      exact R.go 7 (R.retE (.bool (decide ((tval n_2 xs_3 (([] ++ vs_4).set ((v_10).toNat) (bor (([] ++ vs_4).getD ((v_10).toNat) 0) (shl64 1 v_17))) a_5) = (tval n_2 xs_3 vs_4 a_5)))) (by kernel_rfl) (by kernel_rfl) (by first | (first | rfl | exact absurd hp1 (by assumption) | exact congrArg AV.bool (decide_eq_true (hp2 (by assumption))) | exact congrArg AV.bool (decide_eq_true (hp3 (by assumption))) | exact congrArg AV.bool (decide_eq_true (hp4 (by assumption))) | exact absurd ((hgu (by assumption)).symm.trans (by assumption : _ = false)) (by decide)) | (exfalso; omega)))
                  · refine R.skp (decide ((pR a_5 v_10) = 0)) true (by kernel_rfl) (dF c48) (by kernel_rfl) ?_
                    refine R.skp (decide ((pR a_5 v_10) = 0)) true (by kernel_rfl) (dF c48) (by kernel_rfl) ?_
                    refine R.want (decide (h_42 < m_43)) false (by kernel_rfl) (dF c47) ?_
                    refine R.pick (decide ((pR a_5 v_10) = 0)) false (by kernel_rfl) (dF c48) (by kernel_rfl) ?_
                    refine R.pick (decide (h_42 < m_43)) false (by kernel_rfl) (dF c47) (by kernel_rfl) ?_
                    refine R.go 14 (R.els (decide ((pR a_5 v_10) = 0)) (by kernel_rfl) (dF c48) ?_)
                    refine R.go 5 (R.cond ((pR a_5 v_10) = 1) (by kernel_rfl) (fun c50 => ?_) (fun c50 => ?_))
                    · exact R.go 8 (R.retE (.bool (decide ((bnot (tval n_2 xs_3 vs_4 a_5) (tval n_2 xs_3 (([] ++ vs_4).set ((v_10).toNat) (bor (([] ++ vs_4).getD ((v_10).toNat) 0) (shl64 1 v_17))) a_5)) = 0))) (by kernel_rfl) (by kernel_rfl) (by first | (first | rfl | exact absurd hp1 (by assumption) | exact congrArg AV.bool (decide_eq_true (hp2 (by assumption))) | exact congrArg AV.bool (decide_eq_true (hp3 (by assumption))) | exact congrArg AV.bool (decide_eq_true (hp4 (by assumption))) | exact absurd ((hgu (by assumption)).symm.trans (by assumption : _ = false)) (by decide)) | (exfalso; omega)))
                    · refine R.go 5 (R.cond ((pR a_5 v_10) = 2) (by kernel_rfl) (fun c51 => ?_) (fun c51 => ?_))
                      · exact R.go 8 (R.retE (.bool (decide ((bnot (tval n_2 xs_3 (([] ++ vs_4).set ((v_10).toNat) (bor (([] ++ vs_4).getD ((v_10).toNat) 0) (shl64 1 v_17))) a_5) (tval n_2 xs_3 vs_4 a_5)) = 0))) (by kernel_rfl) (by kernel_rfl) (by first | (first | rfl | exact absurd hp1 (by assumption) | exact congrArg AV.bool (decide_eq_true (hp2 (by assumption))) | exact congrArg AV.bool (decide_eq_true (hp3 (by assumption))) | exact congrArg AV.bool (decide_eq_true (hp4 (by assumption))) | exact absurd ((hgu (by assumption)).symm.trans (by assumption : _ = false)) (by decide)) | (exfalso; omega)))
                      · exact R.go 6 (R.retE (.bool true) (by kernel_rfl) (by kernel_rfl) (by rfl))
              · refine R.skp (!decide (((pC a_5 v_10) + r_44) = 0)) false (by kernel_rfl) (nT c46) (by kernel_rfl) ?_
                refine R.skp (!decide (((pC a_5 v_10) + r_44) = 0)) false (by kernel_rfl) (nT c46) (by kernel_rfl) ?_
                refine R.skp (!decide (((pC a_5 v_10) + r_44) = 0)) false (by kernel_rfl) (nT c46) (by kernel_rfl) ?_
                refine R.pick (!decide (((pC a_5 v_10) + r_44) = 0)) true (by kernel_rfl) (nT c46) (by kernel_rfl) ?_
                exact R.go 14 (R.retE (.bool false) (by kernel_rfl) (by kernel_rfl) (by first | (first | rfl | exact absurd hp1 (by assumption) | exact congrArg AV.bool (decide_eq_true (hp2 (by assumption))) | exact congrArg AV.bool (decide_eq_true (hp3 (by assumption))) | exact congrArg AV.bool (decide_eq_true (hp4 (by assumption))) | exact absurd ((hgu (by assumption)).symm.trans (by assumption : _ = false)) (by decide)) | (exfalso; omega)))
      · refine R.skp (!decide ((mcode n_2 xs_3 vs_4 a_5) = 0)) false (by kernel_rfl) (nT c15) (by kernel_rfl) ?_
        refine R.skp (!decide ((mcode n_2 xs_3 vs_4 a_5) = 0)) false (by kernel_rfl) (nT c15) (by kernel_rfl) ?_
        refine R.skp (!decide ((mcode n_2 xs_3 vs_4 a_5) = 0)) false (by kernel_rfl) (nT c15) (by kernel_rfl) ?_
        refine R.skp (!decide ((mcode n_2 xs_3 vs_4 a_5) = 0)) false (by kernel_rfl) (nT c15) (by kernel_rfl) ?_
        refine R.pick (!decide ((mcode n_2 xs_3 vs_4 a_5) = 0)) true (by kernel_rfl) (nT c15) (by kernel_rfl) ?_
        exact R.go 6 (R.retE (.bool true) (by kernel_rfl) (by kernel_rfl) (by rfl))
    · refine R.skp (!decide ((pC a_5 v_10) = 0)) false (by kernel_rfl) (nT c14) (by kernel_rfl) ?_
      refine R.skp (!decide ((pC a_5 v_10) = 0)) false (by kernel_rfl) (nT c14) (by kernel_rfl) ?_
      refine R.pick (!decide ((pC a_5 v_10) = 0)) true (by kernel_rfl) (nT c14) (by kernel_rfl) ?_
      exact R.go 12 (R.retE (.bool true) (by kernel_rfl) (by kernel_rfl) (by rfl))

end Go.Proofs.Ytgebepfdphmjcaa
