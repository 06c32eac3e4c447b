/- Texts of the proof: HV3, HY5, Symj, HZ1, E01, E03, W06, PD1, S02, E02, E05. -/
import Derived.Test.YtjllngcefoohpaaGreatPartL

/-! Validity in a Heyting algebra and values of formulas: what the program answers. -/
namespace Go.Proofs.YtjllngcefoohpaaGreat
open Go.RowKit Go.Abs

theorem nt1 {b : Bool} (h : (!b) = false) : b = true := by simpa using h
theorem nt2 {b : Bool} (h : (!b) = true) : b = false := by simpa using h
theorem hvB_rng {A O J : List (List Int)} {t : Int} {a : List (Int × Int)} {rb : Bool} (h : rngH A O J t (mem (vmT [a] [a].length)) a (mem (vmT [a] [a].length)).length 0 = rb) : (!hvB A O J t a) = rb := by rw [← h, rngH_all, hvB]
theorem hvB_res {A O J : List (List Int)} {t : Int} {a : List (Int × Int)} {rb : Bool} (h : (!hvB A O J t a) = rb) : AV.tup [.bool (!rb), AI 0] = AV.tup [.bool (hvB A O J t a), AI 0] := by rw [← h, Bool.not_not]
theorem hcode_2 {A O J : List (List Int)} {bo t : Int} {a : List (Int × Int)} (h : isF a = false) : 1 = hcode A O J bo t a := by rw [hcode, if_neg (by rw [h]; rintro ⟨_, h⟩; cases h)]
theorem hcode_5 {A O J : List (List Int)} {bo t : Int} {a : List (Int × Int)} (h1 : hyIs A O J bo t = true) (h2 : isF a = true) (h : a.any modN = true) : 5 = hcode A O J bo t a := by
  rw [hcode, if_pos ⟨h1, h2⟩, if_neg (fun q => by rw [pl_one q] at h; cases h)]
theorem allPl_of {a : List (Int × Int)} (h : a.any modN = false) : allPl [a] = true := by simpa [allPl, anyM] using h
theorem hcode_3 {A O J : List (List Int)} {bo t : Int} {a : List (Int × Int)} (h1 : hyIs A O J bo t = true) (h2 : isF a = true) (h : a.any modN = false) (h4 : ¬ pwT (A.length : Int) (mem (vmT [a] [a].length)).length ≤ 4096) : 3 = hcode A O J bo t a := by
  rw [hcode, if_pos ⟨h1, h2⟩, if_pos (allPl_of h), if_neg h4]
theorem hcode_0 {A O J : List (List Int)} {bo t : Int} {a : List (Int × Int)} (h1 : hyIs A O J bo t = true) (h2 : isF a = true) (h : a.any modN = false) (h4 : pwT (A.length : Int) (mem (vmT [a] [a].length)).length ≤ 4096) : 0 = hcode A O J bo t a := by
  rw [hcode, if_pos ⟨h1, h2⟩, if_pos (allPl_of h), if_pos h4]
theorem hvh_code {A O J : List (List Int)} {bo t : Int} {a : List (Int × Int)} (h : hcode A O J bo t a = 0) (hb : bo = 0) : HVH A O J bo a := by
  obtain ⟨h1, h2, h3, _⟩ := hcode_ok h
  exact hvh_of h1 h2 (pl_one h3) hb
theorem vs_inN {N : Nat} {vs : List Int} (hN : 0 < N) (h : vs.any (outN N) = false) (v : Nat) : inN N (vs.getD v 0) := by
  rw [List.getD_eq_getElem?_getD]
  rcases Nat.lt_or_ge v vs.length with hv | hv
  · rw [List.getElem?_eq_getElem hv, Option.getD_some]
    have := List.any_eq_false.1 h _ (List.getElem_mem hv)
    exact outN_no.1 (by simpa using this)
  · rw [List.getElem?_eq_none hv]; exact ⟨by simp, by simp; omega⟩

theorem refutingH_c (A : List (List Int)) (O : List (List Int)) (J : List (List Int)) (bo : Int) (t : Int) (a : List (Int × Int)) (hH : HVH A O J bo a) : CallX Tryz.prog 73 [.agg [LLI A, LLI O, LLI J, AI bo, AI t], LN a] [] (fun (resX : AV) (objX : List AObj) => ∃ r : List Int, ∃ ff : Int, ∃ rb : Bool, ((!hvB A O J t a) = rb) ∧ resX = .tup [LI r, AI ff, .bool rb] ∧ objX = []) := by
 have hF1 := isF_one hH.f
 have hVS := VS_vmT hF1
 have h6 := mem_le (vmT [a] [a].length)
 have hA6 := isF_okm hH.f
 have hal := hA6.2
 refine CallX.dropE (CallX.ofF Tryz.func73 rfl (by kernel_rfl) ?_)
 intro usC frC hfC
 refine R.go 11 (R.lit (s := 1) (n := 1) (cs := rows eLN [a]) (by kernel_rfl) (by kernel_rfl) ?_)
 refine k14 true (variablesIn_c [a] (by assumption) (by first | omega | assumption | exact pvU_start _ _ | simp)).frz rfl ?_
 refine R.go 25 (k26 (k28e 0 usC frC (fillH_c ((mem (vmT [a] [a].length)).length) A O J bo t a (mem (vmT [a] [a].length)) (List.replicate 6 0) 0 0 0 (by omega) (by first | assumption | exact pvU_start _ _ | exact pvH_step (by assumption) hVS (by omega) (by omega)) (by assumption) hH (by first | omega | assumption | exact pvU_start _ _ | simp))) ?_)
 rintro _ _ ⟨_, _, ⟨rb_1, X2_2, f2_3, f4, f5, rfl, rfl⟩, rfl, rfl⟩
 refine R.go 11 (k18 4 ?_)
 refine R.kfix 0 (us := usC) (by kernel_rfl) (hfC.frz 4 (LI X2_2) (Nat.le_of_ble_eq_true (by kernel_rfl))) ?_
 exact R.retX (res := .tup [LI X2_2, AI f2_3, .bool rb_1]) (hp' := [.dead, .box 26 [LLI A, LLI O, LLI J, AI bo, AI t], .box 39 [LN a], .box 30 [LI (mem (vmT [a] [a].length))], .dead, .box 30 [LI X2_2], .box 2 [AI f2_3], .box 178 [.fn 164 [.ptr 3 0, .ptr 1 0, .ptr 5 0, .ptr 2 0, .ptr 6 0, .ptr 7 0]]]) (by kernel_rfl) (by kernel_rfl) (by kernel_rfl) (by kernel_rfl) ⟨[], by kernel_rfl, by decide, X2_2, f2_3, rb_1, by first | exact hvB_rng (by assumption) | assumption | omega, by kernel_rfl, by kernel_rfl⟩

theorem isHeytingT_c (A O J : List (List Int)) (bo t : Int) (la : A.length ≤ 1000000000 ∧ O.length ≤ 1000000000 ∧ J.length ≤ 1000000000) (mA : ∀ i0 : Nat, i0 < A.length → (A.getD i0 []).length ≤ 1000000000) (mO : ∀ i0 : Nat, i0 < O.length → (O.getD i0 []).length ≤ 1000000000) (mJ : ∀ i0 : Nat, i0 < J.length → (J.getD i0 []).length ≤ 1000000000) (hI : hyIs A O J bo t = true) : CallA Tryz.prog 53 [.agg [LLI A, LLI O, LLI J, AI bo, AI t]] (.bool (hyIs A O J bo t)) := CallE.toA (isHeytingYE A O J bo t la mA mO mJ (hyIs_parts.1 hI).2.2.2.2.1)

theorem hcode_c (A : List (List Int)) (O : List (List Int)) (J : List (List Int)) (bo : Int) (t : Int) (a : List (Int × Int)) (la : A.length ≤ 1000000000 ∧ O.length ≤ 1000000000 ∧ J.length ≤ 1000000000) (mA : ∀ i0 : Nat, i0 < A.length → (A.getD i0 []).length ≤ 1000000000) (mO : ∀ i0 : Nat, i0 < O.length → (O.getD i0 []).length ≤ 1000000000) (mJ : ∀ i0 : Nat, i0 < J.length → (J.getD i0 []).length ≤ 1000000000) (hI : hyIs A O J bo t = true) (hl : a.length ≤ 1000000000) : CallA Tryz.prog 72 [.agg [LLI A, LLI O, LLI J, AI bo, AI t], LN a] (AI (hcode A O J bo t a)) := by
 refine CallA.of Tryz.func72 rfl (by kernel_rfl) ?_
 refine R.go 10 (k14 true (isHeytingT_c A O J bo t la mA mO mJ hI) rfl ?_)
 refine R.go 2 (k5 (!(hyIs A O J bo t)) false (bnF hI) ?_)
 refine R.go 1 (k5 (!(hyIs A O J bo t)) false (bnF hI) ?_)
 refine k14 true (isFormula_c a hl) rfl ?_
 refine k5 (!(hyIs A O J bo t)) false (bnF hI) ?_
 refine R.go 1 (k7 (!(hyIs A O J bo t)) false (bnF hI) ?_)
 refine R.go 2 (k19 (isF a) (fun c1 => ?_) (fun c1 => ?_))
 ·exact R.go 4 (k17 (AI 1) (by first | (apply congrArg AI; first | exact hcode_1 (by assumption) | exact hcode_2 (by assumption) | exact hcode_5 (by assumption) (by assumption) (nt1 (by assumption)) | exact hcode_3 (by assumption) (by assumption) (nt2 (by assumption)) (by assumption) | exact hcode_0 (by assumption) (by assumption) (nt2 (by assumption)) (by assumption)) | (exfalso; omega)))
 ·refine R.go 3 (k14 true (isPlain_c a hl) rfl ?_)
  refine R.go 3 (k19 (!(a.any modN)) (fun c2 => ?_) (fun c2 => ?_))
  ·exact R.go 4 (k17 (AI 5) (by first | (apply congrArg AI; first | exact hcode_1 (by assumption) | exact hcode_2 (by assumption) | exact hcode_5 (by assumption) (by assumption) (nt1 (by assumption)) | exact hcode_3 (by assumption) (by assumption) (nt2 (by assumption)) (by assumption) | exact hcode_0 (by assumption) (by assumption) (nt2 (by assumption)) (by assumption)) | (exfalso; omega)))
  ·have h9 := (hyIs_parts.1 (by assumption : hyIs A O J bo t = true)).1
   have hml := mem_le (vmT [a] [a].length)
   have hF1 := isF_one (by assumption : isF a = true)
   refine R.go 6 (R.lit (s := 1) (n := 1) (cs := rows eLN [a]) (by kernel_rfl) (by kernel_rfl) ?_)
   refine k14 true (variablesIn_c [a] (by assumption) (by first | omega | (simp <;> omega))).frz rfl ?_
   refine R.go 1 (k14 true (fits_c A.length ((mem (vmT [a] [a].length)).length) (by first | omega | (simp <;> omega)) (by first | omega | (simp <;> omega)) (by first | omega | (simp <;> omega))) rfl ?_)
   refine R.go 3 (k4 (pwT A.length ((mem (vmT [a] [a].length)).length) ≤ 4096) (fun c3 => ?_) (fun c3 => ?_))
   ·exact R.go 4 (k17 (AI 3) (by first | (apply congrArg AI; first | exact hcode_1 (by assumption) | exact hcode_2 (by assumption) | exact hcode_5 (by assumption) (by assumption) (nt1 (by assumption)) | exact hcode_3 (by assumption) (by assumption) (nt2 (by assumption)) (by assumption) | exact hcode_0 (by assumption) (by assumption) (nt2 (by assumption)) (by assumption)) | (exfalso; omega)))
   ·exact R.go 6 (k17 (AI 0) (by first | (apply congrArg AI; first | exact hcode_1 (by assumption) | exact hcode_2 (by assumption) | exact hcode_5 (by assumption) (by assumption) (nt1 (by assumption)) | exact hcode_3 (by assumption) (by assumption) (nt2 (by assumption)) (by assumption) | exact hcode_0 (by assumption) (by assumption) (nt2 (by assumption)) (by assumption)) | (exfalso; omega)))

theorem isValidIn_c (A : List (List Int)) (O : List (List Int)) (J : List (List Int)) (bo : Int) (t : Int) (a : List (Int × Int)) (la : A.length ≤ 1000000000 ∧ O.length ≤ 1000000000 ∧ J.length ≤ 1000000000) (mA : ∀ i0 : Nat, i0 < A.length → (A.getD i0 []).length ≤ 1000000000) (mO : ∀ i0 : Nat, i0 < O.length → (O.getD i0 []).length ≤ 1000000000) (mJ : ∀ i0 : Nat, i0 < J.length → (J.getD i0 []).length ≤ 1000000000) (hc : hcode A O J bo t a = 0) (hb : bo = 0) : CallA Tryz.prog 19 [.agg [LLI A, LLI O, LLI J, AI bo, AI t], LN a] (.tup [.bool (hvB A O J t a), AI 0]) := by
 have hI := (hcode_ok hc).1
 have hH := hvh_code hc hb
 have hal := (isF_okm hH.f).2
 refine CallA.of Tryz.func19 rfl (by kernel_rfl) ?_
 refine R.go 11 (k14 true (hcode_c A O J bo t a la mA mO mJ (by assumption) (by first | omega | (simp <;> omega))) rfl ?_)
 refine R.go 7 (k4 ((hcode A O J bo t a) = 0) (fun c1 => ?_) (fun c1 => ?_))
 ·exact R.go 6 (k17 (.tup [.bool false, AI (hcode A O J bo t a)]) (by first | (exact hvB_res (by assumption)) | (exfalso; omega)))
 ·refine R.go 5 (R.callX0 (refutingH_c A O J bo t a (by assumption)) (by kernel_rfl) (by rintro _ _ ⟨_, _, _, _, rfl, rfl⟩; rfl) (by kernel_rfl) (by kernel_rfl) ?_)
  rintro _ ⟨r_2, ff_3, rb_4, f5, rfl, _⟩
  exact R.go 15 (k17 (.tup [.bool (!rb_4), AI 0]) (by first | (exact hvB_res (by assumption)) | (exfalso; omega)))

theorem valIn1_c (A : List (List Int)) (O : List (List Int)) (J : List (List Int)) (bo : Int) (t : Int) (x : Int) (la : A.length ≤ 1000000000) : CallA Tryz.prog 78 [AI x, .rptr [LLI A, LLI O, LLI J, AI bo, AI t]] (.bool (outN A.length x)) := by
 refine CallA.of Tryz.func78 rfl (by kernel_rfl) ?_
 refine R.go 8 (k14 true (hasElH_c A O J bo t x la) rfl ?_)
 exact R.go 3 (k17 (.bool (!(inR x 0 ((A.length : Int) - 1)))) (by first | (rfl) | (exfalso; omega)))

theorem indexVi_c (r : List Int) (A : List (List Int)) (O : List (List Int)) (J : List (List Int)) (bo : Int) (t : Int) (hl : r.length ≤ 1000000000) (la : A.length ≤ 1000000000) : CallA Tryz.prog 172 [LI r, .fn 78 [.rptr [LLI A, LLI O, LLI J, AI bo, AI t]]] (AI (fidxI (outN A.length) r 0)) := by
 refine CallA.of Tryz.func172 rfl (by kernel_rfl) ?_
 refine R.go 12 (k15 (fun (i : Nat) => (⟨(frm 19 [(0, LI r), (1, .fn 78 [.rptr [LLI A, LLI O, LLI J, AI bo, AI t]]), (7, AI r.length), (8, AI (i : Int))]), []⟩ : St)) (fun (i : Nat) => (i ≤ r.length) ∧ (fidxI (outN A.length) r 0 = fidxI (outN A.length) (r.drop i) i)) (fun (i : Nat) => r.length - i) 0 [0, 1, 7, 8] none ⟨(by omega), (by rfl)⟩ ?_)
 rintro i ⟨h3_1, h3_2⟩ R1 N2
 refine R.go 5 (k3 ((i : Int) < (r.length : Int)) (fun c4 => ?_) (fun c4 => ?_))
 ·refine R.go 13 (k8 eI r 0 i (i : Int) rfl eI_len ?_)
  refine R.go 1 (k14 true (valIn1_c A O J bo t (r.getD i 0) la) rfl ?_)
  refine R.go 1 (R.condB (outN A.length (r.getD i 0)) (by kernel_rfl) (fun c5 => ?_) (fun c5 => ?_))
  ·exact R.go 5 (k17 (AI (i : Int)) (by first | (apply congrArg AI; rw [‹fidxI (outN A.length) r 0 = _›]; first | exact (fidxI_end (by omega)).symm | exact (fidxI_hit (by omega) (by assumption)).symm) | (exfalso; omega)))
  ·refine R.go 3 (k1 ((i : Int) + 1) ?_)
   exact R.go 2 (k16 R1 (N2 (i + 1) [0, 1, 7, 8] none _ (by kernel_rfl) (by kernel_rfl) ⟨(by omega), (by rw [‹fidxI (outN A.length) r 0 = _›]; exact fidxI_miss (by omega) (by assumption))⟩ (by show (r.length - (i + 1)) < (r.length - i); omega)))
 ·exact R.go 5 (k17 (AI (-1)) (by first | (apply congrArg AI; rw [‹fidxI (outN A.length) r 0 = _›]; first | exact (fidxI_end (by omega)).symm | exact (fidxI_hit (by omega) (by assumption)).symm) | (exfalso; omega)))

theorem containsVi_c (r : List Int) (A : List (List Int)) (O : List (List Int)) (J : List (List Int)) (bo : Int) (t : Int) (hl : r.length ≤ 1000000000) (la : A.length ≤ 1000000000) : CallA Tryz.prog 77 [LI r, .fn 78 [.rptr [LLI A, LLI O, LLI J, AI bo, AI t]]] (.bool (r.any (outN A.length))) := by
 refine CallA.of Tryz.func77 rfl (by kernel_rfl) ?_
 refine R.go 8 (k14 true (indexVi_c r A O J bo t hl la) rfl ?_)
 exact R.go 3 (k17 (.bool (decide ((fidxI (outN A.length) r 0) ≥ 0))) (by first | (apply congrArg AV.bool; rw [Bool.eq_iff_iff, decide_eq_true_iff]; exact fidxI_any (Int.le_refl 0)) | (exfalso; omega)))

theorem valueIn_c (A : List (List Int)) (O : List (List Int)) (J : List (List Int)) (bo : Int) (t : Int) (vs : List Int) (a : List (Int × Int)) (la : A.length ≤ 1000000000 ∧ O.length ≤ 1000000000 ∧ J.length ≤ 1000000000) (mA : ∀ i0 : Nat, i0 < A.length → (A.getD i0 []).length ≤ 1000000000) (mO : ∀ i0 : Nat, i0 < O.length → (O.getD i0 []).length ≤ 1000000000) (mJ : ∀ i0 : Nat, i0 < J.length → (J.getD i0 []).length ≤ 1000000000) (hI : hyIs A O J bo t = true) (hF : isF a = true) (hp : a.any modN = false) (hb : bo = 0) (h6 : vs.length = 6) (hva : vs.any (outN A.length) = false) : CallA Tryz.prog 24 [.agg [LLI A, LLI O, LLI J, AI bo, AI t], LI vs, LN a] (.tup [AI (heyV A O J vs a), AI 0]) := by
 have hH := hvh_of hI hF hp hb
 have hA6 := isF_okm hF
 have hal := hA6.2
 have hok : OKM vs.length a := by rw [h6]; exact hA6.1
 have hv := vs_inN hH.n0 hva
 refine CallA.of Tryz.func24 rfl (by kernel_rfl) ?_
 refine R.go 11 (k14 true (isHeytingT_c A O J bo t la mA mO mJ hI) rfl ?_)
 refine R.go 2 (k5 (!(hyIs A O J bo t)) false (bnF hI) ?_)
 refine R.go 1 (k5 (!(hyIs A O J bo t)) false (bnF hI) ?_)
 refine k14 true (isFormula_c a (by first | omega | (simp <;> omega))) rfl ?_
 refine k5 (!(hyIs A O J bo t)) false (bnF hI) ?_
 refine R.go 1 (k7 (!(hyIs A O J bo t)) false (bnF hI) ?_)
 refine R.go 1 (k5 (!(isF a)) false (bnF hF) ?_)
 refine R.go 1 (k5 (!(isF a)) false (bnF hF) ?_)
 refine R.go 1 (k5 (!(isF a)) false (bnF hF) ?_)
 refine R.go 1 (k7 (!(isF a)) false (bnF hF) ?_)
 refine R.go 1 ?_
 by_cases c1 : (vs.length : Int) = 6
 ·refine k5 (!decide ((vs.length : Int) = 6)) false (nF c1) ?_
  refine R.go 1 (k5 (!decide ((vs.length : Int) = 6)) false (nF c1) ?_)
  refine R.go 1 (k5 (!decide ((vs.length : Int) = 6)) false (nF c1) ?_)
  refine k14 false (containsVi_c vs A O J bo t (by first | omega | (simp <;> omega)) (by first | omega | (simp <;> omega))) rfl ?_
  refine k7 (!decide ((vs.length : Int) = 6)) false (nF c1) ?_
  refine R.go 2 (R.els (vs.any (outN A.length)) (by kernel_rfl) hva ?_)
  refine R.go 3 (k14 true (isPlain_c a (by first | omega | (simp <;> omega))) rfl ?_)
  refine R.go 3 (k19 (!(a.any modN)) (fun c2 => ?_) (fun c2 => ?_))
  ·exact R.go 5 (k17 (.tup [AI 0, AI 5]) (by first | (first | rfl | exact absurd (hI.symm.trans (by assumption : _ = false)) (by decide) | exact absurd (hF.symm.trans (by assumption : _ = false)) (by decide) | exact absurd (hp.symm.trans (nt1 (by assumption))) (by decide) | exact absurd (hva.symm.trans (by assumption : _ = true)) (by decide) | (exfalso; omega)) | (exfalso; omega)))
  ·refine R.go 7 (k14 true (valueH_c A O J bo t vs a hok (by assumption) (by assumption) (by first | omega | (simp <;> omega))) rfl ?_)
   exact R.go 3 (k17 (.tup [AI (heyV A O J vs a), AI 0]) (by rfl))
 ·refine k6 (!decide ((vs.length : Int) = 6)) false (nT c1) ?_
  refine k6 (!decide ((vs.length : Int) = 6)) false (nT c1) ?_
  refine k6 (!decide ((vs.length : Int) = 6)) false (nT c1) ?_
  refine k7 (!decide ((vs.length : Int) = 6)) true (nT c1) ?_
  exact R.go 8 (k17 (.tup [AI 0, AI 1]) (by first | (first | rfl | exact absurd (hI.symm.trans (by assumption : _ = false)) (by decide) | exact absurd (hF.symm.trans (by assumption : _ = false)) (by decide) | exact absurd (hp.symm.trans (nt1 (by assumption))) (by decide) | exact absurd (hva.symm.trans (by assumption : _ = true)) (by decide) | (exfalso; omega)) | (exfalso; omega)))

end Go.Proofs.YtjllngcefoohpaaGreat


/-! The law of UpsetAlgebra. -/
namespace Go.Proofs.YtjllngcefoohpaaGreat
open Go.RowKit Go.Abs

/-- What UpsetAlgebra answers. -/
def uaC (n : Int) (xs : List Int) : Int := if okPo n xs = true then (if (upL n xs).length > 30 then 3 else 0) else 1
def uaT (f : List Int → Nat → Nat → Int) (n : Int) (xs : List Int) : List (List Int) := if uaC n xs = 0 then tabR (f (ordU (upL n xs))) (ordU (upL n xs)).length (ordU (upL n xs)).length else []
def uaA (n : Int) (xs : List Int) : List (List Int) := uaT hyM n xs
def uaO (n : Int) (xs : List Int) : List (List Int) := uaT hyJ n xs
def uaI (n : Int) (xs : List Int) : List (List Int) := uaT hyI n xs
def uaB (n : Int) (xs : List Int) : Int := if uaC n xs = 0 then lowF (ordU (upL n xs)) (fullM (ordU (upL n xs)).length) else 0
def uaP (n : Int) (xs : List Int) : Int := if uaC n xs = 0 then lowF (invA (ordU (upL n xs)) (ordU (upL n xs)).length) (fullM (ordU (upL n xs)).length) else 0
theorem ua_bad {n : Int} {xs : List Int} (h : okPo n xs = false) : uaC n xs = 1 ∧ uaA n xs = [] ∧ uaO n xs = [] ∧ uaI n xs = [] ∧ uaB n xs = 0 ∧ uaP n xs = 0 := by
  have e : uaC n xs = 1 := by simp [uaC, h]
  simp [uaA, uaO, uaI, uaT, uaB, uaP, e]
theorem ua_lim {n : Int} {xs : List Int} (h : okPo n xs = true) (h2 : (upL n xs).length > 30) : uaC n xs = 3 ∧ uaA n xs = [] ∧ uaO n xs = [] ∧ uaI n xs = [] ∧ uaB n xs = 0 ∧ uaP n xs = 0 := by
  have e : uaC n xs = 3 := by simp [uaC, h, h2]
  simp [uaA, uaO, uaI, uaT, uaB, uaP, e]
theorem ua_ok {n : Int} {xs : List Int} (h : okPo n xs = true) (h2 : (upL n xs).length ≤ 30) : uaC n xs = 0 ∧ uaA n xs = tabR (hyM (ordU (upL n xs))) (ordU (upL n xs)).length (ordU (upL n xs)).length ∧ uaO n xs = tabR (hyJ (ordU (upL n xs))) (ordU (upL n xs)).length (ordU (upL n xs)).length ∧ uaI n xs = tabR (hyI (ordU (upL n xs))) (ordU (upL n xs)).length (ordU (upL n xs)).length ∧ uaB n xs = lowF (ordU (upL n xs)) (fullM (ordU (upL n xs)).length) ∧ uaP n xs = lowF (invA (ordU (upL n xs)) (ordU (upL n xs)).length) (fullM (ordU (upL n xs)).length) := by
  have e : uaC n xs = 0 := by simp [uaC, h]; omega
  simp [uaA, uaO, uaI, uaT, uaB, uaP, e]
theorem ua_cases (n : Int) (xs : List Int) : okPo n xs = false ∨ (okPo n xs = true ∧ (upL n xs).length > 30) ∨ (okPo n xs = true ∧ (upL n xs).length ≤ 30) := by
  cases h : okPo n xs with
  | false => exact .inl rfl
  | true => rcases Nat.lt_or_ge 30 (upL n xs).length with h2 | h2
            · exact .inr (.inl ⟨rfl, h2⟩)
            · exact .inr (.inr ⟨rfl, h2⟩)
theorem uaT_len (f : List Int → Nat → Nat → Int) (n : Int) (xs : List Int) : (uaT f n xs).length ≤ 30 ∧ ∀ j : Nat, j < (uaT f n xs).length → ((uaT f n xs).getD j []).length ≤ 30 := by
  rcases ua_cases n xs with h | ⟨h, h2⟩ | ⟨h, h2⟩
  · have e : uaC n xs = 1 := by simp [uaC, h]
    simp [uaT, e]
  · have e : uaC n xs = 3 := by simp [uaC, h, h2]
    simp [uaT, e]
  · have e : uaC n xs = 0 := by simp [uaC, h]; omega
    rw [uaT, if_pos e, tabR_len, ordU_len]
    exact ⟨h2, fun j hj => by rw [tabR_get hj, rowR_len]; exact h2⟩
theorem NX.at {α β : Type} {L : List (Value × List α)} {K : List (Value × List β)} (h : NX L K) (d : Value × List α) {i : Nat} (hi : i < L.length) : ∀ x ∈ K, ∀ g, blk (L.getD i d).1 = some g → blk x.1 ≠ some g :=
  fun x hx g a => h _ (List.mem_of_getElem? (i := i) (by simp [List.getD_eq_getElem?_getD, List.getElem?_eq_getElem hi])) x hx g a
theorem set_names {α : Type} {L : List (Value × List α)} {i : Nat} {d : Value × List α} {ys : List α} (hi : i < L.length) {x : Value × List α} (hx : x ∈ L.set i ((L.getD i d).1, ys)) : ∃ y ∈ L, y.1 = x.1 := by
  rcases List.mem_or_eq_of_mem_set hx with h | h
  · exact ⟨x, h, rfl⟩
  · exact ⟨L.getD i d, List.mem_of_getElem? (i := i) (by simp [List.getD_eq_getElem?_getD, List.getElem?_eq_getElem hi]), by rw [h]⟩
theorem NX.setL {α β : Type} {L : List (Value × List α)} {K : List (Value × List β)} (h : NX L K) (i : Nat) (d : Value × List α) (ys : List α) (hi : i < L.length) : NX (L.set i ((L.getD i d).1, ys)) K := by
  intro u hu w hw g a b
  obtain ⟨y, hy, e⟩ := set_names hi hu
  exact h y hy w hw g (by rw [e]; exact a) b
theorem UpsetAlgebra_c (n : Int) (xs : List Int) (lx : xs.length ≤ 1048576) : CallE Tryz.prog 18 [.agg [AI n, LI xs]] (fun (b : Nat) (r : AV) => ∃ LA : List (Value × List Int), ∃ LO : List (Value × List Int), ∃ LJ : List (Value × List Int), r = .tup [.agg [ownA (eV eI 2 1) 30 1 LA, ownA (eV eI 2 1) 30 1 LO, ownA (eV eI 2 1) 30 1 LJ, AI (uaB n xs), AI (uaP n xs)], AI (uaC n xs)] ∧ (NL b LA) ∧ (NL b LO) ∧ (NL b LJ) ∧ (NX LA LO) ∧ (NX LA LJ) ∧ (NX LO LJ) ∧ (LA.map Prod.snd = uaA n xs) ∧ (LO.map Prod.snd = uaO n xs) ∧ (LJ.map Prod.snd = uaI n xs)) := by
 refine CallE.of Tryz.func18 rfl (by kernel_rfl) (fun b => ?_)
 refine R.go 11 (k14 true (isPoset_c n xs (by first | omega | (simp <;> omega))) rfl ?_)
 refine R.go 3 (k19 (okPo n xs) (fun c1 => ?_) (fun c1 => ?_))
 ·have hP : okPo n xs = false := by assumption
  obtain ⟨hu1, hu2, hu3, hu4, hu5, hu6⟩ := ua_bad hP
  refine R.go 6 (R.nilB 2 0 30 1 (by kernel_rfl) ?_)
  refine R.nilB 2 1 30 1 (by kernel_rfl) ?_
  refine R.nilB 2 2 30 1 (by kernel_rfl) ?_
  exact k27 (.tup [.agg [ownA (eV eI 2 1) 30 1 [], ownA (eV eI 2 1) 30 1 [], ownA (eV eI 2 1) 30 1 [], AI 0, AI 0], AI 1]) ⟨[], [], [], by first | rfl | (rw [hu1, hu5, hu6]) | (exfalso; omega), by first | (first | exact NL.nil | exact NL.mono ‹NL bE1 LAE1› ‹b ≤ bE1›) | (exfalso; omega), by first | (first | exact NL.nil | exact NL.mono ‹NL bE1 LOE1› ‹b ≤ bE1›) | (exfalso; omega), by first | (first | exact NL.nil | exact NL.mono ‹NL bE1 LJE1› ‹b ≤ bE1›) | (exfalso; omega), by first | (first | exact NX.nil | assumption) | (exfalso; omega), by first | (first | exact NX.nil | assumption) | (exfalso; omega), by first | (first | exact NX.nil | assumption) | (exfalso; omega), by first | (rw [hu2]; first | rfl | assumption) | (exfalso; omega), by first | (rw [hu3]; first | rfl | assumption) | (exfalso; omega), by first | (rw [hu4]; first | rfl | assumption) | (exfalso; omega)⟩
 ·refine R.go 3 (k14 true (upsets_c n xs c1).frz rfl ?_)
  refine R.go 4 (k3 (((upL n xs).length : Int) > 30) (fun c2 => ?_) (fun c2 => ?_))
  ·have hP : okPo n xs = true := by assumption
   have h30 : (upL n xs).length > 30 := by omega
   obtain ⟨hu1, hu2, hu3, hu4, hu5, hu6⟩ := ua_lim hP h30
   refine R.go 6 (R.nilB 2 0 30 1 (by kernel_rfl) ?_)
   refine R.nilB 2 1 30 1 (by kernel_rfl) ?_
   refine R.nilB 2 2 30 1 (by kernel_rfl) ?_
   exact k27 (.tup [.agg [ownA (eV eI 2 1) 30 1 [], ownA (eV eI 2 1) 30 1 [], ownA (eV eI 2 1) 30 1 [], AI 0, AI 0], AI 3]) ⟨[], [], [], by first | rfl | (rw [hu1, hu5, hu6]) | (exfalso; omega), by first | (first | exact NL.nil | exact NL.mono ‹NL bE1 LAE1› ‹b ≤ bE1›) | (exfalso; omega), by first | (first | exact NL.nil | exact NL.mono ‹NL bE1 LOE1› ‹b ≤ bE1›) | (exfalso; omega), by first | (first | exact NL.nil | exact NL.mono ‹NL bE1 LJE1› ‹b ≤ bE1›) | (exfalso; omega), by first | (first | exact NX.nil | assumption) | (exfalso; omega), by first | (first | exact NX.nil | assumption) | (exfalso; omega), by first | (first | exact NX.nil | assumption) | (exfalso; omega), by first | (rw [hu2]; first | rfl | assumption) | (exfalso; omega), by first | (rw [hu3]; first | rfl | assumption) | (exfalso; omega), by first | (rw [hu4]; first | rfl | assumption) | (exfalso; omega)⟩
  ·have hP : okPo n xs = true := by assumption
   have h30 : (upL n xs).length ≤ 30 := by omega
   obtain ⟨hu1, hu2, hu3, hu4, hu5, hu6⟩ := ua_ok hP h30
   refine R.go 5 (R.callE (avs0 := [.agg [AI n, LI xs]]) (upsetAlgebra_c n xs hP h30) (by kernel_rfl) (.cons (.agg (.cons (.leaf rfl) (.cons (.leaf rfl) (.nil)))) (.nil)) (upsetAlgebra_c_cl n xs) (by kernel_rfl) ?_)
   intro bE1 hbn3 hsn4 rn5 hrn6
   obtain ⟨LAE1, LOE1, LJE1, rfl, heE1_1, heE1_2, heE1_3, heE1_4, heE1_5, heE1_6, heE1_7, heE1_8, heE1_9⟩ := hrn6
   have hbb7 : b ≤ bE1 := hbn3 0 b (by kernel_rfl)
   clear hbn3 hsn4
   exact R.go 3 (k27 (.tup [.agg [ownA (eV eI 2 1) 30 1 LAE1, ownA (eV eI 2 1) 30 1 LOE1, ownA (eV eI 2 1) 30 1 LJE1, AI (lowF (ordU (upL n xs)) (fullM (ordU (upL n xs)).length)), AI (lowF (invA (ordU (upL n xs)) (ordU (upL n xs)).length) (fullM (ordU (upL n xs)).length))], AI 0]) ⟨LAE1, LOE1, LJE1, by first | rfl | (rw [hu1, hu5, hu6]) | (exfalso; omega), by first | (first | exact NL.nil | exact NL.mono ‹NL bE1 LAE1› ‹b ≤ bE1›) | (exfalso; omega), by first | (first | exact NL.nil | exact NL.mono ‹NL bE1 LOE1› ‹b ≤ bE1›) | (exfalso; omega), by first | (first | exact NL.nil | exact NL.mono ‹NL bE1 LJE1› ‹b ≤ bE1›) | (exfalso; omega), by first | (first | exact NX.nil | assumption) | (exfalso; omega), by first | (first | exact NX.nil | assumption) | (exfalso; omega), by first | (first | exact NX.nil | assumption) | (exfalso; omega), by first | (rw [hu2]; first | rfl | assumption) | (exfalso; omega), by first | (rw [hu3]; first | rfl | assumption) | (exfalso; omega), by first | (rw [hu4]; first | rfl | assumption) | (exfalso; omega)⟩)
end Go.Proofs.YtjllngcefoohpaaGreat


/-! Results with names handed back to be read only: the names are forgotten. -/
namespace Go.Abs
open Go.RowKit

theorem Rel.unnam {w : World} {Z : Nat → Prop} {μ : List Value} {u v : Value} {o : Option Nat} {s n : Nat} {cs : List AV} (h : Rel w Z μ (.nam u o s n cs) v) : Rel w Z μ (.lst s n cs) v := by
  simp only [Rel] at h ⊢
  exact h.2

/-- What stands for c stands for d, too. -/
def LessV (c d : AV) : Prop := ∀ (w : World) (Z : Nat → Prop) (μ : List Value) (v : Value), Rel w Z μ c v → Rel w Z μ d v
inductive LessL : List AV → List AV → Prop
  | nil : LessL [] []
  | cons {c d : AV} {cs ds : List AV} (h : LessV c d) (t : LessL cs ds) : LessL (c :: cs) (d :: ds)
theorem RelL.lessV {w : World} {Z : Nat → Prop} {μ : List Value} : ∀ {cs ds : List AV} {vs : List Value}, LessL cs ds → RelL w Z μ cs vs → RelL w Z μ ds vs
  | [], [], vs, _, h => h
  | c :: cs, d :: ds, vs, hl, h => by
    simp only [RelL] at h ⊢
    obtain ⟨x, xs, e, h1, h2⟩ := h
    cases hl with
    | cons a b => exact ⟨x, xs, e, a w Z μ x h1, RelL.lessV b h2⟩
  | [], _ :: _, _, hl, _ => by cases hl
  | _ :: _, [], _, hl, _ => by cases hl
theorem lessV_nam {el : Nat} {s : Nat} {α : Type} {E : α → List AV} {x : Value × List α} {F : List α → List AV} (hF : F x.2 = [.lst s x.2.length (rows E x.2)]) : LessL (eV E el s x) (F x.2) := by
  rw [hF, eV]
  exact .cons (fun w Z μ v h => Rel.unnam h) .nil
theorem rowsV_less {α : Type} {E : α → List AV} {el s : Nat} {F : List α → List AV} (hF : ∀ r, F r = [.lst s r.length (rows E r)]) : ∀ L : List (Value × List α), LessL (rows (eV E el s) L) (rows F (L.map Prod.snd))
  | [] => .nil
  | x :: L => by
    have ih := rowsV_less (el := el) hF L
    have h1 := lessV_nam (el := el) (x := x) (F := F) (hF x.2)
    show LessL (eV E el s x ++ rows (eV E el s) L) (F x.2 ++ rows F (L.map Prod.snd))
    rw [hF] at h1 ⊢
    cases h1 with
    | cons a b => cases b; exact .cons a ih

/-- A result r may be handed back as r', to be read only. -/
def FrzTo (r r' : AV) : Prop := ∀ (w : World) (Z Z' : Nat → Prop) (B : Nat) (v : Value) (bs : List Nat), (∀ b, b < w.heap.size → ¬ Z b → ¬ Z' b) → (∀ g ∈ bs, ¬ Z' g) → RF w Z B r v bs → RF w Z' B r' v []
def FrzToL (r r' : List AV) : Prop := ∀ (w : World) (Z Z' : Nat → Prop) (B : Nat) (v : List Value) (bs : List Nat), (∀ b, b < w.heap.size → ¬ Z b → ¬ Z' b) → (∀ g ∈ bs, ¬ Z' g) → RFL w Z B r v bs → RFL w Z' B r' v []
theorem FrzTo.id (r : AV) : FrzTo r (frzR r) := fun _ _ _ _ _ _ hz hb h => RF.frz hz hb h
theorem FrzToL.nil : FrzToL [] [] := fun w Z Z' B v bs hz hb h => by
  simp only [RFL] at h ⊢; exact ⟨h.1, trivial⟩
theorem FrzToL.cons {r r' : AV} {l l' : List AV} (h1 : FrzTo r r') (h2 : FrzToL l l') : FrzToL (r :: l) (r' :: l') := fun w Z Z' B v bs hz hb h => by
  simp only [RFL] at h ⊢
  obtain ⟨x, xs, b1, b2, rfl, k1, k2, rfl⟩ := h
  exact ⟨x, xs, [], [], rfl, h1 w Z Z' B x b1 hz (fun g hg => hb g (by simp [hg])) k1, h2 w Z Z' B xs b2 hz (fun g hg => hb g (by simp [hg])) k2, rfl⟩
theorem FrzTo.agg {l l' : List AV} (h : FrzToL l l') : FrzTo (.agg l) (.agg l') := fun w Z Z' B v bs hz hb hr => by
  simp only [RF] at hr ⊢
  obtain ⟨xs, h1, h2⟩ := hr
  exact ⟨xs, h1, h w Z Z' B xs bs hz hb h2⟩
theorem FrzTo.tup {l l' : List AV} (h : FrzToL l l') : FrzTo (.tup l) (.tup l') := fun w Z Z' B v bs hz hb hr => by
  simp only [RF] at hr ⊢
  obtain ⟨xs, h1, h2⟩ := hr
  exact ⟨xs, h1, h w Z Z' B xs bs hz hb h2⟩
theorem FrzTo.less {r : AV} {s n : Nat} {cs ds : List AV} (h : FrzTo r (.lst s n cs)) (hl : LessL cs ds) (hn : ds.length = cs.length) : FrzTo r (.lst s n ds) := fun w Z Z' B v bs hz hb hr => by
  have h1 := h w Z Z' B v bs hz hb hr
  simp only [RF] at h1 ⊢
  refine ⟨?_, trivial⟩
  have h2 := h1.1
  simp only [Rel] at h2 ⊢
  obtain ⟨A, c, xs, e1, e2, e3, e4, e5⟩ := h2
  exact ⟨A, c, xs, e1, by rw [hn]; exact e2, e3, e4, RelL.lessV hl e5⟩
theorem forall2_len {l k : List AV} (h : LessL l k) : k.length = l.length := by
  induction h with
  | nil => rfl
  | cons _ _ ih => simp [ih]
/-- A row of named rows as a row of rows. -/
theorem FrzTo.ownV (e el : Nat) (L : List (Value × List Int)) : FrzTo (ownA (eV eI el 1) e 1 L) (LLI (L.map Prod.snd)) := by
  have hl := rowsV_less (E := eI) (el := el) (s := 1) (F := eLI) (fun r => rfl) L
  have h1 : FrzTo (ownA (eV eI el 1) e 1 L) (.lst 1 L.length (rows (eV eI el 1) L)) := FrzTo.id _
  have h2 := FrzTo.less h1 hl (forall2_len hl)
  rwa [LLI, List.length_map]
theorem FrzTo.ownV_eq {e el : Nat} {L : List (Value × List Int)} {X : List (List Int)} (h : L.map Prod.snd = X) : FrzTo (ownA (eV eI el 1) e 1 L) (LLI X) := h ▸ FrzTo.ownV e el L

theorem CallE.frzA {P : Program} {f : FuncId} {args : List AV} {Φ : Nat → AV → Prop} {res : AV} (h : CallE P f args Φ) (hΦ : ∀ b r, Φ b r → FrzTo r res) : CallA P f args res := by
  refine ⟨h.1, fun Z0 w vs hvs => (h.2 Z0 w vs hvs).mono ?_⟩
  rintro e w' ⟨r, v, bs, F', hr, rfl, hF', hr2, hnd, hbf, hbel⟩
  refine ⟨v, [], fun b => F' b ∨ b ∈ bs, rfl, fun b hb => hb.elim (hF' b) (fun h => ⟨RF.ge hr2 b h, RF.lt hr2 b h⟩), hΦ _ _ hr w' _ _ _ v bs (fun b _ => zone_more b) (fun g hg hz => ?_) hr2, List.nodup_nil, by simp, hbel⟩
  have := RF.ge hr2 g hg
  exact hz.elim (fun h => by omega) (fun h => h.2 (.inr hg))
end Go.Abs


/-! The algebra of a poset's upsets, to be read only. -/
namespace Go.Proofs.YtjllngcefoohpaaGreat
open Go.RowKit Go.Abs

theorem UpsetAlgebraF_c (n : Int) (xs : List Int) (lx : xs.length ≤ 1048576) : CallA Tryz.prog 18 [.agg [AI n, LI xs]] (.tup [.agg [LLI (uaA n xs), LLI (uaO n xs), LLI (uaI n xs), AI (uaB n xs), AI (uaP n xs)], AI (uaC n xs)]) := by
  refine CallE.frzA (UpsetAlgebra_c n xs lx) ?_
  rintro b r ⟨LA, LO, LJ, rfl, _, _, _, _, _, _, h7, h8, h9⟩
  exact FrzTo.tup (.cons (FrzTo.agg (.cons (FrzTo.ownV_eq h7) (.cons (FrzTo.ownV_eq h8) (.cons (FrzTo.ownV_eq h9) (.cons (FrzTo.id _) (.cons (FrzTo.id _) .nil)))))) (.cons (FrzTo.id _) .nil))

end Go.Proofs.YtjllngcefoohpaaGreat


/-! Draws, existential: numbers. -/
namespace Go.Proofs.YtjllngcefoohpaaGreat
open Go.RowKit Go.Abs

theorem u64and (a : Int) : 0 ≤ bits .and .u64 a 16777215 ∧ bits .and .u64 a 16777215 ≤ 16777215 := by
  show 0 ≤ IntKind.u64.wrap _ ∧ IntKind.u64.wrap _ ≤ 16777215
  rw [IntKind.wrap_u64]
  have h : (BitVec.ofInt 64 a &&& BitVec.ofInt 64 16777215).toNat ≤ 16777215 := by
    rw [BitVec.toNat_and]
    exact Nat.le_trans Nat.and_le_right (by decide)
  have e : ∀ k : Nat, k ≤ 16777215 → 0 ≤ ((k : Int) % 18446744073709551616) ∧ ((k : Int) % 18446744073709551616) ≤ 16777215 := fun k hk => by omega
  exact e _ h
def BY (c : List Int) : Prop := c.length ≤ 4096 ∧ ∀ j : Nat, j < c.length → 0 ≤ c.getD j 0 ∧ c.getD j 0 ≤ 255
theorem mod_rng {x n : Int} (h : ¬ n < 1) : (n < 1 → x % n = 0) ∧ (1 ≤ n → 0 ≤ x % n ∧ x % n < n) := ⟨fun h1 => absurd h1 h, fun h1 => ⟨Int.emod_nonneg _ (by omega), Int.emod_lt_of_pos _ (by omega)⟩⟩

theorem nextX_c_r2 (c : List Int) (p : Nat) (h : Int) (n : Int) (eo1 : Nat) (so1 : Nat) (no1 : Nat) (co1 : List AV) (eo2 : Nat) (so2 : Nat) (no2 : Nat) (co2 : List AV) (hc : BY c) : CallX Tryz.prog 101 [.ptr 0 0, AI n] [.box 157 [LB c, AI (p : Int), .int .u64 h], .list eo1 so1 no1 co1, .list eo2 so2 no2 co2] (fun (resX : AV) (objX : List AObj) => ∃ v : Int, ∃ p1 : Nat, ∃ h1 : Int, ((n < 1 → v = 0) ∧ (1 ≤ n → 0 ≤ v ∧ v < n)) ∧ resX = AI v ∧ objX = [.box 157 [LB c, AI (p1 : Int), .int .u64 h1], .list eo1 so1 no1 co1, .list eo2 so2 no2 co2]) := by
 have hcl : c.length ≤ 4096 := hc.1
 have hcb := hc.2
 have hxr := fun h => u64and (shr64 (IntKind.u64.wrap (IntKind.u64.wrap (h * 6364136223846793005) + 1442695040888963407)) 33)
 have hxh := hxr h
 refine CallX.dropE (CallX.ofF Tryz.func101 rfl (by kernel_rfl) ?_)
 intro usC frC hfC
 refine R.go 10 (k3 (n < 1) (fun c1 => ?_) (fun c1 => ?_))
 ·exact R.go 4 (R.retX (res := AI 0) (hp' := [.box 157 [LB c, AI (p : Int), .int .u64 h], .list eo1 so1 no1 co1, .list eo2 so2 no2 co2, .dead]) (by kernel_rfl) (by kernel_rfl) (by kernel_rfl) (by kernel_rfl) ⟨[0, 1, 2], by kernel_rfl, by decide, 0, p, h, by first | exact mod_rng (by assumption) | exact ⟨fun _ => rfl, fun h1 => by omega⟩, by kernel_rfl, by kernel_rfl⟩)
 ·refine R.go 22 (k2 .i64 (bits .and .u64 (shr64 (IntKind.u64.wrap ((IntKind.u64.wrap (h * 6364136223846793005)) + 1442695040888963407)) 33) 16777215) (wrap_id (by omega) (by omega)) ?_)
  refine R.go 16 (k3 ((p : Int) < (c.length : Int)) (fun c2 => ?_) (fun c2 => ?_))
  ·have hbp := hcb p (by omega)
   refine R.go 11 (k8 eB c 0 p (p : Int) rfl eB_len ?_)
   refine R.go 1 (k2 .i64 (c.getD p 0) (wrap_id (by omega) (by omega)) ?_)
   refine k1 ((bits .and .u64 (shr64 (IntKind.u64.wrap ((IntKind.u64.wrap (h * 6364136223846793005)) + 1442695040888963407)) 33) 16777215) + (c.getD p 0)) ?_
   refine R.go 8 (k1 ((p : Int) + 1) ?_)
   refine R.go 8 (R.rem ((bits .and .u64 (shr64 (IntKind.u64.wrap ((IntKind.u64.wrap (h * 6364136223846793005)) + 1442695040888963407)) 33) 16777215) + (c.getD p 0)) n (by kernel_rfl) (by omega) (by omega) (by kernel_rfl) ?_)
   exact R.go 2 (R.retX (res := AI (((bits .and .u64 (shr64 (IntKind.u64.wrap ((IntKind.u64.wrap (h * 6364136223846793005)) + 1442695040888963407)) 33) 16777215) + (c.getD p 0)) % n)) (hp' := [.box 157 [LB c, AI ((p : Int) + 1), .int .u64 (IntKind.u64.wrap ((IntKind.u64.wrap (h * 6364136223846793005)) + 1442695040888963407))], .list eo1 so1 no1 co1, .list eo2 so2 no2 co2, .dead]) (by kernel_rfl) (by kernel_rfl) (by kernel_rfl) (by kernel_rfl) ⟨[0, 1, 2], by kernel_rfl, by decide, ((bits .and .u64 (shr64 (IntKind.u64.wrap ((IntKind.u64.wrap (h * 6364136223846793005)) + 1442695040888963407)) 33) 16777215) + (c.getD p 0)) % n, p + 1, IntKind.u64.wrap ((IntKind.u64.wrap (h * 6364136223846793005)) + 1442695040888963407), by first | exact mod_rng (by assumption) | exact ⟨fun _ => rfl, fun h1 => by omega⟩, by kernel_rfl, by kernel_rfl⟩)
  ·refine R.go 5 (R.rem (bits .and .u64 (shr64 (IntKind.u64.wrap ((IntKind.u64.wrap (h * 6364136223846793005)) + 1442695040888963407)) 33) 16777215) n (by kernel_rfl) (by omega) (by omega) (by kernel_rfl) ?_)
   exact R.go 2 (R.retX (res := AI ((bits .and .u64 (shr64 (IntKind.u64.wrap ((IntKind.u64.wrap (h * 6364136223846793005)) + 1442695040888963407)) 33) 16777215) % n)) (hp' := [.box 157 [LB c, AI (p : Int), .int .u64 (IntKind.u64.wrap ((IntKind.u64.wrap (h * 6364136223846793005)) + 1442695040888963407))], .list eo1 so1 no1 co1, .list eo2 so2 no2 co2, .dead]) (by kernel_rfl) (by kernel_rfl) (by kernel_rfl) (by kernel_rfl) ⟨[0, 1, 2], by kernel_rfl, by decide, (bits .and .u64 (shr64 (IntKind.u64.wrap ((IntKind.u64.wrap (h * 6364136223846793005)) + 1442695040888963407)) 33) 16777215) % n, p, IntKind.u64.wrap ((IntKind.u64.wrap (h * 6364136223846793005)) + 1442695040888963407), by first | exact mod_rng (by assumption) | exact ⟨fun _ => rfl, fun h1 => by omega⟩, by kernel_rfl, by kernel_rfl⟩)

theorem nextX_c_r3 (c : List Int) (p : Nat) (h : Int) (n : Int) (eo1 : Nat) (so1 : Nat) (no1 : Nat) (co1 : List AV) (eo2 : Nat) (so2 : Nat) (no2 : Nat) (co2 : List AV) (eo3 : Nat) (so3 : Nat) (no3 : Nat) (co3 : List AV) (hc : BY c) : CallX Tryz.prog 101 [.ptr 0 0, AI n] [.box 157 [LB c, AI (p : Int), .int .u64 h], .list eo1 so1 no1 co1, .list eo2 so2 no2 co2, .list eo3 so3 no3 co3] (fun (resX : AV) (objX : List AObj) => ∃ v : Int, ∃ p1 : Nat, ∃ h1 : Int, ((n < 1 → v = 0) ∧ (1 ≤ n → 0 ≤ v ∧ v < n)) ∧ resX = AI v ∧ objX = [.box 157 [LB c, AI (p1 : Int), .int .u64 h1], .list eo1 so1 no1 co1, .list eo2 so2 no2 co2, .list eo3 so3 no3 co3]) := by
 have hcl : c.length ≤ 4096 := hc.1
 have hcb := hc.2
 have hxr := fun h => u64and (shr64 (IntKind.u64.wrap (IntKind.u64.wrap (h * 6364136223846793005) + 1442695040888963407)) 33)
 have hxh := hxr h
 refine CallX.dropE (CallX.ofF Tryz.func101 rfl (by kernel_rfl) ?_)
 intro usC frC hfC
 refine R.go 10 (k3 (n < 1) (fun c1 => ?_) (fun c1 => ?_))
 ·exact R.go 4 (R.retX (res := AI 0) (hp' := [.box 157 [LB c, AI (p : Int), .int .u64 h], .list eo1 so1 no1 co1, .list eo2 so2 no2 co2, .list eo3 so3 no3 co3, .dead]) (by kernel_rfl) (by kernel_rfl) (by kernel_rfl) (by kernel_rfl) ⟨[0, 1, 2, 3], by kernel_rfl, by decide, 0, p, h, by first | exact mod_rng (by assumption) | exact ⟨fun _ => rfl, fun h1 => by omega⟩, by kernel_rfl, by kernel_rfl⟩)
 ·refine R.go 22 (k2 .i64 (bits .and .u64 (shr64 (IntKind.u64.wrap ((IntKind.u64.wrap (h * 6364136223846793005)) + 1442695040888963407)) 33) 16777215) (wrap_id (by omega) (by omega)) ?_)
  refine R.go 16 (k3 ((p : Int) < (c.length : Int)) (fun c2 => ?_) (fun c2 => ?_))
  ·have hbp := hcb p (by omega)
   refine R.go 11 (k8 eB c 0 p (p : Int) rfl eB_len ?_)
   refine R.go 1 (k2 .i64 (c.getD p 0) (wrap_id (by omega) (by omega)) ?_)
   refine k1 ((bits .and .u64 (shr64 (IntKind.u64.wrap ((IntKind.u64.wrap (h * 6364136223846793005)) + 1442695040888963407)) 33) 16777215) + (c.getD p 0)) ?_
   refine R.go 8 (k1 ((p : Int) + 1) ?_)
   refine R.go 8 (R.rem ((bits .and .u64 (shr64 (IntKind.u64.wrap ((IntKind.u64.wrap (h * 6364136223846793005)) + 1442695040888963407)) 33) 16777215) + (c.getD p 0)) n (by kernel_rfl) (by omega) (by omega) (by kernel_rfl) ?_)
   exact R.go 2 (R.retX (res := AI (((bits .and .u64 (shr64 (IntKind.u64.wrap ((IntKind.u64.wrap (h * 6364136223846793005)) + 1442695040888963407)) 33) 16777215) + (c.getD p 0)) % n)) (hp' := [.box 157 [LB c, AI ((p : Int) + 1), .int .u64 (IntKind.u64.wrap ((IntKind.u64.wrap (h * 6364136223846793005)) + 1442695040888963407))], .list eo1 so1 no1 co1, .list eo2 so2 no2 co2, .list eo3 so3 no3 co3, .dead]) (by kernel_rfl) (by kernel_rfl) (by kernel_rfl) (by kernel_rfl) ⟨[0, 1, 2, 3], by kernel_rfl, by decide, ((bits .and .u64 (shr64 (IntKind.u64.wrap ((IntKind.u64.wrap (h * 6364136223846793005)) + 1442695040888963407)) 33) 16777215) + (c.getD p 0)) % n, p + 1, IntKind.u64.wrap ((IntKind.u64.wrap (h * 6364136223846793005)) + 1442695040888963407), by first | exact mod_rng (by assumption) | exact ⟨fun _ => rfl, fun h1 => by omega⟩, by kernel_rfl, by kernel_rfl⟩)
  ·refine R.go 5 (R.rem (bits .and .u64 (shr64 (IntKind.u64.wrap ((IntKind.u64.wrap (h * 6364136223846793005)) + 1442695040888963407)) 33) 16777215) n (by kernel_rfl) (by omega) (by omega) (by kernel_rfl) ?_)
   exact R.go 2 (R.retX (res := AI ((bits .and .u64 (shr64 (IntKind.u64.wrap ((IntKind.u64.wrap (h * 6364136223846793005)) + 1442695040888963407)) 33) 16777215) % n)) (hp' := [.box 157 [LB c, AI (p : Int), .int .u64 (IntKind.u64.wrap ((IntKind.u64.wrap (h * 6364136223846793005)) + 1442695040888963407))], .list eo1 so1 no1 co1, .list eo2 so2 no2 co2, .list eo3 so3 no3 co3, .dead]) (by kernel_rfl) (by kernel_rfl) (by kernel_rfl) (by kernel_rfl) ⟨[0, 1, 2, 3], by kernel_rfl, by decide, (bits .and .u64 (shr64 (IntKind.u64.wrap ((IntKind.u64.wrap (h * 6364136223846793005)) + 1442695040888963407)) 33) 16777215) % n, p, IntKind.u64.wrap ((IntKind.u64.wrap (h * 6364136223846793005)) + 1442695040888963407), by first | exact mod_rng (by assumption) | exact ⟨fun _ => rfl, fun h1 => by omega⟩, by kernel_rfl, by kernel_rfl⟩)

theorem nextX_c_r4 (c : List Int) (p : Nat) (h : Int) (n : Int) (eo1 : Nat) (so1 : Nat) (no1 : Nat) (co1 : List AV) (eo2 : Nat) (so2 : Nat) (no2 : Nat) (co2 : List AV) (eo3 : Nat) (so3 : Nat) (no3 : Nat) (co3 : List AV) (eo4 : Nat) (so4 : Nat) (no4 : Nat) (co4 : List AV) (hc : BY c) : CallX Tryz.prog 101 [.ptr 0 0, AI n] [.box 157 [LB c, AI (p : Int), .int .u64 h], .list eo1 so1 no1 co1, .list eo2 so2 no2 co2, .list eo3 so3 no3 co3, .list eo4 so4 no4 co4] (fun (resX : AV) (objX : List AObj) => ∃ v : Int, ∃ p1 : Nat, ∃ h1 : Int, ((n < 1 → v = 0) ∧ (1 ≤ n → 0 ≤ v ∧ v < n)) ∧ resX = AI v ∧ objX = [.box 157 [LB c, AI (p1 : Int), .int .u64 h1], .list eo1 so1 no1 co1, .list eo2 so2 no2 co2, .list eo3 so3 no3 co3, .list eo4 so4 no4 co4]) := by
 have hcl : c.length ≤ 4096 := hc.1
 have hcb := hc.2
 have hxr := fun h => u64and (shr64 (IntKind.u64.wrap (IntKind.u64.wrap (h * 6364136223846793005) + 1442695040888963407)) 33)
 have hxh := hxr h
 refine CallX.dropE (CallX.ofF Tryz.func101 rfl (by kernel_rfl) ?_)
 intro usC frC hfC
 refine R.go 10 (k3 (n < 1) (fun c1 => ?_) (fun c1 => ?_))
 ·exact R.go 4 (R.retX (res := AI 0) (hp' := [.box 157 [LB c, AI (p : Int), .int .u64 h], .list eo1 so1 no1 co1, .list eo2 so2 no2 co2, .list eo3 so3 no3 co3, .list eo4 so4 no4 co4, .dead]) (by kernel_rfl) (by kernel_rfl) (by kernel_rfl) (by kernel_rfl) ⟨[0, 1, 2, 3, 4], by kernel_rfl, by decide, 0, p, h, by first | exact mod_rng (by assumption) | exact ⟨fun _ => rfl, fun h1 => by omega⟩, by kernel_rfl, by kernel_rfl⟩)
 ·refine R.go 22 (k2 .i64 (bits .and .u64 (shr64 (IntKind.u64.wrap ((IntKind.u64.wrap (h * 6364136223846793005)) + 1442695040888963407)) 33) 16777215) (wrap_id (by omega) (by omega)) ?_)
  refine R.go 16 (k3 ((p : Int) < (c.length : Int)) (fun c2 => ?_) (fun c2 => ?_))
  ·have hbp := hcb p (by omega)
   refine R.go 11 (k8 eB c 0 p (p : Int) rfl eB_len ?_)
   refine R.go 1 (k2 .i64 (c.getD p 0) (wrap_id (by omega) (by omega)) ?_)
   refine k1 ((bits .and .u64 (shr64 (IntKind.u64.wrap ((IntKind.u64.wrap (h * 6364136223846793005)) + 1442695040888963407)) 33) 16777215) + (c.getD p 0)) ?_
   refine R.go 8 (k1 ((p : Int) + 1) ?_)
   refine R.go 8 (R.rem ((bits .and .u64 (shr64 (IntKind.u64.wrap ((IntKind.u64.wrap (h * 6364136223846793005)) + 1442695040888963407)) 33) 16777215) + (c.getD p 0)) n (by kernel_rfl) (by omega) (by omega) (by kernel_rfl) ?_)
   exact R.go 2 (R.retX (res := AI (((bits .and .u64 (shr64 (IntKind.u64.wrap ((IntKind.u64.wrap (h * 6364136223846793005)) + 1442695040888963407)) 33) 16777215) + (c.getD p 0)) % n)) (hp' := [.box 157 [LB c, AI ((p : Int) + 1), .int .u64 (IntKind.u64.wrap ((IntKind.u64.wrap (h * 6364136223846793005)) + 1442695040888963407))], .list eo1 so1 no1 co1, .list eo2 so2 no2 co2, .list eo3 so3 no3 co3, .list eo4 so4 no4 co4, .dead]) (by kernel_rfl) (by kernel_rfl) (by kernel_rfl) (by kernel_rfl) ⟨[0, 1, 2, 3, 4], by kernel_rfl, by decide, ((bits .and .u64 (shr64 (IntKind.u64.wrap ((IntKind.u64.wrap (h * 6364136223846793005)) + 1442695040888963407)) 33) 16777215) + (c.getD p 0)) % n, p + 1, IntKind.u64.wrap ((IntKind.u64.wrap (h * 6364136223846793005)) + 1442695040888963407), by first | exact mod_rng (by assumption) | exact ⟨fun _ => rfl, fun h1 => by omega⟩, by kernel_rfl, by kernel_rfl⟩)
  ·refine R.go 5 (R.rem (bits .and .u64 (shr64 (IntKind.u64.wrap ((IntKind.u64.wrap (h * 6364136223846793005)) + 1442695040888963407)) 33) 16777215) n (by kernel_rfl) (by omega) (by omega) (by kernel_rfl) ?_)
   exact R.go 2 (R.retX (res := AI ((bits .and .u64 (shr64 (IntKind.u64.wrap ((IntKind.u64.wrap (h * 6364136223846793005)) + 1442695040888963407)) 33) 16777215) % n)) (hp' := [.box 157 [LB c, AI (p : Int), .int .u64 (IntKind.u64.wrap ((IntKind.u64.wrap (h * 6364136223846793005)) + 1442695040888963407))], .list eo1 so1 no1 co1, .list eo2 so2 no2 co2, .list eo3 so3 no3 co3, .list eo4 so4 no4 co4, .dead]) (by kernel_rfl) (by kernel_rfl) (by kernel_rfl) (by kernel_rfl) ⟨[0, 1, 2, 3, 4], by kernel_rfl, by decide, (bits .and .u64 (shr64 (IntKind.u64.wrap ((IntKind.u64.wrap (h * 6364136223846793005)) + 1442695040888963407)) 33) 16777215) % n, p, IntKind.u64.wrap ((IntKind.u64.wrap (h * 6364136223846793005)) + 1442695040888963407), by first | exact mod_rng (by assumption) | exact ⟨fun _ => rfl, fun h1 => by omega⟩, by kernel_rfl, by kernel_rfl⟩)

theorem nextX_c_r5 (c : List Int) (p : Nat) (h : Int) (n : Int) (eo1 : Nat) (so1 : Nat) (no1 : Nat) (co1 : List AV) (eo2 : Nat) (so2 : Nat) (no2 : Nat) (co2 : List AV) (eo3 : Nat) (so3 : Nat) (no3 : Nat) (co3 : List AV) (eo4 : Nat) (so4 : Nat) (no4 : Nat) (co4 : List AV) (eo5 : Nat) (so5 : Nat) (no5 : Nat) (co5 : List AV) (hc : BY c) : CallX Tryz.prog 101 [.ptr 0 0, AI n] [.box 157 [LB c, AI (p : Int), .int .u64 h], .list eo1 so1 no1 co1, .list eo2 so2 no2 co2, .list eo3 so3 no3 co3, .list eo4 so4 no4 co4, .list eo5 so5 no5 co5] (fun (resX : AV) (objX : List AObj) => ∃ v : Int, ∃ p1 : Nat, ∃ h1 : Int, ((n < 1 → v = 0) ∧ (1 ≤ n → 0 ≤ v ∧ v < n)) ∧ resX = AI v ∧ objX = [.box 157 [LB c, AI (p1 : Int), .int .u64 h1], .list eo1 so1 no1 co1, .list eo2 so2 no2 co2, .list eo3 so3 no3 co3, .list eo4 so4 no4 co4, .list eo5 so5 no5 co5]) := by
 have hcl : c.length ≤ 4096 := hc.1
 have hcb := hc.2
 have hxr := fun h => u64and (shr64 (IntKind.u64.wrap (IntKind.u64.wrap (h * 6364136223846793005) + 1442695040888963407)) 33)
 have hxh := hxr h
 refine CallX.dropE (CallX.ofF Tryz.func101 rfl (by kernel_rfl) ?_)
 intro usC frC hfC
 refine R.go 10 (k3 (n < 1) (fun c1 => ?_) (fun c1 => ?_))
 ·exact R.go 4 (R.retX (res := AI 0) (hp' := [.box 157 [LB c, AI (p : Int), .int .u64 h], .list eo1 so1 no1 co1, .list eo2 so2 no2 co2, .list eo3 so3 no3 co3, .list eo4 so4 no4 co4, .list eo5 so5 no5 co5, .dead]) (by kernel_rfl) (by kernel_rfl) (by kernel_rfl) (by kernel_rfl) ⟨[0, 1, 2, 3, 4, 5], by kernel_rfl, by decide, 0, p, h, by first | exact mod_rng (by assumption) | exact ⟨fun _ => rfl, fun h1 => by omega⟩, by kernel_rfl, by kernel_rfl⟩)
 ·refine R.go 22 (k2 .i64 (bits .and .u64 (shr64 (IntKind.u64.wrap ((IntKind.u64.wrap (h * 6364136223846793005)) + 1442695040888963407)) 33) 16777215) (wrap_id (by omega) (by omega)) ?_)
  refine R.go 16 (k3 ((p : Int) < (c.length : Int)) (fun c2 => ?_) (fun c2 => ?_))
  ·have hbp := hcb p (by omega)
   refine R.go 11 (k8 eB c 0 p (p : Int) rfl eB_len ?_)
   refine R.go 1 (k2 .i64 (c.getD p 0) (wrap_id (by omega) (by omega)) ?_)
   refine k1 ((bits .and .u64 (shr64 (IntKind.u64.wrap ((IntKind.u64.wrap (h * 6364136223846793005)) + 1442695040888963407)) 33) 16777215) + (c.getD p 0)) ?_
   refine R.go 8 (k1 ((p : Int) + 1) ?_)
   refine R.go 8 (R.rem ((bits .and .u64 (shr64 (IntKind.u64.wrap ((IntKind.u64.wrap (h * 6364136223846793005)) + 1442695040888963407)) 33) 16777215) + (c.getD p 0)) n (by kernel_rfl) (by omega) (by omega) (by kernel_rfl) ?_)
   exact R.go 2 (R.retX (res := AI (((bits .and .u64 (shr64 (IntKind.u64.wrap ((IntKind.u64.wrap (h * 6364136223846793005)) + 1442695040888963407)) 33) 16777215) + (c.getD p 0)) % n)) (hp' := [.box 157 [LB c, AI ((p : Int) + 1), .int .u64 (IntKind.u64.wrap ((IntKind.u64.wrap (h * 6364136223846793005)) + 1442695040888963407))], .list eo1 so1 no1 co1, .list eo2 so2 no2 co2, .list eo3 so3 no3 co3, .list eo4 so4 no4 co4, .list eo5 so5 no5 co5, .dead]) (by kernel_rfl) (by kernel_rfl) (by kernel_rfl) (by kernel_rfl) ⟨[0, 1, 2, 3, 4, 5], by kernel_rfl, by decide, ((bits .and .u64 (shr64 (IntKind.u64.wrap ((IntKind.u64.wrap (h * 6364136223846793005)) + 1442695040888963407)) 33) 16777215) + (c.getD p 0)) % n, p + 1, IntKind.u64.wrap ((IntKind.u64.wrap (h * 6364136223846793005)) + 1442695040888963407), by first | exact mod_rng (by assumption) | exact ⟨fun _ => rfl, fun h1 => by omega⟩, by kernel_rfl, by kernel_rfl⟩)
  ·refine R.go 5 (R.rem (bits .and .u64 (shr64 (IntKind.u64.wrap ((IntKind.u64.wrap (h * 6364136223846793005)) + 1442695040888963407)) 33) 16777215) n (by kernel_rfl) (by omega) (by omega) (by kernel_rfl) ?_)
   exact R.go 2 (R.retX (res := AI ((bits .and .u64 (shr64 (IntKind.u64.wrap ((IntKind.u64.wrap (h * 6364136223846793005)) + 1442695040888963407)) 33) 16777215) % n)) (hp' := [.box 157 [LB c, AI (p : Int), .int .u64 (IntKind.u64.wrap ((IntKind.u64.wrap (h * 6364136223846793005)) + 1442695040888963407))], .list eo1 so1 no1 co1, .list eo2 so2 no2 co2, .list eo3 so3 no3 co3, .list eo4 so4 no4 co4, .list eo5 so5 no5 co5, .dead]) (by kernel_rfl) (by kernel_rfl) (by kernel_rfl) (by kernel_rfl) ⟨[0, 1, 2, 3, 4, 5], by kernel_rfl, by decide, (bits .and .u64 (shr64 (IntKind.u64.wrap ((IntKind.u64.wrap (h * 6364136223846793005)) + 1442695040888963407)) 33) 16777215) % n, p, IntKind.u64.wrap ((IntKind.u64.wrap (h * 6364136223846793005)) + 1442695040888963407), by first | exact mod_rng (by assumption) | exact ⟨fun _ => rfl, fun h1 => by omega⟩, by kernel_rfl, by kernel_rfl⟩)

theorem nextX_c_r6 (c : List Int) (p : Nat) (h : Int) (n : Int) (eo1 : Nat) (so1 : Nat) (no1 : Nat) (co1 : List AV) (eo2 : Nat) (so2 : Nat) (no2 : Nat) (co2 : List AV) (eo3 : Nat) (so3 : Nat) (no3 : Nat) (co3 : List AV) (eo4 : Nat) (so4 : Nat) (no4 : Nat) (co4 : List AV) (eo5 : Nat) (so5 : Nat) (no5 : Nat) (co5 : List AV) (eo6 : Nat) (so6 : Nat) (no6 : Nat) (co6 : List AV) (hc : BY c) : CallX Tryz.prog 101 [.ptr 0 0, AI n] [.box 157 [LB c, AI (p : Int), .int .u64 h], .list eo1 so1 no1 co1, .list eo2 so2 no2 co2, .list eo3 so3 no3 co3, .list eo4 so4 no4 co4, .list eo5 so5 no5 co5, .list eo6 so6 no6 co6] (fun (resX : AV) (objX : List AObj) => ∃ v : Int, ∃ p1 : Nat, ∃ h1 : Int, ((n < 1 → v = 0) ∧ (1 ≤ n → 0 ≤ v ∧ v < n)) ∧ resX = AI v ∧ objX = [.box 157 [LB c, AI (p1 : Int), .int .u64 h1], .list eo1 so1 no1 co1, .list eo2 so2 no2 co2, .list eo3 so3 no3 co3, .list eo4 so4 no4 co4, .list eo5 so5 no5 co5, .list eo6 so6 no6 co6]) := by
 have hcl : c.length ≤ 4096 := hc.1
 have hcb := hc.2
 have hxr := fun h => u64and (shr64 (IntKind.u64.wrap (IntKind.u64.wrap (h * 6364136223846793005) + 1442695040888963407)) 33)
 have hxh := hxr h
 refine CallX.dropE (CallX.ofF Tryz.func101 rfl (by kernel_rfl) ?_)
 intro usC frC hfC
 refine R.go 10 (k3 (n < 1) (fun c1 => ?_) (fun c1 => ?_))
 ·exact R.go 4 (R.retX (res := AI 0) (hp' := [.box 157 [LB c, AI (p : Int), .int .u64 h], .list eo1 so1 no1 co1, .list eo2 so2 no2 co2, .list eo3 so3 no3 co3, .list eo4 so4 no4 co4, .list eo5 so5 no5 co5, .list eo6 so6 no6 co6, .dead]) (by kernel_rfl) (by kernel_rfl) (by kernel_rfl) (by kernel_rfl) ⟨[0, 1, 2, 3, 4, 5, 6], by kernel_rfl, by decide, 0, p, h, by first | exact mod_rng (by assumption) | exact ⟨fun _ => rfl, fun h1 => by omega⟩, by kernel_rfl, by kernel_rfl⟩)
 ·refine R.go 22 (k2 .i64 (bits .and .u64 (shr64 (IntKind.u64.wrap ((IntKind.u64.wrap (h * 6364136223846793005)) + 1442695040888963407)) 33) 16777215) (wrap_id (by omega) (by omega)) ?_)
  refine R.go 16 (k3 ((p : Int) < (c.length : Int)) (fun c2 => ?_) (fun c2 => ?_))
  ·have hbp := hcb p (by omega)
   refine R.go 11 (k8 eB c 0 p (p : Int) rfl eB_len ?_)
   refine R.go 1 (k2 .i64 (c.getD p 0) (wrap_id (by omega) (by omega)) ?_)
   refine k1 ((bits .and .u64 (shr64 (IntKind.u64.wrap ((IntKind.u64.wrap (h * 6364136223846793005)) + 1442695040888963407)) 33) 16777215) + (c.getD p 0)) ?_
   refine R.go 8 (k1 ((p : Int) + 1) ?_)
   refine R.go 8 (R.rem ((bits .and .u64 (shr64 (IntKind.u64.wrap ((IntKind.u64.wrap (h * 6364136223846793005)) + 1442695040888963407)) 33) 16777215) + (c.getD p 0)) n (by kernel_rfl) (by omega) (by omega) (by kernel_rfl) ?_)
   exact R.go 2 (R.retX (res := AI (((bits .and .u64 (shr64 (IntKind.u64.wrap ((IntKind.u64.wrap (h * 6364136223846793005)) + 1442695040888963407)) 33) 16777215) + (c.getD p 0)) % n)) (hp' := [.box 157 [LB c, AI ((p : Int) + 1), .int .u64 (IntKind.u64.wrap ((IntKind.u64.wrap (h * 6364136223846793005)) + 1442695040888963407))], .list eo1 so1 no1 co1, .list eo2 so2 no2 co2, .list eo3 so3 no3 co3, .list eo4 so4 no4 co4, .list eo5 so5 no5 co5, .list eo6 so6 no6 co6, .dead]) (by kernel_rfl) (by kernel_rfl) (by kernel_rfl) (by kernel_rfl) ⟨[0, 1, 2, 3, 4, 5, 6], by kernel_rfl, by decide, ((bits .and .u64 (shr64 (IntKind.u64.wrap ((IntKind.u64.wrap (h * 6364136223846793005)) + 1442695040888963407)) 33) 16777215) + (c.getD p 0)) % n, p + 1, IntKind.u64.wrap ((IntKind.u64.wrap (h * 6364136223846793005)) + 1442695040888963407), by first | exact mod_rng (by assumption) | exact ⟨fun _ => rfl, fun h1 => by omega⟩, by kernel_rfl, by kernel_rfl⟩)
  ·refine R.go 5 (R.rem (bits .and .u64 (shr64 (IntKind.u64.wrap ((IntKind.u64.wrap (h * 6364136223846793005)) + 1442695040888963407)) 33) 16777215) n (by kernel_rfl) (by omega) (by omega) (by kernel_rfl) ?_)
   exact R.go 2 (R.retX (res := AI ((bits .and .u64 (shr64 (IntKind.u64.wrap ((IntKind.u64.wrap (h * 6364136223846793005)) + 1442695040888963407)) 33) 16777215) % n)) (hp' := [.box 157 [LB c, AI (p : Int), .int .u64 (IntKind.u64.wrap ((IntKind.u64.wrap (h * 6364136223846793005)) + 1442695040888963407))], .list eo1 so1 no1 co1, .list eo2 so2 no2 co2, .list eo3 so3 no3 co3, .list eo4 so4 no4 co4, .list eo5 so5 no5 co5, .list eo6 so6 no6 co6, .dead]) (by kernel_rfl) (by kernel_rfl) (by kernel_rfl) (by kernel_rfl) ⟨[0, 1, 2, 3, 4, 5, 6], by kernel_rfl, by decide, (bits .and .u64 (shr64 (IntKind.u64.wrap ((IntKind.u64.wrap (h * 6364136223846793005)) + 1442695040888963407)) 33) 16777215) % n, p, IntKind.u64.wrap ((IntKind.u64.wrap (h * 6364136223846793005)) + 1442695040888963407), by first | exact mod_rng (by assumption) | exact ⟨fun _ => rfl, fun h1 => by omega⟩, by kernel_rfl, by kernel_rfl⟩)

theorem nextX_c_r4b (c : List Int) (p : Nat) (h : Int) (n : Int) (eo1 : Nat) (so1 : Nat) (no1 : Nat) (co1 : List AV) (eo2 : Nat) (so2 : Nat) (no2 : Nat) (co2 : List AV) (eo3 : Nat) (so3 : Nat) (no3 : Nat) (co3 : List AV) (eo4 : Nat) (so4 : Nat) (no4 : Nat) (co4 : List AV) (to5 : Nat) (a_x : Int) (hc : BY c) : CallX Tryz.prog 101 [.ptr 0 0, AI n] [.box 157 [LB c, AI (p : Int), .int .u64 h], .list eo1 so1 no1 co1, .list eo2 so2 no2 co2, .list eo3 so3 no3 co3, .list eo4 so4 no4 co4, .box to5 [AI a_x, .ref 4]] (fun (resX : AV) (objX : List AObj) => ∃ v : Int, ∃ p1 : Nat, ∃ h1 : Int, ((n < 1 → v = 0) ∧ (1 ≤ n → 0 ≤ v ∧ v < n)) ∧ resX = AI v ∧ objX = [.box 157 [LB c, AI (p1 : Int), .int .u64 h1], .list eo1 so1 no1 co1, .list eo2 so2 no2 co2, .list eo3 so3 no3 co3, .list eo4 so4 no4 co4, .box to5 [AI a_x, .ref 4]]) := by
 have hcl : c.length ≤ 4096 := hc.1
 have hcb := hc.2
 have hxr := fun h => u64and (shr64 (IntKind.u64.wrap (IntKind.u64.wrap (h * 6364136223846793005) + 1442695040888963407)) 33)
 have hxh := hxr h
 refine CallX.dropE (CallX.ofF Tryz.func101 rfl (by kernel_rfl) ?_)
 intro usC frC hfC
 refine R.go 10 (k3 (n < 1) (fun c1 => ?_) (fun c1 => ?_))
 ·exact R.go 4 (R.retX (res := AI 0) (hp' := [.box 157 [LB c, AI (p : Int), .int .u64 h], .list eo1 so1 no1 co1, .list eo2 so2 no2 co2, .list eo3 so3 no3 co3, .list eo4 so4 no4 co4, .box to5 [AI a_x, .ref 4], .dead]) (by kernel_rfl) (by kernel_rfl) (by kernel_rfl) (by kernel_rfl) ⟨[0, 1, 2, 3, 4, 5], by kernel_rfl, by decide, 0, p, h, by first | exact mod_rng (by assumption) | exact ⟨fun _ => rfl, fun h1 => by omega⟩, by kernel_rfl, by kernel_rfl⟩)
 ·refine R.go 22 (k2 .i64 (bits .and .u64 (shr64 (IntKind.u64.wrap ((IntKind.u64.wrap (h * 6364136223846793005)) + 1442695040888963407)) 33) 16777215) (wrap_id (by omega) (by omega)) ?_)
  refine R.go 16 (k3 ((p : Int) < (c.length : Int)) (fun c2 => ?_) (fun c2 => ?_))
  ·have hbp := hcb p (by omega)
   refine R.go 11 (k8 eB c 0 p (p : Int) rfl eB_len ?_)
   refine R.go 1 (k2 .i64 (c.getD p 0) (wrap_id (by omega) (by omega)) ?_)
   refine k1 ((bits .and .u64 (shr64 (IntKind.u64.wrap ((IntKind.u64.wrap (h * 6364136223846793005)) + 1442695040888963407)) 33) 16777215) + (c.getD p 0)) ?_
   refine R.go 8 (k1 ((p : Int) + 1) ?_)
   refine R.go 8 (R.rem ((bits .and .u64 (shr64 (IntKind.u64.wrap ((IntKind.u64.wrap (h * 6364136223846793005)) + 1442695040888963407)) 33) 16777215) + (c.getD p 0)) n (by kernel_rfl) (by omega) (by omega) (by kernel_rfl) ?_)
   exact R.go 2 (R.retX (res := AI (((bits .and .u64 (shr64 (IntKind.u64.wrap ((IntKind.u64.wrap (h * 6364136223846793005)) + 1442695040888963407)) 33) 16777215) + (c.getD p 0)) % n)) (hp' := [.box 157 [LB c, AI ((p : Int) + 1), .int .u64 (IntKind.u64.wrap ((IntKind.u64.wrap (h * 6364136223846793005)) + 1442695040888963407))], .list eo1 so1 no1 co1, .list eo2 so2 no2 co2, .list eo3 so3 no3 co3, .list eo4 so4 no4 co4, .box to5 [AI a_x, .ref 4], .dead]) (by kernel_rfl) (by kernel_rfl) (by kernel_rfl) (by kernel_rfl) ⟨[0, 1, 2, 3, 4, 5], by kernel_rfl, by decide, ((bits .and .u64 (shr64 (IntKind.u64.wrap ((IntKind.u64.wrap (h * 6364136223846793005)) + 1442695040888963407)) 33) 16777215) + (c.getD p 0)) % n, p + 1, IntKind.u64.wrap ((IntKind.u64.wrap (h * 6364136223846793005)) + 1442695040888963407), by first | exact mod_rng (by assumption) | exact ⟨fun _ => rfl, fun h1 => by omega⟩, by kernel_rfl, by kernel_rfl⟩)
  ·refine R.go 5 (R.rem (bits .and .u64 (shr64 (IntKind.u64.wrap ((IntKind.u64.wrap (h * 6364136223846793005)) + 1442695040888963407)) 33) 16777215) n (by kernel_rfl) (by omega) (by omega) (by kernel_rfl) ?_)
   exact R.go 2 (R.retX (res := AI ((bits .and .u64 (shr64 (IntKind.u64.wrap ((IntKind.u64.wrap (h * 6364136223846793005)) + 1442695040888963407)) 33) 16777215) % n)) (hp' := [.box 157 [LB c, AI (p : Int), .int .u64 (IntKind.u64.wrap ((IntKind.u64.wrap (h * 6364136223846793005)) + 1442695040888963407))], .list eo1 so1 no1 co1, .list eo2 so2 no2 co2, .list eo3 so3 no3 co3, .list eo4 so4 no4 co4, .box to5 [AI a_x, .ref 4], .dead]) (by kernel_rfl) (by kernel_rfl) (by kernel_rfl) (by kernel_rfl) ⟨[0, 1, 2, 3, 4, 5], by kernel_rfl, by decide, (bits .and .u64 (shr64 (IntKind.u64.wrap ((IntKind.u64.wrap (h * 6364136223846793005)) + 1442695040888963407)) 33) 16777215) % n, p, IntKind.u64.wrap ((IntKind.u64.wrap (h * 6364136223846793005)) + 1442695040888963407), by first | exact mod_rng (by assumption) | exact ⟨fun _ => rfl, fun h1 => by omega⟩, by kernel_rfl, by kernel_rfl⟩)

theorem pickX_c_r4 (c : List Int) (p : Nat) (h : Int) (L : List Int) (eo1 : Nat) (so1 : Nat) (no1 : Nat) (co1 : List AV) (eo2 : Nat) (so2 : Nat) (no2 : Nat) (co2 : List AV) (eo3 : Nat) (so3 : Nat) (no3 : Nat) (co3 : List AV) (eo4 : Nat) (so4 : Nat) (no4 : Nat) (co4 : List AV) (hc : BY c) (hL : 1 ≤ L.length ∧ L.length ≤ 100) : CallX Tryz.prog 102 [.ptr 0 0, LI L] [.box 157 [LB c, AI (p : Int), .int .u64 h], .list eo1 so1 no1 co1, .list eo2 so2 no2 co2, .list eo3 so3 no3 co3, .list eo4 so4 no4 co4] (fun (resX : AV) (objX : List AObj) => ∃ v : Int, ∃ p1 : Nat, ∃ h1 : Int, resX = AI v ∧ objX = [.box 157 [LB c, AI (p1 : Int), .int .u64 h1], .list eo1 so1 no1 co1, .list eo2 so2 no2 co2, .list eo3 so3 no3 co3, .list eo4 so4 no4 co4]) := by
 have hcl : c.length ≤ 4096 := hc.1
 have hcb := hc.2
 refine CallX.dropE (CallX.ofF Tryz.func102 rfl (by kernel_rfl) ?_)
 intro usC frC hfC
 refine R.go 10 (k26 (k28b 5 usC frC (nextX_c_r4 c p h L.length eo1 so1 no1 co1 eo2 so2 no2 co2 eo3 so3 no3 co3 eo4 so4 no4 co4 hc)) ?_)
 rintro _ _ ⟨_, _, ⟨v_1, p1_2, h1_3, f4, rfl, rfl⟩, rfl, rfl⟩
 refine k8 eI L 0 ((v_1).toNat) v_1 (by omega) eI_len ?_
 exact R.go 3 (R.retX (res := AI (L.getD ((v_1).toNat) 0)) (hp' := [.box 157 [LB c, AI (p1_2 : Int), .int .u64 h1_3], .list eo1 so1 no1 co1, .list eo2 so2 no2 co2, .list eo3 so3 no3 co3, .list eo4 so4 no4 co4, .dead]) (by kernel_rfl) (by kernel_rfl) (by kernel_rfl) (by kernel_rfl) ⟨[0, 1, 2, 3, 4], by kernel_rfl, by decide, (L.getD ((v_1).toNat) 0), p1_2, h1_3, by kernel_rfl, by kernel_rfl⟩)

theorem pickX_c_r4b (c : List Int) (p : Nat) (h : Int) (L : List Int) (eo1 : Nat) (so1 : Nat) (no1 : Nat) (co1 : List AV) (eo2 : Nat) (so2 : Nat) (no2 : Nat) (co2 : List AV) (eo3 : Nat) (so3 : Nat) (no3 : Nat) (co3 : List AV) (eo4 : Nat) (so4 : Nat) (no4 : Nat) (co4 : List AV) (to5 : Nat) (a_x : Int) (hc : BY c) (hL : 1 ≤ L.length ∧ L.length ≤ 100) : CallX Tryz.prog 102 [.ptr 0 0, LI L] [.box 157 [LB c, AI (p : Int), .int .u64 h], .list eo1 so1 no1 co1, .list eo2 so2 no2 co2, .list eo3 so3 no3 co3, .list eo4 so4 no4 co4, .box to5 [AI a_x, .ref 4]] (fun (resX : AV) (objX : List AObj) => ∃ v : Int, ∃ p1 : Nat, ∃ h1 : Int, resX = AI v ∧ objX = [.box 157 [LB c, AI (p1 : Int), .int .u64 h1], .list eo1 so1 no1 co1, .list eo2 so2 no2 co2, .list eo3 so3 no3 co3, .list eo4 so4 no4 co4, .box to5 [AI a_x, .ref 4]]) := by
 have hcl : c.length ≤ 4096 := hc.1
 have hcb := hc.2
 refine CallX.dropE (CallX.ofF Tryz.func102 rfl (by kernel_rfl) ?_)
 intro usC frC hfC
 refine R.go 10 (k26 (k28b 6 usC frC (nextX_c_r4b c p h L.length eo1 so1 no1 co1 eo2 so2 no2 co2 eo3 so3 no3 co3 eo4 so4 no4 co4 to5 a_x hc)) ?_)
 rintro _ _ ⟨_, _, ⟨v_1, p1_2, h1_3, f4, rfl, rfl⟩, rfl, rfl⟩
 refine k8 eI L 0 ((v_1).toNat) v_1 (by omega) eI_len ?_
 exact R.go 3 (R.retX (res := AI (L.getD ((v_1).toNat) 0)) (hp' := [.box 157 [LB c, AI (p1_2 : Int), .int .u64 h1_3], .list eo1 so1 no1 co1, .list eo2 so2 no2 co2, .list eo3 so3 no3 co3, .list eo4 so4 no4 co4, .box to5 [AI a_x, .ref 4], .dead]) (by kernel_rfl) (by kernel_rfl) (by kernel_rfl) (by kernel_rfl) ⟨[0, 1, 2, 3, 4, 5], by kernel_rfl, by decide, (L.getD ((v_1).toNat) 0), p1_2, h1_3, by kernel_rfl, by kernel_rfl⟩)

end Go.Proofs.YtjllngcefoohpaaGreat


/-! Draws of frames. -/
namespace Go.Proofs.YtjllngcefoohpaaGreat
open Go.RowKit Go.Abs

def refI (xs : List Int) : Nat → List Int
  | 0 => []
  | i + 1 => refI xs i ++ [bor (xs.getD i 0) (shl64 1 (i : Int))]
theorem refI_len (xs : List Int) : ∀ i, (refI xs i).length = i
  | 0 => rfl
  | i + 1 => by simp [refI, refI_len xs i]

theorem l01Refl_c (xs : List Int) (hl : xs.length ≤ 60) : CallA Tryz.prog 321 [LI xs] (ownA eI 2 1 (refI xs xs.length)) := by
 refine CallA.of Tryz.func321 rfl (by kernel_rfl) ?_
 refine R.go 15 (k15 ((fun | (i, ys) => (⟨(frm 23 [(0, LI xs), (3, .ref 0), (4, AI (i : Int))]), [rowA eI 2 1 ys]⟩ : St) : Nat × (List Int) → St)) (fun | (i, ys) => (i ≤ xs.length) ∧ (ys.length = i) ∧ (ys = refI xs i)) (fun | (i, ys) => xs.length - i) (0, []) [0, 3, 4] none ⟨(by omega), (by rfl), (by rfl)⟩ ?_)
 rintro ⟨i, ys⟩ ⟨h4_1, h4_2, h4_3⟩ R1 N2
 refine R.go 8 (k3 ((i : Int) < (xs.length : Int)) (fun c5 => ?_) (fun c5 => ?_))
 ·refine R.go 7 (k8 eI xs 0 i (i : Int) rfl eI_len ?_)
  refine R.go 2 (k14 true (l01One_c (i : Int) (by omega) (by omega)) rfl ?_)
  refine R.go 2 (k12 eI ys [bor (xs.getD i 0) (shl64 1 (i : Int))] 0 2 1 8 eI_one ?_)
  refine R.go 5 (k1 ((i : Int) + 1) ?_)
  exact R.go 2 (k16 R1 (N2 (i + 1, ys ++ [bor (xs.getD i 0) (shl64 1 (i : Int))]) [0, 3, 4] (some [0]) _ (by kernel_rfl) (by kernel_rfl) ⟨(by omega), (by (simp <;> omega)), (by rw [refI, ← ‹ys = refI xs i›])⟩ (by show (xs.length - (i + 1)) < (xs.length - i); omega)))
 ·exact R.go 6 (k17 (ownA eI 2 1 ys) (by first | (rw [‹ys = refI xs i›, show xs.length = i by omega]) | (exfalso; omega)))

theorem l01Clos_c (xs : List Int) (hl : xs.length ≤ 60) : CallA Tryz.prog 284 [LI xs] (ownA eI 2 1 (wout xs xs.length)) := by
 refine CallA.of Tryz.func284 rfl (by kernel_rfl) ?_
 refine R.go 7 (k14 true (l01Own_c xs (by first | omega | (simp <;> omega))) rfl ?_)
 refine R.go 8 (k15 ((fun | (j, out) => (⟨(frm 39 [(3, .ref 0), (4, AI (j : Int))]), [rowA eI 2 1 out]⟩ : St) : Nat × (List Int) → St)) (fun | (j, out) => (j ≤ xs.length) ∧ (out = wout xs j)) (fun | (j, out) => xs.length - j) (0, xs) [3, 4] none ⟨(by omega), (by rfl)⟩ ?_)
 rintro ⟨j, out⟩ ⟨h4_1, h4_2⟩ R1 N2
 have hlen : out.length = xs.length := by rw [‹out = wout xs j›]; exact wout_len xs j
 refine R.go 8 (k3 ((j : Int) < (out.length : Int)) (fun c5 => ?_) (fun c5 => ?_))
 ·refine R.go 8 (k15 ((fun | (i, o2) => (⟨(frm 39 [(3, .ref 0), (4, AI (j : Int)), (5, AI (i : Int))]), [rowA eI 2 1 o2]⟩ : St) : Nat × (List Int) → St)) (fun | (i, o2) => (i ≤ xs.length) ∧ (o2 = win out j i)) (fun | (i, o2) => xs.length - i) (0, out) [3, 4, 5] none ⟨(by omega), (by rfl)⟩ ?_)
  rintro ⟨i, o2⟩ ⟨h9_1, h9_2⟩ R6 N7
  have hlen2 : o2.length = xs.length := by rw [‹o2 = win out j i›, win_len]; exact hlen
  refine R.go 8 (k3 ((i : Int) < (o2.length : Int)) (fun c10 => ?_) (fun c10 => ?_))
  ·refine R.go 7 (k9 0 1 o2.length i (i : Int) ?_ (hji := rfl))
   refine k10 o2 i ?_
   refine R.go 1 (k14 true (l01Bit_c (o2.getD i 0) (j : Int) (by omega) (by omega)) rfl ?_)
   refine R.go 1 (k3 (band (shr64 (o2.getD i 0) (j : Int)) 1 = 1) (fun c11 => ?_) (fun c11 => ?_))
   ·refine R.go 5 (k9 0 1 o2.length i (i : Int) ?_ (hji := rfl))
    refine k10 o2 i ?_
    refine R.go 2 (k9 0 1 o2.length j (j : Int) ?_ (hji := rfl))
    refine k10 o2 j ?_
    refine R.go 1 (k9 0 1 o2.length i (i : Int) ?_ (hji := rfl))
    refine k11 0 2 o2 i (bor (o2.getD i 0) (o2.getD j 0)) ?_
    refine R.go 4 (k1 ((i : Int) + 1) ?_)
    exact R.go 2 (k16 R6 (N7 (i + 1, o2.set i (bor (o2.getD i 0) (o2.getD j 0))) [3, 4, 5] none _ (by kernel_rfl) (by kernel_rfl) ⟨(by omega), (by first | (rw [win, wrow, ← ‹o2 = win out j i›, if_pos ‹band (shr64 (o2.getD i 0) (j : Int)) 1 = 1›]) | (rw [win, wrow, ← ‹o2 = win out j i›, if_neg ‹¬ band (shr64 (o2.getD i 0) (j : Int)) 1 = 1›]))⟩ (by show (xs.length - (i + 1)) < (xs.length - i); omega)))
   ·refine R.go 4 (k1 ((i : Int) + 1) ?_)
    exact R.go 2 (k16 R6 (N7 (i + 1, o2) [3, 4, 5] none _ (by kernel_rfl) (by kernel_rfl) ⟨(by omega), (by first | (rw [win, wrow, ← ‹o2 = win out j i›, if_pos ‹band (shr64 (o2.getD i 0) (j : Int)) 1 = 1›]) | (rw [win, wrow, ← ‹o2 = win out j i›, if_neg ‹¬ band (shr64 (o2.getD i 0) (j : Int)) 1 = 1›]))⟩ (by show (xs.length - (i + 1)) < (xs.length - i); omega)))
  ·refine R.go 4 (k1 ((j : Int) + 1) ?_)
   exact R.go 2 (k16 R1 (N2 (j + 1, o2) [3, 4] none _ (by kernel_rfl) (by kernel_rfl) ⟨(by omega), (by rw [wout, ← ‹out = wout xs j›, ← show i = xs.length by omega]; assumption)⟩ (by show (xs.length - (j + 1)) < (xs.length - j); omega)))
 ·exact R.go 6 (k17 (ownA eI 2 1 out) (by first | (rw [‹out = wout xs j›, show j = xs.length by omega]) | (exfalso; omega)))

end Go.Proofs.YtjllngcefoohpaaGreat


/-! StackPosets of both packages and its law. -/
namespace Go.Proofs.YtjllngcefoohpaaGreat
open Go.RowKit Go.Abs

/-- One poset above another. -/
def stL (n : Int) (xs : List Int) (m : Int) (ys : List Int) : List Int := (xs.map fun x => bor x (shl64 ((shl64 1 m) - 1) n)) ++ ys.map fun y => shl64 y n
def stX (n : Int) (xs : List Int) (m : Int) (i : Nat) : List Int := (xs.take i).map fun x => bor x (shl64 ((shl64 1 m) - 1) n)
def stY (n : Int) (xs : List Int) (m : Int) (ys : List Int) (j : Nat) : List Int := (xs.map fun x => bor x (shl64 ((shl64 1 m) - 1) n)) ++ ((ys.take j).map fun y => shl64 y n)
theorem stX_len {n m : Int} {xs : List Int} {i : Nat} (h : i ≤ xs.length) : (stX n xs m i).length = i := by simp [stX]; omega
theorem stY_len {n m : Int} {xs ys : List Int} {j : Nat} (h : j ≤ ys.length) : (stY n xs m ys j).length = xs.length + j := by simp [stY]; omega
theorem stY_end {n m : Int} {xs ys : List Int} {j : Nat} (h : j = ys.length) : stY n xs m ys j = stL n xs m ys := by rw [stY, h, List.take_length]; rfl
theorem stY_zero {n m : Int} {xs ys : List Int} {i : Nat} (h : i = xs.length) : stX n xs m i = stY n xs m ys 0 := by rw [stX, stY, h, List.take_length]; simp
theorem stL_len (n : Int) (xs : List Int) (m : Int) (ys : List Int) : (stL n xs m ys).length = xs.length + ys.length := by simp [stL]
theorem map_take {f : Int → Int} {xs : List Int} {i : Nat} (h : i < xs.length) : (xs.take i).map f ++ [f (xs.getD i 0)] = (xs.take (i + 1)).map f := by
  rw [List.take_succ_eq_append_getElem h, List.map_append, List.getD_eq_getElem?_getD, List.getElem?_eq_getElem h]
  rfl
theorem stX_step {n m : Int} {xs : List Int} {i : Nat} (h : i < xs.length) : stX n xs m i ++ [bor (xs.getD i 0) (shl64 ((shl64 1 m) - 1) n)] = stX n xs m (i + 1) := map_take (f := fun x => bor x (shl64 ((shl64 1 m) - 1) n)) h
theorem stY_step {n m : Int} {xs ys : List Int} {j : Nat} (h : j < ys.length) : stY n xs m ys j ++ [shl64 (ys.getD j 0) n] = stY n xs m ys (j + 1) := by rw [stY, List.append_assoc, map_take (f := fun y => shl64 y n) h]; rfl
theorem l16Make_c (xs : List Int) (hl : xs.length ≤ 1000000000) : CallA Tryz.prog 179 [LI xs] (.agg [AI xs.length, ownA eI 2 1 xs]) := by
 refine CallA.of Tryz.func179 rfl (by kernel_rfl) ?_
 refine R.go 9 (k14 true (l01Own_c xs hl) rfl ?_)
 exact R.go 3 (k17 (.agg [AI xs.length, ownA eI 2 1 xs]) (by rfl))

end Go.Proofs.YtjllngcefoohpaaGreat


/-! Draws of posets. -/
namespace Go.Proofs.YtjllngcefoohpaaGreat
open Go.RowKit Go.Abs

def sqz (L : List Int) (m : Int) : Nat → Int
  | 0 => 0
  | k + 1 => if band (shr64 m (L.getD k 0)) 1 = 1 then bor (sqz L m k) (shl64 1 (k : Int)) else sqz L m k
theorem sqz_yes {L : List Int} {m : Int} {k : Nat} (h : band (shr64 m (L.getD k 0)) 1 = 1) : bor (sqz L m k) (shl64 1 (k : Int)) = sqz L m (k + 1) := by rw [sqz, if_pos h]
theorem sqz_no {L : List Int} {m : Int} {k : Nat} (h : ¬ band (shr64 m (L.getD k 0)) 1 = 1) : sqz L m k = sqz L m (k + 1) := by rw [sqz, if_neg h]

theorem swp_len {l : List Int} {i j : Nat} {v w : Int} : ((l.set i v).set j w).length = l.length := by rw [List.length_set, List.length_set]
/-- Numbers below n. -/
def RNG (n : Int) (l : List Int) : Prop := ∀ j : Nat, j < l.length → 0 ≤ l.getD j 0 ∧ l.getD j 0 < n
theorem rng_set {n v : Int} {l : List Int} {i : Nat} (h : RNG n l) (h0 : 0 ≤ v) (h1 : v < n) : RNG n (l.set i v) := by
  intro j hj
  rw [List.length_set] at hj
  rcases Nat.lt_or_ge i l.length with hi | hi
  · rw [getD_set_if _ _ _ _ _ hi]
    split
    · exact ⟨h0, h1⟩
    · exact h j hj
  · rw [List.set_eq_of_length_le hi]; exact h j hj
theorem rng_snoc {n v : Int} {l : List Int} (h : RNG n l) (h0 : 0 ≤ v) (h1 : v < n) : RNG n (l ++ [v]) := by
  intro j hj
  rw [List.length_append, List.length_singleton] at hj
  rcases Nat.lt_or_ge j l.length with hi | hi
  · rw [List.getD_eq_getElem?_getD, List.getElem?_append_left hi, ← List.getD_eq_getElem?_getD]; exact h j hi
  · rw [List.getD_eq_getElem?_getD, List.getElem?_append_right hi, show j - l.length = 0 by omega]
    exact ⟨h0, h1⟩

theorem l05SquD_c (L : List Int) (m : Int) (hL : ∀ j : Nat, j < L.length → 0 ≤ L.getD j 0 ∧ L.getD j 0 < 61) (hl : L.length ≤ 62) : CallA Tryz.prog 286 [LI L, AI m] (AI (sqz L m L.length)) := by
 refine CallA.of Tryz.func286 rfl (by kernel_rfl) ?_
 refine R.go 14 (k15 ((fun | (t, r) => (⟨(frm 24 [(0, LI L), (1, AI m), (5, AI r), (6, AI (t : Int))]), []⟩ : St) : Nat × Int → St)) (fun | (t, r) => (t ≤ L.length) ∧ (r = sqz L m t)) (fun | (t, r) => L.length - t) (0, 0) [0, 1, 5, 6] none ⟨(by omega), (by rfl)⟩ ?_)
 rintro ⟨t, r⟩ ⟨h4_1, rfl⟩ R1 N2
 refine R.go 8 (k3 ((t : Int) < (L.length : Int)) (fun c5 => ?_) (fun c5 => ?_))
 ·have hjw := hL t (by omega)
  refine R.go 8 (k8 eI L 0 t (t : Int) rfl eI_len ?_)
  refine R.go 1 (k14 true (l01Bit_c m (L.getD t 0) (by omega) (by omega)) rfl ?_)
  refine R.go 1 (k3 (band (shr64 m (L.getD t 0)) 1 = 1) (fun c6 => ?_) (fun c6 => ?_))
  ·refine R.go 3 (k14 true (l01One_c (t : Int) (by omega) (by omega)) rfl ?_)
   refine R.go 6 (k1 ((t : Int) + 1) ?_)
   exact R.go 2 (k16 R1 (N2 (t + 1, bor (sqz L m t) (shl64 1 (t : Int))) [0, 1, 5, 6] none _ (by kernel_rfl) (by kernel_rfl) ⟨(by omega), (by first | exact sqz_yes (by assumption) | exact sqz_no (by assumption))⟩ (by show (L.length - (t + 1)) < (L.length - t); omega)))
  ·refine R.go 4 (k1 ((t : Int) + 1) ?_)
   exact R.go 2 (k16 R1 (N2 (t + 1, sqz L m t) [0, 1, 5, 6] none _ (by kernel_rfl) (by kernel_rfl) ⟨(by omega), (by first | exact sqz_yes (by assumption) | exact sqz_no (by assumption))⟩ (by show (L.length - (t + 1)) < (L.length - t); omega)))
 ·exact R.go 6 (k17 (AI (sqz L m t)) (by first | (rw [show t = L.length by omega]) | (exfalso; omega)))

theorem renX_c (xs : List Int) (L : List Int) (hR : ∀ j : Nat, j < L.length → 0 ≤ L.getD j 0 ∧ L.getD j 0 < (xs.length : Int)) (hl : L.length ≤ 40 ∧ xs.length ≤ 40) : CallX Tryz.prog 289 [LI xs, LI L] [] (fun (resX : AV) (objX : List AObj) => ∃ r : List Int, (r.length = L.length) ∧ resX = LI r ∧ objX = []) := by
 have hL61 : ∀ j : Nat, j < L.length → 0 ≤ L.getD j 0 ∧ L.getD j 0 < 61 := fun j hj => by have := hR j hj; omega
 refine CallX.dropE (CallX.ofF Tryz.func289 rfl (by kernel_rfl) ?_)
 intro usC frC hfC
 refine R.go 15 (k15 ((fun | (i, o) => (⟨(frm 27 [(0, LI xs), (1, LI L), (5, .ref 1), (6, AI (i : Int))]), [.frame usC frC, rowA eI 2 1 o]⟩ : St) : Nat × (List Int) → St)) (fun | (i, o) => (i ≤ L.length) ∧ (o.length = i)) (fun | (i, o) => L.length - i) (0, []) [0, 1, 5, 6] none ⟨(by omega), (by rfl)⟩ ?_)
 rintro ⟨i, o⟩ ⟨h4_1, h4_2⟩ R1 N2
 refine R.go 8 (k3 ((i : Int) < (L.length : Int)) (fun c5 => ?_) (fun c5 => ?_))
 ·have hjr := hR i (by omega)
  refine R.go 9 (k8 eI L 0 i (i : Int) rfl eI_len ?_)
  refine R.go 1 (k8 eI xs 0 (((L.getD i 0)).toNat) (L.getD i 0) (by omega) eI_len ?_)
  refine R.go 1 (k14 true (l05SquD_c L (xs.getD (((L.getD i 0)).toNat) 0) hL61 (by first | omega | (simp <;> omega))) rfl ?_)
  refine R.go 1 (k12 eI o [sqz L (xs.getD (((L.getD i 0)).toNat) 0) L.length] 1 2 1 8 eI_one ?_)
  refine R.kfix 0 (us := usC) (by kernel_rfl) (hfC.kill 1 (Nat.le_of_ble_eq_true (by kernel_rfl))) ?_
  refine R.go 5 (k1 ((i : Int) + 1) ?_)
  exact R.go 2 (k16 R1 (N2 (i + 1, o ++ [sqz L (xs.getD (((L.getD i 0)).toNat) 0) L.length]) [0, 1, 5, 6] (some [0, 1]) _ (by kernel_rfl) (canonF (fr := frC) (fun (frX : List AV) => (⟨(frm 27 [(0, LI xs), (1, LI L), (5, .ref 1), (6, AI ((i : Int) + 1))]), [.frame usC frX, rowA eI 2 1 (o ++ [sqz L (xs.getD (((L.getD i 0)).toNat) 0) L.length])]⟩ : St)) (hfC.ren _ (by kernel_rfl)) (by kernel_rfl) (by kernel_rfl)) ⟨(by omega), (by (simp <;> omega))⟩ (by show (L.length - (i + 1)) < (L.length - i); omega)))
 ·refine R.go 6 (k18 1 ?_)
  refine R.kfix 0 (us := usC) (by kernel_rfl) (hfC.frz 1 (LI o) (Nat.le_of_ble_eq_true (by kernel_rfl))) ?_
  exact R.retX (res := LI o) (hp' := [.dead, .dead]) (by kernel_rfl) (by kernel_rfl) (by kernel_rfl) (by kernel_rfl) ⟨[], by kernel_rfl, by decide, o, by omega, by kernel_rfl, by kernel_rfl⟩

theorem joinD_c (n : Int) (xs : List Int) (m : Int) (ys : List Int) (hb : 0 ≤ n ∧ n ≤ 20 ∧ (xs.length : Int) = n ∧ 0 ≤ m ∧ m ≤ 20 ∧ (ys.length : Int) = m) : CallA Tryz.prog 323 [.agg [AI n, LI xs], .agg [AI m, LI ys], .bool true] (.agg [AI ((stL n xs m ys).length), ownA eI 2 1 (stL n xs m ys)]) := by
 have hsh := shl_rng m (by omega) (by omega)
 refine CallA.of Tryz.func323 rfl (by kernel_rfl) ?_
 refine R.go 17 (k15 ((fun | (i, out) => (⟨(frm 59 [(2, .bool true), (3, .ptr 0 0), (4, .ptr 1 0), (6, .ptr 2 0), (7, .ref 3), (8, AI (i : Int))]), [.box 35 [AI n, LI xs], .box 35 [AI m, LI ys], .box 35 [AI 0, .nil], rowA eI 2 1 out]⟩ : St) : Nat × (List Int) → St)) (fun | (i, out) => (i ≤ xs.length) ∧ (out = stX n xs m i)) (fun | (i, out) => xs.length - i) (0, []) [2, 3, 4, 6, 7, 8] none ⟨(by omega), (by rfl)⟩ ?_)
 rintro ⟨i, out⟩ ⟨h4_1, rfl⟩ R1 N2
 have hol := stX_len (n := n) (m := m) (xs := xs) (i := i) (by assumption)
 refine R.go 9 (k3 ((i : Int) < (xs.length : Int)) (fun c5 => ?_) (fun c5 => ?_))
 ·refine R.go 8 (k8 eI xs 0 i (i : Int) rfl eI_len ?_)
  refine R.go 13 (k14 true (l01Full_c m (by omega) (by omega)) rfl ?_)
  refine R.go 2 (k2 .u64 n (u64_id (by omega) (by omega)) ?_)
  refine R.shl ((shl64 1 m) - 1) n (by kernel_rfl) (by omega) (by kernel_rfl) ?_
  refine R.go 7 (k12 eI (stX n xs m i) [bor (xs.getD i 0) (shl64 ((shl64 1 m) - 1) n)] 3 2 1 8 eI_one ?_)
  refine R.go 5 (k1 ((i : Int) + 1) ?_)
  exact R.go 2 (k16 R1 (N2 (i + 1, (stX n xs m i) ++ [bor (xs.getD i 0) (shl64 ((shl64 1 m) - 1) n)]) [2, 3, 4, 6, 7, 8] (some [0, 1, 2, 3]) _ (by kernel_rfl) (by kernel_rfl) ⟨(by omega), (by exact stX_step (by omega))⟩ (by show (xs.length - (i + 1)) < (xs.length - i); omega)))
 ·refine R.go 7 (k15 ((fun | (j, o2) => (⟨(frm 59 [(3, .ptr 0 0), (4, .ptr 1 0), (6, .ptr 2 0), (7, .ref 3), (10, AI (j : Int))]), [.box 35 [AI n, LI xs], .box 35 [AI m, LI ys], .box 35 [AI 0, .nil], rowA eI 2 1 o2]⟩ : St) : Nat × (List Int) → St)) (fun | (j, o2) => (j ≤ ys.length) ∧ (o2 = stY n xs m ys j)) (fun | (j, o2) => ys.length - j) (0, (stX n xs m i)) [3, 4, 6, 7, 10] none ⟨(by omega), (by exact stY_zero (by omega))⟩ ?_)
  rintro ⟨j, o2⟩ ⟨h9_1, rfl⟩ R6 N7
  have hol2 := stY_len (n := n) (m := m) (xs := xs) (ys := ys) (j := j) (by assumption)
  refine R.go 9 (k3 ((j : Int) < (ys.length : Int)) (fun c10 => ?_) (fun c10 => ?_))
  ·refine R.go 8 (k8 eI ys 0 j (j : Int) rfl eI_len ?_)
   refine R.go 3 (k2 .u64 n (u64_id (by omega) (by omega)) ?_)
   refine R.shl (ys.getD j 0) n (by kernel_rfl) (by omega) (by kernel_rfl) ?_
   refine R.go 1 (k12 eI (stY n xs m ys j) [shl64 (ys.getD j 0) n] 3 2 1 8 eI_one ?_)
   refine R.go 5 (k1 ((j : Int) + 1) ?_)
   exact R.go 2 (k16 R6 (N7 (j + 1, (stY n xs m ys j) ++ [shl64 (ys.getD j 0) n]) [3, 4, 6, 7, 10] (some [0, 1, 2, 3]) _ (by kernel_rfl) (by kernel_rfl) ⟨(by omega), (by exact stY_step (by omega))⟩ (by show (ys.length - (j + 1)) < (ys.length - j); omega)))
  ·refine R.go 4 (k14 false (l16Make_c (stY n xs m ys j) (by first | omega | (simp <;> omega))) (by simp [AV.closed, closedL, AI, ownA_closed eI_closed]) ?_)
   exact R.go 2 (k17 (.agg [AI ((stY n xs m ys j).length), ownA eI 2 1 (stY n xs m ys j)]) (by first | (rw [stY_end (show j = ys.length by omega)]) | (exfalso; omega)))

end Go.Proofs.YtjllngcefoohpaaGreat


/-! Formulas as lists of nodes. -/
namespace Go.Proofs.YtjllngcefoohpaaGreat
open Go.RowKit Go.Abs

theorem l02False_c : CallA Tryz.prog 309 [] (ownA eN 181 2 [(1, 0)]) := by
  refine CallA.of Tryz.func309 rfl (by kernel_rfl) ?_
  exact R.go 10 (R.retE (ownA eN 181 2 [(1, 0)]) (by kernel_rfl) (by kernel_rfl) (by rfl))

theorem l02Var_c (v : Int) : CallA Tryz.prog 310 [AI v] (ownA eN 181 2 [(0, v)]) := by
  refine CallA.of Tryz.func310 rfl (by kernel_rfl) ?_
  exact R.go 11 (R.retE (ownA eN 181 2 [(0, v)]) (by kernel_rfl) (by kernel_rfl) (by rfl))

theorem l02Pair_c (k : Int) (a : List (Int × Int)) (b : List (Int × Int)) (ha : a.length ≤ 1000000) (hb : b.length ≤ 1000000) : CallA Tryz.prog 200 [AI k, LN a, LN b] (ownA eN 181 2 ((k, 0) :: (a ++ b))) := by
 refine CallA.of Tryz.func200 rfl (by kernel_rfl) ?_
 refine R.go 10 (k12 eN [(k, 0)] a 0 181 2 16 eN_one ?_)
 refine R.go 1 (k12 eN ([(k, 0)] ++ a) b 0 181 2 16 eN_one ?_)
 exact R.go 2 (k17 (ownA eN 181 2 ([(k, 0)] ++ a ++ b)) (by first | (rfl) | (exfalso; omega)))

theorem l02Not_c (a : List (Int × Int)) (ha : a.length ≤ 1000000) : CallA Tryz.prog 311 [LN a] (ownA eN 181 2 ((4, 0) :: (a ++ [(1, 0)]))) := by
 refine CallA.of Tryz.func311 rfl (by kernel_rfl) ?_
 refine R.go 7 (k14 true (l02False_c).frz rfl ?_)
 refine k14 true (l02Pair_c 4 a [(1, 0)] ha (by first | omega | (simp <;> omega))) rfl ?_
 exact R.go 2 (k17 (ownA eN 181 2 ((4, 0) :: (a ++ [(1, 0)]))) (by rfl))

end Go.Proofs.YtjllngcefoohpaaGreat


/-! Draws of formulas. -/
namespace Go.Proofs.YtjllngcefoohpaaGreat
open Go.RowKit Go.Abs

theorem l02Pre_c (k : Int) (a : List (Int × Int)) (ha : a.length ≤ 1000000) : CallA Tryz.prog 215 [AI k, LN a] (ownA eN 181 2 ((k, 0) :: a)) := by
 refine CallA.of Tryz.func215 rfl (by kernel_rfl) ?_
 refine R.go 10 (k12 eN [(k, 0)] a 0 181 2 16 eN_one ?_)
 exact R.go 2 (k17 (ownA eN 181 2 ([(k, 0)] ++ a)) (by first | (rfl) | (exfalso; omega)))

theorem drawX_c_r3 : ∀ (k : Nat) (c : List Int) (p : Nat) (h : Int) (size : Int) (vars : Int) (modal : Bool) (eo1 : Nat) (so1 : Nat) (no1 : Nat) (co1 : List AV) (eo2 : Nat) (so2 : Nat) (no2 : Nat) (co2 : List AV) (eo3 : Nat) (so3 : Nat) (no3 : Nat) (co3 : List AV) (hk : size.toNat = k) (hc : BY c) (hs : size ≤ 1000), CallX Tryz.prog 198 [.ptr 0 0, AI size, AI vars, .bool modal] [.box 157 [LB c, AI (p : Int), .int .u64 h], .list eo1 so1 no1 co1, .list eo2 so2 no2 co2, .list eo3 so3 no3 co3] (fun (resX : AV) (objX : List AObj) => ∃ r : List (Int × Int), ∃ p1 : Nat, ∃ h1 : Int, (((r.length : Int) ≤ size ∨ r.length ≤ 1) ∧ 1 ≤ r.length) ∧ resX = LN r ∧ objX = [.box 157 [LB c, AI (p1 : Int), .int .u64 h1], .list eo1 so1 no1 co1, .list eo2 so2 no2 co2, .list eo3 so3 no3 co3]) := by
 intro k
 induction k using Nat.strongRecOn with
 | _ k ih =>
 intro c p h size vars modal eo1 so1 no1 co1 eo2 so2 no2 co2 eo3 so3 no3 co3 hk hc hs
 refine CallX.dropE (CallX.ofF Tryz.func198 rfl (by kernel_rfl) ?_)
 intro usC frC hfC
 refine R.go 10 ?_
 by_cases c1 : size ≤ 2
 ·refine k6 (decide (size ≤ 2)) false (dT c1) ?_
  refine k6 (decide (size ≤ 2)) false (dT c1) ?_
  refine k6 (decide (size ≤ 2)) false (dT c1) ?_
  refine k7 (decide (size ≤ 2)) true (dT c1) ?_
  refine R.go 6 (k26 (k28b 4 usC frC (nextX_c_r3 c p h 8 eo1 so1 no1 co1 eo2 so2 no2 co2 eo3 so3 no3 co3 hc)) ?_)
  rintro _ _ ⟨_, _, ⟨v_2, p1_3, h1_4, f5, rfl, rfl⟩, rfl, rfl⟩
  refine R.go 2 (k3 (v_2 = 0) (fun c6 => ?_) (fun c6 => ?_))
  ·refine R.go 2 (k14 true (l02False_c).frz rfl ?_)
   exact R.go 2 (R.retX (res := LN [(1, 0)]) (hp' := [.box 157 [LB c, AI (p1_3 : Int), .int .u64 h1_4], .list eo1 so1 no1 co1, .list eo2 so2 no2 co2, .list eo3 so3 no3 co3, .dead]) (by kernel_rfl) (by kernel_rfl) (by kernel_rfl) (by kernel_rfl) ⟨[0, 1, 2, 3], by kernel_rfl, by decide, [(1, 0)], p1_3, h1_4, by first | (simp; done) | (simp only [List.length_cons, List.length_append, List.length_nil]; omega), by kernel_rfl, by kernel_rfl⟩)
  ·refine R.go 5 (k26 (k28b 4 usC frC (nextX_c_r3 c p1_3 h1_4 vars eo1 so1 no1 co1 eo2 so2 no2 co2 eo3 so3 no3 co3 hc)) ?_)
   rintro _ _ ⟨_, _, ⟨v_7, p1_8, h1_9, f10, rfl, rfl⟩, rfl, rfl⟩
   refine k14 true (l02Var_c v_7).frz rfl ?_
   exact R.go 2 (R.retX (res := LN [(0, v_7)]) (hp' := [.box 157 [LB c, AI (p1_8 : Int), .int .u64 h1_9], .list eo1 so1 no1 co1, .list eo2 so2 no2 co2, .list eo3 so3 no3 co3, .dead]) (by kernel_rfl) (by kernel_rfl) (by kernel_rfl) (by kernel_rfl) ⟨[0, 1, 2, 3], by kernel_rfl, by decide, [(0, v_7)], p1_8, h1_9, by first | (simp; done) | (simp only [List.length_cons, List.length_append, List.length_nil]; omega), by kernel_rfl, by kernel_rfl⟩)
 ·refine k5 (decide (size ≤ 2)) false (dF c1) ?_
  refine R.go 1 (k5 (decide (size ≤ 2)) false (dF c1) ?_)
  refine k26 (k28b 4 usC frC (nextX_c_r3 c p h 9 eo1 so1 no1 co1 eo2 so2 no2 co2 eo3 so3 no3 co3 hc)) ?_
  rintro _ _ ⟨_, _, ⟨v_11, p1_12, h1_13, f14, rfl, rfl⟩, rfl, rfl⟩
  refine k5 (decide (size ≤ 2)) false (dF c1) ?_
  refine R.go 1 (k7 (decide (size ≤ 2)) false (dF c1) ?_)
  refine R.go 1 (k3 (v_11 = 0) (fun c15 => ?_) (fun c15 => ?_))
  ·refine R.go 4 (k26 (k28b 4 usC frC (nextX_c_r3 c p1_12 h1_13 8 eo1 so1 no1 co1 eo2 so2 no2 co2 eo3 so3 no3 co3 hc)) ?_)
   rintro _ _ ⟨_, _, ⟨v_16, p1_17, h1_18, f19, rfl, rfl⟩, rfl, rfl⟩
   refine R.go 2 (k3 (v_16 = 0) (fun c20 => ?_) (fun c20 => ?_))
   ·refine R.go 2 (k14 true (l02False_c).frz rfl ?_)
    exact R.go 2 (R.retX (res := LN [(1, 0)]) (hp' := [.box 157 [LB c, AI (p1_17 : Int), .int .u64 h1_18], .list eo1 so1 no1 co1, .list eo2 so2 no2 co2, .list eo3 so3 no3 co3, .dead]) (by kernel_rfl) (by kernel_rfl) (by kernel_rfl) (by kernel_rfl) ⟨[0, 1, 2, 3], by kernel_rfl, by decide, [(1, 0)], p1_17, h1_18, by first | (simp; done) | (simp only [List.length_cons, List.length_append, List.length_nil]; omega), by kernel_rfl, by kernel_rfl⟩)
   ·refine R.go 5 (k26 (k28b 4 usC frC (nextX_c_r3 c p1_17 h1_18 vars eo1 so1 no1 co1 eo2 so2 no2 co2 eo3 so3 no3 co3 hc)) ?_)
    rintro _ _ ⟨_, _, ⟨v_21, p1_22, h1_23, f24, rfl, rfl⟩, rfl, rfl⟩
    refine k14 true (l02Var_c v_21).frz rfl ?_
    exact R.go 2 (R.retX (res := LN [(0, v_21)]) (hp' := [.box 157 [LB c, AI (p1_22 : Int), .int .u64 h1_23], .list eo1 so1 no1 co1, .list eo2 so2 no2 co2, .list eo3 so3 no3 co3, .dead]) (by kernel_rfl) (by kernel_rfl) (by kernel_rfl) (by kernel_rfl) ⟨[0, 1, 2, 3], by kernel_rfl, by decide, [(0, v_21)], p1_22, h1_23, by first | (simp; done) | (simp only [List.length_cons, List.length_append, List.length_nil]; omega), by kernel_rfl, by kernel_rfl⟩)
  ·refine R.go 6 ?_
   refine (Bool.eq_false_or_eq_true (modal)).elim (fun c25 => ?_) (fun c25 => ?_)
   ·refine k5 (modal) true c25 ?_
    refine R.go 1 (k5 (modal) true c25 ?_)
    refine k26 (k28b 4 usC frC (nextX_c_r3 c p1_12 h1_13 3 eo1 so1 no1 co1 eo2 so2 no2 co2 eo3 so3 no3 co3 hc)) ?_
    rintro _ _ ⟨_, _, ⟨v_26, p1_27, h1_28, f29, rfl, rfl⟩, rfl, rfl⟩
    refine k5 (modal) true c25 ?_
    refine R.go 1 (k7 (modal) true c25 ?_)
    refine R.go 1 (k3 (v_26 = 0) (fun c30 => ?_) (fun c30 => ?_))
    ·refine R.go 3 (k26 (k28b 4 usC frC (nextX_c_r3 c p1_27 h1_28 2 eo1 so1 no1 co1 eo2 so2 no2 co2 eo3 so3 no3 co3 hc)) ?_)
     rintro _ _ ⟨_, _, ⟨v_31, p1_32, h1_33, f34, rfl, rfl⟩, rfl, rfl⟩
     refine k1 (5 + v_31) ?_
     refine R.go 2 (k1 (size - 1) ?_)
     refine R.go 2 (k26 (k28b 4 usC frC (ih (((size - 1) : Int).toNat) (by omega) c p1_32 h1_33 (size - 1) vars modal eo1 so1 no1 co1 eo2 so2 no2 co2 eo3 so3 no3 co3 (by rfl) hc (by omega))) ?_)
     rintro _ _ ⟨_, _, ⟨r_35, p1_36, h1_37, f38, rfl, rfl⟩, rfl, rfl⟩
     refine k14 true (l02Pre_c (5 + v_31) r_35 (by first | omega | (simp <;> omega))).frz rfl ?_
     exact R.go 2 (R.retX (res := LN (((5 + v_31), 0) :: r_35)) (hp' := [.box 157 [LB c, AI (p1_36 : Int), .int .u64 h1_37], .list eo1 so1 no1 co1, .list eo2 so2 no2 co2, .list eo3 so3 no3 co3, .dead]) (by kernel_rfl) (by kernel_rfl) (by kernel_rfl) (by kernel_rfl) ⟨[0, 1, 2, 3], by kernel_rfl, by decide, ((5 + v_31), 0) :: r_35, p1_36, h1_37, by first | (simp; done) | (simp only [List.length_cons, List.length_append, List.length_nil]; omega), by kernel_rfl, by kernel_rfl⟩)
    ·refine R.go 5 (k26 (k28b 4 usC frC (nextX_c_r3 c p1_27 h1_28 6 eo1 so1 no1 co1 eo2 so2 no2 co2 eo3 so3 no3 co3 hc)) ?_)
     rintro _ _ ⟨_, _, ⟨v_39, p1_40, h1_41, f42, rfl, rfl⟩, rfl, rfl⟩
     refine R.go 2 (k3 (v_39 = 0) (fun c43 => ?_) (fun c43 => ?_))
     ·refine R.go 4 (k1 (size - 2) ?_)
      refine R.go 2 (k26 (k28b 4 usC frC (ih (((size - 2) : Int).toNat) (by omega) c p1_40 h1_41 (size - 2) vars modal eo1 so1 no1 co1 eo2 so2 no2 co2 eo3 so3 no3 co3 (by rfl) hc (by omega))) ?_)
      rintro _ _ ⟨_, _, ⟨r_44, p1_45, h1_46, f47, rfl, rfl⟩, rfl, rfl⟩
      refine k14 true (l02Not_c r_44 (by first | omega | (simp <;> omega))).frz rfl ?_
      exact R.go 2 (R.retX (res := LN ((4, 0) :: (r_44 ++ [(1, 0)]))) (hp' := [.box 157 [LB c, AI (p1_45 : Int), .int .u64 h1_46], .list eo1 so1 no1 co1, .list eo2 so2 no2 co2, .list eo3 so3 no3 co3, .dead]) (by kernel_rfl) (by kernel_rfl) (by kernel_rfl) (by kernel_rfl) ⟨[0, 1, 2, 3], by kernel_rfl, by decide, (4, 0) :: (r_44 ++ [(1, 0)]), p1_45, h1_46, by first | (simp; done) | (simp only [List.length_cons, List.length_append, List.length_nil]; omega), by kernel_rfl, by kernel_rfl⟩)
     ·refine R.go 5 (k1 (size - 2) ?_)
      refine k26 (k28b 4 usC frC (nextX_c_r3 c p1_40 h1_41 (size - 2) eo1 so1 no1 co1 eo2 so2 no2 co2 eo3 so3 no3 co3 hc)) ?_
      rintro _ _ ⟨_, _, ⟨v_48, p1_49, h1_50, f51, rfl, rfl⟩, rfl, rfl⟩
      refine k1 (1 + v_48) ?_
      refine R.go 8 (k26 (k28b 4 usC frC (ih (((1 + v_48) : Int).toNat) (by omega) c p1_49 h1_50 (1 + v_48) vars modal eo1 so1 no1 co1 eo2 so2 no2 co2 eo3 so3 no3 co3 (by rfl) hc (by omega))) ?_)
      rintro _ _ ⟨_, _, ⟨r_52, p1_53, h1_54, f55, rfl, rfl⟩, rfl, rfl⟩
      refine R.go 5 (k26 (k28b 4 usC frC (nextX_c_r3 c p1_53 h1_54 3 eo1 so1 no1 co1 eo2 so2 no2 co2 eo3 so3 no3 co3 hc)) ?_)
      rintro _ _ ⟨_, _, ⟨v_56, p1_57, h1_58, f59, rfl, rfl⟩, rfl, rfl⟩
      refine k1 (2 + v_56) ?_
      refine R.go 3 (k1 (size - 1) ?_)
      refine R.go 1 (k1 ((size - 1) - (1 + v_48)) ?_)
      refine R.go 2 (k26 (k28b 4 usC frC (ih ((((size - 1) - (1 + v_48)) : Int).toNat) (by omega) c p1_57 h1_58 ((size - 1) - (1 + v_48)) vars modal eo1 so1 no1 co1 eo2 so2 no2 co2 eo3 so3 no3 co3 (by rfl) hc (by omega))) ?_)
      rintro _ _ ⟨_, _, ⟨r_60, p1_61, h1_62, f63, rfl, rfl⟩, rfl, rfl⟩
      refine k14 true (l02Pair_c (2 + v_56) r_52 r_60 (by first | omega | (simp <;> omega)) (by first | omega | (simp <;> omega))).frz rfl ?_
      exact R.go 2 (R.retX (res := LN (((2 + v_56), 0) :: (r_52 ++ r_60))) (hp' := [.box 157 [LB c, AI (p1_61 : Int), .int .u64 h1_62], .list eo1 so1 no1 co1, .list eo2 so2 no2 co2, .list eo3 so3 no3 co3, .dead]) (by kernel_rfl) (by kernel_rfl) (by kernel_rfl) (by kernel_rfl) ⟨[0, 1, 2, 3], by kernel_rfl, by decide, ((2 + v_56), 0) :: (r_52 ++ r_60), p1_61, h1_62, by first | (simp; done) | (simp only [List.length_cons, List.length_append, List.length_nil]; omega), by kernel_rfl, by kernel_rfl⟩)
   ·refine k6 (modal) true c25 ?_
    refine k6 (modal) true c25 ?_
    refine k6 (modal) true c25 ?_
    refine k7 (modal) false c25 ?_
    refine R.go 7 (k26 (k28b 4 usC frC (nextX_c_r3 c p1_12 h1_13 6 eo1 so1 no1 co1 eo2 so2 no2 co2 eo3 so3 no3 co3 hc)) ?_)
    rintro _ _ ⟨_, _, ⟨v_64, p1_65, h1_66, f67, rfl, rfl⟩, rfl, rfl⟩
    refine R.go 2 (k3 (v_64 = 0) (fun c68 => ?_) (fun c68 => ?_))
    ·refine R.go 4 (k1 (size - 2) ?_)
     refine R.go 2 (k26 (k28b 4 usC frC (ih (((size - 2) : Int).toNat) (by omega) c p1_65 h1_66 (size - 2) vars modal eo1 so1 no1 co1 eo2 so2 no2 co2 eo3 so3 no3 co3 (by rfl) hc (by omega))) ?_)
     rintro _ _ ⟨_, _, ⟨r_69, p1_70, h1_71, f72, rfl, rfl⟩, rfl, rfl⟩
     refine k14 true (l02Not_c r_69 (by first | omega | (simp <;> omega))).frz rfl ?_
     exact R.go 2 (R.retX (res := LN ((4, 0) :: (r_69 ++ [(1, 0)]))) (hp' := [.box 157 [LB c, AI (p1_70 : Int), .int .u64 h1_71], .list eo1 so1 no1 co1, .list eo2 so2 no2 co2, .list eo3 so3 no3 co3, .dead]) (by kernel_rfl) (by kernel_rfl) (by kernel_rfl) (by kernel_rfl) ⟨[0, 1, 2, 3], by kernel_rfl, by decide, (4, 0) :: (r_69 ++ [(1, 0)]), p1_70, h1_71, by first | (simp; done) | (simp only [List.length_cons, List.length_append, List.length_nil]; omega), by kernel_rfl, by kernel_rfl⟩)
    ·refine R.go 5 (k1 (size - 2) ?_)
     refine k26 (k28b 4 usC frC (nextX_c_r3 c p1_65 h1_66 (size - 2) eo1 so1 no1 co1 eo2 so2 no2 co2 eo3 so3 no3 co3 hc)) ?_
     rintro _ _ ⟨_, _, ⟨v_73, p1_74, h1_75, f76, rfl, rfl⟩, rfl, rfl⟩
     refine k1 (1 + v_73) ?_
     refine R.go 8 (k26 (k28b 4 usC frC (ih (((1 + v_73) : Int).toNat) (by omega) c p1_74 h1_75 (1 + v_73) vars modal eo1 so1 no1 co1 eo2 so2 no2 co2 eo3 so3 no3 co3 (by rfl) hc (by omega))) ?_)
     rintro _ _ ⟨_, _, ⟨r_77, p1_78, h1_79, f80, rfl, rfl⟩, rfl, rfl⟩
     refine R.go 5 (k26 (k28b 4 usC frC (nextX_c_r3 c p1_78 h1_79 3 eo1 so1 no1 co1 eo2 so2 no2 co2 eo3 so3 no3 co3 hc)) ?_)
     rintro _ _ ⟨_, _, ⟨v_81, p1_82, h1_83, f84, rfl, rfl⟩, rfl, rfl⟩
     refine k1 (2 + v_81) ?_
     refine R.go 3 (k1 (size - 1) ?_)
     refine R.go 1 (k1 ((size - 1) - (1 + v_73)) ?_)
     refine R.go 2 (k26 (k28b 4 usC frC (ih ((((size - 1) - (1 + v_73)) : Int).toNat) (by omega) c p1_82 h1_83 ((size - 1) - (1 + v_73)) vars modal eo1 so1 no1 co1 eo2 so2 no2 co2 eo3 so3 no3 co3 (by rfl) hc (by omega))) ?_)
     rintro _ _ ⟨_, _, ⟨r_85, p1_86, h1_87, f88, rfl, rfl⟩, rfl, rfl⟩
     refine k14 true (l02Pair_c (2 + v_81) r_77 r_85 (by first | omega | (simp <;> omega)) (by first | omega | (simp <;> omega))).frz rfl ?_
     exact R.go 2 (R.retX (res := LN (((2 + v_81), 0) :: (r_77 ++ r_85))) (hp' := [.box 157 [LB c, AI (p1_86 : Int), .int .u64 h1_87], .list eo1 so1 no1 co1, .list eo2 so2 no2 co2, .list eo3 so3 no3 co3, .dead]) (by kernel_rfl) (by kernel_rfl) (by kernel_rfl) (by kernel_rfl) ⟨[0, 1, 2, 3], by kernel_rfl, by decide, ((2 + v_81), 0) :: (r_77 ++ r_85), p1_86, h1_87, by first | (simp; done) | (simp only [List.length_cons, List.length_append, List.length_nil]; omega), by kernel_rfl, by kernel_rfl⟩)

end Go.Proofs.YtjllngcefoohpaaGreat


/-! Draws of formulas, second part. -/
namespace Go.Proofs.YtjllngcefoohpaaGreat
open Go.RowKit Go.Abs

theorem l02Own_c (xs : List (Int × Int)) (hl : xs.length ≤ 1000000000) : CallA Tryz.prog 312 [LN xs] (ownA eN 181 2 xs) := by
 refine CallA.of Tryz.func312 rfl (by kernel_rfl) ?_
 refine R.go 8 (k12 eN [] xs 0 181 2 16 eN_one ?_)
 exact R.go 2 (k17 (ownA eN 181 2 ([] ++ xs)) (by first | (rfl) | (exfalso; omega)))

theorem bendX_c_r3 (c : List Int) (p : Nat) (h : Int) (a : List (Int × Int)) (eo1 : Nat) (so1 : Nat) (no1 : Nat) (co1 : List AV) (eo2 : Nat) (so2 : Nat) (no2 : Nat) (co2 : List AV) (eo3 : Nat) (so3 : Nat) (no3 : Nat) (co3 : List AV) (hc : BY c) (ha : 1 ≤ a.length ∧ a.length ≤ 900) : CallX Tryz.prog 199 [.ptr 0 0, LN a] [.box 157 [LB c, AI (p : Int), .int .u64 h], .list eo1 so1 no1 co1, .list eo2 so2 no2 co2, .list eo3 so3 no3 co3] (fun (resX : AV) (objX : List AObj) => ∃ r : List (Int × Int), ∃ p1 : Nat, ∃ h1 : Int, (r.length ≤ 1000) ∧ resX = LN r ∧ objX = [.box 157 [LB c, AI (p1 : Int), .int .u64 h1], .list eo1 so1 no1 co1, .list eo2 so2 no2 co2, .list eo3 so3 no3 co3]) := by
 have hcl : c.length ≤ 4096 := hc.1
 have hcb := hc.2
 refine CallX.dropE (CallX.ofF Tryz.func199 rfl (by kernel_rfl) ?_)
 intro usC frC hfC
 refine R.go 7 (k14 true (l02Own_c a (by first | omega | (simp <;> omega))) rfl ?_)
 refine R.go 7 (k26 (k28b 4 usC frC (nextX_c_r4 c p h a.length eo1 so1 no1 co1 eo2 so2 no2 co2 eo3 so3 no3 co3 181 2 a.length (rows eN a) hc)) ?_)
 rintro _ _ ⟨_, _, ⟨v_1, p1_2, h1_3, f4, rfl, rfl⟩, rfl, rfl⟩
 refine R.go 6 (k26 (k28b 4 usC frC (nextX_c_r4 c p1_2 h1_3 5 eo1 so1 no1 co1 eo2 so2 no2 co2 eo3 so3 no3 co3 181 2 a.length (rows eN a) hc)) ?_)
 rintro _ _ ⟨_, _, ⟨v_5, p1_6, h1_7, f8, rfl, rfl⟩, rfl, rfl⟩
 refine R.go 7 (k3 (v_5 = 0) (fun c9 => ?_) (fun c9 => ?_))
 ·refine R.go 4 (k26 (k28b 4 usC frC (nextX_c_r4 c p1_6 h1_7 9 eo1 so1 no1 co1 eo2 so2 no2 co2 eo3 so3 no3 co3 181 2 a.length (rows eN a) hc)) ?_)
  rintro _ _ ⟨_, _, ⟨v_10, p1_11, h1_12, f13, rfl, rfl⟩, rfl, rfl⟩
  refine k1 (v_10 - 1) ?_
  refine k9 5 2 a.length ((v_1).toNat) v_1 ?_
  refine R.go 1 (R.stF eN 5 181 2 a (0, 0) ((v_1).toNat) 0 (AI (v_10 - 1)) (v_10 - 1, (a.getD ((v_1).toNat) (0, 0)).2) (by kernel_rfl) eN_len (by omega) (by decide) rfl (by kernel_rfl) ?_)
  refine R.go 7 (k18 5 ?_)
  refine R.kfix 4 (us := usC) (by kernel_rfl) (hfC.frz 5 (LN (a.set ((v_1).toNat) (v_10 - 1, (a.getD ((v_1).toNat) (0, 0)).2))) (Nat.le_of_ble_eq_true (by kernel_rfl))) ?_
  exact R.retX (res := LN (a.set ((v_1).toNat) (v_10 - 1, (a.getD ((v_1).toNat) (0, 0)).2))) (hp' := [.box 157 [LB c, AI (p1_11 : Int), .int .u64 h1_12], .list eo1 so1 no1 co1, .list eo2 so2 no2 co2, .list eo3 so3 no3 co3, .dead, .dead]) (by kernel_rfl) (by kernel_rfl) (by kernel_rfl) (by kernel_rfl) ⟨[0, 1, 2, 3], by kernel_rfl, by decide, a.set ((v_1).toNat) (v_10 - 1, (a.getD ((v_1).toNat) (0, 0)).2), p1_11, h1_12, by first | omega | (simp only [List.length_append, List.length_cons, List.length_nil, List.length_set, List.length_take, List.length_drop]; omega), by kernel_rfl, by kernel_rfl⟩
 ·refine R.go 5 (k3 (v_5 = 1) (fun c14 => ?_) (fun c14 => ?_))
  ·refine R.go 4 (R.lit (s := 1) (n := 5) (cs := rows eI [(-1), 0, 1, 5, 6]) (by kernel_rfl) (by kernel_rfl) ?_)
   refine k26 (k28k 4 usC frC (pickX_c_r4 c p1_6 h1_7 [(-1), 0, 1, 5, 6] eo1 so1 no1 co1 eo2 so2 no2 co2 eo3 so3 no3 co3 181 2 a.length (rows eN a) hc (by simp))) ?_
   rintro _ _ ⟨_, _, ⟨v_15, p1_16, h1_17, rfl, rfl⟩, rfl, rfl⟩
   refine k9 5 2 a.length ((v_1).toNat) v_1 ?_
   refine R.go 1 (R.stF eN 5 181 2 a (0, 0) ((v_1).toNat) 1 (AI v_15) ((a.getD ((v_1).toNat) (0, 0)).1, v_15) (by kernel_rfl) eN_len (by omega) (by decide) rfl (by kernel_rfl) ?_)
   refine R.go 7 (k18 5 ?_)
   refine R.kfix 4 (us := usC) (by kernel_rfl) (hfC.frz 5 (LN (a.set ((v_1).toNat) ((a.getD ((v_1).toNat) (0, 0)).1, v_15))) (Nat.le_of_ble_eq_true (by kernel_rfl))) ?_
   exact R.retX (res := LN (a.set ((v_1).toNat) ((a.getD ((v_1).toNat) (0, 0)).1, v_15))) (hp' := [.box 157 [LB c, AI (p1_16 : Int), .int .u64 h1_17], .list eo1 so1 no1 co1, .list eo2 so2 no2 co2, .list eo3 so3 no3 co3, .dead, .dead]) (by kernel_rfl) (by kernel_rfl) (by kernel_rfl) (by kernel_rfl) ⟨[0, 1, 2, 3], by kernel_rfl, by decide, a.set ((v_1).toNat) ((a.getD ((v_1).toNat) (0, 0)).1, v_15), p1_16, h1_17, by first | omega | (simp only [List.length_append, List.length_cons, List.length_nil, List.length_set, List.length_take, List.length_drop]; omega), by kernel_rfl, by kernel_rfl⟩
  ·refine R.go 5 (k3 (v_5 = 2) (fun c18 => ?_) (fun c18 => ?_))
   ·refine R.go 3 (k26 (k28b 4 usC frC (nextX_c_r4 c p1_6 h1_7 7 eo1 so1 no1 co1 eo2 so2 no2 co2 eo3 so3 no3 co3 181 2 a.length (rows eN a) hc)) ?_)
    rintro _ _ ⟨_, _, ⟨v_19, p1_20, h1_21, f22, rfl, rfl⟩, rfl, rfl⟩
    refine R.go 2 (k12 eN a [(v_19, 0)] 5 181 2 16 eN_one ?_)
    refine R.kfix 4 (us := usC) (by kernel_rfl) (hfC.kill 5 (Nat.le_of_ble_eq_true (by kernel_rfl))) ?_
    refine R.go 8 (k18 5 ?_)
    refine R.kfix 4 (us := usC) (by kernel_rfl) (hfC.frz 5 (LN (a ++ [(v_19, 0)])) (Nat.le_of_ble_eq_true (by kernel_rfl))) ?_
    exact R.retX (res := LN (a ++ [(v_19, 0)])) (hp' := [.box 157 [LB c, AI (p1_20 : Int), .int .u64 h1_21], .list eo1 so1 no1 co1, .list eo2 so2 no2 co2, .list eo3 so3 no3 co3, .dead, .dead, rowA eN 181 2 [(v_19, 0)]]) (by kernel_rfl) (by kernel_rfl) (by kernel_rfl) (by kernel_rfl) ⟨[0, 1, 2, 3], by kernel_rfl, by decide, a ++ [(v_19, 0)], p1_20, h1_21, by first | omega | (simp only [List.length_append, List.length_cons, List.length_nil, List.length_set, List.length_take, List.length_drop]; omega), by kernel_rfl, by kernel_rfl⟩
   ·refine R.go 5 (k3 (v_5 = 3) (fun c23 => ?_) (fun c23 => ?_))
    ·refine R.go 3 (R.cut eN a 5 181 ((v_1).toNat) v_1 (by kernel_rfl) (by omega) eN_len (by omega) (by kernel_rfl) ?_)
     refine R.kfix 4 (us := usC) (by kernel_rfl) (hfC.kill 5 (Nat.le_of_ble_eq_true (by kernel_rfl))) ?_
     refine R.go 8 (k18 5 ?_)
     refine R.kfix 4 (us := usC) (by kernel_rfl) (hfC.frz 5 (LN (a.take ((v_1).toNat))) (Nat.le_of_ble_eq_true (by kernel_rfl))) ?_
     exact R.retX (res := LN (a.take ((v_1).toNat))) (hp' := [.box 157 [LB c, AI (p1_6 : Int), .int .u64 h1_7], .list eo1 so1 no1 co1, .list eo2 so2 no2 co2, .list eo3 so3 no3 co3, .dead, .dead]) (by kernel_rfl) (by kernel_rfl) (by kernel_rfl) (by kernel_rfl) ⟨[0, 1, 2, 3], by kernel_rfl, by decide, a.take ((v_1).toNat), p1_6, h1_7, by first | omega | (simp only [List.length_append, List.length_cons, List.length_nil, List.length_set, List.length_take, List.length_drop]; omega), by kernel_rfl, by kernel_rfl⟩
    ·refine R.go 5 (k3 (v_5 = 4) (fun c24 => ?_) (fun c24 => ?_))
     ·refine R.any (by decide +kernel) (by kernel_rfl) ?_
      refine k24 0 (np_retX _ _ _ _ _ _) ?_
      refine k24 1 (np_retX _ _ _ _ _ _) ?_
      refine k24 3 (np_retX _ _ _ _ _ _) ?_
      refine k24 4 (np_retX _ _ _ _ _ _) ?_
      refine R.anyI 5 (AI (IntKind.i64.wrap (v_1 + 1))) (by kernel_rfl) (np_retX _ _ _ _ _ _) ?_
      refine R.del eN a 2 6 7 5 181 16 ((v_1).toNat) v_1 (IntKind.i64.wrap (v_1 + 1)) (by kernel_rfl) (by omega) (by rw [wrap_id (by omega) (by omega)]; omega) eN_len eN_one (by omega) (by decide) (by omega) (np_retX _ _ _ _ _ _) ?_
      refine R.kfix 4 (us := usC) (by kernel_rfl) (hfC.kill 5 (Nat.le_of_ble_eq_true (by kernel_rfl))) ?_
      refine k21 8 ?_
      refine R.go 2 (k20 ?_)
      refine R.go 6 (k18 5 ?_)
      refine R.kfix 4 (us := usC) (by kernel_rfl) (hfC.frz 5 (LN (a.take ((v_1).toNat) ++ a.drop ((v_1).toNat + 1))) (Nat.le_of_ble_eq_true (by kernel_rfl))) ?_
      exact R.retX (res := LN (a.take ((v_1).toNat) ++ a.drop ((v_1).toNat + 1))) (hp' := [.box 157 [LB c, AI (p1_6 : Int), .int .u64 h1_7], .list eo1 so1 no1 co1, .list eo2 so2 no2 co2, .list eo3 so3 no3 co3, .dead, .dead]) (by kernel_rfl) (by kernel_rfl) (by kernel_rfl) (by kernel_rfl) ⟨[0, 1, 2, 3], by kernel_rfl, by decide, a.take ((v_1).toNat) ++ a.drop ((v_1).toNat + 1), p1_6, h1_7, by first | omega | (simp only [List.length_append, List.length_cons, List.length_nil, List.length_set, List.length_take, List.length_drop]; omega), by kernel_rfl, by kernel_rfl⟩
     ·refine R.go 7 (k18 5 ?_)
      refine R.kfix 4 (us := usC) (by kernel_rfl) (hfC.frz 5 (LN a) (Nat.le_of_ble_eq_true (by kernel_rfl))) ?_
      exact R.retX (res := LN a) (hp' := [.box 157 [LB c, AI (p1_6 : Int), .int .u64 h1_7], .list eo1 so1 no1 co1, .list eo2 so2 no2 co2, .list eo3 so3 no3 co3, .dead, .dead]) (by kernel_rfl) (by kernel_rfl) (by kernel_rfl) (by kernel_rfl) ⟨[0, 1, 2, 3], by kernel_rfl, by decide, a, p1_6, h1_7, by first | omega | (simp only [List.length_append, List.length_cons, List.length_nil, List.length_set, List.length_take, List.length_drop]; omega), by kernel_rfl, by kernel_rfl⟩

theorem anyX_c_r3 (c : List Int) (p : Nat) (h : Int) (size : Int) (vars : Int) (modal : Bool) (eo1 : Nat) (so1 : Nat) (no1 : Nat) (co1 : List AV) (eo2 : Nat) (so2 : Nat) (no2 : Nat) (co2 : List AV) (eo3 : Nat) (so3 : Nat) (no3 : Nat) (co3 : List AV) (hc : BY c) (hs : size ≤ 100) : CallX Tryz.prog 103 [.ptr 0 0, AI size, AI vars, .bool modal] [.box 157 [LB c, AI (p : Int), .int .u64 h], .list eo1 so1 no1 co1, .list eo2 so2 no2 co2, .list eo3 so3 no3 co3] (fun (resX : AV) (objX : List AObj) => ∃ r : List (Int × Int), ∃ p1 : Nat, ∃ h1 : Int, (r.length ≤ 1000) ∧ resX = LN r ∧ objX = [.box 157 [LB c, AI (p1 : Int), .int .u64 h1], .list eo1 so1 no1 co1, .list eo2 so2 no2 co2, .list eo3 so3 no3 co3]) := by
 have hcl : c.length ≤ 4096 := hc.1
 have hcb := hc.2
 refine CallX.dropE (CallX.ofF Tryz.func103 rfl (by kernel_rfl) ?_)
 intro usC frC hfC
 refine R.go 10 (k26 (k28b 4 usC frC (drawX_c_r3 ((size : Int).toNat) c p h size vars modal eo1 so1 no1 co1 eo2 so2 no2 co2 eo3 so3 no3 co3 (by rfl) hc (by omega))) ?_)
 rintro _ _ ⟨_, _, ⟨r_1, p1_2, h1_3, f4, rfl, rfl⟩, rfl, rfl⟩
 refine R.go 6 (k26 (k28b 4 usC frC (nextX_c_r3 c p1_2 h1_3 40 eo1 so1 no1 co1 eo2 so2 no2 co2 eo3 so3 no3 co3 hc)) ?_)
 rintro _ _ ⟨_, _, ⟨v_5, p1_6, h1_7, f8, rfl, rfl⟩, rfl, rfl⟩
 refine R.go 7 (k3 (v_5 = 0) (fun c9 => ?_) (fun c9 => ?_))
 ·refine R.go 4 (k26 (k28b 4 usC frC (bendX_c_r3 c p1_6 h1_7 r_1 eo1 so1 no1 co1 eo2 so2 no2 co2 eo3 so3 no3 co3 hc (by omega))) ?_)
  rintro _ _ ⟨_, _, ⟨r_10, p1_11, h1_12, f13, rfl, rfl⟩, rfl, rfl⟩
  exact R.go 2 (R.retX (res := LN r_10) (hp' := [.box 157 [LB c, AI (p1_11 : Int), .int .u64 h1_12], .list eo1 so1 no1 co1, .list eo2 so2 no2 co2, .list eo3 so3 no3 co3, .dead]) (by kernel_rfl) (by kernel_rfl) (by kernel_rfl) (by kernel_rfl) ⟨[0, 1, 2, 3], by kernel_rfl, by decide, r_10, p1_11, h1_12, by first | assumption | omega, by kernel_rfl, by kernel_rfl⟩)
 ·refine R.go 5 (k3 (v_5 = 1) (fun c14 => ?_) (fun c14 => ?_))
  ·refine R.go 1 (k15 ((fun | (b, q, k) => (⟨(frm 42 [(0, .ptr 0 0), (2, AI vars), (3, .bool modal), (9, LN b)]), [.box 157 [LB c, AI (q : Int), .int .u64 k], .list eo1 so1 no1 co1, .list eo2 so2 no2 co2, .list eo3 so3 no3 co3, .frame usC frC]⟩ : St) : (List (Int × Int)) × Nat × Int → St)) (fun | (b, q, k) => (1 ≤ b.length) ∧ (b.length ≤ 200)) (fun | (b, q, k) => 200 - b.length) (r_1, p1_6, h1_7) [0, 2, 3, 9] none ⟨(by omega), (by omega)⟩ ?_)
   rintro ⟨b, q, k⟩ ⟨h18_1, h18_2⟩ R15 N16
   refine R.go 7 ?_
   by_cases c19 : (b.length : Int) ≤ 40
   ·refine k5 (decide ((b.length : Int) ≤ 40)) true (dT c19) ?_
    refine R.go 1 (k5 (decide ((b.length : Int) ≤ 40)) true (dT c19) ?_)
    refine k26 (k28b 4 usC frC (nextX_c_r3 c q k 60 eo1 so1 no1 co1 eo2 so2 no2 co2 eo3 so3 no3 co3 hc)) ?_
    rintro _ _ ⟨_, _, ⟨v_20, p1_21, h1_22, f23, rfl, rfl⟩, rfl, rfl⟩
    refine k5 (decide ((b.length : Int) ≤ 40)) true (dT c19) ?_
    refine R.go 1 (k7 (decide ((b.length : Int) ≤ 40)) true (dT c19) ?_)
    refine R.go 1 (k3 (v_20 > 0) (fun c24 => ?_) (fun c24 => ?_))
    ·refine R.go 4 (k26 (k28b 4 usC frC (nextX_c_r3 c p1_21 h1_22 3 eo1 so1 no1 co1 eo2 so2 no2 co2 eo3 so3 no3 co3 hc)) ?_)
     rintro _ _ ⟨_, _, ⟨v_25, p1_26, h1_27, f28, rfl, rfl⟩, rfl, rfl⟩
     refine k1 (2 + v_25) ?_
     refine R.go 4 (k26 (k28b 4 usC frC (drawX_c_r3 ((6 : Int).toNat) c p1_26 h1_27 6 vars modal eo1 so1 no1 co1 eo2 so2 no2 co2 eo3 so3 no3 co3 (by rfl) hc (by omega))) ?_)
     rintro _ _ ⟨_, _, ⟨r_29, p1_30, h1_31, f32, rfl, rfl⟩, rfl, rfl⟩
     refine k14 true (l02Pair_c (2 + v_25) b r_29 (by first | omega | (simp <;> omega)) (by first | omega | (simp <;> omega))).frz rfl ?_
     exact R.go 3 (k16 R15 (N16 (((2 + v_25), 0) :: (b ++ r_29), p1_30, h1_31) [0, 2, 3, 9] none _ (by kernel_rfl) (by kernel_rfl) ⟨(by (simp only [List.length_cons, List.length_append]; omega)), (by (simp only [List.length_cons, List.length_append]; omega))⟩ (by show (200 - (((2 + v_25), 0) :: (b ++ r_29)).length) < (200 - b.length); (simp only [List.length_cons, List.length_append]; omega))))
    ·exact R.go 7 (R.retX (res := LN b) (hp' := [.box 157 [LB c, AI (p1_21 : Int), .int .u64 h1_22], .list eo1 so1 no1 co1, .list eo2 so2 no2 co2, .list eo3 so3 no3 co3, .dead]) (by kernel_rfl) (by kernel_rfl) (by kernel_rfl) (by kernel_rfl) ⟨[0, 1, 2, 3], by kernel_rfl, by decide, b, p1_21, h1_22, by first | assumption | omega, by kernel_rfl, by kernel_rfl⟩)
   ·refine k6 (decide ((b.length : Int) ≤ 40)) true (dF c19) ?_
    refine k6 (decide ((b.length : Int) ≤ 40)) true (dF c19) ?_
    refine k6 (decide ((b.length : Int) ≤ 40)) true (dF c19) ?_
    refine k7 (decide ((b.length : Int) ≤ 40)) false (dF c19) ?_
    exact R.go 9 (R.retX (res := LN b) (hp' := [.box 157 [LB c, AI (q : Int), .int .u64 k], .list eo1 so1 no1 co1, .list eo2 so2 no2 co2, .list eo3 so3 no3 co3, .dead]) (by kernel_rfl) (by kernel_rfl) (by kernel_rfl) (by kernel_rfl) ⟨[0, 1, 2, 3], by kernel_rfl, by decide, b, q, k, by first | assumption | omega, by kernel_rfl, by kernel_rfl⟩)
  ·exact R.go 7 (R.retX (res := LN r_1) (hp' := [.box 157 [LB c, AI (p1_6 : Int), .int .u64 h1_7], .list eo1 so1 no1 co1, .list eo2 so2 no2 co2, .list eo3 so3 no3 co3, .dead]) (by kernel_rfl) (by kernel_rfl) (by kernel_rfl) (by kernel_rfl) ⟨[0, 1, 2, 3], by kernel_rfl, by decide, r_1, p1_6, h1_7, by first | assumption | omega, by kernel_rfl, by kernel_rfl⟩)

end Go.Proofs.YtjllngcefoohpaaGreat
