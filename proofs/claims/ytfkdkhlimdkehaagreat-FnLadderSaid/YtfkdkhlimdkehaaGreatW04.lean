/- Forcing on posets: ForcedSet and IsForcedAt of both packages; their laws. -/
import Derived.Test.YtfkdkhlimdkehaaGreatW02
import Derived.Test.YtfkdkhlimdkehaaGreatF04
import Derived.Test.YtfkdkhlimdkehaaGreatSymZ
namespace Go.Proofs.YtfkdkhlimdkehaaGreat
open Go.RowKit Go.Abs

def outU (n : Int) (xs : List Int) (m : Int) : Bool := !(inR m 0 ((shl64 1 n) - 1) && decide (img xs m xs.length = m))
def vsB (n : Int) (xs vs : List Int) : Bool := decide (vs.length = 6) && !vs.any (outU n xs)
def vaB (n : Int) (xs vs : List Int) : Bool := okPo n xs && vsB n xs vs
def fcode (n : Int) (xs vs : List Int) (a : List (Int × Int)) : Int := if vaB n xs vs = true ∧ isF a = true then (if a.any modN = false then 0 else 5) else 1
def fset (n : Int) (xs vs : List Int) (a : List (Int × Int)) : Int := if fcode n xs vs a = 0 then fv (impB n xs) vs a else 0
def acode (n : Int) (xs vs : List Int) (x : Int) (a : List (Int × Int)) : Int := if vaB n xs vs = true ∧ isF a = true then (if inR x 0 (n - 1) = true then (if a.any modN = false then 0 else 5) else 2) else 1
def aval (n : Int) (xs vs : List Int) (x : Int) (a : List (Int × Int)) : Bool := decide (acode n xs vs x a = 0) && decide (band (shr64 (fv (impB n xs) vs a) x) 1 = 1)
theorem vaB_po {n : Int} {xs vs : List Int} (h : vaB n xs vs = true) : okPo n xs = true ∧ vs.length = 6 := by
  simp only [vaB, vsB, Bool.and_eq_true, decide_eq_true_eq] at h
  exact ⟨h.1, h.2.1⟩
theorem okf_plain {a : List (Int × Int)} (hF : isF a = true) (hm : a.any modN = false) : OKF 6 a ∧ a.length ≤ 40 := by
  obtain ⟨h1, h2, h3, h4⟩ := isF_parts hF
  refine ⟨⟨pe_of_peX h4, fun x hx => ?_⟩, h1⟩
  obtain ⟨j, hj, rfl⟩ := List.getElem_of_mem hx
  have hg : a[j] = a.getD j (0, 0) := by rw [List.getD_eq_getElem?_getD, List.getElem?_eq_getElem hj]; rfl
  have hn := (okN_yes _).1 (okN_get h3 hj)
  have hmod : modN (a.getD j (0, 0)) = false := by
    have := List.any_eq_false.1 hm _ hx
    rw [hg] at this
    simpa using this
  have hmod' : ¬ ((a.getD j (0, 0)).1 = 5 ∨ (a.getD j (0, 0)).1 = 6) := by unfold modN at hmod; exact of_decide_eq_false hmod
  rw [hg]
  exact ⟨by omega, by omega, fun h0 => by omega⟩
theorem outR_in {n m : Int} (h0 : 0 ≤ n) (h8 : n ≤ 8) (h : outR n m = false) : InM n.toNat m := by
  have h1 : inR m 0 ((shl64 1 n) - 1) = true := by
    rw [outR, (inR_iff n 0 30).2 (by omega)] at h
    simpa using h
  have h2 := (full_rng (n := n.toNat) (by omega) (m := m)).2
  rw [show ((n.toNat : Nat) : Int) = n by omega] at h2
  exact h2 h1
theorem outU_1 {n m : Int} {xs : List Int} (h0 : 0 ≤ n) (h8 : n ≤ 8) (h : outR n m = true) : outU n xs m = true := by
  rw [outR, (inR_iff n 0 30).2 (by omega)] at h
  have : inR m 0 ((shl64 1 n) - 1) = false := by simpa using h
  rw [outU, this]; rfl
theorem outU_2 {n m : Int} {xs : List Int} (h0 : 0 ≤ n) (h8 : n ≤ 8) (h : outR n m = false) : outU n xs m = !decide (img xs m xs.length = m) := by
  rw [outR, (inR_iff n 0 30).2 (by omega)] at h
  have : inR m 0 ((shl64 1 n) - 1) = true := by simpa using h
  rw [outU, this, Bool.true_and]
theorem vs_no1 {n : Int} {xs vs : List Int} (h : ¬ (vs.length : Int) = 6) : vsB n xs vs = false := by rw [vsB, decide_eq_false (by omega)]; rfl
theorem vs_yes {n : Int} {xs vs : List Int} (h : (vs.length : Int) = 6) : vsB n xs vs = !vs.any (outU n xs) := by rw [vsB, decide_eq_true (by omega)]; rfl
theorem vs_no2 {n : Int} {xs vs : List Int} (h : (vs.any fun m => !inR m 0 ((shl64 1 n) - 1)) = true) : vsB n xs vs = false := by
  rw [List.any_eq_true] at h
  obtain ⟨m, hm, h⟩ := h
  have : vs.any (outU n xs) = true := List.any_eq_true.2 ⟨m, hm, by rw [Bool.not_eq_true'] at h; rw [outU, h]; rfl⟩
  rw [vsB, this]; simp
theorem vs_no3 {n : Int} {xs vs : List Int} {v : Nat} (hv : v < vs.length) (h : ¬ img xs (vs.getD v 0) xs.length = vs.getD v 0) : vsB n xs vs = false := by
  have : vs.any (outU n xs) = true := List.any_eq_true.2 ⟨vs.getD v 0, by rw [List.getD_eq_getElem?_getD, List.getElem?_eq_getElem hv]; exact List.getElem_mem _, by rw [outU, decide_eq_false h, Bool.and_false]; rfl⟩
  rw [vsB, this]; simp
theorem vs_ok {n : Int} {xs vs : List Int} (h6 : (vs.length : Int) = 6) (h : (vs.any fun m => !inR m 0 ((shl64 1 n) - 1)) = false) (hi : ∀ v : Nat, v < vs.length → img xs (vs.getD v 0) xs.length = vs.getD v 0) : vsB n xs vs = true := by
  have : vs.any (outU n xs) = false := by
    rw [List.any_eq_false] at h ⊢
    intro m hm
    have h1 := h m hm
    obtain ⟨j, hj, rfl⟩ := List.getElem_of_mem hm
    have h2 := hi j hj
    rw [List.getD_eq_getElem?_getD, List.getElem?_eq_getElem hj] at h2
    have h2 : img xs vs[j] xs.length = vs[j] := h2
    have h3 : inR vs[j] 0 ((shl64 1 n) - 1) = true := by simpa using h1
    rw [outU, h3, decide_eq_true h2]
    decide
  rw [vs_yes h6, this]; rfl
theorem vs_in {n : Int} {xs vs : List Int} {v : Nat} (h0 : 0 ≤ n) (h8 : n ≤ 8) (hv : v < vs.length) (h : (vs.any fun m => !inR m 0 ((shl64 1 n) - 1)) = false) : InM n.toNat (vs.getD v 0) := by
  have h1 := List.any_eq_false.1 h (vs.getD v 0) (by rw [List.getD_eq_getElem?_getD, List.getElem?_eq_getElem hv]; exact List.getElem_mem _)
  have h2 := (full_rng (n := n.toNat) (by omega) (m := vs.getD v 0)).2
  rw [show ((n.toNat : Nat) : Int) = n by omega] at h2
  exact h2 (by simpa using h1)
theorem impAB_eq {n : Int} {xs : List Int} (h : okFr n xs = true) : impA n xs = impB n xs := by
  obtain ⟨h0, h8, hl, hr⟩ := okFr_rel h
  funext a b
  refine boxAB xs _ (fun x hx => ?_) _ (Nat.le_refl _)
  obtain ⟨j, hj, rfl⟩ := List.getElem_of_mem hx
  have hg : xs[j] = xs.getD j 0 := by rw [List.getD_eq_getElem?_getD, List.getElem?_eq_getElem hj]; rfl
  rw [hg]
  exact wrap_inM (by omega) (hr.2 j (by omega))
theorem va_0 {n : Int} {xs vs : List Int} (h : okPo n xs = false) : false = vaB n xs vs := by simp [vaB, h]
theorem va_1 {n : Int} {xs vs : List Int} {b : Bool} (h : okPo n xs = true) (h2 : vsB n xs vs = b) : b = vaB n xs vs := by rw [vaB, h, h2]; rfl
theorem fc_1 {n : Int} {xs vs : List Int} {a : List (Int × Int)} (h : vaB n xs vs = false) : 1 = fcode n xs vs a := by simp [fcode, h]
theorem fc_2 {n : Int} {xs vs : List Int} {a : List (Int × Int)} (h : isF a = false) : 1 = fcode n xs vs a := by simp [fcode, h]
theorem fc_5 {n : Int} {xs vs : List Int} {a : List (Int × Int)} (h : vaB n xs vs = true) (h2 : isF a = true) (h3 : (!a.any modN) = false) : 5 = fcode n xs vs a := by
  rw [Bool.not_eq_false'] at h3
  simp [fcode, h, h2, h3]
theorem fc_0 {n : Int} {xs vs : List Int} {a : List (Int × Int)} (h : vaB n xs vs = true) (h2 : isF a = true) (h3 : (!a.any modN) = true) : 0 = fcode n xs vs a := by
  rw [Bool.not_eq_true'] at h3
  simp [fcode, h, h2, h3]
theorem fc_ok {n : Int} {xs vs : List Int} {a : List (Int × Int)} (h : fcode n xs vs a = 0) : vaB n xs vs = true ∧ isF a = true ∧ a.any modN = false := by
  unfold fcode at h
  split at h
  · rename_i h1
    split at h
    · rename_i h2; exact ⟨h1.1, h1.2, h2⟩
    · cases h
  · cases h
theorem ac_1 {n x : Int} {xs vs : List Int} {a : List (Int × Int)} (h : ¬ (vaB n xs vs = true ∧ isF a = true)) : AV.tup [.bool false, AI 1] = AV.tup [.bool (aval n xs vs x a), AI (acode n xs vs x a)] := by
  have e : acode n xs vs x a = 1 := if_neg h
  rw [aval, e]; rfl
theorem ac_2 {n x : Int} {xs vs : List Int} {a : List (Int × Int)} (h : vaB n xs vs = true ∧ isF a = true) (h2 : inR x 0 (n - 1) = false) : AV.tup [.bool false, AI 2] = AV.tup [.bool (aval n xs vs x a), AI (acode n xs vs x a)] := by
  have e : acode n xs vs x a = 2 := by rw [acode, if_pos h, if_neg (by rw [h2]; decide)]
  rw [aval, e]; rfl
theorem ac_5 {n x : Int} {xs vs : List Int} {a : List (Int × Int)} (h : vaB n xs vs = true ∧ isF a = true) (h2 : inR x 0 (n - 1) = true) (h3 : ¬ a.any modN = false) : AV.tup [.bool false, AI 5] = AV.tup [.bool (aval n xs vs x a), AI (acode n xs vs x a)] := by
  have e : acode n xs vs x a = 5 := by rw [acode, if_pos h, if_pos h2, if_neg h3]
  rw [aval, e]; rfl
theorem ac_0 {n x : Int} {xs vs : List Int} {a : List (Int × Int)} (h : vaB n xs vs = true ∧ isF a = true) (h2 : inR x 0 (n - 1) = true) (h3 : a.any modN = false) : AV.tup [.bool (decide (band (shr64 (fv (impB n xs) vs a) x) 1 = 1)), AI 0] = AV.tup [.bool (aval n xs vs x a), AI (acode n xs vs x a)] := by
  have e : acode n xs vs x a = 0 := by rw [acode, if_pos h, if_pos h2, if_pos h3]
  rw [aval, e]; rfl

theorem isUpsetG_c (n : Int) (xs : List Int) (m : Int) (hR : okFr n xs = true) : CallA Tryz.prog 109 [.agg [AI n, LI xs], AI m] (.bool (!(outU n xs m))) := by
  have hF := okFr_rel hR
  have hRel : RelOK n.toNat xs := hF.2.2.2
  have hb0 : 0 ≤ n ∧ n ≤ 8 ∧ (xs.length : Int) = n := ⟨hF.1, hF.2.1, hF.2.2.1⟩
  have hN8 : n.toNat ≤ 8 := by omega
  refine CallA.of Tryz.func109 rfl (by kernel_rfl) ?_
  refine R.go 10 (R.call true (isMask_c n m) (by kernel_rfl) rfl (by kernel_rfl) ?_)
  refine R.go 1 ?_
  refine (Bool.eq_false_or_eq_true (outR n m)).elim (fun c1 => ?_) (fun c1 => ?_)
  · refine R.skp (!(outR n m)) true (by kernel_rfl) (bnF c1) (by kernel_rfl) ?_
    skip
    refine R.skp (!(outR n m)) true (by kernel_rfl) (bnF c1) (by kernel_rfl) ?_
    refine R.skp (!(outR n m)) true (by kernel_rfl) (bnF c1) (by kernel_rfl) ?_
    refine R.skp (!(outR n m)) true (by kernel_rfl) (bnF c1) (by kernel_rfl) ?_
    refine R.skp (!(outR n m)) true (by kernel_rfl) (bnF c1) (by kernel_rfl) ?_
    refine R.skp (!(outR n m)) true (by kernel_rfl) (bnF c1) (by kernel_rfl) ?_
    refine R.pick (!(outR n m)) false (by kernel_rfl) (bnF c1) (by kernel_rfl) ?_
    exact R.go 2 (R.retE (.bool false) (by kernel_rfl) (by kernel_rfl) (by first | (apply congrArg AV.bool; first | (rw [outU_1 hb0.1 hb0.2.1 (by assumption)]; rfl) | (rw [outU_2 hb0.1 hb0.2.1 (by assumption), Bool.not_not])) | (exfalso; omega)))
  · refine R.want (!(outR n m)) true (by kernel_rfl) (bnT c1) ?_
    skip
    refine R.go 1 (R.want (!(outR n m)) true (by kernel_rfl) (bnT c1) ?_)
    refine R.go 1 (R.want (!(outR n m)) true (by kernel_rfl) (bnT c1) ?_)
    refine R.go 1 (R.want (!(outR n m)) true (by kernel_rfl) (bnT c1) ?_)
    refine R.call true (imageI_c n xs m hR (by first | assumption | exact outR_in hb0.1 hb0.2.1 (by assumption))) (by kernel_rfl) rfl (by kernel_rfl) ?_
    refine R.want (!(outR n m)) true (by kernel_rfl) (bnT c1) ?_
    refine R.go 1 (R.want (!(outR n m)) true (by kernel_rfl) (bnT c1) ?_)
    refine R.go 1 (R.pick (!(outR n m)) true (by kernel_rfl) (bnT c1) (by kernel_rfl) ?_)
    exact R.go 2 (R.retE (.bool (decide ((img xs m xs.length) = m))) (by kernel_rfl) (by kernel_rfl) (by first | (apply congrArg AV.bool; first | (rw [outU_1 hb0.1 hb0.2.1 (by assumption)]; rfl) | (rw [outU_2 hb0.1 hb0.2.1 (by assumption), Bool.not_not])) | (exfalso; omega)))

theorem isVal1_c (m : Int) (n : Int) (xs : List Int) (hR : okFr n xs = true) : CallA Tryz.prog 120 [AI m, .rptr [AI n, LI xs]] (.bool (outU n xs m)) := by
  refine CallA.of Tryz.func120 rfl (by kernel_rfl) ?_
  refine R.go 8 (R.call true (isUpsetG_c n xs m hR) (by kernel_rfl) rfl (by kernel_rfl) ?_)
  exact R.go 3 (R.retE (.bool (!(!(outU n xs m)))) (by kernel_rfl) (by kernel_rfl) (by first | (apply congrArg AV.bool; simp) | (exfalso; omega)))

theorem indexVal_c (a : List Int) (n : Int) (xs : List Int) (hR : okFr n xs = true) (hl : a.length ≤ 1000000000) : CallA Tryz.prog 155 [LI a, .fn 120 [.rptr [AI n, LI xs]]] (AI (fidxI (outU n xs) a 0)) := by
  refine CallA.of Tryz.func155 rfl (by kernel_rfl) ?_
  refine R.go 12 (R.loop (fun (i : Nat) => (⟨(frm 19 [(0, LI a), (1, .fn 120 [.rptr [AI n, LI xs]]), (7, AI a.length), (8, AI (i : Int))]), []⟩ : St)) (fun (i : Nat) => (i ≤ a.length) ∧ (fidxI (outU n xs) a 0 = fidxI (outU n xs) (a.drop i) i)) (fun (i : Nat) => a.length - i) 0 [0, 1, 7, 8] none (by kernel_rfl) (by kernel_rfl) (by kernel_rfl) ⟨(by omega), (by rfl)⟩ ?_)
  rintro i ⟨h3_1, h3_2⟩ R1 N2
  refine R.go 5 (R.cond ((i : Int) < (a.length : Int)) (by kernel_rfl) (fun c4 => ?_) (fun c4 => ?_))
  · refine R.go 13 (R.idx eI a 0 i (i : Int) (by kernel_rfl) rfl eI_len (by omega) (by kernel_rfl) ?_)
    refine R.go 1 (R.call true (isVal1_c (a.getD i 0) n xs hR) (by kernel_rfl) rfl (by kernel_rfl) ?_)
    refine R.go 1 (R.condB (outU n xs (a.getD i 0)) (by kernel_rfl) (fun c5 => ?_) (fun c5 => ?_))
    · exact R.go 5 (R.retE (AI (i : Int)) (by kernel_rfl) (by kernel_rfl) (by first | (apply congrArg AI; rw [‹fidxI (outU n xs) a 0 = _›]; first | exact (fidxI_end (by omega)).symm | exact (fidxI_hit (by omega) (by assumption)).symm) | (exfalso; omega)))
    · refine R.go 3 (R.ar ((i : Int) + 1) (by kernel_rfl) (by omega) (by omega) (by kernel_rfl) ?_)
      exact R.go 2 (R.stop R1 (by kernel_rfl) (N2 (i + 1) [0, 1, 7, 8] none _ (by kernel_rfl) (by kernel_rfl) ⟨(by omega), (by rw [‹fidxI (outU n xs) a 0 = _›]; exact fidxI_miss (by omega) (by assumption))⟩ (by show (a.length - (i + 1)) < (a.length - i); omega)))
  · exact R.go 5 (R.retE (AI (-1)) (by kernel_rfl) (by kernel_rfl) (by first | (apply congrArg AI; rw [‹fidxI (outU n xs) a 0 = _›]; first | exact (fidxI_end (by omega)).symm | exact (fidxI_hit (by omega) (by assumption)).symm) | (exfalso; omega)))

theorem containsVal_c (a : List Int) (n : Int) (xs : List Int) (hR : okFr n xs = true) (hl : a.length ≤ 1000000000) : CallA Tryz.prog 119 [LI a, .fn 120 [.rptr [AI n, LI xs]]] (.bool (a.any (outU n xs))) := by
  refine CallA.of Tryz.func119 rfl (by kernel_rfl) ?_
  refine R.go 8 (R.call true (indexVal_c a n xs hR hl) (by kernel_rfl) rfl (by kernel_rfl) ?_)
  exact R.go 3 (R.retE (.bool (decide ((fidxI (outU n xs) a 0) ≥ 0))) (by kernel_rfl) (by kernel_rfl) (by first | (apply congrArg AV.bool; rw [Bool.eq_iff_iff, decide_eq_true_iff]; exact fidxI_any (Int.le_refl 0)) | (exfalso; omega)))

theorem isValuation_c (n : Int) (xs : List Int) (vs : List Int) (lx : xs.length ≤ 1048576) (lv : vs.length ≤ 1048576) : CallA Tryz.prog 94 [.agg [AI n, LI xs], LI vs] (.bool (vaB n xs vs)) := by
  refine CallA.of Tryz.func94 rfl (by kernel_rfl) ?_
  refine R.go 8 (R.call true (isPoset_c n xs (by first | omega | assumption | exact okPo_fr (by assumption))) (by kernel_rfl) rfl (by kernel_rfl) ?_)
  refine R.go 1 ?_
  refine (Bool.eq_false_or_eq_true (okPo n xs)).elim (fun c1 => ?_) (fun c1 => ?_)
  · refine R.want (okPo n xs) true (by kernel_rfl) c1 ?_
    refine R.go 1 (R.want (okPo n xs) true (by kernel_rfl) c1 ?_)
    refine R.go 1 (R.want (okPo n xs) true (by kernel_rfl) c1 ?_)
    refine R.go 1 (R.pick (okPo n xs) true (by kernel_rfl) c1 (by kernel_rfl) ?_)
    refine R.go 1 ?_
    by_cases c2 : (vs.length : Int) = 6
    · refine R.want (decide ((vs.length : Int) = 6)) true (by kernel_rfl) (dT c2) ?_
      refine R.go 1 (R.want (decide ((vs.length : Int) = 6)) true (by kernel_rfl) (dT c2) ?_)
      refine R.go 1 (R.want (decide ((vs.length : Int) = 6)) true (by kernel_rfl) (dT c2) ?_)
      refine R.call false (containsVal_c vs n xs (by first | assumption | exact okPo_fr (by assumption)) (by first | omega | assumption | exact okPo_fr (by assumption))) (by kernel_rfl) rfl (by kernel_rfl) ?_
      refine R.want (decide ((vs.length : Int) = 6)) true (by kernel_rfl) (dT c2) ?_
      refine R.go 1 (R.pick (decide ((vs.length : Int) = 6)) true (by kernel_rfl) (dT c2) (by kernel_rfl) ?_)
      exact R.go 2 (R.retE (.bool (!(vs.any (outU n xs)))) (by kernel_rfl) (by kernel_rfl) (by first | (apply congrArg AV.bool; first | exact va_0 (by assumption) | exact va_1 (by assumption) (vs_no1 (by assumption)) | exact va_1 (by assumption) (vs_yes (by assumption))) | (exfalso; omega)))
    · refine R.skp (decide ((vs.length : Int) = 6)) true (by kernel_rfl) (dF c2) (by kernel_rfl) ?_
      refine R.skp (decide ((vs.length : Int) = 6)) true (by kernel_rfl) (dF c2) (by kernel_rfl) ?_
      refine R.skp (decide ((vs.length : Int) = 6)) true (by kernel_rfl) (dF c2) (by kernel_rfl) ?_
      refine R.skp (decide ((vs.length : Int) = 6)) true (by kernel_rfl) (dF c2) (by kernel_rfl) ?_
      refine R.pick (decide ((vs.length : Int) = 6)) false (by kernel_rfl) (dF c2) (by kernel_rfl) ?_
      exact R.go 2 (R.retE (.bool false) (by kernel_rfl) (by kernel_rfl) (by first | (apply congrArg AV.bool; first | exact va_0 (by assumption) | exact va_1 (by assumption) (vs_no1 (by assumption)) | exact va_1 (by assumption) (vs_yes (by assumption))) | (exfalso; omega)))
  · refine R.skp (okPo n xs) true (by kernel_rfl) c1 (by kernel_rfl) ?_
    refine R.skp (okPo n xs) true (by kernel_rfl) c1 (by kernel_rfl) ?_
    refine R.skp (okPo n xs) true (by kernel_rfl) c1 (by kernel_rfl) ?_
    refine R.pick (okPo n xs) false (by kernel_rfl) c1 (by kernel_rfl) ?_
    exact R.go 8 (R.retE (.bool false) (by kernel_rfl) (by kernel_rfl) (by first | (apply congrArg AV.bool; first | exact va_0 (by assumption) | exact va_1 (by assumption) (vs_no1 (by assumption)) | exact va_1 (by assumption) (vs_yes (by assumption))) | (exfalso; omega)))

theorem forcingCode_c (n : Int) (xs : List Int) (vs : List Int) (a : List (Int × Int)) (lx : xs.length ≤ 1048576) (lv : vs.length ≤ 1048576) (la : a.length ≤ 1048576) : CallA Tryz.prog 61 [.agg [AI n, LI xs], LI vs, LN a] (AI (fcode n xs vs a)) := by
  refine CallA.of Tryz.func61 rfl (by kernel_rfl) ?_
  refine R.go 11 (R.call true (isValuation_c n xs vs lx lv) (by kernel_rfl) rfl (by kernel_rfl) ?_)
  refine R.go 2 ?_
  refine (Bool.eq_false_or_eq_true (vaB n xs vs)).elim (fun c1 => ?_) (fun c1 => ?_)
  · refine R.want (!(vaB n xs vs)) false (by kernel_rfl) (bnF c1) ?_
    refine R.go 1 (R.want (!(vaB n xs vs)) false (by kernel_rfl) (bnF c1) ?_)
    refine R.call true (isFormula_c a (by first | omega | (simp <;> omega))) (by kernel_rfl) rfl (by kernel_rfl) ?_
    refine R.want (!(vaB n xs vs)) false (by kernel_rfl) (bnF c1) ?_
    refine R.go 1 (R.pick (!(vaB n xs vs)) false (by kernel_rfl) (bnF c1) (by kernel_rfl) ?_)
    refine R.go 2 (R.condM (isF a) (by kernel_rfl) (fun c2 => ?_) (fun c2 => ?_))
    · exact R.go 4 (R.retE (AI 1) (by kernel_rfl) (by kernel_rfl) (by first | (apply congrArg AI; first | exact fc_1 (by assumption) | exact fc_2 (by assumption) | exact fc_5 (by assumption) (by assumption) (by assumption) | exact fc_0 (by assumption) (by assumption) (by assumption)) | (exfalso; omega)))
    · refine R.go 3 (R.call true (isPlain_c a (by first | omega | (simp <;> omega))) (by kernel_rfl) rfl (by kernel_rfl) ?_)
      refine R.go 3 (R.condM (!(a.any modN)) (by kernel_rfl) (fun c3 => ?_) (fun c3 => ?_))
      · exact R.go 4 (R.retE (AI 5) (by kernel_rfl) (by kernel_rfl) (by first | (apply congrArg AI; first | exact fc_1 (by assumption) | exact fc_2 (by assumption) | exact fc_5 (by assumption) (by assumption) (by assumption) | exact fc_0 (by assumption) (by assumption) (by assumption)) | (exfalso; omega)))
      · exact R.go 6 (R.retE (AI 0) (by kernel_rfl) (by kernel_rfl) (by first | (apply congrArg AI; first | exact fc_1 (by assumption) | exact fc_2 (by assumption) | exact fc_5 (by assumption) (by assumption) (by assumption) | exact fc_0 (by assumption) (by assumption) (by assumption)) | (exfalso; omega)))
  · refine R.skp (!(vaB n xs vs)) false (by kernel_rfl) (bnT c1) (by kernel_rfl) ?_
    refine R.skp (!(vaB n xs vs)) false (by kernel_rfl) (bnT c1) (by kernel_rfl) ?_
    refine R.skp (!(vaB n xs vs)) false (by kernel_rfl) (bnT c1) (by kernel_rfl) ?_
    refine R.pick (!(vaB n xs vs)) true (by kernel_rfl) (bnT c1) (by kernel_rfl) ?_
    exact R.go 7 (R.retE (AI 1) (by kernel_rfl) (by kernel_rfl) (by first | (apply congrArg AI; first | exact fc_1 (by assumption) | exact fc_2 (by assumption) | exact fc_5 (by assumption) (by assumption) (by assumption) | exact fc_0 (by assumption) (by assumption) (by assumption)) | (exfalso; omega)))

theorem FS_impl (n : Int) (xs : List Int) (vs : List Int) (a : List (Int × Int)) (lx : xs.length ≤ 1048576) (lv : vs.length ≤ 1048576) (la : a.length ≤ 1048576) : CallA Tryz.prog 24 [.agg [AI n, LI xs], LI vs, LN a] (.tup [AI (fset n xs vs a), AI (fcode n xs vs a)]) := by
  refine CallA.of Tryz.func24 rfl (by kernel_rfl) ?_
  refine R.go 12 (R.call true (forcingCode_c n xs vs a lx lv la) (by kernel_rfl) rfl (by kernel_rfl) ?_)
  refine R.go 7 (R.condN ((fcode n xs vs a) = 0) (by kernel_rfl) (fun c1 => ?_) (fun c1 => ?_))
  · exact R.go 6 (R.retE (.tup [AI 0, AI (fcode n xs vs a)]) (by kernel_rfl) (by kernel_rfl) (by first | (refine tup2 ?_ ?_ <;> first | (simp [fset, *]; done) | (rw [fset, if_pos (by assumption)]; done) | (rw [fset, if_pos (by assumption), impAB_eq hfr])) | (exfalso; omega)))
  · have hq := fc_ok (by assumption)
    have hv6 := vaB_po hq.1
    have hPo : okPo n xs = true := hv6.1
    have hfr : okFr n xs = true := okPo_fr hPo
    have hF8 := okFr_rel hfr
    have hb8 : 0 ≤ n ∧ n ≤ 8 ∧ (xs.length : Int) = n := ⟨hF8.1, hF8.2.1, hF8.2.2.1⟩
    have hpl := okf_plain hq.2.1 hq.2.2
    have hokf : OKF vs.length a := by rw [hv6.2]; exact hpl.1
    have hal : a.length ≤ 40 := hpl.2
    refine R.go 6 (R.call true (forced_c n xs vs a hokf (by first | omega | (simp <;> omega)) (by omega) (by omega) (by first | omega | (simp <;> omega))) (by kernel_rfl) rfl (by kernel_rfl) ?_)
    exact R.go 3 (R.retE (.tup [AI (fv (impB n xs) vs a), AI 0]) (by kernel_rfl) (by kernel_rfl) (by first | (refine tup2 ?_ ?_ <;> first | (simp [fset, *]; done) | (rw [fset, if_pos (by assumption)]; done) | (rw [fset, if_pos (by assumption), impAB_eq hfr])) | (exfalso; omega)))

end Go.Proofs.YtfkdkhlimdkehaaGreat
