/- Texts of the proof: PVB. -/
import Derived.Test.YtogehjciaamcfaaGreatPartL

/-! The law FnPosetValidity. -/
namespace Go.Proofs.YtogehjciaamcfaaGreat
open Go.RowKit Go.Abs

def outU (n : Int) (xs : List Int) (m : Int) : Bool := !(inR m 0 ((shl64 1 n) - 1) && decide (img xs m xs.length = m))
def vsB (n : Int) (xs vs : List Int) : Bool := decide (vs.length = 6) && !vs.any (outU n xs)
def vaB (n : Int) (xs vs : List Int) : Bool := okPo n xs && vsB n xs vs
theorem vaB_po {n : Int} {xs vs : List Int} (h : vaB n xs vs = true) : okPo n xs = true ∧ vs.length = 6 := by
  simp only [vaB, vsB, Bool.and_eq_true, decide_eq_true_eq] at h
  exact ⟨h.1, h.2.1⟩
theorem outR_in {n m : Int} (h0 : 0 ≤ n) (h8 : n ≤ 8) (h : outR n m = false) : InM n.toNat m := by
  have h1 : inR m 0 ((shl64 1 n) - 1) = true := by
    rw [outR, (inR_iff n 0 30).2 (by omega)] at h
    simpa using h
  have h2 := (full_rng (n := n.toNat) (by omega) (m := m)).2
  rw [show ((n.toNat : Nat) : Int) = n by omega] at h2
  exact h2 h1
theorem outU_1 {n m : Int} {xs : List Int} (h0 : 0 ≤ n) (h8 : n ≤ 8) (h : outR n m = true) : outU n xs m = true := by
  rw [outR, (inR_iff n 0 30).2 (by omega)] at h
  have : inR m 0 ((shl64 1 n) - 1) = false := by simpa using h
  rw [outU, this]; rfl
theorem outU_2 {n m : Int} {xs : List Int} (h0 : 0 ≤ n) (h8 : n ≤ 8) (h : outR n m = false) : outU n xs m = !decide (img xs m xs.length = m) := by
  rw [outR, (inR_iff n 0 30).2 (by omega)] at h
  have : inR m 0 ((shl64 1 n) - 1) = true := by simpa using h
  rw [outU, this, Bool.true_and]
theorem vs_no1 {n : Int} {xs vs : List Int} (h : ¬ (vs.length : Int) = 6) : vsB n xs vs = false := by rw [vsB, decide_eq_false (by omega)]; rfl
theorem vs_yes {n : Int} {xs vs : List Int} (h : (vs.length : Int) = 6) : vsB n xs vs = !vs.any (outU n xs) := by rw [vsB, decide_eq_true (by omega)]; rfl
theorem va_0 {n : Int} {xs vs : List Int} (h : okPo n xs = false) : false = vaB n xs vs := by simp [vaB, h]
theorem va_1 {n : Int} {xs vs : List Int} {b : Bool} (h : okPo n xs = true) (h2 : vsB n xs vs = b) : b = vaB n xs vs := by rw [vaB, h, h2]; rfl

theorem isUpsetG_c (n : Int) (xs : List Int) (m : Int) (hR : okFr n xs = true) : CallA Tryz.prog 63 [.agg [AI n, LI xs], AI m] (.bool (!(outU n xs m))) := by
  have hF := okFr_rel hR
  have hRel : RelOK n.toNat xs := hF.2.2.2
  have hb0 : 0 ≤ n ∧ n ≤ 8 ∧ (xs.length : Int) = n := ⟨hF.1, hF.2.1, hF.2.2.1⟩
  have hN8 : n.toNat ≤ 8 := by omega
  refine CallA.of Tryz.func63 rfl (by kernel_rfl) ?_
  refine R.go 10 (R.call true (isMask_c n m) (by kernel_rfl) rfl (by kernel_rfl) ?_)
  refine R.go 1 ?_
  refine (Bool.eq_false_or_eq_true (outR n m)).elim (fun c1 => ?_) (fun c1 => ?_)
  · refine R.skp (!(outR n m)) true (by kernel_rfl) (bnF c1) (by kernel_rfl) ?_
    skip
    refine R.skp (!(outR n m)) true (by kernel_rfl) (bnF c1) (by kernel_rfl) ?_
    refine R.skp (!(outR n m)) true (by kernel_rfl) (bnF c1) (by kernel_rfl) ?_
    refine R.skp (!(outR n m)) true (by kernel_rfl) (bnF c1) (by kernel_rfl) ?_
    refine R.skp (!(outR n m)) true (by kernel_rfl) (bnF c1) (by kernel_rfl) ?_
    refine R.skp (!(outR n m)) true (by kernel_rfl) (bnF c1) (by kernel_rfl) ?_
    refine R.pick (!(outR n m)) false (by kernel_rfl) (bnF c1) (by kernel_rfl) ?_
    exact R.go 2 (R.retE (.bool false) (by kernel_rfl) (by kernel_rfl) (by first | (apply congrArg AV.bool; first | (rw [outU_1 hb0.1 hb0.2.1 (by assumption)]; rfl) | (rw [outU_2 hb0.1 hb0.2.1 (by assumption), Bool.not_not])) | (exfalso; omega)))
  · refine R.want (!(outR n m)) true (by kernel_rfl) (bnT c1) ?_
    skip
    refine R.go 1 (R.want (!(outR n m)) true (by kernel_rfl) (bnT c1) ?_)
    refine R.go 1 (R.want (!(outR n m)) true (by kernel_rfl) (bnT c1) ?_)
    refine R.go 1 (R.want (!(outR n m)) true (by kernel_rfl) (bnT c1) ?_)
    refine R.call true (imageI_c n xs m hR (by first | assumption | exact outR_in hb0.1 hb0.2.1 (by assumption))) (by kernel_rfl) rfl (by kernel_rfl) ?_
    refine R.want (!(outR n m)) true (by kernel_rfl) (bnT c1) ?_
    refine R.go 1 (R.want (!(outR n m)) true (by kernel_rfl) (bnT c1) ?_)
    refine R.go 1 (R.pick (!(outR n m)) true (by kernel_rfl) (bnT c1) (by kernel_rfl) ?_)
    exact R.go 2 (R.retE (.bool (decide ((img xs m xs.length) = m))) (by kernel_rfl) (by kernel_rfl) (by first | (apply congrArg AV.bool; first | (rw [outU_1 hb0.1 hb0.2.1 (by assumption)]; rfl) | (rw [outU_2 hb0.1 hb0.2.1 (by assumption), Bool.not_not])) | (exfalso; omega)))

theorem isVal1_c (m : Int) (n : Int) (xs : List Int) (hR : okFr n xs = true) : CallA Tryz.prog 62 [AI m, .rptr [AI n, LI xs]] (.bool (outU n xs m)) := by
  refine CallA.of Tryz.func62 rfl (by kernel_rfl) ?_
  refine R.go 8 (R.call true (isUpsetG_c n xs m hR) (by kernel_rfl) rfl (by kernel_rfl) ?_)
  exact R.go 3 (R.retE (.bool (!(!(outU n xs m)))) (by kernel_rfl) (by kernel_rfl) (by first | (apply congrArg AV.bool; simp) | (exfalso; omega)))

theorem indexVal_c (a : List Int) (n : Int) (xs : List Int) (hR : okFr n xs = true) (hl : a.length ≤ 1000000000) : CallA Tryz.prog 93 [LI a, .fn 62 [.rptr [AI n, LI xs]]] (AI (fidxI (outU n xs) a 0)) := by
  refine CallA.of Tryz.func93 rfl (by kernel_rfl) ?_
  refine R.go 12 (R.loop (fun (i : Nat) => (⟨(frm 19 [(0, LI a), (1, .fn 62 [.rptr [AI n, LI xs]]), (7, AI a.length), (8, AI (i : Int))]), []⟩ : St)) (fun (i : Nat) => (i ≤ a.length) ∧ (fidxI (outU n xs) a 0 = fidxI (outU n xs) (a.drop i) i)) (fun (i : Nat) => a.length - i) 0 [0, 1, 7, 8] none (by kernel_rfl) (by kernel_rfl) (by kernel_rfl) ⟨(by omega), (by rfl)⟩ ?_)
  rintro i ⟨h3_1, h3_2⟩ R1 N2
  refine R.go 5 (R.cond ((i : Int) < (a.length : Int)) (by kernel_rfl) (fun c4 => ?_) (fun c4 => ?_))
  · refine R.go 13 (R.idx eI a 0 i (i : Int) (by kernel_rfl) rfl eI_len (by omega) (by kernel_rfl) ?_)
    refine R.go 1 (R.call true (isVal1_c (a.getD i 0) n xs hR) (by kernel_rfl) rfl (by kernel_rfl) ?_)
    refine R.go 1 (R.condB (outU n xs (a.getD i 0)) (by kernel_rfl) (fun c5 => ?_) (fun c5 => ?_))
    · exact R.go 5 (R.retE (AI (i : Int)) (by kernel_rfl) (by kernel_rfl) (by first | (apply congrArg AI; rw [‹fidxI (outU n xs) a 0 = _›]; first | exact (fidxI_end (by omega)).symm | exact (fidxI_hit (by omega) (by assumption)).symm) | (exfalso; omega)))
    · refine R.go 3 (R.ar ((i : Int) + 1) (by kernel_rfl) (by omega) (by omega) (by kernel_rfl) ?_)
      exact R.go 2 (R.stop R1 (by kernel_rfl) (N2 (i + 1) [0, 1, 7, 8] none _ (by kernel_rfl) (by kernel_rfl) ⟨(by omega), (by rw [‹fidxI (outU n xs) a 0 = _›]; exact fidxI_miss (by omega) (by assumption))⟩ (by show (a.length - (i + 1)) < (a.length - i); omega)))
  · exact R.go 5 (R.retE (AI (-1)) (by kernel_rfl) (by kernel_rfl) (by first | (apply congrArg AI; rw [‹fidxI (outU n xs) a 0 = _›]; first | exact (fidxI_end (by omega)).symm | exact (fidxI_hit (by omega) (by assumption)).symm) | (exfalso; omega)))

theorem containsVal_c (a : List Int) (n : Int) (xs : List Int) (hR : okFr n xs = true) (hl : a.length ≤ 1000000000) : CallA Tryz.prog 61 [LI a, .fn 62 [.rptr [AI n, LI xs]]] (.bool (a.any (outU n xs))) := by
  refine CallA.of Tryz.func61 rfl (by kernel_rfl) ?_
  refine R.go 8 (R.call true (indexVal_c a n xs hR hl) (by kernel_rfl) rfl (by kernel_rfl) ?_)
  exact R.go 3 (R.retE (.bool (decide ((fidxI (outU n xs) a 0) ≥ 0))) (by kernel_rfl) (by kernel_rfl) (by first | (apply congrArg AV.bool; rw [Bool.eq_iff_iff, decide_eq_true_iff]; exact fidxI_any (Int.le_refl 0)) | (exfalso; omega)))

theorem isValuation_c (n : Int) (xs : List Int) (vs : List Int) (lx : xs.length ≤ 1048576) (lv : vs.length ≤ 1048576) : CallA Tryz.prog 31 [.agg [AI n, LI xs], LI vs] (.bool (vaB n xs vs)) := by
  refine CallA.of Tryz.func31 rfl (by kernel_rfl) ?_
  refine R.go 8 (R.call true (isPoset_c n xs (by first | omega | assumption | exact okPo_fr (by assumption))) (by kernel_rfl) rfl (by kernel_rfl) ?_)
  refine R.go 1 ?_
  refine (Bool.eq_false_or_eq_true (okPo n xs)).elim (fun c1 => ?_) (fun c1 => ?_)
  · refine R.want (okPo n xs) true (by kernel_rfl) c1 ?_
    refine R.go 1 (R.want (okPo n xs) true (by kernel_rfl) c1 ?_)
    refine R.go 1 (R.want (okPo n xs) true (by kernel_rfl) c1 ?_)
    refine R.go 1 (R.pick (okPo n xs) true (by kernel_rfl) c1 (by kernel_rfl) ?_)
    refine R.go 1 ?_
    by_cases c2 : (vs.length : Int) = 6
    · refine R.want (decide ((vs.length : Int) = 6)) true (by kernel_rfl) (dT c2) ?_
      refine R.go 1 (R.want (decide ((vs.length : Int) = 6)) true (by kernel_rfl) (dT c2) ?_)
      refine R.go 1 (R.want (decide ((vs.length : Int) = 6)) true (by kernel_rfl) (dT c2) ?_)
      refine R.call false (containsVal_c vs n xs (by first | assumption | exact okPo_fr (by assumption)) (by first | omega | assumption | exact okPo_fr (by assumption))) (by kernel_rfl) rfl (by kernel_rfl) ?_
      refine R.want (decide ((vs.length : Int) = 6)) true (by kernel_rfl) (dT c2) ?_
      refine R.go 1 (R.pick (decide ((vs.length : Int) = 6)) true (by kernel_rfl) (dT c2) (by kernel_rfl) ?_)
      exact R.go 2 (R.retE (.bool (!(vs.any (outU n xs)))) (by kernel_rfl) (by kernel_rfl) (by first | (apply congrArg AV.bool; first | exact va_0 (by assumption) | exact va_1 (by assumption) (vs_no1 (by assumption)) | exact va_1 (by assumption) (vs_yes (by assumption))) | (exfalso; omega)))
    · refine R.skp (decide ((vs.length : Int) = 6)) true (by kernel_rfl) (dF c2) (by kernel_rfl) ?_
      refine R.skp (decide ((vs.length : Int) = 6)) true (by kernel_rfl) (dF c2) (by kernel_rfl) ?_
      refine R.skp (decide ((vs.length : Int) = 6)) true (by kernel_rfl) (dF c2) (by kernel_rfl) ?_
      refine R.skp (decide ((vs.length : Int) = 6)) true (by kernel_rfl) (dF c2) (by kernel_rfl) ?_
      refine R.pick (decide ((vs.length : Int) = 6)) false (by kernel_rfl) (dF c2) (by kernel_rfl) ?_
      exact R.go 2 (R.retE (.bool false) (by kernel_rfl) (by kernel_rfl) (by first | (apply congrArg AV.bool; first | exact va_0 (by assumption) | exact va_1 (by assumption) (vs_no1 (by assumption)) | exact va_1 (by assumption) (vs_yes (by assumption))) | (exfalso; omega)))
  · refine R.skp (okPo n xs) true (by kernel_rfl) c1 (by kernel_rfl) ?_
    refine R.skp (okPo n xs) true (by kernel_rfl) c1 (by kernel_rfl) ?_
    refine R.skp (okPo n xs) true (by kernel_rfl) c1 (by kernel_rfl) ?_
    refine R.pick (okPo n xs) false (by kernel_rfl) c1 (by kernel_rfl) ?_
    exact R.go 8 (R.retE (.bool false) (by kernel_rfl) (by kernel_rfl) (by first | (apply congrArg AV.bool; first | exact va_0 (by assumption) | exact va_1 (by assumption) (vs_no1 (by assumption)) | exact va_1 (by assumption) (vs_yes (by assumption))) | (exfalso; omega)))

theorem nil_lst {P : Program} {f : FuncId} {x a res : AV} (h : CallA P f [x, LLN [], a] res) : CallA P f [x, .nil, a] res := by
  refine ⟨h.1, fun Z0 w vs hv => h.2 Z0 w vs ?_⟩
  simp only [RelL] at hv ⊢
  obtain ⟨v1, vs1, rfl, r1, v2, vs2, rfl, r2, r3⟩ := hv
  exact ⟨v1, _, rfl, r1, v2, _, rfl, Rel.nilLst 1 r2, r3⟩

theorem shl0 : ∀ n : Fin 9, shl64 0 (n.val : Int) = 0 := by decide +kernel
theorem bor_0 {n x : Int} (h0 : 0 ≤ n) (h8 : n ≤ 8) (hx : InM n.toNat x) : bor x (shl64 0 n) = x := by
  obtain ⟨k, rfl⟩ := Int.eq_ofNat_of_zero_le h0
  rw [shl0 ⟨k, by omega⟩]
  refine tb_ext (inM_bor (n := k) (by omega) hx (inM_zero _)).1 hx.1 fun w => ?_
  rw [tb_bor (n := k) (by omega) hx (inM_zero _), tb_zero, Bool.or_false]
/-- Two posets side by side. -/
def smL (n : Int) (xs ys : List Int) : List Int := xs ++ ys.map fun y => shl64 y n
def smC (n m : Int) : Int := if n + m ≤ 8 then 0 else 3
def smN (n m : Int) : Int := if n + m ≤ 8 then n + m else 0
def smR (n : Int) (xs : List Int) (m : Int) (ys : List Int) : List Int := if n + m ≤ 8 then smL n xs ys else []
def smY (n : Int) (xs ys : List Int) (j : Nat) : List Int := xs ++ (ys.take j).map fun y => shl64 y n
theorem smX_step {n : Int} {xs : List Int} {i : Nat} (hR : okFr n xs = true) (h : i < xs.length) : xs.take i ++ [bor (xs.getD i 0) (shl64 0 n)] = xs.take (i + 1) := by
  obtain ⟨h0, h8, hl, hr⟩ := okFr_rel hR
  rw [bor_0 h0 h8 (hr.2 i (by omega)), List.take_succ_eq_append_getElem h, List.getD_eq_getElem?_getD, List.getElem?_eq_getElem h]
  rfl
theorem smY_zero {n : Int} {xs ys : List Int} {i : Nat} (h : i = xs.length) : xs.take i = smY n xs ys 0 := by rw [smY, h, List.take_length]; simp
theorem smY_len {n : Int} {xs ys : List Int} {j : Nat} (h : j ≤ ys.length) : (smY n xs ys j).length = xs.length + j := by simp [smY]; omega
theorem smY_step {n : Int} {xs ys : List Int} {j : Nat} (h : j < ys.length) : smY n xs ys j ++ [shl64 (ys.getD j 0) n] = smY n xs ys (j + 1) := by
  rw [smY, smY, List.append_assoc, List.take_succ_eq_append_getElem h, List.map_append, List.getD_eq_getElem?_getD, List.getElem?_eq_getElem h]
  rfl
theorem smY_end {n : Int} {xs ys : List Int} {j : Nat} (h : j = ys.length) : smY n xs ys j = smL n xs ys := by rw [smY, h, List.take_length]; rfl
theorem sm_3 {s : Nat} {n m : Int} {xs ys : List Int} (h : n + m > 8) : AV.tup [.agg [AI 0, ownA eI s 1 []], AI 3] = AV.tup [.agg [AI (smN n m), ownA eI s 1 (smR n xs m ys)], AI (smC n m)] := by
  rw [smN, smR, smC, if_neg (by omega), if_neg (by omega), if_neg (by omega)]
theorem sm_0 {s : Nat} {n m k : Int} {xs ys L : List Int} (h : ¬ n + m > 8) (hk : k = n + m) (hL : L = smL n xs ys) : AV.tup [.agg [AI k, ownA eI s 1 L], AI 0] = AV.tup [.agg [AI (smN n m), ownA eI s 1 (smR n xs m ys)], AI (smC n m)] := by
  rw [smN, smR, smC, if_pos (by omega), if_pos (by omega), if_pos (by omega), hk, hL]
theorem smR_len {n m : Int} {xs ys : List Int} : (smR n xs m ys).length ≤ xs.length + ys.length := by
  unfold smR
  split
  · simp [smL]
  · simp
section
variable {n : Int} {xs : List Int} {a : List (Int × Int)}
theorem la_A (h : pcode n xs [a] = 0) : (pvV n xs a == decide (fuC n xs a = 4)) = true := by rw [beq_iff_eq]; exact fu_pv h
theorem la_B (h : pcode n xs [a] = 0) : (pvV n xs a == decide (ueV n xs a = 0)) = true := by
  rw [beq_iff_eq, Bool.eq_iff_iff, decide_eq_true_iff]
  exact (fu_ue h).symm
theorem la_C (h : pcode n xs [a] = 0) : (foV n xs [] a == pvV n xs a) = true := by rw [beq_iff_eq]; exact fo_pv h
theorem la_D (h : fuC n xs a = 0) : vaB n xs (fuR n xs a) = true ∧ (fuR n xs a).length = 6 ∧ isF a = true ∧ a.any modN = false ∧ inR (fuX n xs a) 0 (n - 1) = true ∧ (0 ≤ fuX n xs a ∧ fuX n xs a < 62) ∧ ¬ band (shr64 (fcd n xs (fuR n xs a) a) (fuX n xs a)) 1 = 1 ∧ band (shr64 (ueV n xs a) (fuX n xs a)) 1 = 1 := by
  obtain ⟨hP, hF, hp, h0, h8, hm, hl, x0, x1, i1, b1, i2, b2⟩ := fu_some2 h
  refine ⟨?_, hl, hF, hp, (inR_iff _ _ _).2 (by omega), by omega, ?_, ?_⟩
  · rw [vaB, hP, Bool.true_and, vs_yes (by omega), Bool.not_eq_true', List.any_eq_false]
    intro v hv
    obtain ⟨j, hj, rfl⟩ := List.getElem_of_mem hv
    have h1 := hm j (by omega)
    rw [List.getD_eq_getElem?_getD, List.getElem?_eq_getElem hj, Option.getD_some] at h1
    have h3 := (up_iff hP).1 h1
    have h4 : (fuR n xs a)[j] ∈ upL n xs := by have := h1; rw [upR, if_pos hP] at this; exact this
    have h5 := (upTo_mem (xs := xs) (m := (fuR n xs a)[j]) _).1 h4
    have h6 := (full_rng (n := n.toNat) (by omega)).1 h3.1
    rw [nn_eq h0] at h6
    rw [outU, h6, decide_eq_true h5.2.2]
    decide
  · intro e
    have := (has_tb (n := n.toNat) (i := (fuX n xs a).toNat) (by omega) i1 (by omega)).1 (by rw [nn_eq x0]; exact e)
    rw [b1] at this; cases this
  · have := (has_tb (n := n.toNat) (i := (fuX n xs a).toNat) (by omega) i2 (by omega)).2 b2
    rw [nn_eq x0] at this
    exact this
theorem la_E (hv : pvV n xs a = true) (hs : smC n 1 = 0) (h1 : pcode 1 [1] [a] = 0) (h2 : pcode (smN n 1) (smR n xs 1 [1]) [a] = 0) : (pvV (smN n 1) (smR n xs 1 [1]) a == pvV 1 [1] a) = true := by
  have h8 : n + 1 ≤ 8 := by
    unfold smC at hs
    split at hs
    · assumption
    · omega
  have e1 : smN n 1 = n + 1 := if_pos h8
  have e2 : smR n xs 1 [1] = xs ++ [shl64 1 n] := if_pos h8
  rw [e1, e2] at h2 ⊢
  rw [beq_iff_eq]
  exact pv_sum hv h8 h2 h1
theorem la_v (h : pcode n xs [a] = 0) (h4 : fuC n xs a = 4) : pvV n xs a = true := by rw [fu_pv h, decide_eq_true h4]
theorem la_3 {m : Int} (h : ¬ smC n m = 0) : smC n m = 3 := by
  unfold smC at h ⊢
  split
  · rename_i h1; rw [if_pos h1] at h; exact absurd rfl h
  · rfl
end
theorem foNil_c (n : Int) (xs : List Int) (a : List (Int × Int)) (lx : xs.length ≤ 1048576) (hl : a.length ≤ 1048576) : CallA Tryz.prog 11 [.agg [AI n, LI xs], .nil, LN a] (.tup [.bool (foV n xs [] a), AI (pcode n xs [a])]) := nil_lst (FO_impl n xs [] a lx ⟨by simp, fun j hj => by simp at hj⟩ hl)

theorem bit9_c (k : Int) (i : Int) (h0 : 0 ≤ i) (h1 : i < 62) : CallA Tryz.prog 13 [AI k, AI i] (.bool (decide (band (shr64 k i) 1 = 1))) := by
  refine CallA.of Tryz.func13 rfl (by kernel_rfl) ?_
  refine R.go 9 ?_
  by_cases c1 : i ≥ 0
  · refine R.want (decide (i ≥ 0)) true (by kernel_rfl) (dT c1) ?_
    refine R.go 1 (R.want (decide (i ≥ 0)) true (by kernel_rfl) (dT c1) ?_)
    refine R.go 1 (R.pick (decide (i ≥ 0)) true (by kernel_rfl) (dT c1) (by kernel_rfl) ?_)
    refine R.go 1 (R.want (decide (i < 62)) true (by kernel_rfl) (dT h1) ?_)
    refine R.go 1 (R.want (decide (i < 62)) true (by kernel_rfl) (dT h1) ?_)
    refine R.go 1 (R.want (decide (i < 62)) true (by kernel_rfl) (dT h1) ?_)
    refine R.cv .u64 i (by kernel_rfl) (u64_id (by omega) (by omega)) (by kernel_rfl) ?_
    refine R.want (decide (i < 62)) true (by kernel_rfl) (dT h1) ?_
    refine R.shr k i (by kernel_rfl) (by omega) (by kernel_rfl) ?_
    refine R.want (decide (i < 62)) true (by kernel_rfl) (dT h1) ?_
    refine R.go 1 (R.want (decide (i < 62)) true (by kernel_rfl) (dT h1) ?_)
    refine R.go 1 (R.pick (decide (i < 62)) true (by kernel_rfl) (dT h1) (by kernel_rfl) ?_)
    exact R.go 2 (R.retE (.bool (decide ((band (shr64 k i) 1) = 1))) (by kernel_rfl) (by kernel_rfl) (by first | (rfl) | (exfalso; omega)))
  · refine R.skp (decide (i ≥ 0)) true (by kernel_rfl) (dF c1) (by kernel_rfl) ?_
    refine R.skp (decide (i ≥ 0)) true (by kernel_rfl) (dF c1) (by kernel_rfl) ?_
    refine R.pick (decide (i ≥ 0)) false (by kernel_rfl) (dF c1) (by kernel_rfl) ?_
    exact R.go 10 (R.retE (.bool false) (by kernel_rfl) (by kernel_rfl) (by first | (rfl) | (exfalso; omega)))

theorem likeIn_c (a : List Int) (hl : a.length ≤ 1000000000) : CallA Tryz.prog 8 [LI a, LI a] (.bool true) := by
  refine CallA.of Tryz.func8 rfl (by kernel_rfl) ?_
  refine R.go 13 (R.els (!decide ((a.length : Int) = (a.length : Int))) (by kernel_rfl) (nF rfl) ?_)
  refine R.go 7 (R.loop (fun (i : Nat) => (⟨(frm 26 [(0, LI a), (1, LI a), (5, AI (i : Int))]), []⟩ : St)) (fun (i : Nat) => i ≤ a.length) (fun (i : Nat) => a.length - i) 0 [0, 1, 5] none (by kernel_rfl) (by kernel_rfl) (by kernel_rfl) (by omega) ?_)
  rintro i h3_1 R1 N2
  refine R.go 8 (R.cond ((i : Int) < (a.length : Int)) (by kernel_rfl) (fun c4 => ?_) (fun c4 => ?_))
  · refine R.go 7 (R.idx eI a 0 i (i : Int) (by kernel_rfl) rfl eI_len (by omega) (by kernel_rfl) ?_)
    refine R.go 3 (R.idx eI a 0 i (i : Int) (by kernel_rfl) rfl eI_len (by omega) (by kernel_rfl) ?_)
    refine R.go 3 (R.els (!decide ((a.getD i 0) = (a.getD i 0))) (by kernel_rfl) (nF rfl) ?_)
    refine R.go 4 (R.ar ((i : Int) + 1) (by kernel_rfl) (by omega) (by omega) (by kernel_rfl) ?_)
    exact R.go 2 (R.stop R1 (by kernel_rfl) (N2 (i + 1) [0, 1, 5] none _ (by kernel_rfl) (by kernel_rfl) (by omega) (by show (a.length - (i + 1)) < (a.length - i); omega)))
  · exact R.go 5 (R.retE (.bool true) (by kernel_rfl) (by kernel_rfl) (by rfl))

theorem big_c (c : List Int) : CallA Tryz.prog 4 [LB c] (.bool (decide ((c.length : Int) > 4096))) := by
  refine CallA.of Tryz.func4 rfl (by kernel_rfl) ?_
  exact R.go 11 (R.retE (.bool (decide ((c.length : Int) > 4096))) (by kernel_rfl) (by kernel_rfl) (by rfl))

theorem hasElP_c (n : Int) (x : Int) (xs : List Int) (h0 : 0 ≤ n) (h1 : n ≤ 62) : CallA Tryz.prog 33 [.agg [AI n, LI xs], AI x] (.bool (inR x 0 (n - 1))) := by
  refine CallA.of Tryz.func33 rfl (by kernel_rfl) ?_
  refine R.go 10 (R.ar (n - 1) (by kernel_rfl) (by omega) (by omega) (by kernel_rfl) ?_)
  refine R.call true (inRange_c x 0 (n - 1)) (by kernel_rfl) rfl (by kernel_rfl) ?_
  exact R.go 2 (R.retE (.bool (inR x 0 (n - 1))) (by kernel_rfl) (by kernel_rfl) (by rfl))

theorem forcedAt_c (n : Int) (xs : List Int) (vs : List Int) (x : Int) (a : List (Int × Int)) (hva : vaB n xs vs = true) (hF : isF a = true) (hpl : a.any modN = false) (hx : inR x 0 (n - 1) = true) (h6 : vs.length = 6) (hx2 : 0 ≤ x ∧ x < 62) : CallA Tryz.prog 12 [.agg [AI n, LI xs], LI vs, AI x, LN a] (.tup [.bool (decide (band (shr64 (fcd n xs vs a) x) 1 = 1)), AI 0]) := by
  have hpo := vaB_po hva
  have hFr := okFr_rel (okPo_fr hpo.1)
  have hb0 : 0 ≤ n ∧ n ≤ 8 ∧ (xs.length : Int) = n := ⟨hFr.1, hFr.2.1, hFr.2.2.1⟩
  have hA := isF_okm hF
  have hal : a.length ≤ 40 := hA.2
  have hok : OKM vs.length a := by rw [h6]; exact hA.1
  refine CallA.of Tryz.func12 rfl (by kernel_rfl) ?_
  refine R.go 12 (R.call true (isValuation_c n xs vs (by first | omega | (simp <;> omega)) (by first | omega | (simp <;> omega))) (by kernel_rfl) rfl (by kernel_rfl) ?_)
  refine R.go 2 (R.want (!(vaB n xs vs)) false (by kernel_rfl) (bnF hva) ?_)
  refine R.go 1 (R.want (!(vaB n xs vs)) false (by kernel_rfl) (bnF hva) ?_)
  refine R.call true (isFormula_c a (by first | omega | (simp <;> omega))) (by kernel_rfl) rfl (by kernel_rfl) ?_
  refine R.want (!(vaB n xs vs)) false (by kernel_rfl) (bnF hva) ?_
  refine R.go 1 (R.pick (!(vaB n xs vs)) false (by kernel_rfl) (bnF hva) (by kernel_rfl) ?_)
  refine R.go 2 (R.els (!(isF a)) (by kernel_rfl) (bnF hF) ?_)
  refine R.go 4 (R.call true (hasElP_c n x xs (by omega) (by omega)) (by kernel_rfl) rfl (by kernel_rfl) ?_)
  refine R.go 3 (R.els (!(inR x 0 (n - 1))) (by kernel_rfl) (bnF hx) ?_)
  refine R.go 3 (R.call true (isPlain_c a (by first | omega | (simp <;> omega))) (by kernel_rfl) rfl (by kernel_rfl) ?_)
  refine R.go 3 (R.condM (!(a.any modN)) (by kernel_rfl) (fun c1 => ?_) (fun c1 => ?_))
  · exact R.go 5 (R.retE (.tup [.bool false, AI 5]) (by kernel_rfl) (by kernel_rfl) (by first | (first | rfl | exact absurd (hva.symm.trans (by assumption : _ = false)) (by decide) | exact absurd (hF.symm.trans (by assumption : _ = false)) (by decide) | exact absurd (hx.symm.trans (by assumption : _ = false)) (by decide) | exact absurd (hpl.symm.trans (by assumption : _ = true)) (by decide) | exact absurd hpl (by assumption) | (exfalso; have hq := (by assumption : (!(a.any modN)) = false); rw [hpl] at hq; exact absurd hq (by decide))) | (exfalso; omega)))
  · refine R.go 7 (R.call true (forced2_c n xs vs a hok hpl (by omega) (by omega) (by first | omega | (simp <;> omega)) (by first | omega | (simp <;> omega))) (by kernel_rfl) rfl (by kernel_rfl) ?_)
    refine R.go 1 (R.call true (has_c (fcd n xs vs a) x (by omega)) (by kernel_rfl) rfl (by kernel_rfl) ?_)
    exact R.go 3 (R.retE (.tup [.bool (decide (band (shr64 (fcd n xs vs a) x) 1 = 1)), AI 0]) (by kernel_rfl) (by kernel_rfl) (by rfl))

theorem summed0_c (n : Int) (xs : List Int) (m : Int) (ys : List Int) (hP : okPo n xs = true) (hQ : okPo m ys = true) : CallA Tryz.prog 36 [.agg [AI n, LI xs], .agg [AI m, LI ys], AI 0] (.tup [.agg [AI (smN n m), ownA eI 2 1 (smR n xs m ys)], AI (smC n m)]) := by
  have hRp : okFr n xs = true := okPo_fr hP
  have hp1 := okFr_rel hRp
  have hq1 := okFr_rel (okPo_fr hQ)
  have hb : 0 ≤ n ∧ n ≤ 8 ∧ (xs.length : Int) = n ∧ 0 ≤ m ∧ m ≤ 8 ∧ (ys.length : Int) = m := ⟨hp1.1, hp1.2.1, hp1.2.2.1, hq1.1, hq1.2.1, hq1.2.2.1⟩
  refine CallA.of Tryz.func36 rfl (by kernel_rfl) ?_
  refine R.go 12 (R.call true (isPoset_c n xs (by first | omega | (simp <;> omega))) (by kernel_rfl) rfl (by kernel_rfl) ?_)
  refine R.go 2 (R.want (!(okPo n xs)) false (by kernel_rfl) (bnF hP) ?_)
  refine R.go 1 (R.want (!(okPo n xs)) false (by kernel_rfl) (bnF hP) ?_)
  refine R.call true (isPoset_c m ys (by first | omega | (simp <;> omega))) (by kernel_rfl) rfl (by kernel_rfl) ?_
  refine R.want (!(okPo n xs)) false (by kernel_rfl) (bnF hP) ?_
  refine R.go 1 (R.pick (!(okPo n xs)) false (by kernel_rfl) (bnF hP) (by kernel_rfl) ?_)
  refine R.go 2 (R.els (!(okPo m ys)) (by kernel_rfl) (bnF hQ) ?_)
  refine R.go 6 (R.ar (n + m) (by kernel_rfl) (by omega) (by omega) (by kernel_rfl) ?_)
  refine R.go 3 (R.cond ((n + m) > 8) (by kernel_rfl) (fun c1 => ?_) (fun c1 => ?_))
  · refine R.go 6 (R.nilB 2 1 2 1 (by kernel_rfl) ?_)
    exact R.retE (.tup [.agg [AI 0, ownA eI 2 1 []], AI 3]) (by kernel_rfl) (by kernel_rfl) (by first | (first | exact sm_3 (by assumption) | exact sm_0 (by assumption) (by rw [hol2]; omega) (smY_end (by omega)) | exact absurd (hP.symm.trans (by assumption : _ = false)) (by decide) | exact absurd (hQ.symm.trans (by assumption : _ = false)) (by decide)) | (exfalso; omega))
  · refine R.go 15 (R.nil 8 2 1 (by kernel_rfl) ?_)
    refine R.loop ((fun | (i, out) => (⟨(frm 65 [(2, AI 0), (3, .ptr 0 0), (4, .ptr 1 0), (6, .ptr 2 0), (8, .ref 3), (32, LI xs), (33, AI xs.length), (34, AI (i : Int))]), [.box 26 [AI n, LI xs], .box 26 [AI m, LI ys], .box 26 [AI 0, .nil], rowA eI 2 1 out]⟩ : St) : Nat × (List Int) → St)) (fun | (i, out) => (i ≤ xs.length) ∧ (out = xs.take i)) (fun | (i, out) => xs.length - i) (0, []) [2, 3, 4, 6, 8, 32, 33, 34] none (by kernel_rfl) (by kernel_rfl) (by kernel_rfl) ⟨(by omega), (by rfl)⟩ ?_
    rintro ⟨i, out⟩ ⟨h5_1, rfl⟩ R2 N3
    have hol : (xs.take i).length = i := by rw [List.length_take]; omega
    refine R.go 5 (R.cond ((i : Int) < (xs.length : Int)) (by kernel_rfl) (fun c6 => ?_) (fun c6 => ?_))
    · refine R.go 5 (R.idx eI xs 0 i (i : Int) (by kernel_rfl) rfl eI_len (by omega) (by kernel_rfl) ?_)
      refine R.go 9 (R.shl 0 n (by kernel_rfl) (by omega) (by kernel_rfl) ?_)
      refine R.go 2 (R.app eI (xs.take i) [bor (xs.getD i 0) (shl64 0 n)] 3 2 1 8 (by kernel_rfl) eI_one (by decide) (by first | omega | (simp <;> omega)) (by kernel_rfl) ?_)
      refine R.go 4 (R.ar ((i : Int) + 1) (by kernel_rfl) (by omega) (by omega) (by kernel_rfl) ?_)
      exact R.go 2 (R.stop R2 (by kernel_rfl) (N3 (i + 1, (xs.take i) ++ [bor (xs.getD i 0) (shl64 0 n)]) [2, 3, 4, 6, 8, 32, 33, 34] (some [0, 1, 2, 3]) _ (by kernel_rfl) (by kernel_rfl) ⟨(by omega), (by exact smX_step hRp (by omega))⟩ (by show (xs.length - (i + 1)) < (xs.length - i); omega)))
    · refine R.go 10 (R.loop ((fun | (j, o2) => (⟨(frm 65 [(3, .ptr 0 0), (6, .ptr 1 0), (8, .ref 2), (49, LI ys), (50, AI ys.length), (51, AI (j : Int))]), [.box 26 [AI n, LI xs], .box 26 [AI 0, .nil], rowA eI 2 1 o2]⟩ : St) : Nat × (List Int) → St)) (fun | (j, o2) => (j ≤ ys.length) ∧ (o2 = smY n xs ys j)) (fun | (j, o2) => ys.length - j) (0, (xs.take i)) [3, 6, 8, 49, 50, 51] (some [0, 2, 3]) (by kernel_rfl) (by kernel_rfl) (by kernel_rfl) ⟨(by omega), (by exact smY_zero (by omega))⟩ ?_)
      rintro ⟨j, o2⟩ ⟨h10_1, rfl⟩ R7 N8
      have hol2 := smY_len (n := n) (xs := xs) (ys := ys) (j := j) (by assumption)
      refine R.go 5 (R.cond ((j : Int) < (ys.length : Int)) (by kernel_rfl) (fun c11 => ?_) (fun c11 => ?_))
      · refine R.go 5 (R.idx eI ys 0 j (j : Int) (by kernel_rfl) rfl eI_len (by omega) (by kernel_rfl) ?_)
        refine R.go 8 (R.shl (ys.getD j 0) n (by kernel_rfl) (by omega) (by kernel_rfl) ?_)
        refine R.go 1 (R.app eI (smY n xs ys j) [shl64 (ys.getD j 0) n] 2 2 1 8 (by kernel_rfl) eI_one (by decide) (by first | omega | (simp <;> omega)) (by kernel_rfl) ?_)
        refine R.go 4 (R.ar ((j : Int) + 1) (by kernel_rfl) (by omega) (by omega) (by kernel_rfl) ?_)
        exact R.go 2 (R.stop R7 (by kernel_rfl) (N8 (j + 1, (smY n xs ys j) ++ [shl64 (ys.getD j 0) n]) [3, 6, 8, 49, 50, 51] (some [0, 1, 2]) _ (by kernel_rfl) (by kernel_rfl) ⟨(by omega), (by exact smY_step (by omega))⟩ (by show (ys.length - (j + 1)) < (ys.length - j); omega)))
      · refine R.go 4 (R.enter (avs := [.ref 2]) Tryz.func71 rfl (by kernel_rfl) (by kernel_rfl) (by kernel_rfl) ?_)
        intro us12
        refine R.go 7 (R.call false (size_c (smY n xs ys j)) (by kernel_rfl) rfl (by kernel_rfl) ?_)
        refine R.go 4 (R.back (.agg [AI ((smY n xs ys j).length), .ref 2]) (frm 65 [(3, .ptr 0 0), (6, .ptr 1 0), (8, .ref 2), (49, LI ys), (50, AI ys.length), (51, AI (j : Int)), (52, .bool (decide ((j : Int) < (ys.length : Int)))), (63, .ref 2)]) (by kernel_rfl) (by kernel_rfl) (by kernel_rfl) ?_)
        exact R.go 3 (R.retE (.tup [.agg [AI ((smY n xs ys j).length), ownA eI 2 1 (smY n xs ys j)], AI 0]) (by kernel_rfl) (by kernel_rfl) (by first | (first | exact sm_3 (by assumption) | exact sm_0 (by assumption) (by rw [hol2]; omega) (smY_end (by omega)) | exact absurd (hP.symm.trans (by assumption : _ = false)) (by decide) | exact absurd (hQ.symm.trans (by assumption : _ = false)) (by decide)) | (exfalso; omega)))

theorem sumP_c (n : Int) (xs : List Int) (m : Int) (ys : List Int) (hP : okPo n xs = true) (hQ : okPo m ys = true) : CallA Tryz.prog 14 [.agg [AI n, LI xs], .agg [AI m, LI ys]] (.tup [.agg [AI (smN n m), ownA eI 2 1 (smR n xs m ys)], AI (smC n m)]) := by
  refine CallA.of Tryz.func14 rfl (by kernel_rfl) ?_
  refine R.go 11 (R.call true (summed0_c n xs m ys hP hQ) (by kernel_rfl) rfl (by kernel_rfl) ?_)
  exact R.go 5 (R.retE (.tup [.agg [AI (smN n m), ownA eI 2 1 (smR n xs m ys)], AI (smC n m)]) (by kernel_rfl) (by kernel_rfl) (by rfl))

set_option maxHeartbeats 4000000 in
theorem lawPv_c (c : List Int) (hcb : ∀ q : Nat, q < c.length → 0 ≤ c.getD q 0 ∧ c.getD q 0 ≤ 255) : CallA Tryz.prog 3 [LB c] (.bool true) := by
  refine CallA.of Tryz.func3 rfl (by kernel_rfl) ?_
  refine R.go 8 (R.call true (big_c c) (by kernel_rfl) rfl (by kernel_rfl) ?_)
  refine R.go 1 (R.cond ((c.length : Int) > 4096) (by kernel_rfl) (fun c1 => ?_) (fun c1 => ?_))
  · exact R.go 4 (R.retE (.bool true) (by kernel_rfl) (by kernel_rfl) (by rfl))
  · have hc : BY c := ⟨by omega, hcb⟩
    refine R.go 4 (R.callX (drPair_c c hc) (by kernel_rfl) (by kernel_rfl) (by kernel_rfl) ?_)
    rintro _ _ ⟨n_2, xs_3, a_4, f5, f6, rfl, rfl⟩
    have hfl := fuR_len n_2 xs_3 a_4
    refine R.go 11 (R.call true (FU_impl n_2 xs_3 a_4 (by first | omega | (simp <;> omega)) (by first | omega | (simp <;> omega))).frz (by kernel_rfl) rfl (by kernel_rfl) ?_)
    refine R.go 12 (R.call true (FU_spec n_2 xs_3 a_4 (by first | omega | (simp <;> omega)) (by first | omega | (simp <;> omega))).frz (by kernel_rfl) rfl (by kernel_rfl) ?_)
    refine R.go 15 (R.want (!decide ((fuC n_2 xs_3 a_4) = (fuC n_2 xs_3 a_4))) false (by kernel_rfl) (nF rfl) ?_)
    refine R.go 1 (R.want (!decide ((fuC n_2 xs_3 a_4) = (fuC n_2 xs_3 a_4))) false (by kernel_rfl) (nF rfl) ?_)
    refine R.go 1 (R.want (!decide ((fuC n_2 xs_3 a_4) = (fuC n_2 xs_3 a_4))) false (by kernel_rfl) (nF rfl) ?_)
    refine R.call true (likeIn_c (fuR n_2 xs_3 a_4) (by first | omega | (simp <;> omega))) (by kernel_rfl) rfl (by kernel_rfl) ?_
    refine R.want (!decide ((fuC n_2 xs_3 a_4) = (fuC n_2 xs_3 a_4))) false (by kernel_rfl) (nF rfl) ?_
    refine R.go 1 (R.pick (!decide ((fuC n_2 xs_3 a_4) = (fuC n_2 xs_3 a_4))) false (by kernel_rfl) (nF rfl) (by kernel_rfl) ?_)
    refine R.go 6 (R.els (!decide ((fuX n_2 xs_3 a_4) = (fuX n_2 xs_3 a_4))) (by kernel_rfl) (nF rfl) ?_)
    refine R.go 7 ?_
    by_cases c7 : (fuC n_2 xs_3 a_4) = 0
    · refine R.skp (!decide ((fuC n_2 xs_3 a_4) = 0)) true (by kernel_rfl) (nF c7) (by kernel_rfl) ?_
      refine R.skp (!decide ((fuC n_2 xs_3 a_4) = 0)) true (by kernel_rfl) (nF c7) (by kernel_rfl) ?_
      refine R.pick (!decide ((fuC n_2 xs_3 a_4) = 0)) false (by kernel_rfl) (nF c7) (by kernel_rfl) ?_
      have hpc : pcode n_2 xs_3 [a_4] = 0 := fu_pc (by omega)
      have hA := la_A hpc
      have hB := la_B hpc
      have hC := la_C hpc
      have hP : okPo n_2 xs_3 = true := (pc1 hpc).1
      refine R.go 7 (R.call true (PV_impl n_2 xs_3 a_4 (by first | omega | (simp <;> omega)) (by first | omega | (simp <;> omega))) (by kernel_rfl) rfl (by kernel_rfl) ?_)
      refine R.go 10 (R.call true (UE_impl n_2 xs_3 a_4 (by first | omega | (simp <;> omega)) (by first | omega | (simp <;> omega))) (by kernel_rfl) rfl (by kernel_rfl) ?_)
      refine R.go 10 (R.call true (foNil_c n_2 xs_3 a_4 (by first | omega | (simp <;> omega)) (by first | omega | (simp <;> omega))) (by kernel_rfl) rfl (by kernel_rfl) ?_)
      refine R.go 11 (R.ar ((pcode n_2 xs_3 [a_4]) + (pcode n_2 xs_3 [a_4])) (by kernel_rfl) (by omega) (by omega) (by kernel_rfl) ?_)
      refine R.go 1 (R.ar (((pcode n_2 xs_3 [a_4]) + (pcode n_2 xs_3 [a_4])) + (pcode n_2 xs_3 [a_4])) (by kernel_rfl) (by omega) (by omega) (by kernel_rfl) ?_)
      refine R.go 2 ?_
      by_cases c8 : (((pcode n_2 xs_3 [a_4]) + (pcode n_2 xs_3 [a_4])) + (pcode n_2 xs_3 [a_4])) = 0
      · refine R.want (!decide ((((pcode n_2 xs_3 [a_4]) + (pcode n_2 xs_3 [a_4])) + (pcode n_2 xs_3 [a_4])) = 0)) false (by kernel_rfl) (nF c8) ?_
        refine R.go 1 (R.want (!decide ((((pcode n_2 xs_3 [a_4]) + (pcode n_2 xs_3 [a_4])) + (pcode n_2 xs_3 [a_4])) = 0)) false (by kernel_rfl) (nF c8) ?_)
        refine R.go 1 (R.want (!decide ((((pcode n_2 xs_3 [a_4]) + (pcode n_2 xs_3 [a_4])) + (pcode n_2 xs_3 [a_4])) = 0)) false (by kernel_rfl) (nF c8) ?_)
        refine R.go 1 (R.want (!decide ((((pcode n_2 xs_3 [a_4]) + (pcode n_2 xs_3 [a_4])) + (pcode n_2 xs_3 [a_4])) = 0)) false (by kernel_rfl) (nF c8) ?_)
        refine R.go 1 (R.pick (!decide ((((pcode n_2 xs_3 [a_4]) + (pcode n_2 xs_3 [a_4])) + (pcode n_2 xs_3 [a_4])) = 0)) false (by kernel_rfl) (nF c8) (by kernel_rfl) ?_)
        refine R.go 1 ?_
        refine (Bool.eq_false_or_eq_true (((pvV n_2 xs_3 a_4) == (decide ((fuC n_2 xs_3 a_4) = 4))))).elim (fun c9 => ?_) (fun c9 => ?_)
        · refine R.want (!((pvV n_2 xs_3 a_4) == (decide ((fuC n_2 xs_3 a_4) = 4)))) false (by kernel_rfl) (bnF c9) ?_
          refine R.go 1 (R.want (!((pvV n_2 xs_3 a_4) == (decide ((fuC n_2 xs_3 a_4) = 4)))) false (by kernel_rfl) (bnF c9) ?_)
          refine R.go 1 (R.want (!((pvV n_2 xs_3 a_4) == (decide ((fuC n_2 xs_3 a_4) = 4)))) false (by kernel_rfl) (bnF c9) ?_)
          refine R.go 1 (R.want (!((pvV n_2 xs_3 a_4) == (decide ((fuC n_2 xs_3 a_4) = 4)))) false (by kernel_rfl) (bnF c9) ?_)
          refine R.go 1 (R.pick (!((pvV n_2 xs_3 a_4) == (decide ((fuC n_2 xs_3 a_4) = 4)))) false (by kernel_rfl) (bnF c9) (by kernel_rfl) ?_)
          refine R.go 1 ?_
          refine (Bool.eq_false_or_eq_true (((pvV n_2 xs_3 a_4) == (decide ((ueV n_2 xs_3 a_4) = 0))))).elim (fun c10 => ?_) (fun c10 => ?_)
          · refine R.want (!((pvV n_2 xs_3 a_4) == (decide ((ueV n_2 xs_3 a_4) = 0)))) false (by kernel_rfl) (bnF c10) ?_
            refine R.go 1 (R.want (!((pvV n_2 xs_3 a_4) == (decide ((ueV n_2 xs_3 a_4) = 0)))) false (by kernel_rfl) (bnF c10) ?_)
            refine R.go 1 (R.want (!((pvV n_2 xs_3 a_4) == (decide ((ueV n_2 xs_3 a_4) = 0)))) false (by kernel_rfl) (bnF c10) ?_)
            refine R.go 1 (R.pick (!((pvV n_2 xs_3 a_4) == (decide ((ueV n_2 xs_3 a_4) = 0)))) false (by kernel_rfl) (bnF c10) (by kernel_rfl) ?_)
            refine R.go 1 (R.condM (((foV n_2 xs_3 [] a_4) == (pvV n_2 xs_3 a_4))) (by kernel_rfl) (fun c11 => ?_) (fun c11 => ?_))
            · exact R.go 4 (R.retE (.bool false) (by kernel_rfl) (by kernel_rfl) (by first | (first | rfl | exact absurd (hA.symm.trans (by assumption : _ = false)) (by decide) | exact absurd (hB.symm.trans (by assumption : _ = false)) (by decide) | exact absurd (hC.symm.trans (by assumption : _ = false)) (by decide) | exact absurd (by assumption) hD7 | exact congrArg AV.bool (decide_eq_true hD8) | exact congrArg AV.bool (decide_eq_true (la_3 (by assumption))) | exact congrArg AV.bool (la_E hv4 (by assumption) (by assumption) (by assumption)) | (exfalso; omega)) | (exfalso; omega)))
            · refine R.go 7 (R.thn (decide ((fuC n_2 xs_3 a_4) = 0)) (by kernel_rfl) (dT c7) ?_)
              have hD := la_D (by assumption : fuC n_2 xs_3 a_4 = 0)
              have hD1 := hD.1
              have hD2 := hD.2.1
              have hD3 := hD.2.2.1
              have hD4 := hD.2.2.2.1
              have hD5 := hD.2.2.2.2.1
              have hD6 := hD.2.2.2.2.2.1
              have hD7 := hD.2.2.2.2.2.2.1
              have hD8 := hD.2.2.2.2.2.2.2
              refine R.go 6 (R.call true (forcedAt_c n_2 xs_3 (fuR n_2 xs_3 a_4) (fuX n_2 xs_3 a_4) a_4 (by assumption) (by assumption) (by assumption) (by assumption) (by first | omega | (simp <;> omega)) (by omega)) (by kernel_rfl) rfl (by kernel_rfl) ?_)
              refine R.go 15 ?_
              by_cases c12 : band (shr64 (fcd n_2 xs_3 (fuR n_2 xs_3 a_4) a_4) (fuX n_2 xs_3 a_4)) 1 = 1
              · refine R.skp (!decide (band (shr64 (fcd n_2 xs_3 (fuR n_2 xs_3 a_4) a_4) (fuX n_2 xs_3 a_4)) 1 = 1)) true (by kernel_rfl) (nF c12) (by kernel_rfl) ?_
                refine R.skp (!decide (band (shr64 (fcd n_2 xs_3 (fuR n_2 xs_3 a_4) a_4) (fuX n_2 xs_3 a_4)) 1 = 1)) true (by kernel_rfl) (nF c12) (by kernel_rfl) ?_
                refine R.skp (!decide (band (shr64 (fcd n_2 xs_3 (fuR n_2 xs_3 a_4) a_4) (fuX n_2 xs_3 a_4)) 1 = 1)) true (by kernel_rfl) (nF c12) (by kernel_rfl) ?_
                refine R.pick (!decide (band (shr64 (fcd n_2 xs_3 (fuR n_2 xs_3 a_4) a_4) (fuX n_2 xs_3 a_4)) 1 = 1)) false (by kernel_rfl) (nF c12) (by kernel_rfl) ?_
                exact R.go 2 (R.retE (.bool false) (by kernel_rfl) (by kernel_rfl) (by first | (first | rfl | exact absurd (hA.symm.trans (by assumption : _ = false)) (by decide) | exact absurd (hB.symm.trans (by assumption : _ = false)) (by decide) | exact absurd (hC.symm.trans (by assumption : _ = false)) (by decide) | exact absurd (by assumption) hD7 | exact congrArg AV.bool (decide_eq_true hD8) | exact congrArg AV.bool (decide_eq_true (la_3 (by assumption))) | exact congrArg AV.bool (la_E hv4 (by assumption) (by assumption) (by assumption)) | (exfalso; omega)) | (exfalso; omega)))
              · refine R.want (!decide (band (shr64 (fcd n_2 xs_3 (fuR n_2 xs_3 a_4) a_4) (fuX n_2 xs_3 a_4)) 1 = 1)) true (by kernel_rfl) (nT c12) ?_
                refine R.go 1 (R.want (!decide (band (shr64 (fcd n_2 xs_3 (fuR n_2 xs_3 a_4) a_4) (fuX n_2 xs_3 a_4)) 1 = 1)) true (by kernel_rfl) (nT c12) ?_)
                refine R.go 1 (R.want (!decide (band (shr64 (fcd n_2 xs_3 (fuR n_2 xs_3 a_4) a_4) (fuX n_2 xs_3 a_4)) 1 = 1)) true (by kernel_rfl) (nT c12) ?_)
                refine R.call true (bit9_c (ueV n_2 xs_3 a_4) (fuX n_2 xs_3 a_4) (by omega) (by omega)) (by kernel_rfl) rfl (by kernel_rfl) ?_
                refine R.pick (!decide (band (shr64 (fcd n_2 xs_3 (fuR n_2 xs_3 a_4) a_4) (fuX n_2 xs_3 a_4)) 1 = 1)) true (by kernel_rfl) (nT c12) (by kernel_rfl) ?_
                exact R.go 2 (R.retE (.bool (decide (band (shr64 (ueV n_2 xs_3 a_4) (fuX n_2 xs_3 a_4)) 1 = 1))) (by kernel_rfl) (by kernel_rfl) (by first | (first | rfl | exact absurd (hA.symm.trans (by assumption : _ = false)) (by decide) | exact absurd (hB.symm.trans (by assumption : _ = false)) (by decide) | exact absurd (hC.symm.trans (by assumption : _ = false)) (by decide) | exact absurd (by assumption) hD7 | exact congrArg AV.bool (decide_eq_true hD8) | exact congrArg AV.bool (decide_eq_true (la_3 (by assumption))) | exact congrArg AV.bool (la_E hv4 (by assumption) (by assumption) (by assumption)) | (exfalso; omega)) | (exfalso; omega)))
          · refine R.skp (!((pvV n_2 xs_3 a_4) == (decide ((ueV n_2 xs_3 a_4) = 0)))) false (by kernel_rfl) (bnT c10) (by kernel_rfl) ?_
            refine R.skp (!((pvV n_2 xs_3 a_4) == (decide ((ueV n_2 xs_3 a_4) = 0)))) false (by kernel_rfl) (bnT c10) (by kernel_rfl) ?_
            refine R.skp (!((pvV n_2 xs_3 a_4) == (decide ((ueV n_2 xs_3 a_4) = 0)))) false (by kernel_rfl) (bnT c10) (by kernel_rfl) ?_
            refine R.pick (!((pvV n_2 xs_3 a_4) == (decide ((ueV n_2 xs_3 a_4) = 0)))) true (by kernel_rfl) (bnT c10) (by kernel_rfl) ?_
            exact R.go 6 (R.retE (.bool false) (by kernel_rfl) (by kernel_rfl) (by first | (first | rfl | exact absurd (hA.symm.trans (by assumption : _ = false)) (by decide) | exact absurd (hB.symm.trans (by assumption : _ = false)) (by decide) | exact absurd (hC.symm.trans (by assumption : _ = false)) (by decide) | exact absurd (by assumption) hD7 | exact congrArg AV.bool (decide_eq_true hD8) | exact congrArg AV.bool (decide_eq_true (la_3 (by assumption))) | exact congrArg AV.bool (la_E hv4 (by assumption) (by assumption) (by assumption)) | (exfalso; omega)) | (exfalso; omega)))
        · refine R.skp (!((pvV n_2 xs_3 a_4) == (decide ((fuC n_2 xs_3 a_4) = 4)))) false (by kernel_rfl) (bnT c9) (by kernel_rfl) ?_
          refine R.skp (!((pvV n_2 xs_3 a_4) == (decide ((fuC n_2 xs_3 a_4) = 4)))) false (by kernel_rfl) (bnT c9) (by kernel_rfl) ?_
          refine R.skp (!((pvV n_2 xs_3 a_4) == (decide ((fuC n_2 xs_3 a_4) = 4)))) false (by kernel_rfl) (bnT c9) (by kernel_rfl) ?_
          refine R.skp (!((pvV n_2 xs_3 a_4) == (decide ((fuC n_2 xs_3 a_4) = 4)))) false (by kernel_rfl) (bnT c9) (by kernel_rfl) ?_
          refine R.pick (!((pvV n_2 xs_3 a_4) == (decide ((fuC n_2 xs_3 a_4) = 4)))) true (by kernel_rfl) (bnT c9) (by kernel_rfl) ?_
          exact R.go 11 (R.retE (.bool false) (by kernel_rfl) (by kernel_rfl) (by first | (first | rfl | exact absurd (hA.symm.trans (by assumption : _ = false)) (by decide) | exact absurd (hB.symm.trans (by assumption : _ = false)) (by decide) | exact absurd (hC.symm.trans (by assumption : _ = false)) (by decide) | exact absurd (by assumption) hD7 | exact congrArg AV.bool (decide_eq_true hD8) | exact congrArg AV.bool (decide_eq_true (la_3 (by assumption))) | exact congrArg AV.bool (la_E hv4 (by assumption) (by assumption) (by assumption)) | (exfalso; omega)) | (exfalso; omega)))
      · refine R.skp (!decide ((((pcode n_2 xs_3 [a_4]) + (pcode n_2 xs_3 [a_4])) + (pcode n_2 xs_3 [a_4])) = 0)) false (by kernel_rfl) (nT c8) (by kernel_rfl) ?_
        refine R.skp (!decide ((((pcode n_2 xs_3 [a_4]) + (pcode n_2 xs_3 [a_4])) + (pcode n_2 xs_3 [a_4])) = 0)) false (by kernel_rfl) (nT c8) (by kernel_rfl) ?_
        refine R.skp (!decide ((((pcode n_2 xs_3 [a_4]) + (pcode n_2 xs_3 [a_4])) + (pcode n_2 xs_3 [a_4])) = 0)) false (by kernel_rfl) (nT c8) (by kernel_rfl) ?_
        refine R.skp (!decide ((((pcode n_2 xs_3 [a_4]) + (pcode n_2 xs_3 [a_4])) + (pcode n_2 xs_3 [a_4])) = 0)) false (by kernel_rfl) (nT c8) (by kernel_rfl) ?_
        refine R.pick (!decide ((((pcode n_2 xs_3 [a_4]) + (pcode n_2 xs_3 [a_4])) + (pcode n_2 xs_3 [a_4])) = 0)) true (by kernel_rfl) (nT c8) (by kernel_rfl) ?_
        exact R.go 17 (R.retE (.bool false) (by kernel_rfl) (by kernel_rfl) (by first | (first | rfl | exact absurd (hA.symm.trans (by assumption : _ = false)) (by decide) | exact absurd (hB.symm.trans (by assumption : _ = false)) (by decide) | exact absurd (hC.symm.trans (by assumption : _ = false)) (by decide) | exact absurd (by assumption) hD7 | exact congrArg AV.bool (decide_eq_true hD8) | exact congrArg AV.bool (decide_eq_true (la_3 (by assumption))) | exact congrArg AV.bool (la_E hv4 (by assumption) (by assumption) (by assumption)) | (exfalso; omega)) | (exfalso; omega)))
    · refine R.want (!decide ((fuC n_2 xs_3 a_4) = 0)) true (by kernel_rfl) (nT c7) ?_
      refine R.go 1 (R.want (!decide ((fuC n_2 xs_3 a_4) = 0)) true (by kernel_rfl) (nT c7) ?_)
      refine R.go 1 (R.pick (!decide ((fuC n_2 xs_3 a_4) = 0)) true (by kernel_rfl) (nT c7) (by kernel_rfl) ?_)
      refine R.go 1 (R.condN ((fuC n_2 xs_3 a_4) = 4) (by kernel_rfl) (fun c13 => ?_) (fun c13 => ?_))
      · exact R.go 4 (R.retE (.bool true) (by kernel_rfl) (by kernel_rfl) (by rfl))
      · have hpc : pcode n_2 xs_3 [a_4] = 0 := fu_pc (by omega)
        have hA := la_A hpc
        have hB := la_B hpc
        have hC := la_C hpc
        have hP : okPo n_2 xs_3 = true := (pc1 hpc).1
        refine R.go 5 (R.call true (PV_impl n_2 xs_3 a_4 (by first | omega | (simp <;> omega)) (by first | omega | (simp <;> omega))) (by kernel_rfl) rfl (by kernel_rfl) ?_)
        refine R.go 10 (R.call true (UE_impl n_2 xs_3 a_4 (by first | omega | (simp <;> omega)) (by first | omega | (simp <;> omega))) (by kernel_rfl) rfl (by kernel_rfl) ?_)
        refine R.go 10 (R.call true (foNil_c n_2 xs_3 a_4 (by first | omega | (simp <;> omega)) (by first | omega | (simp <;> omega))) (by kernel_rfl) rfl (by kernel_rfl) ?_)
        refine R.go 11 (R.ar ((pcode n_2 xs_3 [a_4]) + (pcode n_2 xs_3 [a_4])) (by kernel_rfl) (by omega) (by omega) (by kernel_rfl) ?_)
        refine R.go 1 (R.ar (((pcode n_2 xs_3 [a_4]) + (pcode n_2 xs_3 [a_4])) + (pcode n_2 xs_3 [a_4])) (by kernel_rfl) (by omega) (by omega) (by kernel_rfl) ?_)
        refine R.go 2 ?_
        by_cases c14 : (((pcode n_2 xs_3 [a_4]) + (pcode n_2 xs_3 [a_4])) + (pcode n_2 xs_3 [a_4])) = 0
        · refine R.want (!decide ((((pcode n_2 xs_3 [a_4]) + (pcode n_2 xs_3 [a_4])) + (pcode n_2 xs_3 [a_4])) = 0)) false (by kernel_rfl) (nF c14) ?_
          refine R.go 1 (R.want (!decide ((((pcode n_2 xs_3 [a_4]) + (pcode n_2 xs_3 [a_4])) + (pcode n_2 xs_3 [a_4])) = 0)) false (by kernel_rfl) (nF c14) ?_)
          refine R.go 1 (R.want (!decide ((((pcode n_2 xs_3 [a_4]) + (pcode n_2 xs_3 [a_4])) + (pcode n_2 xs_3 [a_4])) = 0)) false (by kernel_rfl) (nF c14) ?_)
          refine R.go 1 (R.want (!decide ((((pcode n_2 xs_3 [a_4]) + (pcode n_2 xs_3 [a_4])) + (pcode n_2 xs_3 [a_4])) = 0)) false (by kernel_rfl) (nF c14) ?_)
          refine R.go 1 (R.pick (!decide ((((pcode n_2 xs_3 [a_4]) + (pcode n_2 xs_3 [a_4])) + (pcode n_2 xs_3 [a_4])) = 0)) false (by kernel_rfl) (nF c14) (by kernel_rfl) ?_)
          refine R.go 1 ?_
          refine (Bool.eq_false_or_eq_true (((pvV n_2 xs_3 a_4) == (decide ((fuC n_2 xs_3 a_4) = 4))))).elim (fun c15 => ?_) (fun c15 => ?_)
          · refine R.want (!((pvV n_2 xs_3 a_4) == (decide ((fuC n_2 xs_3 a_4) = 4)))) false (by kernel_rfl) (bnF c15) ?_
            refine R.go 1 (R.want (!((pvV n_2 xs_3 a_4) == (decide ((fuC n_2 xs_3 a_4) = 4)))) false (by kernel_rfl) (bnF c15) ?_)
            refine R.go 1 (R.want (!((pvV n_2 xs_3 a_4) == (decide ((fuC n_2 xs_3 a_4) = 4)))) false (by kernel_rfl) (bnF c15) ?_)
            refine R.go 1 (R.want (!((pvV n_2 xs_3 a_4) == (decide ((fuC n_2 xs_3 a_4) = 4)))) false (by kernel_rfl) (bnF c15) ?_)
            refine R.go 1 (R.pick (!((pvV n_2 xs_3 a_4) == (decide ((fuC n_2 xs_3 a_4) = 4)))) false (by kernel_rfl) (bnF c15) (by kernel_rfl) ?_)
            refine R.go 1 ?_
            refine (Bool.eq_false_or_eq_true (((pvV n_2 xs_3 a_4) == (decide ((ueV n_2 xs_3 a_4) = 0))))).elim (fun c16 => ?_) (fun c16 => ?_)
            · refine R.want (!((pvV n_2 xs_3 a_4) == (decide ((ueV n_2 xs_3 a_4) = 0)))) false (by kernel_rfl) (bnF c16) ?_
              refine R.go 1 (R.want (!((pvV n_2 xs_3 a_4) == (decide ((ueV n_2 xs_3 a_4) = 0)))) false (by kernel_rfl) (bnF c16) ?_)
              refine R.go 1 (R.want (!((pvV n_2 xs_3 a_4) == (decide ((ueV n_2 xs_3 a_4) = 0)))) false (by kernel_rfl) (bnF c16) ?_)
              refine R.go 1 (R.pick (!((pvV n_2 xs_3 a_4) == (decide ((ueV n_2 xs_3 a_4) = 0)))) false (by kernel_rfl) (bnF c16) (by kernel_rfl) ?_)
              refine R.go 1 (R.condM (((foV n_2 xs_3 [] a_4) == (pvV n_2 xs_3 a_4))) (by kernel_rfl) (fun c17 => ?_) (fun c17 => ?_))
              · exact R.go 4 (R.retE (.bool false) (by kernel_rfl) (by kernel_rfl) (by first | (first | rfl | exact absurd (hA.symm.trans (by assumption : _ = false)) (by decide) | exact absurd (hB.symm.trans (by assumption : _ = false)) (by decide) | exact absurd (hC.symm.trans (by assumption : _ = false)) (by decide) | exact absurd (by assumption) hD7 | exact congrArg AV.bool (decide_eq_true hD8) | exact congrArg AV.bool (decide_eq_true (la_3 (by assumption))) | exact congrArg AV.bool (la_E hv4 (by assumption) (by assumption) (by assumption)) | (exfalso; omega)) | (exfalso; omega)))
              · refine R.go 7 (R.els (decide ((fuC n_2 xs_3 a_4) = 0)) (by kernel_rfl) (dF c7) ?_)
                have hF4 : fuC n_2 xs_3 a_4 = 4 := by omega
                have hv4 := la_v hpc hF4
                refine R.go 6 (R.call false (sumP_c n_2 xs_3 1 [1] hP (by first | assumption | exact po_one)) (by kernel_rfl) (by simp [AV.closed, closedL, AI, ownA_closed eI_closed]) (by kernel_rfl) ?_)
                have hsl : (smR n_2 xs_3 1 [1]).length ≤ (xs_3).length + 1 := smR_len
                refine R.go 13 (R.condN ((smC n_2 1) = 0) (by kernel_rfl) (fun c18 => ?_) (fun c18 => ?_))
                · exact R.go 6 (R.retE (.bool (decide ((smC n_2 1) = 3))) (by kernel_rfl) (by kernel_rfl) (by first | (first | rfl | exact absurd (hA.symm.trans (by assumption : _ = false)) (by decide) | exact absurd (hB.symm.trans (by assumption : _ = false)) (by decide) | exact absurd (hC.symm.trans (by assumption : _ = false)) (by decide) | exact absurd (by assumption) hD7 | exact congrArg AV.bool (decide_eq_true hD8) | exact congrArg AV.bool (decide_eq_true (la_3 (by assumption))) | exact congrArg AV.bool (la_E hv4 (by assumption) (by assumption) (by assumption)) | (exfalso; omega)) | (exfalso; omega)))
                · refine R.go 6 (R.call false (PV_impl 1 [1] a_4 (by first | omega | (simp <;> omega)) (by first | omega | (simp <;> omega))) (by kernel_rfl) (by simp [AV.closed, closedL, AI]) (by kernel_rfl) ?_)
                  refine R.go 10 (R.call false (PV_impl (smN n_2 1) (smR n_2 xs_3 1 [1]) a_4 (by first | omega | (simp <;> omega)) (by first | omega | (simp <;> omega))) (by kernel_rfl) (by simp [AV.closed, closedL, AI]) (by kernel_rfl) ?_)
                  refine R.go 11 ?_
                  by_cases c19 : (pcode 1 [1] [a_4]) = 0
                  · refine R.want (!decide ((pcode 1 [1] [a_4]) = 0)) false (by kernel_rfl) (nF c19) ?_
                    refine R.go 1 (R.want (!decide ((pcode 1 [1] [a_4]) = 0)) false (by kernel_rfl) (nF c19) ?_)
                    refine R.go 1 (R.pick (!decide ((pcode 1 [1] [a_4]) = 0)) false (by kernel_rfl) (nF c19) (by kernel_rfl) ?_)
                    refine R.go 1 ?_
                    by_cases c20 : (pcode (smN n_2 1) (smR n_2 xs_3 1 [1]) [a_4]) = 0
                    · refine R.want (!decide ((pcode (smN n_2 1) (smR n_2 xs_3 1 [1]) [a_4]) = 0)) false (by kernel_rfl) (nF c20) ?_
                      refine R.go 1 (R.want (!decide ((pcode (smN n_2 1) (smR n_2 xs_3 1 [1]) [a_4]) = 0)) false (by kernel_rfl) (nF c20) ?_)
                      refine R.go 1 (R.want (!decide ((pcode (smN n_2 1) (smR n_2 xs_3 1 [1]) [a_4]) = 0)) false (by kernel_rfl) (nF c20) ?_)
                      refine R.go 1 (R.pick (!decide ((pcode (smN n_2 1) (smR n_2 xs_3 1 [1]) [a_4]) = 0)) false (by kernel_rfl) (nF c20) (by kernel_rfl) ?_)
                      exact R.go 2 (R.retE (.bool ((pvV (smN n_2 1) (smR n_2 xs_3 1 [1]) a_4) == (pvV 1 [1] a_4))) (by kernel_rfl) (by kernel_rfl) (by first | (first | rfl | exact absurd (hA.symm.trans (by assumption : _ = false)) (by decide) | exact absurd (hB.symm.trans (by assumption : _ = false)) (by decide) | exact absurd (hC.symm.trans (by assumption : _ = false)) (by decide) | exact absurd (by assumption) hD7 | exact congrArg AV.bool (decide_eq_true hD8) | exact congrArg AV.bool (decide_eq_true (la_3 (by assumption))) | exact congrArg AV.bool (la_E hv4 (by assumption) (by assumption) (by assumption)) | (exfalso; omega)) | (exfalso; omega)))
                    · refine R.skp (!decide ((pcode (smN n_2 1) (smR n_2 xs_3 1 [1]) [a_4]) = 0)) false (by kernel_rfl) (nT c20) (by kernel_rfl) ?_
                      refine R.skp (!decide ((pcode (smN n_2 1) (smR n_2 xs_3 1 [1]) [a_4]) = 0)) false (by kernel_rfl) (nT c20) (by kernel_rfl) ?_
                      refine R.skp (!decide ((pcode (smN n_2 1) (smR n_2 xs_3 1 [1]) [a_4]) = 0)) false (by kernel_rfl) (nT c20) (by kernel_rfl) ?_
                      refine R.pick (!decide ((pcode (smN n_2 1) (smR n_2 xs_3 1 [1]) [a_4]) = 0)) true (by kernel_rfl) (nT c20) (by kernel_rfl) ?_
                      exact R.go 2 (R.retE (.bool true) (by kernel_rfl) (by kernel_rfl) (by rfl))
                  · refine R.skp (!decide ((pcode 1 [1] [a_4]) = 0)) false (by kernel_rfl) (nT c19) (by kernel_rfl) ?_
                    refine R.skp (!decide ((pcode 1 [1] [a_4]) = 0)) false (by kernel_rfl) (nT c19) (by kernel_rfl) ?_
                    refine R.pick (!decide ((pcode 1 [1] [a_4]) = 0)) true (by kernel_rfl) (nT c19) (by kernel_rfl) ?_
                    exact R.go 7 (R.retE (.bool true) (by kernel_rfl) (by kernel_rfl) (by rfl))
            · refine R.skp (!((pvV n_2 xs_3 a_4) == (decide ((ueV n_2 xs_3 a_4) = 0)))) false (by kernel_rfl) (bnT c16) (by kernel_rfl) ?_
              refine R.skp (!((pvV n_2 xs_3 a_4) == (decide ((ueV n_2 xs_3 a_4) = 0)))) false (by kernel_rfl) (bnT c16) (by kernel_rfl) ?_
              refine R.skp (!((pvV n_2 xs_3 a_4) == (decide ((ueV n_2 xs_3 a_4) = 0)))) false (by kernel_rfl) (bnT c16) (by kernel_rfl) ?_
              refine R.pick (!((pvV n_2 xs_3 a_4) == (decide ((ueV n_2 xs_3 a_4) = 0)))) true (by kernel_rfl) (bnT c16) (by kernel_rfl) ?_
              exact R.go 6 (R.retE (.bool false) (by kernel_rfl) (by kernel_rfl) (by first | (first | rfl | exact absurd (hA.symm.trans (by assumption : _ = false)) (by decide) | exact absurd (hB.symm.trans (by assumption : _ = false)) (by decide) | exact absurd (hC.symm.trans (by assumption : _ = false)) (by decide) | exact absurd (by assumption) hD7 | exact congrArg AV.bool (decide_eq_true hD8) | exact congrArg AV.bool (decide_eq_true (la_3 (by assumption))) | exact congrArg AV.bool (la_E hv4 (by assumption) (by assumption) (by assumption)) | (exfalso; omega)) | (exfalso; omega)))
          · refine R.skp (!((pvV n_2 xs_3 a_4) == (decide ((fuC n_2 xs_3 a_4) = 4)))) false (by kernel_rfl) (bnT c15) (by kernel_rfl) ?_
            refine R.skp (!((pvV n_2 xs_3 a_4) == (decide ((fuC n_2 xs_3 a_4) = 4)))) false (by kernel_rfl) (bnT c15) (by kernel_rfl) ?_
            refine R.skp (!((pvV n_2 xs_3 a_4) == (decide ((fuC n_2 xs_3 a_4) = 4)))) false (by kernel_rfl) (bnT c15) (by kernel_rfl) ?_
            refine R.skp (!((pvV n_2 xs_3 a_4) == (decide ((fuC n_2 xs_3 a_4) = 4)))) false (by kernel_rfl) (bnT c15) (by kernel_rfl) ?_
            refine R.pick (!((pvV n_2 xs_3 a_4) == (decide ((fuC n_2 xs_3 a_4) = 4)))) true (by kernel_rfl) (bnT c15) (by kernel_rfl) ?_
            exact R.go 11 (R.retE (.bool false) (by kernel_rfl) (by kernel_rfl) (by first | (first | rfl | exact absurd (hA.symm.trans (by assumption : _ = false)) (by decide) | exact absurd (hB.symm.trans (by assumption : _ = false)) (by decide) | exact absurd (hC.symm.trans (by assumption : _ = false)) (by decide) | exact absurd (by assumption) hD7 | exact congrArg AV.bool (decide_eq_true hD8) | exact congrArg AV.bool (decide_eq_true (la_3 (by assumption))) | exact congrArg AV.bool (la_E hv4 (by assumption) (by assumption) (by assumption)) | (exfalso; omega)) | (exfalso; omega)))
        · refine R.skp (!decide ((((pcode n_2 xs_3 [a_4]) + (pcode n_2 xs_3 [a_4])) + (pcode n_2 xs_3 [a_4])) = 0)) false (by kernel_rfl) (nT c14) (by kernel_rfl) ?_
          refine R.skp (!decide ((((pcode n_2 xs_3 [a_4]) + (pcode n_2 xs_3 [a_4])) + (pcode n_2 xs_3 [a_4])) = 0)) false (by kernel_rfl) (nT c14) (by kernel_rfl) ?_
          refine R.skp (!decide ((((pcode n_2 xs_3 [a_4]) + (pcode n_2 xs_3 [a_4])) + (pcode n_2 xs_3 [a_4])) = 0)) false (by kernel_rfl) (nT c14) (by kernel_rfl) ?_
          refine R.skp (!decide ((((pcode n_2 xs_3 [a_4]) + (pcode n_2 xs_3 [a_4])) + (pcode n_2 xs_3 [a_4])) = 0)) false (by kernel_rfl) (nT c14) (by kernel_rfl) ?_
          refine R.pick (!decide ((((pcode n_2 xs_3 [a_4]) + (pcode n_2 xs_3 [a_4])) + (pcode n_2 xs_3 [a_4])) = 0)) true (by kernel_rfl) (nT c14) (by kernel_rfl) ?_
          exact R.go 17 (R.retE (.bool false) (by kernel_rfl) (by kernel_rfl) (by first | (first | rfl | exact absurd (hA.symm.trans (by assumption : _ = false)) (by decide) | exact absurd (hB.symm.trans (by assumption : _ = false)) (by decide) | exact absurd (hC.symm.trans (by assumption : _ = false)) (by decide) | exact absurd (by assumption) hD7 | exact congrArg AV.bool (decide_eq_true hD8) | exact congrArg AV.bool (decide_eq_true (la_3 (by assumption))) | exact congrArg AV.bool (la_E hv4 (by assumption) (by assumption) (by assumption)) | (exfalso; omega)) | (exfalso; omega)))

end Go.Proofs.YtogehjciaamcfaaGreat
