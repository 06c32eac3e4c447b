/- Texts of the proof: DICE, HV4. -/
import Derived.Test.YtjllngcefoohpaaGreatPartN

/-! Dice of the laws: a roll, and a number below another one. -/
namespace Go.Proofs.YtjllngcefoohpaaGreat
open Go.RowKit Go.Abs

theorem belowX_c_r4 (c : List Int) (p : Nat) (h : Int) (n : Int) (eo1 : Nat) (so1 : Nat) (no1 : Nat) (co1 : List AV) (eo2 : Nat) (so2 : Nat) (no2 : Nat) (co2 : List AV) (eo3 : Nat) (so3 : Nat) (no3 : Nat) (co3 : List AV) (eo4 : Nat) (so4 : Nat) (no4 : Nat) (co4 : List AV) (hc : BY c) : CallX Tryz.prog 22 [.ptr 0 0, AI n] [.box 108 [LB c, AI (p : Int), .int .u64 h], .list eo1 so1 no1 co1, .list eo2 so2 no2 co2, .list eo3 so3 no3 co3, .list eo4 so4 no4 co4] (fun (resX : AV) (objX : List AObj) => ∃ v : Int, ∃ p1 : Nat, ∃ h1 : Int, ((n < 1 → v = 0) ∧ (1 ≤ n → 0 ≤ v ∧ v < n)) ∧ resX = AI v ∧ objX = [.box 108 [LB c, AI (p1 : Int), .int .u64 h1], .list eo1 so1 no1 co1, .list eo2 so2 no2 co2, .list eo3 so3 no3 co3, .list eo4 so4 no4 co4]) := by
 have hcl : c.length ≤ 4096 := hc.1
 have hcb := hc.2
 have hxr := fun h => u64and (shr64 (IntKind.u64.wrap (IntKind.u64.wrap (h * 6364136223846793005) + 1442695040888963407)) 33)
 have hxh := hxr h
 refine CallX.dropE (CallX.ofF Tryz.func22 rfl (by kernel_rfl) ?_)
 intro usC frC hfC
 refine R.go 10 (k3 (n < 1) (fun c1 => ?_) (fun c1 => ?_))
 ·exact R.go 4 (R.retX (res := AI 0) (hp' := [.box 108 [LB c, AI (p : Int), .int .u64 h], .list eo1 so1 no1 co1, .list eo2 so2 no2 co2, .list eo3 so3 no3 co3, .list eo4 so4 no4 co4, .dead]) (by kernel_rfl) (by kernel_rfl) (by kernel_rfl) (by kernel_rfl) ⟨[0, 1, 2, 3, 4], by kernel_rfl, by decide, 0, p, h, by first | exact mod_rng (by assumption) | exact ⟨fun _ => rfl, fun h1 => by omega⟩, by kernel_rfl, by kernel_rfl⟩)
 ·refine R.go 22 (k2 .i64 (bits .and .u64 (shr64 (IntKind.u64.wrap ((IntKind.u64.wrap (h * 6364136223846793005)) + 1442695040888963407)) 33) 16777215) (wrap_id (by omega) (by omega)) ?_)
  refine R.go 16 (k3 ((p : Int) < (c.length : Int)) (fun c2 => ?_) (fun c2 => ?_))
  ·have hbp := hcb p (by omega)
   refine R.go 11 (k8 eB c 0 p (p : Int) rfl eB_len ?_)
   refine R.go 1 (k2 .i64 (c.getD p 0) (wrap_id (by omega) (by omega)) ?_)
   refine k1 ((bits .and .u64 (shr64 (IntKind.u64.wrap ((IntKind.u64.wrap (h * 6364136223846793005)) + 1442695040888963407)) 33) 16777215) + (c.getD p 0)) ?_
   refine R.go 8 (k1 ((p : Int) + 1) ?_)
   refine R.go 8 (R.rem ((bits .and .u64 (shr64 (IntKind.u64.wrap ((IntKind.u64.wrap (h * 6364136223846793005)) + 1442695040888963407)) 33) 16777215) + (c.getD p 0)) n (by kernel_rfl) (by omega) (by omega) (by kernel_rfl) ?_)
   exact R.go 2 (R.retX (res := AI (((bits .and .u64 (shr64 (IntKind.u64.wrap ((IntKind.u64.wrap (h * 6364136223846793005)) + 1442695040888963407)) 33) 16777215) + (c.getD p 0)) % n)) (hp' := [.box 108 [LB c, AI ((p : Int) + 1), .int .u64 (IntKind.u64.wrap ((IntKind.u64.wrap (h * 6364136223846793005)) + 1442695040888963407))], .list eo1 so1 no1 co1, .list eo2 so2 no2 co2, .list eo3 so3 no3 co3, .list eo4 so4 no4 co4, .dead]) (by kernel_rfl) (by kernel_rfl) (by kernel_rfl) (by kernel_rfl) ⟨[0, 1, 2, 3, 4], by kernel_rfl, by decide, ((bits .and .u64 (shr64 (IntKind.u64.wrap ((IntKind.u64.wrap (h * 6364136223846793005)) + 1442695040888963407)) 33) 16777215) + (c.getD p 0)) % n, p + 1, IntKind.u64.wrap ((IntKind.u64.wrap (h * 6364136223846793005)) + 1442695040888963407), by first | exact mod_rng (by assumption) | exact ⟨fun _ => rfl, fun h1 => by omega⟩, by kernel_rfl, by kernel_rfl⟩)
  ·refine R.go 5 (R.rem (bits .and .u64 (shr64 (IntKind.u64.wrap ((IntKind.u64.wrap (h * 6364136223846793005)) + 1442695040888963407)) 33) 16777215) n (by kernel_rfl) (by omega) (by omega) (by kernel_rfl) ?_)
   exact R.go 2 (R.retX (res := AI ((bits .and .u64 (shr64 (IntKind.u64.wrap ((IntKind.u64.wrap (h * 6364136223846793005)) + 1442695040888963407)) 33) 16777215) % n)) (hp' := [.box 108 [LB c, AI (p : Int), .int .u64 (IntKind.u64.wrap ((IntKind.u64.wrap (h * 6364136223846793005)) + 1442695040888963407))], .list eo1 so1 no1 co1, .list eo2 so2 no2 co2, .list eo3 so3 no3 co3, .list eo4 so4 no4 co4, .dead]) (by kernel_rfl) (by kernel_rfl) (by kernel_rfl) (by kernel_rfl) ⟨[0, 1, 2, 3, 4], by kernel_rfl, by decide, (bits .and .u64 (shr64 (IntKind.u64.wrap ((IntKind.u64.wrap (h * 6364136223846793005)) + 1442695040888963407)) 33) 16777215) % n, p, IntKind.u64.wrap ((IntKind.u64.wrap (h * 6364136223846793005)) + 1442695040888963407), by first | exact mod_rng (by assumption) | exact ⟨fun _ => rfl, fun h1 => by omega⟩, by kernel_rfl, by kernel_rfl⟩)

theorem rollX_c_r2 (c : List Int) (sd : Int) (eo1 : Nat) (so1 : Nat) (no1 : Nat) (co1 : List AV) (eo2 : Nat) (so2 : Nat) (no2 : Nat) (co2 : List AV) (hc : BY c) : CallX Tryz.prog 21 [LB c, .int .u64 sd] [.list eo1 so1 no1 co1, .list eo2 so2 no2 co2] (fun (resX : AV) (objX : List AObj) => ∃ h : Int, resX = .ptr 2 0 ∧ objX = [.list eo1 so1 no1 co1, .list eo2 so2 no2 co2, .box 108 [LB c, AI 0, .int .u64 h]]) := by
 have hcl : c.length ≤ 4096 := hc.1
 have hcb := hc.2
 refine CallX.dropE (CallX.ofF Tryz.func21 rfl (by kernel_rfl) ?_)
 intro usC frC hfC
 refine R.go 11 (k2 .u64 (c.length : Int) (u64_id (by omega) (by omega)) ?_)
 refine R.go 11 (k15 ((fun | (i, hh) => (⟨(frm 38 [(0, LB c), (5, .ptr 3 0), (6, AI (i : Int))]), [.list eo1 so1 no1 co1, .list eo2 so2 no2 co2, .frame usC frC, .box 108 [LB c, AI 0, .int .u64 hh]]⟩ : St) : Nat × Int → St)) (fun | (i, hh) => i ≤ c.length) (fun | (i, hh) => c.length - i) (0, (IntKind.u64.wrap ((IntKind.u64.wrap (sd * 7681)) + (c.length : Int)))) [0, 5, 6] none (by omega) ?_)
 rintro ⟨i, hh⟩ h4_1 R1 N2
 refine R.go 8 (k3 ((i : Int) < (c.length : Int)) (fun c5 => ?_) (fun c5 => ?_))
 ·have hbi := hcb i (by omega)
  refine R.go 12 (k8 eB c 0 i (i : Int) rfl eB_len ?_)
  refine R.go 1 (k2 .u64 (c.getD i 0) (u64_id (by omega) (by omega)) ?_)
  refine R.go 9 (k1 ((i : Int) + 1) ?_)
  exact R.go 2 (k16 R1 (N2 (i + 1, IntKind.u64.wrap ((IntKind.u64.wrap ((IntKind.u64.wrap (hh * 1099511628211)) + (c.getD i 0))) + 5)) [0, 5, 6] none _ (by kernel_rfl) (by kernel_rfl) (by omega) (by show (c.length - (i + 1)) < (c.length - i); omega)))
 ·exact R.go 6 (R.retX (res := .ptr 3 0) (hp' := [.list eo1 so1 no1 co1, .list eo2 so2 no2 co2, .dead, .box 108 [LB c, AI 0, .int .u64 hh]]) (by kernel_rfl) (by kernel_rfl) (by kernel_rfl) (by kernel_rfl) ⟨[0, 1, 3], by kernel_rfl, by decide, hh, by kernel_rfl, by kernel_rfl⟩)

end Go.Proofs.YtjllngcefoohpaaGreat


/-! The law FnAlgebraOfUpsets. -/
namespace Go.Proofs.YtjllngcefoohpaaGreat
open Go.RowKit Go.Abs

def outU (n : Int) (xs : List Int) (m : Int) : Bool := !(inR m 0 ((shl64 1 n) - 1) && decide (img xs m xs.length = m))
def vsB (n : Int) (xs vs : List Int) : Bool := decide (vs.length = 6) && !vs.any (outU n xs)
def vaB (n : Int) (xs vs : List Int) : Bool := okPo n xs && vsB n xs vs
theorem vaB_po {n : Int} {xs vs : List Int} (h : vaB n xs vs = true) : okPo n xs = true ∧ vs.length = 6 := by
  simp only [vaB, vsB, Bool.and_eq_true, decide_eq_true_eq] at h
  exact ⟨h.1, h.2.1⟩
theorem outR_in {n m : Int} (h0 : 0 ≤ n) (h8 : n ≤ 8) (h : outR n m = false) : InM n.toNat m := by
  have h1 : inR m 0 ((shl64 1 n) - 1) = true := by
    rw [outR, (inR_iff n 0 30).2 (by omega)] at h
    simpa using h
  have h2 := (full_rng (n := n.toNat) (by omega) (m := m)).2
  rw [show ((n.toNat : Nat) : Int) = n by omega] at h2
  exact h2 h1
theorem outU_1 {n m : Int} {xs : List Int} (h0 : 0 ≤ n) (h8 : n ≤ 8) (h : outR n m = true) : outU n xs m = true := by
  rw [outR, (inR_iff n 0 30).2 (by omega)] at h
  have : inR m 0 ((shl64 1 n) - 1) = false := by simpa using h
  rw [outU, this]; rfl
theorem outU_2 {n m : Int} {xs : List Int} (h0 : 0 ≤ n) (h8 : n ≤ 8) (h : outR n m = false) : outU n xs m = !decide (img xs m xs.length = m) := by
  rw [outR, (inR_iff n 0 30).2 (by omega)] at h
  have : inR m 0 ((shl64 1 n) - 1) = true := by simpa using h
  rw [outU, this, Bool.true_and]
theorem vs_no1 {n : Int} {xs vs : List Int} (h : ¬ (vs.length : Int) = 6) : vsB n xs vs = false := by rw [vsB, decide_eq_false (by omega)]; rfl
theorem vs_yes {n : Int} {xs vs : List Int} (h : (vs.length : Int) = 6) : vsB n xs vs = !vs.any (outU n xs) := by rw [vsB, decide_eq_true (by omega)]; rfl
theorem va_0 {n : Int} {xs vs : List Int} (h : okPo n xs = false) : false = vaB n xs vs := by simp [vaB, h]
theorem va_1 {n : Int} {xs vs : List Int} {b : Bool} (h : okPo n xs = true) (h2 : vsB n xs vs = b) : b = vaB n xs vs := by rw [vaB, h, h2]; rfl

theorem isUpsetG_c (n : Int) (xs : List Int) (m : Int) (hR : okFr n xs = true) : CallA Tryz.prog 163 [.agg [AI n, LI xs], AI m] (.bool (!(outU n xs m))) := by
 have hF := okFr_rel hR
 have hRel : RelOK n.toNat xs := hF.2.2.2
 have hb0 : 0 ≤ n ∧ n ≤ 8 ∧ (xs.length : Int) = n := ⟨hF.1, hF.2.1, hF.2.2.1⟩
 have hN8 : n.toNat ≤ 30 := by omega
 refine CallA.of Tryz.func163 rfl (by kernel_rfl) ?_
 refine R.go 10 (k14 true (isMask_c n m) rfl ?_)
 refine R.go 1 ?_
 refine (Bool.eq_false_or_eq_true (outR n m)).elim (fun c1 => ?_) (fun c1 => ?_)
 ·refine k6 (!(outR n m)) true (bnF c1) ?_
  skip
  refine k6 (!(outR n m)) true (bnF c1) ?_
  refine k6 (!(outR n m)) true (bnF c1) ?_
  refine k6 (!(outR n m)) true (bnF c1) ?_
  refine k6 (!(outR n m)) true (bnF c1) ?_
  refine k6 (!(outR n m)) true (bnF c1) ?_
  refine k7 (!(outR n m)) false (bnF c1) ?_
  exact R.go 2 (k17 (.bool false) (by first | (apply congrArg AV.bool; first | (rw [outU_1 hb0.1 hb0.2.1 (by assumption)]; rfl) | (rw [outU_2 hb0.1 hb0.2.1 (by assumption), Bool.not_not])) | (exfalso; omega)))
 ·refine k5 (!(outR n m)) true (bnT c1) ?_
  skip
  refine R.go 1 (k5 (!(outR n m)) true (bnT c1) ?_)
  refine R.go 1 (k5 (!(outR n m)) true (bnT c1) ?_)
  refine R.go 1 (k5 (!(outR n m)) true (bnT c1) ?_)
  refine k14 true (imageI_c n xs m hR (by first | assumption | exact outR_in hb0.1 hb0.2.1 (by assumption))) rfl ?_
  refine k5 (!(outR n m)) true (bnT c1) ?_
  refine R.go 1 (k5 (!(outR n m)) true (bnT c1) ?_)
  refine R.go 1 (k7 (!(outR n m)) true (bnT c1) ?_)
  exact R.go 2 (k17 (.bool (decide ((img xs m xs.length) = m))) (by first | (apply congrArg AV.bool; first | (rw [outU_1 hb0.1 hb0.2.1 (by assumption)]; rfl) | (rw [outU_2 hb0.1 hb0.2.1 (by assumption), Bool.not_not])) | (exfalso; omega)))

theorem isVal1_c (m : Int) (n : Int) (xs : List Int) (hR : okFr n xs = true) : CallA Tryz.prog 280 [AI m, .rptr [AI n, LI xs]] (.bool (outU n xs m)) := by
 refine CallA.of Tryz.func280 rfl (by kernel_rfl) ?_
 refine R.go 8 (k14 true (isUpsetG_c n xs m hR) rfl ?_)
 exact R.go 3 (k17 (.bool (!(!(outU n xs m)))) (by first | (apply congrArg AV.bool; simp) | (exfalso; omega)))

theorem indexVal_c (a : List Int) (n : Int) (xs : List Int) (hR : okFr n xs = true) (hl : a.length ≤ 1000000000) : CallA Tryz.prog 172 [LI a, .fn 280 [.rptr [AI n, LI xs]]] (AI (fidxI (outU n xs) a 0)) := by
 refine CallA.of Tryz.func172 rfl (by kernel_rfl) ?_
 refine R.go 12 (k15 (fun (i : Nat) => (⟨(frm 19 [(0, LI a), (1, .fn 280 [.rptr [AI n, LI xs]]), (7, AI a.length), (8, AI (i : Int))]), []⟩ : St)) (fun (i : Nat) => (i ≤ a.length) ∧ (fidxI (outU n xs) a 0 = fidxI (outU n xs) (a.drop i) i)) (fun (i : Nat) => a.length - i) 0 [0, 1, 7, 8] none ⟨(by omega), (by rfl)⟩ ?_)
 rintro i ⟨h3_1, h3_2⟩ R1 N2
 refine R.go 5 (k3 ((i : Int) < (a.length : Int)) (fun c4 => ?_) (fun c4 => ?_))
 ·refine R.go 13 (k8 eI a 0 i (i : Int) rfl eI_len ?_)
  refine R.go 1 (k14 true (isVal1_c (a.getD i 0) n xs hR) rfl ?_)
  refine R.go 1 (R.condB (outU n xs (a.getD i 0)) (by kernel_rfl) (fun c5 => ?_) (fun c5 => ?_))
  ·exact R.go 5 (k17 (AI (i : Int)) (by first | (apply congrArg AI; rw [‹fidxI (outU n xs) a 0 = _›]; first | exact (fidxI_end (by omega)).symm | exact (fidxI_hit (by omega) (by assumption)).symm) | (exfalso; omega)))
  ·refine R.go 3 (k1 ((i : Int) + 1) ?_)
   exact R.go 2 (k16 R1 (N2 (i + 1) [0, 1, 7, 8] none _ (by kernel_rfl) (by kernel_rfl) ⟨(by omega), (by rw [‹fidxI (outU n xs) a 0 = _›]; exact fidxI_miss (by omega) (by assumption))⟩ (by show (a.length - (i + 1)) < (a.length - i); omega)))
 ·exact R.go 5 (k17 (AI (-1)) (by first | (apply congrArg AI; rw [‹fidxI (outU n xs) a 0 = _›]; first | exact (fidxI_end (by omega)).symm | exact (fidxI_hit (by omega) (by assumption)).symm) | (exfalso; omega)))

theorem containsVal_c (a : List Int) (n : Int) (xs : List Int) (hR : okFr n xs = true) (hl : a.length ≤ 1000000000) : CallA Tryz.prog 77 [LI a, .fn 280 [.rptr [AI n, LI xs]]] (.bool (a.any (outU n xs))) := by
 refine CallA.of Tryz.func77 rfl (by kernel_rfl) ?_
 refine R.go 8 (k14 true (indexVal_c a n xs hR hl) rfl ?_)
 exact R.go 3 (k17 (.bool (decide ((fidxI (outU n xs) a 0) ≥ 0))) (by first | (apply congrArg AV.bool; rw [Bool.eq_iff_iff, decide_eq_true_iff]; exact fidxI_any (Int.le_refl 0)) | (exfalso; omega)))

theorem isValuation_c (n : Int) (xs : List Int) (vs : List Int) (lx : xs.length ≤ 1048576) (lv : vs.length ≤ 1048576) : CallA Tryz.prog 165 [.agg [AI n, LI xs], LI vs] (.bool (vaB n xs vs)) := by
 refine CallA.of Tryz.func165 rfl (by kernel_rfl) ?_
 refine R.go 8 (k14 true (isPoset_c n xs (by first | omega | assumption | exact okPo_fr (by assumption))) rfl ?_)
 refine R.go 1 ?_
 refine (Bool.eq_false_or_eq_true (okPo n xs)).elim (fun c1 => ?_) (fun c1 => ?_)
 ·refine k5 (okPo n xs) true c1 ?_
  refine R.go 1 (k5 (okPo n xs) true c1 ?_)
  refine R.go 1 (k5 (okPo n xs) true c1 ?_)
  refine R.go 1 (k7 (okPo n xs) true c1 ?_)
  refine R.go 1 ?_
  by_cases c2 : (vs.length : Int) = 6
  ·refine k5 (decide ((vs.length : Int) = 6)) true (dT c2) ?_
   refine R.go 1 (k5 (decide ((vs.length : Int) = 6)) true (dT c2) ?_)
   refine R.go 1 (k5 (decide ((vs.length : Int) = 6)) true (dT c2) ?_)
   refine k14 false (containsVal_c vs n xs (by first | assumption | exact okPo_fr (by assumption)) (by first | omega | assumption | exact okPo_fr (by assumption))) rfl ?_
   refine k5 (decide ((vs.length : Int) = 6)) true (dT c2) ?_
   refine R.go 1 (k7 (decide ((vs.length : Int) = 6)) true (dT c2) ?_)
   exact R.go 2 (k17 (.bool (!(vs.any (outU n xs)))) (by first | (apply congrArg AV.bool; first | exact va_0 (by assumption) | exact va_1 (by assumption) (vs_no1 (by assumption)) | exact va_1 (by assumption) (vs_yes (by assumption))) | (exfalso; omega)))
  ·refine k6 (decide ((vs.length : Int) = 6)) true (dF c2) ?_
   refine k6 (decide ((vs.length : Int) = 6)) true (dF c2) ?_
   refine k6 (decide ((vs.length : Int) = 6)) true (dF c2) ?_
   refine k6 (decide ((vs.length : Int) = 6)) true (dF c2) ?_
   refine k7 (decide ((vs.length : Int) = 6)) false (dF c2) ?_
   exact R.go 2 (k17 (.bool false) (by first | (apply congrArg AV.bool; first | exact va_0 (by assumption) | exact va_1 (by assumption) (vs_no1 (by assumption)) | exact va_1 (by assumption) (vs_yes (by assumption))) | (exfalso; omega)))
 ·refine k6 (okPo n xs) true c1 ?_
  refine k6 (okPo n xs) true c1 ?_
  refine k6 (okPo n xs) true c1 ?_
  refine k7 (okPo n xs) false c1 ?_
  exact R.go 8 (k17 (.bool false) (by first | (apply congrArg AV.bool; first | exact va_0 (by assumption) | exact va_1 (by assumption) (vs_no1 (by assumption)) | exact va_1 (by assumption) (vs_yes (by assumption))) | (exfalso; omega)))

theorem ua_3 (n : Int) (xs : List Int) (a : List (Int × Int)) : ¬ pcode n xs [a] = 0 ∨ uaC n xs = 0 ∨ uaC n xs = 3 := by
  rcases ua_cases n xs with h | ⟨h, h2⟩ | ⟨h, h2⟩
  · left; intro q
    have := (pc1 q).1
    rw [h] at this; cases this
  · exact .inr (.inr (ua_lim h h2).1)
  · exact .inr (.inl (ua_ok h h2).1)
theorem ua_30 {n : Int} {xs : List Int} (h : uaC n xs = 0) : okPo n xs = true ∧ (upL n xs).length ≤ 30 := by
  rcases ua_cases n xs with q | ⟨q, q2⟩ | ⟨q, q2⟩
  · rw [(ua_bad q).1] at h; cases h
  · rw [(ua_lim q q2).1] at h; cases h
  · exact ⟨q, q2⟩
theorem ua_tab {n : Int} {xs : List Int} (h : uaC n xs = 0) (f : List Int → Nat → Nat → Int) : uaT f n xs = uTab f n xs := by
  rw [uaT, if_pos h, uTab, ordU_len]
theorem ua_bot {n : Int} {xs : List Int} (h : uaC n xs = 0) : uaB n xs = 0 := by
  obtain ⟨hP, h30⟩ := ua_30 h
  have hS := up_sys hP h30
  have hH := up_hy hP h30
  have hpos := upL_pos hP
  have hx : xs.length ≤ 60 := by have := okFr_rel (okPo_fr hP); omega
  rw [uaB, if_pos h]
  have := ox_b_is hH.ord (k := 0) (by rw [ordU_len]; omega) fun z hz => by
    rw [ordU_len] at hz
    rw [leX, ordU_tb hS (by omega)]
    refine ⟨hz, (sub_bits hS (by omega) hz).2 fun i a => ?_⟩
    have e : (upL n xs).getD 0 0 = 0 := upL_0 xs hx _
    rw [e, tb_zero] at a; cases a
  exact this
theorem ua_top {n : Int} {xs : List Int} (h : uaC n xs = 0) : uaP n xs = (tX (ordU (upL n xs)) : Int) := by
  obtain ⟨hP, h30⟩ := ua_30 h
  rw [uaP, if_pos h]
  exact (hx_t (up_hy hP h30)).1
theorem au_main {n : Int} {xs : List Int} {a : List (Int × Int)} (hc : pcode n xs [a] = 0) (hu : uaC n xs = 0) :
    hyIs (uaA n xs) (uaO n xs) (uaI n xs) (uaB n xs) (uaP n xs) = true ∧ hcode (uaA n xs) (uaO n xs) (uaI n xs) (uaB n xs) (uaP n xs) a = 0 ∧ (hvB (uaA n xs) (uaO n xs) (uaI n xs) (uaP n xs) a == pvV n xs a) = true ∧ (uaA n xs).length = (upL n xs).length := by
  obtain ⟨hP, h30⟩ := ua_30 hu
  have e1 : uaA n xs = uTab hyM n xs := ua_tab hu hyM
  have e2 : uaO n xs = uTab hyJ n xs := ua_tab hu hyJ
  have e3 : uaI n xs = uTab hyI n xs := ua_tab hu hyI
  have hl := ordU_len (upL n xs)
  have hI : hyIs (uTab hyM n xs) (uTab hyJ n xs) (uTab hyI n xs) (uaB n xs) (uaP n xs) = true := by
    rw [uaB, uaP, if_pos hu, if_pos hu]
    exact au_is hc h30
  rw [e1, e2, e3]
  refine ⟨hI, au_code hc hI, ?_, uTab_len hyM n xs⟩
  rw [beq_iff_eq, ua_top hu]; exact au_valid hc h30
theorem up_R {n : Int} {xs : List Int} (hP : okPo n xs = true) : upR n xs = upL n xs ∧ poC n xs = 0 := by
  refine ⟨by rw [upR, if_pos hP], ?_⟩
  rw [poC, if_pos hP]
theorem ua_rows (f : List Int → Nat → Nat → Int) (n : Int) (xs : List Int) : (uaT f n xs).length ≤ 1000000000 ∧ ∀ i0 : Nat, i0 < (uaT f n xs).length → ((uaT f n xs).getD i0 []).length ≤ 1000000000 := by
  obtain ⟨h1, h2⟩ := uaT_len f n xs
  exact ⟨by omega, fun j hj => by have := h2 j hj; omega⟩
/-- Elements and their sets, so far. -/
def EV_ (n : Int) (xs E V : List Int) : Prop := ∀ j : Nat, j < E.length → inN (upL n xs).length (E.getD j 0) ∧ V.getD j 0 = (upL n xs).getD (E.getD j 0).toNat 0
theorem ev_nil (n : Int) (xs : List Int) : EV_ n xs [] [] := fun j hj => by simp at hj
theorem getD_app (l : List Int) (v : Int) (j : Nat) : (l ++ [v]).getD j 0 = if j < l.length then l.getD j 0 else if j = l.length then v else 0 := by
  by_cases h : j < l.length
  · rw [if_pos h, List.getD_eq_getElem?_getD, List.getElem?_append_left h, ← List.getD_eq_getElem?_getD]
  · rw [if_neg h, List.getD_eq_getElem?_getD, List.getElem?_append_right (by omega)]
    by_cases e : j = l.length
    · rw [if_pos e, show j - l.length = 0 by omega]; rfl
    · rw [if_neg e, List.getElem?_eq_none (by simp; omega)]; rfl
theorem ev_snoc {n : Int} {xs E V : List Int} {k : Int} {u : List Int} (h : EV_ n xs E V) (hl : V.length = E.length) (hk : 0 ≤ k ∧ k < (upL n xs).length) (hu : u = upL n xs) : EV_ n xs (E ++ [k]) (V ++ [u.getD k.toNat 0]) := fun j hj => by
  rw [List.length_append, List.length_singleton] at hj
  rw [getD_app, getD_app, hl]
  by_cases e : j < E.length
  · rw [if_pos e, if_pos e]; exact h j e
  · rw [if_neg e, if_neg e, if_pos (by omega), if_pos (by omega), hu]; exact ⟨hk, rfl⟩
theorem au_end {n : Int} {xs E V : List Int} {a : List (Int × Int)} (hc : pcode n xs [a] = 0) (hu : uaC n xs = 0) (h : EV_ n xs E V) (hE : E.length = 6) (hV : V.length = 6) :
    vaB n xs V = true ∧ isF a = true ∧ a.any modN = false ∧ E.any (outN (uaA n xs).length) = false ∧ inN (upL n xs).length (heyV (uaA n xs) (uaO n xs) (uaI n xs) E a) ∧ (upL n xs).getD (heyV (uaA n xs) (uaO n xs) (uaI n xs) E a).toNat 0 = fcd n xs V a := by
  obtain ⟨hP, hF, hp, _⟩ := pc1 hc
  obtain ⟨_, h30⟩ := ua_30 hu
  obtain ⟨_, _, _, hl⟩ := au_main hc hu
  have e1 : uaA n xs = uTab hyM n xs := ua_tab hu hyM
  have e2 : uaO n xs = uTab hyJ n xs := ua_tab hu hyJ
  have e3 : uaI n xs = uTab hyI n xs := ua_tab hu hyI
  have hk := hey_fcd hP h30 (es := E) (vs := V) (fun v hv => h v (by omega)) (isF_okm hF).1 hp
  refine ⟨?_, hF, hp, ?_, by rw [e1, e2, e3]; exact hk.1, by rw [e1, e2, e3]; exact hk.2⟩
  · have h0 := (okFr_rel (okPo_fr hP)).1
    have h8 := (okFr_rel (okPo_fr hP)).2.1
    rw [vaB, hP, Bool.true_and, vs_yes (by omega), Bool.not_eq_true', List.any_eq_false]
    intro v hv
    obtain ⟨j, hj, rfl⟩ := List.getElem_of_mem hv
    have h1 := h j (by omega)
    have hVj : V.getD j 0 = V[j] := by rw [List.getD_eq_getElem?_getD, List.getElem?_eq_getElem hj]; rfl
    rw [hVj] at h1
    have hix : (E.getD j 0).toNat < (upL n xs).length := by have := h1.1.1; have := h1.1.2; omega
    have h2 : V[j] ∈ upL n xs := by rw [h1.2, List.getD_eq_getElem?_getD, List.getElem?_eq_getElem hix]; exact List.getElem_mem _
    have h3 : InM n.toNat V[j] := by rw [h1.2]; exact upL_in hP _
    have h5 := (hq_upTo_mem (xs := xs) (m := V[j]) _).1 h2
    have h6 := (full_rng (n := n.toNat) (by omega)).1 h3
    rw [nn_eq h0] at h6
    rw [outU, h6, decide_eq_true h5.2.2]
    decide
  · rw [List.any_eq_false]
    intro v hv
    obtain ⟨j, hj, rfl⟩ := List.getElem_of_mem hv
    have h1 := (h j hj).1
    rw [List.getD_eq_getElem?_getD, List.getElem?_eq_getElem hj, Option.getD_some] at h1
    rw [hl, outN_no.2 h1]; decide

theorem forcedSet_c (n : Int) (xs : List Int) (vs : List Int) (a : List (Int × Int)) (hva : vaB n xs vs = true) (hF : isF a = true) (hpl : a.any modN = false) (h6 : vs.length = 6) : CallA Tryz.prog 23 [.agg [AI n, LI xs], LI vs, LN a] (.tup [AI (fcd n xs vs a), AI 0]) := by
 have hpo := vaB_po hva
 have hFr := okFr_rel (okPo_fr hpo.1)
 have hb0 : 0 ≤ n ∧ n ≤ 8 ∧ (xs.length : Int) = n := ⟨hFr.1, hFr.2.1, hFr.2.2.1⟩
 have hA := isF_okm hF
 have hal : a.length ≤ 40 := hA.2
 have hok : OKM vs.length a := by rw [h6]; exact hA.1
 refine CallA.of Tryz.func23 rfl (by kernel_rfl) ?_
 refine R.go 12 (R.enter (avs := [.agg [AI n, LI xs], LI vs, LN a]) Tryz.func74 rfl (by kernel_rfl) (by kernel_rfl) (by kernel_rfl) ?_)
 intro us1
 refine R.go 11 (k14 true (isValuation_c n xs vs (by first | omega | (simp <;> omega)) (by first | omega | (simp <;> omega))) rfl ?_)
 refine R.go 2 (k5 (!(vaB n xs vs)) false (bnF hva) ?_)
 refine R.go 1 (k5 (!(vaB n xs vs)) false (bnF hva) ?_)
 refine k14 true (isFormula_c a (by first | omega | (simp <;> omega))) rfl ?_
 refine k5 (!(vaB n xs vs)) false (bnF hva) ?_
 refine R.go 1 (k7 (!(vaB n xs vs)) false (bnF hva) ?_)
 refine R.go 2 (R.els (!(isF a)) (by kernel_rfl) (bnF hF) ?_)
 refine R.go 3 (k14 true (isPlain_c a (by first | omega | (simp <;> omega))) rfl ?_)
 refine R.go 3 (k19 (!(a.any modN)) (fun c2 => ?_) (fun c2 => ?_))
 ·refine R.go 4 (R.back (AI 5) (frm 20 [(0, .agg [AI n, LI xs]), (1, LI vs), (2, LN a), (3, .ptr 0 0), (6, AI 0), (7, AI 0), (9, .agg [AI n, LI xs]), (10, LI vs), (11, LN a)]) (by kernel_rfl) (by kernel_rfl) (by kernel_rfl) ?_)
  exact R.go 14 (k17 (.tup [AI 0, AI 5]) (by first | (first | rfl | exact absurd (hva.symm.trans (by assumption : _ = false)) (by decide) | exact absurd (hF.symm.trans (by assumption : _ = false)) (by decide) | exact absurd (hpl.symm.trans (by assumption : _ = true)) (by decide) | exact absurd hpl (by assumption) | (exfalso; have hq := (by assumption : (!(a.any modN)) = false); rw [hpl] at hq; exact absurd hq (by decide))) | (exfalso; omega)))
 ·refine R.go 6 (R.back (AI 0) (frm 20 [(0, .agg [AI n, LI xs]), (1, LI vs), (2, LN a), (3, .ptr 0 0), (6, AI 0), (7, AI 0), (9, .agg [AI n, LI xs]), (10, LI vs), (11, LN a)]) (by kernel_rfl) (by kernel_rfl) (by kernel_rfl) ?_)
  refine R.go 14 (k14 true (forced2_c n xs vs a hok hpl (by omega) (by omega) (by first | omega | (simp <;> omega)) (by first | omega | (simp <;> omega))) rfl ?_)
  exact R.go 3 (k17 (.tup [AI (fcd n xs vs a), AI 0]) (by rfl))

theorem drIPV_c (c : List Int) (hc : BY c) : CallX Tryz.prog 15 [LB c] [] (fun (resX : AV) (objX : List AObj) => ∃ n : Int, ∃ xs : List Int, ∃ a : List (Int × Int), (xs.length ≤ 20) ∧ (a.length ≤ 1000) ∧ resX = .tup [.agg [AI n, LI xs], LN a] ∧ objX = []) := by
 have hcl : c.length ≤ 4096 := hc.1
 have hcb := hc.2
 refine CallX.dropE (CallX.ofF Tryz.func15 rfl (by kernel_rfl) ?_)
 intro usC frC hfC
 refine R.go 8 (R.enter (avs := [LB c]) Tryz.func52 rfl (by kernel_rfl) (by kernel_rfl) (by kernel_rfl) ?_)
 intro us1
 refine R.go 9 (k2 .u64 (c.length : Int) (u64_id (by omega) (by omega)) ?_)
 refine R.go 11 (k15 ((fun | (i, hh) => (⟨(frm 38 [(0, LB c), (3, .ptr 3 0), (4, AI (i : Int))]), [.frame usC frC, .box 35 [AI 0, .nil], .frame us1 (frm 14 [(0, LB c), (2, .ptr 1 0), (3, .nil), (7, LB c)]), .box 157 [LB c, AI 0, .int .u64 hh]]⟩ : St) : Nat × Int → St)) (fun | (i, hh) => i ≤ c.length) (fun | (i, hh) => c.length - i) (0, (IntKind.u64.wrap (7129 + (c.length : Int)))) [0, 3, 4] none (by omega) ?_)
 rintro ⟨i, hh⟩ h5_1 R2 N3
 refine R.go 8 ?_
 by_cases c6 : (i : Int) < (c.length : Int)
 ·refine k5 (decide ((i : Int) < (c.length : Int))) true (dT c6) ?_
  refine R.go 1 (k5 (decide ((i : Int) < (c.length : Int))) true (dT c6) ?_)
  refine R.go 1 (k7 (decide ((i : Int) < (c.length : Int))) true (dT c6) ?_)
  refine R.go 1 (k3 ((i : Int) < 4096) (fun c7 => ?_) (fun c7 => ?_))
  ·have hbi := hcb i (by omega)
   refine R.go 12 (k8 eB c 0 i (i : Int) rfl eB_len ?_)
   refine R.go 1 (k2 .u64 (c.getD i 0) (u64_id (by omega) (by omega)) ?_)
   refine R.go 9 (k1 ((i : Int) + 1) ?_)
   exact R.go 2 (k16 R2 (N3 (i + 1, IntKind.u64.wrap ((IntKind.u64.wrap ((IntKind.u64.wrap (hh * 1099511628211)) + (c.getD i 0))) + 11)) [0, 3, 4] none _ (by kernel_rfl) (by kernel_rfl) (by omega) (by show (c.length - (i + 1)) < (c.length - i); omega)))
  ·refine R.go 6 (R.back (.ptr 3 0) (frm 14 [(0, LB c), (2, .ptr 1 0), (3, .nil), (7, LB c)]) (by kernel_rfl) (by kernel_rfl) (by kernel_rfl) ?_)
   refine R.deadF 2 (by kernel_rfl) (by kernel_rfl) ?_
   refine k26 (k28i 0 usC frC (k28j 1 [] [] (CallX.perm [1, 0] [1, 0] (k29f 1 35 [AI 0, .nil] (pairX_c_r1 c 0 hh 35 2 1 [AI 0, .nil] hc)) (by kernel_rfl) (by kernel_rfl) (by kernel_rfl) (by rintro _ _ ⟨_, ⟨_, _, _, _, _, _, _, rfl, rfl⟩, rfl⟩; exact Nat.le_of_ble_eq_true (by kernel_rfl))))) ?_
   rintro _ _ ⟨_, _, ⟨_, _, ⟨_, _, ⟨_, ⟨n_8, xs_9, a_10, p1_11, h1_12, f13, f14, rfl, rfl⟩, rfl⟩, rfl, rfl⟩, rfl, rfl⟩, rfl, rfl⟩
   exact R.go 14 (R.retX (res := .tup [.agg [AI n_8, LI xs_9], LN a_10]) (hp' := [.dead, .box 35 [AI n_8, LI xs_9], .frame [] [], .box 157 [LB c, AI (p1_11 : Int), .int .u64 h1_12], .box 35 [AI n_8, LI xs_9]]) (by kernel_rfl) (by kernel_rfl) (by kernel_rfl) (by kernel_rfl) ⟨[], by kernel_rfl, by decide, n_8, xs_9, a_10, by first | assumption | omega, by first | assumption | omega, by kernel_rfl, by kernel_rfl⟩)
 ·refine k6 (decide ((i : Int) < (c.length : Int))) true (dF c6) ?_
  refine k6 (decide ((i : Int) < (c.length : Int))) true (dF c6) ?_
  refine k7 (decide ((i : Int) < (c.length : Int))) false (dF c6) ?_
  refine R.go 8 (R.back (.ptr 3 0) (frm 14 [(0, LB c), (2, .ptr 1 0), (3, .nil), (7, LB c)]) (by kernel_rfl) (by kernel_rfl) (by kernel_rfl) ?_)
  refine R.deadF 2 (by kernel_rfl) (by kernel_rfl) ?_
  refine k26 (k28i 0 usC frC (k28j 1 [] [] (CallX.perm [1, 0] [1, 0] (k29f 1 35 [AI 0, .nil] (pairX_c_r1 c 0 hh 35 2 1 [AI 0, .nil] hc)) (by kernel_rfl) (by kernel_rfl) (by kernel_rfl) (by rintro _ _ ⟨_, ⟨_, _, _, _, _, _, _, rfl, rfl⟩, rfl⟩; exact Nat.le_of_ble_eq_true (by kernel_rfl))))) ?_
  rintro _ _ ⟨_, _, ⟨_, _, ⟨_, _, ⟨_, ⟨n_15, xs_16, a_17, p1_18, h1_19, f20, f21, rfl, rfl⟩, rfl⟩, rfl, rfl⟩, rfl, rfl⟩, rfl, rfl⟩
  exact R.go 14 (R.retX (res := .tup [.agg [AI n_15, LI xs_16], LN a_17]) (hp' := [.dead, .box 35 [AI n_15, LI xs_16], .frame [] [], .box 157 [LB c, AI (p1_18 : Int), .int .u64 h1_19], .box 35 [AI n_15, LI xs_16]]) (by kernel_rfl) (by kernel_rfl) (by kernel_rfl) (by kernel_rfl) ⟨[], by kernel_rfl, by decide, n_15, xs_16, a_17, by first | assumption | omega, by first | assumption | omega, by kernel_rfl, by kernel_rfl⟩)

theorem big_c (c : List Int) : CallA Tryz.prog 8 [LB c] (.bool (decide ((c.length : Int) > 4096))) := by
  refine CallA.of Tryz.func8 rfl (by kernel_rfl) ?_
  exact R.go 11 (R.retE (.bool (decide ((c.length : Int) > 4096))) (by kernel_rfl) (by kernel_rfl) (by rfl))

set_option maxHeartbeats 4000000 in
theorem lawAU_c (c : List Int) (hcb : ∀ q : Nat, q < c.length → 0 ≤ c.getD q 0 ∧ c.getD q 0 ≤ 255) : CallA Tryz.prog 4 [LB c] (.bool true) := by
 refine CallA.of Tryz.func4 rfl (by kernel_rfl) ?_
 refine R.go 8 (k14 true (big_c c) rfl ?_)
 refine R.go 1 (k3 ((c.length : Int) > 4096) (fun c1 => ?_) (fun c1 => ?_))
 ·exact R.go 4 (k17 (.bool true) (by rfl))
 ·have hc : BY c := ⟨by omega, hcb⟩
  refine R.go 4 (k26 (drIPV_c c hc) ?_)
  rintro _ _ ⟨n_2, xs_3, a_4, f5, f6, rfl, rfl⟩
  refine R.go 11 (k14 true (PV_impl n_2 xs_3 a_4 (by first | omega | (simp <;> omega)) (by first | omega | (simp <;> omega))) rfl ?_)
  refine R.go 10 (k14 true (PV_spec n_2 xs_3 a_4 (by first | omega | (simp <;> omega)) (by first | omega | (simp <;> omega))) rfl ?_)
  refine R.go 13 (k5 (!decide ((pcode n_2 xs_3 [a_4]) = (pcode n_2 xs_3 [a_4]))) false (nF rfl) ?_)
  refine R.go 1 (k5 (!decide ((pcode n_2 xs_3 [a_4]) = (pcode n_2 xs_3 [a_4]))) false (nF rfl) ?_)
  refine R.go 1 (k5 (!decide ((pcode n_2 xs_3 [a_4]) = (pcode n_2 xs_3 [a_4]))) false (nF rfl) ?_)
  refine R.go 1 (k7 (!decide ((pcode n_2 xs_3 [a_4]) = (pcode n_2 xs_3 [a_4]))) false (nF rfl) ?_)
  refine R.go 1 (R.els (!((pvV n_2 xs_3 a_4) == (pvV n_2 xs_3 a_4))) (by kernel_rfl) (bnF (beq_self_eq_true _)) ?_)
  refine R.go 4 (k14 true (UpsetAlgebraF_c n_2 xs_3 (by first | omega | (simp <;> omega))) rfl ?_)
  refine R.go 13 ?_
  by_cases c7 : (pcode n_2 xs_3 [a_4]) = 0
  ·refine k5 (!decide ((pcode n_2 xs_3 [a_4]) = 0)) false (nF c7) ?_
   refine R.go 1 (k5 (!decide ((pcode n_2 xs_3 [a_4]) = 0)) false (nF c7) ?_)
   refine R.go 1 (k7 (!decide ((pcode n_2 xs_3 [a_4]) = 0)) false (nF c7) ?_)
   refine R.go 1 (k4 ((uaC n_2 xs_3) = 0) (fun c8 => ?_) (fun c8 => ?_))
   ·have hu3 : ¬ pcode n_2 xs_3 [a_4] = 0 ∨ uaC n_2 xs_3 = 0 ∨ uaC n_2 xs_3 = 3 := ua_3 _ _ _
    refine R.go 5 (k5 (!decide ((pcode n_2 xs_3 [a_4]) = 0)) false (nF c7) ?_)
    refine R.go 1 (k5 (!decide ((pcode n_2 xs_3 [a_4]) = 0)) false (nF c7) ?_)
    refine R.go 1 (k7 (!decide ((pcode n_2 xs_3 [a_4]) = 0)) false (nF c7) ?_)
    exact R.go 2 (k17 (.bool (decide ((uaC n_2 xs_3) = 3))) (by first | (first | rfl | exact congrArg AV.bool (decide_eq_true (by omega)) | exact absurd (hM3.symm.trans (by assumption : _ = false)) (by decide) | (apply congrArg AV.bool; rw [hur1]; exact decide_eq_true hN7) | (exfalso; omega)) | (exfalso; omega)))
   ·have hpc : pcode n_2 xs_3 [a_4] = 0 := by omega
    have hu0 : uaC n_2 xs_3 = 0 := by omega
    have hM := au_main hpc hu0
    have hM1 := hM.1
    have hM2 := hM.2.1
    have hM3 := hM.2.2.1
    have hM4 := hM.2.2.2
    have hP : okPo n_2 xs_3 = true := (ua_30 hu0).1
    have h30 := (ua_30 hu0).2
    have hupp := upL_pos hP
    have hb0 := ua_bot hu0
    have hrA := ua_rows hyM n_2 xs_3
    have hrO := ua_rows hyJ n_2 xs_3
    have hrI := ua_rows hyI n_2 xs_3
    have hA1 : (uaA n_2 xs_3).length ≤ 1000000000 := hrA.1
    have hO1 : (uaO n_2 xs_3).length ≤ 1000000000 := hrO.1
    have hI1 : (uaI n_2 xs_3).length ≤ 1000000000 := hrI.1
    have hA2 : ∀ i0 : Nat, i0 < (uaA n_2 xs_3).length → ((uaA n_2 xs_3).getD i0 []).length ≤ 1000000000 := hrA.2
    have hO2 : ∀ i0 : Nat, i0 < (uaO n_2 xs_3).length → ((uaO n_2 xs_3).getD i0 []).length ≤ 1000000000 := hrO.2
    have hI2 : ∀ i0 : Nat, i0 < (uaI n_2 xs_3).length → ((uaI n_2 xs_3).getD i0 []).length ≤ 1000000000 := hrI.2
    have hur := up_R hP
    have hur1 := hur.1
    have hur2 := hur.2
    have hur3 : (upR n_2 xs_3).length = (upL n_2 xs_3).length := by rw [hur1]
    refine R.go 5 (k14 true (isValidIn_c (uaA n_2 xs_3) (uaO n_2 xs_3) (uaI n_2 xs_3) (uaB n_2 xs_3) (uaP n_2 xs_3) a_4 (by first | omega | (simp <;> omega)) hA2 hO2 hI2 (by assumption) (by omega)) rfl ?_)
    refine R.go 9 (k14 true (UP_impl n_2 xs_3 (by first | omega | (simp <;> omega))).frz rfl ?_)
    refine R.go 12 ?_
    by_cases c9 : (poC n_2 xs_3) = 0
    ·refine k5 (!decide ((poC n_2 xs_3) = 0)) false (nF c9) ?_
     refine R.go 1 (k5 (!decide ((poC n_2 xs_3) = 0)) false (nF c9) ?_)
     refine R.go 1 (k5 (!decide ((poC n_2 xs_3) = 0)) false (nF c9) ?_)
     refine R.go 1 (k5 (!decide ((poC n_2 xs_3) = 0)) false (nF c9) ?_)
     refine R.go 1 (k5 (!decide ((poC n_2 xs_3) = 0)) false (nF c9) ?_)
     refine R.go 1 (k5 (!decide ((poC n_2 xs_3) = 0)) false (nF c9) ?_)
     refine R.go 1 (k7 (!decide ((poC n_2 xs_3) = 0)) false (nF c9) ?_)
     refine R.go 1 ?_
     by_cases c10 : ((upR n_2 xs_3).length : Int) = ((uaA n_2 xs_3).length : Int)
     ·refine k5 (!decide (((upR n_2 xs_3).length : Int) = ((uaA n_2 xs_3).length : Int))) false (nF c10) ?_
      refine R.go 1 (k5 (!decide (((upR n_2 xs_3).length : Int) = ((uaA n_2 xs_3).length : Int))) false (nF c10) ?_)
      refine R.go 1 (k5 (!decide (((upR n_2 xs_3).length : Int) = ((uaA n_2 xs_3).length : Int))) false (nF c10) ?_)
      refine R.go 4 (k5 (!decide (((upR n_2 xs_3).length : Int) = ((uaA n_2 xs_3).length : Int))) false (nF c10) ?_)
      refine R.go 1 (k7 (!decide (((upR n_2 xs_3).length : Int) = ((uaA n_2 xs_3).length : Int))) false (nF c10) ?_)
      refine R.go 1 (k19 (((hvB (uaA n_2 xs_3) (uaO n_2 xs_3) (uaI n_2 xs_3) (uaP n_2 xs_3) a_4) == (pvV n_2 xs_3 a_4))) (fun c11 => ?_) (fun c11 => ?_))
      ·exact R.go 4 (k17 (.bool false) (by first | (first | rfl | exact congrArg AV.bool (decide_eq_true (by omega)) | exact absurd (hM3.symm.trans (by assumption : _ = false)) (by decide) | (apply congrArg AV.bool; rw [hur1]; exact decide_eq_true hN7) | (exfalso; omega)) | (exfalso; omega)))
      ·refine R.go 4 (k26 (k29h 1 26 [LLI (uaA n_2 xs_3), LLI (uaO n_2 xs_3), LLI (uaI n_2 xs_3), AI (uaB n_2 xs_3), AI (uaP n_2 xs_3)] (k29i 0 35 [AI n_2, LI xs_3] (rollX_c_r2 c 6 35 2 1 [AI n_2, LI xs_3] 26 5 1 [LLI (uaA n_2 xs_3), LLI (uaO n_2 xs_3), LLI (uaI n_2 xs_3), AI (uaB n_2 xs_3), AI (uaP n_2 xs_3)] hc))) ?_)
       rintro _ _ ⟨_, ⟨_, ⟨h_12, rfl, rfl⟩, rfl⟩, rfl⟩
       refine R.go 15 (k15 ((fun | (v, V, E, q, hq) => (⟨(frm 157 [(3, .ptr 0 0), (4, LN a_4), (9, .ptr 1 0), (13, LI (upR n_2 xs_3)), (15, .ptr 2 0), (16, .ref 3), (17, .ref 4), (18, AI (v : Int))]), [.box 35 [AI n_2, LI xs_3], .box 26 [LLI (uaA n_2 xs_3), LLI (uaO n_2 xs_3), LLI (uaI n_2 xs_3), AI (uaB n_2 xs_3), AI (uaP n_2 xs_3)], .box 108 [LB c, AI (q : Int), .int .u64 hq], rowA eI 2 1 V, rowA eI 2 1 E]⟩ : St) : Nat × (List Int) × (List Int) × Nat × Int → St)) (fun | (v, V, E, q, hq) => (v ≤ 6) ∧ (E.length = v) ∧ (V.length = v) ∧ (EV_ n_2 xs_3 E V)) (fun | (v, V, E, q, hq) => 6 - v) (0, [], [], 0, h_12) [3, 4, 9, 13, 15, 16, 17, 18] none ⟨(by omega), (by rfl), (by rfl), (by exact ev_nil _ _)⟩ ?_)
       rintro ⟨v, V, E, q, hq⟩ ⟨h16_1, h16_2, h16_3, h16_4⟩ R13 N14
       refine R.go 6 (k3 ((v : Int) < 6) (fun c17 => ?_) (fun c17 => ?_))
       ·refine R.go 8 (k26 (CallX.perm [1, 2, 0, 3, 4] [2, 0, 1, 3, 4] (k29b 2 26 [LLI (uaA n_2 xs_3), LLI (uaO n_2 xs_3), LLI (uaI n_2 xs_3), AI (uaB n_2 xs_3), AI (uaP n_2 xs_3)] (k29a 1 35 [AI n_2, LI xs_3] (belowX_c_r4 c q hq ((upR n_2 xs_3).length) 35 2 1 [AI n_2, LI xs_3] 26 5 1 [LLI (uaA n_2 xs_3), LLI (uaO n_2 xs_3), LLI (uaI n_2 xs_3), AI (uaB n_2 xs_3), AI (uaP n_2 xs_3)] 2 1 V.length (rows eI V) 2 1 E.length (rows eI E) hc))) (by kernel_rfl) (by kernel_rfl) (by kernel_rfl) (by rintro _ _ ⟨_, ⟨_, ⟨_, _, _, _, rfl, rfl⟩, rfl⟩, rfl⟩; exact Nat.le_of_ble_eq_true (by kernel_rfl))) ?_)
        rintro _ _ ⟨_, _, ⟨_, ⟨_, ⟨v_18, p1_19, h1_20, f21, rfl, rfl⟩, rfl⟩, rfl⟩, rfl, rfl⟩
        refine R.go 7 (k12 eI E [v_18] 4 2 1 8 eI_one ?_)
        refine R.go 6 (k8 eI (upR n_2 xs_3) 0 ((v_18).toNat) v_18 (by omega) eI_len ?_)
        refine R.go 2 (k12 eI V [((upR n_2 xs_3).getD ((v_18).toNat) 0)] 3 2 1 8 eI_one ?_)
        refine R.go 5 (k1 ((v : Int) + 1) ?_)
        exact R.go 2 (k16 R13 (N14 (v + 1, V ++ [((upR n_2 xs_3).getD ((v_18).toNat) 0)], E ++ [v_18], p1_19, h1_20) [3, 4, 9, 13, 15, 16, 17, 18] (some [0, 1, 2, 3, 4]) _ (by kernel_rfl) (by kernel_rfl) ⟨(by omega), (by (simp <;> omega)), (by (simp <;> omega)), (by exact ev_snoc (by assumption) (by omega) (by omega) hur1)⟩ (by show (6 - (v + 1)) < (6 - v); omega)))
       ·have hE6 : (E).length = 6 := by omega
        have hV6 : (V).length = 6 := by omega
        have hN := au_end hpc hu0 (by assumption : EV_ n_2 xs_3 E V) hE6 hV6
        have hN1 := hN.1
        have hN2 := hN.2.1
        have hN3 := hN.2.2.1
        have hN4 := hN.2.2.2.1
        have hN5 := hN.2.2.2.2.1.1
        have hN6 := hN.2.2.2.2.1.2
        have hN7 := hN.2.2.2.2.2
        refine R.go 6 (k14 false (forcedSet_c n_2 xs_3 V a_4 (by assumption) (by assumption) (by assumption) (by first | omega | (simp <;> omega))) (by simp [AV.closed, closedL, AI]) ?_)
        refine R.go 11 (k14 false (valueIn_c (uaA n_2 xs_3) (uaO n_2 xs_3) (uaI n_2 xs_3) (uaB n_2 xs_3) (uaP n_2 xs_3) E a_4 (by first | omega | (simp <;> omega)) hA2 hO2 hI2 (by assumption) (by assumption) (by assumption) (by omega) (by first | omega | (simp <;> omega)) (by assumption)) (by simp [AV.closed, closedL, AI]) ?_)
        refine R.go 17 ?_
        by_cases c22 : (heyV (uaA n_2 xs_3) (uaO n_2 xs_3) (uaI n_2 xs_3) E a_4) ≥ 0
        ·refine k5 (decide ((heyV (uaA n_2 xs_3) (uaO n_2 xs_3) (uaI n_2 xs_3) E a_4) ≥ 0)) true (dT c22) ?_
         refine R.go 1 (k5 (decide ((heyV (uaA n_2 xs_3) (uaO n_2 xs_3) (uaI n_2 xs_3) E a_4) ≥ 0)) true (dT c22) ?_)
         refine R.go 1 (k5 (decide ((heyV (uaA n_2 xs_3) (uaO n_2 xs_3) (uaI n_2 xs_3) E a_4) ≥ 0)) true (dT c22) ?_)
         refine R.go 1 (k5 (decide ((heyV (uaA n_2 xs_3) (uaO n_2 xs_3) (uaI n_2 xs_3) E a_4) ≥ 0)) true (dT c22) ?_)
         refine R.go 1 (k7 (decide ((heyV (uaA n_2 xs_3) (uaO n_2 xs_3) (uaI n_2 xs_3) E a_4) ≥ 0)) true (dT c22) ?_)
         refine R.go 1 ?_
         by_cases c23 : (heyV (uaA n_2 xs_3) (uaO n_2 xs_3) (uaI n_2 xs_3) E a_4) < ((upR n_2 xs_3).length : Int)
         ·refine k5 (decide ((heyV (uaA n_2 xs_3) (uaO n_2 xs_3) (uaI n_2 xs_3) E a_4) < ((upR n_2 xs_3).length : Int))) true (dT c23) ?_
          refine R.go 1 (k5 (decide ((heyV (uaA n_2 xs_3) (uaO n_2 xs_3) (uaI n_2 xs_3) E a_4) < ((upR n_2 xs_3).length : Int))) true (dT c23) ?_)
          refine R.go 1 (k5 (decide ((heyV (uaA n_2 xs_3) (uaO n_2 xs_3) (uaI n_2 xs_3) E a_4) < ((upR n_2 xs_3).length : Int))) true (dT c23) ?_)
          refine k8 eI (upR n_2 xs_3) 0 ((heyV (uaA n_2 xs_3) (uaO n_2 xs_3) (uaI n_2 xs_3) E a_4).toNat) (heyV (uaA n_2 xs_3) (uaO n_2 xs_3) (uaI n_2 xs_3) E a_4) (by omega) eI_len ?_
          refine k5 (decide ((heyV (uaA n_2 xs_3) (uaO n_2 xs_3) (uaI n_2 xs_3) E a_4) < ((upR n_2 xs_3).length : Int))) true (dT c23) ?_
          refine R.go 1 (k5 (decide ((heyV (uaA n_2 xs_3) (uaO n_2 xs_3) (uaI n_2 xs_3) E a_4) < ((upR n_2 xs_3).length : Int))) true (dT c23) ?_)
          refine R.go 1 (k5 (decide ((heyV (uaA n_2 xs_3) (uaO n_2 xs_3) (uaI n_2 xs_3) E a_4) < ((upR n_2 xs_3).length : Int))) true (dT c23) ?_)
          refine R.go 1 (k7 (decide ((heyV (uaA n_2 xs_3) (uaO n_2 xs_3) (uaI n_2 xs_3) E a_4) < ((upR n_2 xs_3).length : Int))) true (dT c23) ?_)
          exact R.go 2 (k17 (.bool (decide (((upR n_2 xs_3).getD ((heyV (uaA n_2 xs_3) (uaO n_2 xs_3) (uaI n_2 xs_3) E a_4).toNat) 0) = (fcd n_2 xs_3 V a_4)))) (by first | (first | rfl | exact congrArg AV.bool (decide_eq_true (by omega)) | exact absurd (hM3.symm.trans (by assumption : _ = false)) (by decide) | (apply congrArg AV.bool; rw [hur1]; exact decide_eq_true hN7) | (exfalso; omega)) | (exfalso; omega)))
         ·refine k6 (decide ((heyV (uaA n_2 xs_3) (uaO n_2 xs_3) (uaI n_2 xs_3) E a_4) < ((upR n_2 xs_3).length : Int))) true (dF c23) ?_
          refine k6 (decide ((heyV (uaA n_2 xs_3) (uaO n_2 xs_3) (uaI n_2 xs_3) E a_4) < ((upR n_2 xs_3).length : Int))) true (dF c23) ?_
          refine k6 (decide ((heyV (uaA n_2 xs_3) (uaO n_2 xs_3) (uaI n_2 xs_3) E a_4) < ((upR n_2 xs_3).length : Int))) true (dF c23) ?_
          refine k6 (decide ((heyV (uaA n_2 xs_3) (uaO n_2 xs_3) (uaI n_2 xs_3) E a_4) < ((upR n_2 xs_3).length : Int))) true (dF c23) ?_
          refine k6 (decide ((heyV (uaA n_2 xs_3) (uaO n_2 xs_3) (uaI n_2 xs_3) E a_4) < ((upR n_2 xs_3).length : Int))) true (dF c23) ?_
          refine k6 (decide ((heyV (uaA n_2 xs_3) (uaO n_2 xs_3) (uaI n_2 xs_3) E a_4) < ((upR n_2 xs_3).length : Int))) true (dF c23) ?_
          refine k7 (decide ((heyV (uaA n_2 xs_3) (uaO n_2 xs_3) (uaI n_2 xs_3) E a_4) < ((upR n_2 xs_3).length : Int))) false (dF c23) ?_
          exact R.go 2 (k17 (.bool false) (by first | (first | rfl | exact congrArg AV.bool (decide_eq_true (by omega)) | exact absurd (hM3.symm.trans (by assumption : _ = false)) (by decide) | (apply congrArg AV.bool; rw [hur1]; exact decide_eq_true hN7) | (exfalso; omega)) | (exfalso; omega)))
        ·refine k6 (decide ((heyV (uaA n_2 xs_3) (uaO n_2 xs_3) (uaI n_2 xs_3) E a_4) ≥ 0)) true (dF c22) ?_
         refine k6 (decide ((heyV (uaA n_2 xs_3) (uaO n_2 xs_3) (uaI n_2 xs_3) E a_4) ≥ 0)) true (dF c22) ?_
         refine k6 (decide ((heyV (uaA n_2 xs_3) (uaO n_2 xs_3) (uaI n_2 xs_3) E a_4) ≥ 0)) true (dF c22) ?_
         refine k6 (decide ((heyV (uaA n_2 xs_3) (uaO n_2 xs_3) (uaI n_2 xs_3) E a_4) ≥ 0)) true (dF c22) ?_
         refine k7 (decide ((heyV (uaA n_2 xs_3) (uaO n_2 xs_3) (uaI n_2 xs_3) E a_4) ≥ 0)) false (dF c22) ?_
         exact R.go 10 (k17 (.bool false) (by first | (first | rfl | exact congrArg AV.bool (decide_eq_true (by omega)) | exact absurd (hM3.symm.trans (by assumption : _ = false)) (by decide) | (apply congrArg AV.bool; rw [hur1]; exact decide_eq_true hN7) | (exfalso; omega)) | (exfalso; omega)))
     ·refine k6 (!decide (((upR n_2 xs_3).length : Int) = ((uaA n_2 xs_3).length : Int))) false (nT c10) ?_
      refine k6 (!decide (((upR n_2 xs_3).length : Int) = ((uaA n_2 xs_3).length : Int))) false (nT c10) ?_
      refine k6 (!decide (((upR n_2 xs_3).length : Int) = ((uaA n_2 xs_3).length : Int))) false (nT c10) ?_
      refine R.go 3 (k6 (!decide (((upR n_2 xs_3).length : Int) = ((uaA n_2 xs_3).length : Int))) false (nT c10) ?_)
      refine k7 (!decide (((upR n_2 xs_3).length : Int) = ((uaA n_2 xs_3).length : Int))) true (nT c10) ?_
      exact R.go 6 (k17 (.bool false) (by first | (first | rfl | exact congrArg AV.bool (decide_eq_true (by omega)) | exact absurd (hM3.symm.trans (by assumption : _ = false)) (by decide) | (apply congrArg AV.bool; rw [hur1]; exact decide_eq_true hN7) | (exfalso; omega)) | (exfalso; omega)))
    ·refine k6 (!decide ((poC n_2 xs_3) = 0)) false (nT c9) ?_
     refine k6 (!decide ((poC n_2 xs_3) = 0)) false (nT c9) ?_
     refine k6 (!decide ((poC n_2 xs_3) = 0)) false (nT c9) ?_
     refine k6 (!decide ((poC n_2 xs_3) = 0)) false (nT c9) ?_
     refine k6 (!decide ((poC n_2 xs_3) = 0)) false (nT c9) ?_
     refine k6 (!decide ((poC n_2 xs_3) = 0)) false (nT c9) ?_
     refine k7 (!decide ((poC n_2 xs_3) = 0)) true (nT c9) ?_
     exact R.go 15 (k17 (.bool false) (by first | (first | rfl | exact congrArg AV.bool (decide_eq_true (by omega)) | exact absurd (hM3.symm.trans (by assumption : _ = false)) (by decide) | (apply congrArg AV.bool; rw [hur1]; exact decide_eq_true hN7) | (exfalso; omega)) | (exfalso; omega)))
  ·refine k6 (!decide ((pcode n_2 xs_3 [a_4]) = 0)) false (nT c7) ?_
   refine k6 (!decide ((pcode n_2 xs_3 [a_4]) = 0)) false (nT c7) ?_
   refine k7 (!decide ((pcode n_2 xs_3 [a_4]) = 0)) true (nT c7) ?_
   have hu3 : ¬ pcode n_2 xs_3 [a_4] = 0 ∨ uaC n_2 xs_3 = 0 ∨ uaC n_2 xs_3 = 3 := ua_3 _ _ _
   refine R.go 7 (k6 (!decide ((pcode n_2 xs_3 [a_4]) = 0)) false (nT c7) ?_)
   refine k6 (!decide ((pcode n_2 xs_3 [a_4]) = 0)) false (nT c7) ?_
   refine k7 (!decide ((pcode n_2 xs_3 [a_4]) = 0)) true (nT c7) ?_
   exact R.go 2 (k17 (.bool true) (by rfl))

end Go.Proofs.YtjllngcefoohpaaGreat
