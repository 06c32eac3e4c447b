/- Texts of the proof: Q06, Q07, P04. -/
import Derived.Test.YtgebepfdphmjcaaGreatPartE

/-! Models: truth sets of both packages. -/
namespace Go.Proofs.YtgebepfdphmjcaaGreat
open Go.RowKit Go.Abs

def okMo (n : Int) (xs vs : List Int) : Bool := okFr n xs && decide (vs.length = 6) && !vs.any fun m => !inR m 0 ((shl64 1 n) - 1)
theorem okMo_1 {n : Int} {xs vs : List Int} (h : okFr n xs = false) : okMo n xs vs = false := by simp [okMo, h]
theorem okMo_2 {n : Int} {xs vs : List Int} (h : ¬ (vs.length : Int) = 6) : okMo n xs vs = false := by
  have h : ¬ vs.length = 6 := by omega
  simp [okMo, h]
theorem okMo_3 {n : Int} {xs vs : List Int} (h : okFr n xs = true) (h2 : (vs.length : Int) = 6) : okMo n xs vs = !vs.any fun m => !inR m 0 ((shl64 1 n) - 1) := by
  have h2 : vs.length = 6 := by omega
  simp [okMo, h, h2]
theorem okMo_out {n : Int} {xs vs : List Int} (h : okFr n xs = true) (h2 : (vs.length : Int) = 6) : (!vs.any (outR n)) = okMo n xs vs := by
  rw [okMo_3 h h2]
  obtain ⟨h0, h8, _⟩ := okFr_rel h
  have e : outR n = fun m => !inR m 0 ((shl64 1 n) - 1) := by
    funext m
    rw [outR, (inR_iff n 0 30).2 (by omega), Bool.true_and]
  rw [e]
theorem okMo_fr {n : Int} {xs vs : List Int} (h : okMo n xs vs = true) : okFr n xs = true ∧ vs.length = 6 := by
  simp only [okMo, Bool.and_eq_true, decide_eq_true_eq] at h
  exact h.1
/-- The words of modal formulas. -/
def mT (n : Int) (k p q : Int) : Int := if k = 2 then band p q else if k = 3 then bor p q else bor (bnot ((shl64 1 n) - 1) p) q
def mU (n : Int) (bx : Int → Int) (k p : Int) : Int := if k = 5 then bx p else bnot ((shl64 1 n) - 1) (bx (bnot ((shl64 1 n) - 1) p))
def bxA (xs : List Int) (m : Int) : Int := boxA xs m xs.length
def bxB (xs : List Int) (m : Int) : Int := boxB xs m xs.length
theorem bxAB {n : Int} {xs : List Int} (h : okFr n xs = true) : bxA xs = bxB xs := by
  obtain ⟨h0, h8, hl, hr⟩ := okFr_rel h
  funext m
  refine boxAB xs m (fun x hx => ?_) _ (Nat.le_refl _)
  obtain ⟨j, hj, rfl⟩ := List.getElem_of_mem hx
  have hg : xs[j] = xs.getD j 0 := by rw [List.getD_eq_getElem?_getD, List.getElem?_eq_getElem hj]; rfl
  rw [hg]
  exact wrap_inM (by omega) (hr.2 j (by omega))
def mcode (n : Int) (xs vs : List Int) (a : List (Int × Int)) : Int := if okMo n xs vs = true ∧ isF a = true then 0 else 1
def tset (n : Int) (xs vs : List Int) (a : List (Int × Int)) : Int := gv (mT n) (mU n (bxB xs)) vs a
theorem mcode_1 {n : Int} {xs vs : List Int} {a : List (Int × Int)} (h : okMo n xs vs = false) : 1 = mcode n xs vs a := by rw [mcode, if_neg (by simp [h])]
theorem mcode_2 {n : Int} {xs vs : List Int} {a : List (Int × Int)} (h : isF a = false) : 1 = mcode n xs vs a := by rw [mcode, if_neg (by simp [h])]
theorem mcode_0 {n : Int} {xs vs : List Int} {a : List (Int × Int)} (h : okMo n xs vs = true) (h2 : isF a = true) : 0 = mcode n xs vs a := by rw [mcode, if_pos ⟨h, h2⟩]
theorem mcode_ok {n : Int} {xs vs : List Int} {a : List (Int × Int)} (h : mcode n xs vs a = 0) : okMo n xs vs = true ∧ isF a = true := by
  unfold mcode at h
  split at h
  · assumption
  · cases h

theorem isModel1_c (m : Int) (n : Int) (xs : List Int) (vs : List Int) : CallA Tryz.prog 130 [AI m, .rptr [AI n, LI xs, LI vs]] (.bool (outR n m)) := by
  refine CallA.of Tryz.func130 rfl (by kernel_rfl) ?_
  refine R.go 10 (R.call true (isMask_c n m) (by kernel_rfl) rfl (by kernel_rfl) ?_)
  exact R.go 3 (R.retE (.bool (!(!(outR n m)))) (by kernel_rfl) (by kernel_rfl) (by first | (apply congrArg AV.bool; simp) | (exfalso; omega)))

theorem indexM_c (a : List Int) (n : Int) (xs : List Int) (vs : List Int) (hl : a.length ≤ 1000000000) : CallA Tryz.prog 99 [LI a, .fn 130 [.rptr [AI n, LI xs, LI vs]]] (AI (fidxI (outR n) a 0)) := by
  refine CallA.of Tryz.func99 rfl (by kernel_rfl) ?_
  refine R.go 12 (R.loop (fun (i : Nat) => (⟨(frm 19 [(0, LI a), (1, .fn 130 [.rptr [AI n, LI xs, LI vs]]), (7, AI a.length), (8, AI (i : Int))]), []⟩ : St)) (fun (i : Nat) => (i ≤ a.length) ∧ (fidxI (outR n) a 0 = fidxI (outR n) (a.drop i) i)) (fun (i : Nat) => a.length - i) 0 [0, 1, 7, 8] none (by kernel_rfl) (by kernel_rfl) (by kernel_rfl) ⟨(by omega), (by rfl)⟩ ?_)
  rintro i ⟨h3_1, h3_2⟩ R1 N2
  refine R.go 5 (R.cond ((i : Int) < (a.length : Int)) (by kernel_rfl) (fun c4 => ?_) (fun c4 => ?_))
  · refine R.go 13 (R.idx eI a 0 i (i : Int) (by kernel_rfl) rfl eI_len (by omega) (by kernel_rfl) ?_)
    refine R.go 1 (R.call true (isModel1_c (a.getD i 0) n xs vs) (by kernel_rfl) rfl (by kernel_rfl) ?_)
    refine R.go 1 (R.condB (outR n (a.getD i 0)) (by kernel_rfl) (fun c5 => ?_) (fun c5 => ?_))
    · exact R.go 5 (R.retE (AI (i : Int)) (by kernel_rfl) (by kernel_rfl) (by first | (apply congrArg AI; rw [‹fidxI (outR n) a 0 = _›]; first | exact (fidxI_end (by omega)).symm | exact (fidxI_hit (by omega) (by assumption)).symm) | (exfalso; omega)))
    · refine R.go 3 (R.ar ((i : Int) + 1) (by kernel_rfl) (by omega) (by omega) (by kernel_rfl) ?_)
      exact R.go 2 (R.stop R1 (by kernel_rfl) (N2 (i + 1) [0, 1, 7, 8] none _ (by kernel_rfl) (by kernel_rfl) ⟨(by omega), (by rw [‹fidxI (outR n) a 0 = _›]; exact fidxI_miss (by omega) (by assumption))⟩ (by show (a.length - (i + 1)) < (a.length - i); omega)))
  · exact R.go 5 (R.retE (AI (-1)) (by kernel_rfl) (by kernel_rfl) (by first | (apply congrArg AI; rw [‹fidxI (outR n) a 0 = _›]; first | exact (fidxI_end (by omega)).symm | exact (fidxI_hit (by omega) (by assumption)).symm) | (exfalso; omega)))

theorem containsM_c (a : List Int) (n : Int) (xs : List Int) (vs : List Int) (hl : a.length ≤ 1000000000) : CallA Tryz.prog 41 [LI a, .fn 130 [.rptr [AI n, LI xs, LI vs]]] (.bool (a.any (outR n))) := by
  refine CallA.of Tryz.func41 rfl (by kernel_rfl) ?_
  refine R.go 8 (R.call true (indexM_c a n xs vs hl) (by kernel_rfl) rfl (by kernel_rfl) ?_)
  exact R.go 3 (R.retE (.bool (decide ((fidxI (outR n) a 0) ≥ 0))) (by kernel_rfl) (by kernel_rfl) (by first | (apply congrArg AV.bool; rw [Bool.eq_iff_iff, decide_eq_true_iff]; exact fidxI_any (Int.le_refl 0)) | (exfalso; omega)))

theorem isModel_c (n : Int) (xs : List Int) (vs : List Int) (l1 : xs.length ≤ 1000000000) (l2 : vs.length ≤ 1000000000) : CallA Tryz.prog 66 [.agg [AI n, LI xs, LI vs]] (.bool (okMo n xs vs)) := by
  refine CallA.of Tryz.func66 rfl (by kernel_rfl) ?_
  refine R.go 9 (R.call true (isFrame_c n xs l1) (by kernel_rfl) rfl (by kernel_rfl) ?_)
  refine R.go 1 ?_
  refine (Bool.eq_false_or_eq_true (okFr n xs)).elim (fun c1 => ?_) (fun c1 => ?_)
  · refine R.want (okFr n xs) true (by kernel_rfl) c1 ?_
    refine R.go 1 (R.want (okFr n xs) true (by kernel_rfl) c1 ?_)
    refine R.go 1 (R.want (okFr n xs) true (by kernel_rfl) c1 ?_)
    refine R.go 1 (R.want (okFr n xs) true (by kernel_rfl) c1 ?_)
    refine R.go 1 (R.pick (okFr n xs) true (by kernel_rfl) c1 (by kernel_rfl) ?_)
    refine R.go 1 ?_
    by_cases c2 : (vs.length : Int) = 6
    · refine R.want (decide ((vs.length : Int) = 6)) true (by kernel_rfl) (dT c2) ?_
      refine R.go 1 (R.want (decide ((vs.length : Int) = 6)) true (by kernel_rfl) (dT c2) ?_)
      refine R.go 1 (R.want (decide ((vs.length : Int) = 6)) true (by kernel_rfl) (dT c2) ?_)
      refine R.go 1 (R.want (decide ((vs.length : Int) = 6)) true (by kernel_rfl) (dT c2) ?_)
      refine R.call false (containsM_c vs n xs vs l2) (by kernel_rfl) rfl (by kernel_rfl) ?_
      refine R.want (decide ((vs.length : Int) = 6)) true (by kernel_rfl) (dT c2) ?_
      refine R.go 1 (R.pick (decide ((vs.length : Int) = 6)) true (by kernel_rfl) (dT c2) (by kernel_rfl) ?_)
      exact R.go 2 (R.retE (.bool (!(vs.any (outR n)))) (by kernel_rfl) (by kernel_rfl) (by first | (apply congrArg AV.bool; first | exact (okMo_1 (by assumption)).symm | exact (okMo_2 (by assumption)).symm | exact (okMo_3 (by assumption) (by assumption)).symm | exact okMo_out (by assumption) (by assumption)) | (exfalso; omega)))
    · refine R.skp (decide ((vs.length : Int) = 6)) true (by kernel_rfl) (dF c2) (by kernel_rfl) ?_
      refine R.skp (decide ((vs.length : Int) = 6)) true (by kernel_rfl) (dF c2) (by kernel_rfl) ?_
      refine R.skp (decide ((vs.length : Int) = 6)) true (by kernel_rfl) (dF c2) (by kernel_rfl) ?_
      refine R.skp (decide ((vs.length : Int) = 6)) true (by kernel_rfl) (dF c2) (by kernel_rfl) ?_
      refine R.skp (decide ((vs.length : Int) = 6)) true (by kernel_rfl) (dF c2) (by kernel_rfl) ?_
      refine R.pick (decide ((vs.length : Int) = 6)) false (by kernel_rfl) (dF c2) (by kernel_rfl) ?_
      exact R.go 2 (R.retE (.bool false) (by kernel_rfl) (by kernel_rfl) (by first | (apply congrArg AV.bool; first | exact (okMo_1 (by assumption)).symm | exact (okMo_2 (by assumption)).symm | exact (okMo_3 (by assumption) (by assumption)).symm | exact okMo_out (by assumption) (by assumption)) | (exfalso; omega)))
  · refine R.skp (okFr n xs) true (by kernel_rfl) c1 (by kernel_rfl) ?_
    refine R.skp (okFr n xs) true (by kernel_rfl) c1 (by kernel_rfl) ?_
    refine R.skp (okFr n xs) true (by kernel_rfl) c1 (by kernel_rfl) ?_
    refine R.skp (okFr n xs) true (by kernel_rfl) c1 (by kernel_rfl) ?_
    refine R.pick (okFr n xs) false (by kernel_rfl) c1 (by kernel_rfl) ?_
    exact R.go 9 (R.retE (.bool false) (by kernel_rfl) (by kernel_rfl) (by first | (apply congrArg AV.bool; first | exact (okMo_1 (by assumption)).symm | exact (okMo_2 (by assumption)).symm | exact (okMo_3 (by assumption) (by assumption)).symm | exact okMo_out (by assumption) (by assumption)) | (exfalso; omega)))

theorem l06Is_c (n : Int) (xs : List Int) (vs : List Int) (l1 : xs.length ≤ 1000000000) (l2 : vs.length ≤ 1000000000) : CallA Tryz.prog 50 [.agg [AI n, LI xs, LI vs]] (.bool (okMo n xs vs)) := by
  have hn := fun h : okFr n xs = true => okFr_rel h
  refine CallA.of Tryz.func50 rfl (by kernel_rfl) ?_
  refine R.go 9 (R.call true (l05Is_c n xs l1) (by kernel_rfl) rfl (by kernel_rfl) ?_)
  refine R.go 1 ?_
  refine (Bool.eq_false_or_eq_true (okFr n xs)).elim (fun c1 => ?_) (fun c1 => ?_)
  · refine R.want (okFr n xs) true (by kernel_rfl) c1 ?_
    refine R.go 1 (R.want (okFr n xs) true (by kernel_rfl) c1 ?_)
    refine R.go 1 (R.want (okFr n xs) true (by kernel_rfl) c1 ?_)
    refine R.go 1 (R.want (okFr n xs) true (by kernel_rfl) c1 ?_)
    refine R.go 1 (R.pick (okFr n xs) true (by kernel_rfl) c1 (by kernel_rfl) ?_)
    refine R.go 1 ?_
    by_cases c2 : (vs.length : Int) = 6
    · refine R.want (decide ((vs.length : Int) = 6)) true (by kernel_rfl) (dT c2) ?_
      refine R.go 1 (R.want (decide ((vs.length : Int) = 6)) true (by kernel_rfl) (dT c2) ?_)
      refine R.go 1 (R.want (decide ((vs.length : Int) = 6)) true (by kernel_rfl) (dT c2) ?_)
      refine R.go 1 (R.want (decide ((vs.length : Int) = 6)) true (by kernel_rfl) (dT c2) ?_)
      refine R.go 1 (R.want (decide ((vs.length : Int) = 6)) true (by kernel_rfl) (dT c2) ?_)
      refine R.go 1 (R.want (decide ((vs.length : Int) = 6)) true (by kernel_rfl) (dT c2) ?_)
      refine R.call true (l01Masks_c n vs l2 (by first | omega | (have hq := hn (by assumption); omega)) (by first | omega | (have hq := hn (by assumption); omega))) (by kernel_rfl) rfl (by kernel_rfl) ?_
      refine R.pick (decide ((vs.length : Int) = 6)) true (by kernel_rfl) (dT c2) (by kernel_rfl) ?_
      exact R.go 2 (R.retE (.bool (!(vs.any fun m => !inR m 0 ((shl64 1 n) - 1)))) (by kernel_rfl) (by kernel_rfl) (by first | (apply congrArg AV.bool; first | exact (okMo_1 (by assumption)).symm | exact (okMo_2 (by assumption)).symm | exact (okMo_3 (by assumption) (by assumption)).symm | exact okMo_out (by assumption) (by assumption)) | (exfalso; omega)))
    · refine R.skp (decide ((vs.length : Int) = 6)) true (by kernel_rfl) (dF c2) (by kernel_rfl) ?_
      refine R.skp (decide ((vs.length : Int) = 6)) true (by kernel_rfl) (dF c2) (by kernel_rfl) ?_
      refine R.skp (decide ((vs.length : Int) = 6)) true (by kernel_rfl) (dF c2) (by kernel_rfl) ?_
      refine R.skp (decide ((vs.length : Int) = 6)) true (by kernel_rfl) (dF c2) (by kernel_rfl) ?_
      refine R.skp (decide ((vs.length : Int) = 6)) true (by kernel_rfl) (dF c2) (by kernel_rfl) ?_
      refine R.skp (decide ((vs.length : Int) = 6)) true (by kernel_rfl) (dF c2) (by kernel_rfl) ?_
      refine R.pick (decide ((vs.length : Int) = 6)) false (by kernel_rfl) (dF c2) (by kernel_rfl) ?_
      exact R.go 2 (R.retE (.bool false) (by kernel_rfl) (by kernel_rfl) (by first | (apply congrArg AV.bool; first | exact (okMo_1 (by assumption)).symm | exact (okMo_2 (by assumption)).symm | exact (okMo_3 (by assumption) (by assumption)).symm | exact okMo_out (by assumption) (by assumption)) | (exfalso; omega)))
  · refine R.skp (okFr n xs) true (by kernel_rfl) c1 (by kernel_rfl) ?_
    refine R.skp (okFr n xs) true (by kernel_rfl) c1 (by kernel_rfl) ?_
    refine R.skp (okFr n xs) true (by kernel_rfl) c1 (by kernel_rfl) ?_
    refine R.skp (okFr n xs) true (by kernel_rfl) c1 (by kernel_rfl) ?_
    refine R.pick (okFr n xs) false (by kernel_rfl) c1 (by kernel_rfl) ?_
    exact R.go 10 (R.retE (.bool false) (by kernel_rfl) (by kernel_rfl) (by first | (apply congrArg AV.bool; first | exact (okMo_1 (by assumption)).symm | exact (okMo_2 (by assumption)).symm | exact (okMo_3 (by assumption) (by assumption)).symm | exact okMo_out (by assumption) (by assumption)) | (exfalso; omega)))

theorem modelCode_c (n : Int) (xs : List Int) (vs : List Int) (a : List (Int × Int)) (l1 : xs.length ≤ 1000000000) (l2 : vs.length ≤ 1000000000) (hl : a.length ≤ 1000000000) : CallA Tryz.prog 48 [.agg [AI n, LI xs, LI vs], LN a] (AI (mcode n xs vs a)) := by
  refine CallA.of Tryz.func48 rfl (by kernel_rfl) ?_
  refine R.go 9 (R.call true (isModel_c n xs vs l1 l2) (by kernel_rfl) rfl (by kernel_rfl) ?_)
  refine R.go 2 ?_
  refine (Bool.eq_false_or_eq_true (okMo n xs vs)).elim (fun c1 => ?_) (fun c1 => ?_)
  · refine R.want (!(okMo n xs vs)) false (by kernel_rfl) (bnF c1) ?_
    refine R.go 1 (R.want (!(okMo n xs vs)) false (by kernel_rfl) (bnF c1) ?_)
    refine R.call true (isFormula_c a hl) (by kernel_rfl) rfl (by kernel_rfl) ?_
    refine R.want (!(okMo n xs vs)) false (by kernel_rfl) (bnF c1) ?_
    refine R.go 1 (R.pick (!(okMo n xs vs)) false (by kernel_rfl) (bnF c1) (by kernel_rfl) ?_)
    refine R.go 1 (R.condM (isF a) (by kernel_rfl) (fun c2 => ?_) (fun c2 => ?_))
    · exact R.go 4 (R.retE (AI 1) (by kernel_rfl) (by kernel_rfl) (by first | (apply congrArg AI; first | exact mcode_1 (by assumption) | exact mcode_2 (by assumption) | exact mcode_0 (by assumption) (by assumption)) | (exfalso; omega)))
    · exact R.go 5 (R.retE (AI 0) (by kernel_rfl) (by kernel_rfl) (by first | (apply congrArg AI; first | exact mcode_1 (by assumption) | exact mcode_2 (by assumption) | exact mcode_0 (by assumption) (by assumption)) | (exfalso; omega)))
  · refine R.skp (!(okMo n xs vs)) false (by kernel_rfl) (bnT c1) (by kernel_rfl) ?_
    refine R.skp (!(okMo n xs vs)) false (by kernel_rfl) (bnT c1) (by kernel_rfl) ?_
    refine R.skp (!(okMo n xs vs)) false (by kernel_rfl) (bnT c1) (by kernel_rfl) ?_
    refine R.pick (!(okMo n xs vs)) true (by kernel_rfl) (bnT c1) (by kernel_rfl) ?_
    exact R.go 6 (R.retE (AI 1) (by kernel_rfl) (by kernel_rfl) (by first | (apply congrArg AI; first | exact mcode_1 (by assumption) | exact mcode_2 (by assumption) | exact mcode_0 (by assumption) (by assumption)) | (exfalso; omega)))

theorem truthSet_c (n : Int) (xs : List Int) (vs : List Int) (a : List (Int × Int)) (hok : OKM vs.length a) (h0 : 0 ≤ n) (h1 : n ≤ 8) (hx : xs.length ≤ 60) (hl : a.length ≤ 1000000000) : CallA Tryz.prog 74 [.agg [AI n, LI xs], LI vs, LN a] (AI (gv (mT n) (mU n (bxB xs)) vs a)) := by
  have hlen := okm_pos hok
  refine CallA.of Tryz.func74 rfl (by kernel_rfl) ?_
  refine R.go 8 (R.call true (frameAll_c n xs h0 (by omega)) (by kernel_rfl) rfl (by kernel_rfl) ?_)
  refine R.go 16 (R.arE ((a.length : Int) - 1) ((a.length - 1 : Nat) : Int) (by kernel_rfl) (by omega) (by omega) (by omega) (by kernel_rfl) ?_)
  refine R.go 3 (R.nilB 1 0 2 1 (by kernel_rfl) ?_)
  refine R.loop ((fun | (i, S) => (⟨(frm 86 [(1, LI vs), (2, LN a), (3, .ptr 0 0), (7, AI ((shl64 1 n) - 1)), (8, .ptr 1 0), (9, .fn 141 [.ptr 1 0]), (10, AI i)]), [.box 26 [AI n, LI xs], .box 24 [.ref 2], rowA eI 2 1 S]⟩ : St) : Int × (List Int) → St)) (fun | (i, S) => (-1 ≤ i) ∧ (i < a.length) ∧ (S.length ≤ a.length - i) ∧ (S = (stkG (mT n) (mU n (bxB xs)) vs (a.drop (i + 1).toNat)).reverse)) (fun | (i, S) => (i + 1).toNat) (((a.length - 1 : Nat) : Int), []) [1, 2, 3, 7, 8, 9, 10] none (by kernel_rfl) (by kernel_rfl) (by kernel_rfl) ⟨(by omega), (by omega), (by simp <;> omega), (by rw [show (((a.length - 1 : Nat) : Int) + 1).toNat = a.length by omega, List.drop_length]; rfl)⟩ ?_
  rintro ⟨i, S⟩ ⟨h4_1, h4_2, h4_3, h4_4⟩ R1 N2
  have hk := fun h : 0 ≤ i => okm_get hok i.toNat (by omega)
  have hS2 := fun h : 0 ≤ i => stkg_room hok ‹S = _› h (by omega)
  have hP2 := fun h : ((a.getD i.toNat (0, 0)).1 = 2 ∨ (a.getD i.toNat (0, 0)).1 = 3 ∨ (a.getD i.toNat (0, 0)).1 = 4) => (partsN_two _).2 h
  have hP1 := fun h : ((a.getD i.toNat (0, 0)).1 = 5 ∨ (a.getD i.toNat (0, 0)).1 = 6) => partsN_1 h
  have hS1 := fun h : i = -1 => congrArg List.length (stkg_fin hok ‹S = _› h)
  simp only [List.length_cons, List.length_nil] at hS1
  have hT : (S.take (S.length - 1)).length = S.length - 1 := by simp
  refine R.go 6 (R.cond (i ≥ 0) (by kernel_rfl) (fun c5 => ?_) (fun c5 => ?_))
  · refine R.go 12 (R.idx eN a (0, 0) ((i).toNat) i (by kernel_rfl) (by omega) eN_len (by omega) (by kernel_rfl) ?_)
    refine R.go 9 (R.cond (((a.getD ((i).toNat) (0, 0)).1) = 0) (by kernel_rfl) (fun c6 => ?_) (fun c6 => ?_))
    · refine R.go 4 (R.idx eN a (0, 0) ((i).toNat) i (by kernel_rfl) (by omega) eN_len (by omega) (by kernel_rfl) ?_)
      refine R.go 2 (R.idx eI vs 0 (((a.getD ((i).toNat) (0, 0)).2).toNat) ((a.getD ((i).toNat) (0, 0)).2) (by kernel_rfl) (by omega) eI_len (by omega) (by kernel_rfl) ?_)
      refine R.go 8 (R.app eI S [(vs.getD (((a.getD ((i).toNat) (0, 0)).2).toNat) 0)] 2 2 1 8 (by kernel_rfl) eI_one (by decide) (by first | omega | (simp <;> omega)) (by kernel_rfl) ?_)
      refine R.go 5 (R.ar (i - 1) (by kernel_rfl) (by omega) (by omega) (by kernel_rfl) ?_)
      exact R.go 2 (R.stop R1 (by kernel_rfl) (N2 (i - 1, S ++ [(vs.getD (((a.getD ((i).toNat) (0, 0)).2).toNat) 0)]) [1, 2, 3, 7, 8, 9, 10] (some [0, 1, 2]) _ (by kernel_rfl) (by kernel_rfl) ⟨(by omega), (by omega), (by simp <;> omega), (by first | exact stkg_push ‹S = _› (by omega) (by omega) (by omega) | exact stkg_bot ‹S = _› (by omega) (by omega) (by omega) | exact stkg_two hok ‹S = _› (by omega) (by omega) ‹(a.getD i.toNat (0, 0)).1 = _› (by omega) rfl rfl rfl rfl | exact stkg_one hok ‹S = _› (by omega) (by omega) ‹(a.getD i.toNat (0, 0)).1 = _› (by omega) rfl rfl)⟩ (by show (((i - 1) + 1).toNat) < ((i + 1).toNat); omega)))
    · refine R.go 5 (R.cond (((a.getD ((i).toNat) (0, 0)).1) = 2) (by kernel_rfl) (fun c7 => ?_) (fun c7 => ?_))
      · refine R.go 2 (R.enter (avs := [.ptr 1 0]) Tryz.func141 rfl (by kernel_rfl) (by kernel_rfl) (by kernel_rfl) ?_)
        intro us8
        refine R.go 9 (R.arE ((S.length : Int) - 1) ((S.length - 1 : Nat) : Int) (by kernel_rfl) (by omega) (by omega) (by omega) (by kernel_rfl) ?_)
        refine R.idxO 2 1 S.length (S.length - 1) ((S.length - 1 : Nat) : Int) (by kernel_rfl) (by omega) (by omega) (by kernel_rfl) ?_
        refine R.ldI S (S.length - 1) (by kernel_rfl) (by omega) (by kernel_rfl) ?_
        refine R.go 7 (R.arE ((S.length : Int) - 1) ((S.length - 1 : Nat) : Int) (by kernel_rfl) (by omega) (by omega) (by omega) (by kernel_rfl) ?_)
        refine R.cut eI S 2 2 (S.length - 1) ((S.length - 1 : Nat) : Int) (by kernel_rfl) (by omega) eI_len (by omega) (by kernel_rfl) ?_
        refine R.go 7 (R.back (AI (S.getD (S.length - 1) 0)) (frm 86 [(1, LI vs), (2, LN a), (3, .ptr 0 0), (7, AI ((shl64 1 n) - 1)), (8, .ptr 1 0), (9, .fn 141 [.ptr 1 0]), (10, AI i), (11, AI 0), (18, AI i), (19, .bool (decide (i ≥ 0))), (22, LN a), (23, AI i), (24, .rptr [AI ((a.getD ((i).toNat) (0, 0)).1), AI ((a.getD ((i).toNat) (0, 0)).2)]), (25, .rptr [AI ((a.getD ((i).toNat) (0, 0)).1), AI ((a.getD ((i).toNat) (0, 0)).2)]), (26, AI ((a.getD ((i).toNat) (0, 0)).1)), (27, .bool (decide (((a.getD ((i).toNat) (0, 0)).1) = 0))), (28, .bool (decide (((a.getD ((i).toNat) (0, 0)).1) = 0))), (37, .bool (decide (((a.getD ((i).toNat) (0, 0)).1) = 2))), (38, .bool (decide (((a.getD ((i).toNat) (0, 0)).1) = 2))), (39, .fn 141 [.ptr 1 0])]) (by kernel_rfl) (by kernel_rfl) (by kernel_rfl) ?_)
        refine R.go 1 (R.enter (avs := [.ptr 1 0]) Tryz.func141 rfl (by kernel_rfl) (by kernel_rfl) (by kernel_rfl) ?_)
        intro us9
        refine R.go 9 (R.arE (((S.take (S.length - 1)).length : Int) - 1) ((((S.take (S.length - 1)).length) - 1 : Nat) : Int) (by kernel_rfl) (by omega) (by omega) (by omega) (by kernel_rfl) ?_)
        refine R.idxO 2 1 (S.take (S.length - 1)).length (((S.take (S.length - 1)).length) - 1) ((((S.take (S.length - 1)).length) - 1 : Nat) : Int) (by kernel_rfl) (by omega) (by first | omega | (simp <;> omega)) (by kernel_rfl) ?_
        refine R.ldI (S.take (S.length - 1)) (((S.take (S.length - 1)).length) - 1) (by kernel_rfl) (by first | omega | (simp <;> omega)) (by kernel_rfl) ?_
        refine R.go 7 (R.arE (((S.take (S.length - 1)).length : Int) - 1) ((((S.take (S.length - 1)).length) - 1 : Nat) : Int) (by kernel_rfl) (by omega) (by omega) (by omega) (by kernel_rfl) ?_)
        refine R.cut eI (S.take (S.length - 1)) 2 2 (((S.take (S.length - 1)).length) - 1) ((((S.take (S.length - 1)).length) - 1 : Nat) : Int) (by kernel_rfl) (by omega) eI_len (by first | omega | (simp <;> omega)) (by kernel_rfl) ?_
        refine R.go 7 (R.back (AI ((S.take (S.length - 1)).getD (((S.take (S.length - 1)).length) - 1) 0)) (frm 86 [(1, LI vs), (2, LN a), (3, .ptr 0 0), (7, AI ((shl64 1 n) - 1)), (8, .ptr 1 0), (9, .fn 141 [.ptr 1 0]), (10, AI i), (11, AI 0), (18, AI i), (19, .bool (decide (i ≥ 0))), (22, LN a), (23, AI i), (24, .rptr [AI ((a.getD ((i).toNat) (0, 0)).1), AI ((a.getD ((i).toNat) (0, 0)).2)]), (25, .rptr [AI ((a.getD ((i).toNat) (0, 0)).1), AI ((a.getD ((i).toNat) (0, 0)).2)]), (26, AI ((a.getD ((i).toNat) (0, 0)).1)), (27, .bool (decide (((a.getD ((i).toNat) (0, 0)).1) = 0))), (28, .bool (decide (((a.getD ((i).toNat) (0, 0)).1) = 0))), (37, .bool (decide (((a.getD ((i).toNat) (0, 0)).1) = 2))), (38, .bool (decide (((a.getD ((i).toNat) (0, 0)).1) = 2))), (39, .fn 141 [.ptr 1 0]), (40, AI (S.getD (S.length - 1) 0)), (41, .fn 141 [.ptr 1 0])]) (by kernel_rfl) (by kernel_rfl) (by kernel_rfl) ?_)
        refine R.go 8 (R.app eI ((S.take (S.length - 1)).take (((S.take (S.length - 1)).length) - 1)) [band (S.getD (S.length - 1) 0) ((S.take (S.length - 1)).getD (((S.take (S.length - 1)).length) - 1) 0)] 2 2 1 8 (by kernel_rfl) eI_one (by decide) (by first | omega | (simp <;> omega)) (by kernel_rfl) ?_)
        refine R.go 5 (R.ar (i - 1) (by kernel_rfl) (by omega) (by omega) (by kernel_rfl) ?_)
        exact R.go 2 (R.stop R1 (by kernel_rfl) (N2 (i - 1, ((S.take (S.length - 1)).take (((S.take (S.length - 1)).length) - 1)) ++ [band (S.getD (S.length - 1) 0) ((S.take (S.length - 1)).getD (((S.take (S.length - 1)).length) - 1) 0)]) [1, 2, 3, 7, 8, 9, 10] (some [0, 1, 2]) _ (by kernel_rfl) (by kernel_rfl) ⟨(by omega), (by omega), (by simp <;> omega), (by first | exact stkg_push ‹S = _› (by omega) (by omega) (by omega) | exact stkg_bot ‹S = _› (by omega) (by omega) (by omega) | exact stkg_two hok ‹S = _› (by omega) (by omega) ‹(a.getD i.toNat (0, 0)).1 = _› (by omega) rfl rfl rfl rfl | exact stkg_one hok ‹S = _› (by omega) (by omega) ‹(a.getD i.toNat (0, 0)).1 = _› (by omega) rfl rfl)⟩ (by show (((i - 1) + 1).toNat) < ((i + 1).toNat); omega)))
      · refine R.go 5 (R.cond (((a.getD ((i).toNat) (0, 0)).1) = 3) (by kernel_rfl) (fun c10 => ?_) (fun c10 => ?_))
        · refine R.go 2 (R.enter (avs := [.ptr 1 0]) Tryz.func141 rfl (by kernel_rfl) (by kernel_rfl) (by kernel_rfl) ?_)
          intro us11
          refine R.go 9 (R.arE ((S.length : Int) - 1) ((S.length - 1 : Nat) : Int) (by kernel_rfl) (by omega) (by omega) (by omega) (by kernel_rfl) ?_)
          refine R.idxO 2 1 S.length (S.length - 1) ((S.length - 1 : Nat) : Int) (by kernel_rfl) (by omega) (by omega) (by kernel_rfl) ?_
          refine R.ldI S (S.length - 1) (by kernel_rfl) (by omega) (by kernel_rfl) ?_
          refine R.go 7 (R.arE ((S.length : Int) - 1) ((S.length - 1 : Nat) : Int) (by kernel_rfl) (by omega) (by omega) (by omega) (by kernel_rfl) ?_)
          refine R.cut eI S 2 2 (S.length - 1) ((S.length - 1 : Nat) : Int) (by kernel_rfl) (by omega) eI_len (by omega) (by kernel_rfl) ?_
          refine R.go 7 (R.back (AI (S.getD (S.length - 1) 0)) (frm 86 [(1, LI vs), (2, LN a), (3, .ptr 0 0), (7, AI ((shl64 1 n) - 1)), (8, .ptr 1 0), (9, .fn 141 [.ptr 1 0]), (10, AI i), (11, AI 0), (18, AI i), (19, .bool (decide (i ≥ 0))), (22, LN a), (23, AI i), (24, .rptr [AI ((a.getD ((i).toNat) (0, 0)).1), AI ((a.getD ((i).toNat) (0, 0)).2)]), (25, .rptr [AI ((a.getD ((i).toNat) (0, 0)).1), AI ((a.getD ((i).toNat) (0, 0)).2)]), (26, AI ((a.getD ((i).toNat) (0, 0)).1)), (27, .bool (decide (((a.getD ((i).toNat) (0, 0)).1) = 0))), (28, .bool (decide (((a.getD ((i).toNat) (0, 0)).1) = 0))), (37, .bool (decide (((a.getD ((i).toNat) (0, 0)).1) = 2))), (38, .bool (decide (((a.getD ((i).toNat) (0, 0)).1) = 2))), (44, .bool (decide (((a.getD ((i).toNat) (0, 0)).1) = 3))), (45, .bool (decide (((a.getD ((i).toNat) (0, 0)).1) = 3))), (46, .fn 141 [.ptr 1 0])]) (by kernel_rfl) (by kernel_rfl) (by kernel_rfl) ?_)
          refine R.go 1 (R.enter (avs := [.ptr 1 0]) Tryz.func141 rfl (by kernel_rfl) (by kernel_rfl) (by kernel_rfl) ?_)
          intro us12
          refine R.go 9 (R.arE (((S.take (S.length - 1)).length : Int) - 1) ((((S.take (S.length - 1)).length) - 1 : Nat) : Int) (by kernel_rfl) (by omega) (by omega) (by omega) (by kernel_rfl) ?_)
          refine R.idxO 2 1 (S.take (S.length - 1)).length (((S.take (S.length - 1)).length) - 1) ((((S.take (S.length - 1)).length) - 1 : Nat) : Int) (by kernel_rfl) (by omega) (by first | omega | (simp <;> omega)) (by kernel_rfl) ?_
          refine R.ldI (S.take (S.length - 1)) (((S.take (S.length - 1)).length) - 1) (by kernel_rfl) (by first | omega | (simp <;> omega)) (by kernel_rfl) ?_
          refine R.go 7 (R.arE (((S.take (S.length - 1)).length : Int) - 1) ((((S.take (S.length - 1)).length) - 1 : Nat) : Int) (by kernel_rfl) (by omega) (by omega) (by omega) (by kernel_rfl) ?_)
          refine R.cut eI (S.take (S.length - 1)) 2 2 (((S.take (S.length - 1)).length) - 1) ((((S.take (S.length - 1)).length) - 1 : Nat) : Int) (by kernel_rfl) (by omega) eI_len (by first | omega | (simp <;> omega)) (by kernel_rfl) ?_
          refine R.go 7 (R.back (AI ((S.take (S.length - 1)).getD (((S.take (S.length - 1)).length) - 1) 0)) (frm 86 [(1, LI vs), (2, LN a), (3, .ptr 0 0), (7, AI ((shl64 1 n) - 1)), (8, .ptr 1 0), (9, .fn 141 [.ptr 1 0]), (10, AI i), (11, AI 0), (18, AI i), (19, .bool (decide (i ≥ 0))), (22, LN a), (23, AI i), (24, .rptr [AI ((a.getD ((i).toNat) (0, 0)).1), AI ((a.getD ((i).toNat) (0, 0)).2)]), (25, .rptr [AI ((a.getD ((i).toNat) (0, 0)).1), AI ((a.getD ((i).toNat) (0, 0)).2)]), (26, AI ((a.getD ((i).toNat) (0, 0)).1)), (27, .bool (decide (((a.getD ((i).toNat) (0, 0)).1) = 0))), (28, .bool (decide (((a.getD ((i).toNat) (0, 0)).1) = 0))), (37, .bool (decide (((a.getD ((i).toNat) (0, 0)).1) = 2))), (38, .bool (decide (((a.getD ((i).toNat) (0, 0)).1) = 2))), (44, .bool (decide (((a.getD ((i).toNat) (0, 0)).1) = 3))), (45, .bool (decide (((a.getD ((i).toNat) (0, 0)).1) = 3))), (46, .fn 141 [.ptr 1 0]), (47, AI (S.getD (S.length - 1) 0)), (48, .fn 141 [.ptr 1 0])]) (by kernel_rfl) (by kernel_rfl) (by kernel_rfl) ?_)
          refine R.go 8 (R.app eI ((S.take (S.length - 1)).take (((S.take (S.length - 1)).length) - 1)) [bor (S.getD (S.length - 1) 0) ((S.take (S.length - 1)).getD (((S.take (S.length - 1)).length) - 1) 0)] 2 2 1 8 (by kernel_rfl) eI_one (by decide) (by first | omega | (simp <;> omega)) (by kernel_rfl) ?_)
          refine R.go 5 (R.ar (i - 1) (by kernel_rfl) (by omega) (by omega) (by kernel_rfl) ?_)
          exact R.go 2 (R.stop R1 (by kernel_rfl) (N2 (i - 1, ((S.take (S.length - 1)).take (((S.take (S.length - 1)).length) - 1)) ++ [bor (S.getD (S.length - 1) 0) ((S.take (S.length - 1)).getD (((S.take (S.length - 1)).length) - 1) 0)]) [1, 2, 3, 7, 8, 9, 10] (some [0, 1, 2]) _ (by kernel_rfl) (by kernel_rfl) ⟨(by omega), (by omega), (by simp <;> omega), (by first | exact stkg_push ‹S = _› (by omega) (by omega) (by omega) | exact stkg_bot ‹S = _› (by omega) (by omega) (by omega) | exact stkg_two hok ‹S = _› (by omega) (by omega) ‹(a.getD i.toNat (0, 0)).1 = _› (by omega) rfl rfl rfl rfl | exact stkg_one hok ‹S = _› (by omega) (by omega) ‹(a.getD i.toNat (0, 0)).1 = _› (by omega) rfl rfl)⟩ (by show (((i - 1) + 1).toNat) < ((i + 1).toNat); omega)))
        · refine R.go 5 (R.cond (((a.getD ((i).toNat) (0, 0)).1) = 4) (by kernel_rfl) (fun c13 => ?_) (fun c13 => ?_))
          · refine R.go 4 (R.enter (avs := [.ptr 1 0]) Tryz.func141 rfl (by kernel_rfl) (by kernel_rfl) (by kernel_rfl) ?_)
            intro us14
            refine R.go 9 (R.arE ((S.length : Int) - 1) ((S.length - 1 : Nat) : Int) (by kernel_rfl) (by omega) (by omega) (by omega) (by kernel_rfl) ?_)
            refine R.idxO 2 1 S.length (S.length - 1) ((S.length - 1 : Nat) : Int) (by kernel_rfl) (by omega) (by omega) (by kernel_rfl) ?_
            refine R.ldI S (S.length - 1) (by kernel_rfl) (by omega) (by kernel_rfl) ?_
            refine R.go 7 (R.arE ((S.length : Int) - 1) ((S.length - 1 : Nat) : Int) (by kernel_rfl) (by omega) (by omega) (by omega) (by kernel_rfl) ?_)
            refine R.cut eI S 2 2 (S.length - 1) ((S.length - 1 : Nat) : Int) (by kernel_rfl) (by omega) eI_len (by omega) (by kernel_rfl) ?_
            refine R.go 7 (R.back (AI (S.getD (S.length - 1) 0)) (frm 86 [(1, LI vs), (2, LN a), (3, .ptr 0 0), (7, AI ((shl64 1 n) - 1)), (8, .ptr 1 0), (9, .fn 141 [.ptr 1 0]), (10, AI i), (11, AI 0), (18, AI i), (19, .bool (decide (i ≥ 0))), (22, LN a), (23, AI i), (24, .rptr [AI ((a.getD ((i).toNat) (0, 0)).1), AI ((a.getD ((i).toNat) (0, 0)).2)]), (25, .rptr [AI ((a.getD ((i).toNat) (0, 0)).1), AI ((a.getD ((i).toNat) (0, 0)).2)]), (26, AI ((a.getD ((i).toNat) (0, 0)).1)), (27, .bool (decide (((a.getD ((i).toNat) (0, 0)).1) = 0))), (28, .bool (decide (((a.getD ((i).toNat) (0, 0)).1) = 0))), (37, .bool (decide (((a.getD ((i).toNat) (0, 0)).1) = 2))), (38, .bool (decide (((a.getD ((i).toNat) (0, 0)).1) = 2))), (44, .bool (decide (((a.getD ((i).toNat) (0, 0)).1) = 3))), (45, .bool (decide (((a.getD ((i).toNat) (0, 0)).1) = 3))), (51, .bool (decide (((a.getD ((i).toNat) (0, 0)).1) = 4))), (52, .bool (decide (((a.getD ((i).toNat) (0, 0)).1) = 4))), (53, AI ((shl64 1 n) - 1)), (54, .fn 141 [.ptr 1 0])]) (by kernel_rfl) (by kernel_rfl) (by kernel_rfl) ?_)
            refine R.go 6 (R.enter (avs := [.ptr 1 0]) Tryz.func141 rfl (by kernel_rfl) (by kernel_rfl) (by kernel_rfl) ?_)
            intro us15
            refine R.go 9 (R.arE (((S.take (S.length - 1)).length : Int) - 1) ((((S.take (S.length - 1)).length) - 1 : Nat) : Int) (by kernel_rfl) (by omega) (by omega) (by omega) (by kernel_rfl) ?_)
            refine R.idxO 2 1 (S.take (S.length - 1)).length (((S.take (S.length - 1)).length) - 1) ((((S.take (S.length - 1)).length) - 1 : Nat) : Int) (by kernel_rfl) (by omega) (by first | omega | (simp <;> omega)) (by kernel_rfl) ?_
            refine R.ldI (S.take (S.length - 1)) (((S.take (S.length - 1)).length) - 1) (by kernel_rfl) (by first | omega | (simp <;> omega)) (by kernel_rfl) ?_
            refine R.go 7 (R.arE (((S.take (S.length - 1)).length : Int) - 1) ((((S.take (S.length - 1)).length) - 1 : Nat) : Int) (by kernel_rfl) (by omega) (by omega) (by omega) (by kernel_rfl) ?_)
            refine R.cut eI (S.take (S.length - 1)) 2 2 (((S.take (S.length - 1)).length) - 1) ((((S.take (S.length - 1)).length) - 1 : Nat) : Int) (by kernel_rfl) (by omega) eI_len (by first | omega | (simp <;> omega)) (by kernel_rfl) ?_
            refine R.go 7 (R.back (AI ((S.take (S.length - 1)).getD (((S.take (S.length - 1)).length) - 1) 0)) (frm 86 [(1, LI vs), (2, LN a), (3, .ptr 0 0), (7, AI ((shl64 1 n) - 1)), (8, .ptr 1 0), (9, .fn 141 [.ptr 1 0]), (10, AI i), (11, AI (bnot ((shl64 1 n) - 1) (S.getD (S.length - 1) 0))), (18, AI i), (19, .bool (decide (i ≥ 0))), (22, LN a), (23, AI i), (24, .rptr [AI ((a.getD ((i).toNat) (0, 0)).1), AI ((a.getD ((i).toNat) (0, 0)).2)]), (25, .rptr [AI ((a.getD ((i).toNat) (0, 0)).1), AI ((a.getD ((i).toNat) (0, 0)).2)]), (26, AI ((a.getD ((i).toNat) (0, 0)).1)), (27, .bool (decide (((a.getD ((i).toNat) (0, 0)).1) = 0))), (28, .bool (decide (((a.getD ((i).toNat) (0, 0)).1) = 0))), (37, .bool (decide (((a.getD ((i).toNat) (0, 0)).1) = 2))), (38, .bool (decide (((a.getD ((i).toNat) (0, 0)).1) = 2))), (44, .bool (decide (((a.getD ((i).toNat) (0, 0)).1) = 3))), (45, .bool (decide (((a.getD ((i).toNat) (0, 0)).1) = 3))), (51, .bool (decide (((a.getD ((i).toNat) (0, 0)).1) = 4))), (52, .bool (decide (((a.getD ((i).toNat) (0, 0)).1) = 4))), (53, AI ((shl64 1 n) - 1)), (54, .fn 141 [.ptr 1 0]), (55, AI (S.getD (S.length - 1) 0)), (56, AI (bnot ((shl64 1 n) - 1) (S.getD (S.length - 1) 0))), (57, AI (bnot ((shl64 1 n) - 1) (S.getD (S.length - 1) 0))), (58, .fn 141 [.ptr 1 0])]) (by kernel_rfl) (by kernel_rfl) (by kernel_rfl) ?_)
            refine R.go 8 (R.app eI ((S.take (S.length - 1)).take (((S.take (S.length - 1)).length) - 1)) [bor (bnot ((shl64 1 n) - 1) (S.getD (S.length - 1) 0)) ((S.take (S.length - 1)).getD (((S.take (S.length - 1)).length) - 1) 0)] 2 2 1 8 (by kernel_rfl) eI_one (by decide) (by first | omega | (simp <;> omega)) (by kernel_rfl) ?_)
            refine R.go 5 (R.ar (i - 1) (by kernel_rfl) (by omega) (by omega) (by kernel_rfl) ?_)
            exact R.go 2 (R.stop R1 (by kernel_rfl) (N2 (i - 1, ((S.take (S.length - 1)).take (((S.take (S.length - 1)).length) - 1)) ++ [bor (bnot ((shl64 1 n) - 1) (S.getD (S.length - 1) 0)) ((S.take (S.length - 1)).getD (((S.take (S.length - 1)).length) - 1) 0)]) [1, 2, 3, 7, 8, 9, 10] (some [0, 1, 2]) _ (by kernel_rfl) (by kernel_rfl) ⟨(by omega), (by omega), (by simp <;> omega), (by first | exact stkg_push ‹S = _› (by omega) (by omega) (by omega) | exact stkg_bot ‹S = _› (by omega) (by omega) (by omega) | exact stkg_two hok ‹S = _› (by omega) (by omega) ‹(a.getD i.toNat (0, 0)).1 = _› (by omega) rfl rfl rfl rfl | exact stkg_one hok ‹S = _› (by omega) (by omega) ‹(a.getD i.toNat (0, 0)).1 = _› (by omega) rfl rfl)⟩ (by show (((i - 1) + 1).toNat) < ((i + 1).toNat); omega)))
          · refine R.go 5 (R.cond (((a.getD ((i).toNat) (0, 0)).1) = 5) (by kernel_rfl) (fun c16 => ?_) (fun c16 => ?_))
            · refine R.any (by decide +kernel) (by kernel_rfl) ?_
              refine R.anyF 2 (by kernel_rfl) (np_ret _ _ _) ?_
              refine R.any2 0 3 (by kernel_rfl) (by kernel_rfl) ?_ ?_
              · refine R.go 2 (R.any2 1 3 (by kernel_rfl) (by kernel_rfl) ?_ ?_)
                · refine R.go 2 (R.any1 3 (by kernel_rfl) (by kernel_rfl) ?_)
                  refine R.enter (avs := [.ptr 1 0]) Tryz.func141 rfl (by kernel_rfl) (by kernel_rfl) (by kernel_rfl) ?_
                  intro us17
                  refine R.go 9 (R.arE ((S.length : Int) - 1) ((S.length - 1 : Nat) : Int) (by kernel_rfl) (by omega) (by omega) (by omega) (by kernel_rfl) ?_)
                  refine R.idxO 2 1 S.length (S.length - 1) ((S.length - 1 : Nat) : Int) (by kernel_rfl) (by omega) (by omega) (by kernel_rfl) ?_
                  refine R.ldI S (S.length - 1) (by kernel_rfl) (by omega) (by kernel_rfl) ?_
                  refine R.go 7 (R.arE ((S.length : Int) - 1) ((S.length - 1 : Nat) : Int) (by kernel_rfl) (by omega) (by omega) (by omega) (by kernel_rfl) ?_)
                  refine R.cut eI S 2 2 (S.length - 1) ((S.length - 1 : Nat) : Int) (by kernel_rfl) (by omega) eI_len (by omega) (by kernel_rfl) ?_
                  refine R.go 7 (R.back (AI (S.getD (S.length - 1) 0)) (frm 86 [(1, LI vs), (2, LN a), (3, .ptr 0 0), (7, AI ((shl64 1 n) - 1)), (8, .ptr 1 0), (9, .fn 141 [.ptr 1 0]), (10, AI i), (11, AI 0), (18, AI i), (19, .bool (decide (i ≥ 0))), (22, LN a), (23, AI i), (24, .rptr [AI ((a.getD ((i).toNat) (0, 0)).1), AI ((a.getD ((i).toNat) (0, 0)).2)]), (25, .rptr [AI ((a.getD ((i).toNat) (0, 0)).1), AI ((a.getD ((i).toNat) (0, 0)).2)]), (26, AI ((a.getD ((i).toNat) (0, 0)).1)), (27, .bool (decide (((a.getD ((i).toNat) (0, 0)).1) = 0))), (28, .bool (decide (((a.getD ((i).toNat) (0, 0)).1) = 0))), (37, .bool (decide (((a.getD ((i).toNat) (0, 0)).1) = 2))), (38, .bool (decide (((a.getD ((i).toNat) (0, 0)).1) = 2))), (44, .bool (decide (((a.getD ((i).toNat) (0, 0)).1) = 3))), (45, .bool (decide (((a.getD ((i).toNat) (0, 0)).1) = 3))), (51, .bool (decide (((a.getD ((i).toNat) (0, 0)).1) = 4))), (52, .bool (decide (((a.getD ((i).toNat) (0, 0)).1) = 4))), (61, .bool (decide (((a.getD ((i).toNat) (0, 0)).1) = 5))), (62, .bool (decide (((a.getD ((i).toNat) (0, 0)).1) = 5))), (63, .ptr 0 1), (64, LI xs), (65, .fn 141 [.ptr 1 0])]) (by kernel_rfl) (by kernel_rfl) (by kernel_rfl) ?_)
                  refine R.go 1 (R.any1 4 (by kernel_rfl) (by kernel_rfl) ?_)
                  refine R.call true (box_c xs (S.getD (S.length - 1) 0) hx) (by kernel_rfl) rfl (by kernel_rfl) ?_
                  refine R.go 1 (R.any1 5 (by kernel_rfl) (by kernel_rfl) ?_)
                  refine R.go 2 (R.any0 (by kernel_rfl) ?_)
                  refine R.go 5 (R.app eI (S.take (S.length - 1)) [boxB xs (S.getD (S.length - 1) 0) xs.length] 2 2 1 8 (by kernel_rfl) eI_one (by decide) (by first | omega | (simp <;> omega)) (by kernel_rfl) ?_)
                  refine R.go 5 (R.ar (i - 1) (by kernel_rfl) (by omega) (by omega) (by kernel_rfl) ?_)
                  exact R.go 2 (R.stop R1 (by kernel_rfl) (N2 (i - 1, (S.take (S.length - 1)) ++ [boxB xs (S.getD (S.length - 1) 0) xs.length]) [1, 2, 3, 7, 8, 9, 10] (some [0, 1, 2]) _ (by kernel_rfl) (by kernel_rfl) ⟨(by omega), (by omega), (by simp <;> omega), (by first | exact stkg_push ‹S = _› (by omega) (by omega) (by omega) | exact stkg_bot ‹S = _› (by omega) (by omega) (by omega) | exact stkg_two hok ‹S = _› (by omega) (by omega) ‹(a.getD i.toNat (0, 0)).1 = _› (by omega) rfl rfl rfl rfl | exact stkg_one hok ‹S = _› (by omega) (by omega) ‹(a.getD i.toNat (0, 0)).1 = _› (by omega) rfl rfl)⟩ (by show (((i - 1) + 1).toNat) < ((i + 1).toNat); omega)))
                · refine R.enter (avs := [.ptr 1 0]) Tryz.func141 rfl (by kernel_rfl) (by kernel_rfl) (by kernel_rfl) ?_
                  intro us18
                  refine R.go 9 (R.arE ((S.length : Int) - 1) ((S.length - 1 : Nat) : Int) (by kernel_rfl) (by omega) (by omega) (by omega) (by kernel_rfl) ?_)
                  refine R.idxO 2 1 S.length (S.length - 1) ((S.length - 1 : Nat) : Int) (by kernel_rfl) (by omega) (by omega) (by kernel_rfl) ?_
                  refine R.ldI S (S.length - 1) (by kernel_rfl) (by omega) (by kernel_rfl) ?_
                  refine R.go 7 (R.arE ((S.length : Int) - 1) ((S.length - 1 : Nat) : Int) (by kernel_rfl) (by omega) (by omega) (by omega) (by kernel_rfl) ?_)
                  refine R.cut eI S 2 2 (S.length - 1) ((S.length - 1 : Nat) : Int) (by kernel_rfl) (by omega) eI_len (by omega) (by kernel_rfl) ?_
                  refine R.go 7 (R.back (AI (S.getD (S.length - 1) 0)) (frm 86 [(1, LI vs), (2, LN a), (3, .ptr 0 0), (7, AI ((shl64 1 n) - 1)), (8, .ptr 1 0), (9, .fn 141 [.ptr 1 0]), (10, AI i), (11, AI 0), (18, AI i), (19, .bool (decide (i ≥ 0))), (22, LN a), (23, AI i), (24, .rptr [AI ((a.getD ((i).toNat) (0, 0)).1), AI ((a.getD ((i).toNat) (0, 0)).2)]), (25, .rptr [AI ((a.getD ((i).toNat) (0, 0)).1), AI ((a.getD ((i).toNat) (0, 0)).2)]), (26, AI ((a.getD ((i).toNat) (0, 0)).1)), (27, .bool (decide (((a.getD ((i).toNat) (0, 0)).1) = 0))), (28, .bool (decide (((a.getD ((i).toNat) (0, 0)).1) = 0))), (37, .bool (decide (((a.getD ((i).toNat) (0, 0)).1) = 2))), (38, .bool (decide (((a.getD ((i).toNat) (0, 0)).1) = 2))), (44, .bool (decide (((a.getD ((i).toNat) (0, 0)).1) = 3))), (45, .bool (decide (((a.getD ((i).toNat) (0, 0)).1) = 3))), (51, .bool (decide (((a.getD ((i).toNat) (0, 0)).1) = 4))), (52, .bool (decide (((a.getD ((i).toNat) (0, 0)).1) = 4))), (61, .bool (decide (((a.getD ((i).toNat) (0, 0)).1) = 5))), (62, .bool (decide (((a.getD ((i).toNat) (0, 0)).1) = 5))), (63, .ptr 0 1), (65, .fn 141 [.ptr 1 0])]) (by kernel_rfl) (by kernel_rfl) (by kernel_rfl) ?_)
                  refine R.go 1 (R.any1 1 (by kernel_rfl) (by kernel_rfl) ?_)
                  refine R.go 2 (R.any1 4 (by kernel_rfl) (by kernel_rfl) ?_)
                  refine R.call true (box_c xs (S.getD (S.length - 1) 0) hx) (by kernel_rfl) rfl (by kernel_rfl) ?_
                  refine R.go 1 (R.any1 5 (by kernel_rfl) (by kernel_rfl) ?_)
                  refine R.go 2 (R.any0 (by kernel_rfl) ?_)
                  refine R.go 5 (R.app eI (S.take (S.length - 1)) [boxB xs (S.getD (S.length - 1) 0) xs.length] 2 2 1 8 (by kernel_rfl) eI_one (by decide) (by first | omega | (simp <;> omega)) (by kernel_rfl) ?_)
                  refine R.go 5 (R.ar (i - 1) (by kernel_rfl) (by omega) (by omega) (by kernel_rfl) ?_)
                  exact R.go 2 (R.stop R1 (by kernel_rfl) (N2 (i - 1, (S.take (S.length - 1)) ++ [boxB xs (S.getD (S.length - 1) 0) xs.length]) [1, 2, 3, 7, 8, 9, 10] (some [0, 1, 2]) _ (by kernel_rfl) (by kernel_rfl) ⟨(by omega), (by omega), (by simp <;> omega), (by first | exact stkg_push ‹S = _› (by omega) (by omega) (by omega) | exact stkg_bot ‹S = _› (by omega) (by omega) (by omega) | exact stkg_two hok ‹S = _› (by omega) (by omega) ‹(a.getD i.toNat (0, 0)).1 = _› (by omega) rfl rfl rfl rfl | exact stkg_one hok ‹S = _› (by omega) (by omega) ‹(a.getD i.toNat (0, 0)).1 = _› (by omega) rfl rfl)⟩ (by show (((i - 1) + 1).toNat) < ((i + 1).toNat); omega)))
              · refine R.enter (avs := [.ptr 1 0]) Tryz.func141 rfl (by kernel_rfl) (by kernel_rfl) (by kernel_rfl) ?_
                intro us19
                refine R.go 9 (R.arE ((S.length : Int) - 1) ((S.length - 1 : Nat) : Int) (by kernel_rfl) (by omega) (by omega) (by omega) (by kernel_rfl) ?_)
                refine R.idxO 2 1 S.length (S.length - 1) ((S.length - 1 : Nat) : Int) (by kernel_rfl) (by omega) (by omega) (by kernel_rfl) ?_
                refine R.ldI S (S.length - 1) (by kernel_rfl) (by omega) (by kernel_rfl) ?_
                refine R.go 7 (R.arE ((S.length : Int) - 1) ((S.length - 1 : Nat) : Int) (by kernel_rfl) (by omega) (by omega) (by omega) (by kernel_rfl) ?_)
                refine R.cut eI S 2 2 (S.length - 1) ((S.length - 1 : Nat) : Int) (by kernel_rfl) (by omega) eI_len (by omega) (by kernel_rfl) ?_
                refine R.go 7 (R.back (AI (S.getD (S.length - 1) 0)) (frm 86 [(1, LI vs), (2, LN a), (3, .ptr 0 0), (7, AI ((shl64 1 n) - 1)), (8, .ptr 1 0), (9, .fn 141 [.ptr 1 0]), (10, AI i), (11, AI 0), (18, AI i), (19, .bool (decide (i ≥ 0))), (22, LN a), (23, AI i), (24, .rptr [AI ((a.getD ((i).toNat) (0, 0)).1), AI ((a.getD ((i).toNat) (0, 0)).2)]), (25, .rptr [AI ((a.getD ((i).toNat) (0, 0)).1), AI ((a.getD ((i).toNat) (0, 0)).2)]), (26, AI ((a.getD ((i).toNat) (0, 0)).1)), (27, .bool (decide (((a.getD ((i).toNat) (0, 0)).1) = 0))), (28, .bool (decide (((a.getD ((i).toNat) (0, 0)).1) = 0))), (37, .bool (decide (((a.getD ((i).toNat) (0, 0)).1) = 2))), (38, .bool (decide (((a.getD ((i).toNat) (0, 0)).1) = 2))), (44, .bool (decide (((a.getD ((i).toNat) (0, 0)).1) = 3))), (45, .bool (decide (((a.getD ((i).toNat) (0, 0)).1) = 3))), (51, .bool (decide (((a.getD ((i).toNat) (0, 0)).1) = 4))), (52, .bool (decide (((a.getD ((i).toNat) (0, 0)).1) = 4))), (61, .bool (decide (((a.getD ((i).toNat) (0, 0)).1) = 5))), (62, .bool (decide (((a.getD ((i).toNat) (0, 0)).1) = 5))), (65, .fn 141 [.ptr 1 0])]) (by kernel_rfl) (by kernel_rfl) (by kernel_rfl) ?_)
                refine R.go 1 (R.any1 0 (by kernel_rfl) (by kernel_rfl) ?_)
                refine R.go 2 (R.any1 1 (by kernel_rfl) (by kernel_rfl) ?_)
                refine R.go 2 (R.any1 4 (by kernel_rfl) (by kernel_rfl) ?_)
                refine R.call true (box_c xs (S.getD (S.length - 1) 0) hx) (by kernel_rfl) rfl (by kernel_rfl) ?_
                refine R.go 1 (R.any1 5 (by kernel_rfl) (by kernel_rfl) ?_)
                refine R.go 2 (R.any0 (by kernel_rfl) ?_)
                refine R.go 5 (R.app eI (S.take (S.length - 1)) [boxB xs (S.getD (S.length - 1) 0) xs.length] 2 2 1 8 (by kernel_rfl) eI_one (by decide) (by first | omega | (simp <;> omega)) (by kernel_rfl) ?_)
                refine R.go 5 (R.ar (i - 1) (by kernel_rfl) (by omega) (by omega) (by kernel_rfl) ?_)
                exact R.go 2 (R.stop R1 (by kernel_rfl) (N2 (i - 1, (S.take (S.length - 1)) ++ [boxB xs (S.getD (S.length - 1) 0) xs.length]) [1, 2, 3, 7, 8, 9, 10] (some [0, 1, 2]) _ (by kernel_rfl) (by kernel_rfl) ⟨(by omega), (by omega), (by simp <;> omega), (by first | exact stkg_push ‹S = _› (by omega) (by omega) (by omega) | exact stkg_bot ‹S = _› (by omega) (by omega) (by omega) | exact stkg_two hok ‹S = _› (by omega) (by omega) ‹(a.getD i.toNat (0, 0)).1 = _› (by omega) rfl rfl rfl rfl | exact stkg_one hok ‹S = _› (by omega) (by omega) ‹(a.getD i.toNat (0, 0)).1 = _› (by omega) rfl rfl)⟩ (by show (((i - 1) + 1).toNat) < ((i + 1).toNat); omega)))
            · refine R.go 5 (R.cond (((a.getD ((i).toNat) (0, 0)).1) = 6) (by kernel_rfl) (fun c20 => ?_) (fun c20 => ?_))
              · refine R.any (by decide +kernel) (by kernel_rfl) ?_
                refine R.anyF 0 (by kernel_rfl) (np_ret _ _ _) ?_
                refine R.anyF 3 (by kernel_rfl) (np_ret _ _ _) ?_
                refine R.anyF 4 (by kernel_rfl) (np_ret _ _ _) ?_
                refine R.any2 1 5 (by kernel_rfl) (by kernel_rfl) ?_ ?_
                · refine R.go 2 (R.any2 2 5 (by kernel_rfl) (by kernel_rfl) ?_ ?_)
                  · refine R.go 2 (R.any1 5 (by kernel_rfl) (by kernel_rfl) ?_)
                    refine R.enter (avs := [.ptr 1 0]) Tryz.func141 rfl (by kernel_rfl) (by kernel_rfl) (by kernel_rfl) ?_
                    intro us21
                    refine R.go 9 (R.arE ((S.length : Int) - 1) ((S.length - 1 : Nat) : Int) (by kernel_rfl) (by omega) (by omega) (by omega) (by kernel_rfl) ?_)
                    refine R.idxO 2 1 S.length (S.length - 1) ((S.length - 1 : Nat) : Int) (by kernel_rfl) (by omega) (by omega) (by kernel_rfl) ?_
                    refine R.ldI S (S.length - 1) (by kernel_rfl) (by omega) (by kernel_rfl) ?_
                    refine R.go 7 (R.arE ((S.length : Int) - 1) ((S.length - 1 : Nat) : Int) (by kernel_rfl) (by omega) (by omega) (by omega) (by kernel_rfl) ?_)
                    refine R.cut eI S 2 2 (S.length - 1) ((S.length - 1 : Nat) : Int) (by kernel_rfl) (by omega) eI_len (by omega) (by kernel_rfl) ?_
                    refine R.go 7 (R.back (AI (S.getD (S.length - 1) 0)) (frm 86 [(1, LI vs), (2, LN a), (3, .ptr 0 0), (7, AI ((shl64 1 n) - 1)), (8, .ptr 1 0), (9, .fn 141 [.ptr 1 0]), (10, AI i), (11, AI 0), (18, AI i), (19, .bool (decide (i ≥ 0))), (22, LN a), (23, AI i), (24, .rptr [AI ((a.getD ((i).toNat) (0, 0)).1), AI ((a.getD ((i).toNat) (0, 0)).2)]), (25, .rptr [AI ((a.getD ((i).toNat) (0, 0)).1), AI ((a.getD ((i).toNat) (0, 0)).2)]), (26, AI ((a.getD ((i).toNat) (0, 0)).1)), (27, .bool (decide (((a.getD ((i).toNat) (0, 0)).1) = 0))), (28, .bool (decide (((a.getD ((i).toNat) (0, 0)).1) = 0))), (37, .bool (decide (((a.getD ((i).toNat) (0, 0)).1) = 2))), (38, .bool (decide (((a.getD ((i).toNat) (0, 0)).1) = 2))), (44, .bool (decide (((a.getD ((i).toNat) (0, 0)).1) = 3))), (45, .bool (decide (((a.getD ((i).toNat) (0, 0)).1) = 3))), (51, .bool (decide (((a.getD ((i).toNat) (0, 0)).1) = 4))), (52, .bool (decide (((a.getD ((i).toNat) (0, 0)).1) = 4))), (61, .bool (decide (((a.getD ((i).toNat) (0, 0)).1) = 5))), (62, .bool (decide (((a.getD ((i).toNat) (0, 0)).1) = 5))), (68, .bool (decide (((a.getD ((i).toNat) (0, 0)).1) = 6))), (69, .bool (decide (((a.getD ((i).toNat) (0, 0)).1) = 6))), (70, AI ((shl64 1 n) - 1)), (71, .ptr 0 1), (72, LI xs), (73, AI ((shl64 1 n) - 1)), (74, .fn 141 [.ptr 1 0])]) (by kernel_rfl) (by kernel_rfl) (by kernel_rfl) ?_)
                    refine R.go 1 (R.any1 6 (by kernel_rfl) (by kernel_rfl) ?_)
                    refine R.go 2 (R.any1 7 (by kernel_rfl) (by kernel_rfl) ?_)
                    refine R.call true (box_c xs (bnot ((shl64 1 n) - 1) (S.getD (S.length - 1) 0)) hx) (by kernel_rfl) rfl (by kernel_rfl) ?_
                    refine R.go 1 (R.any1 8 (by kernel_rfl) (by kernel_rfl) ?_)
                    refine R.go 2 (R.any1 9 (by kernel_rfl) (by kernel_rfl) ?_)
                    refine R.go 2 (R.any0 (by kernel_rfl) ?_)
                    refine R.go 5 (R.app eI (S.take (S.length - 1)) [bnot ((shl64 1 n) - 1) (boxB xs (bnot ((shl64 1 n) - 1) (S.getD (S.length - 1) 0)) xs.length)] 2 2 1 8 (by kernel_rfl) eI_one (by decide) (by first | omega | (simp <;> omega)) (by kernel_rfl) ?_)
                    refine R.go 5 (R.ar (i - 1) (by kernel_rfl) (by omega) (by omega) (by kernel_rfl) ?_)
                    exact R.go 2 (R.stop R1 (by kernel_rfl) (N2 (i - 1, (S.take (S.length - 1)) ++ [bnot ((shl64 1 n) - 1) (boxB xs (bnot ((shl64 1 n) - 1) (S.getD (S.length - 1) 0)) xs.length)]) [1, 2, 3, 7, 8, 9, 10] (some [0, 1, 2]) _ (by kernel_rfl) (by kernel_rfl) ⟨(by omega), (by omega), (by simp <;> omega), (by first | exact stkg_push ‹S = _› (by omega) (by omega) (by omega) | exact stkg_bot ‹S = _› (by omega) (by omega) (by omega) | exact stkg_two hok ‹S = _› (by omega) (by omega) ‹(a.getD i.toNat (0, 0)).1 = _› (by omega) rfl rfl rfl rfl | exact stkg_one hok ‹S = _› (by omega) (by omega) ‹(a.getD i.toNat (0, 0)).1 = _› (by omega) rfl rfl)⟩ (by show (((i - 1) + 1).toNat) < ((i + 1).toNat); omega)))
                  · refine R.enter (avs := [.ptr 1 0]) Tryz.func141 rfl (by kernel_rfl) (by kernel_rfl) (by kernel_rfl) ?_
                    intro us22
                    refine R.go 9 (R.arE ((S.length : Int) - 1) ((S.length - 1 : Nat) : Int) (by kernel_rfl) (by omega) (by omega) (by omega) (by kernel_rfl) ?_)
                    refine R.idxO 2 1 S.length (S.length - 1) ((S.length - 1 : Nat) : Int) (by kernel_rfl) (by omega) (by omega) (by kernel_rfl) ?_
                    refine R.ldI S (S.length - 1) (by kernel_rfl) (by omega) (by kernel_rfl) ?_
                    refine R.go 7 (R.arE ((S.length : Int) - 1) ((S.length - 1 : Nat) : Int) (by kernel_rfl) (by omega) (by omega) (by omega) (by kernel_rfl) ?_)
                    refine R.cut eI S 2 2 (S.length - 1) ((S.length - 1 : Nat) : Int) (by kernel_rfl) (by omega) eI_len (by omega) (by kernel_rfl) ?_
                    refine R.go 7 (R.back (AI (S.getD (S.length - 1) 0)) (frm 86 [(1, LI vs), (2, LN a), (3, .ptr 0 0), (7, AI ((shl64 1 n) - 1)), (8, .ptr 1 0), (9, .fn 141 [.ptr 1 0]), (10, AI i), (11, AI 0), (18, AI i), (19, .bool (decide (i ≥ 0))), (22, LN a), (23, AI i), (24, .rptr [AI ((a.getD ((i).toNat) (0, 0)).1), AI ((a.getD ((i).toNat) (0, 0)).2)]), (25, .rptr [AI ((a.getD ((i).toNat) (0, 0)).1), AI ((a.getD ((i).toNat) (0, 0)).2)]), (26, AI ((a.getD ((i).toNat) (0, 0)).1)), (27, .bool (decide (((a.getD ((i).toNat) (0, 0)).1) = 0))), (28, .bool (decide (((a.getD ((i).toNat) (0, 0)).1) = 0))), (37, .bool (decide (((a.getD ((i).toNat) (0, 0)).1) = 2))), (38, .bool (decide (((a.getD ((i).toNat) (0, 0)).1) = 2))), (44, .bool (decide (((a.getD ((i).toNat) (0, 0)).1) = 3))), (45, .bool (decide (((a.getD ((i).toNat) (0, 0)).1) = 3))), (51, .bool (decide (((a.getD ((i).toNat) (0, 0)).1) = 4))), (52, .bool (decide (((a.getD ((i).toNat) (0, 0)).1) = 4))), (61, .bool (decide (((a.getD ((i).toNat) (0, 0)).1) = 5))), (62, .bool (decide (((a.getD ((i).toNat) (0, 0)).1) = 5))), (68, .bool (decide (((a.getD ((i).toNat) (0, 0)).1) = 6))), (69, .bool (decide (((a.getD ((i).toNat) (0, 0)).1) = 6))), (70, AI ((shl64 1 n) - 1)), (71, .ptr 0 1), (73, AI ((shl64 1 n) - 1)), (74, .fn 141 [.ptr 1 0])]) (by kernel_rfl) (by kernel_rfl) (by kernel_rfl) ?_)
                    refine R.go 1 (R.any2 2 6 (by kernel_rfl) (by kernel_rfl) ?_ ?_)
                    · refine R.go 2 (R.any1 6 (by kernel_rfl) (by kernel_rfl) ?_)
                      refine R.go 2 (R.any1 7 (by kernel_rfl) (by kernel_rfl) ?_)
                      refine R.call true (box_c xs (bnot ((shl64 1 n) - 1) (S.getD (S.length - 1) 0)) hx) (by kernel_rfl) rfl (by kernel_rfl) ?_
                      refine R.go 1 (R.any1 8 (by kernel_rfl) (by kernel_rfl) ?_)
                      refine R.go 2 (R.any1 9 (by kernel_rfl) (by kernel_rfl) ?_)
                      refine R.go 2 (R.any0 (by kernel_rfl) ?_)
                      refine R.go 5 (R.app eI (S.take (S.length - 1)) [bnot ((shl64 1 n) - 1) (boxB xs (bnot ((shl64 1 n) - 1) (S.getD (S.length - 1) 0)) xs.length)] 2 2 1 8 (by kernel_rfl) eI_one (by decide) (by first | omega | (simp <;> omega)) (by kernel_rfl) ?_)
                      refine R.go 5 (R.ar (i - 1) (by kernel_rfl) (by omega) (by omega) (by kernel_rfl) ?_)
                      exact R.go 2 (R.stop R1 (by kernel_rfl) (N2 (i - 1, (S.take (S.length - 1)) ++ [bnot ((shl64 1 n) - 1) (boxB xs (bnot ((shl64 1 n) - 1) (S.getD (S.length - 1) 0)) xs.length)]) [1, 2, 3, 7, 8, 9, 10] (some [0, 1, 2]) _ (by kernel_rfl) (by kernel_rfl) ⟨(by omega), (by omega), (by simp <;> omega), (by first | exact stkg_push ‹S = _› (by omega) (by omega) (by omega) | exact stkg_bot ‹S = _› (by omega) (by omega) (by omega) | exact stkg_two hok ‹S = _› (by omega) (by omega) ‹(a.getD i.toNat (0, 0)).1 = _› (by omega) rfl rfl rfl rfl | exact stkg_one hok ‹S = _› (by omega) (by omega) ‹(a.getD i.toNat (0, 0)).1 = _› (by omega) rfl rfl)⟩ (by show (((i - 1) + 1).toNat) < ((i + 1).toNat); omega)))
                    · refine R.go 2 (R.any1 2 (by kernel_rfl) (by kernel_rfl) ?_)
                      refine R.go 2 (R.any1 7 (by kernel_rfl) (by kernel_rfl) ?_)
                      refine R.call true (box_c xs (bnot ((shl64 1 n) - 1) (S.getD (S.length - 1) 0)) hx) (by kernel_rfl) rfl (by kernel_rfl) ?_
                      refine R.go 1 (R.any1 8 (by kernel_rfl) (by kernel_rfl) ?_)
                      refine R.go 2 (R.any1 9 (by kernel_rfl) (by kernel_rfl) ?_)
                      refine R.go 2 (R.any0 (by kernel_rfl) ?_)
                      refine R.go 5 (R.app eI (S.take (S.length - 1)) [bnot ((shl64 1 n) - 1) (boxB xs (bnot ((shl64 1 n) - 1) (S.getD (S.length - 1) 0)) xs.length)] 2 2 1 8 (by kernel_rfl) eI_one (by decide) (by first | omega | (simp <;> omega)) (by kernel_rfl) ?_)
                      refine R.go 5 (R.ar (i - 1) (by kernel_rfl) (by omega) (by omega) (by kernel_rfl) ?_)
                      exact R.go 2 (R.stop R1 (by kernel_rfl) (N2 (i - 1, (S.take (S.length - 1)) ++ [bnot ((shl64 1 n) - 1) (boxB xs (bnot ((shl64 1 n) - 1) (S.getD (S.length - 1) 0)) xs.length)]) [1, 2, 3, 7, 8, 9, 10] (some [0, 1, 2]) _ (by kernel_rfl) (by kernel_rfl) ⟨(by omega), (by omega), (by simp <;> omega), (by first | exact stkg_push ‹S = _› (by omega) (by omega) (by omega) | exact stkg_bot ‹S = _› (by omega) (by omega) (by omega) | exact stkg_two hok ‹S = _› (by omega) (by omega) ‹(a.getD i.toNat (0, 0)).1 = _› (by omega) rfl rfl rfl rfl | exact stkg_one hok ‹S = _› (by omega) (by omega) ‹(a.getD i.toNat (0, 0)).1 = _› (by omega) rfl rfl)⟩ (by show (((i - 1) + 1).toNat) < ((i + 1).toNat); omega)))
                · refine R.enter (avs := [.ptr 1 0]) Tryz.func141 rfl (by kernel_rfl) (by kernel_rfl) (by kernel_rfl) ?_
                  intro us23
                  refine R.go 9 (R.arE ((S.length : Int) - 1) ((S.length - 1 : Nat) : Int) (by kernel_rfl) (by omega) (by omega) (by omega) (by kernel_rfl) ?_)
                  refine R.idxO 2 1 S.length (S.length - 1) ((S.length - 1 : Nat) : Int) (by kernel_rfl) (by omega) (by omega) (by kernel_rfl) ?_
                  refine R.ldI S (S.length - 1) (by kernel_rfl) (by omega) (by kernel_rfl) ?_
                  refine R.go 7 (R.arE ((S.length : Int) - 1) ((S.length - 1 : Nat) : Int) (by kernel_rfl) (by omega) (by omega) (by omega) (by kernel_rfl) ?_)
                  refine R.cut eI S 2 2 (S.length - 1) ((S.length - 1 : Nat) : Int) (by kernel_rfl) (by omega) eI_len (by omega) (by kernel_rfl) ?_
                  refine R.go 7 (R.back (AI (S.getD (S.length - 1) 0)) (frm 86 [(1, LI vs), (2, LN a), (3, .ptr 0 0), (7, AI ((shl64 1 n) - 1)), (8, .ptr 1 0), (9, .fn 141 [.ptr 1 0]), (10, AI i), (11, AI 0), (18, AI i), (19, .bool (decide (i ≥ 0))), (22, LN a), (23, AI i), (24, .rptr [AI ((a.getD ((i).toNat) (0, 0)).1), AI ((a.getD ((i).toNat) (0, 0)).2)]), (25, .rptr [AI ((a.getD ((i).toNat) (0, 0)).1), AI ((a.getD ((i).toNat) (0, 0)).2)]), (26, AI ((a.getD ((i).toNat) (0, 0)).1)), (27, .bool (decide (((a.getD ((i).toNat) (0, 0)).1) = 0))), (28, .bool (decide (((a.getD ((i).toNat) (0, 0)).1) = 0))), (37, .bool (decide (((a.getD ((i).toNat) (0, 0)).1) = 2))), (38, .bool (decide (((a.getD ((i).toNat) (0, 0)).1) = 2))), (44, .bool (decide (((a.getD ((i).toNat) (0, 0)).1) = 3))), (45, .bool (decide (((a.getD ((i).toNat) (0, 0)).1) = 3))), (51, .bool (decide (((a.getD ((i).toNat) (0, 0)).1) = 4))), (52, .bool (decide (((a.getD ((i).toNat) (0, 0)).1) = 4))), (61, .bool (decide (((a.getD ((i).toNat) (0, 0)).1) = 5))), (62, .bool (decide (((a.getD ((i).toNat) (0, 0)).1) = 5))), (68, .bool (decide (((a.getD ((i).toNat) (0, 0)).1) = 6))), (69, .bool (decide (((a.getD ((i).toNat) (0, 0)).1) = 6))), (70, AI ((shl64 1 n) - 1)), (73, AI ((shl64 1 n) - 1)), (74, .fn 141 [.ptr 1 0])]) (by kernel_rfl) (by kernel_rfl) (by kernel_rfl) ?_)
                  refine R.go 1 (R.any2 1 6 (by kernel_rfl) (by kernel_rfl) ?_ ?_)
                  · refine R.go 2 (R.any2 2 6 (by kernel_rfl) (by kernel_rfl) ?_ ?_)
                    · refine R.go 2 (R.any1 6 (by kernel_rfl) (by kernel_rfl) ?_)
                      refine R.go 2 (R.any1 7 (by kernel_rfl) (by kernel_rfl) ?_)
                      refine R.call true (box_c xs (bnot ((shl64 1 n) - 1) (S.getD (S.length - 1) 0)) hx) (by kernel_rfl) rfl (by kernel_rfl) ?_
                      refine R.go 1 (R.any1 8 (by kernel_rfl) (by kernel_rfl) ?_)
                      refine R.go 2 (R.any1 9 (by kernel_rfl) (by kernel_rfl) ?_)
                      refine R.go 2 (R.any0 (by kernel_rfl) ?_)
                      refine R.go 5 (R.app eI (S.take (S.length - 1)) [bnot ((shl64 1 n) - 1) (boxB xs (bnot ((shl64 1 n) - 1) (S.getD (S.length - 1) 0)) xs.length)] 2 2 1 8 (by kernel_rfl) eI_one (by decide) (by first | omega | (simp <;> omega)) (by kernel_rfl) ?_)
                      refine R.go 5 (R.ar (i - 1) (by kernel_rfl) (by omega) (by omega) (by kernel_rfl) ?_)
                      exact R.go 2 (R.stop R1 (by kernel_rfl) (N2 (i - 1, (S.take (S.length - 1)) ++ [bnot ((shl64 1 n) - 1) (boxB xs (bnot ((shl64 1 n) - 1) (S.getD (S.length - 1) 0)) xs.length)]) [1, 2, 3, 7, 8, 9, 10] (some [0, 1, 2]) _ (by kernel_rfl) (by kernel_rfl) ⟨(by omega), (by omega), (by simp <;> omega), (by first | exact stkg_push ‹S = _› (by omega) (by omega) (by omega) | exact stkg_bot ‹S = _› (by omega) (by omega) (by omega) | exact stkg_two hok ‹S = _› (by omega) (by omega) ‹(a.getD i.toNat (0, 0)).1 = _› (by omega) rfl rfl rfl rfl | exact stkg_one hok ‹S = _› (by omega) (by omega) ‹(a.getD i.toNat (0, 0)).1 = _› (by omega) rfl rfl)⟩ (by show (((i - 1) + 1).toNat) < ((i + 1).toNat); omega)))
                    · refine R.go 2 (R.any1 2 (by kernel_rfl) (by kernel_rfl) ?_)
                      refine R.go 2 (R.any1 7 (by kernel_rfl) (by kernel_rfl) ?_)
                      refine R.call true (box_c xs (bnot ((shl64 1 n) - 1) (S.getD (S.length - 1) 0)) hx) (by kernel_rfl) rfl (by kernel_rfl) ?_
                      refine R.go 1 (R.any1 8 (by kernel_rfl) (by kernel_rfl) ?_)
                      refine R.go 2 (R.any1 9 (by kernel_rfl) (by kernel_rfl) ?_)
                      refine R.go 2 (R.any0 (by kernel_rfl) ?_)
                      refine R.go 5 (R.app eI (S.take (S.length - 1)) [bnot ((shl64 1 n) - 1) (boxB xs (bnot ((shl64 1 n) - 1) (S.getD (S.length - 1) 0)) xs.length)] 2 2 1 8 (by kernel_rfl) eI_one (by decide) (by first | omega | (simp <;> omega)) (by kernel_rfl) ?_)
                      refine R.go 5 (R.ar (i - 1) (by kernel_rfl) (by omega) (by omega) (by kernel_rfl) ?_)
                      exact R.go 2 (R.stop R1 (by kernel_rfl) (N2 (i - 1, (S.take (S.length - 1)) ++ [bnot ((shl64 1 n) - 1) (boxB xs (bnot ((shl64 1 n) - 1) (S.getD (S.length - 1) 0)) xs.length)]) [1, 2, 3, 7, 8, 9, 10] (some [0, 1, 2]) _ (by kernel_rfl) (by kernel_rfl) ⟨(by omega), (by omega), (by simp <;> omega), (by first | exact stkg_push ‹S = _› (by omega) (by omega) (by omega) | exact stkg_bot ‹S = _› (by omega) (by omega) (by omega) | exact stkg_two hok ‹S = _› (by omega) (by omega) ‹(a.getD i.toNat (0, 0)).1 = _› (by omega) rfl rfl rfl rfl | exact stkg_one hok ‹S = _› (by omega) (by omega) ‹(a.getD i.toNat (0, 0)).1 = _› (by omega) rfl rfl)⟩ (by show (((i - 1) + 1).toNat) < ((i + 1).toNat); omega)))
                  · refine R.go 2 (R.any1 1 (by kernel_rfl) (by kernel_rfl) ?_)
                    refine R.go 2 (R.any1 2 (by kernel_rfl) (by kernel_rfl) ?_)
                    refine R.go 2 (R.any1 7 (by kernel_rfl) (by kernel_rfl) ?_)
                    refine R.call true (box_c xs (bnot ((shl64 1 n) - 1) (S.getD (S.length - 1) 0)) hx) (by kernel_rfl) rfl (by kernel_rfl) ?_
                    refine R.go 1 (R.any1 8 (by kernel_rfl) (by kernel_rfl) ?_)
                    refine R.go 2 (R.any1 9 (by kernel_rfl) (by kernel_rfl) ?_)
                    refine R.go 2 (R.any0 (by kernel_rfl) ?_)
                    refine R.go 5 (R.app eI (S.take (S.length - 1)) [bnot ((shl64 1 n) - 1) (boxB xs (bnot ((shl64 1 n) - 1) (S.getD (S.length - 1) 0)) xs.length)] 2 2 1 8 (by kernel_rfl) eI_one (by decide) (by first | omega | (simp <;> omega)) (by kernel_rfl) ?_)
                    refine R.go 5 (R.ar (i - 1) (by kernel_rfl) (by omega) (by omega) (by kernel_rfl) ?_)
                    exact R.go 2 (R.stop R1 (by kernel_rfl) (N2 (i - 1, (S.take (S.length - 1)) ++ [bnot ((shl64 1 n) - 1) (boxB xs (bnot ((shl64 1 n) - 1) (S.getD (S.length - 1) 0)) xs.length)]) [1, 2, 3, 7, 8, 9, 10] (some [0, 1, 2]) _ (by kernel_rfl) (by kernel_rfl) ⟨(by omega), (by omega), (by simp <;> omega), (by first | exact stkg_push ‹S = _› (by omega) (by omega) (by omega) | exact stkg_bot ‹S = _› (by omega) (by omega) (by omega) | exact stkg_two hok ‹S = _› (by omega) (by omega) ‹(a.getD i.toNat (0, 0)).1 = _› (by omega) rfl rfl rfl rfl | exact stkg_one hok ‹S = _› (by omega) (by omega) ‹(a.getD i.toNat (0, 0)).1 = _› (by omega) rfl rfl)⟩ (by show (((i - 1) + 1).toNat) < ((i + 1).toNat); omega)))
              · refine R.go 6 (R.app eI S [0] 2 2 1 8 (by kernel_rfl) eI_one (by decide) (by first | omega | (simp <;> omega)) (by kernel_rfl) ?_)
                refine R.go 5 (R.ar (i - 1) (by kernel_rfl) (by omega) (by omega) (by kernel_rfl) ?_)
                exact R.go 2 (R.stop R1 (by kernel_rfl) (N2 (i - 1, S ++ [0]) [1, 2, 3, 7, 8, 9, 10] (some [0, 1, 2]) _ (by kernel_rfl) (by kernel_rfl) ⟨(by omega), (by omega), (by simp <;> omega), (by first | exact stkg_push ‹S = _› (by omega) (by omega) (by omega) | exact stkg_bot ‹S = _› (by omega) (by omega) (by omega) | exact stkg_two hok ‹S = _› (by omega) (by omega) ‹(a.getD i.toNat (0, 0)).1 = _› (by omega) rfl rfl rfl rfl | exact stkg_one hok ‹S = _› (by omega) (by omega) ‹(a.getD i.toNat (0, 0)).1 = _› (by omega) rfl rfl)⟩ (by show (((i - 1) + 1).toNat) < ((i + 1).toNat); omega)))
  · refine R.go 4 (R.idxO 2 1 S.length 0 0 (by kernel_rfl) rfl (by omega) (by kernel_rfl) ?_)
    refine R.ldI S 0 (by kernel_rfl) (by omega) (by kernel_rfl) ?_
    exact R.go 2 (R.retE (AI (S.getD 0 0)) (by kernel_rfl) (by kernel_rfl) (by first | (apply congrArg AI; rw [stkg_fin hok ‹S = _› (by omega)]; rfl) | (exfalso; omega)))

theorem l06Truth_c : ∀ (k : Nat) (n : Int) (xs : List Int) (vs : List Int) (a : List (Int × Int)) (hk : a.length = k) (hok : OKM vs.length a) (h0 : 0 ≤ n) (h1 : n ≤ 8) (hx : xs.length ≤ 60) (hl : a.length ≤ 1000000000), CallA Tryz.prog 52 [.agg [AI n, LI xs, LI vs], LN a] (AI (gv (mT n) (mU n (bxA xs)) vs a)) := by
  intro k
  induction k using Nat.strongRecOn with
  | _ k ih =>
  intro n xs vs a hk hok h0 h1 hx hl
  have hlen := okm_pos hok
  have hg := okm_get hok 0 (by omega)
  refine CallA.of Tryz.func52 rfl (by kernel_rfl) ?_
  refine R.go 10 (R.call true (l01Full_c n h0 (by first | omega | (have hq := lenm_lef hok ((partsN_two _).2 (by omega)); omega) | (simp; omega))) (by kernel_rfl) rfl (by kernel_rfl) ?_)
  refine R.go 6 (R.idx eN a (0, 0) 0 0 (by kernel_rfl) rfl eN_len (by first | omega | (have hq := lenm_lef hok ((partsN_two _).2 (by omega)); omega) | (simp; omega)) (by kernel_rfl) ?_)
  refine R.go 9 (R.cond (((a.getD 0 (0, 0)).1) = 0) (by kernel_rfl) (fun c1 => ?_) (fun c1 => ?_))
  · refine R.go 5 (R.idx eN a (0, 0) 0 0 (by kernel_rfl) rfl eN_len (by first | omega | (have hq := lenm_lef hok ((partsN_two _).2 (by omega)); omega) | (simp; omega)) (by kernel_rfl) ?_)
    refine R.go 2 (R.idx eI vs 0 (((a.getD 0 (0, 0)).2).toNat) ((a.getD 0 (0, 0)).2) (by kernel_rfl) (by first | omega | (have hq := lenm_lef hok ((partsN_two _).2 (by omega)); omega) | (simp; omega)) eI_len (by first | omega | (have hq := lenm_lef hok ((partsN_two _).2 (by omega)); omega) | (simp; omega)) (by kernel_rfl) ?_)
    exact R.go 3 (R.retE (AI (vs.getD (((a.getD 0 (0, 0)).2).toNat) 0)) (by kernel_rfl) (by kernel_rfl) (by first | (apply congrArg AI; first | exact gv_two (mT n) (mU n (bxA xs)) vs hok ‹(a.getD 0 (0, 0)).1 = _› (by omega) | exact gv_one (mT n) (mU n (bxA xs)) vs hok ‹(a.getD 0 (0, 0)).1 = _› (by omega) | exact gv_two (mT n) (mU n (bxA xs)) vs hok (k := 4) (by omega) (by omega) | exact gv_var _ _ _ hok (by omega) | exact gv_bot _ _ _ hok (by omega)) | (exfalso; omega)))
  · refine R.go 5 (R.cond (((a.getD 0 (0, 0)).1) = 1) (by kernel_rfl) (fun c2 => ?_) (fun c2 => ?_))
    · exact R.go 4 (R.retE (AI 0) (by kernel_rfl) (by kernel_rfl) (by first | (apply congrArg AI; first | exact gv_two (mT n) (mU n (bxA xs)) vs hok ‹(a.getD 0 (0, 0)).1 = _› (by omega) | exact gv_one (mT n) (mU n (bxA xs)) vs hok ‹(a.getD 0 (0, 0)).1 = _› (by omega) | exact gv_two (mT n) (mU n (bxA xs)) vs hok (k := 4) (by omega) (by omega) | exact gv_var _ _ _ hok (by omega) | exact gv_bot _ _ _ hok (by omega)) | (exfalso; omega)))
    · refine R.go 5 (R.cond (((a.getD 0 (0, 0)).1) = 5) (by kernel_rfl) (fun c3 => ?_) (fun c3 => ?_))
      · refine R.go 7 (R.slL eN a 1 1 (by kernel_rfl) rfl eN_len (by first | omega | (have hq := lenm_lef hok ((partsN_two _).2 (by omega)); omega) | (simp; omega)) (by kernel_rfl) ?_)
        refine R.call true (ih ((a.drop 1).length) (by first | omega | (have hq := lenm_lef hok ((partsN_two _).2 (by omega)); omega) | (simp; omega)) n xs vs (a.drop 1) (by first | rfl | simp) (by first | assumption | exact okm_lef hok ((partsN_two _).2 (by omega)) | exact okm_rig hok ((partsN_two _).2 (by omega)) | exact okm_tail hok (partsN_1 (by omega))) h0 h1 hx (by first | omega | (have hq := lenm_lef hok ((partsN_two _).2 (by omega)); omega) | (simp; omega))) (by kernel_rfl) rfl (by kernel_rfl) ?_
        refine R.call true (l01Box_c xs (gv (mT n) (mU n (bxA xs)) vs (a.drop 1)) hx) (by kernel_rfl) rfl (by kernel_rfl) ?_
        exact R.go 2 (R.retE (AI (boxA xs (gv (mT n) (mU n (bxA xs)) vs (a.drop 1)) xs.length)) (by kernel_rfl) (by kernel_rfl) (by first | (apply congrArg AI; first | exact gv_two (mT n) (mU n (bxA xs)) vs hok ‹(a.getD 0 (0, 0)).1 = _› (by omega) | exact gv_one (mT n) (mU n (bxA xs)) vs hok ‹(a.getD 0 (0, 0)).1 = _› (by omega) | exact gv_two (mT n) (mU n (bxA xs)) vs hok (k := 4) (by omega) (by omega) | exact gv_var _ _ _ hok (by omega) | exact gv_bot _ _ _ hok (by omega)) | (exfalso; omega)))
      · refine R.go 5 (R.cond (((a.getD 0 (0, 0)).1) = 6) (by kernel_rfl) (fun c4 => ?_) (fun c4 => ?_))
        · refine R.go 9 (R.slL eN a 1 1 (by kernel_rfl) rfl eN_len (by first | omega | (have hq := lenm_lef hok ((partsN_two _).2 (by omega)); omega) | (simp; omega)) (by kernel_rfl) ?_)
          refine R.call true (ih ((a.drop 1).length) (by first | omega | (have hq := lenm_lef hok ((partsN_two _).2 (by omega)); omega) | (simp; omega)) n xs vs (a.drop 1) (by first | rfl | simp) (by first | assumption | exact okm_lef hok ((partsN_two _).2 (by omega)) | exact okm_rig hok ((partsN_two _).2 (by omega)) | exact okm_tail hok (partsN_1 (by omega))) h0 h1 hx (by first | omega | (have hq := lenm_lef hok ((partsN_two _).2 (by omega)); omega) | (simp; omega))) (by kernel_rfl) rfl (by kernel_rfl) ?_
          refine R.go 1 (R.call true (l01Box_c xs (bnot ((shl64 1 n) - 1) (gv (mT n) (mU n (bxA xs)) vs (a.drop 1))) hx) (by kernel_rfl) rfl (by kernel_rfl) ?_)
          exact R.go 3 (R.retE (AI (bnot ((shl64 1 n) - 1) (boxA xs (bnot ((shl64 1 n) - 1) (gv (mT n) (mU n (bxA xs)) vs (a.drop 1))) xs.length))) (by kernel_rfl) (by kernel_rfl) (by first | (apply congrArg AI; first | exact gv_two (mT n) (mU n (bxA xs)) vs hok ‹(a.getD 0 (0, 0)).1 = _› (by omega) | exact gv_one (mT n) (mU n (bxA xs)) vs hok ‹(a.getD 0 (0, 0)).1 = _› (by omega) | exact gv_two (mT n) (mU n (bxA xs)) vs hok (k := 4) (by omega) (by omega) | exact gv_var _ _ _ hok (by omega) | exact gv_bot _ _ _ hok (by omega)) | (exfalso; omega)))
        · refine R.go 5 (R.cond (((a.getD 0 (0, 0)).1) = 2) (by kernel_rfl) (fun c5 => ?_) (fun c5 => ?_))
          · refine R.go 4 (R.call true (l02Left_c vs.length a hok (by exact (partsN_two _).2 (by omega)) hl) (by kernel_rfl) rfl (by kernel_rfl) ?_)
            refine R.call true (ih ((lef a).length) (by first | omega | (have hq := lenm_lef hok ((partsN_two _).2 (by omega)); omega) | (simp; omega)) n xs vs (lef a) (by first | rfl | simp) (by first | assumption | exact okm_lef hok ((partsN_two _).2 (by omega)) | exact okm_rig hok ((partsN_two _).2 (by omega)) | exact okm_tail hok (partsN_1 (by omega))) h0 h1 hx (by first | omega | (have hq := lenm_lef hok ((partsN_two _).2 (by omega)); omega) | (simp; omega))) (by kernel_rfl) rfl (by kernel_rfl) ?_
            refine R.go 2 (R.call true (l02Right_c vs.length a hok (by exact (partsN_two _).2 (by omega)) hl) (by kernel_rfl) rfl (by kernel_rfl) ?_)
            refine R.call true (ih ((rig a).length) (by first | omega | (have hq := lenm_lef hok ((partsN_two _).2 (by omega)); omega) | (simp; omega)) n xs vs (rig a) (by first | rfl | simp) (by first | assumption | exact okm_lef hok ((partsN_two _).2 (by omega)) | exact okm_rig hok ((partsN_two _).2 (by omega)) | exact okm_tail hok (partsN_1 (by omega))) h0 h1 hx (by first | omega | (have hq := lenm_lef hok ((partsN_two _).2 (by omega)); omega) | (simp; omega))) (by kernel_rfl) rfl (by kernel_rfl) ?_
            exact R.go 3 (R.retE (AI (band (gv (mT n) (mU n (bxA xs)) vs (lef a)) (gv (mT n) (mU n (bxA xs)) vs (rig a)))) (by kernel_rfl) (by kernel_rfl) (by first | (apply congrArg AI; first | exact gv_two (mT n) (mU n (bxA xs)) vs hok ‹(a.getD 0 (0, 0)).1 = _› (by omega) | exact gv_one (mT n) (mU n (bxA xs)) vs hok ‹(a.getD 0 (0, 0)).1 = _› (by omega) | exact gv_two (mT n) (mU n (bxA xs)) vs hok (k := 4) (by omega) (by omega) | exact gv_var _ _ _ hok (by omega) | exact gv_bot _ _ _ hok (by omega)) | (exfalso; omega)))
          · refine R.go 5 (R.cond (((a.getD 0 (0, 0)).1) = 3) (by kernel_rfl) (fun c6 => ?_) (fun c6 => ?_))
            · refine R.go 4 (R.call true (l02Left_c vs.length a hok (by exact (partsN_two _).2 (by omega)) hl) (by kernel_rfl) rfl (by kernel_rfl) ?_)
              refine R.call true (ih ((lef a).length) (by first | omega | (have hq := lenm_lef hok ((partsN_two _).2 (by omega)); omega) | (simp; omega)) n xs vs (lef a) (by first | rfl | simp) (by first | assumption | exact okm_lef hok ((partsN_two _).2 (by omega)) | exact okm_rig hok ((partsN_two _).2 (by omega)) | exact okm_tail hok (partsN_1 (by omega))) h0 h1 hx (by first | omega | (have hq := lenm_lef hok ((partsN_two _).2 (by omega)); omega) | (simp; omega))) (by kernel_rfl) rfl (by kernel_rfl) ?_
              refine R.go 2 (R.call true (l02Right_c vs.length a hok (by exact (partsN_two _).2 (by omega)) hl) (by kernel_rfl) rfl (by kernel_rfl) ?_)
              refine R.call true (ih ((rig a).length) (by first | omega | (have hq := lenm_lef hok ((partsN_two _).2 (by omega)); omega) | (simp; omega)) n xs vs (rig a) (by first | rfl | simp) (by first | assumption | exact okm_lef hok ((partsN_two _).2 (by omega)) | exact okm_rig hok ((partsN_two _).2 (by omega)) | exact okm_tail hok (partsN_1 (by omega))) h0 h1 hx (by first | omega | (have hq := lenm_lef hok ((partsN_two _).2 (by omega)); omega) | (simp; omega))) (by kernel_rfl) rfl (by kernel_rfl) ?_
              exact R.go 3 (R.retE (AI (bor (gv (mT n) (mU n (bxA xs)) vs (lef a)) (gv (mT n) (mU n (bxA xs)) vs (rig a)))) (by kernel_rfl) (by kernel_rfl) (by first | (apply congrArg AI; first | exact gv_two (mT n) (mU n (bxA xs)) vs hok ‹(a.getD 0 (0, 0)).1 = _› (by omega) | exact gv_one (mT n) (mU n (bxA xs)) vs hok ‹(a.getD 0 (0, 0)).1 = _› (by omega) | exact gv_two (mT n) (mU n (bxA xs)) vs hok (k := 4) (by omega) (by omega) | exact gv_var _ _ _ hok (by omega) | exact gv_bot _ _ _ hok (by omega)) | (exfalso; omega)))
            · refine R.go 7 (R.call true (l02Left_c vs.length a hok (by exact (partsN_two _).2 (by omega)) hl) (by kernel_rfl) rfl (by kernel_rfl) ?_)
              refine R.call true (ih ((lef a).length) (by first | omega | (have hq := lenm_lef hok ((partsN_two _).2 (by omega)); omega) | (simp; omega)) n xs vs (lef a) (by first | rfl | simp) (by first | assumption | exact okm_lef hok ((partsN_two _).2 (by omega)) | exact okm_rig hok ((partsN_two _).2 (by omega)) | exact okm_tail hok (partsN_1 (by omega))) h0 h1 hx (by first | omega | (have hq := lenm_lef hok ((partsN_two _).2 (by omega)); omega) | (simp; omega))) (by kernel_rfl) rfl (by kernel_rfl) ?_
              refine R.go 3 (R.call true (l02Right_c vs.length a hok (by exact (partsN_two _).2 (by omega)) hl) (by kernel_rfl) rfl (by kernel_rfl) ?_)
              refine R.call true (ih ((rig a).length) (by first | omega | (have hq := lenm_lef hok ((partsN_two _).2 (by omega)); omega) | (simp; omega)) n xs vs (rig a) (by first | rfl | simp) (by first | assumption | exact okm_lef hok ((partsN_two _).2 (by omega)) | exact okm_rig hok ((partsN_two _).2 (by omega)) | exact okm_tail hok (partsN_1 (by omega))) h0 h1 hx (by first | omega | (have hq := lenm_lef hok ((partsN_two _).2 (by omega)); omega) | (simp; omega))) (by kernel_rfl) rfl (by kernel_rfl) ?_
              exact R.go 3 (R.retE (AI (bor (bnot ((shl64 1 n) - 1) (gv (mT n) (mU n (bxA xs)) vs (lef a))) (gv (mT n) (mU n (bxA xs)) vs (rig a)))) (by kernel_rfl) (by kernel_rfl) (by first | (apply congrArg AI; first | exact gv_two (mT n) (mU n (bxA xs)) vs hok ‹(a.getD 0 (0, 0)).1 = _› (by omega) | exact gv_one (mT n) (mU n (bxA xs)) vs hok ‹(a.getD 0 (0, 0)).1 = _› (by omega) | exact gv_two (mT n) (mU n (bxA xs)) vs hok (k := 4) (by omega) (by omega) | exact gv_var _ _ _ hok (by omega) | exact gv_bot _ _ _ hok (by omega)) | (exfalso; omega)))

end Go.Proofs.YtgebepfdphmjcaaGreat


/-! TruthSet, IsTrueIn, IsTrueAt of both packages; their laws. -/
namespace Go.Proofs.YtgebepfdphmjcaaGreat
open Go.RowKit Go.Abs

theorem l06TruthT_c (n : Int) (xs vs : List Int) (a : List (Int × Int)) (hF : okFr n xs = true) (hok : OKM vs.length a) (hl : a.length ≤ 1000000000) : CallA Tryz.prog 52 [.agg [AI n, LI xs, LI vs], LN a] (AI (tset n xs vs a)) := by
  obtain ⟨h0, h8, hx, _⟩ := okFr_rel hF
  have h := l06Truth_c a.length n xs vs a rfl hok h0 h8 (by omega) hl
  rw [bxAB hF] at h
  exact h
def tval (n : Int) (xs vs : List Int) (a : List (Int × Int)) : Int := if mcode n xs vs a = 0 then tset n xs vs a else 0
def tin (n : Int) (xs vs : List Int) (a : List (Int × Int)) : Bool := decide (mcode n xs vs a = 0) && decide (tset n xs vs a = (shl64 1 n) - 1)
def tatC (n : Int) (xs vs : List Int) (w : Int) (a : List (Int × Int)) : Int := if mcode n xs vs a = 0 then (if inR w 0 (n - 1) = true then 0 else 2) else mcode n xs vs a
def tat (n : Int) (xs vs : List Int) (w : Int) (a : List (Int × Int)) : Bool := decide (mcode n xs vs a = 0) && inR w 0 (n - 1) && decide (band (shr64 (tset n xs vs a) w) 1 = 1)
theorem tupI {a b c d : Int} (h : a = c) (h' : b = d) : AV.tup [AI a, AI b] = AV.tup [AI c, AI d] := by rw [h, h']
theorem mcode_bad {n : Int} {xs vs : List Int} {a : List (Int × Int)} (h : okMo n xs vs = false) : mcode n xs vs a = 1 := (mcode_1 h).symm
theorem mcode_bad2 {n : Int} {xs vs : List Int} {a : List (Int × Int)} (h : isF a = false) : mcode n xs vs a = 1 := (mcode_2 h).symm
theorem mcode_good {n : Int} {xs vs : List Int} {a : List (Int × Int)} (h : okMo n xs vs = true) (h2 : isF a = true) : mcode n xs vs a = 0 := (mcode_0 h h2).symm

theorem truthIn_c (n : Int) (xs : List Int) (vs : List Int) (a : List (Int × Int)) (hok : OKM vs.length a) (h0 : 0 ≤ n) (h1 : n ≤ 8) (hx : xs.length ≤ 60) (hl : a.length ≤ 1000000000) : CallA Tryz.prog 49 [.agg [AI n, LI xs, LI vs], LN a] (AI (tset n xs vs a)) := by
  refine CallA.of Tryz.func49 rfl (by kernel_rfl) ?_
  refine R.go 12 (R.call true (truthSet_c n xs vs a hok h0 h1 hx hl) (by kernel_rfl) rfl (by kernel_rfl) ?_)
  exact R.go 2 (R.retE (AI (gv (mT n) (mU n (bxB xs)) vs a)) (by kernel_rfl) (by kernel_rfl) (by first | (rfl) | (exfalso; omega)))

theorem hasWorld_c (n : Int) (xs : List Int) (w : Int) (h0 : 0 ≤ n) (h1 : n ≤ 8) : CallA Tryz.prog 68 [.agg [AI n, LI xs], AI w] (.bool (inR w 0 (n - 1))) := by
  refine CallA.of Tryz.func68 rfl (by kernel_rfl) ?_
  refine R.go 10 (R.ar (n - 1) (by kernel_rfl) (by omega) (by omega) (by kernel_rfl) ?_)
  refine R.call true (inRange_c w 0 (n - 1)) (by kernel_rfl) rfl (by kernel_rfl) ?_
  exact R.go 2 (R.retE (.bool (inR w 0 (n - 1))) (by kernel_rfl) (by kernel_rfl) (by rfl))

theorem TS_spec (n : Int) (xs : List Int) (vs : List Int) (a : List (Int × Int)) (l1 : xs.length ≤ 1048576) (l2 : vs.length ≤ 1048576) (hl : a.length ≤ 1048576) : CallA Tryz.prog 17 [.agg [AI n, LI xs, LI vs], LN a] (.tup [AI (tval n xs vs a), AI (mcode n xs vs a)]) := by
  refine CallA.of Tryz.func17 rfl (by kernel_rfl) ?_
  refine R.go 10 (R.call true (l06Is_c n xs vs (by first | omega | (simp <;> omega)) (by first | omega | (simp <;> omega))) (by kernel_rfl) rfl (by kernel_rfl) ?_)
  refine R.go 2 ?_
  refine (Bool.eq_false_or_eq_true (okMo n xs vs)).elim (fun c1 => ?_) (fun c1 => ?_)
  · refine R.want (!(okMo n xs vs)) false (by kernel_rfl) (bnF c1) ?_
    refine R.go 1 (R.want (!(okMo n xs vs)) false (by kernel_rfl) (bnF c1) ?_)
    refine R.call true (l02Is_c a (by first | omega | (simp <;> omega))) (by kernel_rfl) rfl (by kernel_rfl) ?_
    refine R.want (!(okMo n xs vs)) false (by kernel_rfl) (bnF c1) ?_
    refine R.go 1 (R.pick (!(okMo n xs vs)) false (by kernel_rfl) (bnF c1) (by kernel_rfl) ?_)
    refine R.go 1 (R.condM (isF a) (by kernel_rfl) (fun c2 => ?_) (fun c2 => ?_))
    · exact R.go 5 (R.retE (.tup [AI 0, AI 1]) (by kernel_rfl) (by kernel_rfl) (by first | (refine tupI ?_ ?_ <;> first | (simp [tval, tin, tat, tatC, *]; done) | (have hm := mcode_bad (a := a) ‹okMo n xs vs = false›; simp [tval, tin, tat, tatC, hm]; done) | (have hm := mcode_bad2 (n := n) (xs := xs) (vs := vs) ‹isF a = false›; simp [tval, tin, tat, tatC, hm]; done)) | (exfalso; omega)))
    · have hc1 : okMo n xs vs = true := by assumption
      have hc2 : isF a = true := by assumption
      have hm : mcode n xs vs a = 0 := mcode_good hc1 hc2
      have hM : okFr n xs = true ∧ vs.length = 6 := okMo_fr hc1
      have hF : okFr n xs = true := hM.1
      have hA := isF_okm hc2
      have hR := okFr_rel hF
      have hok : OKM vs.length a := by rw [hM.2]; exact hA.1
      have hb : 0 ≤ n ∧ n ≤ 8 ∧ (xs.length : Int) = n := ⟨hR.1, hR.2.1, hR.2.2.1⟩
      have hal : a.length ≤ 40 := hA.2
      refine R.go 5 (R.call true (l06TruthT_c n xs vs a hF hok (by first | omega | (simp <;> omega))) (by kernel_rfl) rfl (by kernel_rfl) ?_)
      exact R.go 3 (R.retE (.tup [AI (tset n xs vs a), AI 0]) (by kernel_rfl) (by kernel_rfl) (by first | (refine tupI ?_ ?_ <;> first | (simp [tval, tin, tat, tatC, *]; done) | (have hm := mcode_bad (a := a) ‹okMo n xs vs = false›; simp [tval, tin, tat, tatC, hm]; done) | (have hm := mcode_bad2 (n := n) (xs := xs) (vs := vs) ‹isF a = false›; simp [tval, tin, tat, tatC, hm]; done)) | (exfalso; omega)))
  · refine R.skp (!(okMo n xs vs)) false (by kernel_rfl) (bnT c1) (by kernel_rfl) ?_
    refine R.skp (!(okMo n xs vs)) false (by kernel_rfl) (bnT c1) (by kernel_rfl) ?_
    refine R.skp (!(okMo n xs vs)) false (by kernel_rfl) (bnT c1) (by kernel_rfl) ?_
    refine R.pick (!(okMo n xs vs)) true (by kernel_rfl) (bnT c1) (by kernel_rfl) ?_
    exact R.go 7 (R.retE (.tup [AI 0, AI 1]) (by kernel_rfl) (by kernel_rfl) (by first | (refine tupI ?_ ?_ <;> first | (simp [tval, tin, tat, tatC, *]; done) | (have hm := mcode_bad (a := a) ‹okMo n xs vs = false›; simp [tval, tin, tat, tatC, hm]; done) | (have hm := mcode_bad2 (n := n) (xs := xs) (vs := vs) ‹isF a = false›; simp [tval, tin, tat, tatC, hm]; done)) | (exfalso; omega)))

theorem TS_impl (n : Int) (xs : List Int) (vs : List Int) (a : List (Int × Int)) (l1 : xs.length ≤ 1048576) (l2 : vs.length ≤ 1048576) (hl : a.length ≤ 1048576) : CallA Tryz.prog 16 [.agg [AI n, LI xs, LI vs], LN a] (.tup [AI (tval n xs vs a), AI (mcode n xs vs a)]) := by
  refine CallA.of Tryz.func16 rfl (by kernel_rfl) ?_
  refine R.go 11 (R.call true (modelCode_c n xs vs a (by first | omega | (simp <;> omega)) (by first | omega | (simp <;> omega)) (by first | omega | (simp <;> omega))) (by kernel_rfl) rfl (by kernel_rfl) ?_)
  refine R.go 7 (R.condN ((mcode n xs vs a) = 0) (by kernel_rfl) (fun c1 => ?_) (fun c1 => ?_))
  · exact R.go 6 (R.retE (.tup [AI 0, AI (mcode n xs vs a)]) (by kernel_rfl) (by kernel_rfl) (by first | (refine tupI ?_ ?_ <;> first | (simp [tval, tin, tat, tatC, *]; done) | (have hm := mcode_bad (a := a) ‹okMo n xs vs = false›; simp [tval, tin, tat, tatC, hm]; done) | (have hm := mcode_bad2 (n := n) (xs := xs) (vs := vs) ‹isF a = false›; simp [tval, tin, tat, tatC, hm]; done)) | (exfalso; omega)))
  · have hm : mcode n xs vs a = 0 := by assumption
    have hc1 : okMo n xs vs = true := (mcode_ok hm).1
    have hc2 : isF a = true := (mcode_ok hm).2
    have hM : okFr n xs = true ∧ vs.length = 6 := okMo_fr hc1
    have hF : okFr n xs = true := hM.1
    have hA := isF_okm hc2
    have hR := okFr_rel hF
    have hok : OKM vs.length a := by rw [hM.2]; exact hA.1
    have hb : 0 ≤ n ∧ n ≤ 8 ∧ (xs.length : Int) = n := ⟨hR.1, hR.2.1, hR.2.2.1⟩
    have hal : a.length ≤ 40 := hA.2
    refine R.go 5 (R.call true (truthIn_c n xs vs a hok (by omega) (by omega) (by first | omega | (simp <;> omega)) (by first | omega | (simp <;> omega))) (by kernel_rfl) rfl (by kernel_rfl) ?_)
    exact R.go 3 (R.retE (.tup [AI (tset n xs vs a), AI 0]) (by kernel_rfl) (by kernel_rfl) (by first | (refine tupI ?_ ?_ <;> first | (simp [tval, tin, tat, tatC, *]; done) | (have hm := mcode_bad (a := a) ‹okMo n xs vs = false›; simp [tval, tin, tat, tatC, hm]; done) | (have hm := mcode_bad2 (n := n) (xs := xs) (vs := vs) ‹isF a = false›; simp [tval, tin, tat, tatC, hm]; done)) | (exfalso; omega)))

end Go.Proofs.YtgebepfdphmjcaaGreat


/-! Members of masks; variables of lists of formulas; which lists are formulas. -/
namespace Go.Proofs.YtgebepfdphmjcaaGreat
open Go.RowKit Go.Abs

/-- The members of a mask below i. -/
def memN (m : Int) : Nat → List Int
  | 0 => []
  | i + 1 => if tb m i = true then memN m i ++ [(i : Int)] else memN m i
def mem (m : Int) : List Int := memN m 62
/-- The variables of the first formulas. -/
def vmT (l : List (List (Int × Int))) : Nat → Int
  | 0 => 0
  | i + 1 => bor (vmT l i) (vmTo (l.getD i []) (l.getD i []).length)
def allF (l : List (List (Int × Int))) : Bool := !l.any fun a => !isF a
end Go.Proofs.YtgebepfdphmjcaaGreat
