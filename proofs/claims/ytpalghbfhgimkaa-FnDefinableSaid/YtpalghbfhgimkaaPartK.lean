/- Texts of the proof: Q06, Q07, P04, Q08, P05, P03, Q09, Sym6, Sym3. -/
import Derived.Laws.StructEq
import Derived.Test.YtpalghbfhgimkaaPartJ

/-! Models: truth sets of both packages. -/
namespace Go.Proofs.Ytpalghbfhgimkaa
open Go.RowKit Go.Abs

def okMo (n : Int) (xs vs : List Int) : Bool := okFr n xs && decide (vs.length = 6) && !vs.any fun m => !inR m 0 ((shl64 1 n) - 1)
theorem okMo_1 {n : Int} {xs vs : List Int} (h : okFr n xs = false) : okMo n xs vs = false := by simp [okMo, h]
theorem okMo_2 {n : Int} {xs vs : List Int} (h : ¬ (vs.length : Int) = 6) : okMo n xs vs = false := by
  have h : ¬ vs.length = 6 := by omega
  simp [okMo, h]
theorem okMo_3 {n : Int} {xs vs : List Int} (h : okFr n xs = true) (h2 : (vs.length : Int) = 6) : okMo n xs vs = !vs.any fun m => !inR m 0 ((shl64 1 n) - 1) := by
  have h2 : vs.length = 6 := by omega
  simp [okMo, h, h2]
theorem okMo_out {n : Int} {xs vs : List Int} (h : okFr n xs = true) (h2 : (vs.length : Int) = 6) : (!vs.any (outR n)) = okMo n xs vs := by
  rw [okMo_3 h h2]
  obtain ⟨h0, h8, _⟩ := okFr_rel h
  have e : outR n = fun m => !inR m 0 ((shl64 1 n) - 1) := by
    funext m
    rw [outR, (inR_iff n 0 30).2 (by omega), Bool.true_and]
  rw [e]
theorem okMo_fr {n : Int} {xs vs : List Int} (h : okMo n xs vs = true) : okFr n xs = true ∧ vs.length = 6 := by
  simp only [okMo, Bool.and_eq_true, decide_eq_true_eq] at h
  exact h.1
/-- The words of modal formulas. -/
def mT (n : Int) (k p q : Int) : Int := if k = 2 then band p q else if k = 3 then bor p q else bor (bnot ((shl64 1 n) - 1) p) q
def mU (n : Int) (bx : Int → Int) (k p : Int) : Int := if k = 5 then bx p else bnot ((shl64 1 n) - 1) (bx (bnot ((shl64 1 n) - 1) p))
def bxA (xs : List Int) (m : Int) : Int := boxA xs m xs.length
def bxB (xs : List Int) (m : Int) : Int := boxB xs m xs.length
theorem bxAB {n : Int} {xs : List Int} (h : okFr n xs = true) : bxA xs = bxB xs := by
  obtain ⟨h0, h8, hl, hr⟩ := okFr_rel h
  funext m
  refine boxAB xs m (fun x hx => ?_) _ (Nat.le_refl _)
  obtain ⟨j, hj, rfl⟩ := List.getElem_of_mem hx
  have hg : xs[j] = xs.getD j 0 := by rw [List.getD_eq_getElem?_getD, List.getElem?_eq_getElem hj]; rfl
  rw [hg]
  exact wrap_inM (by omega) (hr.2 j (by omega))
def mcode (n : Int) (xs vs : List Int) (a : List (Int × Int)) : Int := if okMo n xs vs = true ∧ isF a = true then 0 else 1
def tset (n : Int) (xs vs : List Int) (a : List (Int × Int)) : Int := gv (mT n) (mU n (bxB xs)) vs a
theorem mcode_1 {n : Int} {xs vs : List Int} {a : List (Int × Int)} (h : okMo n xs vs = false) : 1 = mcode n xs vs a := by rw [mcode, if_neg (by simp [h])]
theorem mcode_2 {n : Int} {xs vs : List Int} {a : List (Int × Int)} (h : isF a = false) : 1 = mcode n xs vs a := by rw [mcode, if_neg (by simp [h])]
theorem mcode_0 {n : Int} {xs vs : List Int} {a : List (Int × Int)} (h : okMo n xs vs = true) (h2 : isF a = true) : 0 = mcode n xs vs a := by rw [mcode, if_pos ⟨h, h2⟩]
theorem mcode_ok {n : Int} {xs vs : List Int} {a : List (Int × Int)} (h : mcode n xs vs a = 0) : okMo n xs vs = true ∧ isF a = true := by
  unfold mcode at h
  split at h
  · assumption
  · cases h

theorem isModel1_c (m : Int) (n : Int) (xs : List Int) (vs : List Int) : CallA Try.prog 62 [AI m, .rptr [AI n, LI xs, LI vs]] (.bool (outR n m)) := by
  refine CallA.of Try.func62 rfl (by kernel_rfl) ?_
  refine R.go 10 (R.call true (isMask_c n m) (by kernel_rfl) rfl (by kernel_rfl) ?_)
  exact R.go 3 (R.retE (.bool (!(!(outR n m)))) (by kernel_rfl) (by kernel_rfl) (by first | (apply congrArg AV.bool; simp) | (exfalso; omega)))

theorem indexM_c (a : List Int) (n : Int) (xs : List Int) (vs : List Int) (hl : a.length ≤ 1000000000) : CallA Try.prog 82 [LI a, .fn 62 [.rptr [AI n, LI xs, LI vs]]] (AI (fidxI (outR n) a 0)) := by
  refine CallA.of Try.func82 rfl (by kernel_rfl) ?_
  refine R.go 12 (R.loop (fun (i : Nat) => (⟨(frm 19 [(0, LI a), (1, .fn 62 [.rptr [AI n, LI xs, LI vs]]), (7, AI a.length), (8, AI (i : Int))]), []⟩ : St)) (fun (i : Nat) => (i ≤ a.length) ∧ (fidxI (outR n) a 0 = fidxI (outR n) (a.drop i) i)) (fun (i : Nat) => a.length - i) 0 [0, 1, 7, 8] none (by kernel_rfl) (by kernel_rfl) (by kernel_rfl) ⟨(by omega), (by rfl)⟩ ?_)
  rintro i ⟨h3_1, h3_2⟩ R1 N2
  refine R.go 5 (R.cond ((i : Int) < (a.length : Int)) (by kernel_rfl) (fun c4 => ?_) (fun c4 => ?_))
  · refine R.go 13 (R.idx eI a 0 i (i : Int) (by kernel_rfl) rfl eI_len (by omega) (by kernel_rfl) ?_)
    refine R.go 1 (R.call true (isModel1_c (a.getD i 0) n xs vs) (by kernel_rfl) rfl (by kernel_rfl) ?_)
    refine R.go 1 (R.condB (outR n (a.getD i 0)) (by kernel_rfl) (fun c5 => ?_) (fun c5 => ?_))
    · exact R.go 5 (R.retE (AI (i : Int)) (by kernel_rfl) (by kernel_rfl) (by first | (apply congrArg AI; rw [‹fidxI (outR n) a 0 = _›]; first | exact (fidxI_end (by omega)).symm | exact (fidxI_hit (by omega) (by assumption)).symm) | (exfalso; omega)))
    · refine R.go 3 (R.ar ((i : Int) + 1) (by kernel_rfl) (by omega) (by omega) (by kernel_rfl) ?_)
      exact R.go 2 (R.stop R1 (by kernel_rfl) (N2 (i + 1) [0, 1, 7, 8] none _ (by kernel_rfl) (by kernel_rfl) ⟨(by omega), (by rw [‹fidxI (outR n) a 0 = _›]; exact fidxI_miss (by omega) (by assumption))⟩ (by show (a.length - (i + 1)) < (a.length - i); omega)))
  · exact R.go 5 (R.retE (AI (-1)) (by kernel_rfl) (by kernel_rfl) (by first | (apply congrArg AI; rw [‹fidxI (outR n) a 0 = _›]; first | exact (fidxI_end (by omega)).symm | exact (fidxI_hit (by omega) (by assumption)).symm) | (exfalso; omega)))

theorem containsM_c (a : List Int) (n : Int) (xs : List Int) (vs : List Int) (hl : a.length ≤ 1000000000) : CallA Try.prog 61 [LI a, .fn 62 [.rptr [AI n, LI xs, LI vs]]] (.bool (a.any (outR n))) := by
  refine CallA.of Try.func61 rfl (by kernel_rfl) ?_
  refine R.go 8 (R.call true (indexM_c a n xs vs hl) (by kernel_rfl) rfl (by kernel_rfl) ?_)
  exact R.go 3 (R.retE (.bool (decide ((fidxI (outR n) a 0) ≥ 0))) (by kernel_rfl) (by kernel_rfl) (by first | (apply congrArg AV.bool; rw [Bool.eq_iff_iff, decide_eq_true_iff]; exact fidxI_any (Int.le_refl 0)) | (exfalso; omega)))

theorem isModel_c (n : Int) (xs : List Int) (vs : List Int) (l1 : xs.length ≤ 1000000000) (l2 : vs.length ≤ 1000000000) : CallA Try.prog 38 [.agg [AI n, LI xs, LI vs]] (.bool (okMo n xs vs)) := by
  refine CallA.of Try.func38 rfl (by kernel_rfl) ?_
  refine R.go 9 (R.call true (isFrame_c n xs l1) (by kernel_rfl) rfl (by kernel_rfl) ?_)
  refine R.go 1 ?_
  refine (Bool.eq_false_or_eq_true (okFr n xs)).elim (fun c1 => ?_) (fun c1 => ?_)
  · refine R.want (okFr n xs) true (by kernel_rfl) c1 ?_
    refine R.go 1 (R.want (okFr n xs) true (by kernel_rfl) c1 ?_)
    refine R.go 1 (R.want (okFr n xs) true (by kernel_rfl) c1 ?_)
    refine R.go 1 (R.want (okFr n xs) true (by kernel_rfl) c1 ?_)
    refine R.go 1 (R.pick (okFr n xs) true (by kernel_rfl) c1 (by kernel_rfl) ?_)
    refine R.go 1 ?_
    by_cases c2 : (vs.length : Int) = 6
    · refine R.want (decide ((vs.length : Int) = 6)) true (by kernel_rfl) (dT c2) ?_
      refine R.go 1 (R.want (decide ((vs.length : Int) = 6)) true (by kernel_rfl) (dT c2) ?_)
      refine R.go 1 (R.want (decide ((vs.length : Int) = 6)) true (by kernel_rfl) (dT c2) ?_)
      refine R.go 1 (R.want (decide ((vs.length : Int) = 6)) true (by kernel_rfl) (dT c2) ?_)
      refine R.call false (containsM_c vs n xs vs l2) (by kernel_rfl) rfl (by kernel_rfl) ?_
      refine R.want (decide ((vs.length : Int) = 6)) true (by kernel_rfl) (dT c2) ?_
      refine R.go 1 (R.pick (decide ((vs.length : Int) = 6)) true (by kernel_rfl) (dT c2) (by kernel_rfl) ?_)
      exact R.go 2 (R.retE (.bool (!(vs.any (outR n)))) (by kernel_rfl) (by kernel_rfl) (by first | (apply congrArg AV.bool; first | exact (okMo_1 (by assumption)).symm | exact (okMo_2 (by assumption)).symm | exact (okMo_3 (by assumption) (by assumption)).symm | exact okMo_out (by assumption) (by assumption)) | (exfalso; omega)))
    · refine R.skp (decide ((vs.length : Int) = 6)) true (by kernel_rfl) (dF c2) (by kernel_rfl) ?_
      refine R.skp (decide ((vs.length : Int) = 6)) true (by kernel_rfl) (dF c2) (by kernel_rfl) ?_
      refine R.skp (decide ((vs.length : Int) = 6)) true (by kernel_rfl) (dF c2) (by kernel_rfl) ?_
      refine R.skp (decide ((vs.length : Int) = 6)) true (by kernel_rfl) (dF c2) (by kernel_rfl) ?_
      refine R.skp (decide ((vs.length : Int) = 6)) true (by kernel_rfl) (dF c2) (by kernel_rfl) ?_
      refine R.pick (decide ((vs.length : Int) = 6)) false (by kernel_rfl) (dF c2) (by kernel_rfl) ?_
      exact R.go 2 (R.retE (.bool false) (by kernel_rfl) (by kernel_rfl) (by first | (apply congrArg AV.bool; first | exact (okMo_1 (by assumption)).symm | exact (okMo_2 (by assumption)).symm | exact (okMo_3 (by assumption) (by assumption)).symm | exact okMo_out (by assumption) (by assumption)) | (exfalso; omega)))
  · refine R.skp (okFr n xs) true (by kernel_rfl) c1 (by kernel_rfl) ?_
    refine R.skp (okFr n xs) true (by kernel_rfl) c1 (by kernel_rfl) ?_
    refine R.skp (okFr n xs) true (by kernel_rfl) c1 (by kernel_rfl) ?_
    refine R.skp (okFr n xs) true (by kernel_rfl) c1 (by kernel_rfl) ?_
    refine R.pick (okFr n xs) false (by kernel_rfl) c1 (by kernel_rfl) ?_
    exact R.go 9 (R.retE (.bool false) (by kernel_rfl) (by kernel_rfl) (by first | (apply congrArg AV.bool; first | exact (okMo_1 (by assumption)).symm | exact (okMo_2 (by assumption)).symm | exact (okMo_3 (by assumption) (by assumption)).symm | exact okMo_out (by assumption) (by assumption)) | (exfalso; omega)))

theorem l06Is_c (n : Int) (xs : List Int) (vs : List Int) (l1 : xs.length ≤ 1000000000) (l2 : vs.length ≤ 1000000000) : CallA Try.prog 29 [.agg [AI n, LI xs, LI vs]] (.bool (okMo n xs vs)) := by
  have hn := fun h : okFr n xs = true => okFr_rel h
  refine CallA.of Try.func29 rfl (by kernel_rfl) ?_
  refine R.go 9 (R.call true (l05Is_c n xs l1) (by kernel_rfl) rfl (by kernel_rfl) ?_)
  refine R.go 1 ?_
  refine (Bool.eq_false_or_eq_true (okFr n xs)).elim (fun c1 => ?_) (fun c1 => ?_)
  · refine R.want (okFr n xs) true (by kernel_rfl) c1 ?_
    refine R.go 1 (R.want (okFr n xs) true (by kernel_rfl) c1 ?_)
    refine R.go 1 (R.want (okFr n xs) true (by kernel_rfl) c1 ?_)
    refine R.go 1 (R.want (okFr n xs) true (by kernel_rfl) c1 ?_)
    refine R.go 1 (R.pick (okFr n xs) true (by kernel_rfl) c1 (by kernel_rfl) ?_)
    refine R.go 1 ?_
    by_cases c2 : (vs.length : Int) = 6
    · refine R.want (decide ((vs.length : Int) = 6)) true (by kernel_rfl) (dT c2) ?_
      refine R.go 1 (R.want (decide ((vs.length : Int) = 6)) true (by kernel_rfl) (dT c2) ?_)
      refine R.go 1 (R.want (decide ((vs.length : Int) = 6)) true (by kernel_rfl) (dT c2) ?_)
      refine R.go 1 (R.want (decide ((vs.length : Int) = 6)) true (by kernel_rfl) (dT c2) ?_)
      refine R.go 1 (R.want (decide ((vs.length : Int) = 6)) true (by kernel_rfl) (dT c2) ?_)
      refine R.go 1 (R.want (decide ((vs.length : Int) = 6)) true (by kernel_rfl) (dT c2) ?_)
      refine R.call true (l01Masks_c n vs l2 (by first | omega | (have hq := hn (by assumption); omega)) (by first | omega | (have hq := hn (by assumption); omega))) (by kernel_rfl) rfl (by kernel_rfl) ?_
      refine R.pick (decide ((vs.length : Int) = 6)) true (by kernel_rfl) (dT c2) (by kernel_rfl) ?_
      exact R.go 2 (R.retE (.bool (!(vs.any fun m => !inR m 0 ((shl64 1 n) - 1)))) (by kernel_rfl) (by kernel_rfl) (by first | (apply congrArg AV.bool; first | exact (okMo_1 (by assumption)).symm | exact (okMo_2 (by assumption)).symm | exact (okMo_3 (by assumption) (by assumption)).symm | exact okMo_out (by assumption) (by assumption)) | (exfalso; omega)))
    · refine R.skp (decide ((vs.length : Int) = 6)) true (by kernel_rfl) (dF c2) (by kernel_rfl) ?_
      refine R.skp (decide ((vs.length : Int) = 6)) true (by kernel_rfl) (dF c2) (by kernel_rfl) ?_
      refine R.skp (decide ((vs.length : Int) = 6)) true (by kernel_rfl) (dF c2) (by kernel_rfl) ?_
      refine R.skp (decide ((vs.length : Int) = 6)) true (by kernel_rfl) (dF c2) (by kernel_rfl) ?_
      refine R.skp (decide ((vs.length : Int) = 6)) true (by kernel_rfl) (dF c2) (by kernel_rfl) ?_
      refine R.skp (decide ((vs.length : Int) = 6)) true (by kernel_rfl) (dF c2) (by kernel_rfl) ?_
      refine R.pick (decide ((vs.length : Int) = 6)) false (by kernel_rfl) (dF c2) (by kernel_rfl) ?_
      exact R.go 2 (R.retE (.bool false) (by kernel_rfl) (by kernel_rfl) (by first | (apply congrArg AV.bool; first | exact (okMo_1 (by assumption)).symm | exact (okMo_2 (by assumption)).symm | exact (okMo_3 (by assumption) (by assumption)).symm | exact okMo_out (by assumption) (by assumption)) | (exfalso; omega)))
  · refine R.skp (okFr n xs) true (by kernel_rfl) c1 (by kernel_rfl) ?_
    refine R.skp (okFr n xs) true (by kernel_rfl) c1 (by kernel_rfl) ?_
    refine R.skp (okFr n xs) true (by kernel_rfl) c1 (by kernel_rfl) ?_
    refine R.skp (okFr n xs) true (by kernel_rfl) c1 (by kernel_rfl) ?_
    refine R.pick (okFr n xs) false (by kernel_rfl) c1 (by kernel_rfl) ?_
    exact R.go 10 (R.retE (.bool false) (by kernel_rfl) (by kernel_rfl) (by first | (apply congrArg AV.bool; first | exact (okMo_1 (by assumption)).symm | exact (okMo_2 (by assumption)).symm | exact (okMo_3 (by assumption) (by assumption)).symm | exact okMo_out (by assumption) (by assumption)) | (exfalso; omega)))

theorem modelCode_c (n : Int) (xs : List Int) (vs : List Int) (a : List (Int × Int)) (l1 : xs.length ≤ 1000000000) (l2 : vs.length ≤ 1000000000) (hl : a.length ≤ 1000000000) : CallA Try.prog 51 [.agg [AI n, LI xs, LI vs], LN a] (AI (mcode n xs vs a)) := by
  refine CallA.of Try.func51 rfl (by kernel_rfl) ?_
  refine R.go 9 (R.call true (isModel_c n xs vs l1 l2) (by kernel_rfl) rfl (by kernel_rfl) ?_)
  refine R.go 2 ?_
  refine (Bool.eq_false_or_eq_true (okMo n xs vs)).elim (fun c1 => ?_) (fun c1 => ?_)
  · refine R.want (!(okMo n xs vs)) false (by kernel_rfl) (bnF c1) ?_
    refine R.go 1 (R.want (!(okMo n xs vs)) false (by kernel_rfl) (bnF c1) ?_)
    refine R.call true (isFormula_c a hl) (by kernel_rfl) rfl (by kernel_rfl) ?_
    refine R.want (!(okMo n xs vs)) false (by kernel_rfl) (bnF c1) ?_
    refine R.go 1 (R.pick (!(okMo n xs vs)) false (by kernel_rfl) (bnF c1) (by kernel_rfl) ?_)
    refine R.go 1 (R.condM (isF a) (by kernel_rfl) (fun c2 => ?_) (fun c2 => ?_))
    · exact R.go 4 (R.retE (AI 1) (by kernel_rfl) (by kernel_rfl) (by first | (apply congrArg AI; first | exact mcode_1 (by assumption) | exact mcode_2 (by assumption) | exact mcode_0 (by assumption) (by assumption)) | (exfalso; omega)))
    · exact R.go 5 (R.retE (AI 0) (by kernel_rfl) (by kernel_rfl) (by first | (apply congrArg AI; first | exact mcode_1 (by assumption) | exact mcode_2 (by assumption) | exact mcode_0 (by assumption) (by assumption)) | (exfalso; omega)))
  · refine R.skp (!(okMo n xs vs)) false (by kernel_rfl) (bnT c1) (by kernel_rfl) ?_
    refine R.skp (!(okMo n xs vs)) false (by kernel_rfl) (bnT c1) (by kernel_rfl) ?_
    refine R.skp (!(okMo n xs vs)) false (by kernel_rfl) (bnT c1) (by kernel_rfl) ?_
    refine R.pick (!(okMo n xs vs)) true (by kernel_rfl) (bnT c1) (by kernel_rfl) ?_
    exact R.go 6 (R.retE (AI 1) (by kernel_rfl) (by kernel_rfl) (by first | (apply congrArg AI; first | exact mcode_1 (by assumption) | exact mcode_2 (by assumption) | exact mcode_0 (by assumption) (by assumption)) | (exfalso; omega)))

theorem truthSet_c (n : Int) (xs : List Int) (vs : List Int) (a : List (Int × Int)) (hok : OKM vs.length a) (h0 : 0 ≤ n) (h1 : n ≤ 8) (hx : xs.length ≤ 60) (hl : a.length ≤ 1000000000) : CallA Try.prog 67 [.agg [AI n, LI xs], LI vs, LN a] (AI (gv (mT n) (mU n (bxB xs)) vs a)) := by
  have hlen := okm_pos hok
  refine CallA.of Try.func67 rfl (by kernel_rfl) ?_
  refine R.go 8 (R.call true (frameAll_c n xs h0 (by omega)) (by kernel_rfl) rfl (by kernel_rfl) ?_)
  refine R.go 16 (R.arE ((a.length : Int) - 1) ((a.length - 1 : Nat) : Int) (by kernel_rfl) (by omega) (by omega) (by omega) (by kernel_rfl) ?_)
  refine R.go 3 (R.nilB 1 0 2 1 (by kernel_rfl) ?_)
  refine R.loop ((fun | (i, S) => (⟨(frm 86 [(1, LI vs), (2, LN a), (3, .ptr 0 0), (7, AI ((shl64 1 n) - 1)), (8, .ptr 1 0), (9, .fn 88 [.ptr 1 0]), (10, AI i)]), [.box 32 [AI n, LI xs], .box 22 [.ref 2], rowA eI 2 1 S]⟩ : St) : Int × (List Int) → St)) (fun | (i, S) => (-1 ≤ i) ∧ (i < a.length) ∧ (S.length ≤ a.length - i) ∧ (S = (stkG (mT n) (mU n (bxB xs)) vs (a.drop (i + 1).toNat)).reverse)) (fun | (i, S) => (i + 1).toNat) (((a.length - 1 : Nat) : Int), []) [1, 2, 3, 7, 8, 9, 10] none (by kernel_rfl) (by kernel_rfl) (by kernel_rfl) ⟨(by omega), (by omega), (by simp <;> omega), (by rw [show (((a.length - 1 : Nat) : Int) + 1).toNat = a.length by omega, List.drop_length]; rfl)⟩ ?_
  rintro ⟨i, S⟩ ⟨h4_1, h4_2, h4_3, h4_4⟩ R1 N2
  have hk := fun h : 0 ≤ i => okm_get hok i.toNat (by omega)
  have hS2 := fun h : 0 ≤ i => stkg_room hok ‹S = _› h (by omega)
  have hP2 := fun h : ((a.getD i.toNat (0, 0)).1 = 2 ∨ (a.getD i.toNat (0, 0)).1 = 3 ∨ (a.getD i.toNat (0, 0)).1 = 4) => (partsN_two _).2 h
  have hP1 := fun h : ((a.getD i.toNat (0, 0)).1 = 5 ∨ (a.getD i.toNat (0, 0)).1 = 6) => partsN_1 h
  have hS1 := fun h : i = -1 => congrArg List.length (stkg_fin hok ‹S = _› h)
  simp only [List.length_cons, List.length_nil] at hS1
  have hT : (S.take (S.length - 1)).length = S.length - 1 := by simp
  refine R.go 6 (R.cond (i ≥ 0) (by kernel_rfl) (fun c5 => ?_) (fun c5 => ?_))
  · refine R.go 12 (R.idx eN a (0, 0) ((i).toNat) i (by kernel_rfl) (by omega) eN_len (by omega) (by kernel_rfl) ?_)
    refine R.go 9 (R.cond (((a.getD ((i).toNat) (0, 0)).1) = 0) (by kernel_rfl) (fun c6 => ?_) (fun c6 => ?_))
    · refine R.go 4 (R.idx eN a (0, 0) ((i).toNat) i (by kernel_rfl) (by omega) eN_len (by omega) (by kernel_rfl) ?_)
      refine R.go 2 (R.idx eI vs 0 (((a.getD ((i).toNat) (0, 0)).2).toNat) ((a.getD ((i).toNat) (0, 0)).2) (by kernel_rfl) (by omega) eI_len (by omega) (by kernel_rfl) ?_)
      refine R.go 8 (R.app eI S [(vs.getD (((a.getD ((i).toNat) (0, 0)).2).toNat) 0)] 2 2 1 8 (by kernel_rfl) eI_one (by decide) (by first | omega | (simp <;> omega)) (by kernel_rfl) ?_)
      refine R.go 5 (R.ar (i - 1) (by kernel_rfl) (by omega) (by omega) (by kernel_rfl) ?_)
      exact R.go 2 (R.stop R1 (by kernel_rfl) (N2 (i - 1, S ++ [(vs.getD (((a.getD ((i).toNat) (0, 0)).2).toNat) 0)]) [1, 2, 3, 7, 8, 9, 10] (some [0, 1, 2]) _ (by kernel_rfl) (by kernel_rfl) ⟨(by omega), (by omega), (by simp <;> omega), (by first | exact stkg_push ‹S = _› (by omega) (by omega) (by omega) | exact stkg_bot ‹S = _› (by omega) (by omega) (by omega) | exact stkg_two hok ‹S = _› (by omega) (by omega) ‹(a.getD i.toNat (0, 0)).1 = _› (by omega) rfl rfl rfl rfl | exact stkg_one hok ‹S = _› (by omega) (by omega) ‹(a.getD i.toNat (0, 0)).1 = _› (by omega) rfl rfl)⟩ (by show (((i - 1) + 1).toNat) < ((i + 1).toNat); omega)))
    · refine R.go 5 (R.cond (((a.getD ((i).toNat) (0, 0)).1) = 2) (by kernel_rfl) (fun c7 => ?_) (fun c7 => ?_))
      · refine R.go 2 (R.enter (avs := [.ptr 1 0]) Try.func88 rfl (by kernel_rfl) (by kernel_rfl) (by kernel_rfl) ?_)
        intro us8
        refine R.go 9 (R.arE ((S.length : Int) - 1) ((S.length - 1 : Nat) : Int) (by kernel_rfl) (by omega) (by omega) (by omega) (by kernel_rfl) ?_)
        refine R.idxO 2 1 S.length (S.length - 1) ((S.length - 1 : Nat) : Int) (by kernel_rfl) (by omega) (by omega) (by kernel_rfl) ?_
        refine R.ldI S (S.length - 1) (by kernel_rfl) (by omega) (by kernel_rfl) ?_
        refine R.go 7 (R.arE ((S.length : Int) - 1) ((S.length - 1 : Nat) : Int) (by kernel_rfl) (by omega) (by omega) (by omega) (by kernel_rfl) ?_)
        refine R.cut eI S 2 2 (S.length - 1) ((S.length - 1 : Nat) : Int) (by kernel_rfl) (by omega) eI_len (by omega) (by kernel_rfl) ?_
        refine R.go 7 (R.back (AI (S.getD (S.length - 1) 0)) (frm 86 [(1, LI vs), (2, LN a), (3, .ptr 0 0), (7, AI ((shl64 1 n) - 1)), (8, .ptr 1 0), (9, .fn 88 [.ptr 1 0]), (10, AI i), (11, AI 0), (18, AI i), (19, .bool (decide (i ≥ 0))), (22, LN a), (23, AI i), (24, .rptr [AI ((a.getD ((i).toNat) (0, 0)).1), AI ((a.getD ((i).toNat) (0, 0)).2)]), (25, .rptr [AI ((a.getD ((i).toNat) (0, 0)).1), AI ((a.getD ((i).toNat) (0, 0)).2)]), (26, AI ((a.getD ((i).toNat) (0, 0)).1)), (27, .bool (decide (((a.getD ((i).toNat) (0, 0)).1) = 0))), (28, .bool (decide (((a.getD ((i).toNat) (0, 0)).1) = 0))), (37, .bool (decide (((a.getD ((i).toNat) (0, 0)).1) = 2))), (38, .bool (decide (((a.getD ((i).toNat) (0, 0)).1) = 2))), (39, .fn 88 [.ptr 1 0])]) (by kernel_rfl) (by kernel_rfl) (by kernel_rfl) ?_)
        refine R.go 1 (R.enter (avs := [.ptr 1 0]) Try.func88 rfl (by kernel_rfl) (by kernel_rfl) (by kernel_rfl) ?_)
        intro us9
        refine R.go 9 (R.arE (((S.take (S.length - 1)).length : Int) - 1) ((((S.take (S.length - 1)).length) - 1 : Nat) : Int) (by kernel_rfl) (by omega) (by omega) (by omega) (by kernel_rfl) ?_)
        refine R.idxO 2 1 (S.take (S.length - 1)).length (((S.take (S.length - 1)).length) - 1) ((((S.take (S.length - 1)).length) - 1 : Nat) : Int) (by kernel_rfl) (by omega) (by first | omega | (simp only [List.length_set]; omega) | (simp <;> omega)) (by kernel_rfl) ?_
        refine R.ldI (S.take (S.length - 1)) (((S.take (S.length - 1)).length) - 1) (by kernel_rfl) (by first | omega | (simp only [List.length_set]; omega) | (simp <;> omega)) (by kernel_rfl) ?_
        refine R.go 7 (R.arE (((S.take (S.length - 1)).length : Int) - 1) ((((S.take (S.length - 1)).length) - 1 : Nat) : Int) (by kernel_rfl) (by omega) (by omega) (by omega) (by kernel_rfl) ?_)
        refine R.cut eI (S.take (S.length - 1)) 2 2 (((S.take (S.length - 1)).length) - 1) ((((S.take (S.length - 1)).length) - 1 : Nat) : Int) (by kernel_rfl) (by omega) eI_len (by first | omega | (simp only [List.length_set]; omega) | (simp <;> omega)) (by kernel_rfl) ?_
        refine R.go 7 (R.back (AI ((S.take (S.length - 1)).getD (((S.take (S.length - 1)).length) - 1) 0)) (frm 86 [(1, LI vs), (2, LN a), (3, .ptr 0 0), (7, AI ((shl64 1 n) - 1)), (8, .ptr 1 0), (9, .fn 88 [.ptr 1 0]), (10, AI i), (11, AI 0), (18, AI i), (19, .bool (decide (i ≥ 0))), (22, LN a), (23, AI i), (24, .rptr [AI ((a.getD ((i).toNat) (0, 0)).1), AI ((a.getD ((i).toNat) (0, 0)).2)]), (25, .rptr [AI ((a.getD ((i).toNat) (0, 0)).1), AI ((a.getD ((i).toNat) (0, 0)).2)]), (26, AI ((a.getD ((i).toNat) (0, 0)).1)), (27, .bool (decide (((a.getD ((i).toNat) (0, 0)).1) = 0))), (28, .bool (decide (((a.getD ((i).toNat) (0, 0)).1) = 0))), (37, .bool (decide (((a.getD ((i).toNat) (0, 0)).1) = 2))), (38, .bool (decide (((a.getD ((i).toNat) (0, 0)).1) = 2))), (39, .fn 88 [.ptr 1 0]), (40, AI (S.getD (S.length - 1) 0)), (41, .fn 88 [.ptr 1 0])]) (by kernel_rfl) (by kernel_rfl) (by kernel_rfl) ?_)
        refine R.go 8 (R.app eI ((S.take (S.length - 1)).take (((S.take (S.length - 1)).length) - 1)) [band (S.getD (S.length - 1) 0) ((S.take (S.length - 1)).getD (((S.take (S.length - 1)).length) - 1) 0)] 2 2 1 8 (by kernel_rfl) eI_one (by decide) (by first | omega | (simp <;> omega)) (by kernel_rfl) ?_)
        refine R.go 5 (R.ar (i - 1) (by kernel_rfl) (by omega) (by omega) (by kernel_rfl) ?_)
        exact R.go 2 (R.stop R1 (by kernel_rfl) (N2 (i - 1, ((S.take (S.length - 1)).take (((S.take (S.length - 1)).length) - 1)) ++ [band (S.getD (S.length - 1) 0) ((S.take (S.length - 1)).getD (((S.take (S.length - 1)).length) - 1) 0)]) [1, 2, 3, 7, 8, 9, 10] (some [0, 1, 2]) _ (by kernel_rfl) (by kernel_rfl) ⟨(by omega), (by omega), (by simp <;> omega), (by first | exact stkg_push ‹S = _› (by omega) (by omega) (by omega) | exact stkg_bot ‹S = _› (by omega) (by omega) (by omega) | exact stkg_two hok ‹S = _› (by omega) (by omega) ‹(a.getD i.toNat (0, 0)).1 = _› (by omega) rfl rfl rfl rfl | exact stkg_one hok ‹S = _› (by omega) (by omega) ‹(a.getD i.toNat (0, 0)).1 = _› (by omega) rfl rfl)⟩ (by show (((i - 1) + 1).toNat) < ((i + 1).toNat); omega)))
      · refine R.go 5 (R.cond (((a.getD ((i).toNat) (0, 0)).1) = 3) (by kernel_rfl) (fun c10 => ?_) (fun c10 => ?_))
        · refine R.go 2 (R.enter (avs := [.ptr 1 0]) Try.func88 rfl (by kernel_rfl) (by kernel_rfl) (by kernel_rfl) ?_)
          intro us11
          refine R.go 9 (R.arE ((S.length : Int) - 1) ((S.length - 1 : Nat) : Int) (by kernel_rfl) (by omega) (by omega) (by omega) (by kernel_rfl) ?_)
          refine R.idxO 2 1 S.length (S.length - 1) ((S.length - 1 : Nat) : Int) (by kernel_rfl) (by omega) (by omega) (by kernel_rfl) ?_
          refine R.ldI S (S.length - 1) (by kernel_rfl) (by omega) (by kernel_rfl) ?_
          refine R.go 7 (R.arE ((S.length : Int) - 1) ((S.length - 1 : Nat) : Int) (by kernel_rfl) (by omega) (by omega) (by omega) (by kernel_rfl) ?_)
          refine R.cut eI S 2 2 (S.length - 1) ((S.length - 1 : Nat) : Int) (by kernel_rfl) (by omega) eI_len (by omega) (by kernel_rfl) ?_
          refine R.go 7 (R.back (AI (S.getD (S.length - 1) 0)) (frm 86 [(1, LI vs), (2, LN a), (3, .ptr 0 0), (7, AI ((shl64 1 n) - 1)), (8, .ptr 1 0), (9, .fn 88 [.ptr 1 0]), (10, AI i), (11, AI 0), (18, AI i), (19, .bool (decide (i ≥ 0))), (22, LN a), (23, AI i), (24, .rptr [AI ((a.getD ((i).toNat) (0, 0)).1), AI ((a.getD ((i).toNat) (0, 0)).2)]), (25, .rptr [AI ((a.getD ((i).toNat) (0, 0)).1), AI ((a.getD ((i).toNat) (0, 0)).2)]), (26, AI ((a.getD ((i).toNat) (0, 0)).1)), (27, .bool (decide (((a.getD ((i).toNat) (0, 0)).1) = 0))), (28, .bool (decide (((a.getD ((i).toNat) (0, 0)).1) = 0))), (37, .bool (decide (((a.getD ((i).toNat) (0, 0)).1) = 2))), (38, .bool (decide (((a.getD ((i).toNat) (0, 0)).1) = 2))), (44, .bool (decide (((a.getD ((i).toNat) (0, 0)).1) = 3))), (45, .bool (decide (((a.getD ((i).toNat) (0, 0)).1) = 3))), (46, .fn 88 [.ptr 1 0])]) (by kernel_rfl) (by kernel_rfl) (by kernel_rfl) ?_)
          refine R.go 1 (R.enter (avs := [.ptr 1 0]) Try.func88 rfl (by kernel_rfl) (by kernel_rfl) (by kernel_rfl) ?_)
          intro us12
          refine R.go 9 (R.arE (((S.take (S.length - 1)).length : Int) - 1) ((((S.take (S.length - 1)).length) - 1 : Nat) : Int) (by kernel_rfl) (by omega) (by omega) (by omega) (by kernel_rfl) ?_)
          refine R.idxO 2 1 (S.take (S.length - 1)).length (((S.take (S.length - 1)).length) - 1) ((((S.take (S.length - 1)).length) - 1 : Nat) : Int) (by kernel_rfl) (by omega) (by first | omega | (simp only [List.length_set]; omega) | (simp <;> omega)) (by kernel_rfl) ?_
          refine R.ldI (S.take (S.length - 1)) (((S.take (S.length - 1)).length) - 1) (by kernel_rfl) (by first | omega | (simp only [List.length_set]; omega) | (simp <;> omega)) (by kernel_rfl) ?_
          refine R.go 7 (R.arE (((S.take (S.length - 1)).length : Int) - 1) ((((S.take (S.length - 1)).length) - 1 : Nat) : Int) (by kernel_rfl) (by omega) (by omega) (by omega) (by kernel_rfl) ?_)
          refine R.cut eI (S.take (S.length - 1)) 2 2 (((S.take (S.length - 1)).length) - 1) ((((S.take (S.length - 1)).length) - 1 : Nat) : Int) (by kernel_rfl) (by omega) eI_len (by first | omega | (simp only [List.length_set]; omega) | (simp <;> omega)) (by kernel_rfl) ?_
          refine R.go 7 (R.back (AI ((S.take (S.length - 1)).getD (((S.take (S.length - 1)).length) - 1) 0)) (frm 86 [(1, LI vs), (2, LN a), (3, .ptr 0 0), (7, AI ((shl64 1 n) - 1)), (8, .ptr 1 0), (9, .fn 88 [.ptr 1 0]), (10, AI i), (11, AI 0), (18, AI i), (19, .bool (decide (i ≥ 0))), (22, LN a), (23, AI i), (24, .rptr [AI ((a.getD ((i).toNat) (0, 0)).1), AI ((a.getD ((i).toNat) (0, 0)).2)]), (25, .rptr [AI ((a.getD ((i).toNat) (0, 0)).1), AI ((a.getD ((i).toNat) (0, 0)).2)]), (26, AI ((a.getD ((i).toNat) (0, 0)).1)), (27, .bool (decide (((a.getD ((i).toNat) (0, 0)).1) = 0))), (28, .bool (decide (((a.getD ((i).toNat) (0, 0)).1) = 0))), (37, .bool (decide (((a.getD ((i).toNat) (0, 0)).1) = 2))), (38, .bool (decide (((a.getD ((i).toNat) (0, 0)).1) = 2))), (44, .bool (decide (((a.getD ((i).toNat) (0, 0)).1) = 3))), (45, .bool (decide (((a.getD ((i).toNat) (0, 0)).1) = 3))), (46, .fn 88 [.ptr 1 0]), (47, AI (S.getD (S.length - 1) 0)), (48, .fn 88 [.ptr 1 0])]) (by kernel_rfl) (by kernel_rfl) (by kernel_rfl) ?_)
          refine R.go 8 (R.app eI ((S.take (S.length - 1)).take (((S.take (S.length - 1)).length) - 1)) [bor (S.getD (S.length - 1) 0) ((S.take (S.length - 1)).getD (((S.take (S.length - 1)).length) - 1) 0)] 2 2 1 8 (by kernel_rfl) eI_one (by decide) (by first | omega | (simp <;> omega)) (by kernel_rfl) ?_)
          refine R.go 5 (R.ar (i - 1) (by kernel_rfl) (by omega) (by omega) (by kernel_rfl) ?_)
          exact R.go 2 (R.stop R1 (by kernel_rfl) (N2 (i - 1, ((S.take (S.length - 1)).take (((S.take (S.length - 1)).length) - 1)) ++ [bor (S.getD (S.length - 1) 0) ((S.take (S.length - 1)).getD (((S.take (S.length - 1)).length) - 1) 0)]) [1, 2, 3, 7, 8, 9, 10] (some [0, 1, 2]) _ (by kernel_rfl) (by kernel_rfl) ⟨(by omega), (by omega), (by simp <;> omega), (by first | exact stkg_push ‹S = _› (by omega) (by omega) (by omega) | exact stkg_bot ‹S = _› (by omega) (by omega) (by omega) | exact stkg_two hok ‹S = _› (by omega) (by omega) ‹(a.getD i.toNat (0, 0)).1 = _› (by omega) rfl rfl rfl rfl | exact stkg_one hok ‹S = _› (by omega) (by omega) ‹(a.getD i.toNat (0, 0)).1 = _› (by omega) rfl rfl)⟩ (by show (((i - 1) + 1).toNat) < ((i + 1).toNat); omega)))
        · refine R.go 5 (R.cond (((a.getD ((i).toNat) (0, 0)).1) = 4) (by kernel_rfl) (fun c13 => ?_) (fun c13 => ?_))
          · refine R.go 4 (R.enter (avs := [.ptr 1 0]) Try.func88 rfl (by kernel_rfl) (by kernel_rfl) (by kernel_rfl) ?_)
            intro us14
            refine R.go 9 (R.arE ((S.length : Int) - 1) ((S.length - 1 : Nat) : Int) (by kernel_rfl) (by omega) (by omega) (by omega) (by kernel_rfl) ?_)
            refine R.idxO 2 1 S.length (S.length - 1) ((S.length - 1 : Nat) : Int) (by kernel_rfl) (by omega) (by omega) (by kernel_rfl) ?_
            refine R.ldI S (S.length - 1) (by kernel_rfl) (by omega) (by kernel_rfl) ?_
            refine R.go 7 (R.arE ((S.length : Int) - 1) ((S.length - 1 : Nat) : Int) (by kernel_rfl) (by omega) (by omega) (by omega) (by kernel_rfl) ?_)
            refine R.cut eI S 2 2 (S.length - 1) ((S.length - 1 : Nat) : Int) (by kernel_rfl) (by omega) eI_len (by omega) (by kernel_rfl) ?_
            refine R.go 7 (R.back (AI (S.getD (S.length - 1) 0)) (frm 86 [(1, LI vs), (2, LN a), (3, .ptr 0 0), (7, AI ((shl64 1 n) - 1)), (8, .ptr 1 0), (9, .fn 88 [.ptr 1 0]), (10, AI i), (11, AI 0), (18, AI i), (19, .bool (decide (i ≥ 0))), (22, LN a), (23, AI i), (24, .rptr [AI ((a.getD ((i).toNat) (0, 0)).1), AI ((a.getD ((i).toNat) (0, 0)).2)]), (25, .rptr [AI ((a.getD ((i).toNat) (0, 0)).1), AI ((a.getD ((i).toNat) (0, 0)).2)]), (26, AI ((a.getD ((i).toNat) (0, 0)).1)), (27, .bool (decide (((a.getD ((i).toNat) (0, 0)).1) = 0))), (28, .bool (decide (((a.getD ((i).toNat) (0, 0)).1) = 0))), (37, .bool (decide (((a.getD ((i).toNat) (0, 0)).1) = 2))), (38, .bool (decide (((a.getD ((i).toNat) (0, 0)).1) = 2))), (44, .bool (decide (((a.getD ((i).toNat) (0, 0)).1) = 3))), (45, .bool (decide (((a.getD ((i).toNat) (0, 0)).1) = 3))), (51, .bool (decide (((a.getD ((i).toNat) (0, 0)).1) = 4))), (52, .bool (decide (((a.getD ((i).toNat) (0, 0)).1) = 4))), (53, AI ((shl64 1 n) - 1)), (54, .fn 88 [.ptr 1 0])]) (by kernel_rfl) (by kernel_rfl) (by kernel_rfl) ?_)
            refine R.go 6 (R.enter (avs := [.ptr 1 0]) Try.func88 rfl (by kernel_rfl) (by kernel_rfl) (by kernel_rfl) ?_)
            intro us15
            refine R.go 9 (R.arE (((S.take (S.length - 1)).length : Int) - 1) ((((S.take (S.length - 1)).length) - 1 : Nat) : Int) (by kernel_rfl) (by omega) (by omega) (by omega) (by kernel_rfl) ?_)
            refine R.idxO 2 1 (S.take (S.length - 1)).length (((S.take (S.length - 1)).length) - 1) ((((S.take (S.length - 1)).length) - 1 : Nat) : Int) (by kernel_rfl) (by omega) (by first | omega | (simp only [List.length_set]; omega) | (simp <;> omega)) (by kernel_rfl) ?_
            refine R.ldI (S.take (S.length - 1)) (((S.take (S.length - 1)).length) - 1) (by kernel_rfl) (by first | omega | (simp only [List.length_set]; omega) | (simp <;> omega)) (by kernel_rfl) ?_
            refine R.go 7 (R.arE (((S.take (S.length - 1)).length : Int) - 1) ((((S.take (S.length - 1)).length) - 1 : Nat) : Int) (by kernel_rfl) (by omega) (by omega) (by omega) (by kernel_rfl) ?_)
            refine R.cut eI (S.take (S.length - 1)) 2 2 (((S.take (S.length - 1)).length) - 1) ((((S.take (S.length - 1)).length) - 1 : Nat) : Int) (by kernel_rfl) (by omega) eI_len (by first | omega | (simp only [List.length_set]; omega) | (simp <;> omega)) (by kernel_rfl) ?_
            refine R.go 7 (R.back (AI ((S.take (S.length - 1)).getD (((S.take (S.length - 1)).length) - 1) 0)) (frm 86 [(1, LI vs), (2, LN a), (3, .ptr 0 0), (7, AI ((shl64 1 n) - 1)), (8, .ptr 1 0), (9, .fn 88 [.ptr 1 0]), (10, AI i), (11, AI (bnot ((shl64 1 n) - 1) (S.getD (S.length - 1) 0))), (18, AI i), (19, .bool (decide (i ≥ 0))), (22, LN a), (23, AI i), (24, .rptr [AI ((a.getD ((i).toNat) (0, 0)).1), AI ((a.getD ((i).toNat) (0, 0)).2)]), (25, .rptr [AI ((a.getD ((i).toNat) (0, 0)).1), AI ((a.getD ((i).toNat) (0, 0)).2)]), (26, AI ((a.getD ((i).toNat) (0, 0)).1)), (27, .bool (decide (((a.getD ((i).toNat) (0, 0)).1) = 0))), (28, .bool (decide (((a.getD ((i).toNat) (0, 0)).1) = 0))), (37, .bool (decide (((a.getD ((i).toNat) (0, 0)).1) = 2))), (38, .bool (decide (((a.getD ((i).toNat) (0, 0)).1) = 2))), (44, .bool (decide (((a.getD ((i).toNat) (0, 0)).1) = 3))), (45, .bool (decide (((a.getD ((i).toNat) (0, 0)).1) = 3))), (51, .bool (decide (((a.getD ((i).toNat) (0, 0)).1) = 4))), (52, .bool (decide (((a.getD ((i).toNat) (0, 0)).1) = 4))), (53, AI ((shl64 1 n) - 1)), (54, .fn 88 [.ptr 1 0]), (55, AI (S.getD (S.length - 1) 0)), (56, AI (bnot ((shl64 1 n) - 1) (S.getD (S.length - 1) 0))), (57, AI (bnot ((shl64 1 n) - 1) (S.getD (S.length - 1) 0))), (58, .fn 88 [.ptr 1 0])]) (by kernel_rfl) (by kernel_rfl) (by kernel_rfl) ?_)
            refine R.go 8 (R.app eI ((S.take (S.length - 1)).take (((S.take (S.length - 1)).length) - 1)) [bor (bnot ((shl64 1 n) - 1) (S.getD (S.length - 1) 0)) ((S.take (S.length - 1)).getD (((S.take (S.length - 1)).length) - 1) 0)] 2 2 1 8 (by kernel_rfl) eI_one (by decide) (by first | omega | (simp <;> omega)) (by kernel_rfl) ?_)
            refine R.go 5 (R.ar (i - 1) (by kernel_rfl) (by omega) (by omega) (by kernel_rfl) ?_)
            exact R.go 2 (R.stop R1 (by kernel_rfl) (N2 (i - 1, ((S.take (S.length - 1)).take (((S.take (S.length - 1)).length) - 1)) ++ [bor (bnot ((shl64 1 n) - 1) (S.getD (S.length - 1) 0)) ((S.take (S.length - 1)).getD (((S.take (S.length - 1)).length) - 1) 0)]) [1, 2, 3, 7, 8, 9, 10] (some [0, 1, 2]) _ (by kernel_rfl) (by kernel_rfl) ⟨(by omega), (by omega), (by simp <;> omega), (by first | exact stkg_push ‹S = _› (by omega) (by omega) (by omega) | exact stkg_bot ‹S = _› (by omega) (by omega) (by omega) | exact stkg_two hok ‹S = _› (by omega) (by omega) ‹(a.getD i.toNat (0, 0)).1 = _› (by omega) rfl rfl rfl rfl | exact stkg_one hok ‹S = _› (by omega) (by omega) ‹(a.getD i.toNat (0, 0)).1 = _› (by omega) rfl rfl)⟩ (by show (((i - 1) + 1).toNat) < ((i + 1).toNat); omega)))
          · refine R.go 5 (R.cond (((a.getD ((i).toNat) (0, 0)).1) = 5) (by kernel_rfl) (fun c16 => ?_) (fun c16 => ?_))
            · refine R.any (by decide +kernel) (by kernel_rfl) ?_
              refine R.anyF 2 (by kernel_rfl) (np_ret _ _ _) ?_
              refine R.any2 0 3 (by kernel_rfl) (by kernel_rfl) ?_ ?_
              · refine R.go 2 (R.any2 1 3 (by kernel_rfl) (by kernel_rfl) ?_ ?_)
                · refine R.go 2 (R.any1 3 (by kernel_rfl) (by kernel_rfl) ?_)
                  refine R.enter (avs := [.ptr 1 0]) Try.func88 rfl (by kernel_rfl) (by kernel_rfl) (by kernel_rfl) ?_
                  intro us17
                  refine R.go 9 (R.arE ((S.length : Int) - 1) ((S.length - 1 : Nat) : Int) (by kernel_rfl) (by omega) (by omega) (by omega) (by kernel_rfl) ?_)
                  refine R.idxO 2 1 S.length (S.length - 1) ((S.length - 1 : Nat) : Int) (by kernel_rfl) (by omega) (by omega) (by kernel_rfl) ?_
                  refine R.ldI S (S.length - 1) (by kernel_rfl) (by omega) (by kernel_rfl) ?_
                  refine R.go 7 (R.arE ((S.length : Int) - 1) ((S.length - 1 : Nat) : Int) (by kernel_rfl) (by omega) (by omega) (by omega) (by kernel_rfl) ?_)
                  refine R.cut eI S 2 2 (S.length - 1) ((S.length - 1 : Nat) : Int) (by kernel_rfl) (by omega) eI_len (by omega) (by kernel_rfl) ?_
                  refine R.go 7 (R.back (AI (S.getD (S.length - 1) 0)) (frm 86 [(1, LI vs), (2, LN a), (3, .ptr 0 0), (7, AI ((shl64 1 n) - 1)), (8, .ptr 1 0), (9, .fn 88 [.ptr 1 0]), (10, AI i), (11, AI 0), (18, AI i), (19, .bool (decide (i ≥ 0))), (22, LN a), (23, AI i), (24, .rptr [AI ((a.getD ((i).toNat) (0, 0)).1), AI ((a.getD ((i).toNat) (0, 0)).2)]), (25, .rptr [AI ((a.getD ((i).toNat) (0, 0)).1), AI ((a.getD ((i).toNat) (0, 0)).2)]), (26, AI ((a.getD ((i).toNat) (0, 0)).1)), (27, .bool (decide (((a.getD ((i).toNat) (0, 0)).1) = 0))), (28, .bool (decide (((a.getD ((i).toNat) (0, 0)).1) = 0))), (37, .bool (decide (((a.getD ((i).toNat) (0, 0)).1) = 2))), (38, .bool (decide (((a.getD ((i).toNat) (0, 0)).1) = 2))), (44, .bool (decide (((a.getD ((i).toNat) (0, 0)).1) = 3))), (45, .bool (decide (((a.getD ((i).toNat) (0, 0)).1) = 3))), (51, .bool (decide (((a.getD ((i).toNat) (0, 0)).1) = 4))), (52, .bool (decide (((a.getD ((i).toNat) (0, 0)).1) = 4))), (61, .bool (decide (((a.getD ((i).toNat) (0, 0)).1) = 5))), (62, .bool (decide (((a.getD ((i).toNat) (0, 0)).1) = 5))), (63, .ptr 0 1), (64, LI xs), (65, .fn 88 [.ptr 1 0])]) (by kernel_rfl) (by kernel_rfl) (by kernel_rfl) ?_)
                  refine R.go 1 (R.any1 4 (by kernel_rfl) (by kernel_rfl) ?_)
                  refine R.call true (box_c xs (S.getD (S.length - 1) 0) hx) (by kernel_rfl) rfl (by kernel_rfl) ?_
                  refine R.go 1 (R.any1 5 (by kernel_rfl) (by kernel_rfl) ?_)
                  refine R.go 2 (R.any0 (by kernel_rfl) ?_)
                  refine R.go 5 (R.app eI (S.take (S.length - 1)) [boxB xs (S.getD (S.length - 1) 0) xs.length] 2 2 1 8 (by kernel_rfl) eI_one (by decide) (by first | omega | (simp <;> omega)) (by kernel_rfl) ?_)
                  refine R.go 5 (R.ar (i - 1) (by kernel_rfl) (by omega) (by omega) (by kernel_rfl) ?_)
                  exact R.go 2 (R.stop R1 (by kernel_rfl) (N2 (i - 1, (S.take (S.length - 1)) ++ [boxB xs (S.getD (S.length - 1) 0) xs.length]) [1, 2, 3, 7, 8, 9, 10] (some [0, 1, 2]) _ (by kernel_rfl) (by kernel_rfl) ⟨(by omega), (by omega), (by simp <;> omega), (by first | exact stkg_push ‹S = _› (by omega) (by omega) (by omega) | exact stkg_bot ‹S = _› (by omega) (by omega) (by omega) | exact stkg_two hok ‹S = _› (by omega) (by omega) ‹(a.getD i.toNat (0, 0)).1 = _› (by omega) rfl rfl rfl rfl | exact stkg_one hok ‹S = _› (by omega) (by omega) ‹(a.getD i.toNat (0, 0)).1 = _› (by omega) rfl rfl)⟩ (by show (((i - 1) + 1).toNat) < ((i + 1).toNat); omega)))
                · refine R.enter (avs := [.ptr 1 0]) Try.func88 rfl (by kernel_rfl) (by kernel_rfl) (by kernel_rfl) ?_
                  intro us18
                  refine R.go 9 (R.arE ((S.length : Int) - 1) ((S.length - 1 : Nat) : Int) (by kernel_rfl) (by omega) (by omega) (by omega) (by kernel_rfl) ?_)
                  refine R.idxO 2 1 S.length (S.length - 1) ((S.length - 1 : Nat) : Int) (by kernel_rfl) (by omega) (by omega) (by kernel_rfl) ?_
                  refine R.ldI S (S.length - 1) (by kernel_rfl) (by omega) (by kernel_rfl) ?_
                  refine R.go 7 (R.arE ((S.length : Int) - 1) ((S.length - 1 : Nat) : Int) (by kernel_rfl) (by omega) (by omega) (by omega) (by kernel_rfl) ?_)
                  refine R.cut eI S 2 2 (S.length - 1) ((S.length - 1 : Nat) : Int) (by kernel_rfl) (by omega) eI_len (by omega) (by kernel_rfl) ?_
                  refine R.go 7 (R.back (AI (S.getD (S.length - 1) 0)) (frm 86 [(1, LI vs), (2, LN a), (3, .ptr 0 0), (7, AI ((shl64 1 n) - 1)), (8, .ptr 1 0), (9, .fn 88 [.ptr 1 0]), (10, AI i), (11, AI 0), (18, AI i), (19, .bool (decide (i ≥ 0))), (22, LN a), (23, AI i), (24, .rptr [AI ((a.getD ((i).toNat) (0, 0)).1), AI ((a.getD ((i).toNat) (0, 0)).2)]), (25, .rptr [AI ((a.getD ((i).toNat) (0, 0)).1), AI ((a.getD ((i).toNat) (0, 0)).2)]), (26, AI ((a.getD ((i).toNat) (0, 0)).1)), (27, .bool (decide (((a.getD ((i).toNat) (0, 0)).1) = 0))), (28, .bool (decide (((a.getD ((i).toNat) (0, 0)).1) = 0))), (37, .bool (decide (((a.getD ((i).toNat) (0, 0)).1) = 2))), (38, .bool (decide (((a.getD ((i).toNat) (0, 0)).1) = 2))), (44, .bool (decide (((a.getD ((i).toNat) (0, 0)).1) = 3))), (45, .bool (decide (((a.getD ((i).toNat) (0, 0)).1) = 3))), (51, .bool (decide (((a.getD ((i).toNat) (0, 0)).1) = 4))), (52, .bool (decide (((a.getD ((i).toNat) (0, 0)).1) = 4))), (61, .bool (decide (((a.getD ((i).toNat) (0, 0)).1) = 5))), (62, .bool (decide (((a.getD ((i).toNat) (0, 0)).1) = 5))), (63, .ptr 0 1), (65, .fn 88 [.ptr 1 0])]) (by kernel_rfl) (by kernel_rfl) (by kernel_rfl) ?_)
                  refine R.go 1 (R.any1 1 (by kernel_rfl) (by kernel_rfl) ?_)
                  refine R.go 2 (R.any1 4 (by kernel_rfl) (by kernel_rfl) ?_)
                  refine R.call true (box_c xs (S.getD (S.length - 1) 0) hx) (by kernel_rfl) rfl (by kernel_rfl) ?_
                  refine R.go 1 (R.any1 5 (by kernel_rfl) (by kernel_rfl) ?_)
                  refine R.go 2 (R.any0 (by kernel_rfl) ?_)
                  refine R.go 5 (R.app eI (S.take (S.length - 1)) [boxB xs (S.getD (S.length - 1) 0) xs.length] 2 2 1 8 (by kernel_rfl) eI_one (by decide) (by first | omega | (simp <;> omega)) (by kernel_rfl) ?_)
                  refine R.go 5 (R.ar (i - 1) (by kernel_rfl) (by omega) (by omega) (by kernel_rfl) ?_)
                  exact R.go 2 (R.stop R1 (by kernel_rfl) (N2 (i - 1, (S.take (S.length - 1)) ++ [boxB xs (S.getD (S.length - 1) 0) xs.length]) [1, 2, 3, 7, 8, 9, 10] (some [0, 1, 2]) _ (by kernel_rfl) (by kernel_rfl) ⟨(by omega), (by omega), (by simp <;> omega), (by first | exact stkg_push ‹S = _› (by omega) (by omega) (by omega) | exact stkg_bot ‹S = _› (by omega) (by omega) (by omega) | exact stkg_two hok ‹S = _› (by omega) (by omega) ‹(a.getD i.toNat (0, 0)).1 = _› (by omega) rfl rfl rfl rfl | exact stkg_one hok ‹S = _› (by omega) (by omega) ‹(a.getD i.toNat (0, 0)).1 = _› (by omega) rfl rfl)⟩ (by show (((i - 1) + 1).toNat) < ((i + 1).toNat); omega)))
              · refine R.enter (avs := [.ptr 1 0]) Try.func88 rfl (by kernel_rfl) (by kernel_rfl) (by kernel_rfl) ?_
                intro us19
                refine R.go 9 (R.arE ((S.length : Int) - 1) ((S.length - 1 : Nat) : Int) (by kernel_rfl) (by omega) (by omega) (by omega) (by kernel_rfl) ?_)
                refine R.idxO 2 1 S.length (S.length - 1) ((S.length - 1 : Nat) : Int) (by kernel_rfl) (by omega) (by omega) (by kernel_rfl) ?_
                refine R.ldI S (S.length - 1) (by kernel_rfl) (by omega) (by kernel_rfl) ?_
                refine R.go 7 (R.arE ((S.length : Int) - 1) ((S.length - 1 : Nat) : Int) (by kernel_rfl) (by omega) (by omega) (by omega) (by kernel_rfl) ?_)
                refine R.cut eI S 2 2 (S.length - 1) ((S.length - 1 : Nat) : Int) (by kernel_rfl) (by omega) eI_len (by omega) (by kernel_rfl) ?_
                refine R.go 7 (R.back (AI (S.getD (S.length - 1) 0)) (frm 86 [(1, LI vs), (2, LN a), (3, .ptr 0 0), (7, AI ((shl64 1 n) - 1)), (8, .ptr 1 0), (9, .fn 88 [.ptr 1 0]), (10, AI i), (11, AI 0), (18, AI i), (19, .bool (decide (i ≥ 0))), (22, LN a), (23, AI i), (24, .rptr [AI ((a.getD ((i).toNat) (0, 0)).1), AI ((a.getD ((i).toNat) (0, 0)).2)]), (25, .rptr [AI ((a.getD ((i).toNat) (0, 0)).1), AI ((a.getD ((i).toNat) (0, 0)).2)]), (26, AI ((a.getD ((i).toNat) (0, 0)).1)), (27, .bool (decide (((a.getD ((i).toNat) (0, 0)).1) = 0))), (28, .bool (decide (((a.getD ((i).toNat) (0, 0)).1) = 0))), (37, .bool (decide (((a.getD ((i).toNat) (0, 0)).1) = 2))), (38, .bool (decide (((a.getD ((i).toNat) (0, 0)).1) = 2))), (44, .bool (decide (((a.getD ((i).toNat) (0, 0)).1) = 3))), (45, .bool (decide (((a.getD ((i).toNat) (0, 0)).1) = 3))), (51, .bool (decide (((a.getD ((i).toNat) (0, 0)).1) = 4))), (52, .bool (decide (((a.getD ((i).toNat) (0, 0)).1) = 4))), (61, .bool (decide (((a.getD ((i).toNat) (0, 0)).1) = 5))), (62, .bool (decide (((a.getD ((i).toNat) (0, 0)).1) = 5))), (65, .fn 88 [.ptr 1 0])]) (by kernel_rfl) (by kernel_rfl) (by kernel_rfl) ?_)
                refine R.go 1 (R.any1 0 (by kernel_rfl) (by kernel_rfl) ?_)
                refine R.go 2 (R.any1 1 (by kernel_rfl) (by kernel_rfl) ?_)
                refine R.go 2 (R.any1 4 (by kernel_rfl) (by kernel_rfl) ?_)
                refine R.call true (box_c xs (S.getD (S.length - 1) 0) hx) (by kernel_rfl) rfl (by kernel_rfl) ?_
                refine R.go 1 (R.any1 5 (by kernel_rfl) (by kernel_rfl) ?_)
                refine R.go 2 (R.any0 (by kernel_rfl) ?_)
                refine R.go 5 (R.app eI (S.take (S.length - 1)) [boxB xs (S.getD (S.length - 1) 0) xs.length] 2 2 1 8 (by kernel_rfl) eI_one (by decide) (by first | omega | (simp <;> omega)) (by kernel_rfl) ?_)
                refine R.go 5 (R.ar (i - 1) (by kernel_rfl) (by omega) (by omega) (by kernel_rfl) ?_)
                exact R.go 2 (R.stop R1 (by kernel_rfl) (N2 (i - 1, (S.take (S.length - 1)) ++ [boxB xs (S.getD (S.length - 1) 0) xs.length]) [1, 2, 3, 7, 8, 9, 10] (some [0, 1, 2]) _ (by kernel_rfl) (by kernel_rfl) ⟨(by omega), (by omega), (by simp <;> omega), (by first | exact stkg_push ‹S = _› (by omega) (by omega) (by omega) | exact stkg_bot ‹S = _› (by omega) (by omega) (by omega) | exact stkg_two hok ‹S = _› (by omega) (by omega) ‹(a.getD i.toNat (0, 0)).1 = _› (by omega) rfl rfl rfl rfl | exact stkg_one hok ‹S = _› (by omega) (by omega) ‹(a.getD i.toNat (0, 0)).1 = _› (by omega) rfl rfl)⟩ (by show (((i - 1) + 1).toNat) < ((i + 1).toNat); omega)))
            · refine R.go 5 (R.cond (((a.getD ((i).toNat) (0, 0)).1) = 6) (by kernel_rfl) (fun c20 => ?_) (fun c20 => ?_))
              · refine R.any (by decide +kernel) (by kernel_rfl) ?_
                refine R.anyF 0 (by kernel_rfl) (np_ret _ _ _) ?_
                refine R.anyF 3 (by kernel_rfl) (np_ret _ _ _) ?_
                refine R.anyF 4 (by kernel_rfl) (np_ret _ _ _) ?_
                refine R.any2 1 5 (by kernel_rfl) (by kernel_rfl) ?_ ?_
                · refine R.go 2 (R.any2 2 5 (by kernel_rfl) (by kernel_rfl) ?_ ?_)
                  · refine R.go 2 (R.any1 5 (by kernel_rfl) (by kernel_rfl) ?_)
                    refine R.enter (avs := [.ptr 1 0]) Try.func88 rfl (by kernel_rfl) (by kernel_rfl) (by kernel_rfl) ?_
                    intro us21
                    refine R.go 9 (R.arE ((S.length : Int) - 1) ((S.length - 1 : Nat) : Int) (by kernel_rfl) (by omega) (by omega) (by omega) (by kernel_rfl) ?_)
                    refine R.idxO 2 1 S.length (S.length - 1) ((S.length - 1 : Nat) : Int) (by kernel_rfl) (by omega) (by omega) (by kernel_rfl) ?_
                    refine R.ldI S (S.length - 1) (by kernel_rfl) (by omega) (by kernel_rfl) ?_
                    refine R.go 7 (R.arE ((S.length : Int) - 1) ((S.length - 1 : Nat) : Int) (by kernel_rfl) (by omega) (by omega) (by omega) (by kernel_rfl) ?_)
                    refine R.cut eI S 2 2 (S.length - 1) ((S.length - 1 : Nat) : Int) (by kernel_rfl) (by omega) eI_len (by omega) (by kernel_rfl) ?_
                    refine R.go 7 (R.back (AI (S.getD (S.length - 1) 0)) (frm 86 [(1, LI vs), (2, LN a), (3, .ptr 0 0), (7, AI ((shl64 1 n) - 1)), (8, .ptr 1 0), (9, .fn 88 [.ptr 1 0]), (10, AI i), (11, AI 0), (18, AI i), (19, .bool (decide (i ≥ 0))), (22, LN a), (23, AI i), (24, .rptr [AI ((a.getD ((i).toNat) (0, 0)).1), AI ((a.getD ((i).toNat) (0, 0)).2)]), (25, .rptr [AI ((a.getD ((i).toNat) (0, 0)).1), AI ((a.getD ((i).toNat) (0, 0)).2)]), (26, AI ((a.getD ((i).toNat) (0, 0)).1)), (27, .bool (decide (((a.getD ((i).toNat) (0, 0)).1) = 0))), (28, .bool (decide (((a.getD ((i).toNat) (0, 0)).1) = 0))), (37, .bool (decide (((a.getD ((i).toNat) (0, 0)).1) = 2))), (38, .bool (decide (((a.getD ((i).toNat) (0, 0)).1) = 2))), (44, .bool (decide (((a.getD ((i).toNat) (0, 0)).1) = 3))), (45, .bool (decide (((a.getD ((i).toNat) (0, 0)).1) = 3))), (51, .bool (decide (((a.getD ((i).toNat) (0, 0)).1) = 4))), (52, .bool (decide (((a.getD ((i).toNat) (0, 0)).1) = 4))), (61, .bool (decide (((a.getD ((i).toNat) (0, 0)).1) = 5))), (62, .bool (decide (((a.getD ((i).toNat) (0, 0)).1) = 5))), (68, .bool (decide (((a.getD ((i).toNat) (0, 0)).1) = 6))), (69, .bool (decide (((a.getD ((i).toNat) (0, 0)).1) = 6))), (70, AI ((shl64 1 n) - 1)), (71, .ptr 0 1), (72, LI xs), (73, AI ((shl64 1 n) - 1)), (74, .fn 88 [.ptr 1 0])]) (by kernel_rfl) (by kernel_rfl) (by kernel_rfl) ?_)
                    refine R.go 1 (R.any1 6 (by kernel_rfl) (by kernel_rfl) ?_)
                    refine R.go 2 (R.any1 7 (by kernel_rfl) (by kernel_rfl) ?_)
                    refine R.call true (box_c xs (bnot ((shl64 1 n) - 1) (S.getD (S.length - 1) 0)) hx) (by kernel_rfl) rfl (by kernel_rfl) ?_
                    refine R.go 1 (R.any1 8 (by kernel_rfl) (by kernel_rfl) ?_)
                    refine R.go 2 (R.any1 9 (by kernel_rfl) (by kernel_rfl) ?_)
                    refine R.go 2 (R.any0 (by kernel_rfl) ?_)
                    refine R.go 5 (R.app eI (S.take (S.length - 1)) [bnot ((shl64 1 n) - 1) (boxB xs (bnot ((shl64 1 n) - 1) (S.getD (S.length - 1) 0)) xs.length)] 2 2 1 8 (by kernel_rfl) eI_one (by decide) (by first | omega | (simp <;> omega)) (by kernel_rfl) ?_)
                    refine R.go 5 (R.ar (i - 1) (by kernel_rfl) (by omega) (by omega) (by kernel_rfl) ?_)
                    exact R.go 2 (R.stop R1 (by kernel_rfl) (N2 (i - 1, (S.take (S.length - 1)) ++ [bnot ((shl64 1 n) - 1) (boxB xs (bnot ((shl64 1 n) - 1) (S.getD (S.length - 1) 0)) xs.length)]) [1, 2, 3, 7, 8, 9, 10] (some [0, 1, 2]) _ (by kernel_rfl) (by kernel_rfl) ⟨(by omega), (by omega), (by simp <;> omega), (by first | exact stkg_push ‹S = _› (by omega) (by omega) (by omega) | exact stkg_bot ‹S = _› (by omega) (by omega) (by omega) | exact stkg_two hok ‹S = _› (by omega) (by omega) ‹(a.getD i.toNat (0, 0)).1 = _› (by omega) rfl rfl rfl rfl | exact stkg_one hok ‹S = _› (by omega) (by omega) ‹(a.getD i.toNat (0, 0)).1 = _› (by omega) rfl rfl)⟩ (by show (((i - 1) + 1).toNat) < ((i + 1).toNat); omega)))
                  · refine R.enter (avs := [.ptr 1 0]) Try.func88 rfl (by kernel_rfl) (by kernel_rfl) (by kernel_rfl) ?_
                    intro us22
                    refine R.go 9 (R.arE ((S.length : Int) - 1) ((S.length - 1 : Nat) : Int) (by kernel_rfl) (by omega) (by omega) (by omega) (by kernel_rfl) ?_)
                    refine R.idxO 2 1 S.length (S.length - 1) ((S.length - 1 : Nat) : Int) (by kernel_rfl) (by omega) (by omega) (by kernel_rfl) ?_
                    refine R.ldI S (S.length - 1) (by kernel_rfl) (by omega) (by kernel_rfl) ?_
                    refine R.go 7 (R.arE ((S.length : Int) - 1) ((S.length - 1 : Nat) : Int) (by kernel_rfl) (by omega) (by omega) (by omega) (by kernel_rfl) ?_)
                    refine R.cut eI S 2 2 (S.length - 1) ((S.length - 1 : Nat) : Int) (by kernel_rfl) (by omega) eI_len (by omega) (by kernel_rfl) ?_
                    refine R.go 7 (R.back (AI (S.getD (S.length - 1) 0)) (frm 86 [(1, LI vs), (2, LN a), (3, .ptr 0 0), (7, AI ((shl64 1 n) - 1)), (8, .ptr 1 0), (9, .fn 88 [.ptr 1 0]), (10, AI i), (11, AI 0), (18, AI i), (19, .bool (decide (i ≥ 0))), (22, LN a), (23, AI i), (24, .rptr [AI ((a.getD ((i).toNat) (0, 0)).1), AI ((a.getD ((i).toNat) (0, 0)).2)]), (25, .rptr [AI ((a.getD ((i).toNat) (0, 0)).1), AI ((a.getD ((i).toNat) (0, 0)).2)]), (26, AI ((a.getD ((i).toNat) (0, 0)).1)), (27, .bool (decide (((a.getD ((i).toNat) (0, 0)).1) = 0))), (28, .bool (decide (((a.getD ((i).toNat) (0, 0)).1) = 0))), (37, .bool (decide (((a.getD ((i).toNat) (0, 0)).1) = 2))), (38, .bool (decide (((a.getD ((i).toNat) (0, 0)).1) = 2))), (44, .bool (decide (((a.getD ((i).toNat) (0, 0)).1) = 3))), (45, .bool (decide (((a.getD ((i).toNat) (0, 0)).1) = 3))), (51, .bool (decide (((a.getD ((i).toNat) (0, 0)).1) = 4))), (52, .bool (decide (((a.getD ((i).toNat) (0, 0)).1) = 4))), (61, .bool (decide (((a.getD ((i).toNat) (0, 0)).1) = 5))), (62, .bool (decide (((a.getD ((i).toNat) (0, 0)).1) = 5))), (68, .bool (decide (((a.getD ((i).toNat) (0, 0)).1) = 6))), (69, .bool (decide (((a.getD ((i).toNat) (0, 0)).1) = 6))), (70, AI ((shl64 1 n) - 1)), (71, .ptr 0 1), (73, AI ((shl64 1 n) - 1)), (74, .fn 88 [.ptr 1 0])]) (by kernel_rfl) (by kernel_rfl) (by kernel_rfl) ?_)
                    refine R.go 1 (R.any2 2 6 (by kernel_rfl) (by kernel_rfl) ?_ ?_)
                    · refine R.go 2 (R.any1 6 (by kernel_rfl) (by kernel_rfl) ?_)
                      refine R.go 2 (R.any1 7 (by kernel_rfl) (by kernel_rfl) ?_)
                      refine R.call true (box_c xs (bnot ((shl64 1 n) - 1) (S.getD (S.length - 1) 0)) hx) (by kernel_rfl) rfl (by kernel_rfl) ?_
                      refine R.go 1 (R.any1 8 (by kernel_rfl) (by kernel_rfl) ?_)
                      refine R.go 2 (R.any1 9 (by kernel_rfl) (by kernel_rfl) ?_)
                      refine R.go 2 (R.any0 (by kernel_rfl) ?_)
                      refine R.go 5 (R.app eI (S.take (S.length - 1)) [bnot ((shl64 1 n) - 1) (boxB xs (bnot ((shl64 1 n) - 1) (S.getD (S.length - 1) 0)) xs.length)] 2 2 1 8 (by kernel_rfl) eI_one (by decide) (by first | omega | (simp <;> omega)) (by kernel_rfl) ?_)
                      refine R.go 5 (R.ar (i - 1) (by kernel_rfl) (by omega) (by omega) (by kernel_rfl) ?_)
                      exact R.go 2 (R.stop R1 (by kernel_rfl) (N2 (i - 1, (S.take (S.length - 1)) ++ [bnot ((shl64 1 n) - 1) (boxB xs (bnot ((shl64 1 n) - 1) (S.getD (S.length - 1) 0)) xs.length)]) [1, 2, 3, 7, 8, 9, 10] (some [0, 1, 2]) _ (by kernel_rfl) (by kernel_rfl) ⟨(by omega), (by omega), (by simp <;> omega), (by first | exact stkg_push ‹S = _› (by omega) (by omega) (by omega) | exact stkg_bot ‹S = _› (by omega) (by omega) (by omega) | exact stkg_two hok ‹S = _› (by omega) (by omega) ‹(a.getD i.toNat (0, 0)).1 = _› (by omega) rfl rfl rfl rfl | exact stkg_one hok ‹S = _› (by omega) (by omega) ‹(a.getD i.toNat (0, 0)).1 = _› (by omega) rfl rfl)⟩ (by show (((i - 1) + 1).toNat) < ((i + 1).toNat); omega)))
                    · refine R.go 2 (R.any1 2 (by kernel_rfl) (by kernel_rfl) ?_)
                      refine R.go 2 (R.any1 7 (by kernel_rfl) (by kernel_rfl) ?_)
                      refine R.call true (box_c xs (bnot ((shl64 1 n) - 1) (S.getD (S.length - 1) 0)) hx) (by kernel_rfl) rfl (by kernel_rfl) ?_
                      refine R.go 1 (R.any1 8 (by kernel_rfl) (by kernel_rfl) ?_)
                      refine R.go 2 (R.any1 9 (by kernel_rfl) (by kernel_rfl) ?_)
                      refine R.go 2 (R.any0 (by kernel_rfl) ?_)
                      refine R.go 5 (R.app eI (S.take (S.length - 1)) [bnot ((shl64 1 n) - 1) (boxB xs (bnot ((shl64 1 n) - 1) (S.getD (S.length - 1) 0)) xs.length)] 2 2 1 8 (by kernel_rfl) eI_one (by decide) (by first | omega | (simp <;> omega)) (by kernel_rfl) ?_)
                      refine R.go 5 (R.ar (i - 1) (by kernel_rfl) (by omega) (by omega) (by kernel_rfl) ?_)
                      exact R.go 2 (R.stop R1 (by kernel_rfl) (N2 (i - 1, (S.take (S.length - 1)) ++ [bnot ((shl64 1 n) - 1) (boxB xs (bnot ((shl64 1 n) - 1) (S.getD (S.length - 1) 0)) xs.length)]) [1, 2, 3, 7, 8, 9, 10] (some [0, 1, 2]) _ (by kernel_rfl) (by kernel_rfl) ⟨(by omega), (by omega), (by simp <;> omega), (by first | exact stkg_push ‹S = _› (by omega) (by omega) (by omega) | exact stkg_bot ‹S = _› (by omega) (by omega) (by omega) | exact stkg_two hok ‹S = _› (by omega) (by omega) ‹(a.getD i.toNat (0, 0)).1 = _› (by omega) rfl rfl rfl rfl | exact stkg_one hok ‹S = _› (by omega) (by omega) ‹(a.getD i.toNat (0, 0)).1 = _› (by omega) rfl rfl)⟩ (by show (((i - 1) + 1).toNat) < ((i + 1).toNat); omega)))
                · refine R.enter (avs := [.ptr 1 0]) Try.func88 rfl (by kernel_rfl) (by kernel_rfl) (by kernel_rfl) ?_
                  intro us23
                  refine R.go 9 (R.arE ((S.length : Int) - 1) ((S.length - 1 : Nat) : Int) (by kernel_rfl) (by omega) (by omega) (by omega) (by kernel_rfl) ?_)
                  refine R.idxO 2 1 S.length (S.length - 1) ((S.length - 1 : Nat) : Int) (by kernel_rfl) (by omega) (by omega) (by kernel_rfl) ?_
                  refine R.ldI S (S.length - 1) (by kernel_rfl) (by omega) (by kernel_rfl) ?_
                  refine R.go 7 (R.arE ((S.length : Int) - 1) ((S.length - 1 : Nat) : Int) (by kernel_rfl) (by omega) (by omega) (by omega) (by kernel_rfl) ?_)
                  refine R.cut eI S 2 2 (S.length - 1) ((S.length - 1 : Nat) : Int) (by kernel_rfl) (by omega) eI_len (by omega) (by kernel_rfl) ?_
                  refine R.go 7 (R.back (AI (S.getD (S.length - 1) 0)) (frm 86 [(1, LI vs), (2, LN a), (3, .ptr 0 0), (7, AI ((shl64 1 n) - 1)), (8, .ptr 1 0), (9, .fn 88 [.ptr 1 0]), (10, AI i), (11, AI 0), (18, AI i), (19, .bool (decide (i ≥ 0))), (22, LN a), (23, AI i), (24, .rptr [AI ((a.getD ((i).toNat) (0, 0)).1), AI ((a.getD ((i).toNat) (0, 0)).2)]), (25, .rptr [AI ((a.getD ((i).toNat) (0, 0)).1), AI ((a.getD ((i).toNat) (0, 0)).2)]), (26, AI ((a.getD ((i).toNat) (0, 0)).1)), (27, .bool (decide (((a.getD ((i).toNat) (0, 0)).1) = 0))), (28, .bool (decide (((a.getD ((i).toNat) (0, 0)).1) = 0))), (37, .bool (decide (((a.getD ((i).toNat) (0, 0)).1) = 2))), (38, .bool (decide (((a.getD ((i).toNat) (0, 0)).1) = 2))), (44, .bool (decide (((a.getD ((i).toNat) (0, 0)).1) = 3))), (45, .bool (decide (((a.getD ((i).toNat) (0, 0)).1) = 3))), (51, .bool (decide (((a.getD ((i).toNat) (0, 0)).1) = 4))), (52, .bool (decide (((a.getD ((i).toNat) (0, 0)).1) = 4))), (61, .bool (decide (((a.getD ((i).toNat) (0, 0)).1) = 5))), (62, .bool (decide (((a.getD ((i).toNat) (0, 0)).1) = 5))), (68, .bool (decide (((a.getD ((i).toNat) (0, 0)).1) = 6))), (69, .bool (decide (((a.getD ((i).toNat) (0, 0)).1) = 6))), (70, AI ((shl64 1 n) - 1)), (73, AI ((shl64 1 n) - 1)), (74, .fn 88 [.ptr 1 0])]) (by kernel_rfl) (by kernel_rfl) (by kernel_rfl) ?_)
                  refine R.go 1 (R.any2 1 6 (by kernel_rfl) (by kernel_rfl) ?_ ?_)
                  · refine R.go 2 (R.any2 2 6 (by kernel_rfl) (by kernel_rfl) ?_ ?_)
                    · refine R.go 2 (R.any1 6 (by kernel_rfl) (by kernel_rfl) ?_)
                      refine R.go 2 (R.any1 7 (by kernel_rfl) (by kernel_rfl) ?_)
                      refine R.call true (box_c xs (bnot ((shl64 1 n) - 1) (S.getD (S.length - 1) 0)) hx) (by kernel_rfl) rfl (by kernel_rfl) ?_
                      refine R.go 1 (R.any1 8 (by kernel_rfl) (by kernel_rfl) ?_)
                      refine R.go 2 (R.any1 9 (by kernel_rfl) (by kernel_rfl) ?_)
                      refine R.go 2 (R.any0 (by kernel_rfl) ?_)
                      refine R.go 5 (R.app eI (S.take (S.length - 1)) [bnot ((shl64 1 n) - 1) (boxB xs (bnot ((shl64 1 n) - 1) (S.getD (S.length - 1) 0)) xs.length)] 2 2 1 8 (by kernel_rfl) eI_one (by decide) (by first | omega | (simp <;> omega)) (by kernel_rfl) ?_)
                      refine R.go 5 (R.ar (i - 1) (by kernel_rfl) (by omega) (by omega) (by kernel_rfl) ?_)
                      exact R.go 2 (R.stop R1 (by kernel_rfl) (N2 (i - 1, (S.take (S.length - 1)) ++ [bnot ((shl64 1 n) - 1) (boxB xs (bnot ((shl64 1 n) - 1) (S.getD (S.length - 1) 0)) xs.length)]) [1, 2, 3, 7, 8, 9, 10] (some [0, 1, 2]) _ (by kernel_rfl) (by kernel_rfl) ⟨(by omega), (by omega), (by simp <;> omega), (by first | exact stkg_push ‹S = _› (by omega) (by omega) (by omega) | exact stkg_bot ‹S = _› (by omega) (by omega) (by omega) | exact stkg_two hok ‹S = _› (by omega) (by omega) ‹(a.getD i.toNat (0, 0)).1 = _› (by omega) rfl rfl rfl rfl | exact stkg_one hok ‹S = _› (by omega) (by omega) ‹(a.getD i.toNat (0, 0)).1 = _› (by omega) rfl rfl)⟩ (by show (((i - 1) + 1).toNat) < ((i + 1).toNat); omega)))
                    · refine R.go 2 (R.any1 2 (by kernel_rfl) (by kernel_rfl) ?_)
                      refine R.go 2 (R.any1 7 (by kernel_rfl) (by kernel_rfl) ?_)
                      refine R.call true (box_c xs (bnot ((shl64 1 n) - 1) (S.getD (S.length - 1) 0)) hx) (by kernel_rfl) rfl (by kernel_rfl) ?_
                      refine R.go 1 (R.any1 8 (by kernel_rfl) (by kernel_rfl) ?_)
                      refine R.go 2 (R.any1 9 (by kernel_rfl) (by kernel_rfl) ?_)
                      refine R.go 2 (R.any0 (by kernel_rfl) ?_)
                      refine R.go 5 (R.app eI (S.take (S.length - 1)) [bnot ((shl64 1 n) - 1) (boxB xs (bnot ((shl64 1 n) - 1) (S.getD (S.length - 1) 0)) xs.length)] 2 2 1 8 (by kernel_rfl) eI_one (by decide) (by first | omega | (simp <;> omega)) (by kernel_rfl) ?_)
                      refine R.go 5 (R.ar (i - 1) (by kernel_rfl) (by omega) (by omega) (by kernel_rfl) ?_)
                      exact R.go 2 (R.stop R1 (by kernel_rfl) (N2 (i - 1, (S.take (S.length - 1)) ++ [bnot ((shl64 1 n) - 1) (boxB xs (bnot ((shl64 1 n) - 1) (S.getD (S.length - 1) 0)) xs.length)]) [1, 2, 3, 7, 8, 9, 10] (some [0, 1, 2]) _ (by kernel_rfl) (by kernel_rfl) ⟨(by omega), (by omega), (by simp <;> omega), (by first | exact stkg_push ‹S = _› (by omega) (by omega) (by omega) | exact stkg_bot ‹S = _› (by omega) (by omega) (by omega) | exact stkg_two hok ‹S = _› (by omega) (by omega) ‹(a.getD i.toNat (0, 0)).1 = _› (by omega) rfl rfl rfl rfl | exact stkg_one hok ‹S = _› (by omega) (by omega) ‹(a.getD i.toNat (0, 0)).1 = _› (by omega) rfl rfl)⟩ (by show (((i - 1) + 1).toNat) < ((i + 1).toNat); omega)))
                  · refine R.go 2 (R.any1 1 (by kernel_rfl) (by kernel_rfl) ?_)
                    refine R.go 2 (R.any1 2 (by kernel_rfl) (by kernel_rfl) ?_)
                    refine R.go 2 (R.any1 7 (by kernel_rfl) (by kernel_rfl) ?_)
                    refine R.call true (box_c xs (bnot ((shl64 1 n) - 1) (S.getD (S.length - 1) 0)) hx) (by kernel_rfl) rfl (by kernel_rfl) ?_
                    refine R.go 1 (R.any1 8 (by kernel_rfl) (by kernel_rfl) ?_)
                    refine R.go 2 (R.any1 9 (by kernel_rfl) (by kernel_rfl) ?_)
                    refine R.go 2 (R.any0 (by kernel_rfl) ?_)
                    refine R.go 5 (R.app eI (S.take (S.length - 1)) [bnot ((shl64 1 n) - 1) (boxB xs (bnot ((shl64 1 n) - 1) (S.getD (S.length - 1) 0)) xs.length)] 2 2 1 8 (by kernel_rfl) eI_one (by decide) (by first | omega | (simp <;> omega)) (by kernel_rfl) ?_)
                    refine R.go 5 (R.ar (i - 1) (by kernel_rfl) (by omega) (by omega) (by kernel_rfl) ?_)
                    exact R.go 2 (R.stop R1 (by kernel_rfl) (N2 (i - 1, (S.take (S.length - 1)) ++ [bnot ((shl64 1 n) - 1) (boxB xs (bnot ((shl64 1 n) - 1) (S.getD (S.length - 1) 0)) xs.length)]) [1, 2, 3, 7, 8, 9, 10] (some [0, 1, 2]) _ (by kernel_rfl) (by kernel_rfl) ⟨(by omega), (by omega), (by simp <;> omega), (by first | exact stkg_push ‹S = _› (by omega) (by omega) (by omega) | exact stkg_bot ‹S = _› (by omega) (by omega) (by omega) | exact stkg_two hok ‹S = _› (by omega) (by omega) ‹(a.getD i.toNat (0, 0)).1 = _› (by omega) rfl rfl rfl rfl | exact stkg_one hok ‹S = _› (by omega) (by omega) ‹(a.getD i.toNat (0, 0)).1 = _› (by omega) rfl rfl)⟩ (by show (((i - 1) + 1).toNat) < ((i + 1).toNat); omega)))
              · refine R.go 6 (R.app eI S [0] 2 2 1 8 (by kernel_rfl) eI_one (by decide) (by first | omega | (simp <;> omega)) (by kernel_rfl) ?_)
                refine R.go 5 (R.ar (i - 1) (by kernel_rfl) (by omega) (by omega) (by kernel_rfl) ?_)
                exact R.go 2 (R.stop R1 (by kernel_rfl) (N2 (i - 1, S ++ [0]) [1, 2, 3, 7, 8, 9, 10] (some [0, 1, 2]) _ (by kernel_rfl) (by kernel_rfl) ⟨(by omega), (by omega), (by simp <;> omega), (by first | exact stkg_push ‹S = _› (by omega) (by omega) (by omega) | exact stkg_bot ‹S = _› (by omega) (by omega) (by omega) | exact stkg_two hok ‹S = _› (by omega) (by omega) ‹(a.getD i.toNat (0, 0)).1 = _› (by omega) rfl rfl rfl rfl | exact stkg_one hok ‹S = _› (by omega) (by omega) ‹(a.getD i.toNat (0, 0)).1 = _› (by omega) rfl rfl)⟩ (by show (((i - 1) + 1).toNat) < ((i + 1).toNat); omega)))
  · refine R.go 4 (R.idxO 2 1 S.length 0 0 (by kernel_rfl) rfl (by omega) (by kernel_rfl) ?_)
    refine R.ldI S 0 (by kernel_rfl) (by omega) (by kernel_rfl) ?_
    exact R.go 2 (R.retE (AI (S.getD 0 0)) (by kernel_rfl) (by kernel_rfl) (by first | (apply congrArg AI; rw [stkg_fin hok ‹S = _› (by omega)]; rfl) | (exfalso; omega)))

theorem l06Truth_c : ∀ (k : Nat) (n : Int) (xs : List Int) (vs : List Int) (a : List (Int × Int)) (hk : a.length = k) (hok : OKM vs.length a) (h0 : 0 ≤ n) (h1 : n ≤ 8) (hx : xs.length ≤ 60) (hl : a.length ≤ 1000000000), CallA Try.prog 31 [.agg [AI n, LI xs, LI vs], LN a] (AI (gv (mT n) (mU n (bxA xs)) vs a)) := by
  intro k
  induction k using Nat.strongRecOn with
  | _ k ih =>
  intro n xs vs a hk hok h0 h1 hx hl
  have hlen := okm_pos hok
  have hg := okm_get hok 0 (by omega)
  refine CallA.of Try.func31 rfl (by kernel_rfl) ?_
  refine R.go 10 (R.call true (l01Full_c n h0 (by first | omega | (have hq := lenm_lef hok ((partsN_two _).2 (by omega)); omega) | (simp; omega))) (by kernel_rfl) rfl (by kernel_rfl) ?_)
  refine R.go 6 (R.idx eN a (0, 0) 0 0 (by kernel_rfl) rfl eN_len (by first | omega | (have hq := lenm_lef hok ((partsN_two _).2 (by omega)); omega) | (simp; omega)) (by kernel_rfl) ?_)
  refine R.go 9 (R.cond (((a.getD 0 (0, 0)).1) = 0) (by kernel_rfl) (fun c1 => ?_) (fun c1 => ?_))
  · refine R.go 5 (R.idx eN a (0, 0) 0 0 (by kernel_rfl) rfl eN_len (by first | omega | (have hq := lenm_lef hok ((partsN_two _).2 (by omega)); omega) | (simp; omega)) (by kernel_rfl) ?_)
    refine R.go 2 (R.idx eI vs 0 (((a.getD 0 (0, 0)).2).toNat) ((a.getD 0 (0, 0)).2) (by kernel_rfl) (by first | omega | (have hq := lenm_lef hok ((partsN_two _).2 (by omega)); omega) | (simp; omega)) eI_len (by first | omega | (have hq := lenm_lef hok ((partsN_two _).2 (by omega)); omega) | (simp; omega)) (by kernel_rfl) ?_)
    exact R.go 3 (R.retE (AI (vs.getD (((a.getD 0 (0, 0)).2).toNat) 0)) (by kernel_rfl) (by kernel_rfl) (by first | (apply congrArg AI; first | exact gv_two (mT n) (mU n (bxA xs)) vs hok ‹(a.getD 0 (0, 0)).1 = _› (by omega) | exact gv_one (mT n) (mU n (bxA xs)) vs hok ‹(a.getD 0 (0, 0)).1 = _› (by omega) | exact gv_two (mT n) (mU n (bxA xs)) vs hok (k := 4) (by omega) (by omega) | exact gv_var _ _ _ hok (by omega) | exact gv_bot _ _ _ hok (by omega)) | (exfalso; omega)))
  · refine R.go 5 (R.cond (((a.getD 0 (0, 0)).1) = 1) (by kernel_rfl) (fun c2 => ?_) (fun c2 => ?_))
    · exact R.go 4 (R.retE (AI 0) (by kernel_rfl) (by kernel_rfl) (by first | (apply congrArg AI; first | exact gv_two (mT n) (mU n (bxA xs)) vs hok ‹(a.getD 0 (0, 0)).1 = _› (by omega) | exact gv_one (mT n) (mU n (bxA xs)) vs hok ‹(a.getD 0 (0, 0)).1 = _› (by omega) | exact gv_two (mT n) (mU n (bxA xs)) vs hok (k := 4) (by omega) (by omega) | exact gv_var _ _ _ hok (by omega) | exact gv_bot _ _ _ hok (by omega)) | (exfalso; omega)))
    · refine R.go 5 (R.cond (((a.getD 0 (0, 0)).1) = 5) (by kernel_rfl) (fun c3 => ?_) (fun c3 => ?_))
      · refine R.go 7 (R.slL eN a 1 1 (by kernel_rfl) rfl eN_len (by first | omega | (have hq := lenm_lef hok ((partsN_two _).2 (by omega)); omega) | (simp; omega)) (by kernel_rfl) ?_)
        refine R.call true (ih ((a.drop 1).length) (by first | omega | (have hq := lenm_lef hok ((partsN_two _).2 (by omega)); omega) | (simp; omega)) n xs vs (a.drop 1) (by first | rfl | simp) (by first | assumption | exact okm_lef hok ((partsN_two _).2 (by omega)) | exact okm_rig hok ((partsN_two _).2 (by omega)) | exact okm_tail hok (partsN_1 (by omega))) h0 h1 hx (by first | omega | (have hq := lenm_lef hok ((partsN_two _).2 (by omega)); omega) | (simp; omega))) (by kernel_rfl) rfl (by kernel_rfl) ?_
        refine R.call true (l01Box_c xs (gv (mT n) (mU n (bxA xs)) vs (a.drop 1)) hx) (by kernel_rfl) rfl (by kernel_rfl) ?_
        exact R.go 2 (R.retE (AI (boxA xs (gv (mT n) (mU n (bxA xs)) vs (a.drop 1)) xs.length)) (by kernel_rfl) (by kernel_rfl) (by first | (apply congrArg AI; first | exact gv_two (mT n) (mU n (bxA xs)) vs hok ‹(a.getD 0 (0, 0)).1 = _› (by omega) | exact gv_one (mT n) (mU n (bxA xs)) vs hok ‹(a.getD 0 (0, 0)).1 = _› (by omega) | exact gv_two (mT n) (mU n (bxA xs)) vs hok (k := 4) (by omega) (by omega) | exact gv_var _ _ _ hok (by omega) | exact gv_bot _ _ _ hok (by omega)) | (exfalso; omega)))
      · refine R.go 5 (R.cond (((a.getD 0 (0, 0)).1) = 6) (by kernel_rfl) (fun c4 => ?_) (fun c4 => ?_))
        · refine R.go 9 (R.slL eN a 1 1 (by kernel_rfl) rfl eN_len (by first | omega | (have hq := lenm_lef hok ((partsN_two _).2 (by omega)); omega) | (simp; omega)) (by kernel_rfl) ?_)
          refine R.call true (ih ((a.drop 1).length) (by first | omega | (have hq := lenm_lef hok ((partsN_two _).2 (by omega)); omega) | (simp; omega)) n xs vs (a.drop 1) (by first | rfl | simp) (by first | assumption | exact okm_lef hok ((partsN_two _).2 (by omega)) | exact okm_rig hok ((partsN_two _).2 (by omega)) | exact okm_tail hok (partsN_1 (by omega))) h0 h1 hx (by first | omega | (have hq := lenm_lef hok ((partsN_two _).2 (by omega)); omega) | (simp; omega))) (by kernel_rfl) rfl (by kernel_rfl) ?_
          refine R.go 1 (R.call true (l01Box_c xs (bnot ((shl64 1 n) - 1) (gv (mT n) (mU n (bxA xs)) vs (a.drop 1))) hx) (by kernel_rfl) rfl (by kernel_rfl) ?_)
          exact R.go 3 (R.retE (AI (bnot ((shl64 1 n) - 1) (boxA xs (bnot ((shl64 1 n) - 1) (gv (mT n) (mU n (bxA xs)) vs (a.drop 1))) xs.length))) (by kernel_rfl) (by kernel_rfl) (by first | (apply congrArg AI; first | exact gv_two (mT n) (mU n (bxA xs)) vs hok ‹(a.getD 0 (0, 0)).1 = _› (by omega) | exact gv_one (mT n) (mU n (bxA xs)) vs hok ‹(a.getD 0 (0, 0)).1 = _› (by omega) | exact gv_two (mT n) (mU n (bxA xs)) vs hok (k := 4) (by omega) (by omega) | exact gv_var _ _ _ hok (by omega) | exact gv_bot _ _ _ hok (by omega)) | (exfalso; omega)))
        · refine R.go 5 (R.cond (((a.getD 0 (0, 0)).1) = 2) (by kernel_rfl) (fun c5 => ?_) (fun c5 => ?_))
          · refine R.go 4 (R.call true (l02Left_c vs.length a hok (by exact (partsN_two _).2 (by omega)) hl) (by kernel_rfl) rfl (by kernel_rfl) ?_)
            refine R.call true (ih ((lef a).length) (by first | omega | (have hq := lenm_lef hok ((partsN_two _).2 (by omega)); omega) | (simp; omega)) n xs vs (lef a) (by first | rfl | simp) (by first | assumption | exact okm_lef hok ((partsN_two _).2 (by omega)) | exact okm_rig hok ((partsN_two _).2 (by omega)) | exact okm_tail hok (partsN_1 (by omega))) h0 h1 hx (by first | omega | (have hq := lenm_lef hok ((partsN_two _).2 (by omega)); omega) | (simp; omega))) (by kernel_rfl) rfl (by kernel_rfl) ?_
            refine R.go 2 (R.call true (l02Right_c vs.length a hok (by exact (partsN_two _).2 (by omega)) hl) (by kernel_rfl) rfl (by kernel_rfl) ?_)
            refine R.call true (ih ((rig a).length) (by first | omega | (have hq := lenm_lef hok ((partsN_two _).2 (by omega)); omega) | (simp; omega)) n xs vs (rig a) (by first | rfl | simp) (by first | assumption | exact okm_lef hok ((partsN_two _).2 (by omega)) | exact okm_rig hok ((partsN_two _).2 (by omega)) | exact okm_tail hok (partsN_1 (by omega))) h0 h1 hx (by first | omega | (have hq := lenm_lef hok ((partsN_two _).2 (by omega)); omega) | (simp; omega))) (by kernel_rfl) rfl (by kernel_rfl) ?_
            exact R.go 3 (R.retE (AI (band (gv (mT n) (mU n (bxA xs)) vs (lef a)) (gv (mT n) (mU n (bxA xs)) vs (rig a)))) (by kernel_rfl) (by kernel_rfl) (by first | (apply congrArg AI; first | exact gv_two (mT n) (mU n (bxA xs)) vs hok ‹(a.getD 0 (0, 0)).1 = _› (by omega) | exact gv_one (mT n) (mU n (bxA xs)) vs hok ‹(a.getD 0 (0, 0)).1 = _› (by omega) | exact gv_two (mT n) (mU n (bxA xs)) vs hok (k := 4) (by omega) (by omega) | exact gv_var _ _ _ hok (by omega) | exact gv_bot _ _ _ hok (by omega)) | (exfalso; omega)))
          · refine R.go 5 (R.cond (((a.getD 0 (0, 0)).1) = 3) (by kernel_rfl) (fun c6 => ?_) (fun c6 => ?_))
            · refine R.go 4 (R.call true (l02Left_c vs.length a hok (by exact (partsN_two _).2 (by omega)) hl) (by kernel_rfl) rfl (by kernel_rfl) ?_)
              refine R.call true (ih ((lef a).length) (by first | omega | (have hq := lenm_lef hok ((partsN_two _).2 (by omega)); omega) | (simp; omega)) n xs vs (lef a) (by first | rfl | simp) (by first | assumption | exact okm_lef hok ((partsN_two _).2 (by omega)) | exact okm_rig hok ((partsN_two _).2 (by omega)) | exact okm_tail hok (partsN_1 (by omega))) h0 h1 hx (by first | omega | (have hq := lenm_lef hok ((partsN_two _).2 (by omega)); omega) | (simp; omega))) (by kernel_rfl) rfl (by kernel_rfl) ?_
              refine R.go 2 (R.call true (l02Right_c vs.length a hok (by exact (partsN_two _).2 (by omega)) hl) (by kernel_rfl) rfl (by kernel_rfl) ?_)
              refine R.call true (ih ((rig a).length) (by first | omega | (have hq := lenm_lef hok ((partsN_two _).2 (by omega)); omega) | (simp; omega)) n xs vs (rig a) (by first | rfl | simp) (by first | assumption | exact okm_lef hok ((partsN_two _).2 (by omega)) | exact okm_rig hok ((partsN_two _).2 (by omega)) | exact okm_tail hok (partsN_1 (by omega))) h0 h1 hx (by first | omega | (have hq := lenm_lef hok ((partsN_two _).2 (by omega)); omega) | (simp; omega))) (by kernel_rfl) rfl (by kernel_rfl) ?_
              exact R.go 3 (R.retE (AI (bor (gv (mT n) (mU n (bxA xs)) vs (lef a)) (gv (mT n) (mU n (bxA xs)) vs (rig a)))) (by kernel_rfl) (by kernel_rfl) (by first | (apply congrArg AI; first | exact gv_two (mT n) (mU n (bxA xs)) vs hok ‹(a.getD 0 (0, 0)).1 = _› (by omega) | exact gv_one (mT n) (mU n (bxA xs)) vs hok ‹(a.getD 0 (0, 0)).1 = _› (by omega) | exact gv_two (mT n) (mU n (bxA xs)) vs hok (k := 4) (by omega) (by omega) | exact gv_var _ _ _ hok (by omega) | exact gv_bot _ _ _ hok (by omega)) | (exfalso; omega)))
            · refine R.go 7 (R.call true (l02Left_c vs.length a hok (by exact (partsN_two _).2 (by omega)) hl) (by kernel_rfl) rfl (by kernel_rfl) ?_)
              refine R.call true (ih ((lef a).length) (by first | omega | (have hq := lenm_lef hok ((partsN_two _).2 (by omega)); omega) | (simp; omega)) n xs vs (lef a) (by first | rfl | simp) (by first | assumption | exact okm_lef hok ((partsN_two _).2 (by omega)) | exact okm_rig hok ((partsN_two _).2 (by omega)) | exact okm_tail hok (partsN_1 (by omega))) h0 h1 hx (by first | omega | (have hq := lenm_lef hok ((partsN_two _).2 (by omega)); omega) | (simp; omega))) (by kernel_rfl) rfl (by kernel_rfl) ?_
              refine R.go 3 (R.call true (l02Right_c vs.length a hok (by exact (partsN_two _).2 (by omega)) hl) (by kernel_rfl) rfl (by kernel_rfl) ?_)
              refine R.call true (ih ((rig a).length) (by first | omega | (have hq := lenm_lef hok ((partsN_two _).2 (by omega)); omega) | (simp; omega)) n xs vs (rig a) (by first | rfl | simp) (by first | assumption | exact okm_lef hok ((partsN_two _).2 (by omega)) | exact okm_rig hok ((partsN_two _).2 (by omega)) | exact okm_tail hok (partsN_1 (by omega))) h0 h1 hx (by first | omega | (have hq := lenm_lef hok ((partsN_two _).2 (by omega)); omega) | (simp; omega))) (by kernel_rfl) rfl (by kernel_rfl) ?_
              exact R.go 3 (R.retE (AI (bor (bnot ((shl64 1 n) - 1) (gv (mT n) (mU n (bxA xs)) vs (lef a))) (gv (mT n) (mU n (bxA xs)) vs (rig a)))) (by kernel_rfl) (by kernel_rfl) (by first | (apply congrArg AI; first | exact gv_two (mT n) (mU n (bxA xs)) vs hok ‹(a.getD 0 (0, 0)).1 = _› (by omega) | exact gv_one (mT n) (mU n (bxA xs)) vs hok ‹(a.getD 0 (0, 0)).1 = _› (by omega) | exact gv_two (mT n) (mU n (bxA xs)) vs hok (k := 4) (by omega) (by omega) | exact gv_var _ _ _ hok (by omega) | exact gv_bot _ _ _ hok (by omega)) | (exfalso; omega)))

end Go.Proofs.Ytpalghbfhgimkaa


/-! TruthSet, IsTrueIn, IsTrueAt of both packages; their laws. -/
namespace Go.Proofs.Ytpalghbfhgimkaa
open Go.RowKit Go.Abs

theorem l06TruthT_c (n : Int) (xs vs : List Int) (a : List (Int × Int)) (hF : okFr n xs = true) (hok : OKM vs.length a) (hl : a.length ≤ 1000000000) : CallA Try.prog 31 [.agg [AI n, LI xs, LI vs], LN a] (AI (tset n xs vs a)) := by
  obtain ⟨h0, h8, hx, _⟩ := okFr_rel hF
  have h := l06Truth_c a.length n xs vs a rfl hok h0 h8 (by omega) hl
  rw [bxAB hF] at h
  exact h
def tval (n : Int) (xs vs : List Int) (a : List (Int × Int)) : Int := if mcode n xs vs a = 0 then tset n xs vs a else 0
def tin (n : Int) (xs vs : List Int) (a : List (Int × Int)) : Bool := decide (mcode n xs vs a = 0) && decide (tset n xs vs a = (shl64 1 n) - 1)
def tatC (n : Int) (xs vs : List Int) (w : Int) (a : List (Int × Int)) : Int := if mcode n xs vs a = 0 then (if inR w 0 (n - 1) = true then 0 else 2) else mcode n xs vs a
def tat (n : Int) (xs vs : List Int) (w : Int) (a : List (Int × Int)) : Bool := decide (mcode n xs vs a = 0) && inR w 0 (n - 1) && decide (band (shr64 (tset n xs vs a) w) 1 = 1)
theorem tupI {a b c d : Int} (h : a = c) (h' : b = d) : AV.tup [AI a, AI b] = AV.tup [AI c, AI d] := by rw [h, h']
theorem mcode_bad {n : Int} {xs vs : List Int} {a : List (Int × Int)} (h : okMo n xs vs = false) : mcode n xs vs a = 1 := (mcode_1 h).symm
theorem mcode_bad2 {n : Int} {xs vs : List Int} {a : List (Int × Int)} (h : isF a = false) : mcode n xs vs a = 1 := (mcode_2 h).symm
theorem mcode_good {n : Int} {xs vs : List Int} {a : List (Int × Int)} (h : okMo n xs vs = true) (h2 : isF a = true) : mcode n xs vs a = 0 := (mcode_0 h h2).symm

theorem truthIn_c (n : Int) (xs : List Int) (vs : List Int) (a : List (Int × Int)) (hok : OKM vs.length a) (h0 : 0 ≤ n) (h1 : n ≤ 8) (hx : xs.length ≤ 60) (hl : a.length ≤ 1000000000) : CallA Try.prog 41 [.agg [AI n, LI xs, LI vs], LN a] (AI (tset n xs vs a)) := by
  refine CallA.of Try.func41 rfl (by kernel_rfl) ?_
  refine R.go 12 (R.call true (truthSet_c n xs vs a hok h0 h1 hx hl) (by kernel_rfl) rfl (by kernel_rfl) ?_)
  exact R.go 2 (R.retE (AI (gv (mT n) (mU n (bxB xs)) vs a)) (by kernel_rfl) (by kernel_rfl) (by first | (rfl) | (exfalso; omega)))

theorem TS_impl (n : Int) (xs : List Int) (vs : List Int) (a : List (Int × Int)) (l1 : xs.length ≤ 1048576) (l2 : vs.length ≤ 1048576) (hl : a.length ≤ 1048576) : CallA Try.prog 21 [.agg [AI n, LI xs, LI vs], LN a] (.tup [AI (tval n xs vs a), AI (mcode n xs vs a)]) := by
  refine CallA.of Try.func21 rfl (by kernel_rfl) ?_
  refine R.go 11 (R.call true (modelCode_c n xs vs a (by first | omega | (simp <;> omega)) (by first | omega | (simp <;> omega)) (by first | omega | (simp <;> omega))) (by kernel_rfl) rfl (by kernel_rfl) ?_)
  refine R.go 7 (R.condN ((mcode n xs vs a) = 0) (by kernel_rfl) (fun c1 => ?_) (fun c1 => ?_))
  · exact R.go 6 (R.retE (.tup [AI 0, AI (mcode n xs vs a)]) (by kernel_rfl) (by kernel_rfl) (by first | (refine tupI ?_ ?_ <;> first | (simp [tval, tin, tat, tatC, *]; done) | (have hm := mcode_bad (a := a) ‹okMo n xs vs = false›; simp [tval, tin, tat, tatC, hm]; done) | (have hm := mcode_bad2 (n := n) (xs := xs) (vs := vs) ‹isF a = false›; simp [tval, tin, tat, tatC, hm]; done)) | (exfalso; omega)))
  · have hm : mcode n xs vs a = 0 := by assumption
    have hc1 : okMo n xs vs = true := (mcode_ok hm).1
    have hc2 : isF a = true := (mcode_ok hm).2
    have hM : okFr n xs = true ∧ vs.length = 6 := okMo_fr hc1
    have hF : okFr n xs = true := hM.1
    have hA := isF_okm hc2
    have hR := okFr_rel hF
    have hok : OKM vs.length a := by rw [hM.2]; exact hA.1
    have hb : 0 ≤ n ∧ n ≤ 8 ∧ (xs.length : Int) = n := ⟨hR.1, hR.2.1, hR.2.2.1⟩
    have hal : a.length ≤ 40 := hA.2
    refine R.go 5 (R.call true (truthIn_c n xs vs a hok (by omega) (by omega) (by first | omega | (simp <;> omega)) (by first | omega | (simp <;> omega))) (by kernel_rfl) rfl (by kernel_rfl) ?_)
    exact R.go 3 (R.retE (.tup [AI (tset n xs vs a), AI 0]) (by kernel_rfl) (by kernel_rfl) (by first | (refine tupI ?_ ?_ <;> first | (simp [tval, tin, tat, tatC, *]; done) | (have hm := mcode_bad (a := a) ‹okMo n xs vs = false›; simp [tval, tin, tat, tatC, hm]; done) | (have hm := mcode_bad2 (n := n) (xs := xs) (vs := vs) ‹isF a = false›; simp [tval, tin, tat, tatC, hm]; done)) | (exfalso; omega)))

end Go.Proofs.Ytpalghbfhgimkaa


/-! Members of masks; variables of lists of formulas; which lists are formulas. -/
namespace Go.Proofs.Ytpalghbfhgimkaa
open Go.RowKit Go.Abs

/-- The members of a mask below i. -/
def memN (m : Int) : Nat → List Int
  | 0 => []
  | i + 1 => if tb m i = true then memN m i ++ [(i : Int)] else memN m i
def mem (m : Int) : List Int := memN m 62
/-- The variables of the first formulas. -/
def vmT (l : List (List (Int × Int))) : Nat → Int
  | 0 => 0
  | i + 1 => bor (vmT l i) (vmTo (l.getD i []) (l.getD i []).length)
def allF (l : List (List (Int × Int))) : Bool := !l.any fun a => !isF a
theorem allF_get {l : List (List (Int × Int))} (h : allF l = true) (j : Nat) (hj : j < l.length) : isF (l.getD j []) = true := by
  unfold allF at h
  rw [Bool.not_eq_true', List.any_eq_false] at h
  have h1 : l.getD j [] ∈ l := by
    rw [List.getD_eq_getElem?_getD, List.getElem?_eq_getElem hj, Option.getD_some]
    exact List.getElem_mem hj
  simpa using h _ h1
def fidxF (p : List (Int × Int) → Bool) : List (List (Int × Int)) → Int → Int
  | [], _ => -1
  | x :: l, i => if p x = true then i else fidxF p l (i + 1)
theorem drop_consF (a : List (List (Int × Int))) (j : Nat) (h : j < a.length) : a.drop j = a.getD j [] :: a.drop (j + 1) := by
  rw [List.drop_eq_getElem_cons h, List.getD_eq_getElem?_getD, List.getElem?_eq_getElem h]; rfl
theorem fidxF_hit {p : List (Int × Int) → Bool} {a : List (List (Int × Int))} {i : Nat} (h : i < a.length) (hp : p (a.getD i []) = true) : fidxF p (a.drop i) i = i := by
  rw [drop_consF a i h, fidxF, if_pos hp]
theorem fidxF_miss {p : List (Int × Int) → Bool} {a : List (List (Int × Int))} {i : Nat} (h : i < a.length) (hp : p (a.getD i []) = false) : fidxF p (a.drop i) i = fidxF p (a.drop (i + 1)) ((i + 1 : Nat) : Int) := by
  rw [drop_consF a i h, fidxF, if_neg (by rw [hp]; decide)]
  rfl
theorem fidxF_end {p : List (Int × Int) → Bool} {a : List (List (Int × Int))} {i : Nat} (h : a.length ≤ i) : fidxF p (a.drop i) i = -1 := by
  rw [List.drop_eq_nil_of_le h, fidxF]
theorem fidxF_any {p : List (Int × Int) → Bool} : ∀ {a : List (List (Int × Int))} {i : Int}, 0 ≤ i → (0 ≤ fidxF p a i ↔ a.any p = true)
  | [], i, h => by simp [fidxF]
  | x :: a, i, h => by
    have ih := fidxF_any (p := p) (a := a) (i := i + 1) (by omega)
    rw [fidxF, List.any_cons]
    by_cases hp : p x = true
    · simp [hp, h]
    · rw [if_neg hp, ih]; simp [hp]
/-- The rows of l are short. -/
def shortL (l : List (List (Int × Int))) : Prop := l.length ≤ 1000000000 ∧ ∀ j : Nat, j < l.length → (l.getD j []).length ≤ 1000000000
def notF (a : List (Int × Int)) : Bool := !isF a
theorem areFormulas1_c (a : List (Int × Int)) (hl : a.length ≤ 1000000000) : CallA Try.prog 65 [LN a] (.bool (notF a)) := by
  refine CallA.of Try.func65 rfl (by kernel_rfl) ?_
  refine R.go 7 (R.call true (isFormula_c a hl) (by kernel_rfl) rfl (by kernel_rfl) ?_)
  exact R.go 3 (R.retE (.bool (!(isF a))) (by kernel_rfl) (by kernel_rfl) (by first | (rfl) | (exfalso; omega)))

theorem index_notF_c (l : List (List (Int × Int))) (hs : shortL l) : CallA Try.prog 83 [LLN l, .fn 65 []] (AI (fidxF notF l 0)) := by
  have hl := hs.1
  refine CallA.of Try.func83 rfl (by kernel_rfl) ?_
  refine R.go 12 (R.loop (fun (i : Nat) => (⟨(frm 19 [(0, LLN l), (1, .fn 65 []), (7, AI l.length), (8, AI (i : Int))]), []⟩ : St)) (fun (i : Nat) => (i ≤ l.length) ∧ (fidxF notF l 0 = fidxF notF (l.drop i) i)) (fun (i : Nat) => l.length - i) 0 [0, 1, 7, 8] none (by kernel_rfl) (by kernel_rfl) (by kernel_rfl) ⟨(by omega), (by rfl)⟩ ?_)
  rintro i ⟨h3_1, h3_2⟩ R1 N2
  refine R.go 5 (R.cond ((i : Int) < (l.length : Int)) (by kernel_rfl) (fun c4 => ?_) (fun c4 => ?_))
  · have hj := hs.2 i (by omega)
    refine R.go 13 (R.idx eLN l [] i (i : Int) (by kernel_rfl) rfl eLN_len (by omega) (by kernel_rfl) ?_)
    refine R.go 1 (R.call true (areFormulas1_c (l.getD i []) (by first | omega | (simp <;> omega))) (by kernel_rfl) rfl (by kernel_rfl) ?_)
    refine R.go 1 (R.condB (notF (l.getD i [])) (by kernel_rfl) (fun c5 => ?_) (fun c5 => ?_))
    · exact R.go 5 (R.retE (AI (i : Int)) (by kernel_rfl) (by kernel_rfl) (by first | (apply congrArg AI; rw [‹fidxF notF l 0 = _›]; first | exact (fidxF_end (by omega)).symm | exact (fidxF_hit (by omega) (by assumption)).symm) | (exfalso; omega)))
    · refine R.go 3 (R.ar ((i : Int) + 1) (by kernel_rfl) (by omega) (by omega) (by kernel_rfl) ?_)
      exact R.go 2 (R.stop R1 (by kernel_rfl) (N2 (i + 1) [0, 1, 7, 8] none _ (by kernel_rfl) (by kernel_rfl) ⟨(by omega), (by rw [‹fidxF notF l 0 = _›]; exact fidxF_miss (by omega) (by assumption))⟩ (by show (l.length - (i + 1)) < (l.length - i); omega)))
  · exact R.go 5 (R.retE (AI (-1)) (by kernel_rfl) (by kernel_rfl) (by first | (apply congrArg AI; rw [‹fidxF notF l 0 = _›]; first | exact (fidxF_end (by omega)).symm | exact (fidxF_hit (by omega) (by assumption)).symm) | (exfalso; omega)))

theorem contains_notF_c (l : List (List (Int × Int))) (hs : shortL l) : CallA Try.prog 64 [LLN l, .fn 65 []] (.bool (l.any notF)) := by
  refine CallA.of Try.func64 rfl (by kernel_rfl) ?_
  refine R.go 8 (R.call true (index_notF_c l hs) (by kernel_rfl) rfl (by kernel_rfl) ?_)
  exact R.go 3 (R.retE (.bool (decide ((fidxF notF l 0) ≥ 0))) (by kernel_rfl) (by kernel_rfl) (by first | (apply congrArg AV.bool; rw [Bool.eq_iff_iff, decide_eq_true_iff]; exact fidxF_any (Int.le_refl 0)) | (exfalso; omega)))

theorem areFormulas_c (l : List (List (Int × Int))) (hs : shortL l) : CallA Try.prog 39 [LLN l] (.bool (allF l)) := by
  refine CallA.of Try.func39 rfl (by kernel_rfl) ?_
  refine R.go 7 (R.call true (contains_notF_c l hs) (by kernel_rfl) rfl (by kernel_rfl) ?_)
  exact R.go 3 (R.retE (.bool (!(l.any notF))) (by kernel_rfl) (by kernel_rfl) (by first | (rfl) | (exfalso; omega)))

end Go.Proofs.Ytpalghbfhgimkaa


/-! Valuations on frames; validity. -/
namespace Go.Proofs.Ytpalghbfhgimkaa
open Go.RowKit Go.Abs

/-- The value of variable j in the valuation N. -/
def vat (n : Int) (vs : List Int) (N : Int) (j : Nat) : Int := if (j : Int) ∈ vs then band (shr64 N (n * ((vs.length : Int) - 1 - (vs.idxOf (j : Int) : Int)))) ((shl64 1 n) - 1) else 0
def vrow (n : Int) (vs : List Int) (N : Int) : List Int := (List.range 6).map (vat n vs N)
/-! From the end on. -/
/-! The first number of which p holds. -/
def fstN (p : Nat → Bool) (t : Nat) : Option Nat := (List.range t).find? p
/-- The truth set of a formula in the model with the number N. -/
def tv (n : Int) (xs vs : List Int) (a : List (Int × Int)) (N : Nat) : Int := gv (mT n) (mU n (bxB xs)) (vrow n vs (N : Int)) a
def badV (n : Int) (xs vs : List Int) (a : List (Int × Int)) (N : Nat) : Bool := !decide (tv n xs vs a N = (shl64 1 n) - 1)
def totN (n : Int) (vs : List Int) : Nat := (shl64 1 (n * (vs.length : Int))).toNat
def fstV (n : Int) (xs vs : List Int) (a : List (Int × Int)) : Option Nat := fstN (badV n xs vs a) (totN n vs)

end Go.Proofs.Ytpalghbfhgimkaa


/-! Bits of meets, differences and boxes; truth sets stay within the worlds. -/
namespace Go.Proofs.Ytpalghbfhgimkaa
open Go.RowKit Go.Abs

theorem tb_nat (a i : Nat) : tb (a : Int) i = a.testBit i := rfl
theorem inM_band {n : Nat} {a b : Int} (hn : n ≤ 61) (ha : InM n a) (hb : InM n b) : InM n (band a b) := by
  obtain ⟨a, rfl, ha'⟩ := inM_nat ha
  obtain ⟨b, rfl, hb'⟩ := inM_nat hb
  rw [band_nat (inM_62 hn ha') (inM_62 hn hb')]
  exact ⟨Int.natCast_nonneg _, by rw [Int.toNat_natCast]; exact Nat.and_lt_two_pow _ hb'⟩
theorem tb_band {n : Nat} {a b : Int} (hn : n ≤ 61) (ha : InM n a) (hb : InM n b) (i : Nat) : tb (band a b) i = (tb a i && tb b i) := by
  obtain ⟨a, rfl, ha'⟩ := inM_nat ha
  obtain ⟨b, rfl, hb'⟩ := inM_nat hb
  rw [band_nat (inM_62 hn ha') (inM_62 hn hb'), tb_nat, tb_nat, tb_nat, Nat.testBit_and]
theorem bnot_nat {a b : Nat} (ha : a < 2 ^ 62) (hb : b < 2 ^ 62) : ∃ c : Nat, bnot (a : Int) (b : Int) = (c : Int) ∧ c ≤ a ∧ ∀ i, c.testBit i = (a.testBit i && !b.testBit i) := by
  have hx : (BitVec.ofNat 64 a &&& ~~~ BitVec.ofNat 64 b).toNat ≤ a := by
    rw [BitVec.toNat_and, toNat_lt ha]
    exact Nat.and_le_left
  refine ⟨(BitVec.ofNat 64 a &&& ~~~ BitVec.ofNat 64 b).toNat, ?_, hx, fun i => ?_⟩
  · rw [bnot_bv, bv_nat, bv_nat, toInt_lt (Nat.lt_of_le_of_lt hx ha)]
  · rw [BitVec.testBit_toNat, BitVec.getLsbD_and, BitVec.getLsbD_not, BitVec.getLsbD_ofNat, BitVec.getLsbD_ofNat]
    by_cases hi : i < 64
    · simp [hi]
    · have h1 : a.testBit i = false := Nat.testBit_lt_two_pow (Nat.lt_of_lt_of_le ha (Nat.pow_le_pow_right (by decide) (by omega)))
      simp [hi, h1]
theorem inM_bnot {n : Nat} {a b : Int} (hn : n ≤ 61) (ha : InM n a) (hb : InM n b) : InM n (bnot a b) := by
  obtain ⟨a, rfl, ha'⟩ := inM_nat ha
  obtain ⟨b, rfl, hb'⟩ := inM_nat hb
  obtain ⟨c, h1, h2, _⟩ := bnot_nat (inM_62 hn ha') (inM_62 hn hb')
  rw [h1]
  exact ⟨Int.natCast_nonneg _, by rw [Int.toNat_natCast]; omega⟩
theorem tb_bnot {n : Nat} {a b : Int} (hn : n ≤ 61) (ha : InM n a) (hb : InM n b) (i : Nat) : tb (bnot a b) i = (tb a i && !tb b i) := by
  obtain ⟨a, rfl, ha'⟩ := inM_nat ha
  obtain ⟨b, rfl, hb'⟩ := inM_nat hb
  obtain ⟨c, h1, _, h3⟩ := bnot_nat (inM_62 hn ha') (inM_62 hn hb')
  rw [h1, tb_nat, tb_nat, tb_nat, h3]
theorem full_nat {n : Nat} (hn : n ≤ 61) : (shl64 1 (n : Int)) - 1 = ((2 ^ n - 1 : Nat) : Int) := by
  rw [shl_nat (by omega)]
  have := Nat.two_pow_pos n
  omega
theorem inM_full {n : Nat} (hn : n ≤ 61) : InM n ((shl64 1 (n : Int)) - 1) := by
  rw [full_nat hn]
  have := Nat.two_pow_pos n
  exact ⟨Int.natCast_nonneg _, by rw [Int.toNat_natCast]; omega⟩
theorem tb_full {n : Nat} (hn : n ≤ 61) (i : Nat) : tb ((shl64 1 (n : Int)) - 1) i = decide (i < n) := by
  rw [full_nat hn, tb_nat, Nat.testBit_two_pow_sub_one]
theorem boxB_ok {n : Nat} {xs : List Int} {m : Int} (hn : n ≤ 61) (h : RelOK n xs) (hm : InM n m) : ∀ i, i ≤ n → InM n (boxB xs m i) ∧ ∀ k, tb (boxB xs m i) k = true ↔ k < i ∧ ∀ j, tb (xs.getD k 0) j = true → tb m j = true
  | 0, _ => ⟨inM_zero n, fun k => by simp [boxB, tb_zero]⟩
  | i + 1, hi => by
    obtain ⟨h1, h2⟩ := boxB_ok hn h hm i (by omega)
    have hb := bnot_sub hn (h.2 i (by omega)) hm
    have hI := inM_one (n := n) hn (show i < n by omega)
    simp only [boxB]
    split
    · rename_i hc
      refine ⟨inM_bor hn h1 hI, fun k => ?_⟩
      rw [tb_bor hn h1 hI, Bool.or_eq_true, h2 k, tb_one (by omega), decide_eq_true_iff]
      constructor
      · rintro (⟨a, b⟩ | rfl)
        · exact ⟨by omega, b⟩
        · exact ⟨by omega, hb.1 hc⟩
      · rintro ⟨a, b⟩
        by_cases hki : i = k
        · exact .inr hki
        · exact .inl ⟨by omega, b⟩
    · rename_i hc
      refine ⟨h1, fun k => ?_⟩
      rw [h2 k]
      constructor
      · rintro ⟨a, b⟩; exact ⟨by omega, b⟩
      · rintro ⟨a, b⟩
        by_cases hki : k = i
        · subst hki; exact absurd (hb.2 b) hc
        · exact ⟨by omega, b⟩

end Go.Proofs.Ytpalghbfhgimkaa


/-! Values of formulas that keep within a set; words that agree on a set. -/
namespace Go.Proofs.Ytpalghbfhgimkaa
open Go.RowKit Go.Abs

section
variable {G : Int → Prop} {b : Int → Int → Int → Int} {u u' : Int → Int → Int} {vs : List Int}
/-- On values within G two words agree, and stay within G. -/
theorem stkg_in (g0 : G 0) (hb : ∀ k p q, G p → G q → G (b k p q)) (hu : ∀ k p, (k = 5 ∨ k = 6) → G p → G (u k p) ∧ u k p = u' k p) :
    ∀ {l : List (Int × Int)} {o : Nat}, (∀ x ∈ l, 0 ≤ x.1 ∧ x.1 ≤ 6 ∧ (x.1 = 0 → G (vs.getD x.2.toNat 0))) → pe o l = some l.length → (∀ v ∈ stkG b u vs l, G v) ∧ stkG b u vs l = stkG b u' vs l
  | [], _, _, _ => ⟨fun v hv => by simp [stkG] at hv, rfl⟩
  | x :: l, 0, _, h => by rw [pe_zero] at h; cases h
  | x :: l, o + 1, hx, h => by
    obtain ⟨k, hk, h⟩ := pe_cons h
    have h' : pe (o + partsN x.1) l = some l.length := by rw [h]; congr 1; simpa using hk.symm
    obtain ⟨i1, i2⟩ := stkg_in g0 hb hu (fun y hy => hx y (List.mem_cons_of_mem _ hy)) h'
    obtain ⟨ws, w1, w2⟩ := stkg_parts b u vs (fun y hy => ⟨(hx y (List.mem_cons_of_mem _ hy)).1, (hx y (List.mem_cons_of_mem _ hy)).2.1⟩) h'
    have hw : stkG b u vs l = ws := by unfold stkG; rw [w2, List.append_nil]
    have hx0 := hx x (List.mem_cons_self ..)
    have e1 : ∀ f : Int → Int → Int, stkG b f vs (x :: l) = stepG b f vs x (stkG b f vs l) := fun _ => rfl
    rw [e1, e1, ← i2, hw]
    rw [hw] at i1
    have hc : x.1 = 0 ∨ x.1 = 1 ∨ (x.1 = 2 ∨ x.1 = 3 ∨ x.1 = 4) ∨ (x.1 = 5 ∨ x.1 = 6) := by omega
    rcases hc with hc | hc | hc | hc
    · rw [stepG_var _ _ _ hc, stepG_var _ _ _ hc]
      exact ⟨fun v hv => by rcases List.mem_cons.1 hv with rfl | hv; exact hx0.2.2 hc; exact i1 v hv, rfl⟩
    · rw [stepG_bot _ _ _ hc, stepG_bot _ _ _ hc]
      exact ⟨fun v hv => by rcases List.mem_cons.1 hv with rfl | hv; exact g0; exact i1 v hv, rfl⟩
    · rw [(partsN_two _).2 hc] at w1
      match ws, w1, i1 with
      | p :: q :: ws, _, i1 =>
        rw [stepG_two _ _ _ hc, stepG_two _ _ _ hc]
        exact ⟨fun v hv => by rcases List.mem_cons.1 hv with rfl | hv; exact hb _ _ _ (i1 p (by simp)) (i1 q (by simp)); exact i1 v (by simp [hv]), rfl⟩
    · rw [partsN_1 hc] at w1
      match ws, w1, i1 with
      | p :: ws, _, i1 =>
        rw [stepG_one _ _ _ hc, stepG_one _ _ _ hc]
        have hp := hu x.1 p hc (i1 p (by simp))
        exact ⟨fun v hv => by rcases List.mem_cons.1 hv with rfl | hv; exact hp.1; exact i1 v (by simp [hv]), by rw [hp.2]⟩
theorem gv_in {nv : Nat} {a : List (Int × Int)} (h : OKM nv a) (g0 : G 0) (hv : ∀ j : Nat, j < nv → G (vs.getD j 0)) (hb : ∀ k p q, G p → G q → G (b k p q)) (hu : ∀ k p, (k = 5 ∨ k = 6) → G p → G (u k p) ∧ u k p = u' k p) : G (gv b u vs a) ∧ gv b u vs a = gv b u' vs a := by
  obtain ⟨h1, h2⟩ := stkg_in (vs := vs) g0 hb hu (fun x hx => ⟨(h.2 x hx).1, (h.2 x hx).2.1, fun h0 => hv _ (by have := (h.2 x hx).2.2 h0; omega)⟩) h.1
  refine ⟨?_, by unfold gv; rw [h2]⟩
  have h3 : stkG b u vs a = [gv b u vs a] := by
    have := okm_stk b u vs h []
    simpa [stkG] using this
  exact h1 _ (by rw [h3]; simp)
end

end Go.Proofs.Ytpalghbfhgimkaa


/-! Searches on frames: codes, valuations of the reference, first refutations, refuting worlds. -/
namespace Go.Proofs.Ytpalghbfhgimkaa
open Go.RowKit Go.Abs

def scode (n : Int) (xs : List Int) (l : List (List (Int × Int))) : Int := if okFr n xs = true ∧ allF l = true then (if n * ((mem (vmT l l.length)).length : Int) > 16 then 3 else 0) else 1
def frC (n : Int) (xs : List Int) (a : List (Int × Int)) : Int := if scode n xs [a] = 0 then (if (fstV n xs (mem (vmT [a] [a].length)) a).isSome = true then 0 else 4) else scode n xs [a]
theorem nn_eq {n : Int} (h0 : 0 ≤ n) : ((n.toNat : Nat) : Int) = n := by omega
theorem mT_in {n : Int} (h0 : 0 ≤ n) (h8 : n ≤ 8) {k p q : Int} (hp : InM n.toNat p) (hq : InM n.toNat q) : InM n.toNat (mT n k p q) := by
  have hn : n.toNat ≤ 61 := by omega
  have hf := inM_full (n := n.toNat) hn
  rw [nn_eq h0] at hf
  unfold mT
  split
  · exact inM_band hn hp hq
  · split
    · exact inM_bor hn hp hq
    · exact inM_bor hn (inM_bnot hn hf hp) hq
theorem bxB_in {n : Int} {xs : List Int} (hR : okFr n xs = true) {m : Int} (hm : InM n.toNat m) : InM n.toNat (bxB xs m) := by
  obtain ⟨h0, h8, hl, hr⟩ := okFr_rel hR
  exact (boxB_ok (by omega) hr hm xs.length (by omega)).1
theorem mU_in {n : Int} {xs : List Int} (hR : okFr n xs = true) {k p : Int} (hp : InM n.toNat p) : InM n.toNat (mU n (bxB xs) k p) := by
  obtain ⟨h0, h8, hl, hr⟩ := okFr_rel hR
  have hn : n.toNat ≤ 61 := by omega
  have hf := inM_full (n := n.toNat) hn
  rw [nn_eq h0] at hf
  unfold mU
  split
  · exact bxB_in hR hp
  · exact inM_bnot hn hf (bxB_in hR (inM_bnot hn hf hp))
theorem tset_in {n : Int} {xs X : List Int} {a : List (Int × Int)} (hR : okFr n xs = true) (ha : OKM 6 a) (hX : ∀ j : Nat, j < 6 → InM n.toNat (X.getD j 0)) : InM n.toNat (tset n xs X a) := by
  obtain ⟨h0, h8, _, _⟩ := okFr_rel hR
  exact (gv_in (G := InM n.toNat) (u' := mU n (bxB xs)) ha (inM_zero _) hX (fun k p q hp hq => mT_in h0 h8 hp hq) (fun k p _ hp => ⟨mU_in hR hp, rfl⟩)).1
end Go.Proofs.Ytpalghbfhgimkaa


/-! Calls by reference whose caller's frame does not name one object (a row that the call may move). -/
namespace Go.Abs
open Go.RowKit Go.ChangeShapes Go.WideShapes Go.Deep

mutual
theorem AV.kill_ren {js : List Nat} {q q2 : Nat} (h : ∀ i, js.contains i = true → js.idxOf i = q → i = q2) : ∀ c : AV, c.kill q2 = c → (c.ren js).kill q = c.ren js
  | .int _ _, _ => rfl
  | .bool _, _ => rfl
  | .str _, _ => rfl
  | .nil, _ => rfl
  | .top, _ => rfl
  | .own _ _ _ _, _ => rfl
  | .lst _ _ _, _ => rfl
  | .clp _ _ _, _ => rfl
  | .nam _ _ _ _ _, _ => rfl
  | .rptr _, _ => rfl
  | .ref i, hk => by
    simp only [AV.kill, AV.ren] at hk ⊢
    split at hk
    · cases hk
    · rename_i hne
      cases hc : js.contains i with
      | true =>
        simp only [if_true, AV.kill]
        rw [if_neg fun e => hne (h i hc e)]
      | false => simp [AV.kill]
  | .ptr i o, hk => by
    simp only [AV.kill, AV.ren] at hk ⊢
    split at hk
    · cases hk
    · rename_i hne
      cases hc : js.contains i with
      | true =>
        simp only [if_true, AV.kill]
        rw [if_neg fun e => hne (h i hc e)]
      | false => simp [AV.kill]
  | .agg cs, hk => by
    simp only [AV.kill, AV.agg.injEq] at hk
    simp only [AV.ren, AV.kill, killL_ren h cs hk]
  | .tup cs, hk => by
    simp only [AV.kill, AV.tup.injEq] at hk
    simp only [AV.ren, AV.kill, killL_ren h cs hk]
  | .fn f cs, hk => by
    simp only [AV.kill, AV.fn.injEq, true_and] at hk
    simp only [AV.ren, AV.kill, killL_ren h cs hk]
theorem killL_ren {js : List Nat} {q q2 : Nat} (h : ∀ i, js.contains i = true → js.idxOf i = q → i = q2) : ∀ cs : List AV, killL q2 cs = cs → killL q (renL js cs) = renL js cs
  | [], _ => rfl
  | c :: cs, hk => by
    simp only [killL, List.cons.injEq] at hk
    simp only [renL, killL, AV.kill_ren h c hk.1, killL_ren h cs hk.2]
end
theorem killL_app (q : Nat) : ∀ xs ys : List AV, killL q (xs ++ ys) = killL q xs ++ killL q ys
  | [], _ => rfl
  | x :: xs, ys => by simp [killL, killL_app q xs ys]
theorem insI_kill {k n q : Nat} (hk : k ≤ n) : ∀ i, (insI k n).contains i = true → (insI k n).idxOf i = q → i = (if q < k then q else q + 1) := fun i hi hq => by
  obtain ⟨_, g2⟩ := insI_idx hk hi
  rw [hq] at g2
  exact g2

def CallY (P : Program) (q : Nat) (f : FuncId) (args : List AV) (hp : List AObj) (Φ : AV → List AObj → Prop) : Prop :=
  Enters P f ∧ ∀ (Z0 F : Nat → Prop) (w0 w : World) (μ vs us : List Value) (fr : List AV), (∀ b, F b → w0.heap.size ≤ b ∧ b < w.heap.size) → HRel w (Zone Z0 F w0.heap.size) w0.heap.size μ hp → RelL w (Zone Z0 F w0.heap.size) μ args vs → RelL w (Zone Z0 F w0.heap.size) μ fr us → Below w0.heap.size w0 w → killL q fr = fr →
    Calls P f vs.toArray w fun e w' => ∃ v μ' F' res hp', Φ res hp' ∧ e = .returned v ∧ (∀ b, F' b → w0.heap.size ≤ b ∧ b < w'.heap.size) ∧ HRel w' (Zone Z0 F' w0.heap.size) w0.heap.size μ' hp' ∧ Rel w' (Zone Z0 F' w0.heap.size) μ' res v ∧ RelL w' (Zone Z0 F' w0.heap.size) μ' fr us ∧ Below w0.heap.size w0 w'

section
variable {rd : Option Nat} {P : Program} {m : M} {Q : Exit → St → Prop}
theorem CallY.ofF {q : Nat} {f : FuncId} {fn : Func} {c : Code} {args : List AV} {hp : List AObj} {Φ : AV → List AObj → Prop} (hf : P.funcs[f]? = some fn) (hb : fn.body = some c) (hnm : (fn.name == "runtime.NumGoroutine") = false)
    (h : ∀ us fr, Fits hp.length fr → killL q fr = fr → Runs none P ⟨[.code c], ⟨frameOf fn.ntmps args, hp ++ [.frame us fr]⟩⟩ (retX P fn hp.length us fr Φ)) : CallY P q f args hp Φ := by
  refine ⟨enters_of hf hnm (by rw [hb]; rfl), ?_⟩
  intro Z0 F w0 w μ vs us fr hFb hH hvs hus hbel hkq
  have hml := hH.len
  have hfit : Fits hp.length fr := ⟨fun js hjs => RelL.fitR (by rw [hml]; exact hjs) hus, fun i hi => RelL.fitK (by rw [hml]; exact hi) hus, fun i r hi => RelL.fitF (by rw [hml]; exact hi) hus⟩
  · have hlen := hvs.length
    refine calls_of_wpIn hf hb ?_
    have hS : Sim Z0 w0 ⟨frameOf fn.ntmps args, hp ++ [.frame us fr]⟩ { tmps := vs.toArray ++ Array.replicate (fn.ntmps - vs.toArray.size) undef, defers := [] } w := by
      refine ⟨μ ++ [.bool false], F, hFb, hH.extend1 (zone_new hbel.size hFb) (Below.refl _ _) ?_ (fun g hg => by simp [blk] at hg) rfl, ?_, .inl rfl, hbel⟩
      · exact RelL.keep (w := w) (fun _ _ _ => rfl) (fun i u hu => append_old i u hu) hus
      · simp only [Array.toList_append, Array.toList_replicate, List.size_toArray, hlen, frameOf]
        refine RelL.append (RelL.keep (w := w) (fun _ _ _ => rfl) (fun i u hu => append_old i u hu) hvs) ?_
        generalize fn.ntmps - args.length = n
        induction n with
        | zero => exact RelL.nil
        | succ n ih => exact RelL.cons (by simp [Rel]) ih
    have hrun2 := h us fr hfit hkq
    simp only [runs_iff] at hrun2
    simp only [RunsK] at hrun2
    refine wpIn_mono (hrun2 Z0 w0 _ w hS) ?_
    have fin : ∀ (e : Exit) (st' : St) (a' : Act) (w' : World), retX P fn hp.length us fr Φ e st' → Sim Z0 w0 st' a' w' → a'.defers = [] ∧ ∃ v, (results fn a'.tmps).run P w' = .ok v w' ∧ ∃ v' μ' F' res hp', Φ res hp' ∧ Ending.returned v = .returned v' ∧ (∀ b, F' b → w0.heap.size ≤ b ∧ b < w'.heap.size) ∧ HRel w' (Zone Z0 F' w0.heap.size) w0.heap.size μ' hp' ∧ Rel w' (Zone Z0 F' w0.heap.size) μ' res v' ∧ RelL w' (Zone Z0 F' w0.heap.size) μ' fr us ∧ Below w0.heap.size w0 w' := by
      rintro e st' a' w' ⟨res, hp', hΦ, _, hres, hfr, hh⟩ ⟨μ', F', hFb', hH', hF', hd', hbel'⟩
      obtain ⟨x, h1, h2⟩ := resIn_run hH' hF' hres
      unfold frameAt at hfr
      split at hfr
      · rename_i us2 fr2 hi
        cases hfr
        have hil : hp.length < μ'.length := by rw [hH'.len]; exact (List.getElem?_eq_some_iff.1 hi).1
        have hfrr : RelL w' (Zone Z0 F' w0.heap.size) μ' fr us := hH'.obj _ _ _ hi (List.getElem?_eq_getElem hil)
        exact ⟨hd'.none (resIn_mark hres), x, h1, x, μ', F', res, hp', hΦ, rfl, hFb', hh ▸ hH'.bury _, h2, hfrr, hbel'⟩
      · cases hfr
    rintro e a' w' ⟨st', hq, hS'⟩
    cases e with
    | normal => exact fin _ st' a' w' hq hS'
    | ret => exact fin _ st' a' w' hq hS'
    | exit id => (obtain ⟨_, _, _, hq, _⟩ := hq; exact absurd hq (by simp))
    | goto l => (obtain ⟨_, _, _, hq, _⟩ := hq; exact absurd hq (by simp))
    | panic ch => (obtain ⟨_, _, _, hq, _⟩ := hq; exact absurd hq (by simp))
    | outgrown => (obtain ⟨_, _, _, hq, _⟩ := hq; exact absurd hq (by simp))
end
section
variable {P : Program}
theorem CallY.dropE {P : Program} {q : Nat} {f : FuncId} {args : List AV} {hp : List AObj} {Φ : AV → List AObj → Prop} (hc : CallY P q f args hp fun r h => ∃ js : List Nat, js.take hp.length = List.range hp.length ∧ js.Nodup ∧ Φ (r.ren js) (renH js h)) :
    CallY P q f args hp Φ := by
  obtain ⟨hen, hc⟩ := hc
  refine ⟨hen, ?_⟩
  intro Z0 F w0 w μ vs us fr hFb hH hvs hus hbel hkq
  refine (hc Z0 F w0 w μ vs us fr hFb hH hvs hus hbel hkq).mono ?_
  rintro e w' ⟨v, μ1, F1, res, hp', ⟨js, h1, h2, hΦ⟩, rfl, hF1, hH1, hres, hfr1, hb1⟩
  have hm1 := hH1.len
  have hjs : ∀ i, i < hp.length → js[i]? = some i := by
    intro i hi
    have := congrArg (fun l : List Nat => l[i]?) h1
    simp only [List.getElem?_take, if_pos hi] at this
    rw [this]
    simp [hi]
  refine ⟨v, _, F1, _, _, hΦ, rfl, hF1, hH1.ren js h2, Rel.ren js hres, ?_, hb1⟩
  refine RelL.mix (n := hp.length) ?_ ?_ hus (hfr1.ren (List.range hp.length))
  · intro i x hi hx
    rw [List.getElem?_map, hjs i hi]
    rw [List.getElem?_map] at hx
    simpa [hi] using hx
  · intro i x hi hx
    have h4 := (List.getElem?_eq_some_iff.1 hx).1
    have h5 := hH.len
    omega
theorem CallY.inF {q : Nat} {f : FuncId} {args : List AV} {hp : List AObj} {Φ : AV → List AObj → Prop} (k : Nat) (us2 : List Value) (fr2 : List AV) (hc : CallY P q f args hp Φ) (hk : k ≤ hp.length)
    (h1 : renH (insI k hp.length) (insF k us2 fr2 hp) = hp) (h2 : renL (insI k hp.length) (renL (insJ k hp.length) args) = args) (h3 : ∀ r h', Φ r h' → hp.length ≤ h'.length) (q2 : Nat) (hq2 : q2 = if q < k then q else q + 1) (hkf : killL q2 fr2 = fr2) :
    CallY P q2 f (renL (insJ k hp.length) args) (insF k us2 fr2 hp) fun r h => ∃ res hp', Φ res hp' ∧ r = res.ren (insJ k hp'.length) ∧ h = insF k us2 fr2 hp' := by
  obtain ⟨hen, hc⟩ := hc
  refine ⟨hen, ?_⟩
  intro Z0 F w0 w μ vs us fr hFb hH hvs hus hbel hkq
  have hHl : (insF k us2 fr2 hp).length = hp.length + 1 := by
    unfold insF renH insJ
    simp
    omega
  have hml : μ.length = hp.length + 1 := by rw [hH.len, hHl]
  have hH0 := hH.ren (insI k hp.length) (insI_nodup hk)
  have e0 : ((insI k hp.length).map fun i => ((insF k us2 fr2 hp).getD i .dead).ren (insI k hp.length)) = hp := h1
  rw [e0] at hH0
  have hvs0 := hvs.ren (insI k hp.length)
  rw [h2] at hvs0
  have hn2 : (insF k us2 fr2 hp)[k]? = some (.frame us2 fr2) := by
    unfold insF
    rw [List.getElem?_set_self]
    have : (renH (insJ k hp.length) (hp ++ [.dead])).length = hp.length + 1 := by unfold renH insJ; simp; omega
    omega
  obtain ⟨u, hu⟩ : ∃ u, μ[k]? = some u := ⟨_, List.getElem?_eq_getElem (by omega)⟩
  have hf2 : RelL w (Zone Z0 F w0.heap.size) μ fr2 us2 := hH.obj _ _ u hn2 hu
  have hus0 := (hus.append hf2).ren (insI k hp.length)
  refine (hc Z0 F w0 w _ vs (us ++ us2) _ hFb hH0 hvs0 hus0 hbel (killL_ren (q2 := q2) (fun i hi e => by rw [hq2]; exact insI_kill hk i hi e) _ (by rw [killL_app, hkq, hkf]))).mono ?_
  rintro e w' ⟨v, μ1, F1, res, hp', hΦ, rfl, hF1, hH1, hres, hfr1, hb1⟩
  have h3 := h3 _ _ hΦ
  have hm1 := hH1.len
  have hHd := hH1.addDead u (hH.one _ u hu)
  have hH2 := hHd.ren (insJ k hp'.length) (insJ_nodup (by omega))
  obtain ⟨μ2, hμ2⟩ : ∃ μ2, μ2 = ((insJ k hp'.length).map fun i => (μ1 ++ [u]).getD i (.bool false)) := ⟨_, rfl⟩
  have hA : ∀ (i : Nat) x, (insI k hp.length).contains i = true → μ1[(insI k hp.length).idxOf i]? = some x → μ2[i]? = some x := by
    intro i x hi hx
    obtain ⟨g1, g2⟩ := insI_idx hk hi
    generalize (insI k hp.length).idxOf i = j at g1 g2 hx
    have hj : (insJ k hp'.length)[i]? = some j := by
      split at g2
      · rw [g2]; exact insJ_lo (by assumption)
      · rw [g2]; exact insJ_hi (by omega) (by omega)
    rw [hμ2, List.getElem?_map, hj]
    simp only [Option.map_some, List.getD_eq_getElem?_getD]
    rw [List.getElem?_append_left (List.getElem?_eq_some_iff.1 hx).1, hx]
    rfl
  have hB : ∀ (i : Nat) x, (insI k hp.length).contains i = false → μ[i]? = some x → μ2[i]? = some x := by
    intro i x hi hx
    have hlt := (List.getElem?_eq_some_iff.1 hx).1
    have hin : i = k := by
      refine Classical.byContradiction fun hne => ?_
      have := insI_mem hk (i := i) (by omega) hne
      rw [this] at hi
      cases hi
    subst hin
    rw [hu] at hx
    rw [hμ2, List.getElem?_map, insJ_at]
    simp only [Option.map_some, List.getD_eq_getElem?_getD]
    rw [List.getElem?_append_right (by omega), hm1]
    simpa using hx
  rw [← hμ2] at hH2
  have hall := RelL.mixJ hA hB (hus.append hf2) hfr1
  have hul := hus.length
  have hfr : RelL w' (Zone Z0 F1 w0.heap.size) μ2 fr us := by
    have := hall.take fr.length
    rwa [List.take_left, ← hul, List.take_left] at this
  have hfr2 : RelL w' (Zone Z0 F1 w0.heap.size) μ2 fr2 us2 := by
    have := hall.drop fr.length
    rwa [List.drop_left, ← hul, List.drop_left] at this
  refine ⟨v, μ2, F1, _, _, ⟨res, hp', hΦ, rfl, rfl⟩, rfl, hF1, ?_, ?_, hfr, hb1⟩
  · refine hH2.frameAt ?_ hfr2
    rw [List.getElem?_map, insJ_at]
    simp [AObj.ren]
  · rw [hμ2]
    exact Rel.ren _ (Rel.keep (w := w') (fun _ _ _ => rfl) (fun i u hu => append_old i u hu) hres)
end
end Go.Abs


/-! The machine's rules: pairs of numbers are compared. -/
namespace Go.Abs
open Go.RowKit

section
variable {rd : Option Nat} {P : Program} {m : M} {Q : Exit → St → Prop}
theorem OpsQ.val {all : Array Oper} {o : Oper} {l : List Oper} {fr : List AV} {hp : List AObj} {R : Exit → St → Prop} {b : AV} (hw : WantedA all o fr) (hcall : ∀ c, o.op ≠ .defer c)
    (hrun : ∀ (Z : Nat → Prop) (μ : List Value) (a : Act) (w : World), RelL w Z μ fr a.tmps.toList → ∃ v, (execOp a.eval o).run P w = .ok (.value v) w ∧ Rel w Z μ b v) (h' : OpsQ rd P all l ⟨putF fr o.dst b, hp⟩ R) : OpsQ rd P all (o :: l) ⟨fr, hp⟩ R := by
  intro Z0 w0 a w hS
  obtain ⟨μ, F, hFb, hH, hF, hd, hbel⟩ := hS
  refine wpListIn_step fun K hK => ?_
  rw [wanted_rel hF hw, if_pos rfl]
  obtain ⟨v, hr, hv⟩ := hrun _ μ a w hF
  refine wpIn_of_run (fun c' h => hcall _ h) ?_
  rw [hr]
  exact hK _ _ (h' Z0 w0 _ w ⟨μ, F, hFb, hH, put_rel hF _ hv, by rw [put_defers']; exact hd, hbel⟩)

end
end Go.Abs
