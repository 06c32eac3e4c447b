/- Texts of the proof: Q06, H03, Q07, P04, SymW. -/
import Derived.Test.YtpalghbfhgimkaaPartE

/-! Models: truth sets of both packages. -/
namespace Go.Proofs.Ytpalghbfhgimkaa
open Go.RowKit Go.Abs

def okMo (n : Int) (xs vs : List Int) : Bool := okFr n xs && decide (vs.length = 6) && !vs.any fun m => !inR m 0 ((shl64 1 n) - 1)
theorem okMo_1 {n : Int} {xs vs : List Int} (h : okFr n xs = false) : okMo n xs vs = false := by simp [okMo, h]
theorem okMo_2 {n : Int} {xs vs : List Int} (h : ¬ (vs.length : Int) = 6) : okMo n xs vs = false := by
  have h : ¬ vs.length = 6 := by omega
  simp [okMo, h]
theorem okMo_3 {n : Int} {xs vs : List Int} (h : okFr n xs = true) (h2 : (vs.length : Int) = 6) : okMo n xs vs = !vs.any fun m => !inR m 0 ((shl64 1 n) - 1) := by
  have h2 : vs.length = 6 := by omega
  simp [okMo, h, h2]
theorem okMo_out {n : Int} {xs vs : List Int} (h : okFr n xs = true) (h2 : (vs.length : Int) = 6) : (!vs.any (outR n)) = okMo n xs vs := by
  rw [okMo_3 h h2]
  obtain ⟨h0, h8, _⟩ := okFr_rel h
  have e : outR n = fun m => !inR m 0 ((shl64 1 n) - 1) := by
    funext m
    rw [outR, (inR_iff n 0 30).2 (by omega), Bool.true_and]
  rw [e]
theorem okMo_fr {n : Int} {xs vs : List Int} (h : okMo n xs vs = true) : okFr n xs = true ∧ vs.length = 6 := by
  simp only [okMo, Bool.and_eq_true, decide_eq_true_eq] at h
  exact h.1
/-- The words of modal formulas. -/
def mT (n : Int) (k p q : Int) : Int := if k = 2 then band p q else if k = 3 then bor p q else bor (bnot ((shl64 1 n) - 1) p) q
def mU (n : Int) (bx : Int → Int) (k p : Int) : Int := if k = 5 then bx p else bnot ((shl64 1 n) - 1) (bx (bnot ((shl64 1 n) - 1) p))
def bxA (xs : List Int) (m : Int) : Int := boxA xs m xs.length
def bxB (xs : List Int) (m : Int) : Int := boxB xs m xs.length
theorem bxAB {n : Int} {xs : List Int} (h : okFr n xs = true) : bxA xs = bxB xs := by
  obtain ⟨h0, h8, hl, hr⟩ := okFr_rel h
  funext m
  refine boxAB xs m (fun x hx => ?_) _ (Nat.le_refl _)
  obtain ⟨j, hj, rfl⟩ := List.getElem_of_mem hx
  have hg : xs[j] = xs.getD j 0 := by rw [List.getD_eq_getElem?_getD, List.getElem?_eq_getElem hj]; rfl
  rw [hg]
  exact wrap_inM (by omega) (hr.2 j (by omega))
def tset (n : Int) (xs vs : List Int) (a : List (Int × Int)) : Int := gv (mT n) (mU n (bxB xs)) vs a
theorem isModel1_c (m : Int) (n : Int) (xs : List Int) (vs : List Int) : CallA Try.prog 62 [AI m, .rptr [AI n, LI xs, LI vs]] (.bool (outR n m)) := by
  refine CallA.of Try.func62 rfl (by kernel_rfl) ?_
  refine R.go 10 (R.call true (isMask_c n m) (by kernel_rfl) rfl (by kernel_rfl) ?_)
  exact R.go 3 (R.retE (.bool (!(!(outR n m)))) (by kernel_rfl) (by kernel_rfl) (by first | (apply congrArg AV.bool; simp) | (exfalso; omega)))

theorem indexM_c (a : List Int) (n : Int) (xs : List Int) (vs : List Int) (hl : a.length ≤ 1000000000) : CallA Try.prog 82 [LI a, .fn 62 [.rptr [AI n, LI xs, LI vs]]] (AI (fidxI (outR n) a 0)) := by
  refine CallA.of Try.func82 rfl (by kernel_rfl) ?_
  refine R.go 12 (R.loop (fun (i : Nat) => (⟨(frm 19 [(0, LI a), (1, .fn 62 [.rptr [AI n, LI xs, LI vs]]), (7, AI a.length), (8, AI (i : Int))]), []⟩ : St)) (fun (i : Nat) => (i ≤ a.length) ∧ (fidxI (outR n) a 0 = fidxI (outR n) (a.drop i) i)) (fun (i : Nat) => a.length - i) 0 [0, 1, 7, 8] none (by kernel_rfl) (by kernel_rfl) (by kernel_rfl) ⟨(by omega), (by rfl)⟩ ?_)
  rintro i ⟨h3_1, h3_2⟩ R1 N2
  refine R.go 5 (R.cond ((i : Int) < (a.length : Int)) (by kernel_rfl) (fun c4 => ?_) (fun c4 => ?_))
  · refine R.go 13 (R.idx eI a 0 i (i : Int) (by kernel_rfl) rfl eI_len (by omega) (by kernel_rfl) ?_)
    refine R.go 1 (R.call true (isModel1_c (a.getD i 0) n xs vs) (by kernel_rfl) rfl (by kernel_rfl) ?_)
    refine R.go 1 (R.condB (outR n (a.getD i 0)) (by kernel_rfl) (fun c5 => ?_) (fun c5 => ?_))
    · exact R.go 5 (R.retE (AI (i : Int)) (by kernel_rfl) (by kernel_rfl) (by first | (apply congrArg AI; rw [‹fidxI (outR n) a 0 = _›]; first | exact (fidxI_end (by omega)).symm | exact (fidxI_hit (by omega) (by assumption)).symm) | (exfalso; omega)))
    · refine R.go 3 (R.ar ((i : Int) + 1) (by kernel_rfl) (by omega) (by omega) (by kernel_rfl) ?_)
      exact R.go 2 (R.stop R1 (by kernel_rfl) (N2 (i + 1) [0, 1, 7, 8] none _ (by kernel_rfl) (by kernel_rfl) ⟨(by omega), (by rw [‹fidxI (outR n) a 0 = _›]; exact fidxI_miss (by omega) (by assumption))⟩ (by show (a.length - (i + 1)) < (a.length - i); omega)))
  · exact R.go 5 (R.retE (AI (-1)) (by kernel_rfl) (by kernel_rfl) (by first | (apply congrArg AI; rw [‹fidxI (outR n) a 0 = _›]; first | exact (fidxI_end (by omega)).symm | exact (fidxI_hit (by omega) (by assumption)).symm) | (exfalso; omega)))

theorem containsM_c (a : List Int) (n : Int) (xs : List Int) (vs : List Int) (hl : a.length ≤ 1000000000) : CallA Try.prog 61 [LI a, .fn 62 [.rptr [AI n, LI xs, LI vs]]] (.bool (a.any (outR n))) := by
  refine CallA.of Try.func61 rfl (by kernel_rfl) ?_
  refine R.go 8 (R.call true (indexM_c a n xs vs hl) (by kernel_rfl) rfl (by kernel_rfl) ?_)
  exact R.go 3 (R.retE (.bool (decide ((fidxI (outR n) a 0) ≥ 0))) (by kernel_rfl) (by kernel_rfl) (by first | (apply congrArg AV.bool; rw [Bool.eq_iff_iff, decide_eq_true_iff]; exact fidxI_any (Int.le_refl 0)) | (exfalso; omega)))

theorem isModel_c (n : Int) (xs : List Int) (vs : List Int) (l1 : xs.length ≤ 1000000000) (l2 : vs.length ≤ 1000000000) : CallA Try.prog 38 [.agg [AI n, LI xs, LI vs]] (.bool (okMo n xs vs)) := by
  refine CallA.of Try.func38 rfl (by kernel_rfl) ?_
  refine R.go 9 (R.call true (isFrame_c n xs l1) (by kernel_rfl) rfl (by kernel_rfl) ?_)
  refine R.go 1 ?_
  refine (Bool.eq_false_or_eq_true (okFr n xs)).elim (fun c1 => ?_) (fun c1 => ?_)
  · refine R.want (okFr n xs) true (by kernel_rfl) c1 ?_
    refine R.go 1 (R.want (okFr n xs) true (by kernel_rfl) c1 ?_)
    refine R.go 1 (R.want (okFr n xs) true (by kernel_rfl) c1 ?_)
    refine R.go 1 (R.want (okFr n xs) true (by kernel_rfl) c1 ?_)
    refine R.go 1 (R.pick (okFr n xs) true (by kernel_rfl) c1 (by kernel_rfl) ?_)
    refine R.go 1 ?_
    by_cases c2 : (vs.length : Int) = 6
    · refine R.want (decide ((vs.length : Int) = 6)) true (by kernel_rfl) (dT c2) ?_
      refine R.go 1 (R.want (decide ((vs.length : Int) = 6)) true (by kernel_rfl) (dT c2) ?_)
      refine R.go 1 (R.want (decide ((vs.length : Int) = 6)) true (by kernel_rfl) (dT c2) ?_)
      refine R.go 1 (R.want (decide ((vs.length : Int) = 6)) true (by kernel_rfl) (dT c2) ?_)
      refine R.call false (containsM_c vs n xs vs l2) (by kernel_rfl) rfl (by kernel_rfl) ?_
      refine R.want (decide ((vs.length : Int) = 6)) true (by kernel_rfl) (dT c2) ?_
      refine R.go 1 (R.pick (decide ((vs.length : Int) = 6)) true (by kernel_rfl) (dT c2) (by kernel_rfl) ?_)
      exact R.go 2 (R.retE (.bool (!(vs.any (outR n)))) (by kernel_rfl) (by kernel_rfl) (by first | (apply congrArg AV.bool; first | exact (okMo_1 (by assumption)).symm | exact (okMo_2 (by assumption)).symm | exact (okMo_3 (by assumption) (by assumption)).symm | exact okMo_out (by assumption) (by assumption)) | (exfalso; omega)))
    · refine R.skp (decide ((vs.length : Int) = 6)) true (by kernel_rfl) (dF c2) (by kernel_rfl) ?_
      refine R.skp (decide ((vs.length : Int) = 6)) true (by kernel_rfl) (dF c2) (by kernel_rfl) ?_
      refine R.skp (decide ((vs.length : Int) = 6)) true (by kernel_rfl) (dF c2) (by kernel_rfl) ?_
      refine R.skp (decide ((vs.length : Int) = 6)) true (by kernel_rfl) (dF c2) (by kernel_rfl) ?_
      refine R.skp (decide ((vs.length : Int) = 6)) true (by kernel_rfl) (dF c2) (by kernel_rfl) ?_
      refine R.pick (decide ((vs.length : Int) = 6)) false (by kernel_rfl) (dF c2) (by kernel_rfl) ?_
      exact R.go 2 (R.retE (.bool false) (by kernel_rfl) (by kernel_rfl) (by first | (apply congrArg AV.bool; first | exact (okMo_1 (by assumption)).symm | exact (okMo_2 (by assumption)).symm | exact (okMo_3 (by assumption) (by assumption)).symm | exact okMo_out (by assumption) (by assumption)) | (exfalso; omega)))
  · refine R.skp (okFr n xs) true (by kernel_rfl) c1 (by kernel_rfl) ?_
    refine R.skp (okFr n xs) true (by kernel_rfl) c1 (by kernel_rfl) ?_
    refine R.skp (okFr n xs) true (by kernel_rfl) c1 (by kernel_rfl) ?_
    refine R.skp (okFr n xs) true (by kernel_rfl) c1 (by kernel_rfl) ?_
    refine R.pick (okFr n xs) false (by kernel_rfl) c1 (by kernel_rfl) ?_
    exact R.go 9 (R.retE (.bool false) (by kernel_rfl) (by kernel_rfl) (by first | (apply congrArg AV.bool; first | exact (okMo_1 (by assumption)).symm | exact (okMo_2 (by assumption)).symm | exact (okMo_3 (by assumption) (by assumption)).symm | exact okMo_out (by assumption) (by assumption)) | (exfalso; omega)))

theorem l06Is_c (n : Int) (xs : List Int) (vs : List Int) (l1 : xs.length ≤ 1000000000) (l2 : vs.length ≤ 1000000000) : CallA Try.prog 29 [.agg [AI n, LI xs, LI vs]] (.bool (okMo n xs vs)) := by
  have hn := fun h : okFr n xs = true => okFr_rel h
  refine CallA.of Try.func29 rfl (by kernel_rfl) ?_
  refine R.go 9 (R.call true (l05Is_c n xs l1) (by kernel_rfl) rfl (by kernel_rfl) ?_)
  refine R.go 1 ?_
  refine (Bool.eq_false_or_eq_true (okFr n xs)).elim (fun c1 => ?_) (fun c1 => ?_)
  · refine R.want (okFr n xs) true (by kernel_rfl) c1 ?_
    refine R.go 1 (R.want (okFr n xs) true (by kernel_rfl) c1 ?_)
    refine R.go 1 (R.want (okFr n xs) true (by kernel_rfl) c1 ?_)
    refine R.go 1 (R.want (okFr n xs) true (by kernel_rfl) c1 ?_)
    refine R.go 1 (R.pick (okFr n xs) true (by kernel_rfl) c1 (by kernel_rfl) ?_)
    refine R.go 1 ?_
    by_cases c2 : (vs.length : Int) = 6
    · refine R.want (decide ((vs.length : Int) = 6)) true (by kernel_rfl) (dT c2) ?_
      refine R.go 1 (R.want (decide ((vs.length : Int) = 6)) true (by kernel_rfl) (dT c2) ?_)
      refine R.go 1 (R.want (decide ((vs.length : Int) = 6)) true (by kernel_rfl) (dT c2) ?_)
      refine R.go 1 (R.want (decide ((vs.length : Int) = 6)) true (by kernel_rfl) (dT c2) ?_)
      refine R.go 1 (R.want (decide ((vs.length : Int) = 6)) true (by kernel_rfl) (dT c2) ?_)
      refine R.go 1 (R.want (decide ((vs.length : Int) = 6)) true (by kernel_rfl) (dT c2) ?_)
      refine R.call true (l01Masks_c n vs l2 (by first | omega | (have hq := hn (by assumption); omega)) (by first | omega | (have hq := hn (by assumption); omega))) (by kernel_rfl) rfl (by kernel_rfl) ?_
      refine R.pick (decide ((vs.length : Int) = 6)) true (by kernel_rfl) (dT c2) (by kernel_rfl) ?_
      exact R.go 2 (R.retE (.bool (!(vs.any fun m => !inR m 0 ((shl64 1 n) - 1)))) (by kernel_rfl) (by kernel_rfl) (by first | (apply congrArg AV.bool; first | exact (okMo_1 (by assumption)).symm | exact (okMo_2 (by assumption)).symm | exact (okMo_3 (by assumption) (by assumption)).symm | exact okMo_out (by assumption) (by assumption)) | (exfalso; omega)))
    · refine R.skp (decide ((vs.length : Int) = 6)) true (by kernel_rfl) (dF c2) (by kernel_rfl) ?_
      refine R.skp (decide ((vs.length : Int) = 6)) true (by kernel_rfl) (dF c2) (by kernel_rfl) ?_
      refine R.skp (decide ((vs.length : Int) = 6)) true (by kernel_rfl) (dF c2) (by kernel_rfl) ?_
      refine R.skp (decide ((vs.length : Int) = 6)) true (by kernel_rfl) (dF c2) (by kernel_rfl) ?_
      refine R.skp (decide ((vs.length : Int) = 6)) true (by kernel_rfl) (dF c2) (by kernel_rfl) ?_
      refine R.skp (decide ((vs.length : Int) = 6)) true (by kernel_rfl) (dF c2) (by kernel_rfl) ?_
      refine R.pick (decide ((vs.length : Int) = 6)) false (by kernel_rfl) (dF c2) (by kernel_rfl) ?_
      exact R.go 2 (R.retE (.bool false) (by kernel_rfl) (by kernel_rfl) (by first | (apply congrArg AV.bool; first | exact (okMo_1 (by assumption)).symm | exact (okMo_2 (by assumption)).symm | exact (okMo_3 (by assumption) (by assumption)).symm | exact okMo_out (by assumption) (by assumption)) | (exfalso; omega)))
  · refine R.skp (okFr n xs) true (by kernel_rfl) c1 (by kernel_rfl) ?_
    refine R.skp (okFr n xs) true (by kernel_rfl) c1 (by kernel_rfl) ?_
    refine R.skp (okFr n xs) true (by kernel_rfl) c1 (by kernel_rfl) ?_
    refine R.skp (okFr n xs) true (by kernel_rfl) c1 (by kernel_rfl) ?_
    refine R.pick (okFr n xs) false (by kernel_rfl) c1 (by kernel_rfl) ?_
    exact R.go 10 (R.retE (.bool false) (by kernel_rfl) (by kernel_rfl) (by first | (apply congrArg AV.bool; first | exact (okMo_1 (by assumption)).symm | exact (okMo_2 (by assumption)).symm | exact (okMo_3 (by assumption) (by assumption)).symm | exact okMo_out (by assumption) (by assumption)) | (exfalso; omega)))

theorem truthSet_c (n : Int) (xs : List Int) (vs : List Int) (a : List (Int × Int)) (hok : OKM vs.length a) (h0 : 0 ≤ n) (h1 : n ≤ 8) (hx : xs.length ≤ 60) (hl : a.length ≤ 1000000000) : CallA Try.prog 67 [.agg [AI n, LI xs], LI vs, LN a] (AI (gv (mT n) (mU n (bxB xs)) vs a)) := by
  have hlen := okm_pos hok
  refine CallA.of Try.func67 rfl (by kernel_rfl) ?_
  refine R.go 8 (R.call true (frameAll_c n xs h0 (by omega)) (by kernel_rfl) rfl (by kernel_rfl) ?_)
  refine R.go 16 (R.arE ((a.length : Int) - 1) ((a.length - 1 : Nat) : Int) (by kernel_rfl) (by omega) (by omega) (by omega) (by kernel_rfl) ?_)
  refine R.go 3 (R.nilB 1 0 2 1 (by kernel_rfl) ?_)
  refine R.loop ((fun | (i, S) => (⟨(frm 86 [(1, LI vs), (2, LN a), (3, .ptr 0 0), (7, AI ((shl64 1 n) - 1)), (8, .ptr 1 0), (9, .fn 88 [.ptr 1 0]), (10, AI i)]), [.box 32 [AI n, LI xs], .box 22 [.ref 2], rowA eI 2 1 S]⟩ : St) : Int × (List Int) → St)) (fun | (i, S) => (-1 ≤ i) ∧ (i < a.length) ∧ (S.length ≤ a.length - i) ∧ (S = (stkG (mT n) (mU n (bxB xs)) vs (a.drop (i + 1).toNat)).reverse)) (fun | (i, S) => (i + 1).toNat) (((a.length - 1 : Nat) : Int), []) [1, 2, 3, 7, 8, 9, 10] none (by kernel_rfl) (by kernel_rfl) (by kernel_rfl) ⟨(by omega), (by omega), (by simp <;> omega), (by rw [show (((a.length - 1 : Nat) : Int) + 1).toNat = a.length by omega, List.drop_length]; rfl)⟩ ?_
  rintro ⟨i, S⟩ ⟨h4_1, h4_2, h4_3, h4_4⟩ R1 N2
  have hk := fun h : 0 ≤ i => okm_get hok i.toNat (by omega)
  have hS2 := fun h : 0 ≤ i => stkg_room hok ‹S = _› h (by omega)
  have hP2 := fun h : ((a.getD i.toNat (0, 0)).1 = 2 ∨ (a.getD i.toNat (0, 0)).1 = 3 ∨ (a.getD i.toNat (0, 0)).1 = 4) => (partsN_two _).2 h
  have hP1 := fun h : ((a.getD i.toNat (0, 0)).1 = 5 ∨ (a.getD i.toNat (0, 0)).1 = 6) => partsN_1 h
  have hS1 := fun h : i = -1 => congrArg List.length (stkg_fin hok ‹S = _› h)
  simp only [List.length_cons, List.length_nil] at hS1
  have hT : (S.take (S.length - 1)).length = S.length - 1 := by simp
  refine R.go 6 (R.cond (i ≥ 0) (by kernel_rfl) (fun c5 => ?_) (fun c5 => ?_))
  · refine R.go 12 (R.idx eN a (0, 0) ((i).toNat) i (by kernel_rfl) (by omega) eN_len (by omega) (by kernel_rfl) ?_)
    refine R.go 9 (R.cond (((a.getD ((i).toNat) (0, 0)).1) = 0) (by kernel_rfl) (fun c6 => ?_) (fun c6 => ?_))
    · refine R.go 4 (R.idx eN a (0, 0) ((i).toNat) i (by kernel_rfl) (by omega) eN_len (by omega) (by kernel_rfl) ?_)
      refine R.go 2 (R.idx eI vs 0 (((a.getD ((i).toNat) (0, 0)).2).toNat) ((a.getD ((i).toNat) (0, 0)).2) (by kernel_rfl) (by omega) eI_len (by omega) (by kernel_rfl) ?_)
      refine R.go 8 (R.app eI S [(vs.getD (((a.getD ((i).toNat) (0, 0)).2).toNat) 0)] 2 2 1 8 (by kernel_rfl) eI_one (by decide) (by first | omega | (simp <;> omega)) (by kernel_rfl) ?_)
      refine R.go 5 (R.ar (i - 1) (by kernel_rfl) (by omega) (by omega) (by kernel_rfl) ?_)
      exact R.go 2 (R.stop R1 (by kernel_rfl) (N2 (i - 1, S ++ [(vs.getD (((a.getD ((i).toNat) (0, 0)).2).toNat) 0)]) [1, 2, 3, 7, 8, 9, 10] (some [0, 1, 2]) _ (by kernel_rfl) (by kernel_rfl) ⟨(by omega), (by omega), (by simp <;> omega), (by first | exact stkg_push ‹S = _› (by omega) (by omega) (by omega) | exact stkg_bot ‹S = _› (by omega) (by omega) (by omega) | exact stkg_two hok ‹S = _› (by omega) (by omega) ‹(a.getD i.toNat (0, 0)).1 = _› (by omega) rfl rfl rfl rfl | exact stkg_one hok ‹S = _› (by omega) (by omega) ‹(a.getD i.toNat (0, 0)).1 = _› (by omega) rfl rfl)⟩ (by show (((i - 1) + 1).toNat) < ((i + 1).toNat); omega)))
    · refine R.go 5 (R.cond (((a.getD ((i).toNat) (0, 0)).1) = 2) (by kernel_rfl) (fun c7 => ?_) (fun c7 => ?_))
      · refine R.go 2 (R.enter (avs := [.ptr 1 0]) Try.func88 rfl (by kernel_rfl) (by kernel_rfl) (by kernel_rfl) ?_)
        intro us8
        refine R.go 9 (R.arE ((S.length : Int) - 1) ((S.length - 1 : Nat) : Int) (by kernel_rfl) (by omega) (by omega) (by omega) (by kernel_rfl) ?_)
        refine R.idxO 2 1 S.length (S.length - 1) ((S.length - 1 : Nat) : Int) (by kernel_rfl) (by omega) (by omega) (by kernel_rfl) ?_
        refine R.ldI S (S.length - 1) (by kernel_rfl) (by omega) (by kernel_rfl) ?_
        refine R.go 7 (R.arE ((S.length : Int) - 1) ((S.length - 1 : Nat) : Int) (by kernel_rfl) (by omega) (by omega) (by omega) (by kernel_rfl) ?_)
        refine R.cut eI S 2 2 (S.length - 1) ((S.length - 1 : Nat) : Int) (by kernel_rfl) (by omega) eI_len (by omega) (by kernel_rfl) ?_
        refine R.go 7 (R.back (AI (S.getD (S.length - 1) 0)) (frm 86 [(1, LI vs), (2, LN a), (3, .ptr 0 0), (7, AI ((shl64 1 n) - 1)), (8, .ptr 1 0), (9, .fn 88 [.ptr 1 0]), (10, AI i), (11, AI 0), (18, AI i), (19, .bool (decide (i ≥ 0))), (22, LN a), (23, AI i), (24, .rptr [AI ((a.getD ((i).toNat) (0, 0)).1), AI ((a.getD ((i).toNat) (0, 0)).2)]), (25, .rptr [AI ((a.getD ((i).toNat) (0, 0)).1), AI ((a.getD ((i).toNat) (0, 0)).2)]), (26, AI ((a.getD ((i).toNat) (0, 0)).1)), (27, .bool (decide (((a.getD ((i).toNat) (0, 0)).1) = 0))), (28, .bool (decide (((a.getD ((i).toNat) (0, 0)).1) = 0))), (37, .bool (decide (((a.getD ((i).toNat) (0, 0)).1) = 2))), (38, .bool (decide (((a.getD ((i).toNat) (0, 0)).1) = 2))), (39, .fn 88 [.ptr 1 0])]) (by kernel_rfl) (by kernel_rfl) (by kernel_rfl) ?_)
        refine R.go 1 (R.enter (avs := [.ptr 1 0]) Try.func88 rfl (by kernel_rfl) (by kernel_rfl) (by kernel_rfl) ?_)
        intro us9
        refine R.go 9 (R.arE (((S.take (S.length - 1)).length : Int) - 1) ((((S.take (S.length - 1)).length) - 1 : Nat) : Int) (by kernel_rfl) (by omega) (by omega) (by omega) (by kernel_rfl) ?_)
        refine R.idxO 2 1 (S.take (S.length - 1)).length (((S.take (S.length - 1)).length) - 1) ((((S.take (S.length - 1)).length) - 1 : Nat) : Int) (by kernel_rfl) (by omega) (by first | omega | (simp only [List.length_set]; omega) | (simp <;> omega)) (by kernel_rfl) ?_
        refine R.ldI (S.take (S.length - 1)) (((S.take (S.length - 1)).length) - 1) (by kernel_rfl) (by first | omega | (simp only [List.length_set]; omega) | (simp <;> omega)) (by kernel_rfl) ?_
        refine R.go 7 (R.arE (((S.take (S.length - 1)).length : Int) - 1) ((((S.take (S.length - 1)).length) - 1 : Nat) : Int) (by kernel_rfl) (by omega) (by omega) (by omega) (by kernel_rfl) ?_)
        refine R.cut eI (S.take (S.length - 1)) 2 2 (((S.take (S.length - 1)).length) - 1) ((((S.take (S.length - 1)).length) - 1 : Nat) : Int) (by kernel_rfl) (by omega) eI_len (by first | omega | (simp only [List.length_set]; omega) | (simp <;> omega)) (by kernel_rfl) ?_
        refine R.go 7 (R.back (AI ((S.take (S.length - 1)).getD (((S.take (S.length - 1)).length) - 1) 0)) (frm 86 [(1, LI vs), (2, LN a), (3, .ptr 0 0), (7, AI ((shl64 1 n) - 1)), (8, .ptr 1 0), (9, .fn 88 [.ptr 1 0]), (10, AI i), (11, AI 0), (18, AI i), (19, .bool (decide (i ≥ 0))), (22, LN a), (23, AI i), (24, .rptr [AI ((a.getD ((i).toNat) (0, 0)).1), AI ((a.getD ((i).toNat) (0, 0)).2)]), (25, .rptr [AI ((a.getD ((i).toNat) (0, 0)).1), AI ((a.getD ((i).toNat) (0, 0)).2)]), (26, AI ((a.getD ((i).toNat) (0, 0)).1)), (27, .bool (decide (((a.getD ((i).toNat) (0, 0)).1) = 0))), (28, .bool (decide (((a.getD ((i).toNat) (0, 0)).1) = 0))), (37, .bool (decide (((a.getD ((i).toNat) (0, 0)).1) = 2))), (38, .bool (decide (((a.getD ((i).toNat) (0, 0)).1) = 2))), (39, .fn 88 [.ptr 1 0]), (40, AI (S.getD (S.length - 1) 0)), (41, .fn 88 [.ptr 1 0])]) (by kernel_rfl) (by kernel_rfl) (by kernel_rfl) ?_)
        refine R.go 8 (R.app eI ((S.take (S.length - 1)).take (((S.take (S.length - 1)).length) - 1)) [band (S.getD (S.length - 1) 0) ((S.take (S.length - 1)).getD (((S.take (S.length - 1)).length) - 1) 0)] 2 2 1 8 (by kernel_rfl) eI_one (by decide) (by first | omega | (simp <;> omega)) (by kernel_rfl) ?_)
        refine R.go 5 (R.ar (i - 1) (by kernel_rfl) (by omega) (by omega) (by kernel_rfl) ?_)
        exact R.go 2 (R.stop R1 (by kernel_rfl) (N2 (i - 1, ((S.take (S.length - 1)).take (((S.take (S.length - 1)).length) - 1)) ++ [band (S.getD (S.length - 1) 0) ((S.take (S.length - 1)).getD (((S.take (S.length - 1)).length) - 1) 0)]) [1, 2, 3, 7, 8, 9, 10] (some [0, 1, 2]) _ (by kernel_rfl) (by kernel_rfl) ⟨(by omega), (by omega), (by simp <;> omega), (by first | exact stkg_push ‹S = _› (by omega) (by omega) (by omega) | exact stkg_bot ‹S = _› (by omega) (by omega) (by omega) | exact stkg_two hok ‹S = _› (by omega) (by omega) ‹(a.getD i.toNat (0, 0)).1 = _› (by omega) rfl rfl rfl rfl | exact stkg_one hok ‹S = _› (by omega) (by omega) ‹(a.getD i.toNat (0, 0)).1 = _› (by omega) rfl rfl)⟩ (by show (((i - 1) + 1).toNat) < ((i + 1).toNat); omega)))
      · refine R.go 5 (R.cond (((a.getD ((i).toNat) (0, 0)).1) = 3) (by kernel_rfl) (fun c10 => ?_) (fun c10 => ?_))
        · refine R.go 2 (R.enter (avs := [.ptr 1 0]) Try.func88 rfl (by kernel_rfl) (by kernel_rfl) (by kernel_rfl) ?_)
          intro us11
          refine R.go 9 (R.arE ((S.length : Int) - 1) ((S.length - 1 : Nat) : Int) (by kernel_rfl) (by omega) (by omega) (by omega) (by kernel_rfl) ?_)
          refine R.idxO 2 1 S.length (S.length - 1) ((S.length - 1 : Nat) : Int) (by kernel_rfl) (by omega) (by omega) (by kernel_rfl) ?_
          refine R.ldI S (S.length - 1) (by kernel_rfl) (by omega) (by kernel_rfl) ?_
          refine R.go 7 (R.arE ((S.length : Int) - 1) ((S.length - 1 : Nat) : Int) (by kernel_rfl) (by omega) (by omega) (by omega) (by kernel_rfl) ?_)
          refine R.cut eI S 2 2 (S.length - 1) ((S.length - 1 : Nat) : Int) (by kernel_rfl) (by omega) eI_len (by omega) (by kernel_rfl) ?_
          refine R.go 7 (R.back (AI (S.getD (S.length - 1) 0)) (frm 86 [(1, LI vs), (2, LN a), (3, .ptr 0 0), (7, AI ((shl64 1 n) - 1)), (8, .ptr 1 0), (9, .fn 88 [.ptr 1 0]), (10, AI i), (11, AI 0), (18, AI i), (19, .bool (decide (i ≥ 0))), (22, LN a), (23, AI i), (24, .rptr [AI ((a.getD ((i).toNat) (0, 0)).1), AI ((a.getD ((i).toNat) (0, 0)).2)]), (25, .rptr [AI ((a.getD ((i).toNat) (0, 0)).1), AI ((a.getD ((i).toNat) (0, 0)).2)]), (26, AI ((a.getD ((i).toNat) (0, 0)).1)), (27, .bool (decide (((a.getD ((i).toNat) (0, 0)).1) = 0))), (28, .bool (decide (((a.getD ((i).toNat) (0, 0)).1) = 0))), (37, .bool (decide (((a.getD ((i).toNat) (0, 0)).1) = 2))), (38, .bool (decide (((a.getD ((i).toNat) (0, 0)).1) = 2))), (44, .bool (decide (((a.getD ((i).toNat) (0, 0)).1) = 3))), (45, .bool (decide (((a.getD ((i).toNat) (0, 0)).1) = 3))), (46, .fn 88 [.ptr 1 0])]) (by kernel_rfl) (by kernel_rfl) (by kernel_rfl) ?_)
          refine R.go 1 (R.enter (avs := [.ptr 1 0]) Try.func88 rfl (by kernel_rfl) (by kernel_rfl) (by kernel_rfl) ?_)
          intro us12
          refine R.go 9 (R.arE (((S.take (S.length - 1)).length : Int) - 1) ((((S.take (S.length - 1)).length) - 1 : Nat) : Int) (by kernel_rfl) (by omega) (by omega) (by omega) (by kernel_rfl) ?_)
          refine R.idxO 2 1 (S.take (S.length - 1)).length (((S.take (S.length - 1)).length) - 1) ((((S.take (S.length - 1)).length) - 1 : Nat) : Int) (by kernel_rfl) (by omega) (by first | omega | (simp only [List.length_set]; omega) | (simp <;> omega)) (by kernel_rfl) ?_
          refine R.ldI (S.take (S.length - 1)) (((S.take (S.length - 1)).length) - 1) (by kernel_rfl) (by first | omega | (simp only [List.length_set]; omega) | (simp <;> omega)) (by kernel_rfl) ?_
          refine R.go 7 (R.arE (((S.take (S.length - 1)).length : Int) - 1) ((((S.take (S.length - 1)).length) - 1 : Nat) : Int) (by kernel_rfl) (by omega) (by omega) (by omega) (by kernel_rfl) ?_)
          refine R.cut eI (S.take (S.length - 1)) 2 2 (((S.take (S.length - 1)).length) - 1) ((((S.take (S.length - 1)).length) - 1 : Nat) : Int) (by kernel_rfl) (by omega) eI_len (by first | omega | (simp only [List.length_set]; omega) | (simp <;> omega)) (by kernel_rfl) ?_
          refine R.go 7 (R.back (AI ((S.take (S.length - 1)).getD (((S.take (S.length - 1)).length) - 1) 0)) (frm 86 [(1, LI vs), (2, LN a), (3, .ptr 0 0), (7, AI ((shl64 1 n) - 1)), (8, .ptr 1 0), (9, .fn 88 [.ptr 1 0]), (10, AI i), (11, AI 0), (18, AI i), (19, .bool (decide (i ≥ 0))), (22, LN a), (23, AI i), (24, .rptr [AI ((a.getD ((i).toNat) (0, 0)).1), AI ((a.getD ((i).toNat) (0, 0)).2)]), (25, .rptr [AI ((a.getD ((i).toNat) (0, 0)).1), AI ((a.getD ((i).toNat) (0, 0)).2)]), (26, AI ((a.getD ((i).toNat) (0, 0)).1)), (27, .bool (decide (((a.getD ((i).toNat) (0, 0)).1) = 0))), (28, .bool (decide (((a.getD ((i).toNat) (0, 0)).1) = 0))), (37, .bool (decide (((a.getD ((i).toNat) (0, 0)).1) = 2))), (38, .bool (decide (((a.getD ((i).toNat) (0, 0)).1) = 2))), (44, .bool (decide (((a.getD ((i).toNat) (0, 0)).1) = 3))), (45, .bool (decide (((a.getD ((i).toNat) (0, 0)).1) = 3))), (46, .fn 88 [.ptr 1 0]), (47, AI (S.getD (S.length - 1) 0)), (48, .fn 88 [.ptr 1 0])]) (by kernel_rfl) (by kernel_rfl) (by kernel_rfl) ?_)
          refine R.go 8 (R.app eI ((S.take (S.length - 1)).take (((S.take (S.length - 1)).length) - 1)) [bor (S.getD (S.length - 1) 0) ((S.take (S.length - 1)).getD (((S.take (S.length - 1)).length) - 1) 0)] 2 2 1 8 (by kernel_rfl) eI_one (by decide) (by first | omega | (simp <;> omega)) (by kernel_rfl) ?_)
          refine R.go 5 (R.ar (i - 1) (by kernel_rfl) (by omega) (by omega) (by kernel_rfl) ?_)
          exact R.go 2 (R.stop R1 (by kernel_rfl) (N2 (i - 1, ((S.take (S.length - 1)).take (((S.take (S.length - 1)).length) - 1)) ++ [bor (S.getD (S.length - 1) 0) ((S.take (S.length - 1)).getD (((S.take (S.length - 1)).length) - 1) 0)]) [1, 2, 3, 7, 8, 9, 10] (some [0, 1, 2]) _ (by kernel_rfl) (by kernel_rfl) ⟨(by omega), (by omega), (by simp <;> omega), (by first | exact stkg_push ‹S = _› (by omega) (by omega) (by omega) | exact stkg_bot ‹S = _› (by omega) (by omega) (by omega) | exact stkg_two hok ‹S = _› (by omega) (by omega) ‹(a.getD i.toNat (0, 0)).1 = _› (by omega) rfl rfl rfl rfl | exact stkg_one hok ‹S = _› (by omega) (by omega) ‹(a.getD i.toNat (0, 0)).1 = _› (by omega) rfl rfl)⟩ (by show (((i - 1) + 1).toNat) < ((i + 1).toNat); omega)))
        · refine R.go 5 (R.cond (((a.getD ((i).toNat) (0, 0)).1) = 4) (by kernel_rfl) (fun c13 => ?_) (fun c13 => ?_))
          · refine R.go 4 (R.enter (avs := [.ptr 1 0]) Try.func88 rfl (by kernel_rfl) (by kernel_rfl) (by kernel_rfl) ?_)
            intro us14
            refine R.go 9 (R.arE ((S.length : Int) - 1) ((S.length - 1 : Nat) : Int) (by kernel_rfl) (by omega) (by omega) (by omega) (by kernel_rfl) ?_)
            refine R.idxO 2 1 S.length (S.length - 1) ((S.length - 1 : Nat) : Int) (by kernel_rfl) (by omega) (by omega) (by kernel_rfl) ?_
            refine R.ldI S (S.length - 1) (by kernel_rfl) (by omega) (by kernel_rfl) ?_
            refine R.go 7 (R.arE ((S.length : Int) - 1) ((S.length - 1 : Nat) : Int) (by kernel_rfl) (by omega) (by omega) (by omega) (by kernel_rfl) ?_)
            refine R.cut eI S 2 2 (S.length - 1) ((S.length - 1 : Nat) : Int) (by kernel_rfl) (by omega) eI_len (by omega) (by kernel_rfl) ?_
            refine R.go 7 (R.back (AI (S.getD (S.length - 1) 0)) (frm 86 [(1, LI vs), (2, LN a), (3, .ptr 0 0), (7, AI ((shl64 1 n) - 1)), (8, .ptr 1 0), (9, .fn 88 [.ptr 1 0]), (10, AI i), (11, AI 0), (18, AI i), (19, .bool (decide (i ≥ 0))), (22, LN a), (23, AI i), (24, .rptr [AI ((a.getD ((i).toNat) (0, 0)).1), AI ((a.getD ((i).toNat) (0, 0)).2)]), (25, .rptr [AI ((a.getD ((i).toNat) (0, 0)).1), AI ((a.getD ((i).toNat) (0, 0)).2)]), (26, AI ((a.getD ((i).toNat) (0, 0)).1)), (27, .bool (decide (((a.getD ((i).toNat) (0, 0)).1) = 0))), (28, .bool (decide (((a.getD ((i).toNat) (0, 0)).1) = 0))), (37, .bool (decide (((a.getD ((i).toNat) (0, 0)).1) = 2))), (38, .bool (decide (((a.getD ((i).toNat) (0, 0)).1) = 2))), (44, .bool (decide (((a.getD ((i).toNat) (0, 0)).1) = 3))), (45, .bool (decide (((a.getD ((i).toNat) (0, 0)).1) = 3))), (51, .bool (decide (((a.getD ((i).toNat) (0, 0)).1) = 4))), (52, .bool (decide (((a.getD ((i).toNat) (0, 0)).1) = 4))), (53, AI ((shl64 1 n) - 1)), (54, .fn 88 [.ptr 1 0])]) (by kernel_rfl) (by kernel_rfl) (by kernel_rfl) ?_)
            refine R.go 6 (R.enter (avs := [.ptr 1 0]) Try.func88 rfl (by kernel_rfl) (by kernel_rfl) (by kernel_rfl) ?_)
            intro us15
            refine R.go 9 (R.arE (((S.take (S.length - 1)).length : Int) - 1) ((((S.take (S.length - 1)).length) - 1 : Nat) : Int) (by kernel_rfl) (by omega) (by omega) (by omega) (by kernel_rfl) ?_)
            refine R.idxO 2 1 (S.take (S.length - 1)).length (((S.take (S.length - 1)).length) - 1) ((((S.take (S.length - 1)).length) - 1 : Nat) : Int) (by kernel_rfl) (by omega) (by first | omega | (simp only [List.length_set]; omega) | (simp <;> omega)) (by kernel_rfl) ?_
            refine R.ldI (S.take (S.length - 1)) (((S.take (S.length - 1)).length) - 1) (by kernel_rfl) (by first | omega | (simp only [List.length_set]; omega) | (simp <;> omega)) (by kernel_rfl) ?_
            refine R.go 7 (R.arE (((S.take (S.length - 1)).length : Int) - 1) ((((S.take (S.length - 1)).length) - 1 : Nat) : Int) (by kernel_rfl) (by omega) (by omega) (by omega) (by kernel_rfl) ?_)
            refine R.cut eI (S.take (S.length - 1)) 2 2 (((S.take (S.length - 1)).length) - 1) ((((S.take (S.length - 1)).length) - 1 : Nat) : Int) (by kernel_rfl) (by omega) eI_len (by first | omega | (simp only [List.length_set]; omega) | (simp <;> omega)) (by kernel_rfl) ?_
            refine R.go 7 (R.back (AI ((S.take (S.length - 1)).getD (((S.take (S.length - 1)).length) - 1) 0)) (frm 86 [(1, LI vs), (2, LN a), (3, .ptr 0 0), (7, AI ((shl64 1 n) - 1)), (8, .ptr 1 0), (9, .fn 88 [.ptr 1 0]), (10, AI i), (11, AI (bnot ((shl64 1 n) - 1) (S.getD (S.length - 1) 0))), (18, AI i), (19, .bool (decide (i ≥ 0))), (22, LN a), (23, AI i), (24, .rptr [AI ((a.getD ((i).toNat) (0, 0)).1), AI ((a.getD ((i).toNat) (0, 0)).2)]), (25, .rptr [AI ((a.getD ((i).toNat) (0, 0)).1), AI ((a.getD ((i).toNat) (0, 0)).2)]), (26, AI ((a.getD ((i).toNat) (0, 0)).1)), (27, .bool (decide (((a.getD ((i).toNat) (0, 0)).1) = 0))), (28, .bool (decide (((a.getD ((i).toNat) (0, 0)).1) = 0))), (37, .bool (decide (((a.getD ((i).toNat) (0, 0)).1) = 2))), (38, .bool (decide (((a.getD ((i).toNat) (0, 0)).1) = 2))), (44, .bool (decide (((a.getD ((i).toNat) (0, 0)).1) = 3))), (45, .bool (decide (((a.getD ((i).toNat) (0, 0)).1) = 3))), (51, .bool (decide (((a.getD ((i).toNat) (0, 0)).1) = 4))), (52, .bool (decide (((a.getD ((i).toNat) (0, 0)).1) = 4))), (53, AI ((shl64 1 n) - 1)), (54, .fn 88 [.ptr 1 0]), (55, AI (S.getD (S.length - 1) 0)), (56, AI (bnot ((shl64 1 n) - 1) (S.getD (S.length - 1) 0))), (57, AI (bnot ((shl64 1 n) - 1) (S.getD (S.length - 1) 0))), (58, .fn 88 [.ptr 1 0])]) (by kernel_rfl) (by kernel_rfl) (by kernel_rfl) ?_)
            refine R.go 8 (R.app eI ((S.take (S.length - 1)).take (((S.take (S.length - 1)).length) - 1)) [bor (bnot ((shl64 1 n) - 1) (S.getD (S.length - 1) 0)) ((S.take (S.length - 1)).getD (((S.take (S.length - 1)).length) - 1) 0)] 2 2 1 8 (by kernel_rfl) eI_one (by decide) (by first | omega | (simp <;> omega)) (by kernel_rfl) ?_)
            refine R.go 5 (R.ar (i - 1) (by kernel_rfl) (by omega) (by omega) (by kernel_rfl) ?_)
            exact R.go 2 (R.stop R1 (by kernel_rfl) (N2 (i - 1, ((S.take (S.length - 1)).take (((S.take (S.length - 1)).length) - 1)) ++ [bor (bnot ((shl64 1 n) - 1) (S.getD (S.length - 1) 0)) ((S.take (S.length - 1)).getD (((S.take (S.length - 1)).length) - 1) 0)]) [1, 2, 3, 7, 8, 9, 10] (some [0, 1, 2]) _ (by kernel_rfl) (by kernel_rfl) ⟨(by omega), (by omega), (by simp <;> omega), (by first | exact stkg_push ‹S = _› (by omega) (by omega) (by omega) | exact stkg_bot ‹S = _› (by omega) (by omega) (by omega) | exact stkg_two hok ‹S = _› (by omega) (by omega) ‹(a.getD i.toNat (0, 0)).1 = _› (by omega) rfl rfl rfl rfl | exact stkg_one hok ‹S = _› (by omega) (by omega) ‹(a.getD i.toNat (0, 0)).1 = _› (by omega) rfl rfl)⟩ (by show (((i - 1) + 1).toNat) < ((i + 1).toNat); omega)))
          · refine R.go 5 (R.cond (((a.getD ((i).toNat) (0, 0)).1) = 5) (by kernel_rfl) (fun c16 => ?_) (fun c16 => ?_))
            · refine R.any (by decide +kernel) (by kernel_rfl) ?_
              refine R.anyF 2 (by kernel_rfl) (np_ret _ _ _) ?_
              refine R.any2 0 3 (by kernel_rfl) (by kernel_rfl) ?_ ?_
              · refine R.go 2 (R.any2 1 3 (by kernel_rfl) (by kernel_rfl) ?_ ?_)
                · refine R.go 2 (R.any1 3 (by kernel_rfl) (by kernel_rfl) ?_)
                  refine R.enter (avs := [.ptr 1 0]) Try.func88 rfl (by kernel_rfl) (by kernel_rfl) (by kernel_rfl) ?_
                  intro us17
                  refine R.go 9 (R.arE ((S.length : Int) - 1) ((S.length - 1 : Nat) : Int) (by kernel_rfl) (by omega) (by omega) (by omega) (by kernel_rfl) ?_)
                  refine R.idxO 2 1 S.length (S.length - 1) ((S.length - 1 : Nat) : Int) (by kernel_rfl) (by omega) (by omega) (by kernel_rfl) ?_
                  refine R.ldI S (S.length - 1) (by kernel_rfl) (by omega) (by kernel_rfl) ?_
                  refine R.go 7 (R.arE ((S.length : Int) - 1) ((S.length - 1 : Nat) : Int) (by kernel_rfl) (by omega) (by omega) (by omega) (by kernel_rfl) ?_)
                  refine R.cut eI S 2 2 (S.length - 1) ((S.length - 1 : Nat) : Int) (by kernel_rfl) (by omega) eI_len (by omega) (by kernel_rfl) ?_
                  refine R.go 7 (R.back (AI (S.getD (S.length - 1) 0)) (frm 86 [(1, LI vs), (2, LN a), (3, .ptr 0 0), (7, AI ((shl64 1 n) - 1)), (8, .ptr 1 0), (9, .fn 88 [.ptr 1 0]), (10, AI i), (11, AI 0), (18, AI i), (19, .bool (decide (i ≥ 0))), (22, LN a), (23, AI i), (24, .rptr [AI ((a.getD ((i).toNat) (0, 0)).1), AI ((a.getD ((i).toNat) (0, 0)).2)]), (25, .rptr [AI ((a.getD ((i).toNat) (0, 0)).1), AI ((a.getD ((i).toNat) (0, 0)).2)]), (26, AI ((a.getD ((i).toNat) (0, 0)).1)), (27, .bool (decide (((a.getD ((i).toNat) (0, 0)).1) = 0))), (28, .bool (decide (((a.getD ((i).toNat) (0, 0)).1) = 0))), (37, .bool (decide (((a.getD ((i).toNat) (0, 0)).1) = 2))), (38, .bool (decide (((a.getD ((i).toNat) (0, 0)).1) = 2))), (44, .bool (decide (((a.getD ((i).toNat) (0, 0)).1) = 3))), (45, .bool (decide (((a.getD ((i).toNat) (0, 0)).1) = 3))), (51, .bool (decide (((a.getD ((i).toNat) (0, 0)).1) = 4))), (52, .bool (decide (((a.getD ((i).toNat) (0, 0)).1) = 4))), (61, .bool (decide (((a.getD ((i).toNat) (0, 0)).1) = 5))), (62, .bool (decide (((a.getD ((i).toNat) (0, 0)).1) = 5))), (63, .ptr 0 1), (64, LI xs), (65, .fn 88 [.ptr 1 0])]) (by kernel_rfl) (by kernel_rfl) (by kernel_rfl) ?_)
                  refine R.go 1 (R.any1 4 (by kernel_rfl) (by kernel_rfl) ?_)
                  refine R.call true (box_c xs (S.getD (S.length - 1) 0) hx) (by kernel_rfl) rfl (by kernel_rfl) ?_
                  refine R.go 1 (R.any1 5 (by kernel_rfl) (by kernel_rfl) ?_)
                  refine R.go 2 (R.any0 (by kernel_rfl) ?_)
                  refine R.go 5 (R.app eI (S.take (S.length - 1)) [boxB xs (S.getD (S.length - 1) 0) xs.length] 2 2 1 8 (by kernel_rfl) eI_one (by decide) (by first | omega | (simp <;> omega)) (by kernel_rfl) ?_)
                  refine R.go 5 (R.ar (i - 1) (by kernel_rfl) (by omega) (by omega) (by kernel_rfl) ?_)
                  exact R.go 2 (R.stop R1 (by kernel_rfl) (N2 (i - 1, (S.take (S.length - 1)) ++ [boxB xs (S.getD (S.length - 1) 0) xs.length]) [1, 2, 3, 7, 8, 9, 10] (some [0, 1, 2]) _ (by kernel_rfl) (by kernel_rfl) ⟨(by omega), (by omega), (by simp <;> omega), (by first | exact stkg_push ‹S = _› (by omega) (by omega) (by omega) | exact stkg_bot ‹S = _› (by omega) (by omega) (by omega) | exact stkg_two hok ‹S = _› (by omega) (by omega) ‹(a.getD i.toNat (0, 0)).1 = _› (by omega) rfl rfl rfl rfl | exact stkg_one hok ‹S = _› (by omega) (by omega) ‹(a.getD i.toNat (0, 0)).1 = _› (by omega) rfl rfl)⟩ (by show (((i - 1) + 1).toNat) < ((i + 1).toNat); omega)))
                · refine R.enter (avs := [.ptr 1 0]) Try.func88 rfl (by kernel_rfl) (by kernel_rfl) (by kernel_rfl) ?_
                  intro us18
                  refine R.go 9 (R.arE ((S.length : Int) - 1) ((S.length - 1 : Nat) : Int) (by kernel_rfl) (by omega) (by omega) (by omega) (by kernel_rfl) ?_)
                  refine R.idxO 2 1 S.length (S.length - 1) ((S.length - 1 : Nat) : Int) (by kernel_rfl) (by omega) (by omega) (by kernel_rfl) ?_
                  refine R.ldI S (S.length - 1) (by kernel_rfl) (by omega) (by kernel_rfl) ?_
                  refine R.go 7 (R.arE ((S.length : Int) - 1) ((S.length - 1 : Nat) : Int) (by kernel_rfl) (by omega) (by omega) (by omega) (by kernel_rfl) ?_)
                  refine R.cut eI S 2 2 (S.length - 1) ((S.length - 1 : Nat) : Int) (by kernel_rfl) (by omega) eI_len (by omega) (by kernel_rfl) ?_
                  refine R.go 7 (R.back (AI (S.getD (S.length - 1) 0)) (frm 86 [(1, LI vs), (2, LN a), (3, .ptr 0 0), (7, AI ((shl64 1 n) - 1)), (8, .ptr 1 0), (9, .fn 88 [.ptr 1 0]), (10, AI i), (11, AI 0), (18, AI i), (19, .bool (decide (i ≥ 0))), (22, LN a), (23, AI i), (24, .rptr [AI ((a.getD ((i).toNat) (0, 0)).1), AI ((a.getD ((i).toNat) (0, 0)).2)]), (25, .rptr [AI ((a.getD ((i).toNat) (0, 0)).1), AI ((a.getD ((i).toNat) (0, 0)).2)]), (26, AI ((a.getD ((i).toNat) (0, 0)).1)), (27, .bool (decide (((a.getD ((i).toNat) (0, 0)).1) = 0))), (28, .bool (decide (((a.getD ((i).toNat) (0, 0)).1) = 0))), (37, .bool (decide (((a.getD ((i).toNat) (0, 0)).1) = 2))), (38, .bool (decide (((a.getD ((i).toNat) (0, 0)).1) = 2))), (44, .bool (decide (((a.getD ((i).toNat) (0, 0)).1) = 3))), (45, .bool (decide (((a.getD ((i).toNat) (0, 0)).1) = 3))), (51, .bool (decide (((a.getD ((i).toNat) (0, 0)).1) = 4))), (52, .bool (decide (((a.getD ((i).toNat) (0, 0)).1) = 4))), (61, .bool (decide (((a.getD ((i).toNat) (0, 0)).1) = 5))), (62, .bool (decide (((a.getD ((i).toNat) (0, 0)).1) = 5))), (63, .ptr 0 1), (65, .fn 88 [.ptr 1 0])]) (by kernel_rfl) (by kernel_rfl) (by kernel_rfl) ?_)
                  refine R.go 1 (R.any1 1 (by kernel_rfl) (by kernel_rfl) ?_)
                  refine R.go 2 (R.any1 4 (by kernel_rfl) (by kernel_rfl) ?_)
                  refine R.call true (box_c xs (S.getD (S.length - 1) 0) hx) (by kernel_rfl) rfl (by kernel_rfl) ?_
                  refine R.go 1 (R.any1 5 (by kernel_rfl) (by kernel_rfl) ?_)
                  refine R.go 2 (R.any0 (by kernel_rfl) ?_)
                  refine R.go 5 (R.app eI (S.take (S.length - 1)) [boxB xs (S.getD (S.length - 1) 0) xs.length] 2 2 1 8 (by kernel_rfl) eI_one (by decide) (by first | omega | (simp <;> omega)) (by kernel_rfl) ?_)
                  refine R.go 5 (R.ar (i - 1) (by kernel_rfl) (by omega) (by omega) (by kernel_rfl) ?_)
                  exact R.go 2 (R.stop R1 (by kernel_rfl) (N2 (i - 1, (S.take (S.length - 1)) ++ [boxB xs (S.getD (S.length - 1) 0) xs.length]) [1, 2, 3, 7, 8, 9, 10] (some [0, 1, 2]) _ (by kernel_rfl) (by kernel_rfl) ⟨(by omega), (by omega), (by simp <;> omega), (by first | exact stkg_push ‹S = _› (by omega) (by omega) (by omega) | exact stkg_bot ‹S = _› (by omega) (by omega) (by omega) | exact stkg_two hok ‹S = _› (by omega) (by omega) ‹(a.getD i.toNat (0, 0)).1 = _› (by omega) rfl rfl rfl rfl | exact stkg_one hok ‹S = _› (by omega) (by omega) ‹(a.getD i.toNat (0, 0)).1 = _› (by omega) rfl rfl)⟩ (by show (((i - 1) + 1).toNat) < ((i + 1).toNat); omega)))
              · refine R.enter (avs := [.ptr 1 0]) Try.func88 rfl (by kernel_rfl) (by kernel_rfl) (by kernel_rfl) ?_
                intro us19
                refine R.go 9 (R.arE ((S.length : Int) - 1) ((S.length - 1 : Nat) : Int) (by kernel_rfl) (by omega) (by omega) (by omega) (by kernel_rfl) ?_)
                refine R.idxO 2 1 S.length (S.length - 1) ((S.length - 1 : Nat) : Int) (by kernel_rfl) (by omega) (by omega) (by kernel_rfl) ?_
                refine R.ldI S (S.length - 1) (by kernel_rfl) (by omega) (by kernel_rfl) ?_
                refine R.go 7 (R.arE ((S.length : Int) - 1) ((S.length - 1 : Nat) : Int) (by kernel_rfl) (by omega) (by omega) (by omega) (by kernel_rfl) ?_)
                refine R.cut eI S 2 2 (S.length - 1) ((S.length - 1 : Nat) : Int) (by kernel_rfl) (by omega) eI_len (by omega) (by kernel_rfl) ?_
                refine R.go 7 (R.back (AI (S.getD (S.length - 1) 0)) (frm 86 [(1, LI vs), (2, LN a), (3, .ptr 0 0), (7, AI ((shl64 1 n) - 1)), (8, .ptr 1 0), (9, .fn 88 [.ptr 1 0]), (10, AI i), (11, AI 0), (18, AI i), (19, .bool (decide (i ≥ 0))), (22, LN a), (23, AI i), (24, .rptr [AI ((a.getD ((i).toNat) (0, 0)).1), AI ((a.getD ((i).toNat) (0, 0)).2)]), (25, .rptr [AI ((a.getD ((i).toNat) (0, 0)).1), AI ((a.getD ((i).toNat) (0, 0)).2)]), (26, AI ((a.getD ((i).toNat) (0, 0)).1)), (27, .bool (decide (((a.getD ((i).toNat) (0, 0)).1) = 0))), (28, .bool (decide (((a.getD ((i).toNat) (0, 0)).1) = 0))), (37, .bool (decide (((a.getD ((i).toNat) (0, 0)).1) = 2))), (38, .bool (decide (((a.getD ((i).toNat) (0, 0)).1) = 2))), (44, .bool (decide (((a.getD ((i).toNat) (0, 0)).1) = 3))), (45, .bool (decide (((a.getD ((i).toNat) (0, 0)).1) = 3))), (51, .bool (decide (((a.getD ((i).toNat) (0, 0)).1) = 4))), (52, .bool (decide (((a.getD ((i).toNat) (0, 0)).1) = 4))), (61, .bool (decide (((a.getD ((i).toNat) (0, 0)).1) = 5))), (62, .bool (decide (((a.getD ((i).toNat) (0, 0)).1) = 5))), (65, .fn 88 [.ptr 1 0])]) (by kernel_rfl) (by kernel_rfl) (by kernel_rfl) ?_)
                refine R.go 1 (R.any1 0 (by kernel_rfl) (by kernel_rfl) ?_)
                refine R.go 2 (R.any1 1 (by kernel_rfl) (by kernel_rfl) ?_)
                refine R.go 2 (R.any1 4 (by kernel_rfl) (by kernel_rfl) ?_)
                refine R.call true (box_c xs (S.getD (S.length - 1) 0) hx) (by kernel_rfl) rfl (by kernel_rfl) ?_
                refine R.go 1 (R.any1 5 (by kernel_rfl) (by kernel_rfl) ?_)
                refine R.go 2 (R.any0 (by kernel_rfl) ?_)
                refine R.go 5 (R.app eI (S.take (S.length - 1)) [boxB xs (S.getD (S.length - 1) 0) xs.length] 2 2 1 8 (by kernel_rfl) eI_one (by decide) (by first | omega | (simp <;> omega)) (by kernel_rfl) ?_)
                refine R.go 5 (R.ar (i - 1) (by kernel_rfl) (by omega) (by omega) (by kernel_rfl) ?_)
                exact R.go 2 (R.stop R1 (by kernel_rfl) (N2 (i - 1, (S.take (S.length - 1)) ++ [boxB xs (S.getD (S.length - 1) 0) xs.length]) [1, 2, 3, 7, 8, 9, 10] (some [0, 1, 2]) _ (by kernel_rfl) (by kernel_rfl) ⟨(by omega), (by omega), (by simp <;> omega), (by first | exact stkg_push ‹S = _› (by omega) (by omega) (by omega) | exact stkg_bot ‹S = _› (by omega) (by omega) (by omega) | exact stkg_two hok ‹S = _› (by omega) (by omega) ‹(a.getD i.toNat (0, 0)).1 = _› (by omega) rfl rfl rfl rfl | exact stkg_one hok ‹S = _› (by omega) (by omega) ‹(a.getD i.toNat (0, 0)).1 = _› (by omega) rfl rfl)⟩ (by show (((i - 1) + 1).toNat) < ((i + 1).toNat); omega)))
            · refine R.go 5 (R.cond (((a.getD ((i).toNat) (0, 0)).1) = 6) (by kernel_rfl) (fun c20 => ?_) (fun c20 => ?_))
              · refine R.any (by decide +kernel) (by kernel_rfl) ?_
                refine R.anyF 0 (by kernel_rfl) (np_ret _ _ _) ?_
                refine R.anyF 3 (by kernel_rfl) (np_ret _ _ _) ?_
                refine R.anyF 4 (by kernel_rfl) (np_ret _ _ _) ?_
                refine R.any2 1 5 (by kernel_rfl) (by kernel_rfl) ?_ ?_
                · refine R.go 2 (R.any2 2 5 (by kernel_rfl) (by kernel_rfl) ?_ ?_)
                  · refine R.go 2 (R.any1 5 (by kernel_rfl) (by kernel_rfl) ?_)
                    refine R.enter (avs := [.ptr 1 0]) Try.func88 rfl (by kernel_rfl) (by kernel_rfl) (by kernel_rfl) ?_
                    intro us21
                    refine R.go 9 (R.arE ((S.length : Int) - 1) ((S.length - 1 : Nat) : Int) (by kernel_rfl) (by omega) (by omega) (by omega) (by kernel_rfl) ?_)
                    refine R.idxO 2 1 S.length (S.length - 1) ((S.length - 1 : Nat) : Int) (by kernel_rfl) (by omega) (by omega) (by kernel_rfl) ?_
                    refine R.ldI S (S.length - 1) (by kernel_rfl) (by omega) (by kernel_rfl) ?_
                    refine R.go 7 (R.arE ((S.length : Int) - 1) ((S.length - 1 : Nat) : Int) (by kernel_rfl) (by omega) (by omega) (by omega) (by kernel_rfl) ?_)
                    refine R.cut eI S 2 2 (S.length - 1) ((S.length - 1 : Nat) : Int) (by kernel_rfl) (by omega) eI_len (by omega) (by kernel_rfl) ?_
                    refine R.go 7 (R.back (AI (S.getD (S.length - 1) 0)) (frm 86 [(1, LI vs), (2, LN a), (3, .ptr 0 0), (7, AI ((shl64 1 n) - 1)), (8, .ptr 1 0), (9, .fn 88 [.ptr 1 0]), (10, AI i), (11, AI 0), (18, AI i), (19, .bool (decide (i ≥ 0))), (22, LN a), (23, AI i), (24, .rptr [AI ((a.getD ((i).toNat) (0, 0)).1), AI ((a.getD ((i).toNat) (0, 0)).2)]), (25, .rptr [AI ((a.getD ((i).toNat) (0, 0)).1), AI ((a.getD ((i).toNat) (0, 0)).2)]), (26, AI ((a.getD ((i).toNat) (0, 0)).1)), (27, .bool (decide (((a.getD ((i).toNat) (0, 0)).1) = 0))), (28, .bool (decide (((a.getD ((i).toNat) (0, 0)).1) = 0))), (37, .bool (decide (((a.getD ((i).toNat) (0, 0)).1) = 2))), (38, .bool (decide (((a.getD ((i).toNat) (0, 0)).1) = 2))), (44, .bool (decide (((a.getD ((i).toNat) (0, 0)).1) = 3))), (45, .bool (decide (((a.getD ((i).toNat) (0, 0)).1) = 3))), (51, .bool (decide (((a.getD ((i).toNat) (0, 0)).1) = 4))), (52, .bool (decide (((a.getD ((i).toNat) (0, 0)).1) = 4))), (61, .bool (decide (((a.getD ((i).toNat) (0, 0)).1) = 5))), (62, .bool (decide (((a.getD ((i).toNat) (0, 0)).1) = 5))), (68, .bool (decide (((a.getD ((i).toNat) (0, 0)).1) = 6))), (69, .bool (decide (((a.getD ((i).toNat) (0, 0)).1) = 6))), (70, AI ((shl64 1 n) - 1)), (71, .ptr 0 1), (72, LI xs), (73, AI ((shl64 1 n) - 1)), (74, .fn 88 [.ptr 1 0])]) (by kernel_rfl) (by kernel_rfl) (by kernel_rfl) ?_)
                    refine R.go 1 (R.any1 6 (by kernel_rfl) (by kernel_rfl) ?_)
                    refine R.go 2 (R.any1 7 (by kernel_rfl) (by kernel_rfl) ?_)
                    refine R.call true (box_c xs (bnot ((shl64 1 n) - 1) (S.getD (S.length - 1) 0)) hx) (by kernel_rfl) rfl (by kernel_rfl) ?_
                    refine R.go 1 (R.any1 8 (by kernel_rfl) (by kernel_rfl) ?_)
                    refine R.go 2 (R.any1 9 (by kernel_rfl) (by kernel_rfl) ?_)
                    refine R.go 2 (R.any0 (by kernel_rfl) ?_)
                    refine R.go 5 (R.app eI (S.take (S.length - 1)) [bnot ((shl64 1 n) - 1) (boxB xs (bnot ((shl64 1 n) - 1) (S.getD (S.length - 1) 0)) xs.length)] 2 2 1 8 (by kernel_rfl) eI_one (by decide) (by first | omega | (simp <;> omega)) (by kernel_rfl) ?_)
                    refine R.go 5 (R.ar (i - 1) (by kernel_rfl) (by omega) (by omega) (by kernel_rfl) ?_)
                    exact R.go 2 (R.stop R1 (by kernel_rfl) (N2 (i - 1, (S.take (S.length - 1)) ++ [bnot ((shl64 1 n) - 1) (boxB xs (bnot ((shl64 1 n) - 1) (S.getD (S.length - 1) 0)) xs.length)]) [1, 2, 3, 7, 8, 9, 10] (some [0, 1, 2]) _ (by kernel_rfl) (by kernel_rfl) ⟨(by omega), (by omega), (by simp <;> omega), (by first | exact stkg_push ‹S = _› (by omega) (by omega) (by omega) | exact stkg_bot ‹S = _› (by omega) (by omega) (by omega) | exact stkg_two hok ‹S = _› (by omega) (by omega) ‹(a.getD i.toNat (0, 0)).1 = _› (by omega) rfl rfl rfl rfl | exact stkg_one hok ‹S = _› (by omega) (by omega) ‹(a.getD i.toNat (0, 0)).1 = _› (by omega) rfl rfl)⟩ (by show (((i - 1) + 1).toNat) < ((i + 1).toNat); omega)))
                  · refine R.enter (avs := [.ptr 1 0]) Try.func88 rfl (by kernel_rfl) (by kernel_rfl) (by kernel_rfl) ?_
                    intro us22
                    refine R.go 9 (R.arE ((S.length : Int) - 1) ((S.length - 1 : Nat) : Int) (by kernel_rfl) (by omega) (by omega) (by omega) (by kernel_rfl) ?_)
                    refine R.idxO 2 1 S.length (S.length - 1) ((S.length - 1 : Nat) : Int) (by kernel_rfl) (by omega) (by omega) (by kernel_rfl) ?_
                    refine R.ldI S (S.length - 1) (by kernel_rfl) (by omega) (by kernel_rfl) ?_
                    refine R.go 7 (R.arE ((S.length : Int) - 1) ((S.length - 1 : Nat) : Int) (by kernel_rfl) (by omega) (by omega) (by omega) (by kernel_rfl) ?_)
                    refine R.cut eI S 2 2 (S.length - 1) ((S.length - 1 : Nat) : Int) (by kernel_rfl) (by omega) eI_len (by omega) (by kernel_rfl) ?_
                    refine R.go 7 (R.back (AI (S.getD (S.length - 1) 0)) (frm 86 [(1, LI vs), (2, LN a), (3, .ptr 0 0), (7, AI ((shl64 1 n) - 1)), (8, .ptr 1 0), (9, .fn 88 [.ptr 1 0]), (10, AI i), (11, AI 0), (18, AI i), (19, .bool (decide (i ≥ 0))), (22, LN a), (23, AI i), (24, .rptr [AI ((a.getD ((i).toNat) (0, 0)).1), AI ((a.getD ((i).toNat) (0, 0)).2)]), (25, .rptr [AI ((a.getD ((i).toNat) (0, 0)).1), AI ((a.getD ((i).toNat) (0, 0)).2)]), (26, AI ((a.getD ((i).toNat) (0, 0)).1)), (27, .bool (decide (((a.getD ((i).toNat) (0, 0)).1) = 0))), (28, .bool (decide (((a.getD ((i).toNat) (0, 0)).1) = 0))), (37, .bool (decide (((a.getD ((i).toNat) (0, 0)).1) = 2))), (38, .bool (decide (((a.getD ((i).toNat) (0, 0)).1) = 2))), (44, .bool (decide (((a.getD ((i).toNat) (0, 0)).1) = 3))), (45, .bool (decide (((a.getD ((i).toNat) (0, 0)).1) = 3))), (51, .bool (decide (((a.getD ((i).toNat) (0, 0)).1) = 4))), (52, .bool (decide (((a.getD ((i).toNat) (0, 0)).1) = 4))), (61, .bool (decide (((a.getD ((i).toNat) (0, 0)).1) = 5))), (62, .bool (decide (((a.getD ((i).toNat) (0, 0)).1) = 5))), (68, .bool (decide (((a.getD ((i).toNat) (0, 0)).1) = 6))), (69, .bool (decide (((a.getD ((i).toNat) (0, 0)).1) = 6))), (70, AI ((shl64 1 n) - 1)), (71, .ptr 0 1), (73, AI ((shl64 1 n) - 1)), (74, .fn 88 [.ptr 1 0])]) (by kernel_rfl) (by kernel_rfl) (by kernel_rfl) ?_)
                    refine R.go 1 (R.any2 2 6 (by kernel_rfl) (by kernel_rfl) ?_ ?_)
                    · refine R.go 2 (R.any1 6 (by kernel_rfl) (by kernel_rfl) ?_)
                      refine R.go 2 (R.any1 7 (by kernel_rfl) (by kernel_rfl) ?_)
                      refine R.call true (box_c xs (bnot ((shl64 1 n) - 1) (S.getD (S.length - 1) 0)) hx) (by kernel_rfl) rfl (by kernel_rfl) ?_
                      refine R.go 1 (R.any1 8 (by kernel_rfl) (by kernel_rfl) ?_)
                      refine R.go 2 (R.any1 9 (by kernel_rfl) (by kernel_rfl) ?_)
                      refine R.go 2 (R.any0 (by kernel_rfl) ?_)
                      refine R.go 5 (R.app eI (S.take (S.length - 1)) [bnot ((shl64 1 n) - 1) (boxB xs (bnot ((shl64 1 n) - 1) (S.getD (S.length - 1) 0)) xs.length)] 2 2 1 8 (by kernel_rfl) eI_one (by decide) (by first | omega | (simp <;> omega)) (by kernel_rfl) ?_)
                      refine R.go 5 (R.ar (i - 1) (by kernel_rfl) (by omega) (by omega) (by kernel_rfl) ?_)
                      exact R.go 2 (R.stop R1 (by kernel_rfl) (N2 (i - 1, (S.take (S.length - 1)) ++ [bnot ((shl64 1 n) - 1) (boxB xs (bnot ((shl64 1 n) - 1) (S.getD (S.length - 1) 0)) xs.length)]) [1, 2, 3, 7, 8, 9, 10] (some [0, 1, 2]) _ (by kernel_rfl) (by kernel_rfl) ⟨(by omega), (by omega), (by simp <;> omega), (by first | exact stkg_push ‹S = _› (by omega) (by omega) (by omega) | exact stkg_bot ‹S = _› (by omega) (by omega) (by omega) | exact stkg_two hok ‹S = _› (by omega) (by omega) ‹(a.getD i.toNat (0, 0)).1 = _› (by omega) rfl rfl rfl rfl | exact stkg_one hok ‹S = _› (by omega) (by omega) ‹(a.getD i.toNat (0, 0)).1 = _› (by omega) rfl rfl)⟩ (by show (((i - 1) + 1).toNat) < ((i + 1).toNat); omega)))
                    · refine R.go 2 (R.any1 2 (by kernel_rfl) (by kernel_rfl) ?_)
                      refine R.go 2 (R.any1 7 (by kernel_rfl) (by kernel_rfl) ?_)
                      refine R.call true (box_c xs (bnot ((shl64 1 n) - 1) (S.getD (S.length - 1) 0)) hx) (by kernel_rfl) rfl (by kernel_rfl) ?_
                      refine R.go 1 (R.any1 8 (by kernel_rfl) (by kernel_rfl) ?_)
                      refine R.go 2 (R.any1 9 (by kernel_rfl) (by kernel_rfl) ?_)
                      refine R.go 2 (R.any0 (by kernel_rfl) ?_)
                      refine R.go 5 (R.app eI (S.take (S.length - 1)) [bnot ((shl64 1 n) - 1) (boxB xs (bnot ((shl64 1 n) - 1) (S.getD (S.length - 1) 0)) xs.length)] 2 2 1 8 (by kernel_rfl) eI_one (by decide) (by first | omega | (simp <;> omega)) (by kernel_rfl) ?_)
                      refine R.go 5 (R.ar (i - 1) (by kernel_rfl) (by omega) (by omega) (by kernel_rfl) ?_)
                      exact R.go 2 (R.stop R1 (by kernel_rfl) (N2 (i - 1, (S.take (S.length - 1)) ++ [bnot ((shl64 1 n) - 1) (boxB xs (bnot ((shl64 1 n) - 1) (S.getD (S.length - 1) 0)) xs.length)]) [1, 2, 3, 7, 8, 9, 10] (some [0, 1, 2]) _ (by kernel_rfl) (by kernel_rfl) ⟨(by omega), (by omega), (by simp <;> omega), (by first | exact stkg_push ‹S = _› (by omega) (by omega) (by omega) | exact stkg_bot ‹S = _› (by omega) (by omega) (by omega) | exact stkg_two hok ‹S = _› (by omega) (by omega) ‹(a.getD i.toNat (0, 0)).1 = _› (by omega) rfl rfl rfl rfl | exact stkg_one hok ‹S = _› (by omega) (by omega) ‹(a.getD i.toNat (0, 0)).1 = _› (by omega) rfl rfl)⟩ (by show (((i - 1) + 1).toNat) < ((i + 1).toNat); omega)))
                · refine R.enter (avs := [.ptr 1 0]) Try.func88 rfl (by kernel_rfl) (by kernel_rfl) (by kernel_rfl) ?_
                  intro us23
                  refine R.go 9 (R.arE ((S.length : Int) - 1) ((S.length - 1 : Nat) : Int) (by kernel_rfl) (by omega) (by omega) (by omega) (by kernel_rfl) ?_)
                  refine R.idxO 2 1 S.length (S.length - 1) ((S.length - 1 : Nat) : Int) (by kernel_rfl) (by omega) (by omega) (by kernel_rfl) ?_
                  refine R.ldI S (S.length - 1) (by kernel_rfl) (by omega) (by kernel_rfl) ?_
                  refine R.go 7 (R.arE ((S.length : Int) - 1) ((S.length - 1 : Nat) : Int) (by kernel_rfl) (by omega) (by omega) (by omega) (by kernel_rfl) ?_)
                  refine R.cut eI S 2 2 (S.length - 1) ((S.length - 1 : Nat) : Int) (by kernel_rfl) (by omega) eI_len (by omega) (by kernel_rfl) ?_
                  refine R.go 7 (R.back (AI (S.getD (S.length - 1) 0)) (frm 86 [(1, LI vs), (2, LN a), (3, .ptr 0 0), (7, AI ((shl64 1 n) - 1)), (8, .ptr 1 0), (9, .fn 88 [.ptr 1 0]), (10, AI i), (11, AI 0), (18, AI i), (19, .bool (decide (i ≥ 0))), (22, LN a), (23, AI i), (24, .rptr [AI ((a.getD ((i).toNat) (0, 0)).1), AI ((a.getD ((i).toNat) (0, 0)).2)]), (25, .rptr [AI ((a.getD ((i).toNat) (0, 0)).1), AI ((a.getD ((i).toNat) (0, 0)).2)]), (26, AI ((a.getD ((i).toNat) (0, 0)).1)), (27, .bool (decide (((a.getD ((i).toNat) (0, 0)).1) = 0))), (28, .bool (decide (((a.getD ((i).toNat) (0, 0)).1) = 0))), (37, .bool (decide (((a.getD ((i).toNat) (0, 0)).1) = 2))), (38, .bool (decide (((a.getD ((i).toNat) (0, 0)).1) = 2))), (44, .bool (decide (((a.getD ((i).toNat) (0, 0)).1) = 3))), (45, .bool (decide (((a.getD ((i).toNat) (0, 0)).1) = 3))), (51, .bool (decide (((a.getD ((i).toNat) (0, 0)).1) = 4))), (52, .bool (decide (((a.getD ((i).toNat) (0, 0)).1) = 4))), (61, .bool (decide (((a.getD ((i).toNat) (0, 0)).1) = 5))), (62, .bool (decide (((a.getD ((i).toNat) (0, 0)).1) = 5))), (68, .bool (decide (((a.getD ((i).toNat) (0, 0)).1) = 6))), (69, .bool (decide (((a.getD ((i).toNat) (0, 0)).1) = 6))), (70, AI ((shl64 1 n) - 1)), (73, AI ((shl64 1 n) - 1)), (74, .fn 88 [.ptr 1 0])]) (by kernel_rfl) (by kernel_rfl) (by kernel_rfl) ?_)
                  refine R.go 1 (R.any2 1 6 (by kernel_rfl) (by kernel_rfl) ?_ ?_)
                  · refine R.go 2 (R.any2 2 6 (by kernel_rfl) (by kernel_rfl) ?_ ?_)
                    · refine R.go 2 (R.any1 6 (by kernel_rfl) (by kernel_rfl) ?_)
                      refine R.go 2 (R.any1 7 (by kernel_rfl) (by kernel_rfl) ?_)
                      refine R.call true (box_c xs (bnot ((shl64 1 n) - 1) (S.getD (S.length - 1) 0)) hx) (by kernel_rfl) rfl (by kernel_rfl) ?_
                      refine R.go 1 (R.any1 8 (by kernel_rfl) (by kernel_rfl) ?_)
                      refine R.go 2 (R.any1 9 (by kernel_rfl) (by kernel_rfl) ?_)
                      refine R.go 2 (R.any0 (by kernel_rfl) ?_)
                      refine R.go 5 (R.app eI (S.take (S.length - 1)) [bnot ((shl64 1 n) - 1) (boxB xs (bnot ((shl64 1 n) - 1) (S.getD (S.length - 1) 0)) xs.length)] 2 2 1 8 (by kernel_rfl) eI_one (by decide) (by first | omega | (simp <;> omega)) (by kernel_rfl) ?_)
                      refine R.go 5 (R.ar (i - 1) (by kernel_rfl) (by omega) (by omega) (by kernel_rfl) ?_)
                      exact R.go 2 (R.stop R1 (by kernel_rfl) (N2 (i - 1, (S.take (S.length - 1)) ++ [bnot ((shl64 1 n) - 1) (boxB xs (bnot ((shl64 1 n) - 1) (S.getD (S.length - 1) 0)) xs.length)]) [1, 2, 3, 7, 8, 9, 10] (some [0, 1, 2]) _ (by kernel_rfl) (by kernel_rfl) ⟨(by omega), (by omega), (by simp <;> omega), (by first | exact stkg_push ‹S = _› (by omega) (by omega) (by omega) | exact stkg_bot ‹S = _› (by omega) (by omega) (by omega) | exact stkg_two hok ‹S = _› (by omega) (by omega) ‹(a.getD i.toNat (0, 0)).1 = _› (by omega) rfl rfl rfl rfl | exact stkg_one hok ‹S = _› (by omega) (by omega) ‹(a.getD i.toNat (0, 0)).1 = _› (by omega) rfl rfl)⟩ (by show (((i - 1) + 1).toNat) < ((i + 1).toNat); omega)))
                    · refine R.go 2 (R.any1 2 (by kernel_rfl) (by kernel_rfl) ?_)
                      refine R.go 2 (R.any1 7 (by kernel_rfl) (by kernel_rfl) ?_)
                      refine R.call true (box_c xs (bnot ((shl64 1 n) - 1) (S.getD (S.length - 1) 0)) hx) (by kernel_rfl) rfl (by kernel_rfl) ?_
                      refine R.go 1 (R.any1 8 (by kernel_rfl) (by kernel_rfl) ?_)
                      refine R.go 2 (R.any1 9 (by kernel_rfl) (by kernel_rfl) ?_)
                      refine R.go 2 (R.any0 (by kernel_rfl) ?_)
                      refine R.go 5 (R.app eI (S.take (S.length - 1)) [bnot ((shl64 1 n) - 1) (boxB xs (bnot ((shl64 1 n) - 1) (S.getD (S.length - 1) 0)) xs.length)] 2 2 1 8 (by kernel_rfl) eI_one (by decide) (by first | omega | (simp <;> omega)) (by kernel_rfl) ?_)
                      refine R.go 5 (R.ar (i - 1) (by kernel_rfl) (by omega) (by omega) (by kernel_rfl) ?_)
                      exact R.go 2 (R.stop R1 (by kernel_rfl) (N2 (i - 1, (S.take (S.length - 1)) ++ [bnot ((shl64 1 n) - 1) (boxB xs (bnot ((shl64 1 n) - 1) (S.getD (S.length - 1) 0)) xs.length)]) [1, 2, 3, 7, 8, 9, 10] (some [0, 1, 2]) _ (by kernel_rfl) (by kernel_rfl) ⟨(by omega), (by omega), (by simp <;> omega), (by first | exact stkg_push ‹S = _› (by omega) (by omega) (by omega) | exact stkg_bot ‹S = _› (by omega) (by omega) (by omega) | exact stkg_two hok ‹S = _› (by omega) (by omega) ‹(a.getD i.toNat (0, 0)).1 = _› (by omega) rfl rfl rfl rfl | exact stkg_one hok ‹S = _› (by omega) (by omega) ‹(a.getD i.toNat (0, 0)).1 = _› (by omega) rfl rfl)⟩ (by show (((i - 1) + 1).toNat) < ((i + 1).toNat); omega)))
                  · refine R.go 2 (R.any1 1 (by kernel_rfl) (by kernel_rfl) ?_)
                    refine R.go 2 (R.any1 2 (by kernel_rfl) (by kernel_rfl) ?_)
                    refine R.go 2 (R.any1 7 (by kernel_rfl) (by kernel_rfl) ?_)
                    refine R.call true (box_c xs (bnot ((shl64 1 n) - 1) (S.getD (S.length - 1) 0)) hx) (by kernel_rfl) rfl (by kernel_rfl) ?_
                    refine R.go 1 (R.any1 8 (by kernel_rfl) (by kernel_rfl) ?_)
                    refine R.go 2 (R.any1 9 (by kernel_rfl) (by kernel_rfl) ?_)
                    refine R.go 2 (R.any0 (by kernel_rfl) ?_)
                    refine R.go 5 (R.app eI (S.take (S.length - 1)) [bnot ((shl64 1 n) - 1) (boxB xs (bnot ((shl64 1 n) - 1) (S.getD (S.length - 1) 0)) xs.length)] 2 2 1 8 (by kernel_rfl) eI_one (by decide) (by first | omega | (simp <;> omega)) (by kernel_rfl) ?_)
                    refine R.go 5 (R.ar (i - 1) (by kernel_rfl) (by omega) (by omega) (by kernel_rfl) ?_)
                    exact R.go 2 (R.stop R1 (by kernel_rfl) (N2 (i - 1, (S.take (S.length - 1)) ++ [bnot ((shl64 1 n) - 1) (boxB xs (bnot ((shl64 1 n) - 1) (S.getD (S.length - 1) 0)) xs.length)]) [1, 2, 3, 7, 8, 9, 10] (some [0, 1, 2]) _ (by kernel_rfl) (by kernel_rfl) ⟨(by omega), (by omega), (by simp <;> omega), (by first | exact stkg_push ‹S = _› (by omega) (by omega) (by omega) | exact stkg_bot ‹S = _› (by omega) (by omega) (by omega) | exact stkg_two hok ‹S = _› (by omega) (by omega) ‹(a.getD i.toNat (0, 0)).1 = _› (by omega) rfl rfl rfl rfl | exact stkg_one hok ‹S = _› (by omega) (by omega) ‹(a.getD i.toNat (0, 0)).1 = _› (by omega) rfl rfl)⟩ (by show (((i - 1) + 1).toNat) < ((i + 1).toNat); omega)))
              · refine R.go 6 (R.app eI S [0] 2 2 1 8 (by kernel_rfl) eI_one (by decide) (by first | omega | (simp <;> omega)) (by kernel_rfl) ?_)
                refine R.go 5 (R.ar (i - 1) (by kernel_rfl) (by omega) (by omega) (by kernel_rfl) ?_)
                exact R.go 2 (R.stop R1 (by kernel_rfl) (N2 (i - 1, S ++ [0]) [1, 2, 3, 7, 8, 9, 10] (some [0, 1, 2]) _ (by kernel_rfl) (by kernel_rfl) ⟨(by omega), (by omega), (by simp <;> omega), (by first | exact stkg_push ‹S = _› (by omega) (by omega) (by omega) | exact stkg_bot ‹S = _› (by omega) (by omega) (by omega) | exact stkg_two hok ‹S = _› (by omega) (by omega) ‹(a.getD i.toNat (0, 0)).1 = _› (by omega) rfl rfl rfl rfl | exact stkg_one hok ‹S = _› (by omega) (by omega) ‹(a.getD i.toNat (0, 0)).1 = _› (by omega) rfl rfl)⟩ (by show (((i - 1) + 1).toNat) < ((i + 1).toNat); omega)))
  · refine R.go 4 (R.idxO 2 1 S.length 0 0 (by kernel_rfl) rfl (by omega) (by kernel_rfl) ?_)
    refine R.ldI S 0 (by kernel_rfl) (by omega) (by kernel_rfl) ?_
    exact R.go 2 (R.retE (AI (S.getD 0 0)) (by kernel_rfl) (by kernel_rfl) (by first | (apply congrArg AI; rw [stkg_fin hok ‹S = _› (by omega)]; rfl) | (exfalso; omega)))

theorem l06Truth_c : ∀ (k : Nat) (n : Int) (xs : List Int) (vs : List Int) (a : List (Int × Int)) (hk : a.length = k) (hok : OKM vs.length a) (h0 : 0 ≤ n) (h1 : n ≤ 8) (hx : xs.length ≤ 60) (hl : a.length ≤ 1000000000), CallA Try.prog 31 [.agg [AI n, LI xs, LI vs], LN a] (AI (gv (mT n) (mU n (bxA xs)) vs a)) := by
  intro k
  induction k using Nat.strongRecOn with
  | _ k ih =>
  intro n xs vs a hk hok h0 h1 hx hl
  have hlen := okm_pos hok
  have hg := okm_get hok 0 (by omega)
  refine CallA.of Try.func31 rfl (by kernel_rfl) ?_
  refine R.go 10 (R.call true (l01Full_c n h0 (by first | omega | (have hq := lenm_lef hok ((partsN_two _).2 (by omega)); omega) | (simp; omega))) (by kernel_rfl) rfl (by kernel_rfl) ?_)
  refine R.go 6 (R.idx eN a (0, 0) 0 0 (by kernel_rfl) rfl eN_len (by first | omega | (have hq := lenm_lef hok ((partsN_two _).2 (by omega)); omega) | (simp; omega)) (by kernel_rfl) ?_)
  refine R.go 9 (R.cond (((a.getD 0 (0, 0)).1) = 0) (by kernel_rfl) (fun c1 => ?_) (fun c1 => ?_))
  · refine R.go 5 (R.idx eN a (0, 0) 0 0 (by kernel_rfl) rfl eN_len (by first | omega | (have hq := lenm_lef hok ((partsN_two _).2 (by omega)); omega) | (simp; omega)) (by kernel_rfl) ?_)
    refine R.go 2 (R.idx eI vs 0 (((a.getD 0 (0, 0)).2).toNat) ((a.getD 0 (0, 0)).2) (by kernel_rfl) (by first | omega | (have hq := lenm_lef hok ((partsN_two _).2 (by omega)); omega) | (simp; omega)) eI_len (by first | omega | (have hq := lenm_lef hok ((partsN_two _).2 (by omega)); omega) | (simp; omega)) (by kernel_rfl) ?_)
    exact R.go 3 (R.retE (AI (vs.getD (((a.getD 0 (0, 0)).2).toNat) 0)) (by kernel_rfl) (by kernel_rfl) (by first | (apply congrArg AI; first | exact gv_two (mT n) (mU n (bxA xs)) vs hok ‹(a.getD 0 (0, 0)).1 = _› (by omega) | exact gv_one (mT n) (mU n (bxA xs)) vs hok ‹(a.getD 0 (0, 0)).1 = _› (by omega) | exact gv_two (mT n) (mU n (bxA xs)) vs hok (k := 4) (by omega) (by omega) | exact gv_var _ _ _ hok (by omega) | exact gv_bot _ _ _ hok (by omega)) | (exfalso; omega)))
  · refine R.go 5 (R.cond (((a.getD 0 (0, 0)).1) = 1) (by kernel_rfl) (fun c2 => ?_) (fun c2 => ?_))
    · exact R.go 4 (R.retE (AI 0) (by kernel_rfl) (by kernel_rfl) (by first | (apply congrArg AI; first | exact gv_two (mT n) (mU n (bxA xs)) vs hok ‹(a.getD 0 (0, 0)).1 = _› (by omega) | exact gv_one (mT n) (mU n (bxA xs)) vs hok ‹(a.getD 0 (0, 0)).1 = _› (by omega) | exact gv_two (mT n) (mU n (bxA xs)) vs hok (k := 4) (by omega) (by omega) | exact gv_var _ _ _ hok (by omega) | exact gv_bot _ _ _ hok (by omega)) | (exfalso; omega)))
    · refine R.go 5 (R.cond (((a.getD 0 (0, 0)).1) = 5) (by kernel_rfl) (fun c3 => ?_) (fun c3 => ?_))
      · refine R.go 7 (R.slL eN a 1 1 (by kernel_rfl) rfl eN_len (by first | omega | (have hq := lenm_lef hok ((partsN_two _).2 (by omega)); omega) | (simp; omega)) (by kernel_rfl) ?_)
        refine R.call true (ih ((a.drop 1).length) (by first | omega | (have hq := lenm_lef hok ((partsN_two _).2 (by omega)); omega) | (simp; omega)) n xs vs (a.drop 1) (by first | rfl | simp) (by first | assumption | exact okm_lef hok ((partsN_two _).2 (by omega)) | exact okm_rig hok ((partsN_two _).2 (by omega)) | exact okm_tail hok (partsN_1 (by omega))) h0 h1 hx (by first | omega | (have hq := lenm_lef hok ((partsN_two _).2 (by omega)); omega) | (simp; omega))) (by kernel_rfl) rfl (by kernel_rfl) ?_
        refine R.call true (l01Box_c xs (gv (mT n) (mU n (bxA xs)) vs (a.drop 1)) hx) (by kernel_rfl) rfl (by kernel_rfl) ?_
        exact R.go 2 (R.retE (AI (boxA xs (gv (mT n) (mU n (bxA xs)) vs (a.drop 1)) xs.length)) (by kernel_rfl) (by kernel_rfl) (by first | (apply congrArg AI; first | exact gv_two (mT n) (mU n (bxA xs)) vs hok ‹(a.getD 0 (0, 0)).1 = _› (by omega) | exact gv_one (mT n) (mU n (bxA xs)) vs hok ‹(a.getD 0 (0, 0)).1 = _› (by omega) | exact gv_two (mT n) (mU n (bxA xs)) vs hok (k := 4) (by omega) (by omega) | exact gv_var _ _ _ hok (by omega) | exact gv_bot _ _ _ hok (by omega)) | (exfalso; omega)))
      · refine R.go 5 (R.cond (((a.getD 0 (0, 0)).1) = 6) (by kernel_rfl) (fun c4 => ?_) (fun c4 => ?_))
        · refine R.go 9 (R.slL eN a 1 1 (by kernel_rfl) rfl eN_len (by first | omega | (have hq := lenm_lef hok ((partsN_two _).2 (by omega)); omega) | (simp; omega)) (by kernel_rfl) ?_)
          refine R.call true (ih ((a.drop 1).length) (by first | omega | (have hq := lenm_lef hok ((partsN_two _).2 (by omega)); omega) | (simp; omega)) n xs vs (a.drop 1) (by first | rfl | simp) (by first | assumption | exact okm_lef hok ((partsN_two _).2 (by omega)) | exact okm_rig hok ((partsN_two _).2 (by omega)) | exact okm_tail hok (partsN_1 (by omega))) h0 h1 hx (by first | omega | (have hq := lenm_lef hok ((partsN_two _).2 (by omega)); omega) | (simp; omega))) (by kernel_rfl) rfl (by kernel_rfl) ?_
          refine R.go 1 (R.call true (l01Box_c xs (bnot ((shl64 1 n) - 1) (gv (mT n) (mU n (bxA xs)) vs (a.drop 1))) hx) (by kernel_rfl) rfl (by kernel_rfl) ?_)
          exact R.go 3 (R.retE (AI (bnot ((shl64 1 n) - 1) (boxA xs (bnot ((shl64 1 n) - 1) (gv (mT n) (mU n (bxA xs)) vs (a.drop 1))) xs.length))) (by kernel_rfl) (by kernel_rfl) (by first | (apply congrArg AI; first | exact gv_two (mT n) (mU n (bxA xs)) vs hok ‹(a.getD 0 (0, 0)).1 = _› (by omega) | exact gv_one (mT n) (mU n (bxA xs)) vs hok ‹(a.getD 0 (0, 0)).1 = _› (by omega) | exact gv_two (mT n) (mU n (bxA xs)) vs hok (k := 4) (by omega) (by omega) | exact gv_var _ _ _ hok (by omega) | exact gv_bot _ _ _ hok (by omega)) | (exfalso; omega)))
        · refine R.go 5 (R.cond (((a.getD 0 (0, 0)).1) = 2) (by kernel_rfl) (fun c5 => ?_) (fun c5 => ?_))
          · refine R.go 4 (R.call true (l02Left_c vs.length a hok (by exact (partsN_two _).2 (by omega)) hl) (by kernel_rfl) rfl (by kernel_rfl) ?_)
            refine R.call true (ih ((lef a).length) (by first | omega | (have hq := lenm_lef hok ((partsN_two _).2 (by omega)); omega) | (simp; omega)) n xs vs (lef a) (by first | rfl | simp) (by first | assumption | exact okm_lef hok ((partsN_two _).2 (by omega)) | exact okm_rig hok ((partsN_two _).2 (by omega)) | exact okm_tail hok (partsN_1 (by omega))) h0 h1 hx (by first | omega | (have hq := lenm_lef hok ((partsN_two _).2 (by omega)); omega) | (simp; omega))) (by kernel_rfl) rfl (by kernel_rfl) ?_
            refine R.go 2 (R.call true (l02Right_c vs.length a hok (by exact (partsN_two _).2 (by omega)) hl) (by kernel_rfl) rfl (by kernel_rfl) ?_)
            refine R.call true (ih ((rig a).length) (by first | omega | (have hq := lenm_lef hok ((partsN_two _).2 (by omega)); omega) | (simp; omega)) n xs vs (rig a) (by first | rfl | simp) (by first | assumption | exact okm_lef hok ((partsN_two _).2 (by omega)) | exact okm_rig hok ((partsN_two _).2 (by omega)) | exact okm_tail hok (partsN_1 (by omega))) h0 h1 hx (by first | omega | (have hq := lenm_lef hok ((partsN_two _).2 (by omega)); omega) | (simp; omega))) (by kernel_rfl) rfl (by kernel_rfl) ?_
            exact R.go 3 (R.retE (AI (band (gv (mT n) (mU n (bxA xs)) vs (lef a)) (gv (mT n) (mU n (bxA xs)) vs (rig a)))) (by kernel_rfl) (by kernel_rfl) (by first | (apply congrArg AI; first | exact gv_two (mT n) (mU n (bxA xs)) vs hok ‹(a.getD 0 (0, 0)).1 = _› (by omega) | exact gv_one (mT n) (mU n (bxA xs)) vs hok ‹(a.getD 0 (0, 0)).1 = _› (by omega) | exact gv_two (mT n) (mU n (bxA xs)) vs hok (k := 4) (by omega) (by omega) | exact gv_var _ _ _ hok (by omega) | exact gv_bot _ _ _ hok (by omega)) | (exfalso; omega)))
          · refine R.go 5 (R.cond (((a.getD 0 (0, 0)).1) = 3) (by kernel_rfl) (fun c6 => ?_) (fun c6 => ?_))
            · refine R.go 4 (R.call true (l02Left_c vs.length a hok (by exact (partsN_two _).2 (by omega)) hl) (by kernel_rfl) rfl (by kernel_rfl) ?_)
              refine R.call true (ih ((lef a).length) (by first | omega | (have hq := lenm_lef hok ((partsN_two _).2 (by omega)); omega) | (simp; omega)) n xs vs (lef a) (by first | rfl | simp) (by first | assumption | exact okm_lef hok ((partsN_two _).2 (by omega)) | exact okm_rig hok ((partsN_two _).2 (by omega)) | exact okm_tail hok (partsN_1 (by omega))) h0 h1 hx (by first | omega | (have hq := lenm_lef hok ((partsN_two _).2 (by omega)); omega) | (simp; omega))) (by kernel_rfl) rfl (by kernel_rfl) ?_
              refine R.go 2 (R.call true (l02Right_c vs.length a hok (by exact (partsN_two _).2 (by omega)) hl) (by kernel_rfl) rfl (by kernel_rfl) ?_)
              refine R.call true (ih ((rig a).length) (by first | omega | (have hq := lenm_lef hok ((partsN_two _).2 (by omega)); omega) | (simp; omega)) n xs vs (rig a) (by first | rfl | simp) (by first | assumption | exact okm_lef hok ((partsN_two _).2 (by omega)) | exact okm_rig hok ((partsN_two _).2 (by omega)) | exact okm_tail hok (partsN_1 (by omega))) h0 h1 hx (by first | omega | (have hq := lenm_lef hok ((partsN_two _).2 (by omega)); omega) | (simp; omega))) (by kernel_rfl) rfl (by kernel_rfl) ?_
              exact R.go 3 (R.retE (AI (bor (gv (mT n) (mU n (bxA xs)) vs (lef a)) (gv (mT n) (mU n (bxA xs)) vs (rig a)))) (by kernel_rfl) (by kernel_rfl) (by first | (apply congrArg AI; first | exact gv_two (mT n) (mU n (bxA xs)) vs hok ‹(a.getD 0 (0, 0)).1 = _› (by omega) | exact gv_one (mT n) (mU n (bxA xs)) vs hok ‹(a.getD 0 (0, 0)).1 = _› (by omega) | exact gv_two (mT n) (mU n (bxA xs)) vs hok (k := 4) (by omega) (by omega) | exact gv_var _ _ _ hok (by omega) | exact gv_bot _ _ _ hok (by omega)) | (exfalso; omega)))
            · refine R.go 7 (R.call true (l02Left_c vs.length a hok (by exact (partsN_two _).2 (by omega)) hl) (by kernel_rfl) rfl (by kernel_rfl) ?_)
              refine R.call true (ih ((lef a).length) (by first | omega | (have hq := lenm_lef hok ((partsN_two _).2 (by omega)); omega) | (simp; omega)) n xs vs (lef a) (by first | rfl | simp) (by first | assumption | exact okm_lef hok ((partsN_two _).2 (by omega)) | exact okm_rig hok ((partsN_two _).2 (by omega)) | exact okm_tail hok (partsN_1 (by omega))) h0 h1 hx (by first | omega | (have hq := lenm_lef hok ((partsN_two _).2 (by omega)); omega) | (simp; omega))) (by kernel_rfl) rfl (by kernel_rfl) ?_
              refine R.go 3 (R.call true (l02Right_c vs.length a hok (by exact (partsN_two _).2 (by omega)) hl) (by kernel_rfl) rfl (by kernel_rfl) ?_)
              refine R.call true (ih ((rig a).length) (by first | omega | (have hq := lenm_lef hok ((partsN_two _).2 (by omega)); omega) | (simp; omega)) n xs vs (rig a) (by first | rfl | simp) (by first | assumption | exact okm_lef hok ((partsN_two _).2 (by omega)) | exact okm_rig hok ((partsN_two _).2 (by omega)) | exact okm_tail hok (partsN_1 (by omega))) h0 h1 hx (by first | omega | (have hq := lenm_lef hok ((partsN_two _).2 (by omega)); omega) | (simp; omega))) (by kernel_rfl) rfl (by kernel_rfl) ?_
              exact R.go 3 (R.retE (AI (bor (bnot ((shl64 1 n) - 1) (gv (mT n) (mU n (bxA xs)) vs (lef a))) (gv (mT n) (mU n (bxA xs)) vs (rig a)))) (by kernel_rfl) (by kernel_rfl) (by first | (apply congrArg AI; first | exact gv_two (mT n) (mU n (bxA xs)) vs hok ‹(a.getD 0 (0, 0)).1 = _› (by omega) | exact gv_one (mT n) (mU n (bxA xs)) vs hok ‹(a.getD 0 (0, 0)).1 = _› (by omega) | exact gv_two (mT n) (mU n (bxA xs)) vs hok (k := 4) (by omega) (by omega) | exact gv_var _ _ _ hok (by omega) | exact gv_bot _ _ _ hok (by omega)) | (exfalso; omega)))

end Go.Proofs.Ytpalghbfhgimkaa


/-! The harness of the laws. -/
namespace Go.Proofs.Ytpalghbfhgimkaa
open Go.RowKit Go.Abs

theorem take_step {α : Type} (a b : List α) (d : α) (i : Nat) (ha : i < a.length) (hb : i < b.length) (h : a.take i = b.take i) (e : a.getD i d = b.getD i d) : a.take (i + 1) = b.take (i + 1) := by
  rw [List.take_succ_eq_append_getElem ha, List.take_succ_eq_append_getElem hb, h]
  simp only [List.getD_eq_getElem?_getD, List.getElem?_eq_getElem ha, List.getElem?_eq_getElem hb, Option.getD_some] at e
  rw [e]
theorem take_all {α : Type} {a b : List α} {i : Nat} (ha : a.length ≤ i) (hl : a.length = b.length) (h : a.take i = b.take i) : a = b := by
  rwa [List.take_of_length_le ha, List.take_of_length_le (by omega)] at h
theorem getD_set_eq {α : Type} (xs : List α) (i : Nat) (v d : α) (h : i < xs.length) : (xs.set i v).getD i d = v := by
  rw [getD_set_if _ _ _ _ _ h, if_pos rfl]

theorem szInt64S_c (a : List Int) (k : Int) (hk : (k : Int) ≤ 1048576) (hx : (a.length : Int) ≤ k) : CallA Try.prog 27 [LI a, AI k] (AI ((k : Int) - a.length)) := by
  refine CallA.of Try.func27 rfl (by kernel_rfl) ?_
  refine R.go 9 (R.ar (k - (a.length : Int)) (by kernel_rfl) (by omega) (by omega) (by kernel_rfl) ?_)
  refine R.go 8 (R.cond ((k - (a.length : Int)) < 0) (by kernel_rfl) (fun c1 => ?_) (fun c1 => ?_))
  · exact R.go 4 (R.retE (AI (-1)) (by kernel_rfl) (by kernel_rfl) (by first | (rfl) | (exfalso; omega)))
  · exact R.go 6 (R.retE (AI (k - (a.length : Int))) (by kernel_rfl) (by kernel_rfl) (by first | (rfl) | (exfalso; omega)))

theorem szInt64S_no (a : List Int) (k : Int) (hk : (0 : Int) ≤ k ∧ (k : Int) ≤ 1048576) (hx : (k : Int) < a.length) (hl : a.length ≤ 9223372036854775807) : CallA Try.prog 27 [LI a, AI k] (AI (-1)) := by
  refine CallA.of Try.func27 rfl (by kernel_rfl) ?_
  refine R.go 9 (R.ar (k - (a.length : Int)) (by kernel_rfl) (by omega) (by omega) (by kernel_rfl) ?_)
  refine R.go 8 (R.cond ((k - (a.length : Int)) < 0) (by kernel_rfl) (fun c1 => ?_) (fun c1 => ?_))
  · exact R.go 4 (R.retE (AI (-1)) (by kernel_rfl) (by kernel_rfl) (by rfl))
  · exact R.go 6 (R.retE (AI (k - (a.length : Int))) (by kernel_rfl) (by kernel_rfl) (by first | (rfl) | (exfalso; omega)))

theorem szNodeS_c (a : List (Int × Int)) (k : Int) (hk : (k : Int) ≤ 1048576) (hx : (a.length : Int) ≤ k) : CallA Try.prog 28 [LN a, AI k] (AI ((k : Int) - a.length)) := by
  refine CallA.of Try.func28 rfl (by kernel_rfl) ?_
  refine R.go 9 (R.ar (k - (a.length : Int)) (by kernel_rfl) (by omega) (by omega) (by kernel_rfl) ?_)
  refine R.go 8 (R.cond ((k - (a.length : Int)) < 0) (by kernel_rfl) (fun c1 => ?_) (fun c1 => ?_))
  · exact R.go 4 (R.retE (AI (-1)) (by kernel_rfl) (by kernel_rfl) (by first | (rfl) | (exfalso; omega)))
  · exact R.go 6 (R.retE (AI (k - (a.length : Int))) (by kernel_rfl) (by kernel_rfl) (by first | (rfl) | (exfalso; omega)))

theorem szNodeS_no (a : List (Int × Int)) (k : Int) (hk : (0 : Int) ≤ k ∧ (k : Int) ≤ 1048576) (hx : (k : Int) < a.length) (hl : a.length ≤ 9223372036854775807) : CallA Try.prog 28 [LN a, AI k] (AI (-1)) := by
  refine CallA.of Try.func28 rfl (by kernel_rfl) ?_
  refine R.go 9 (R.ar (k - (a.length : Int)) (by kernel_rfl) (by omega) (by omega) (by kernel_rfl) ?_)
  refine R.go 8 (R.cond ((k - (a.length : Int)) < 0) (by kernel_rfl) (fun c1 => ?_) (fun c1 => ?_))
  · exact R.go 4 (R.retE (AI (-1)) (by kernel_rfl) (by kernel_rfl) (by rfl))
  · exact R.go 6 (R.retE (AI (k - (a.length : Int))) (by kernel_rfl) (by kernel_rfl) (by first | (rfl) | (exfalso; omega)))

theorem szFrame_c (n : Int) (xs : List Int) (k : Int) (hk : (k : Int) ≤ 1048576) (hx : (xs.length : Int) ≤ k) : CallA Try.prog 26 [.agg [AI n, LI xs], AI k] (AI ((k : Int) - xs.length)) := by
  refine CallA.of Try.func26 rfl (by kernel_rfl) ?_
  refine R.go 10 (R.call true (szInt64S_c xs k hk hx) (by kernel_rfl) rfl (by kernel_rfl) ?_)
  refine R.go 8 (R.cond (((k : Int) - xs.length) < 0) (by kernel_rfl) (fun c1 => ?_) (fun c1 => ?_))
  · exact R.go 4 (R.retE (AI (-1)) (by kernel_rfl) (by kernel_rfl) (by first | (rfl) | (exfalso; omega)))
  · exact R.go 6 (R.retE (AI ((k : Int) - xs.length)) (by kernel_rfl) (by kernel_rfl) (by rfl))

theorem szFrame_no (n : Int) (xs : List Int) (k : Int) (hk : (0 : Int) ≤ k ∧ (k : Int) ≤ 1048576) (hx : (k : Int) < xs.length) (hl : xs.length ≤ 9223372036854775807) : CallA Try.prog 26 [.agg [AI n, LI xs], AI k] (AI (-1)) := by
  refine CallA.of Try.func26 rfl (by kernel_rfl) ?_
  refine R.go 10 (R.call true (szInt64S_no xs k hk hx hl) (by kernel_rfl) rfl (by kernel_rfl) ?_)
  exact R.go 13 (R.retE (AI (-1)) (by kernel_rfl) (by kernel_rfl) (by rfl))

theorem szModel_c (n : Int) (xs : List Int) (vs : List Int) (k : Int) (hk : (k : Int) ≤ 1048576) (hx : (xs.length : Int) + vs.length ≤ k) : CallA Try.prog 5 [.agg [AI n, LI xs, LI vs], AI k] (AI ((k : Int) - xs.length - vs.length)) := by
  refine CallA.of Try.func5 rfl (by kernel_rfl) ?_
  refine R.go 10 (R.call true (szFrame_c n xs k hk (by first | omega | (simp <;> omega))) (by kernel_rfl) rfl (by kernel_rfl) ?_)
  refine R.go 8 (R.cond (((k : Int) - xs.length) < 0) (by kernel_rfl) (fun c1 => ?_) (fun c1 => ?_))
  · exact R.go 4 (R.retE (AI (-1)) (by kernel_rfl) (by kernel_rfl) (by first | (rfl) | (exfalso; omega)))
  · refine R.go 6 (R.call true (szInt64S_c vs ((k : Int) - xs.length) (by first | omega | (simp <;> omega)) (by first | omega | (simp <;> omega))) (by kernel_rfl) rfl (by kernel_rfl) ?_)
    refine R.go 8 (R.cond (((((k : Int) - xs.length) : Int) - vs.length) < 0) (by kernel_rfl) (fun c2 => ?_) (fun c2 => ?_))
    · exact R.go 4 (R.retE (AI (-1)) (by kernel_rfl) (by kernel_rfl) (by first | (rfl) | (exfalso; omega)))
    · exact R.go 6 (R.retE (AI ((((k : Int) - xs.length) : Int) - vs.length)) (by kernel_rfl) (by kernel_rfl) (by first | (rfl) | (exfalso; omega)))

theorem szModel_no1 (n : Int) (xs : List Int) (vs : List Int) (k : Int) (hk : (0 : Int) ≤ k ∧ (k : Int) ≤ 1048576) (hx : (k : Int) < xs.length) (hl : xs.length ≤ 9223372036854775807) : CallA Try.prog 5 [.agg [AI n, LI xs, LI vs], AI k] (AI (-1)) := by
  refine CallA.of Try.func5 rfl (by kernel_rfl) ?_
  refine R.go 10 (R.call true (szFrame_no n xs k hk hx hl) (by kernel_rfl) rfl (by kernel_rfl) ?_)
  exact R.go 13 (R.retE (AI (-1)) (by kernel_rfl) (by kernel_rfl) (by rfl))

theorem szModel_no2 (n : Int) (xs : List Int) (vs : List Int) (k : Int) (hk : (0 : Int) ≤ k ∧ (k : Int) ≤ 1048576) (hy : (xs.length : Int) ≤ k) (hx : (k : Int) < (xs.length : Int) + vs.length) (hl : vs.length ≤ 9223372036854775807) : CallA Try.prog 5 [.agg [AI n, LI xs, LI vs], AI k] (AI (-1)) := by
  refine CallA.of Try.func5 rfl (by kernel_rfl) ?_
  refine R.go 10 (R.call true (szFrame_c n xs k (by omega) hy) (by kernel_rfl) rfl (by kernel_rfl) ?_)
  refine R.go 8 (R.cond (((k : Int) - xs.length) < 0) (by kernel_rfl) (fun c1 => ?_) (fun c1 => ?_))
  · exact R.go 4 (R.retE (AI (-1)) (by kernel_rfl) (by kernel_rfl) (by rfl))
  · refine R.go 6 (R.call true (szInt64S_no vs ((k : Int) - xs.length) (by first | omega | (simp <;> omega)) (by first | omega | (simp <;> omega)) hl) (by kernel_rfl) rfl (by kernel_rfl) ?_)
    exact R.go 13 (R.retE (AI (-1)) (by kernel_rfl) (by kernel_rfl) (by rfl))

theorem toNode_c (k : Int) (v : Int) : CallA Try.prog 59 [.agg [AI k, AI v]] (.agg [AI k, AI v]) := by
  refine CallA.of Try.func59 rfl (by kernel_rfl) ?_
  exact R.go 28 (R.retE (.agg [AI k, AI v]) (by kernel_rfl) (by kernel_rfl) (by rfl))

theorem toInt64S_c (a : List Int) (hl : a.length ≤ 1048576) : CallA Try.prog 36 [LI a] (ownA eI 2 1 a) := by
  refine CallA.of Try.func36 rfl (by kernel_rfl) ?_
  refine R.go 8 (R.mk eI 0 2 8 a.length a.length (by kernel_rfl) rfl (by decide) (by omega) (by kernel_rfl) ?_)
  refine R.go 8 (R.loop ((fun | (i, out) => (⟨(frm 22 [(0, LI a), (3, .ref 0), (4, AI (i : Int))]), [rowA eI 2 1 out]⟩ : St) : Nat × (List Int) → St)) (fun | (i, out) => (i ≤ a.length) ∧ (out.length = a.length) ∧ (out.take i = a.take i)) (fun | (i, out) => a.length - i) (0, (List.replicate a.length 0)) [0, 3, 4] none (by kernel_rfl) (by kernel_rfl) (by kernel_rfl) ⟨(by omega), (by simp), (by rfl)⟩ ?_)
  rintro ⟨i, out⟩ ⟨h4_1, h4_2, h4_3⟩ R1 N2
  refine R.go 8 (R.cond ((i : Int) < (a.length : Int)) (by kernel_rfl) (fun c5 => ?_) (fun c5 => ?_))
  · refine R.go 8 (R.idx eI a 0 i (i : Int) (by kernel_rfl) rfl eI_len (by omega) (by kernel_rfl) ?_)
    refine R.go 1 (R.idxO 0 1 out.length i (i : Int) (by kernel_rfl) rfl (by omega) (by kernel_rfl) ?_)
    refine R.stI 0 2 out i (a.getD i 0) (by kernel_rfl) (by omega) (by kernel_rfl) ?_
    refine R.go 4 (R.ar ((i : Int) + 1) (by kernel_rfl) (by omega) (by omega) (by kernel_rfl) ?_)
    exact R.go 2 (R.stop R1 (by kernel_rfl) (N2 (i + 1, out.set i (a.getD i 0)) [0, 3, 4] none _ (by kernel_rfl) (by kernel_rfl) ⟨(by omega), (by simp <;> omega), (by exact take_step _ _ 0 _ (by simp <;> omega) (by omega) (by rw [List.take_set_of_le (by omega)]; assumption) (by rw [getD_set_eq _ _ _ _ (by omega)]))⟩ (by show (a.length - (i + 1)) < (a.length - i); omega)))
  · exact R.go 6 (R.retE (ownA eI 2 1 out) (by kernel_rfl) (by kernel_rfl) (by first | (rw [show out = a from take_all (i := i) (by omega) (by omega) (by assumption)]) | (exfalso; omega)))

theorem toNodeS_c (a : List (Int × Int)) (hl : a.length ≤ 1048576) : CallA Try.prog 37 [LN a] (ownA eN 86 2 a) := by
  refine CallA.of Try.func37 rfl (by kernel_rfl) ?_
  refine R.go 8 (R.mk eN (0, 0) 86 16 a.length a.length (by kernel_rfl) rfl (by decide) (by omega) (by kernel_rfl) ?_)
  refine R.go 8 (R.loop ((fun | (i, out) => (⟨(frm 23 [(0, LN a), (3, .ref 0), (4, AI (i : Int))]), [rowA eN 86 2 out]⟩ : St) : Nat × (List (Int × Int)) → St)) (fun | (i, out) => (i ≤ a.length) ∧ (out.length = a.length) ∧ (out.take i = a.take i)) (fun | (i, out) => a.length - i) (0, (List.replicate a.length (0, 0))) [0, 3, 4] none (by kernel_rfl) (by kernel_rfl) (by kernel_rfl) ⟨(by omega), (by simp), (by rfl)⟩ ?_)
  rintro ⟨i, out⟩ ⟨h4_1, h4_2, h4_3⟩ R1 N2
  refine R.go 8 (R.cond ((i : Int) < (a.length : Int)) (by kernel_rfl) (fun c5 => ?_) (fun c5 => ?_))
  · refine R.go 8 (R.idx eN a (0, 0) i (i : Int) (by kernel_rfl) rfl eN_len (by omega) (by kernel_rfl) ?_)
    refine R.go 1 (R.call true (toNode_c ((a.getD i (0, 0)).1) ((a.getD i (0, 0)).2)) (by kernel_rfl) rfl (by kernel_rfl) ?_)
    refine R.idxO 0 2 out.length i (i : Int) (by kernel_rfl) rfl (by omega) (by kernel_rfl) ?_
    refine R.stN eN 0 86 2 out i ((a.getD i (0, 0)).1, (a.getD i (0, 0)).2) (by kernel_rfl) eN_len (by omega) (by kernel_rfl) ?_
    refine R.go 4 (R.ar ((i : Int) + 1) (by kernel_rfl) (by omega) (by omega) (by kernel_rfl) ?_)
    exact R.go 2 (R.stop R1 (by kernel_rfl) (N2 (i + 1, out.set i ((a.getD i (0, 0)).1, (a.getD i (0, 0)).2)) [0, 3, 4] none _ (by kernel_rfl) (by kernel_rfl) ⟨(by omega), (by simp <;> omega), (by exact take_step _ _ (0, 0) _ (by simp <;> omega) (by omega) (by rw [List.take_set_of_le (by omega)]; assumption) (by rw [getD_set_eq _ _ _ _ (by omega)]))⟩ (by show (a.length - (i + 1)) < (a.length - i); omega)))
  · exact R.go 6 (R.retE (ownA eN 86 2 out) (by kernel_rfl) (by kernel_rfl) (by first | (rw [show out = a from take_all (i := i) (by omega) (by omega) (by assumption)]) | (exfalso; omega)))

theorem toFrame_c (n : Int) (xs : List Int) (hl : xs.length ≤ 1048576) : CallA Try.prog 35 [.agg [AI n, LI xs]] (.agg [AI n, ownA eI 2 1 xs]) := by
  refine CallA.of Try.func35 rfl (by kernel_rfl) ?_
  refine R.go 20 (R.call true (toInt64S_c xs hl) (by kernel_rfl) rfl (by kernel_rfl) ?_)
  exact R.go 8 (R.retE (.agg [AI n, ownA eI 2 1 xs]) (by kernel_rfl) (by kernel_rfl) (by rfl))

theorem toModel_c (n : Int) (xs : List Int) (vs : List Int) (hl : xs.length ≤ 1048576) (hl2 : vs.length ≤ 1048576) : CallA Try.prog 8 [.agg [AI n, LI xs, LI vs]] (.agg [AI n, ownA eI 2 1 xs, ownA eI 2 1 vs]) := by
  refine CallA.of Try.func8 rfl (by kernel_rfl) ?_
  refine R.go 13 (R.call true (toFrame_c n xs hl) (by kernel_rfl) rfl (by kernel_rfl) ?_)
  refine R.go 7 (R.call true (toInt64S_c vs hl2) (by kernel_rfl) rfl (by kernel_rfl) ?_)
  exact R.go 8 (R.retE (.agg [AI n, ownA eI 2 1 xs, ownA eI 2 1 vs]) (by kernel_rfl) (by kernel_rfl) (by rfl))

theorem eqInt64S_c (a : List Int) (b : List Int) (la : a.length ≤ 1000000000) : CallA Try.prog 11 [LI a, LI b] (.bool (decide (a = b))) := by
  refine CallA.of Try.func11 rfl (by kernel_rfl) ?_
  refine R.go 13 (R.condN ((a.length : Int) = (b.length : Int)) (by kernel_rfl) (fun c1 => ?_) (fun c1 => ?_))
  · exact R.go 4 (R.retE (.bool false) (by kernel_rfl) (by kernel_rfl) (by first | (first | (rw [dF (fun h => by subst h; omega)]) | (rw [dT (take_all (i := i) (by omega) (by omega) (by assumption))])) | (exfalso; omega)))
  · refine R.go 7 (R.loop (fun (i : Nat) => (⟨(frm 26 [(0, LI a), (1, LI b), (5, AI (i : Int))]), []⟩ : St)) (fun (i : Nat) => (i ≤ a.length) ∧ (a.take i = b.take i)) (fun (i : Nat) => a.length - i) 0 [0, 1, 5] none (by kernel_rfl) (by kernel_rfl) (by kernel_rfl) ⟨(by omega), (by rfl)⟩ ?_)
    rintro i ⟨h4_1, h4_2⟩ R2 N3
    refine R.go 8 (R.cond ((i : Int) < (a.length : Int)) (by kernel_rfl) (fun c5 => ?_) (fun c5 => ?_))
    · refine R.go 7 (R.idx eI a 0 i (i : Int) (by kernel_rfl) rfl eI_len (by omega) (by kernel_rfl) ?_)
      refine R.go 3 (R.idx eI b 0 i (i : Int) (by kernel_rfl) rfl eI_len (by omega) (by kernel_rfl) ?_)
      refine R.go 3 (R.condN ((a.getD i 0) = (b.getD i 0)) (by kernel_rfl) (fun c6 => ?_) (fun c6 => ?_))
      · exact R.go 4 (R.retE (.bool false) (by kernel_rfl) (by kernel_rfl) (by first | (first | (rw [dF (fun h => by subst h; omega)]) | (rw [dT (take_all (i := i) (by omega) (by omega) (by assumption))])) | (exfalso; omega)))
      · refine R.go 4 (R.ar ((i : Int) + 1) (by kernel_rfl) (by omega) (by omega) (by kernel_rfl) ?_)
        exact R.go 2 (R.stop R2 (by kernel_rfl) (N3 (i + 1) [0, 1, 5] none _ (by kernel_rfl) (by kernel_rfl) ⟨(by omega), (by exact take_step a b 0 i (by omega) (by omega) (by assumption) (by assumption))⟩ (by show (a.length - (i + 1)) < (a.length - i); omega)))
    · exact R.go 5 (R.retE (.bool true) (by kernel_rfl) (by kernel_rfl) (by first | (first | (rw [dF (fun h => by subst h; omega)]) | (rw [dT (take_all (i := i) (by omega) (by omega) (by assumption))])) | (exfalso; omega)))

theorem eqNode_c (a1 : Int) (a2 : Int) (b1 : Int) (b2 : Int) : CallA Try.prog 70 [.agg [AI a1, AI a2], .agg [AI b1, AI b2]] (.bool (decide (a1 = b1 ∧ a2 = b2))) := by
  refine CallA.of Try.func70 rfl (by kernel_rfl) ?_
  refine R.go 15 (R.condN (a1 = b1) (by kernel_rfl) (fun c1 => ?_) (fun c1 => ?_))
  · exact R.go 4 (R.retE (.bool false) (by kernel_rfl) (by kernel_rfl) (by first | (simp [*]) | (exfalso; omega)))
  · refine R.go 10 (R.condN (a2 = b2) (by kernel_rfl) (fun c2 => ?_) (fun c2 => ?_))
    · exact R.go 4 (R.retE (.bool false) (by kernel_rfl) (by kernel_rfl) (by first | (simp [*]) | (exfalso; omega)))
    · exact R.go 5 (R.retE (.bool true) (by kernel_rfl) (by kernel_rfl) (by first | (simp [*]) | (exfalso; omega)))

theorem eqNodeS_c (a : List (Int × Int)) (b : List (Int × Int)) (la : a.length ≤ 1000000000) : CallA Try.prog 44 [LN a, LN b] (.bool (decide (a = b))) := by
  refine CallA.of Try.func44 rfl (by kernel_rfl) ?_
  refine R.go 13 (R.condN ((a.length : Int) = (b.length : Int)) (by kernel_rfl) (fun c1 => ?_) (fun c1 => ?_))
  · exact R.go 4 (R.retE (.bool false) (by kernel_rfl) (by kernel_rfl) (by first | (first | (rw [dF (fun h => by subst h; omega)]) | (rw [dT (take_all (i := i) (by omega) (by omega) (by assumption))])) | (exfalso; omega)))
  · refine R.go 7 (R.loop (fun (i : Nat) => (⟨(frm 27 [(0, LN a), (1, LN b), (5, AI (i : Int))]), []⟩ : St)) (fun (i : Nat) => (i ≤ a.length) ∧ (a.take i = b.take i)) (fun (i : Nat) => a.length - i) 0 [0, 1, 5] none (by kernel_rfl) (by kernel_rfl) (by kernel_rfl) ⟨(by omega), (by rfl)⟩ ?_)
    rintro i ⟨h4_1, h4_2⟩ R2 N3
    refine R.go 8 (R.cond ((i : Int) < (a.length : Int)) (by kernel_rfl) (fun c5 => ?_) (fun c5 => ?_))
    · refine R.go 7 (R.idx eN a (0, 0) i (i : Int) (by kernel_rfl) rfl eN_len (by omega) (by kernel_rfl) ?_)
      refine R.go 3 (R.idx eN b (0, 0) i (i : Int) (by kernel_rfl) rfl eN_len (by omega) (by kernel_rfl) ?_)
      refine R.go 1 (R.call true (eqNode_c ((a.getD i (0, 0)).1) ((a.getD i (0, 0)).2) ((b.getD i (0, 0)).1) ((b.getD i (0, 0)).2)) (by kernel_rfl) rfl (by kernel_rfl) ?_)
      refine R.go 2 (R.condN (((a.getD i (0, 0)).1) = ((b.getD i (0, 0)).1) ∧ ((a.getD i (0, 0)).2) = ((b.getD i (0, 0)).2)) (by kernel_rfl) (fun c6 => ?_) (fun c6 => ?_))
      · exact R.go 4 (R.retE (.bool false) (by kernel_rfl) (by kernel_rfl) (by first | (first | (rw [dF (fun h => by subst h; omega)]) | (rw [dT (take_all (i := i) (by omega) (by omega) (by assumption))])) | (exfalso; omega)))
      · refine R.go 4 (R.ar ((i : Int) + 1) (by kernel_rfl) (by omega) (by omega) (by kernel_rfl) ?_)
        exact R.go 2 (R.stop R2 (by kernel_rfl) (N3 (i + 1) [0, 1, 5] none _ (by kernel_rfl) (by kernel_rfl) ⟨(by omega), (by exact take_step a b (0, 0) i (by omega) (by omega) (by assumption) (Prod.ext (‹_ ∧ _›).1 (‹_ ∧ _›).2))⟩ (by show (a.length - (i + 1)) < (a.length - i); omega)))
    · exact R.go 5 (R.retE (.bool true) (by kernel_rfl) (by kernel_rfl) (by first | (first | (rw [dF (fun h => by subst h; omega)]) | (rw [dT (take_all (i := i) (by omega) (by omega) (by assumption))])) | (exfalso; omega)))

theorem eqFrame_c (n : Int) (xs : List Int) (la : xs.length ≤ 1000000000) : CallA Try.prog 43 [.agg [AI n, LI xs], .agg [AI n, LI xs]] (.bool true) := by
  refine CallA.of Try.func43 rfl (by kernel_rfl) ?_
  refine R.go 15 (R.els (!decide (n = n)) (by kernel_rfl) (nF rfl) ?_)
  refine R.go 8 (R.call true (eqInt64S_c xs xs la) (by kernel_rfl) rfl (by kernel_rfl) ?_)
  refine R.go 2 (R.els (!decide (xs = xs)) (by kernel_rfl) (nF rfl) ?_)
  exact R.go 5 (R.retE (.bool true) (by kernel_rfl) (by kernel_rfl) (by rfl))

theorem eqModel_c (n : Int) (xs : List Int) (vs : List Int) (la : xs.length ≤ 1000000000) (lb : vs.length ≤ 1000000000) : CallA Try.prog 12 [.agg [AI n, LI xs, LI vs], .agg [AI n, LI xs, LI vs]] (.bool true) := by
  refine CallA.of Try.func12 rfl (by kernel_rfl) ?_
  refine R.go 13 (R.call true (eqFrame_c n xs la) (by kernel_rfl) rfl (by kernel_rfl) ?_)
  refine R.go 11 (R.call true (eqInt64S_c vs vs lb) (by kernel_rfl) rfl (by kernel_rfl) ?_)
  refine R.go 2 (R.els (!decide (vs = vs)) (by kernel_rfl) (nF rfl) ?_)
  exact R.go 5 (R.retE (.bool true) (by kernel_rfl) (by kernel_rfl) (by rfl))

end Go.Proofs.Ytpalghbfhgimkaa


/-! TruthSet, IsTrueIn, IsTrueAt of both packages; their laws. -/
namespace Go.Proofs.Ytpalghbfhgimkaa
open Go.RowKit Go.Abs

theorem l06TruthT_c (n : Int) (xs vs : List Int) (a : List (Int × Int)) (hF : okFr n xs = true) (hok : OKM vs.length a) (hl : a.length ≤ 1000000000) : CallA Try.prog 31 [.agg [AI n, LI xs, LI vs], LN a] (AI (tset n xs vs a)) := by
  obtain ⟨h0, h8, hx, _⟩ := okFr_rel hF
  have h := l06Truth_c a.length n xs vs a rfl hok h0 h8 (by omega) hl
  rw [bxAB hF] at h
  exact h
theorem truthIn_c (n : Int) (xs : List Int) (vs : List Int) (a : List (Int × Int)) (hok : OKM vs.length a) (h0 : 0 ≤ n) (h1 : n ≤ 8) (hx : xs.length ≤ 60) (hl : a.length ≤ 1000000000) : CallA Try.prog 41 [.agg [AI n, LI xs, LI vs], LN a] (AI (tset n xs vs a)) := by
  refine CallA.of Try.func41 rfl (by kernel_rfl) ?_
  refine R.go 12 (R.call true (truthSet_c n xs vs a hok h0 h1 hx hl) (by kernel_rfl) rfl (by kernel_rfl) ?_)
  exact R.go 2 (R.retE (AI (gv (mT n) (mU n (bxB xs)) vs a)) (by kernel_rfl) (by kernel_rfl) (by first | (rfl) | (exfalso; omega)))

end Go.Proofs.Ytpalghbfhgimkaa


/-! Members of masks; variables of lists of formulas; which lists are formulas. -/
namespace Go.Proofs.Ytpalghbfhgimkaa
open Go.RowKit Go.Abs

def allF (l : List (List (Int × Int))) : Bool := !l.any fun a => !isF a
theorem allF_get {l : List (List (Int × Int))} (h : allF l = true) (j : Nat) (hj : j < l.length) : isF (l.getD j []) = true := by
  unfold allF at h
  rw [Bool.not_eq_true', List.any_eq_false] at h
  have h1 : l.getD j [] ∈ l := by
    rw [List.getD_eq_getElem?_getD, List.getElem?_eq_getElem hj, Option.getD_some]
    exact List.getElem_mem hj
  simpa using h _ h1
def fidxF (p : List (Int × Int) → Bool) : List (List (Int × Int)) → Int → Int
  | [], _ => -1
  | x :: l, i => if p x = true then i else fidxF p l (i + 1)
theorem drop_consF (a : List (List (Int × Int))) (j : Nat) (h : j < a.length) : a.drop j = a.getD j [] :: a.drop (j + 1) := by
  rw [List.drop_eq_getElem_cons h, List.getD_eq_getElem?_getD, List.getElem?_eq_getElem h]; rfl
theorem fidxF_hit {p : List (Int × Int) → Bool} {a : List (List (Int × Int))} {i : Nat} (h : i < a.length) (hp : p (a.getD i []) = true) : fidxF p (a.drop i) i = i := by
  rw [drop_consF a i h, fidxF, if_pos hp]
theorem fidxF_miss {p : List (Int × Int) → Bool} {a : List (List (Int × Int))} {i : Nat} (h : i < a.length) (hp : p (a.getD i []) = false) : fidxF p (a.drop i) i = fidxF p (a.drop (i + 1)) ((i + 1 : Nat) : Int) := by
  rw [drop_consF a i h, fidxF, if_neg (by rw [hp]; decide)]
  rfl
theorem fidxF_end {p : List (Int × Int) → Bool} {a : List (List (Int × Int))} {i : Nat} (h : a.length ≤ i) : fidxF p (a.drop i) i = -1 := by
  rw [List.drop_eq_nil_of_le h, fidxF]
theorem fidxF_any {p : List (Int × Int) → Bool} : ∀ {a : List (List (Int × Int))} {i : Int}, 0 ≤ i → (0 ≤ fidxF p a i ↔ a.any p = true)
  | [], i, h => by simp [fidxF]
  | x :: a, i, h => by
    have ih := fidxF_any (p := p) (a := a) (i := i + 1) (by omega)
    rw [fidxF, List.any_cons]
    by_cases hp : p x = true
    · simp [hp, h]
    · rw [if_neg hp, ih]; simp [hp]
/-- The rows of l are short. -/
def shortL (l : List (List (Int × Int))) : Prop := l.length ≤ 1000000000 ∧ ∀ j : Nat, j < l.length → (l.getD j []).length ≤ 1000000000
def notF (a : List (Int × Int)) : Bool := !isF a
theorem areFormulas1_c (a : List (Int × Int)) (hl : a.length ≤ 1000000000) : CallA Try.prog 65 [LN a] (.bool (notF a)) := by
  refine CallA.of Try.func65 rfl (by kernel_rfl) ?_
  refine R.go 7 (R.call true (isFormula_c a hl) (by kernel_rfl) rfl (by kernel_rfl) ?_)
  exact R.go 3 (R.retE (.bool (!(isF a))) (by kernel_rfl) (by kernel_rfl) (by first | (rfl) | (exfalso; omega)))

theorem index_notF_c (l : List (List (Int × Int))) (hs : shortL l) : CallA Try.prog 83 [LLN l, .fn 65 []] (AI (fidxF notF l 0)) := by
  have hl := hs.1
  refine CallA.of Try.func83 rfl (by kernel_rfl) ?_
  refine R.go 12 (R.loop (fun (i : Nat) => (⟨(frm 19 [(0, LLN l), (1, .fn 65 []), (7, AI l.length), (8, AI (i : Int))]), []⟩ : St)) (fun (i : Nat) => (i ≤ l.length) ∧ (fidxF notF l 0 = fidxF notF (l.drop i) i)) (fun (i : Nat) => l.length - i) 0 [0, 1, 7, 8] none (by kernel_rfl) (by kernel_rfl) (by kernel_rfl) ⟨(by omega), (by rfl)⟩ ?_)
  rintro i ⟨h3_1, h3_2⟩ R1 N2
  refine R.go 5 (R.cond ((i : Int) < (l.length : Int)) (by kernel_rfl) (fun c4 => ?_) (fun c4 => ?_))
  · have hj := hs.2 i (by omega)
    refine R.go 13 (R.idx eLN l [] i (i : Int) (by kernel_rfl) rfl eLN_len (by omega) (by kernel_rfl) ?_)
    refine R.go 1 (R.call true (areFormulas1_c (l.getD i []) (by first | omega | (simp <;> omega))) (by kernel_rfl) rfl (by kernel_rfl) ?_)
    refine R.go 1 (R.condB (notF (l.getD i [])) (by kernel_rfl) (fun c5 => ?_) (fun c5 => ?_))
    · exact R.go 5 (R.retE (AI (i : Int)) (by kernel_rfl) (by kernel_rfl) (by first | (apply congrArg AI; rw [‹fidxF notF l 0 = _›]; first | exact (fidxF_end (by omega)).symm | exact (fidxF_hit (by omega) (by assumption)).symm) | (exfalso; omega)))
    · refine R.go 3 (R.ar ((i : Int) + 1) (by kernel_rfl) (by omega) (by omega) (by kernel_rfl) ?_)
      exact R.go 2 (R.stop R1 (by kernel_rfl) (N2 (i + 1) [0, 1, 7, 8] none _ (by kernel_rfl) (by kernel_rfl) ⟨(by omega), (by rw [‹fidxF notF l 0 = _›]; exact fidxF_miss (by omega) (by assumption))⟩ (by show (l.length - (i + 1)) < (l.length - i); omega)))
  · exact R.go 5 (R.retE (AI (-1)) (by kernel_rfl) (by kernel_rfl) (by first | (apply congrArg AI; rw [‹fidxF notF l 0 = _›]; first | exact (fidxF_end (by omega)).symm | exact (fidxF_hit (by omega) (by assumption)).symm) | (exfalso; omega)))

theorem contains_notF_c (l : List (List (Int × Int))) (hs : shortL l) : CallA Try.prog 64 [LLN l, .fn 65 []] (.bool (l.any notF)) := by
  refine CallA.of Try.func64 rfl (by kernel_rfl) ?_
  refine R.go 8 (R.call true (index_notF_c l hs) (by kernel_rfl) rfl (by kernel_rfl) ?_)
  exact R.go 3 (R.retE (.bool (decide ((fidxF notF l 0) ≥ 0))) (by kernel_rfl) (by kernel_rfl) (by first | (apply congrArg AV.bool; rw [Bool.eq_iff_iff, decide_eq_true_iff]; exact fidxF_any (Int.le_refl 0)) | (exfalso; omega)))

theorem areFormulas_c (l : List (List (Int × Int))) (hs : shortL l) : CallA Try.prog 39 [LLN l] (.bool (allF l)) := by
  refine CallA.of Try.func39 rfl (by kernel_rfl) ?_
  refine R.go 7 (R.call true (contains_notF_c l hs) (by kernel_rfl) rfl (by kernel_rfl) ?_)
  exact R.go 3 (R.retE (.bool (!(l.any notF))) (by kernel_rfl) (by kernel_rfl) (by first | (rfl) | (exfalso; omega)))

end Go.Proofs.Ytpalghbfhgimkaa


/-! Given models as abstract values: a frame (a number, a row) and a row. -/
namespace Go.Abs
open Go.RowKit Go.ChangeShapes Go.WideShapes Go.Deep

section
variable {H : Type} {enc : TypeId × Value → H} {P : Program} {w : World} {base : Nat} {spare : Nat → Bool} {held : Bool}

theorem trod_int_row {t e : TypeId} {f0 f1 : Field} {fuel : Nat} {cs : List Value} {x : DataW H × List MemPlace} (ht : P.underlying t = some (.struct #[f0, f1])) (hc : cs.length = 2)
    (o0 : f0.offset = 0) (o1 : f1.offset = 1) (c0 : P.cellsOf f0.type = 1) (c1 : P.cellsOf f1.type = 1) (u0 : P.underlying f0.type = some (.int .i64)) (u1 : P.underlying f1.type = some (.slice e)) (ue : P.underlying e = some (.int .i64)) (ce : P.cellsOf e = 1)
    (h : DataW.trod enc P w base spare held fuel t cs = some x) : ∃ (n : Int) (v : Value) (xs : List Int), cs = [.int .i64 n, v] ∧ xs.length ≤ maxLen ∧ Rel w (Z0 w) [] (LI xs) v := by
  obtain ⟨ys, k, _, _, _, hyl, hfs⟩ := DataW.trod_struct ht h
  match ys, hyl, cs, hc with
  | [y0, y1], _, [v0, v1], _ =>
    have g0 := hfs 0 f0 rfl
    have g1 := hfs 1 f1 rfl
    simp [o0, o1, c0, c1] at g0 g1
    obtain ⟨n, hn, _⟩ := DataW.trod_int u0 g0
    simp at hn
    subst hn
    obtain ⟨v, hv, xs, hx, hr⟩ := trod_ints u1 ue ce g1
    simp at hv
    subst hv
    exact ⟨n, _, xs, rfl, hx, hr⟩

theorem open_model {r : Reach} {b0 : Nat} {t e e' : TypeId} {f0 f1 f2 f3 : Field} {v : Value} {d : DataW H} {ps : List MemPlace} (ht : P.underlying t = some (.struct #[f0, f1])) (ct : P.cellsOf t = 3)
    (o0 : f0.offset = 0) (o1 : f1.offset = 2) (c0 : P.cellsOf f0.type = 2) (c1 : P.cellsOf f1.type = 1)
    (hf : P.underlying f0.type = some (.struct #[f2, f3])) (o2 : f2.offset = 0) (o3 : f3.offset = 1) (c2 : P.cellsOf f2.type = 1) (c3 : P.cellsOf f3.type = 1)
    (u2 : P.underlying f2.type = some (.int .i64)) (u3 : P.underlying f3.type = some (.slice e)) (ue : P.underlying e = some (.int .i64)) (ce : P.cellsOf e = 1)
    (u1 : P.underlying f1.type = some (.slice e')) (ue' : P.underlying e' = some (.int .i64)) (ce' : P.cellsOf e' = 1)
    (hval : Value.okWide P w r b0 t v) (hd : DataW.Trod enc P w base spare held t v d ps) : ∃ (n : Int) (xs vs : List Int), xs.length ≤ maxLen ∧ vs.length ≤ maxLen ∧ Rel w (Z0 w) [] (.agg [AI n, LI xs, LI vs]) v := by
  obtain ⟨cs, rfl, hcs⟩ := okWide_struct ht hval
  rw [ct] at hcs
  obtain ⟨fuel, hfu⟩ := hd
  simp only [Value.cells] at hfu
  obtain ⟨ys, k, _, _, _, hyl, hfs⟩ := DataW.trod_struct ht hfu
  obtain ⟨cl⟩ := cs
  match ys, hyl, cl, hcs with
  | [y0, y1], _, [v0, v1, v2], _ =>
    have g0 := hfs 0 f0 rfl
    have g1 := hfs 1 f1 rfl
    simp [o0, o1, c0, c1] at g0 g1
    obtain ⟨n, v, xs, hv, hx, hr⟩ := trod_int_row hf (by rfl) o2 o3 c2 c3 u2 u3 ue ce g0
    obtain ⟨v', hv', vs, hx', hr'⟩ := trod_ints u1 ue' ce' g1
    simp at hv hv'
    obtain ⟨rfl, rfl⟩ := hv
    subst hv'
    exact ⟨n, xs, vs, hx, hx', [_, _, _], rfl, RelL.cons (by simp [AI, Rel]) (RelL.cons hr (RelL.cons hr' RelL.nil))⟩

end
end Go.Abs
