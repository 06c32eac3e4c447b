/- Texts of the proof: Q06, H03, Q07, P04, SymX, SymY. -/
import Derived.RangeFuncNested
import Derived.Test.YtehbliocfpppoaaGreatPartE

/-! Models: truth sets of both packages. -/
namespace Go.Proofs.YtehbliocfpppoaaGreat
open Go.RowKit Go.Abs
def okMo (n : Int) (xs vs : List Int) : Bool := okFr n xs && decide (vs.length = 6) && !vs.any fun m => !inR m 0 ((shl64 1 n) - 1)
theorem okMo_1 {n : Int} {xs vs : List Int} (h : okFr n xs = false) : okMo n xs vs = false := by simp [okMo, h]
theorem okMo_2 {n : Int} {xs vs : List Int} (h : ¬ (vs.length : Int) = 6) : okMo n xs vs = false := by
 have h : ¬ vs.length = 6 := by omega
 simp [okMo, h]
theorem okMo_3 {n : Int} {xs vs : List Int} (h : okFr n xs = true) (h2 : (vs.length : Int) = 6) : okMo n xs vs = !vs.any fun m => !inR m 0 ((shl64 1 n) - 1) := by
 have h2 : vs.length = 6 := by omega
 simp [okMo, h, h2]
theorem okMo_out {n : Int} {xs vs : List Int} (h : okFr n xs = true) (h2 : (vs.length : Int) = 6) : (!vs.any (outR n)) = okMo n xs vs := by
 rw [okMo_3 h h2]
 obtain ⟨h0, h8, _⟩ := okFr_rel h
 have e : outR n = fun m => !inR m 0 ((shl64 1 n) - 1) := by
  funext m
  rw [outR, (inR_iff n 0 30).2 (by omega), Bool.true_and]
 rw [e]
theorem okMo_fr {n : Int} {xs vs : List Int} (h : okMo n xs vs = true) : okFr n xs = true ∧ vs.length = 6 := by
 simp only [okMo, Bool.and_eq_true, decide_eq_true_eq] at h
 exact h.1
def mT (n : Int) (k p q : Int) : Int := if k = 2 then band p q else if k = 3 then bor p q else bor (bnot ((shl64 1 n) - 1) p) q
def mU (n : Int) (bx : Int → Int) (k p : Int) : Int := if k = 5 then bx p else bnot ((shl64 1 n) - 1) (bx (bnot ((shl64 1 n) - 1) p))
def bxB (xs : List Int) (m : Int) : Int := boxB xs m xs.length
def mcode (n : Int) (xs vs : List Int) (a : List (Int × Int)) : Int := if okMo n xs vs = true ∧ isF a = true then 0 else 1
def tset (n : Int) (xs vs : List Int) (a : List (Int × Int)) : Int := gv (mT n) (mU n (bxB xs)) vs a
theorem mcode_1 {n : Int} {xs vs : List Int} {a : List (Int × Int)} (h : okMo n xs vs = false) : 1 = mcode n xs vs a := by rw [mcode, if_neg (by simp [h])]
theorem mcode_2 {n : Int} {xs vs : List Int} {a : List (Int × Int)} (h : isF a = false) : 1 = mcode n xs vs a := by rw [mcode, if_neg (by simp [h])]
theorem mcode_0 {n : Int} {xs vs : List Int} {a : List (Int × Int)} (h : okMo n xs vs = true) (h2 : isF a = true) : 0 = mcode n xs vs a := by rw [mcode, if_pos ⟨h, h2⟩]
theorem mcode_ok {n : Int} {xs vs : List Int} {a : List (Int × Int)} (h : mcode n xs vs a = 0) : okMo n xs vs = true ∧ isF a = true := by
 unfold mcode at h
 split at h
 ·assumption
 ·cases h
theorem isModel1_c (m n : Int) (xs vs : List Int) : CallA Tryz.prog 195 [AI m, .rptr [AI n, LI xs, LI vs]] (.bool (outR n m)) := by
 refine CallA.of Tryz.func195 rfl (by kernel_rfl) (R.go 10 (k15 true (isMask_c n m) ?_))
 exact R.go 3 (k18 (.bool (!(!(outR n m)))) (by first | (apply congrArg AV.bool; simp) | (exfalso; omega)))
theorem indexM_c (a : List Int) (n : Int) (xs vs : List Int) (hl : a.length ≤ 1000000000) : CallA Tryz.prog 190 [LI a, .fn 195 [.rptr [AI n, LI xs, LI vs]]] (AI (fidxI (outR n) a 0)) := by
 refine CallA.of Tryz.func190 rfl (by kernel_rfl) (R.go 12 (k16 (fun (i : Nat) => (⟨(frm 19 [(0, LI a), (1, .fn 195 [.rptr [AI n, LI xs, LI vs]]), (7, AI a.length), (8, AI (i : Int))]), []⟩ : St)) (fun (i : Nat) => (i ≤ a.length) ∧ (fidxI (outR n) a 0 = fidxI (outR n) (a.drop i) i)) (fun (i : Nat) => a.length - i) 0 [0, 1, 7, 8] none ⟨(by omega), (by rfl)⟩ ?_))
 rintro i ⟨h3_1, h3_2⟩ R1 N2
 refine R.go 5 (k4 ((i : Int) < (a.length : Int)) (fun c4 => ?_) (fun c4 => ?_))
 ·refine R.go 13 (k10 eI a 0 i (i : Int) eI_len (R.go 1 (k15 true (isModel1_c (a.getD i 0) n xs vs) (R.go 1 (k3 (outR n (a.getD i 0)) (fun c5 => ?_) (fun c5 => ?_))))))
  ·exact R.go 5 (k18 (AI (i : Int)) (by first | (apply congrArg AI; rw [‹fidxI (outR n) a 0 = _›]; first | exact (fidxI_end (by omega)).symm | exact (fidxI_hit (by omega) (by assumption)).symm) | (exfalso; omega)))
  refine R.go 3 (k1 ((i : Int) + 1) ?_)
  exact R.go 2 (k17 R1 (N2 (i + 1) [0, 1, 7, 8] none _ (by kernel_rfl) (by kernel_rfl) ⟨(by omega), (by rw [‹fidxI (outR n) a 0 = _›]; exact fidxI_miss (by omega) (by assumption))⟩ (by show (a.length - (i + 1)) < (a.length - i); omega)))
 exact R.go 5 (k18 (AI (-1)) (by first | (apply congrArg AI; rw [‹fidxI (outR n) a 0 = _›]; first | exact (fidxI_end (by omega)).symm | exact (fidxI_hit (by omega) (by assumption)).symm) | (exfalso; omega)))
theorem containsM_c (a : List Int) (n : Int) (xs vs : List Int) (hl : a.length ≤ 1000000000) : CallA Tryz.prog 105 [LI a, .fn 195 [.rptr [AI n, LI xs, LI vs]]] (.bool (a.any (outR n))) := by
 refine CallA.of Tryz.func105 rfl (by kernel_rfl) (R.go 8 (k15 true (indexM_c a n xs vs hl) ?_))
 exact R.go 3 (k18 (.bool (decide ((fidxI (outR n) a 0) ≥ 0))) (by first | (apply congrArg AV.bool; rw [Bool.eq_iff_iff, decide_eq_true_iff]; exact fidxI_any (Int.le_refl 0)) | (exfalso; omega)))
theorem isModel_c (n : Int) (xs vs : List Int) (l1 : xs.length ≤ 1000000000) (l2 : vs.length ≤ 1000000000) : CallA Tryz.prog 122 [.agg [AI n, LI xs, LI vs]] (.bool (okMo n xs vs)) := by
 refine CallA.of Tryz.func122 rfl (by kernel_rfl) (R.go 9 (k15 true (isFrame_c n xs l1) (R.go 1 ((Bool.eq_false_or_eq_true (okFr n xs)).elim (fun c1 => ?_) (fun c1 => ?_)))))
 ·refine k7 true c1 ?_
  iterate 3 refine R.go 1 (k7 true c1 ?_)
  refine R.go 1 (k9 true c1 (R.go 1 ?_))
  by_cases c2 : (vs.length : Int) = 6
  ·refine k7 true (dT c2) ?_
   iterate 3 refine R.go 1 (k7 true (dT c2) ?_)
   refine k15 false (containsM_c vs n xs vs l2) (k7 true (dT c2) (R.go 1 (k9 true (dT c2) ?_)))
   exact R.go 2 (k18 (.bool (!(vs.any (outR n)))) (by first | (apply congrArg AV.bool; first | exact (okMo_1 (by assumption)).symm | exact (okMo_2 (by assumption)).symm | exact (okMo_3 (by assumption) (by assumption)).symm | exact okMo_out (by assumption) (by assumption)) | (exfalso; omega)))
  iterate 5 refine k8 true (dF c2) ?_
  refine k9 false (dF c2) ?_
  exact R.go 2 (k18 (.bool false) (by first | (apply congrArg AV.bool; first | exact (okMo_1 (by assumption)).symm | exact (okMo_2 (by assumption)).symm | exact (okMo_3 (by assumption) (by assumption)).symm | exact okMo_out (by assumption) (by assumption)) | (exfalso; omega)))
 iterate 4 refine k8 true c1 ?_
 refine k9 false c1 ?_
 exact R.go 9 (k18 (.bool false) (by first | (apply congrArg AV.bool; first | exact (okMo_1 (by assumption)).symm | exact (okMo_2 (by assumption)).symm | exact (okMo_3 (by assumption) (by assumption)).symm | exact okMo_out (by assumption) (by assumption)) | (exfalso; omega)))
theorem modelCode_c (n : Int) (xs vs : List Int) (a : List (Int × Int)) (l1 : xs.length ≤ 1000000000) (l2 : vs.length ≤ 1000000000) (hl : a.length ≤ 1000000000) : CallA Tryz.prog 60 [.agg [AI n, LI xs, LI vs], LN a] (AI (mcode n xs vs a)) := by
 refine CallA.of Tryz.func60 rfl (by kernel_rfl) (R.go 9 (k15 true (isModel_c n xs vs l1 l2) (R.go 2 ((Bool.eq_false_or_eq_true (okMo n xs vs)).elim (fun c1 => ?_) (fun c1 => ?_)))))
 ·refine k7 false (bnF c1) (R.go 1 (k7 false (bnF c1) (k15 true (isFormula_c a hl) (k7 false (bnF c1) (R.go 1 (k9 false (bnF c1) (R.go 1 (k20 (isF a) (fun c2 => ?_) (fun c2 => ?_)))))))))
  ·exact R.go 4 (k18 (AI 1) (by first | (apply congrArg AI; first | exact mcode_1 (by assumption) | exact mcode_2 (by assumption) | exact mcode_0 (by assumption) (by assumption)) | (exfalso; omega)))
  exact R.go 5 (k18 (AI 0) (by first | (apply congrArg AI; first | exact mcode_1 (by assumption) | exact mcode_2 (by assumption) | exact mcode_0 (by assumption) (by assumption)) | (exfalso; omega)))
 iterate 3 refine k8 false (bnT c1) ?_
 refine k9 true (bnT c1) ?_
 exact R.go 6 (k18 (AI 1) (by first | (apply congrArg AI; first | exact mcode_1 (by assumption) | exact mcode_2 (by assumption) | exact mcode_0 (by assumption) (by assumption)) | (exfalso; omega)))
theorem truthSet_c (n : Int) (xs vs : List Int) (a : List (Int × Int)) (hok : OKM vs.length a) (h0 : 0 ≤ n) (h1 : n ≤ 8) (hx : xs.length ≤ 60) (hl : a.length ≤ 1000000000) : CallA Tryz.prog 53 [.agg [AI n, LI xs], LI vs, LN a] (AI (gv (mT n) (mU n (bxB xs)) vs a)) := by
 have hlen := okm_pos hok
 refine CallA.of Tryz.func53 rfl (by kernel_rfl) (R.go 8 (k15 true (frameAll_c n xs h0 (by omega)) (R.go 16 (R.arE ((a.length : Int) - 1) ((a.length - 1 : Nat) : Int) (by kernel_rfl) (by omega) (by omega) (by omega) (by kernel_rfl) (R.go 3 (R.nilB 1 0 2 1 (by kernel_rfl) (k16 ((fun | (i, S) => (⟨(frm 86 [(1, LI vs), (2, LN a), (3, .ptr 0 0), (7, AI ((shl64 1 n) - 1)), (8, .ptr 1 0), (9, .fn 114 [.ptr 1 0]), (10, AI i)]), [.box 46 [AI n, LI xs], .box 22 [.ref 2], rowA eI 2 1 S]⟩ : St) : Int × (List Int) → St)) (fun | (i, S) => (-1 ≤ i) ∧ (i < a.length) ∧ (S.length ≤ a.length - i) ∧ (S = (stkG (mT n) (mU n (bxB xs)) vs (a.drop (i + 1).toNat)).reverse)) (fun | (i, S) => (i + 1).toNat) (((a.length - 1 : Nat) : Int), []) [1, 2, 3, 7, 8, 9, 10] none ⟨(by omega), (by omega), (by simp <;> omega), (by rw [show (((a.length - 1 : Nat) : Int) + 1).toNat = a.length by omega, List.drop_length]; rfl)⟩ ?_)))))))
 rintro ⟨i, S⟩ ⟨h4_1, h4_2, h4_3, h4_4⟩ R1 N2
 have hk := fun h : 0 ≤ i => okm_get hok i.toNat (by omega)
 have hS2 := fun h : 0 ≤ i => stkg_room hok ‹S = _› h (by omega)
 have hP2 := fun h : ((a.getD i.toNat (0, 0)).1 = 2 ∨ (a.getD i.toNat (0, 0)).1 = 3 ∨ (a.getD i.toNat (0, 0)).1 = 4) => (partsN_two _).2 h
 have hP1 := fun h : ((a.getD i.toNat (0, 0)).1 = 5 ∨ (a.getD i.toNat (0, 0)).1 = 6) => partsN_1 h
 have hS1 := fun h : i = -1 => congrArg List.length (stkg_fin hok ‹S = _› h)
 simp only [List.length_cons, List.length_nil] at hS1
 have hT : (S.take (S.length - 1)).length = S.length - 1 := by simp
 refine R.go 6 (k4 (i ≥ 0) (fun c5 => ?_) (fun c5 => ?_))
 ·refine R.go 12 (k10 eN a (0, 0) ((i).toNat) i eN_len ?_ (hji := by omega))
  refine R.go 9 (k4 (((a.getD ((i).toNat) (0, 0)).1) = 0) (fun c6 => ?_) (fun c6 => ?_))
  ·refine R.go 4 (k10 eN a (0, 0) ((i).toNat) i eN_len ?_ (hji := by omega))
   refine R.go 2 (k10 eI vs 0 (((a.getD ((i).toNat) (0, 0)).2).toNat) ((a.getD ((i).toNat) (0, 0)).2) eI_len ?_ (hji := by omega))
   refine R.go 8 (k14 eI S [(vs.getD (((a.getD ((i).toNat) (0, 0)).2).toNat) 0)] 2 2 1 8 eI_one (R.go 5 (k1 (i - 1) ?_)))
   exact R.go 2 (k17 R1 (N2 (i - 1, S ++ [(vs.getD (((a.getD ((i).toNat) (0, 0)).2).toNat) 0)]) [1, 2, 3, 7, 8, 9, 10] (some [0, 1, 2]) _ (by kernel_rfl) (by kernel_rfl) ⟨(by omega), (by omega), (by simp <;> omega), (by first | exact stkg_push ‹S = _› (by omega) (by omega) (by omega) | exact stkg_bot ‹S = _› (by omega) (by omega) (by omega) | exact stkg_two hok ‹S = _› (by omega) (by omega) ‹(a.getD i.toNat (0, 0)).1 = _› (by omega) rfl rfl rfl rfl | exact stkg_one hok ‹S = _› (by omega) (by omega) ‹(a.getD i.toNat (0, 0)).1 = _› (by omega) rfl rfl)⟩ (by show (((i - 1) + 1).toNat) < ((i + 1).toNat); omega)))
  refine R.go 5 (k4 (((a.getD ((i).toNat) (0, 0)).1) = 2) (fun c7 => ?_) (fun c7 => ?_))
  ·refine R.go 2 (R.enter (avs := [.ptr 1 0]) Tryz.func114 rfl (by kernel_rfl) (by kernel_rfl) (by kernel_rfl) ?_)
   intro us8
   refine R.go 9 (R.arE ((S.length : Int) - 1) ((S.length - 1 : Nat) : Int) (by kernel_rfl) (by omega) (by omega) (by omega) (by kernel_rfl) (k11 2 1 S.length (S.length - 1) ((S.length - 1 : Nat) : Int) (k12 S (S.length - 1) (R.go 7 (R.arE ((S.length : Int) - 1) ((S.length - 1 : Nat) : Int) (by kernel_rfl) (by omega) (by omega) (by omega) (by kernel_rfl) (R.cut eI S 2 2 (S.length - 1) ((S.length - 1 : Nat) : Int) (by kernel_rfl) (by omega) eI_len (by omega) (by kernel_rfl) (R.go 7 (R.back (AI (S.getD (S.length - 1) 0)) (frm 86 [(1, LI vs), (2, LN a), (3, .ptr 0 0), (7, AI ((shl64 1 n) - 1)), (8, .ptr 1 0), (9, .fn 114 [.ptr 1 0]), (10, AI i), (11, AI 0), (18, AI i), (19, .bool (decide (i ≥ 0))), (22, LN a), (23, AI i), (24, .rptr [AI ((a.getD ((i).toNat) (0, 0)).1), AI ((a.getD ((i).toNat) (0, 0)).2)]), (25, .rptr [AI ((a.getD ((i).toNat) (0, 0)).1), AI ((a.getD ((i).toNat) (0, 0)).2)]), (26, AI ((a.getD ((i).toNat) (0, 0)).1)), (27, .bool (decide (((a.getD ((i).toNat) (0, 0)).1) = 0))), (28, .bool (decide (((a.getD ((i).toNat) (0, 0)).1) = 0))), (37, .bool (decide (((a.getD ((i).toNat) (0, 0)).1) = 2))), (38, .bool (decide (((a.getD ((i).toNat) (0, 0)).1) = 2))), (39, .fn 114 [.ptr 1 0])]) (by kernel_rfl) (by kernel_rfl) (by kernel_rfl) (R.go 1 (R.enter (avs := [.ptr 1 0]) Tryz.func114 rfl (by kernel_rfl) (by kernel_rfl) (by kernel_rfl) ?_))))))))))
   intro us9
   refine R.go 9 (R.arE (((S.take (S.length - 1)).length : Int) - 1) ((((S.take (S.length - 1)).length) - 1 : Nat) : Int) (by kernel_rfl) (by omega) (by omega) (by omega) (by kernel_rfl) (k11 2 1 (S.take (S.length - 1)).length (((S.take (S.length - 1)).length) - 1) ((((S.take (S.length - 1)).length) - 1 : Nat) : Int) ?_ (hj := by first | omega | (simp only [List.length_set]; omega) | (simp <;> omega))))
   refine k12 (S.take (S.length - 1)) (((S.take (S.length - 1)).length) - 1) ?_ (hj := by first | omega | (simp only [List.length_set]; omega) | (simp <;> omega))
   refine R.go 7 (R.arE (((S.take (S.length - 1)).length : Int) - 1) ((((S.take (S.length - 1)).length) - 1 : Nat) : Int) (by kernel_rfl) (by omega) (by omega) (by omega) (by kernel_rfl) (R.cut eI (S.take (S.length - 1)) 2 2 (((S.take (S.length - 1)).length) - 1) ((((S.take (S.length - 1)).length) - 1 : Nat) : Int) (by kernel_rfl) (by omega) eI_len (by first | omega | (simp only [List.length_set]; omega) | (simp <;> omega)) (by kernel_rfl) (R.go 7 (R.back (AI ((S.take (S.length - 1)).getD (((S.take (S.length - 1)).length) - 1) 0)) (frm 86 [(1, LI vs), (2, LN a), (3, .ptr 0 0), (7, AI ((shl64 1 n) - 1)), (8, .ptr 1 0), (9, .fn 114 [.ptr 1 0]), (10, AI i), (11, AI 0), (18, AI i), (19, .bool (decide (i ≥ 0))), (22, LN a), (23, AI i), (24, .rptr [AI ((a.getD ((i).toNat) (0, 0)).1), AI ((a.getD ((i).toNat) (0, 0)).2)]), (25, .rptr [AI ((a.getD ((i).toNat) (0, 0)).1), AI ((a.getD ((i).toNat) (0, 0)).2)]), (26, AI ((a.getD ((i).toNat) (0, 0)).1)), (27, .bool (decide (((a.getD ((i).toNat) (0, 0)).1) = 0))), (28, .bool (decide (((a.getD ((i).toNat) (0, 0)).1) = 0))), (37, .bool (decide (((a.getD ((i).toNat) (0, 0)).1) = 2))), (38, .bool (decide (((a.getD ((i).toNat) (0, 0)).1) = 2))), (39, .fn 114 [.ptr 1 0]), (40, AI (S.getD (S.length - 1) 0)), (41, .fn 114 [.ptr 1 0])]) (by kernel_rfl) (by kernel_rfl) (by kernel_rfl) (R.go 8 (k14 eI ((S.take (S.length - 1)).take (((S.take (S.length - 1)).length) - 1)) [band (S.getD (S.length - 1) 0) ((S.take (S.length - 1)).getD (((S.take (S.length - 1)).length) - 1) 0)] 2 2 1 8 eI_one (R.go 5 (k1 (i - 1) ?_))))))))
   exact R.go 2 (k17 R1 (N2 (i - 1, ((S.take (S.length - 1)).take (((S.take (S.length - 1)).length) - 1)) ++ [band (S.getD (S.length - 1) 0) ((S.take (S.length - 1)).getD (((S.take (S.length - 1)).length) - 1) 0)]) [1, 2, 3, 7, 8, 9, 10] (some [0, 1, 2]) _ (by kernel_rfl) (by kernel_rfl) ⟨(by omega), (by omega), (by simp <;> omega), (by first | exact stkg_push ‹S = _› (by omega) (by omega) (by omega) | exact stkg_bot ‹S = _› (by omega) (by omega) (by omega) | exact stkg_two hok ‹S = _› (by omega) (by omega) ‹(a.getD i.toNat (0, 0)).1 = _› (by omega) rfl rfl rfl rfl | exact stkg_one hok ‹S = _› (by omega) (by omega) ‹(a.getD i.toNat (0, 0)).1 = _› (by omega) rfl rfl)⟩ (by show (((i - 1) + 1).toNat) < ((i + 1).toNat); omega)))
  refine R.go 5 (k4 (((a.getD ((i).toNat) (0, 0)).1) = 3) (fun c10 => ?_) (fun c10 => ?_))
  ·refine R.go 2 (R.enter (avs := [.ptr 1 0]) Tryz.func114 rfl (by kernel_rfl) (by kernel_rfl) (by kernel_rfl) ?_)
   intro us11
   refine R.go 9 (R.arE ((S.length : Int) - 1) ((S.length - 1 : Nat) : Int) (by kernel_rfl) (by omega) (by omega) (by omega) (by kernel_rfl) (k11 2 1 S.length (S.length - 1) ((S.length - 1 : Nat) : Int) (k12 S (S.length - 1) (R.go 7 (R.arE ((S.length : Int) - 1) ((S.length - 1 : Nat) : Int) (by kernel_rfl) (by omega) (by omega) (by omega) (by kernel_rfl) (R.cut eI S 2 2 (S.length - 1) ((S.length - 1 : Nat) : Int) (by kernel_rfl) (by omega) eI_len (by omega) (by kernel_rfl) (R.go 7 (R.back (AI (S.getD (S.length - 1) 0)) (frm 86 [(1, LI vs), (2, LN a), (3, .ptr 0 0), (7, AI ((shl64 1 n) - 1)), (8, .ptr 1 0), (9, .fn 114 [.ptr 1 0]), (10, AI i), (11, AI 0), (18, AI i), (19, .bool (decide (i ≥ 0))), (22, LN a), (23, AI i), (24, .rptr [AI ((a.getD ((i).toNat) (0, 0)).1), AI ((a.getD ((i).toNat) (0, 0)).2)]), (25, .rptr [AI ((a.getD ((i).toNat) (0, 0)).1), AI ((a.getD ((i).toNat) (0, 0)).2)]), (26, AI ((a.getD ((i).toNat) (0, 0)).1)), (27, .bool (decide (((a.getD ((i).toNat) (0, 0)).1) = 0))), (28, .bool (decide (((a.getD ((i).toNat) (0, 0)).1) = 0))), (37, .bool (decide (((a.getD ((i).toNat) (0, 0)).1) = 2))), (38, .bool (decide (((a.getD ((i).toNat) (0, 0)).1) = 2))), (44, .bool (decide (((a.getD ((i).toNat) (0, 0)).1) = 3))), (45, .bool (decide (((a.getD ((i).toNat) (0, 0)).1) = 3))), (46, .fn 114 [.ptr 1 0])]) (by kernel_rfl) (by kernel_rfl) (by kernel_rfl) (R.go 1 (R.enter (avs := [.ptr 1 0]) Tryz.func114 rfl (by kernel_rfl) (by kernel_rfl) (by kernel_rfl) ?_))))))))))
   intro us12
   refine R.go 9 (R.arE (((S.take (S.length - 1)).length : Int) - 1) ((((S.take (S.length - 1)).length) - 1 : Nat) : Int) (by kernel_rfl) (by omega) (by omega) (by omega) (by kernel_rfl) (k11 2 1 (S.take (S.length - 1)).length (((S.take (S.length - 1)).length) - 1) ((((S.take (S.length - 1)).length) - 1 : Nat) : Int) ?_ (hj := by first | omega | (simp only [List.length_set]; omega) | (simp <;> omega))))
   refine k12 (S.take (S.length - 1)) (((S.take (S.length - 1)).length) - 1) ?_ (hj := by first | omega | (simp only [List.length_set]; omega) | (simp <;> omega))
   refine R.go 7 (R.arE (((S.take (S.length - 1)).length : Int) - 1) ((((S.take (S.length - 1)).length) - 1 : Nat) : Int) (by kernel_rfl) (by omega) (by omega) (by omega) (by kernel_rfl) (R.cut eI (S.take (S.length - 1)) 2 2 (((S.take (S.length - 1)).length) - 1) ((((S.take (S.length - 1)).length) - 1 : Nat) : Int) (by kernel_rfl) (by omega) eI_len (by first | omega | (simp only [List.length_set]; omega) | (simp <;> omega)) (by kernel_rfl) (R.go 7 (R.back (AI ((S.take (S.length - 1)).getD (((S.take (S.length - 1)).length) - 1) 0)) (frm 86 [(1, LI vs), (2, LN a), (3, .ptr 0 0), (7, AI ((shl64 1 n) - 1)), (8, .ptr 1 0), (9, .fn 114 [.ptr 1 0]), (10, AI i), (11, AI 0), (18, AI i), (19, .bool (decide (i ≥ 0))), (22, LN a), (23, AI i), (24, .rptr [AI ((a.getD ((i).toNat) (0, 0)).1), AI ((a.getD ((i).toNat) (0, 0)).2)]), (25, .rptr [AI ((a.getD ((i).toNat) (0, 0)).1), AI ((a.getD ((i).toNat) (0, 0)).2)]), (26, AI ((a.getD ((i).toNat) (0, 0)).1)), (27, .bool (decide (((a.getD ((i).toNat) (0, 0)).1) = 0))), (28, .bool (decide (((a.getD ((i).toNat) (0, 0)).1) = 0))), (37, .bool (decide (((a.getD ((i).toNat) (0, 0)).1) = 2))), (38, .bool (decide (((a.getD ((i).toNat) (0, 0)).1) = 2))), (44, .bool (decide (((a.getD ((i).toNat) (0, 0)).1) = 3))), (45, .bool (decide (((a.getD ((i).toNat) (0, 0)).1) = 3))), (46, .fn 114 [.ptr 1 0]), (47, AI (S.getD (S.length - 1) 0)), (48, .fn 114 [.ptr 1 0])]) (by kernel_rfl) (by kernel_rfl) (by kernel_rfl) (R.go 8 (k14 eI ((S.take (S.length - 1)).take (((S.take (S.length - 1)).length) - 1)) [bor (S.getD (S.length - 1) 0) ((S.take (S.length - 1)).getD (((S.take (S.length - 1)).length) - 1) 0)] 2 2 1 8 eI_one (R.go 5 (k1 (i - 1) ?_))))))))
   exact R.go 2 (k17 R1 (N2 (i - 1, ((S.take (S.length - 1)).take (((S.take (S.length - 1)).length) - 1)) ++ [bor (S.getD (S.length - 1) 0) ((S.take (S.length - 1)).getD (((S.take (S.length - 1)).length) - 1) 0)]) [1, 2, 3, 7, 8, 9, 10] (some [0, 1, 2]) _ (by kernel_rfl) (by kernel_rfl) ⟨(by omega), (by omega), (by simp <;> omega), (by first | exact stkg_push ‹S = _› (by omega) (by omega) (by omega) | exact stkg_bot ‹S = _› (by omega) (by omega) (by omega) | exact stkg_two hok ‹S = _› (by omega) (by omega) ‹(a.getD i.toNat (0, 0)).1 = _› (by omega) rfl rfl rfl rfl | exact stkg_one hok ‹S = _› (by omega) (by omega) ‹(a.getD i.toNat (0, 0)).1 = _› (by omega) rfl rfl)⟩ (by show (((i - 1) + 1).toNat) < ((i + 1).toNat); omega)))
  refine R.go 5 (k4 (((a.getD ((i).toNat) (0, 0)).1) = 4) (fun c13 => ?_) (fun c13 => ?_))
  ·refine R.go 4 (R.enter (avs := [.ptr 1 0]) Tryz.func114 rfl (by kernel_rfl) (by kernel_rfl) (by kernel_rfl) ?_)
   intro us14
   refine R.go 9 (R.arE ((S.length : Int) - 1) ((S.length - 1 : Nat) : Int) (by kernel_rfl) (by omega) (by omega) (by omega) (by kernel_rfl) (k11 2 1 S.length (S.length - 1) ((S.length - 1 : Nat) : Int) (k12 S (S.length - 1) (R.go 7 (R.arE ((S.length : Int) - 1) ((S.length - 1 : Nat) : Int) (by kernel_rfl) (by omega) (by omega) (by omega) (by kernel_rfl) (R.cut eI S 2 2 (S.length - 1) ((S.length - 1 : Nat) : Int) (by kernel_rfl) (by omega) eI_len (by omega) (by kernel_rfl) (R.go 7 (R.back (AI (S.getD (S.length - 1) 0)) (frm 86 [(1, LI vs), (2, LN a), (3, .ptr 0 0), (7, AI ((shl64 1 n) - 1)), (8, .ptr 1 0), (9, .fn 114 [.ptr 1 0]), (10, AI i), (11, AI 0), (18, AI i), (19, .bool (decide (i ≥ 0))), (22, LN a), (23, AI i), (24, .rptr [AI ((a.getD ((i).toNat) (0, 0)).1), AI ((a.getD ((i).toNat) (0, 0)).2)]), (25, .rptr [AI ((a.getD ((i).toNat) (0, 0)).1), AI ((a.getD ((i).toNat) (0, 0)).2)]), (26, AI ((a.getD ((i).toNat) (0, 0)).1)), (27, .bool (decide (((a.getD ((i).toNat) (0, 0)).1) = 0))), (28, .bool (decide (((a.getD ((i).toNat) (0, 0)).1) = 0))), (37, .bool (decide (((a.getD ((i).toNat) (0, 0)).1) = 2))), (38, .bool (decide (((a.getD ((i).toNat) (0, 0)).1) = 2))), (44, .bool (decide (((a.getD ((i).toNat) (0, 0)).1) = 3))), (45, .bool (decide (((a.getD ((i).toNat) (0, 0)).1) = 3))), (51, .bool (decide (((a.getD ((i).toNat) (0, 0)).1) = 4))), (52, .bool (decide (((a.getD ((i).toNat) (0, 0)).1) = 4))), (53, AI ((shl64 1 n) - 1)), (54, .fn 114 [.ptr 1 0])]) (by kernel_rfl) (by kernel_rfl) (by kernel_rfl) (R.go 6 (R.enter (avs := [.ptr 1 0]) Tryz.func114 rfl (by kernel_rfl) (by kernel_rfl) (by kernel_rfl) ?_))))))))))
   intro us15
   refine R.go 9 (R.arE (((S.take (S.length - 1)).length : Int) - 1) ((((S.take (S.length - 1)).length) - 1 : Nat) : Int) (by kernel_rfl) (by omega) (by omega) (by omega) (by kernel_rfl) (k11 2 1 (S.take (S.length - 1)).length (((S.take (S.length - 1)).length) - 1) ((((S.take (S.length - 1)).length) - 1 : Nat) : Int) ?_ (hj := by first | omega | (simp only [List.length_set]; omega) | (simp <;> omega))))
   refine k12 (S.take (S.length - 1)) (((S.take (S.length - 1)).length) - 1) ?_ (hj := by first | omega | (simp only [List.length_set]; omega) | (simp <;> omega))
   refine R.go 7 (R.arE (((S.take (S.length - 1)).length : Int) - 1) ((((S.take (S.length - 1)).length) - 1 : Nat) : Int) (by kernel_rfl) (by omega) (by omega) (by omega) (by kernel_rfl) (R.cut eI (S.take (S.length - 1)) 2 2 (((S.take (S.length - 1)).length) - 1) ((((S.take (S.length - 1)).length) - 1 : Nat) : Int) (by kernel_rfl) (by omega) eI_len (by first | omega | (simp only [List.length_set]; omega) | (simp <;> omega)) (by kernel_rfl) (R.go 7 (R.back (AI ((S.take (S.length - 1)).getD (((S.take (S.length - 1)).length) - 1) 0)) (frm 86 [(1, LI vs), (2, LN a), (3, .ptr 0 0), (7, AI ((shl64 1 n) - 1)), (8, .ptr 1 0), (9, .fn 114 [.ptr 1 0]), (10, AI i), (11, AI (bnot ((shl64 1 n) - 1) (S.getD (S.length - 1) 0))), (18, AI i), (19, .bool (decide (i ≥ 0))), (22, LN a), (23, AI i), (24, .rptr [AI ((a.getD ((i).toNat) (0, 0)).1), AI ((a.getD ((i).toNat) (0, 0)).2)]), (25, .rptr [AI ((a.getD ((i).toNat) (0, 0)).1), AI ((a.getD ((i).toNat) (0, 0)).2)]), (26, AI ((a.getD ((i).toNat) (0, 0)).1)), (27, .bool (decide (((a.getD ((i).toNat) (0, 0)).1) = 0))), (28, .bool (decide (((a.getD ((i).toNat) (0, 0)).1) = 0))), (37, .bool (decide (((a.getD ((i).toNat) (0, 0)).1) = 2))), (38, .bool (decide (((a.getD ((i).toNat) (0, 0)).1) = 2))), (44, .bool (decide (((a.getD ((i).toNat) (0, 0)).1) = 3))), (45, .bool (decide (((a.getD ((i).toNat) (0, 0)).1) = 3))), (51, .bool (decide (((a.getD ((i).toNat) (0, 0)).1) = 4))), (52, .bool (decide (((a.getD ((i).toNat) (0, 0)).1) = 4))), (53, AI ((shl64 1 n) - 1)), (54, .fn 114 [.ptr 1 0]), (55, AI (S.getD (S.length - 1) 0)), (56, AI (bnot ((shl64 1 n) - 1) (S.getD (S.length - 1) 0))), (57, AI (bnot ((shl64 1 n) - 1) (S.getD (S.length - 1) 0))), (58, .fn 114 [.ptr 1 0])]) (by kernel_rfl) (by kernel_rfl) (by kernel_rfl) (R.go 8 (k14 eI ((S.take (S.length - 1)).take (((S.take (S.length - 1)).length) - 1)) [bor (bnot ((shl64 1 n) - 1) (S.getD (S.length - 1) 0)) ((S.take (S.length - 1)).getD (((S.take (S.length - 1)).length) - 1) 0)] 2 2 1 8 eI_one (R.go 5 (k1 (i - 1) ?_))))))))
   exact R.go 2 (k17 R1 (N2 (i - 1, ((S.take (S.length - 1)).take (((S.take (S.length - 1)).length) - 1)) ++ [bor (bnot ((shl64 1 n) - 1) (S.getD (S.length - 1) 0)) ((S.take (S.length - 1)).getD (((S.take (S.length - 1)).length) - 1) 0)]) [1, 2, 3, 7, 8, 9, 10] (some [0, 1, 2]) _ (by kernel_rfl) (by kernel_rfl) ⟨(by omega), (by omega), (by simp <;> omega), (by first | exact stkg_push ‹S = _› (by omega) (by omega) (by omega) | exact stkg_bot ‹S = _› (by omega) (by omega) (by omega) | exact stkg_two hok ‹S = _› (by omega) (by omega) ‹(a.getD i.toNat (0, 0)).1 = _› (by omega) rfl rfl rfl rfl | exact stkg_one hok ‹S = _› (by omega) (by omega) ‹(a.getD i.toNat (0, 0)).1 = _› (by omega) rfl rfl)⟩ (by show (((i - 1) + 1).toNat) < ((i + 1).toNat); omega)))
  refine R.go 5 (k4 (((a.getD ((i).toNat) (0, 0)).1) = 5) (fun c16 => ?_) (fun c16 => ?_))
  ·refine R.any (by decide +kernel) (by kernel_rfl) (k24 2 (np_ret _ _ _) (k23 0 3 ?_ ?_))
   ·refine R.go 2 (k23 1 3 ?_ ?_)
    ·refine R.go 2 (k22 3 (R.enter (avs := [.ptr 1 0]) Tryz.func114 rfl (by kernel_rfl) (by kernel_rfl) (by kernel_rfl) ?_))
     intro us17
     refine R.go 9 (R.arE ((S.length : Int) - 1) ((S.length - 1 : Nat) : Int) (by kernel_rfl) (by omega) (by omega) (by omega) (by kernel_rfl) (k11 2 1 S.length (S.length - 1) ((S.length - 1 : Nat) : Int) (k12 S (S.length - 1) (R.go 7 (R.arE ((S.length : Int) - 1) ((S.length - 1 : Nat) : Int) (by kernel_rfl) (by omega) (by omega) (by omega) (by kernel_rfl) (R.cut eI S 2 2 (S.length - 1) ((S.length - 1 : Nat) : Int) (by kernel_rfl) (by omega) eI_len (by omega) (by kernel_rfl) (R.go 7 (R.back (AI (S.getD (S.length - 1) 0)) (frm 86 [(1, LI vs), (2, LN a), (3, .ptr 0 0), (7, AI ((shl64 1 n) - 1)), (8, .ptr 1 0), (9, .fn 114 [.ptr 1 0]), (10, AI i), (11, AI 0), (18, AI i), (19, .bool (decide (i ≥ 0))), (22, LN a), (23, AI i), (24, .rptr [AI ((a.getD ((i).toNat) (0, 0)).1), AI ((a.getD ((i).toNat) (0, 0)).2)]), (25, .rptr [AI ((a.getD ((i).toNat) (0, 0)).1), AI ((a.getD ((i).toNat) (0, 0)).2)]), (26, AI ((a.getD ((i).toNat) (0, 0)).1)), (27, .bool (decide (((a.getD ((i).toNat) (0, 0)).1) = 0))), (28, .bool (decide (((a.getD ((i).toNat) (0, 0)).1) = 0))), (37, .bool (decide (((a.getD ((i).toNat) (0, 0)).1) = 2))), (38, .bool (decide (((a.getD ((i).toNat) (0, 0)).1) = 2))), (44, .bool (decide (((a.getD ((i).toNat) (0, 0)).1) = 3))), (45, .bool (decide (((a.getD ((i).toNat) (0, 0)).1) = 3))), (51, .bool (decide (((a.getD ((i).toNat) (0, 0)).1) = 4))), (52, .bool (decide (((a.getD ((i).toNat) (0, 0)).1) = 4))), (61, .bool (decide (((a.getD ((i).toNat) (0, 0)).1) = 5))), (62, .bool (decide (((a.getD ((i).toNat) (0, 0)).1) = 5))), (63, .ptr 0 1), (64, LI xs), (65, .fn 114 [.ptr 1 0])]) (by kernel_rfl) (by kernel_rfl) (by kernel_rfl) (R.go 1 (k22 4 (k15 true (box_c xs (S.getD (S.length - 1) 0) hx) (R.go 1 (k22 5 (R.go 2 (k21 ?_)))))))))))))))
     refine R.go 5 (k14 eI (S.take (S.length - 1)) [boxB xs (S.getD (S.length - 1) 0) xs.length] 2 2 1 8 eI_one (R.go 5 (k1 (i - 1) ?_)))
     exact R.go 2 (k17 R1 (N2 (i - 1, (S.take (S.length - 1)) ++ [boxB xs (S.getD (S.length - 1) 0) xs.length]) [1, 2, 3, 7, 8, 9, 10] (some [0, 1, 2]) _ (by kernel_rfl) (by kernel_rfl) ⟨(by omega), (by omega), (by simp <;> omega), (by first | exact stkg_push ‹S = _› (by omega) (by omega) (by omega) | exact stkg_bot ‹S = _› (by omega) (by omega) (by omega) | exact stkg_two hok ‹S = _› (by omega) (by omega) ‹(a.getD i.toNat (0, 0)).1 = _› (by omega) rfl rfl rfl rfl | exact stkg_one hok ‹S = _› (by omega) (by omega) ‹(a.getD i.toNat (0, 0)).1 = _› (by omega) rfl rfl)⟩ (by show (((i - 1) + 1).toNat) < ((i + 1).toNat); omega)))
    refine R.enter (avs := [.ptr 1 0]) Tryz.func114 rfl (by kernel_rfl) (by kernel_rfl) (by kernel_rfl) ?_
    intro us18
    refine R.go 9 (R.arE ((S.length : Int) - 1) ((S.length - 1 : Nat) : Int) (by kernel_rfl) (by omega) (by omega) (by omega) (by kernel_rfl) (k11 2 1 S.length (S.length - 1) ((S.length - 1 : Nat) : Int) (k12 S (S.length - 1) (R.go 7 (R.arE ((S.length : Int) - 1) ((S.length - 1 : Nat) : Int) (by kernel_rfl) (by omega) (by omega) (by omega) (by kernel_rfl) (R.cut eI S 2 2 (S.length - 1) ((S.length - 1 : Nat) : Int) (by kernel_rfl) (by omega) eI_len (by omega) (by kernel_rfl) (R.go 7 (R.back (AI (S.getD (S.length - 1) 0)) (frm 86 [(1, LI vs), (2, LN a), (3, .ptr 0 0), (7, AI ((shl64 1 n) - 1)), (8, .ptr 1 0), (9, .fn 114 [.ptr 1 0]), (10, AI i), (11, AI 0), (18, AI i), (19, .bool (decide (i ≥ 0))), (22, LN a), (23, AI i), (24, .rptr [AI ((a.getD ((i).toNat) (0, 0)).1), AI ((a.getD ((i).toNat) (0, 0)).2)]), (25, .rptr [AI ((a.getD ((i).toNat) (0, 0)).1), AI ((a.getD ((i).toNat) (0, 0)).2)]), (26, AI ((a.getD ((i).toNat) (0, 0)).1)), (27, .bool (decide (((a.getD ((i).toNat) (0, 0)).1) = 0))), (28, .bool (decide (((a.getD ((i).toNat) (0, 0)).1) = 0))), (37, .bool (decide (((a.getD ((i).toNat) (0, 0)).1) = 2))), (38, .bool (decide (((a.getD ((i).toNat) (0, 0)).1) = 2))), (44, .bool (decide (((a.getD ((i).toNat) (0, 0)).1) = 3))), (45, .bool (decide (((a.getD ((i).toNat) (0, 0)).1) = 3))), (51, .bool (decide (((a.getD ((i).toNat) (0, 0)).1) = 4))), (52, .bool (decide (((a.getD ((i).toNat) (0, 0)).1) = 4))), (61, .bool (decide (((a.getD ((i).toNat) (0, 0)).1) = 5))), (62, .bool (decide (((a.getD ((i).toNat) (0, 0)).1) = 5))), (63, .ptr 0 1), (65, .fn 114 [.ptr 1 0])]) (by kernel_rfl) (by kernel_rfl) (by kernel_rfl) (R.go 1 (k22 1 (R.go 2 (k22 4 (k15 true (box_c xs (S.getD (S.length - 1) 0) hx) (R.go 1 (k22 5 ?_)))))))))))))))
    refine R.go 2 (k21 (R.go 5 (k14 eI (S.take (S.length - 1)) [boxB xs (S.getD (S.length - 1) 0) xs.length] 2 2 1 8 eI_one (R.go 5 (k1 (i - 1) ?_)))))
    exact R.go 2 (k17 R1 (N2 (i - 1, (S.take (S.length - 1)) ++ [boxB xs (S.getD (S.length - 1) 0) xs.length]) [1, 2, 3, 7, 8, 9, 10] (some [0, 1, 2]) _ (by kernel_rfl) (by kernel_rfl) ⟨(by omega), (by omega), (by simp <;> omega), (by first | exact stkg_push ‹S = _› (by omega) (by omega) (by omega) | exact stkg_bot ‹S = _› (by omega) (by omega) (by omega) | exact stkg_two hok ‹S = _› (by omega) (by omega) ‹(a.getD i.toNat (0, 0)).1 = _› (by omega) rfl rfl rfl rfl | exact stkg_one hok ‹S = _› (by omega) (by omega) ‹(a.getD i.toNat (0, 0)).1 = _› (by omega) rfl rfl)⟩ (by show (((i - 1) + 1).toNat) < ((i + 1).toNat); omega)))
   refine R.enter (avs := [.ptr 1 0]) Tryz.func114 rfl (by kernel_rfl) (by kernel_rfl) (by kernel_rfl) ?_
   intro us19
   refine R.go 9 (R.arE ((S.length : Int) - 1) ((S.length - 1 : Nat) : Int) (by kernel_rfl) (by omega) (by omega) (by omega) (by kernel_rfl) (k11 2 1 S.length (S.length - 1) ((S.length - 1 : Nat) : Int) (k12 S (S.length - 1) (R.go 7 (R.arE ((S.length : Int) - 1) ((S.length - 1 : Nat) : Int) (by kernel_rfl) (by omega) (by omega) (by omega) (by kernel_rfl) (R.cut eI S 2 2 (S.length - 1) ((S.length - 1 : Nat) : Int) (by kernel_rfl) (by omega) eI_len (by omega) (by kernel_rfl) (R.go 7 (R.back (AI (S.getD (S.length - 1) 0)) (frm 86 [(1, LI vs), (2, LN a), (3, .ptr 0 0), (7, AI ((shl64 1 n) - 1)), (8, .ptr 1 0), (9, .fn 114 [.ptr 1 0]), (10, AI i), (11, AI 0), (18, AI i), (19, .bool (decide (i ≥ 0))), (22, LN a), (23, AI i), (24, .rptr [AI ((a.getD ((i).toNat) (0, 0)).1), AI ((a.getD ((i).toNat) (0, 0)).2)]), (25, .rptr [AI ((a.getD ((i).toNat) (0, 0)).1), AI ((a.getD ((i).toNat) (0, 0)).2)]), (26, AI ((a.getD ((i).toNat) (0, 0)).1)), (27, .bool (decide (((a.getD ((i).toNat) (0, 0)).1) = 0))), (28, .bool (decide (((a.getD ((i).toNat) (0, 0)).1) = 0))), (37, .bool (decide (((a.getD ((i).toNat) (0, 0)).1) = 2))), (38, .bool (decide (((a.getD ((i).toNat) (0, 0)).1) = 2))), (44, .bool (decide (((a.getD ((i).toNat) (0, 0)).1) = 3))), (45, .bool (decide (((a.getD ((i).toNat) (0, 0)).1) = 3))), (51, .bool (decide (((a.getD ((i).toNat) (0, 0)).1) = 4))), (52, .bool (decide (((a.getD ((i).toNat) (0, 0)).1) = 4))), (61, .bool (decide (((a.getD ((i).toNat) (0, 0)).1) = 5))), (62, .bool (decide (((a.getD ((i).toNat) (0, 0)).1) = 5))), (65, .fn 114 [.ptr 1 0])]) (by kernel_rfl) (by kernel_rfl) (by kernel_rfl) (R.go 1 (k22 0 (R.go 2 (k22 1 (R.go 2 (k22 4 (k15 true (box_c xs (S.getD (S.length - 1) 0) hx) ?_)))))))))))))))
   refine R.go 1 (k22 5 (R.go 2 (k21 (R.go 5 (k14 eI (S.take (S.length - 1)) [boxB xs (S.getD (S.length - 1) 0) xs.length] 2 2 1 8 eI_one (R.go 5 (k1 (i - 1) ?_)))))))
   exact R.go 2 (k17 R1 (N2 (i - 1, (S.take (S.length - 1)) ++ [boxB xs (S.getD (S.length - 1) 0) xs.length]) [1, 2, 3, 7, 8, 9, 10] (some [0, 1, 2]) _ (by kernel_rfl) (by kernel_rfl) ⟨(by omega), (by omega), (by simp <;> omega), (by first | exact stkg_push ‹S = _› (by omega) (by omega) (by omega) | exact stkg_bot ‹S = _› (by omega) (by omega) (by omega) | exact stkg_two hok ‹S = _› (by omega) (by omega) ‹(a.getD i.toNat (0, 0)).1 = _› (by omega) rfl rfl rfl rfl | exact stkg_one hok ‹S = _› (by omega) (by omega) ‹(a.getD i.toNat (0, 0)).1 = _› (by omega) rfl rfl)⟩ (by show (((i - 1) + 1).toNat) < ((i + 1).toNat); omega)))
  refine R.go 5 (k4 (((a.getD ((i).toNat) (0, 0)).1) = 6) (fun c20 => ?_) (fun c20 => ?_))
  ·refine R.any (by decide +kernel) (by kernel_rfl) (k24 0 (np_ret _ _ _) (k24 3 (np_ret _ _ _) (k24 4 (np_ret _ _ _) (k23 1 5 ?_ ?_))))
   ·refine R.go 2 (k23 2 5 ?_ ?_)
    ·refine R.go 2 (k22 5 (R.enter (avs := [.ptr 1 0]) Tryz.func114 rfl (by kernel_rfl) (by kernel_rfl) (by kernel_rfl) ?_))
     intro us21
     refine R.go 9 (R.arE ((S.length : Int) - 1) ((S.length - 1 : Nat) : Int) (by kernel_rfl) (by omega) (by omega) (by omega) (by kernel_rfl) (k11 2 1 S.length (S.length - 1) ((S.length - 1 : Nat) : Int) (k12 S (S.length - 1) (R.go 7 (R.arE ((S.length : Int) - 1) ((S.length - 1 : Nat) : Int) (by kernel_rfl) (by omega) (by omega) (by omega) (by kernel_rfl) (R.cut eI S 2 2 (S.length - 1) ((S.length - 1 : Nat) : Int) (by kernel_rfl) (by omega) eI_len (by omega) (by kernel_rfl) (R.go 7 (R.back (AI (S.getD (S.length - 1) 0)) (frm 86 [(1, LI vs), (2, LN a), (3, .ptr 0 0), (7, AI ((shl64 1 n) - 1)), (8, .ptr 1 0), (9, .fn 114 [.ptr 1 0]), (10, AI i), (11, AI 0), (18, AI i), (19, .bool (decide (i ≥ 0))), (22, LN a), (23, AI i), (24, .rptr [AI ((a.getD ((i).toNat) (0, 0)).1), AI ((a.getD ((i).toNat) (0, 0)).2)]), (25, .rptr [AI ((a.getD ((i).toNat) (0, 0)).1), AI ((a.getD ((i).toNat) (0, 0)).2)]), (26, AI ((a.getD ((i).toNat) (0, 0)).1)), (27, .bool (decide (((a.getD ((i).toNat) (0, 0)).1) = 0))), (28, .bool (decide (((a.getD ((i).toNat) (0, 0)).1) = 0))), (37, .bool (decide (((a.getD ((i).toNat) (0, 0)).1) = 2))), (38, .bool (decide (((a.getD ((i).toNat) (0, 0)).1) = 2))), (44, .bool (decide (((a.getD ((i).toNat) (0, 0)).1) = 3))), (45, .bool (decide (((a.getD ((i).toNat) (0, 0)).1) = 3))), (51, .bool (decide (((a.getD ((i).toNat) (0, 0)).1) = 4))), (52, .bool (decide (((a.getD ((i).toNat) (0, 0)).1) = 4))), (61, .bool (decide (((a.getD ((i).toNat) (0, 0)).1) = 5))), (62, .bool (decide (((a.getD ((i).toNat) (0, 0)).1) = 5))), (68, .bool (decide (((a.getD ((i).toNat) (0, 0)).1) = 6))), (69, .bool (decide (((a.getD ((i).toNat) (0, 0)).1) = 6))), (70, AI ((shl64 1 n) - 1)), (71, .ptr 0 1), (72, LI xs), (73, AI ((shl64 1 n) - 1)), (74, .fn 114 [.ptr 1 0])]) (by kernel_rfl) (by kernel_rfl) (by kernel_rfl) (R.go 1 (k22 6 (R.go 2 (k22 7 (k15 true (box_c xs (bnot ((shl64 1 n) - 1) (S.getD (S.length - 1) 0)) hx) (R.go 1 (k22 8 ?_)))))))))))))))
     refine R.go 2 (k22 9 (R.go 2 (k21 (R.go 5 (k14 eI (S.take (S.length - 1)) [bnot ((shl64 1 n) - 1) (boxB xs (bnot ((shl64 1 n) - 1) (S.getD (S.length - 1) 0)) xs.length)] 2 2 1 8 eI_one (R.go 5 (k1 (i - 1) ?_)))))))
     exact R.go 2 (k17 R1 (N2 (i - 1, (S.take (S.length - 1)) ++ [bnot ((shl64 1 n) - 1) (boxB xs (bnot ((shl64 1 n) - 1) (S.getD (S.length - 1) 0)) xs.length)]) [1, 2, 3, 7, 8, 9, 10] (some [0, 1, 2]) _ (by kernel_rfl) (by kernel_rfl) ⟨(by omega), (by omega), (by simp <;> omega), (by first | exact stkg_push ‹S = _› (by omega) (by omega) (by omega) | exact stkg_bot ‹S = _› (by omega) (by omega) (by omega) | exact stkg_two hok ‹S = _› (by omega) (by omega) ‹(a.getD i.toNat (0, 0)).1 = _› (by omega) rfl rfl rfl rfl | exact stkg_one hok ‹S = _› (by omega) (by omega) ‹(a.getD i.toNat (0, 0)).1 = _› (by omega) rfl rfl)⟩ (by show (((i - 1) + 1).toNat) < ((i + 1).toNat); omega)))
    refine R.enter (avs := [.ptr 1 0]) Tryz.func114 rfl (by kernel_rfl) (by kernel_rfl) (by kernel_rfl) ?_
    intro us22
    refine R.go 9 (R.arE ((S.length : Int) - 1) ((S.length - 1 : Nat) : Int) (by kernel_rfl) (by omega) (by omega) (by omega) (by kernel_rfl) (k11 2 1 S.length (S.length - 1) ((S.length - 1 : Nat) : Int) (k12 S (S.length - 1) (R.go 7 (R.arE ((S.length : Int) - 1) ((S.length - 1 : Nat) : Int) (by kernel_rfl) (by omega) (by omega) (by omega) (by kernel_rfl) (R.cut eI S 2 2 (S.length - 1) ((S.length - 1 : Nat) : Int) (by kernel_rfl) (by omega) eI_len (by omega) (by kernel_rfl) (R.go 7 (R.back (AI (S.getD (S.length - 1) 0)) (frm 86 [(1, LI vs), (2, LN a), (3, .ptr 0 0), (7, AI ((shl64 1 n) - 1)), (8, .ptr 1 0), (9, .fn 114 [.ptr 1 0]), (10, AI i), (11, AI 0), (18, AI i), (19, .bool (decide (i ≥ 0))), (22, LN a), (23, AI i), (24, .rptr [AI ((a.getD ((i).toNat) (0, 0)).1), AI ((a.getD ((i).toNat) (0, 0)).2)]), (25, .rptr [AI ((a.getD ((i).toNat) (0, 0)).1), AI ((a.getD ((i).toNat) (0, 0)).2)]), (26, AI ((a.getD ((i).toNat) (0, 0)).1)), (27, .bool (decide (((a.getD ((i).toNat) (0, 0)).1) = 0))), (28, .bool (decide (((a.getD ((i).toNat) (0, 0)).1) = 0))), (37, .bool (decide (((a.getD ((i).toNat) (0, 0)).1) = 2))), (38, .bool (decide (((a.getD ((i).toNat) (0, 0)).1) = 2))), (44, .bool (decide (((a.getD ((i).toNat) (0, 0)).1) = 3))), (45, .bool (decide (((a.getD ((i).toNat) (0, 0)).1) = 3))), (51, .bool (decide (((a.getD ((i).toNat) (0, 0)).1) = 4))), (52, .bool (decide (((a.getD ((i).toNat) (0, 0)).1) = 4))), (61, .bool (decide (((a.getD ((i).toNat) (0, 0)).1) = 5))), (62, .bool (decide (((a.getD ((i).toNat) (0, 0)).1) = 5))), (68, .bool (decide (((a.getD ((i).toNat) (0, 0)).1) = 6))), (69, .bool (decide (((a.getD ((i).toNat) (0, 0)).1) = 6))), (70, AI ((shl64 1 n) - 1)), (71, .ptr 0 1), (73, AI ((shl64 1 n) - 1)), (74, .fn 114 [.ptr 1 0])]) (by kernel_rfl) (by kernel_rfl) (by kernel_rfl) (R.go 1 (k23 2 6 ?_ ?_))))))))))
    ·refine R.go 2 (k22 6 (R.go 2 (k22 7 (k15 true (box_c xs (bnot ((shl64 1 n) - 1) (S.getD (S.length - 1) 0)) hx) (R.go 1 (k22 8 (R.go 2 (k22 9 (R.go 2 (k21 (R.go 5 (k14 eI (S.take (S.length - 1)) [bnot ((shl64 1 n) - 1) (boxB xs (bnot ((shl64 1 n) - 1) (S.getD (S.length - 1) 0)) xs.length)] 2 2 1 8 eI_one (R.go 5 (k1 (i - 1) ?_))))))))))))))
     exact R.go 2 (k17 R1 (N2 (i - 1, (S.take (S.length - 1)) ++ [bnot ((shl64 1 n) - 1) (boxB xs (bnot ((shl64 1 n) - 1) (S.getD (S.length - 1) 0)) xs.length)]) [1, 2, 3, 7, 8, 9, 10] (some [0, 1, 2]) _ (by kernel_rfl) (by kernel_rfl) ⟨(by omega), (by omega), (by simp <;> omega), (by first | exact stkg_push ‹S = _› (by omega) (by omega) (by omega) | exact stkg_bot ‹S = _› (by omega) (by omega) (by omega) | exact stkg_two hok ‹S = _› (by omega) (by omega) ‹(a.getD i.toNat (0, 0)).1 = _› (by omega) rfl rfl rfl rfl | exact stkg_one hok ‹S = _› (by omega) (by omega) ‹(a.getD i.toNat (0, 0)).1 = _› (by omega) rfl rfl)⟩ (by show (((i - 1) + 1).toNat) < ((i + 1).toNat); omega)))
    refine R.go 2 (k22 2 (R.go 2 (k22 7 (k15 true (box_c xs (bnot ((shl64 1 n) - 1) (S.getD (S.length - 1) 0)) hx) (R.go 1 (k22 8 (R.go 2 (k22 9 (R.go 2 (k21 (R.go 5 (k14 eI (S.take (S.length - 1)) [bnot ((shl64 1 n) - 1) (boxB xs (bnot ((shl64 1 n) - 1) (S.getD (S.length - 1) 0)) xs.length)] 2 2 1 8 eI_one (R.go 5 (k1 (i - 1) ?_))))))))))))))
    exact R.go 2 (k17 R1 (N2 (i - 1, (S.take (S.length - 1)) ++ [bnot ((shl64 1 n) - 1) (boxB xs (bnot ((shl64 1 n) - 1) (S.getD (S.length - 1) 0)) xs.length)]) [1, 2, 3, 7, 8, 9, 10] (some [0, 1, 2]) _ (by kernel_rfl) (by kernel_rfl) ⟨(by omega), (by omega), (by simp <;> omega), (by first | exact stkg_push ‹S = _› (by omega) (by omega) (by omega) | exact stkg_bot ‹S = _› (by omega) (by omega) (by omega) | exact stkg_two hok ‹S = _› (by omega) (by omega) ‹(a.getD i.toNat (0, 0)).1 = _› (by omega) rfl rfl rfl rfl | exact stkg_one hok ‹S = _› (by omega) (by omega) ‹(a.getD i.toNat (0, 0)).1 = _› (by omega) rfl rfl)⟩ (by show (((i - 1) + 1).toNat) < ((i + 1).toNat); omega)))
   refine R.enter (avs := [.ptr 1 0]) Tryz.func114 rfl (by kernel_rfl) (by kernel_rfl) (by kernel_rfl) ?_
   intro us23
   refine R.go 9 (R.arE ((S.length : Int) - 1) ((S.length - 1 : Nat) : Int) (by kernel_rfl) (by omega) (by omega) (by omega) (by kernel_rfl) (k11 2 1 S.length (S.length - 1) ((S.length - 1 : Nat) : Int) (k12 S (S.length - 1) (R.go 7 (R.arE ((S.length : Int) - 1) ((S.length - 1 : Nat) : Int) (by kernel_rfl) (by omega) (by omega) (by omega) (by kernel_rfl) (R.cut eI S 2 2 (S.length - 1) ((S.length - 1 : Nat) : Int) (by kernel_rfl) (by omega) eI_len (by omega) (by kernel_rfl) (R.go 7 (R.back (AI (S.getD (S.length - 1) 0)) (frm 86 [(1, LI vs), (2, LN a), (3, .ptr 0 0), (7, AI ((shl64 1 n) - 1)), (8, .ptr 1 0), (9, .fn 114 [.ptr 1 0]), (10, AI i), (11, AI 0), (18, AI i), (19, .bool (decide (i ≥ 0))), (22, LN a), (23, AI i), (24, .rptr [AI ((a.getD ((i).toNat) (0, 0)).1), AI ((a.getD ((i).toNat) (0, 0)).2)]), (25, .rptr [AI ((a.getD ((i).toNat) (0, 0)).1), AI ((a.getD ((i).toNat) (0, 0)).2)]), (26, AI ((a.getD ((i).toNat) (0, 0)).1)), (27, .bool (decide (((a.getD ((i).toNat) (0, 0)).1) = 0))), (28, .bool (decide (((a.getD ((i).toNat) (0, 0)).1) = 0))), (37, .bool (decide (((a.getD ((i).toNat) (0, 0)).1) = 2))), (38, .bool (decide (((a.getD ((i).toNat) (0, 0)).1) = 2))), (44, .bool (decide (((a.getD ((i).toNat) (0, 0)).1) = 3))), (45, .bool (decide (((a.getD ((i).toNat) (0, 0)).1) = 3))), (51, .bool (decide (((a.getD ((i).toNat) (0, 0)).1) = 4))), (52, .bool (decide (((a.getD ((i).toNat) (0, 0)).1) = 4))), (61, .bool (decide (((a.getD ((i).toNat) (0, 0)).1) = 5))), (62, .bool (decide (((a.getD ((i).toNat) (0, 0)).1) = 5))), (68, .bool (decide (((a.getD ((i).toNat) (0, 0)).1) = 6))), (69, .bool (decide (((a.getD ((i).toNat) (0, 0)).1) = 6))), (70, AI ((shl64 1 n) - 1)), (73, AI ((shl64 1 n) - 1)), (74, .fn 114 [.ptr 1 0])]) (by kernel_rfl) (by kernel_rfl) (by kernel_rfl) (R.go 1 (k23 1 6 ?_ ?_))))))))))
   ·refine R.go 2 (k23 2 6 ?_ ?_)
    ·refine R.go 2 (k22 6 (R.go 2 (k22 7 (k15 true (box_c xs (bnot ((shl64 1 n) - 1) (S.getD (S.length - 1) 0)) hx) (R.go 1 (k22 8 (R.go 2 (k22 9 (R.go 2 (k21 (R.go 5 (k14 eI (S.take (S.length - 1)) [bnot ((shl64 1 n) - 1) (boxB xs (bnot ((shl64 1 n) - 1) (S.getD (S.length - 1) 0)) xs.length)] 2 2 1 8 eI_one (R.go 5 (k1 (i - 1) ?_))))))))))))))
     exact R.go 2 (k17 R1 (N2 (i - 1, (S.take (S.length - 1)) ++ [bnot ((shl64 1 n) - 1) (boxB xs (bnot ((shl64 1 n) - 1) (S.getD (S.length - 1) 0)) xs.length)]) [1, 2, 3, 7, 8, 9, 10] (some [0, 1, 2]) _ (by kernel_rfl) (by kernel_rfl) ⟨(by omega), (by omega), (by simp <;> omega), (by first | exact stkg_push ‹S = _› (by omega) (by omega) (by omega) | exact stkg_bot ‹S = _› (by omega) (by omega) (by omega) | exact stkg_two hok ‹S = _› (by omega) (by omega) ‹(a.getD i.toNat (0, 0)).1 = _› (by omega) rfl rfl rfl rfl | exact stkg_one hok ‹S = _› (by omega) (by omega) ‹(a.getD i.toNat (0, 0)).1 = _› (by omega) rfl rfl)⟩ (by show (((i - 1) + 1).toNat) < ((i + 1).toNat); omega)))
    refine R.go 2 (k22 2 (R.go 2 (k22 7 (k15 true (box_c xs (bnot ((shl64 1 n) - 1) (S.getD (S.length - 1) 0)) hx) (R.go 1 (k22 8 (R.go 2 (k22 9 (R.go 2 (k21 (R.go 5 (k14 eI (S.take (S.length - 1)) [bnot ((shl64 1 n) - 1) (boxB xs (bnot ((shl64 1 n) - 1) (S.getD (S.length - 1) 0)) xs.length)] 2 2 1 8 eI_one (R.go 5 (k1 (i - 1) ?_))))))))))))))
    exact R.go 2 (k17 R1 (N2 (i - 1, (S.take (S.length - 1)) ++ [bnot ((shl64 1 n) - 1) (boxB xs (bnot ((shl64 1 n) - 1) (S.getD (S.length - 1) 0)) xs.length)]) [1, 2, 3, 7, 8, 9, 10] (some [0, 1, 2]) _ (by kernel_rfl) (by kernel_rfl) ⟨(by omega), (by omega), (by simp <;> omega), (by first | exact stkg_push ‹S = _› (by omega) (by omega) (by omega) | exact stkg_bot ‹S = _› (by omega) (by omega) (by omega) | exact stkg_two hok ‹S = _› (by omega) (by omega) ‹(a.getD i.toNat (0, 0)).1 = _› (by omega) rfl rfl rfl rfl | exact stkg_one hok ‹S = _› (by omega) (by omega) ‹(a.getD i.toNat (0, 0)).1 = _› (by omega) rfl rfl)⟩ (by show (((i - 1) + 1).toNat) < ((i + 1).toNat); omega)))
   refine R.go 2 (k22 1 (R.go 2 (k22 2 (R.go 2 (k22 7 (k15 true (box_c xs (bnot ((shl64 1 n) - 1) (S.getD (S.length - 1) 0)) hx) (R.go 1 (k22 8 (R.go 2 (k22 9 (R.go 2 (k21 (R.go 5 (k14 eI (S.take (S.length - 1)) [bnot ((shl64 1 n) - 1) (boxB xs (bnot ((shl64 1 n) - 1) (S.getD (S.length - 1) 0)) xs.length)] 2 2 1 8 eI_one (R.go 5 (k1 (i - 1) ?_))))))))))))))))
   exact R.go 2 (k17 R1 (N2 (i - 1, (S.take (S.length - 1)) ++ [bnot ((shl64 1 n) - 1) (boxB xs (bnot ((shl64 1 n) - 1) (S.getD (S.length - 1) 0)) xs.length)]) [1, 2, 3, 7, 8, 9, 10] (some [0, 1, 2]) _ (by kernel_rfl) (by kernel_rfl) ⟨(by omega), (by omega), (by simp <;> omega), (by first | exact stkg_push ‹S = _› (by omega) (by omega) (by omega) | exact stkg_bot ‹S = _› (by omega) (by omega) (by omega) | exact stkg_two hok ‹S = _› (by omega) (by omega) ‹(a.getD i.toNat (0, 0)).1 = _› (by omega) rfl rfl rfl rfl | exact stkg_one hok ‹S = _› (by omega) (by omega) ‹(a.getD i.toNat (0, 0)).1 = _› (by omega) rfl rfl)⟩ (by show (((i - 1) + 1).toNat) < ((i + 1).toNat); omega)))
  refine R.go 6 (k14 eI S [0] 2 2 1 8 eI_one (R.go 5 (k1 (i - 1) ?_)))
  exact R.go 2 (k17 R1 (N2 (i - 1, S ++ [0]) [1, 2, 3, 7, 8, 9, 10] (some [0, 1, 2]) _ (by kernel_rfl) (by kernel_rfl) ⟨(by omega), (by omega), (by simp <;> omega), (by first | exact stkg_push ‹S = _› (by omega) (by omega) (by omega) | exact stkg_bot ‹S = _› (by omega) (by omega) (by omega) | exact stkg_two hok ‹S = _› (by omega) (by omega) ‹(a.getD i.toNat (0, 0)).1 = _› (by omega) rfl rfl rfl rfl | exact stkg_one hok ‹S = _› (by omega) (by omega) ‹(a.getD i.toNat (0, 0)).1 = _› (by omega) rfl rfl)⟩ (by show (((i - 1) + 1).toNat) < ((i + 1).toNat); omega)))
 refine R.go 4 (k11 2 1 S.length 0 0 ?_ (hji := rfl))
 refine k12 S 0 ?_
 exact R.go 2 (k18 (AI (S.getD 0 0)) (by first | (apply congrArg AI; rw [stkg_fin hok ‹S = _› (by omega)]; rfl) | (exfalso; omega)))
end Go.Proofs.YtehbliocfpppoaaGreat

/-! The harness of the laws. -/
namespace Go.Proofs.YtehbliocfpppoaaGreat
open Go.RowKit Go.Abs
theorem take_step {α : Type} (a b : List α) (d : α) (i : Nat) (ha : i < a.length) (hb : i < b.length) (h : a.take i = b.take i) (e : a.getD i d = b.getD i d) : a.take (i + 1) = b.take (i + 1) := by
 rw [List.take_succ_eq_append_getElem ha, List.take_succ_eq_append_getElem hb, h]
 simp only [List.getD_eq_getElem?_getD, List.getElem?_eq_getElem ha, List.getElem?_eq_getElem hb, Option.getD_some] at e
 rw [e]
theorem take_all {α : Type} {a b : List α} {i : Nat} (ha : a.length ≤ i) (hl : a.length = b.length) (h : a.take i = b.take i) : a = b := by
 rwa [List.take_of_length_le ha, List.take_of_length_le (by omega)] at h
end Go.Proofs.YtehbliocfpppoaaGreat

/-! TruthSet, IsTrueIn, IsTrueAt of both packages; their laws. -/
namespace Go.Proofs.YtehbliocfpppoaaGreat
open Go.RowKit Go.Abs
def tval (n : Int) (xs vs : List Int) (a : List (Int × Int)) : Int := if mcode n xs vs a = 0 then tset n xs vs a else 0
def tin (n : Int) (xs vs : List Int) (a : List (Int × Int)) : Bool := decide (mcode n xs vs a = 0) && decide (tset n xs vs a = (shl64 1 n) - 1)
def tatC (n : Int) (xs vs : List Int) (w : Int) (a : List (Int × Int)) : Int := if mcode n xs vs a = 0 then (if inR w 0 (n - 1) = true then 0 else 2) else mcode n xs vs a
def tat (n : Int) (xs vs : List Int) (w : Int) (a : List (Int × Int)) : Bool := decide (mcode n xs vs a = 0) && inR w 0 (n - 1) && decide (band (shr64 (tset n xs vs a) w) 1 = 1)
theorem tupI {a b c d : Int} (h : a = c) (h' : b = d) : AV.tup [AI a, AI b] = AV.tup [AI c, AI d] := by rw [h, h']
theorem tupB {a c : Bool} {b d : Int} (h : a = c) (h' : b = d) : AV.tup [.bool a, AI b] = AV.tup [.bool c, AI d] := by rw [h, h']
theorem mcode_bad {n : Int} {xs vs : List Int} {a : List (Int × Int)} (h : okMo n xs vs = false) : mcode n xs vs a = 1 := (mcode_1 h).symm
theorem mcode_bad2 {n : Int} {xs vs : List Int} {a : List (Int × Int)} (h : isF a = false) : mcode n xs vs a = 1 := (mcode_2 h).symm
theorem truthIn_c (n : Int) (xs vs : List Int) (a : List (Int × Int)) (hok : OKM vs.length a) (h0 : 0 ≤ n) (h1 : n ≤ 8) (hx : xs.length ≤ 60) (hl : a.length ≤ 1000000000) : CallA Tryz.prog 61 [.agg [AI n, LI xs, LI vs], LN a] (AI (tset n xs vs a)) := by
 refine CallA.of Tryz.func61 rfl (by kernel_rfl) (R.go 12 (k15 true (truthSet_c n xs vs a hok h0 h1 hx hl) ?_))
 exact R.go 2 (k18 (AI (gv (mT n) (mU n (bxB xs)) vs a)) (by first | (rfl) | (exfalso; omega)))
theorem TS_impl (n : Int) (xs vs : List Int) (a : List (Int × Int)) (l1 : xs.length ≤ 1048576) (l2 : vs.length ≤ 1048576) (hl : a.length ≤ 1048576) : CallA Tryz.prog 19 [.agg [AI n, LI xs, LI vs], LN a] (.tup [AI (tval n xs vs a), AI (mcode n xs vs a)]) := by
 refine CallA.of Tryz.func19 rfl (by kernel_rfl) (R.go 11 (k15 true (modelCode_c n xs vs a (by first | omega | (simp <;> omega)) (by first | omega | (simp <;> omega)) (by first | omega | (simp <;> omega))) (R.go 7 (k5 ((mcode n xs vs a) = 0) (fun c1 => ?_) (fun c1 => ?_)))))
 ·exact R.go 6 (k18 (.tup [AI 0, AI (mcode n xs vs a)]) (by first | (refine tupI ?_ ?_ <;> first | (simp [tval, tin, tat, tatC, *]; done) | (have hm := mcode_bad (a := a) ‹okMo n xs vs = false›; simp [tval, tin, tat, tatC, hm]; done) | (have hm := mcode_bad2 (n := n) (xs := xs) (vs := vs) ‹isF a = false›; simp [tval, tin, tat, tatC, hm]; done)) | (exfalso; omega)))
 have hm : mcode n xs vs a = 0 := by assumption
 have hc1 : okMo n xs vs = true := (mcode_ok hm).1
 have hc2 : isF a = true := (mcode_ok hm).2
 have hM : okFr n xs = true ∧ vs.length = 6 := okMo_fr hc1
 have hF : okFr n xs = true := hM.1
 have hA := isF_okm hc2
 have hR := okFr_rel hF
 have hok : OKM vs.length a := by rw [hM.2]; exact hA.1
 have hb : 0 ≤ n ∧ n ≤ 8 ∧ (xs.length : Int) = n := ⟨hR.1, hR.2.1, hR.2.2.1⟩
 have hal : a.length ≤ 40 := hA.2
 refine R.go 5 (k15 true (truthIn_c n xs vs a hok (by omega) (by omega) (by first | omega | (simp <;> omega)) (by first | omega | (simp <;> omega))) ?_)
 exact R.go 3 (k18 (.tup [AI (tset n xs vs a), AI 0]) (by first | (refine tupI ?_ ?_ <;> first | (simp [tval, tin, tat, tatC, *]; done) | (have hm := mcode_bad (a := a) ‹okMo n xs vs = false›; simp [tval, tin, tat, tatC, hm]; done) | (have hm := mcode_bad2 (n := n) (xs := xs) (vs := vs) ‹isF a = false›; simp [tval, tin, tat, tatC, hm]; done)) | (exfalso; omega)))
end Go.Proofs.YtehbliocfpppoaaGreat

/-! Members of masks; variables of lists of formulas; which lists are formulas. -/
namespace Go.Proofs.YtehbliocfpppoaaGreat
open Go.RowKit Go.Abs
def memN (m : Int) : Nat → List Int
 | 0 => []
 | i + 1 => if tb m i = true then memN m i ++ [(i : Int)] else memN m i
def mem (m : Int) : List Int := memN m 62
theorem memN_yes {m : Int} {i : Nat} (h : tb m i = true) : memN m (i + 1) = memN m i ++ [(i : Int)] := by rw [memN, if_pos h]
theorem memN_no {m : Int} {i : Nat} (h : ¬ tb m i = true) : memN m (i + 1) = memN m i := by rw [memN, if_neg h]
theorem memN_mem {m : Int} {v : Int} : ∀ {i : Nat}, v ∈ memN m i ↔ ∃ j : Nat, j < i ∧ tb m j = true ∧ v = (j : Int)
 | 0 => by simp [memN]
 | i + 1 => by
  have ih := memN_mem (m := m) (v := v) (i := i)
  by_cases h : tb m i = true
  ·rw [memN_yes h, List.mem_append, ih, List.mem_singleton]
   constructor
   ·rintro (⟨j, a, b, c⟩ | h2)
    ·exact ⟨j, by omega, b, c⟩
    ·exact ⟨i, by omega, h, h2⟩
   ·rintro ⟨j, a, b, c⟩
    by_cases hji : j = i
    ·subst hji; exact .inr c
    ·exact .inl ⟨j, by omega, b, c⟩
  ·rw [memN_no h, ih]
   constructor
   ·rintro ⟨j, a, b, c⟩; exact ⟨j, by omega, b, c⟩
   ·rintro ⟨j, a, b, c⟩
    by_cases hji : j = i
    ·subst hji; exact absurd b h
    ·exact ⟨j, by omega, b, c⟩
theorem memN_len (m : Int) : ∀ i : Nat, (memN m i).length ≤ i
 | 0 => Nat.le_refl _
 | i + 1 => by
  have ih := memN_len m i
  rw [memN]
  split
  ·simp; omega
  ·omega
theorem memN_asc (m : Int) : ∀ i : Nat, (memN m i).Pairwise (· < ·)
 | 0 => List.Pairwise.nil
 | i + 1 => by
  have ih := memN_asc m i
  rw [memN]
  split
  ·refine List.pairwise_append.2 ⟨ih, List.pairwise_singleton _ _, fun a ha b hb => ?_⟩
   rw [List.mem_singleton] at hb
   obtain ⟨j, h1, _, rfl⟩ := memN_mem.1 ha
   omega
  ·exact ih
theorem memN_nodup (m : Int) (i : Nat) : (memN m i).Nodup := (memN_asc m i).imp fun h => by omega
theorem memN_stop {m : Int} {i : Nat} (h : ∀ j, i ≤ j → tb m j = false) : ∀ {k : Nat}, i ≤ k → memN m k = memN m i := by
 intro k hk
 induction k with
 | zero => rw [show i = 0 by omega]
 | succ k ih =>
  by_cases hki : i = k + 1
  ·rw [hki]
  ·rw [memN_no (by rw [h k (by omega)]; decide), ih (by omega)]
theorem inM61 {m : Int} (h0 : 0 ≤ m) (h1 : m ≤ 2305843009213693951) : InM 61 m := ⟨h0, by
 have : (2 : Nat) ^ 61 = 2305843009213693952 := by decide
 omega⟩
theorem shr_pos {m : Int} (h : InM 61 m) {i : Nat} (hi : i ≤ 62) (hp : shr64 m (i : Int) > 0) : i < 61 := by
 obtain ⟨a, rfl, ha⟩ := inM_nat h
 rw [shr_nat hi] at hp
 have h1 : 0 < a / 2 ^ i := by
  generalize a / 2 ^ i = q at hp ⊢
  omega
 rw [Nat.div_pos_iff] at h1
 have h2 : 2 ^ i < 2 ^ 61 := by omega
 exact (Nat.pow_lt_pow_iff_right (by decide)).1 h2
theorem mem_end {m : Int} (h : InM 61 m) {i : Nat} (hi : i ≤ 61) (hp : ¬ shr64 m (i : Int) > 0) : memN m i = mem m := by
 refine (memN_stop (fun j hj => ?_) (by omega)).symm
 obtain ⟨a, rfl, ha⟩ := inM_nat h
 rw [shr_nat (by omega)] at hp
 have h1 : a < 2 ^ i := by
  have h2 : a / 2 ^ i = 0 := by
   generalize a / 2 ^ i = q at hp ⊢
   omega
  rcases Nat.div_eq_zero_iff.1 h2 with h | h
  ·exact absurd h (Nat.ne_of_gt (Nat.two_pow_pos i))
  ·exact h
 exact Nat.testBit_lt_two_pow (Nat.lt_of_lt_of_le h1 (Nat.pow_le_pow_right (by decide) hj))
theorem mem_le (m : Int) : (mem m).length ≤ 62 := memN_len m 62
theorem membersOf_c (m : Int) (hm : InM 61 m) : CallA Tryz.prog 131 [AI m] (ownA eI 2 1 (mem m)) := by
 refine CallA.of Tryz.func131 rfl (by kernel_rfl) (R.go 14 (R.nil 3 2 1 (by kernel_rfl) (k16 ((fun | (i, out) => (⟨(frm 19 [(0, AI m), (3, .ref 0), (4, AI (i : Int))]), [rowA eI 2 1 out]⟩ : St) : Nat × (List Int) → St)) (fun | (i, out) => (i ≤ 61) ∧ (out = memN m i) ∧ (out.length ≤ i)) (fun | (i, out) => 61 - i) (0, []) [0, 3, 4] none ⟨(by omega), (by rfl), (by simp)⟩ ?_)))
 rintro ⟨i, out⟩ ⟨h4_1, h4_2, h4_3⟩ R1 N2
 refine R.go 5 (R.shr m (i : Int) (by kernel_rfl) (by omega) (by kernel_rfl) (R.go 2 (k4 ((shr64 m (i : Int)) > 0) (fun c5 => ?_) (fun c5 => ?_))))
 ·refine R.go 7 (k15 true (has_c m (i : Int) (by omega)) (R.go 1 (k4 (band (shr64 m (i : Int)) 1 = 1) (fun c6 => ?_) (fun c6 => ?_))))
  ·refine R.go 4 (k14 eI out [(i : Int)] 0 2 1 8 eI_one (R.go 5 (k1 ((i : Int) + 1) ?_)))
   exact R.go 2 (k17 R1 (N2 (i + 1, out ++ [(i : Int)]) [0, 3, 4] (some [0]) _ (by kernel_rfl) (by kernel_rfl) ⟨(by have := shr_pos hm (by omega) ‹shr64 m (i : Int) > 0›; omega), (by first | (rw [‹out = memN m i›, memN_yes ((has_tb (by decide) hm (by omega)).1 ‹band (shr64 m (i : Int)) 1 = 1›)]) | (rw [‹out = memN m i›, memN_no (fun h => ‹¬ band (shr64 m (i : Int)) 1 = 1› ((has_tb (by decide) hm (by omega)).2 h))])), (by first | omega | (simp <;> omega))⟩ (by show (61 - (i + 1)) < (61 - i); have := shr_pos hm (by omega) ‹shr64 m (i : Int) > 0›; omega)))
  refine R.go 4 (k1 ((i : Int) + 1) ?_)
  exact R.go 2 (k17 R1 (N2 (i + 1, out) [0, 3, 4] none _ (by kernel_rfl) (by kernel_rfl) ⟨(by have := shr_pos hm (by omega) ‹shr64 m (i : Int) > 0›; omega), (by first | (rw [‹out = memN m i›, memN_yes ((has_tb (by decide) hm (by omega)).1 ‹band (shr64 m (i : Int)) 1 = 1›)]) | (rw [‹out = memN m i›, memN_no (fun h => ‹¬ band (shr64 m (i : Int)) 1 = 1› ((has_tb (by decide) hm (by omega)).2 h))])), (by first | omega | (simp <;> omega))⟩ (by show (61 - (i + 1)) < (61 - i); have := shr_pos hm (by omega) ‹shr64 m (i : Int) > 0›; omega)))
 exact R.go 6 (k18 (ownA eI 2 1 out) (by first | (rw [‹out = memN m i›, mem_end hm (by omega) (by assumption)]) | (exfalso; omega)))
def vmT (l : List (List (Int × Int))) : Nat → Int
 | 0 => 0
 | i + 1 => bor (vmT l i) (vmTo (l.getD i []) (l.getD i []).length)
def allF (l : List (List (Int × Int))) : Bool := !l.any fun a => !isF a
theorem allF_get {l : List (List (Int × Int))} (h : allF l = true) (j : Nat) (hj : j < l.length) : isF (l.getD j []) = true := by
 unfold allF at h
 rw [Bool.not_eq_true', List.any_eq_false] at h
 have h1 : l.getD j [] ∈ l := by
  rw [List.getD_eq_getElem?_getD, List.getElem?_eq_getElem hj, Option.getD_some]
  exact List.getElem_mem hj
 simpa using h _ h1
theorem vmT_rng {l : List (List (Int × Int))} (h : allF l = true) : ∀ i, i ≤ l.length → 0 ≤ vmT l i ∧ vmT l i ≤ 63
 | 0, _ => ⟨Int.le_refl _, by simp [vmT]⟩
 | i + 1, hi => by
  have ih := vmT_rng h i (by omega)
  have hv := vm_rng (isF_parts (allF_get h i (by omega))).2.2.1 _ (Nat.le_refl _)
  have hb := bor_63 ih.1 ih.2 hv.1 hv.2
  exact ⟨hb.1, hb.2.1⟩
theorem vm63 {a : List (Int × Int)} (h : a.any badN = false) : InM 6 (vmTo a a.length) := by
  have := vm_rng h _ (Nat.le_refl _)
  exact ⟨this.1, by have : (2 : Nat) ^ 6 = 64 := by decide
                    omega⟩
theorem inM6 {m : Int} (h0 : 0 ≤ m) (h1 : m ≤ 63) : InM 6 m := ⟨h0, by have : (2 : Nat) ^ 6 = 64 := by decide
                                                                       omega⟩
theorem inM6_le {m : Int} (h : InM 6 m) : 0 ≤ m ∧ m ≤ 63 := ⟨h.1, by have : (2 : Nat) ^ 6 = 64 := by decide
                                                                     have := h.2
                                                                     omega⟩
theorem mem_get {m : Int} {v : Int} (h : v ∈ mem m) (hm : InM 6 m) : 0 ≤ v ∧ v < 6 ∧ tb m v.toNat = true := by
 obtain ⟨j, h1, h2, rfl⟩ := memN_mem.1 h
 have := tb_lt hm h2
 exact ⟨by omega, by omega, h2⟩
theorem bits_mem : ∀ m : Fin 64, bitsL 6 (m.val : Int) 0 = mem (m.val : Int) := by decide +kernel
theorem bits_mem6 {m : Int} (h : InM 6 m) : bitsL 6 m 0 = mem m := by
 obtain ⟨h0, h1⟩ := inM6_le h
 obtain ⟨m, rfl⟩ := Int.eq_ofNat_of_zero_le h0
 exact bits_mem ⟨m, by omega⟩
def fidxF (p : List (Int × Int) → Bool) : List (List (Int × Int)) → Int → Int
 | [], _ => -1
 | x :: l, i => if p x = true then i else fidxF p l (i + 1)
theorem drop_consF (a : List (List (Int × Int))) (j : Nat) (h : j < a.length) : a.drop j = a.getD j [] :: a.drop (j + 1) := by
 rw [List.drop_eq_getElem_cons h, List.getD_eq_getElem?_getD, List.getElem?_eq_getElem h]; rfl
theorem fidxF_hit {p : List (Int × Int) → Bool} {a : List (List (Int × Int))} {i : Nat} (h : i < a.length) (hp : p (a.getD i []) = true) : fidxF p (a.drop i) i = i := by
 rw [drop_consF a i h, fidxF, if_pos hp]
theorem fidxF_miss {p : List (Int × Int) → Bool} {a : List (List (Int × Int))} {i : Nat} (h : i < a.length) (hp : p (a.getD i []) = false) : fidxF p (a.drop i) i = fidxF p (a.drop (i + 1)) ((i + 1 : Nat) : Int) := by
 rw [drop_consF a i h, fidxF, if_neg (by rw [hp]; decide)]
 rfl
theorem fidxF_end {p : List (Int × Int) → Bool} {a : List (List (Int × Int))} {i : Nat} (h : a.length ≤ i) : fidxF p (a.drop i) i = -1 := by
 rw [List.drop_eq_nil_of_le h, fidxF]
theorem fidxF_any {p : List (Int × Int) → Bool} : ∀ {a : List (List (Int × Int))} {i : Int}, 0 ≤ i → (0 ≤ fidxF p a i ↔ a.any p = true)
 | [], i, h => by simp [fidxF]
 | x :: a, i, h => by
  have ih := fidxF_any (p := p) (a := a) (i := i + 1) (by omega)
  rw [fidxF, List.any_cons]
  by_cases hp : p x = true
  ·simp [hp, h]
  ·rw [if_neg hp, ih]; simp [hp]
def shortL (l : List (List (Int × Int))) : Prop := l.length ≤ 1000000000 ∧ ∀ j : Nat, j < l.length → (l.getD j []).length ≤ 1000000000
def notF (a : List (Int × Int)) : Bool := !isF a
theorem shortL_one {a : List (Int × Int)} (h : a.length ≤ 1000000000) : shortL [a] := ⟨by simp, fun j hj => by
 have hj : j = 0 := by simpa using hj
 subst hj
 simpa using h⟩
theorem areFormulas1_c (a : List (Int × Int)) (hl : a.length ≤ 1000000000) : CallA Tryz.prog 202 [LN a] (.bool (notF a)) := by
 refine CallA.of Tryz.func202 rfl (by kernel_rfl) (R.go 7 (k15 true (isFormula_c a hl) ?_))
 exact R.go 3 (k18 (.bool (!(isF a))) (by first | (rfl) | (exfalso; omega)))
theorem index_notF_c (l : List (List (Int × Int))) (hs : shortL l) : CallA Tryz.prog 216 [LLN l, .fn 202 []] (AI (fidxF notF l 0)) := by
 have hl := hs.1
 refine CallA.of Tryz.func216 rfl (by kernel_rfl) (R.go 12 (k16 (fun (i : Nat) => (⟨(frm 19 [(0, LLN l), (1, .fn 202 []), (7, AI l.length), (8, AI (i : Int))]), []⟩ : St)) (fun (i : Nat) => (i ≤ l.length) ∧ (fidxF notF l 0 = fidxF notF (l.drop i) i)) (fun (i : Nat) => l.length - i) 0 [0, 1, 7, 8] none ⟨(by omega), (by rfl)⟩ ?_))
 rintro i ⟨h3_1, h3_2⟩ R1 N2
 refine R.go 5 (k4 ((i : Int) < (l.length : Int)) (fun c4 => ?_) (fun c4 => ?_))
 ·have hj := hs.2 i (by omega)
  refine R.go 13 (k10 eLN l [] i (i : Int) eLN_len (R.go 1 (k15 true (areFormulas1_c (l.getD i []) (by first | omega | (simp <;> omega))) (R.go 1 (k3 (notF (l.getD i [])) (fun c5 => ?_) (fun c5 => ?_))))))
  ·exact R.go 5 (k18 (AI (i : Int)) (by first | (apply congrArg AI; rw [‹fidxF notF l 0 = _›]; first | exact (fidxF_end (by omega)).symm | exact (fidxF_hit (by omega) (by assumption)).symm) | (exfalso; omega)))
  refine R.go 3 (k1 ((i : Int) + 1) ?_)
  exact R.go 2 (k17 R1 (N2 (i + 1) [0, 1, 7, 8] none _ (by kernel_rfl) (by kernel_rfl) ⟨(by omega), (by rw [‹fidxF notF l 0 = _›]; exact fidxF_miss (by omega) (by assumption))⟩ (by show (l.length - (i + 1)) < (l.length - i); omega)))
 exact R.go 5 (k18 (AI (-1)) (by first | (apply congrArg AI; rw [‹fidxF notF l 0 = _›]; first | exact (fidxF_end (by omega)).symm | exact (fidxF_hit (by omega) (by assumption)).symm) | (exfalso; omega)))
theorem contains_notF_c (l : List (List (Int × Int))) (hs : shortL l) : CallA Tryz.prog 201 [LLN l, .fn 202 []] (.bool (l.any notF)) := by
 refine CallA.of Tryz.func201 rfl (by kernel_rfl) (R.go 8 (k15 true (index_notF_c l hs) ?_))
 exact R.go 3 (k18 (.bool (decide ((fidxF notF l 0) ≥ 0))) (by first | (apply congrArg AV.bool; rw [Bool.eq_iff_iff, decide_eq_true_iff]; exact fidxF_any (Int.le_refl 0)) | (exfalso; omega)))
theorem areFormulas_c (l : List (List (Int × Int))) (hs : shortL l) : CallA Tryz.prog 135 [LLN l] (.bool (allF l)) := by
 refine CallA.of Tryz.func135 rfl (by kernel_rfl) (R.go 7 (k15 true (contains_notF_c l hs) ?_))
 exact R.go 3 (k18 (.bool (!(l.any notF))) (by first | (rfl) | (exfalso; omega)))
theorem variablesIn_c (l : List (List (Int × Int))) (hF : allF l = true) (hl : l.length ≤ 1000000000) : CallA Tryz.prog 65 [LLN l] (ownA eI 2 1 (mem (vmT l l.length))) := by
 refine CallA.of Tryz.func65 rfl (by kernel_rfl) (R.go 16 (k16 ((fun | (i, m) => (⟨(frm 19 [(3, AI m), (6, LLN l), (7, AI l.length), (8, AI (i : Int))]), []⟩ : St) : Nat × Int → St)) (fun | (i, m) => (i ≤ l.length) ∧ (m = vmT l i)) (fun | (i, m) => l.length - i) (0, 0) [3, 6, 7, 8] none ⟨(by omega), (by rfl)⟩ ?_))
 rintro ⟨i, m⟩ ⟨h4_1, h4_2⟩ R1 N2
 have hv := vmT_rng hF i (by omega)
 have ha := fun h : i < l.length => isF_parts (allF_get hF i h)
 refine R.go 5 (k4 ((i : Int) < (l.length : Int)) (fun c5 => ?_) (fun c5 => ?_))
 ·refine R.go 5 (k10 eLN l [] i (i : Int) eLN_len ?_)
  have hb : (l.getD i []).any badN = false := (ha (by omega)).2.2.1
  have hl4 : (l.getD i []).length ≤ 40 := (ha (by omega)).1
  refine R.go 6 (k15 true (variableMask_c (l.getD i []) hb hl4) (R.go 5 (k1 ((i : Int) + 1) ?_)))
  exact R.go 2 (k17 R1 (N2 (i + 1, bor m (vmTo (l.getD i []) (l.getD i []).length)) [3, 6, 7, 8] none _ (by kernel_rfl) (by kernel_rfl) ⟨(by omega), (by rw [vmT, ← ‹m = vmT l i›])⟩ (by show (l.length - (i + 1)) < (l.length - i); omega)))
 have hv2 := vmT_rng hF i (by omega)
 refine R.go 4 (k15 true (membersOf_c m (by first | assumption | exact inM61 (by omega) (by omega))) ?_)
 exact R.go 2 (k18 (ownA eI 2 1 (mem m)) (by first | (rw [‹m = vmT l i›, show i = l.length by omega]) | (exfalso; omega)))
theorem l02VariablesM_c (a : List (Int × Int)) (hb : a.any badN = false) (hl : a.length ≤ 40) : CallA Tryz.prog 67 [LN a] (ownA eI 2 1 (mem (vmTo a a.length))) := by
 have h := l02Variables_c a hb hl
 rw [bits_mem6 (vm63 hb)] at h
 exact h
end Go.Proofs.YtehbliocfpppoaaGreat

/-! The machine's rules: loops over functions. -/
namespace Go.Abs
open Go.RowKit
theorem HRel.extend0 {w w' : World} {Z : Nat → Prop} {B : Nat} {μ : List Value} {hp : List AObj} {u : Value} {o : AObj} (h : HRel w Z B μ hp)
  (hb : Below w.heap.size w w') (hnew : ObjRel w' Z (μ ++ [u]) B u o) (hbl : blk u = none) (hone : u.oneCell' = true) : HRel w' Z B (μ ++ [u]) (hp ++ [o]) := by
 have hold : ∀ (i : Nat) (x : Value), μ[i]? = some x → (μ ++ [u])[i]? = some x := fun i x hx => by
  rw [List.getElem?_append_left (List.getElem?_eq_some_iff.1 hx).1]; exact hx
 have hbk : ∀ (i : Nat) oi ui g, hp[i]? = some oi → oi.alive = true → μ[i]? = some ui → blk ui = some g → g < w.heap.size := fun i oi ui g h1 h2 h3 h4 => ((h.obj i oi ui h1 h3).blk_ge h2 h4).2
 have split : ∀ (i : Nat) oi ui, (hp ++ [o])[i]? = some oi → (μ ++ [u])[i]? = some ui → (hp[i]? = some oi ∧ μ[i]? = some ui) ∨ (i = hp.length ∧ oi = o ∧ ui = u) := by
  intro i oi ui h1 h2
  rcases Nat.lt_trichotomy i hp.length with hi | hi | hi
  ·rw [List.getElem?_append_left hi] at h1
   rw [List.getElem?_append_left (by rw [h.len]; exact hi)] at h2
   exact .inl ⟨h1, h2⟩
  ·subst hi
   rw [List.getElem?_append_right (Nat.le_refl _)] at h1
   rw [List.getElem?_append_right (by rw [h.len]; exact Nat.le_refl _), h.len] at h2
   simp at h1 h2
   exact .inr ⟨rfl, h1.symm, h2.symm⟩
  ·rw [List.getElem?_eq_none (by simp; omega)] at h1
   cases h1
 refine ⟨by simp [h.len], fun i oi ui g h1 ha h2 hg => ?_, fun i x hx => ?_, fun i oi ui h1 h2 => ?_, fun i j oi oj ui uj g hne h1 h2 a1 a2 m1 m2 b1 b2 => ?_⟩
 ·rcases split i oi ui h1 h2 with ⟨e1, e2⟩ | ⟨_, rfl, rfl⟩
  ·exact h.zone i oi ui g e1 ha e2 hg
  ·rw [hbl] at hg; cases hg
 ·rcases Nat.lt_or_ge i μ.length with hi | hi
  ·rw [List.getElem?_append_left hi] at hx
   exact h.one i x hx
  ·rw [List.getElem?_append_right hi] at hx
   have : x = u := by
    rcases Nat.eq_zero_or_pos (i - μ.length) with h0 | h0
    ·rw [h0] at hx; simpa using hx.symm
    ·rw [List.getElem?_eq_none (by simp; omega)] at hx; cases hx
   subst this
   exact hone
 ·rcases split i oi ui h1 h2 with ⟨e1, e2⟩ | ⟨_, rfl, rfl⟩
  ·cases ho : oi.alive with
   | true => exact (h.obj i oi ui e1 e2).keep (fun b hb1 _ => hb.block b hb1) hold (fun g hg => hb.block g (hbk i oi ui g e1 ho e2 hg))
   | false => exact (h.obj i oi ui e1 e2).keep_dead (fun b hb1 _ => hb.block b hb1) hold ho
  ·exact hnew
 ·rcases split i oi ui h1 m1 with ⟨e1, e2⟩ | ⟨_, rfl, rfl⟩ <;> rcases split j oj uj h2 m2 with ⟨e3, e4⟩ | ⟨_, rfl, rfl⟩
  ·exact h.sep i j oi oj ui uj g hne e1 e3 a1 a2 e2 e4 b1 b2
  ·rw [hbl] at b2; cases b2
  ·rw [hbl] at b1; cases b1
  ·rw [hbl] at b1; cases b1
theorem HRel.turn {w : World} {Z : Nat → Prop} {B : Nat} {μ : List Value} {hp : List AObj} {i r : Nat} {o o' : Obj} {x' : Inert} (h : HRel w Z B μ hp) (hr : w.heap[r]? = some o) (hn : o.isCells = false)
  (hi : ∀ j x, hp[j]? = some (.inert x) → j = i) (hnew : ∀ u, μ[i]? = some u → InertRel (w.putObj r o') Z B u x') : HRel (w.putObj r o') Z B μ (hp.set i (.inert x')) := by
 have get : ∀ (j : Nat) oj, (hp.set i (.inert x'))[j]? = some oj → (j = i ∧ oj = .inert x') ∨ (hp[j]? = some oj ∧ ∀ x, oj ≠ .inert x) := by
  intro j oj hj
  by_cases hji : j = i
  ·subst hji
   rcases Nat.lt_or_ge j hp.length with hlt | hge
   ·rw [List.getElem?_set_self hlt] at hj; simp at hj; exact .inl ⟨rfl, hj.symm⟩
   ·rw [List.getElem?_eq_none (by simpa using hge)] at hj; cases hj
  ·rw [List.getElem?_set_ne (Ne.symm hji)] at hj
   exact .inr ⟨hj, fun x e => hji (hi j x (by rw [hj, e]))⟩
 refine ⟨by simpa using h.len, fun j o u g h1 ha h2 hg => ?_, h.one, fun j oj u h1 h2 => ?_, fun j k oj ok uj uk g hne h1 h2 a1 a2 m1 m2 b1 b2 => ?_⟩
 ·rcases get j o h1 with ⟨rfl, rfl⟩ | ⟨h1, _⟩
  ·have := (hnew u h2).blk
   rw [this] at hg; cases hg
  ·exact h.zone j o u g h1 ha h2 hg
 ·rcases get j oj h1 with ⟨rfl, rfl⟩ | ⟨h1, hx⟩
  ·exact hnew u h2
  ·exact (h.obj j oj u h1 h2).turn hr hn hx
 ·rcases get j oj h1 with ⟨rfl, rfl⟩ | ⟨h1, _⟩
  ·rw [(hnew uj m1).blk] at b1; cases b1
  ·rcases get k ok h2 with ⟨rfl, rfl⟩ | ⟨h2, _⟩
   ·rw [(hnew uk m2).blk] at b2; cases b2
   ·exact h.sep j k oj ok uj uk g hne h1 h2 a1 a2 m1 m2 b1 b2
theorem oneInert_at {hp : List AObj} (h : oneInert hp = true) {i : Nat} {y : Inert} (hi : hp[i]? = some (.inert y)) : ∀ j x, hp[j]? = some (.inert x) → j = i := fun j x hj => oneInert_sound h j i x y hj hi
def lstAt (i : Nat) (hp : List AObj) : Option (Nat × LSt) :=
 match hp[i]? with
 | some (.inert (.lrec D s _ _ _ _)) => if oneInert hp then some (D, s) else none
 | _ => none
theorem lstAt_parts {i D : Nat} {s : LSt} {hp : List AObj} (h : lstAt i hp = some (D, s)) : (∃ us ps asg bd, hp[i]? = some (.inert (.lrec D s us ps asg bd))) ∧ oneInert hp = true := by
 unfold lstAt at h
 split at h
 ·rename_i D' s' us ps asg bd hi
  split at h
  ·cases h
   exact ⟨⟨us, ps, asg, bd, hi⟩, by assumption⟩
  ·cases h
 ·cases h
def Inert.to (s : LSt) : Inert → Inert
 | .lrec D _ us ps asg bd => .lrec D s us ps asg bd
 | x => x
def setL (i : Nat) (s : LSt) (hp : List AObj) : List AObj :=
 match hp[i]? with
 | some (.inert x) => hp.set i (.inert (x.to s))
 | _ => hp
def Inert.over : Inert → Inert
 | .lrec D _ _ _ _ _ => .mark D
 | x => x
def setM (i : Nat) (hp : List AObj) : List AObj :=
 match hp[i]? with
 | some (.inert x) => hp.set i (.inert x.over)
 | _ => hp
theorem HRel.turnL {w : World} {Z : Nat → Prop} {B D i : Nat} {μ : List Value} {hp : List AObj} {s : LSt} {us : List Value} {ps : Array Tmp} {asg bd : Code} (h : HRel w Z B μ hp) (h1 : oneInert hp = true)
  (hi : hp[i]? = some (.inert (.lrec D s us ps asg bd))) :
  ∃ r : Loop, w.heap[D + 1]? = some (.loop r) ∧ r.state = s.state ∧ r.pending = s.pend ∧ r.tmps = us.toArray ∧ r.params = ps ∧ r.assign = asg ∧ r.body = bd ∧ B ≤ D ∧ w.heap[D]? = some (.deferred (some [])) ∧ μ[i]? = some (.func (.yield (D + 1)) #[] #[]) ∧
   (∀ s' : LSt, HRel (w.putObj (D + 1) (.loop { r with state := s'.state, pending := s'.pend })) Z B μ (setL i s' hp)) ∧
   (∀ o', HRel (w.putObj (D + 1) o') Z B μ (setM i hp)) := by
 have hil : i < μ.length := by rw [h.len]; exact (List.getElem?_eq_some_iff.1 hi).1
 obtain ⟨u, hu⟩ : ∃ u, μ[i]? = some u := ⟨_, List.getElem?_eq_getElem hil⟩
 obtain ⟨fn, rfl, ⟨⟨hB, hz⟩, hD⟩, hz2, hl⟩ := h.obj i _ u hi hu
 refine ⟨_, hl, rfl, rfl, rfl, rfl, rfl, rfl, hB, hD, hu, fun s' => ?_, fun o' => ?_⟩
 ·unfold setL
  rw [hi]
  refine h.turn hl rfl (oneInert_at h1 hi) fun u' hu' => ?_
  rw [hu] at hu'
  cases hu'
  exact ⟨fn, rfl, ⟨⟨hB, hz⟩, (World.putObj_heap_other (by omega)).trans hD⟩, hz2, World.putObj_heap_same (Array.getElem?_eq_some_iff.1 hl).1⟩
 ·unfold setM
  rw [hi]
  refine h.turn hl rfl (oneInert_at h1 hi) fun u' hu' => ?_
  rw [hu] at hu'
  cases hu'
  exact ⟨rfl, ⟨hB, hz⟩, (World.putObj_heap_other (by omega)).trans hD⟩
def setPs : List Tmp → List AV → List AV → List AV
 | p :: ps, v :: vs, fr => setPs ps vs (fr.set p v)
 | _, _, fr => fr
theorem setPs_rel {w : World} {Z : Nat → Prop} {μ : List Value} : ∀ {ps : List Tmp} {avs : List AV} {vs : List Value} {fr : List AV} {tmps : Array Value}, RelL w Z μ avs vs → RelL w Z μ fr tmps.toList → ps.length = avs.length →
  RelL w Z μ (setPs ps avs fr) ((ps.zip vs).foldl (fun t (x : Tmp × Value) => t.setIfInBounds x.1 x.2) tmps).toList
 | [], [], vs, fr, tmps, _, h, _ => by simpa [setPs] using h
 | p :: ps, c :: cs, vs, fr, tmps, hv, h, hl => by
  rw [RelL] at hv
  obtain ⟨x, xs, rfl, h1, h2⟩ := hv
  simp only [setPs, List.zip_cons_cons, List.foldl_cons]
  refine setPs_rel h2 ?_ (by simpa using hl)
  rw [Array.toList_setIfInBounds]
  exact h.set p h1
 | [], _ :: _, _, _, _, _, _, hl => by simp at hl
 | _ :: _, [], _, _, _, _, _, hl => by simp at hl

def rfAt (m : M) : Option (FuncId × List AV) :=
 match m.ks with
 | .code (.rangeFunc g _ _ _) :: _ => match ev m.st.fr g with
  | .fn f caps => if noMark m.st.hp then some (f, caps) else none
  | _ => none
 | _ => none
def recM (D : Nat) (us : List Value) (m : M) : AObj :=
 match m.ks with
 | .code (.rangeFunc _ ps asg bd) :: _ => .inert (.lrec D .ready us ps asg bd)
 | _ => .dead
def afterM (j : Option Code) (m : M) (fr : List AV) (hp : List AObj) : M :=
 match m.ks with
 | .code (.rangeFunc _ _ _ _) :: ks => match j with
  | none => ⟨ks, ⟨fr, hp⟩⟩
  | some c => ⟨.code c :: ks, ⟨fr, hp⟩⟩
 | _ => m
def rangeQ (P : Program) (fn : Func) (m : M) (n D : Nat) (us : List Value) (Q : Exit → St → Prop) : Exit → St → Prop := fun e st' =>
  (e = .normal ∨ e = .ret) ∧ ∃ res fr' s, resIn P fn st' = some res ∧ frameAt n st' = some (us, fr') ∧ lstAt (n + 1) st'.hp = some (D, s) ∧
    (match s with
     | .busy => False
     | s => Runs none P (afterM s.pend m fr' (setM (n + 1) (st'.hp.set n .dead))) Q)
section
variable {P : Program} {m : M} {Q : Exit → St → Prop}
theorem oneInert_dead : ∀ {hp : List AObj} (n : Nat), oneInert hp = true → oneInert (hp.set n .dead) = true
 | [], n, h => by simpa using h
 | o :: hp, 0, h => by
  unfold oneInert at h
  simp only [List.set_cons_zero, oneInert, isInert, Bool.false_eq_true, if_false]
  split at h
  ·rename_i ho
   clear ho
   induction hp with
   | nil => rfl
   | cons o hp ih =>
    simp only [List.all_cons, Bool.and_eq_true] at h
    simp only [oneInert]
    rw [if_neg (by simpa using h.1)]
    exact ih h.2
  ·exact h
 | o :: hp, n + 1, h => by
  unfold oneInert at h
  simp only [List.set_cons_succ, oneInert]
  split at h
  ·rename_i ho
   rw [if_pos ho, List.all_eq_true]
   intro o' ho'
   rcases List.mem_or_eq_of_mem_set ho' with h1 | rfl
   ·exact List.all_eq_true.1 h o' h1
   ·rfl
  ·rename_i ho
   rw [if_neg ho]
   exact oneInert_dead n h
theorem R.range {f : FuncId} {fn : Func} {c : Code} {caps : List AV} (hf : P.funcs[f]? = some fn) (hb : fn.body = some c) (hnm : (fn.name == "runtime.NumGoroutine") = false) (h : rfAt m = some (f, caps))
  (h' : ∀ (D : Nat) (us : List Value), Runs none P ⟨[.code c], ⟨frameOf fn.ntmps (.ref (m.st.hp.length + 1) :: caps), m.st.hp ++ [.frame us m.st.fr] ++ [recM D us m]⟩⟩ (rangeQ P fn m m.st.hp.length D us Q)) : Runs none P m Q := by
 have hen := enters_of hf hnm (by rw [hb]; rfl)
 obtain ⟨ks, ⟨fr, hp⟩⟩ := m
 unfold rfAt at h
 simp only at h
 rw [runs_iff]
 split at h
 ·rename_i g ps asg bd ks'
  split at h
  ·rename_i f' caps' hg
   split at h
   ·rename_i hnmk
    cases h
    simp only [recM] at h'
    simp only [RunsK]
    intro Z0 w0 a w hS
    obtain ⟨μ, F, hFb, hH, hF, hd, hbel⟩ := hS
    have hd0 := hd.none hnmk
    refine wpIn_rangeFunc ?_
    intro fnid _
    have hgv := hg ▸ ev_rel hF g
    simp only [Rel] at hgv
    obtain ⟨cv, hgv, hcr⟩ := hgv
    obtain ⟨rec, hrec⟩ : ∃ rec : Loop, rec = { state := .ready, pending := none, fn := fnid, tmps := a.tmps, params := ps, assign := asg, body := bd, defers := w.heap.size } := ⟨_, rfl⟩
    obtain ⟨W1, hW1⟩ : ∃ W1, (w.alloc (.deferred (some []))).alloc (.loop rec) = W1 := ⟨_, rfl⟩
    have hL1 : W1.heap[w.heap.size + 1]? = some (.loop rec) := by
     rw [← hW1]; have := World.alloc_heap_new (w.alloc (.deferred (some []))) (.loop rec); rwa [World.size_alloc] at this
    have hK1 : W1.heap[w.heap.size]? = some (.deferred (some [])) := by
     rw [← hW1]; exact (Below.heap_alloc _ _ _ (by simp)).trans (World.alloc_heap_new w _)
    have hsz : W1.heap.size = w.heap.size + 2 := by rw [← hW1]; simp
    have hb1 : Below w.heap.size w W1 := by
     rw [← hW1]; exact ((Below.refl _ w).alloc (Nat.le_refl _) _).alloc (by simp) _
    refine ⟨w.heap.size + 1, [{ target := .collected w.heap.size, args := #[] }], W1, { target := .fn (.func f) cv.toArray, args := #[.func (.yield (w.heap.size + 1)) #[] #[]] }, W1, f,
     #[.func (.yield (w.heap.size + 1)) #[] #[]] ++ cv.toArray, W1, ?_, ?_, fun _ _ => trivial, ?_, fun hd => absurd hd (by simp [Fc, Fence.wide]), ?_⟩
    ·rw [← hW1, hrec]; exact run_enterLoop_outer _ _ _ _ _
    ·simp only [resolve, hgv]
     simp [go_sem]
    ·simp [invoke, go_sem, hen _ W1]
    ·
     have hrun := h' w.heap.size a.tmps.toList
     simp only [runs_iff, RunsK] at hrun
     have hFb2 : ∀ b, (F b ∨ b = w.heap.size ∨ b = w.heap.size + 1) → w0.heap.size ≤ b ∧ b < W1.heap.size := fun b hb => by
      have hB := hbel.size
      rcases hb with hb | rfl | rfl
      ·have := hFb b hb; omega
      ·omega
      ·omega
     have hz : ∀ b, b < w.heap.size → ¬ Zone Z0 F w0.heap.size b → ¬ Zone Z0 (fun b => F b ∨ b = w.heap.size ∨ b = w.heap.size + 1) w0.heap.size b := fun b _ hb => zone_more (F' := fun b => b = w.heap.size ∨ b = w.heap.size + 1) b hb
     have hzz : ∀ b, b < w.heap.size → Zone Z0 F w0.heap.size b → Zone Z0 (fun b => F b ∨ b = w.heap.size ∨ b = w.heap.size + 1) w0.heap.size b := fun b hb h => h.elim .inl fun h2 => .inr ⟨h2.1, fun hf => hf.elim h2.2 (fun h3 => by omega)⟩
     have hnz : ∀ b, w.heap.size ≤ b → b ≤ w.heap.size + 1 → ¬ Zone Z0 (fun b => F b ∨ b = w.heap.size ∨ b = w.heap.size + 1) w0.heap.size b := fun b h1 h2 h => by
      have hB := hbel.size
      rcases h with h | h
      ·omega
      ·exact h.2 (.inr (by omega))
     have hH1 := (hH.weak hz hzz).extend0 (u := .bool false) (o := .frame a.tmps.toList fr) (Below.refl _ _) (RelL.keep (w := w) (fun _ _ _ => rfl) (fun i u hu => append_old i u hu) (hF.weak hz)) rfl rfl
     have hH2 := hH1.extend0 (u := .func (.yield (w.heap.size + 1)) #[] #[]) (o := .inert (.lrec w.heap.size .ready a.tmps.toList ps asg bd)) hb1
      ⟨fnid, rfl, ⟨⟨hbel.size, hnz _ (Nat.le_refl _) (by omega)⟩, hK1⟩, hnz _ (by omega) (Nat.le_refl _), by rw [hL1, hrec]; rfl⟩ rfl rfl
     have hlen := hcr.length
     have hkeep : ∀ {cs : List AV} {vs : List Value}, RelL w (Zone Z0 F w0.heap.size) μ cs vs → RelL W1 (Zone Z0 (fun b => F b ∨ b = w.heap.size ∨ b = w.heap.size + 1) w0.heap.size) (μ ++ [.bool false] ++ [.func (.yield (w.heap.size + 1)) #[] #[]]) cs vs := fun h =>
      RelL.keep (w := w) (fun b hb _ => hb1.block b hb) (fun i u hu => append_old i u (append_old i u hu)) (h.weak hz)
     have hS2 : Sim Z0 w0 ⟨frameOf fn.ntmps (.ref (hp.length + 1) :: caps), hp ++ [.frame a.tmps.toList fr] ++ [.inert (.lrec w.heap.size .ready a.tmps.toList ps asg bd)]⟩
       { tmps := (#[Value.func (.yield (w.heap.size + 1)) #[] #[]] ++ cv.toArray) ++ Array.replicate (fn.ntmps - (#[Value.func (.yield (w.heap.size + 1)) #[] #[]] ++ cv.toArray).size) undef, defers := [] } W1 := by
      refine ⟨_, _, hFb2, hH2, ?_, .inl rfl, hbel.trans (hb1.mono hbel.size)⟩
      have hall : RelL W1 (Zone Z0 (fun b => F b ∨ b = w.heap.size ∨ b = w.heap.size + 1) w0.heap.size) (μ ++ [.bool false] ++ [.func (.yield (w.heap.size + 1)) #[] #[]]) (.ref (hp.length + 1) :: caps) (.func (.yield (w.heap.size + 1)) #[] #[] :: cv) := by
       refine RelL.cons ?_ (hkeep hcr)
       simp only [Rel]
       rw [← hH.len]
       simp
      have e1 : (#[Value.func (.yield (w.heap.size + 1)) #[] #[]] ++ cv.toArray) = (Value.func (.yield (w.heap.size + 1)) #[] #[] :: cv).toArray := by simp
      rw [e1]
      have hl2 := hall.length
      simp only [Array.toList_append, Array.toList_replicate, List.size_toArray, hl2, frameOf]
      refine RelL.append hall ?_
      generalize fn.ntmps - (AV.ref (hp.length + 1) :: caps).length = n
      induction n with
      | zero => exact RelL.nil
      | succ n ih => exact RelL.cons (by simp [Rel]) ih
     refine callsIn_of_wp (F := Fc none) (n := 0 - 1) hf hb trivial (wpIn_mono (hrun Z0 w0 _ W1 hS2) ?_)
     have fin : ∀ (e : Exit) (st' : St) (a' : Act) (w' : World), rangeQ P fn ⟨.code (.rangeFunc g ps asg bd) :: ks', ⟨fr, hp⟩⟩ hp.length w.heap.size a.tmps.toList Q e st' → Sim Z0 w0 st' a' w' → a'.defers = [] ∧ ∃ v, (results fn a'.tmps).run P w' = .ok v w' ∧
       rangePost (Fc none) 0 P (w.heap.size + 1) (fun e a' w' => ∃ st', RunsK none P Q ks' e st' ∧ Sim Z0 w0 st' a' w') { a with defers := [{ target := .collected w.heap.size, args := #[] }] ++ a.defers } (.returned v) w' := by
      rintro e st' a' w' ⟨_, res, fr', s, hres, hfr, hls, hgo⟩ ⟨μ', F', hFb', hH', hF', hd', hbel'⟩
      obtain ⟨x, h1, h2⟩ := resIn_run hH' hF' hres
      obtain ⟨⟨us', ps', asg', bd', hi⟩, hone⟩ := lstAt_parts hls
      refine ⟨hd'.none (resIn_mark hres), x, h1, ?_⟩
      unfold frameAt at hfr
      split at hfr
      ·rename_i us2 fr2 hi2
       cases hfr
       have hil : hp.length < μ'.length := by rw [hH'.len]; exact (List.getElem?_eq_some_iff.1 hi2).1
       have hfrr : RelL w' (Zone Z0 F' w0.heap.size) μ' fr' a.tmps.toList := hH'.obj _ _ _ hi2 (List.getElem?_eq_getElem hil)
       have hi3 : (st'.hp.set hp.length .dead)[hp.length + 1]? = some (.inert (.lrec w.heap.size s us' ps' asg' bd')) := by
        rw [List.getElem?_set_ne (by omega)]; exact hi
       obtain ⟨r, hr1, hr2, hr3, _, _, _, _, hBD, hD, hμ, _, hM⟩ := (hH'.bury hp.length).turnL (oneInert_dead _ hone) hi3
       have hend := run_endLoop (P := P) hr1
       have hsim : Sim Z0 w0 ⟨fr', setM (hp.length + 1) (st'.hp.set hp.length .dead)⟩ { a with defers := [{ target := .collected w.heap.size, args := #[] }] ++ a.defers } (w'.putObj (w.heap.size + 1) (.loop { r with state := .exhausted })) := by
        refine ⟨μ', F', fun b hb => by rw [World.putObj_size]; exact hFb' b hb, hM _, hfrr.cells (putObj_cells hr1 rfl), .inr ⟨hp.length + 1, w.heap.size, _, ?_, hμ, by rw [hd0]; rfl⟩, ?_⟩
        ·unfold setM
         rw [hi3]
         simp only [Inert.over]
         rw [List.getElem?_set_self]
         have := (List.getElem?_eq_some_iff.1 hi3).1
         exact this
        ·exact hbel'.grown (grownBy_putObj' w' _ _) hbel'.size (fun k e => by cases e; omega)
       cases s with
       | ready =>
        refine ⟨none, w'.putObj (w.heap.size + 1) (.loop { r with state := .exhausted }), (hend (by rw [hr2]; simp [LSt.state])).trans (congrArg (fun x => Result.ok x _) hr3), ?_⟩
        simp only [runs_iff, afterM, LSt.pend] at hgo
        exact ⟨_, hgo, hsim⟩
       | busy => exact hgo.elim
       | done c =>
        refine ⟨some c, w'.putObj (w.heap.size + 1) (.loop { r with state := .exhausted }), (hend (by rw [hr2]; simp [LSt.state])).trans (congrArg (fun x => Result.ok x _) hr3), ?_⟩
        simp only [runs_iff, afterM, LSt.pend, RunsK] at hgo
        exact hgo Z0 w0 _ _ hsim
      ·cases hfr
     rintro e a' w' ⟨st', hq, hS'⟩
     cases e with
     | normal => exact fin _ st' a' w' hq hS'
     | ret => exact fin _ st' a' w' hq hS'
     | exit id => exact absurd hq.1 (by simp)
     | goto l => exact absurd hq.1 (by simp)
     | panic ch => exact absurd hq.1 (by simp)
     | outgrown => exact absurd hq.1 (by simp)
   ·cases h
  ·cases h
 ·cases h

def ylAt (m : M) : Option (Nat × Nat × List Value × List Value) :=
 match opM m with
 | some (.call c) => match c.callee with
  | .value f => match ev m.st.fr f with
   | .ref i => match m.st.hp[i]?, m.st.hp[i - 1]? with
    | some (.inert (.lrec D .ready us ps _ _)), some (.frame us' _) => if noMark m.st.hp && oneInert m.st.hp && decide (ps.size = c.args.size) then some (i, D, us, us') else none
    | _, _ => none
   | _ => none
  | _ => none
 | _ => none
def ylF (m : M) : List AV :=
 match opM m with
 | some (.call c) => match c.callee with
  | .value f => match ev m.st.fr f with
   | .ref i => match m.st.hp[i]?, m.st.hp[i - 1]? with
    | some (.inert (.lrec _ _ _ ps _ _)), some (.frame _ fr) => setPs ps.toList (c.args.toList.map (ev m.st.fr)) fr
    | _, _ => []
   | _ => []
  | _ => []
 | _ => []
def ylC (m : M) : Code × Code :=
 match opM m with
 | some (.call c) => match c.callee with
  | .value f => match ev m.st.fr f with
   | .ref i => match m.st.hp[i]? with
    | some (.inert (.lrec _ _ _ _ asg bd)) => (asg, bd)
    | _ => (.skip, .skip)
   | _ => (.skip, .skip)
  | _ => (.skip, .skip)
 | _ => (.skip, .skip)
def beginQ (l : Nat) (P : Program) (i D : Nat) (bd : Code) (Q : Exit → St → Prop) : Exit → St → Prop := fun e st' =>
 e = .normal ∧ lstAt i st'.hp = some (D, .ready) ∧ Runs (some l) P ⟨[.code bd], ⟨st'.fr, setL i .busy st'.hp⟩⟩ Q
def roundQ (P : Program) (m : M) (i D n : Nat) (us : List Value) (Q : Exit → St → Prop) : Exit → St → Prop := fun e st' =>
 ∃ fr', frameAt n st' = some (us, fr') ∧ lstAt i st'.hp = some (D, .busy) ∧
  match e with
  | .normal => Runs none P (backM m fr' (.bool true) (setL i .ready (st'.hp.set n .dead))) Q
  | .ret => Runs none P (backM m fr' (.bool false) (setL i (.done .ret) (st'.hp.set n .dead))) Q
  | .exit id => Runs none P (backM m fr' (.bool false) (setL i (.done (.exit id)) (st'.hp.set n .dead))) Q
  | _ => False
theorem R.yield (i D : Nat) (us : List Value) (h : ylAt m = some (i, D, us, us)) (ho : opsAt m = true)
  (h' : ∀ (l : Nat) (us' : List Value), Runs (some l) P ⟨[.code (ylC m).1], ⟨ylF m, m.st.hp ++ [.frame us' m.st.fr]⟩⟩ (beginQ l P i D (ylC m).2 (roundQ P m i D m.st.hp.length us' Q))) : Runs none P m Q := by
 obtain ⟨ks, ⟨fr, hp⟩⟩ := m
 unfold ylAt at h
 unfold ylF ylC at h'
 unfold opM headOf at h h'
 unfold opsAt at ho
 simp only at h ho h'
 rw [runs_iff]
 split at ho
 ·rename_i all o lst fl ks'
  simp only at h h'
  split at h
  ·rename_i c hop
   split at hop
   ·rename_i hw
    simp only [Option.some.injEq] at hop
    simp only [hw, if_true, hop] at h'
    split at h
    ·rename_i fo hcal
     simp only [hcal] at h'
     split at h
     ·rename_i i0 hev
      simp only [hev] at h'
      split at h
      ·rename_i D0 us0 ps asg bd us1 cfr hi0 hi1
       simp only [hi0, hi1] at h'
       split at h
       ·rename_i hc
        simp only [Bool.and_eq_true, decide_eq_true_eq] at hc
        obtain ⟨⟨hnmk, hone⟩, hps⟩ := hc
        simp only [Option.some.injEq, Prod.mk.injEq] at h
        obtain ⟨rfl, rfl, rfl, rfl⟩ := h
        simp only [RunsK]
        intro hW
        have hwant := wantH_true hw hW
        intro Z0 w0 a w hS
        obtain ⟨μ, F, hFb, hH, hF, hd, hbel⟩ := hS
        have hd0 := hd.none hnmk
        refine wpListIn_step fun K hK => ?_
        rw [wanted_rel hF hwant, if_pos rfl]
        have hE : ∀ y, Rel w (Zone Z0 F w0.heap.size) μ (ev fr y) (a.eval y) := fun y => ev_rel hF y
        have hcv := hev ▸ hE fo
        simp only [Rel] at hcv
        obtain ⟨r, hr1, hr2, hr3, hr4, hr5, hr6, hr7, hBD, hD, hμ, hL, _⟩ := hH.turnL hone hi0
        rw [hμ] at hcv
        have hcv : a.eval fo = .func (.yield (D0 + 1)) #[] #[] := (Option.some.inj hcv).symm
        have hargs' : RelL w (Zone Z0 F w0.heap.size) μ (c.args.toList.map (ev fr)) (c.args.toList.map a.eval) := by
         generalize c.args.toList = l
         induction l with
         | nil => exact RelL.nil
         | cons x l ih => exact RelL.cons (hE x) ih
        have hrun : (execOp a.eval o).run P w = .ok (.round (D0 + 1) r.fn ((ps.zip (c.args.map a.eval)).foldl (fun tmps (x : Tmp × Value) => tmps.setIfInBounds x.1 x.2) us1.toArray) asg bd) w := by
         have hy := run_yield (P := P) (args := c.args.map a.eval) hr1 (by rw [hr5, Array.size_map]; exact hps.symm)
         rw [hr4, hr5, hr6, hr7] at hy
         obtain ⟨callee, cargs, tys⟩ := c
         simp only at hcal hy
         subst hcal
         simp only [execOp, hop, resolve, Deferred.ofValue, hcv, Sem.run_bind, Sem.run_pure, Result.andThen_ok, invoke, Array.empty_append, Array.append_empty]
         exact hy
        refine wpIn_of_run (fun c' => by rw [hop]; simp) ?_
        rw [hrun, Oper.uponIn_round]
        refine ⟨fun hd => absurd hd (by simp [Fc, Fence.wide]), ?_⟩
        refine roundIn_of_wpIn (F := Fc none) trivial ?_
        have hrun2 := h' (D0 + 1) a.tmps.toList
        simp only [runs_iff, RunsK] at hrun2
        have hil : i0 - 1 < μ.length := by rw [hH.len]; exact (List.getElem?_eq_some_iff.1 hi1).1
        have hcfr : RelL w (Zone Z0 F w0.heap.size) μ cfr us1 := hH.obj _ _ _ hi1 (List.getElem?_eq_getElem hil)
        have hS2 : Sim Z0 w0 ⟨setPs ps.toList (c.args.toList.map (ev fr)) cfr, hp ++ [.frame a.tmps.toList fr]⟩ { tmps := (ps.zip (c.args.map a.eval)).foldl (fun tmps (x : Tmp × Value) => tmps.setIfInBounds x.1 x.2) us1.toArray, defers := [] } w := by
         refine ⟨μ ++ [.bool false], F, hFb, hH.extend0 (Below.refl _ _) (RelL.keep (w := w) (fun _ _ _ => rfl) (fun i u hu => append_old i u hu) hF) rfl rfl, ?_, .inl rfl, hbel⟩
         have := setPs_rel (ps := ps.toList) (tmps := us1.toArray) hargs' hcfr (by simpa using hps)
         refine RelL.keep (w := w) (fun _ _ _ => rfl) (fun i u hu => append_old i u hu) ?_
         rw [← Array.foldl_toList, Array.toList_zip, Array.toList_map]
         exact this
        refine wpIn_mono (hrun2 Z0 w0 _ w hS2) ?_
        rintro e a1 w1 ⟨st1, ⟨rfl, hls, hgo⟩, hS1⟩
        obtain ⟨⟨us2, ps2, as2, bd2, hj⟩, hone1⟩ := lstAt_parts hls
        obtain ⟨μ1, F1, hFb1, hH1, hF1, hd1, hbel1⟩ := hS1
        obtain ⟨r1, k1, k2, k3, k4, k5, k6, k7, kB, kD, kμ, kL, _⟩ := hH1.turnL hone1 hj
        refine ⟨_, run_beginRound k1 (by rw [k2]; rfl), ?_⟩
        have hbusy : ({ r1 with state := .busy } : Loop) = { r1 with state := LSt.busy.state, pending := LSt.busy.pend } := by
         rw [show LSt.busy.pend = r1.pending from k3.symm]; rfl
        have keepD : ∀ {hp' : List AObj} {μ' : List Value} {ds : List Deferred} (s : LSt), Defs μ' hp' ds → noMark hp' = true → Defs μ' (setL i0 s hp') ds := fun s h hn => .inl (h.none hn)
        have hS3 : Sim Z0 w0 ⟨st1.fr, setL i0 .busy st1.hp⟩ a1 (w1.putObj (D0 + 1) (.loop { r1 with state := .busy })) := by
         refine ⟨μ1, F1, fun b hb => by rw [World.putObj_size]; exact hFb1 b hb, by rw [hbusy]; exact kL .busy, hF1.cells (putObj_cells k1 rfl), ?_, hbel1.grown (grownBy_putObj' w1 _ _) hbel1.size (fun k e => by cases e; omega)⟩
         rcases hd1 with hd1 | ⟨i', D', u', e1, _, _⟩
         ·exact .inl hd1
         ·exfalso
          have := oneInert_at hone1 hj _ _ e1
          subst this
          rw [hj] at e1
          cases e1
        simp only [runs_iff, RunsK] at hgo
        refine wpIn_mono (hgo Z0 w0 _ _ hS3) ?_
        have fin : ∀ (s : LSt) (j : Option Code) (b : Bool) (st2 : St) (a2 : Act) (w2 : World) (fr2 : List AV), s.pend = j → s.state = (if j.isNone then LoopState.ready else LoopState.done) → b = j.isNone → frameAt hp.length st2 = some (a.tmps.toList, fr2) → lstAt i0 st2.hp = some (D0, .busy) → Sim Z0 w0 st2 a2 w2 →
          Runs none P (backM ⟨.ops all (o :: lst) fl :: ks', ⟨fr, hp⟩⟩ fr2 (.bool b) (setL i0 s (st2.hp.set hp.length .dead))) Q → ∃ v w3, (Instr.endRound (D0 + 1) j).run P w2 = .ok v w3 ∧ K (a.put o.dst v) w3 := by
         rintro s j b st2 a2 w2 fr2 rfl hst rfl hfr hls2 ⟨μ2, F2, hFb2, hH2, hF2, hd2, hbel2⟩ hgo2
         obtain ⟨⟨us3, ps3, as3, bd3, hj3⟩, hone2⟩ := lstAt_parts hls2
         unfold frameAt at hfr
         split at hfr
         ·rename_i us4 fr4 hi4
          cases hfr
          have hne : hp.length ≠ i0 := by
           intro e
           rw [e, hj3] at hi4
           cases hi4
          have hj4 : (st2.hp.set hp.length .dead)[i0]? = some (.inert (.lrec D0 .busy us3 ps3 as3 bd3)) := by
           rw [List.getElem?_set_ne hne]; exact hj3
          obtain ⟨r2, q1, q2, q3, _, _, _, _, qB, _, _, qL, _⟩ := (hH2.bury hp.length).turnL (oneInert_dead _ hone2) hj4
          refine ⟨_, _, run_endRound _ q1, hK _ _ ?_⟩
          have hil2 : hp.length < μ2.length := by rw [hH2.len]; exact (List.getElem?_eq_some_iff.1 hi4).1
          have hfrr : RelL w2 (Zone Z0 F2 w0.heap.size) μ2 fr2 a.tmps.toList := hH2.obj _ _ _ hi4 (List.getElem?_eq_getElem hil2)
          simp only [runs_iff, backM, RunsK] at hgo2
          refine hgo2 headW_false Z0 w0 _ _ ⟨μ2, F2, fun b hb => by rw [World.putObj_size]; exact hFb2 b hb, ?_, put_rel (hfrr.cells (putObj_cells q1 rfl)) _ (by simp [Rel]), by rw [put_defers']; exact .inl hd0, hbel2.grown (grownBy_putObj' w2 _ _) hbel2.size (fun k e => by cases e; omega)⟩
          rw [← hst]
          exact qL s
         ·cases hfr
        rintro e a2 w2 ⟨st2, ⟨fr2, hfr, hls2, hgo2⟩, hS4⟩
        cases e with
        | normal => exact fin .ready none true st2 a2 w2 fr2 rfl rfl rfl hfr hls2 hS4 hgo2
        | ret => exact fin (.done .ret) (some .ret) false st2 a2 w2 fr2 rfl rfl rfl hfr hls2 hS4 hgo2
        | exit id => exact fin (.done (.exit id)) (some (.exit id)) false st2 a2 w2 fr2 rfl rfl rfl hfr hls2 hS4 hgo2
        | goto l => exact hgo2.elim
        | panic ch => exact hgo2.elim
        | outgrown => exact hgo2.elim
       ·cases h
      ·cases h
     ·cases h
    ·cases h
   ·cases hop
  ·cases h
 ·cases ho
theorem R.begin {l i D : Nat} {bd : Code} (h : m.ks = []) (hl : lstAt i m.st.hp = some (D, .ready)) (h' : Runs (some l) P ⟨[.code bd], ⟨m.st.fr, setL i .busy m.st.hp⟩⟩ Q) : Runs (some l) P m (beginQ l P i D bd Q) := by
 obtain ⟨ks, st⟩ := m
 simp only at h hl h'
 subst h
 rw [runs_iff]
 exact ⟨rfl, hl, h'⟩
theorem R.round {l i D n : Nat} {m0 : M} {us : List Value} (fr' : List AV) (h : m.ks = []) (hf : frameAt n m.st = some (us, fr')) (hl : lstAt i m.st.hp = some (D, .busy))
  (h' : Runs none P (backM m0 fr' (.bool true) (setL i .ready (m.st.hp.set n .dead))) Q) : Runs (some l) P m (roundQ P m0 i D n us Q) := by
 obtain ⟨ks, st⟩ := m
 simp only at h hl h' hf
 subst h
 rw [runs_iff]
 exact ⟨fr', hf, hl, h'⟩
def isRet (m : M) : Bool :=
 match m.ks with
 | .code .ret :: _ => true
 | _ => false
theorem R.roundR {l i D n : Nat} {m0 : M} {us : List Value} (fr' : List AV) (h : isRet m = true) (hf : frameAt n m.st = some (us, fr')) (hl : lstAt i m.st.hp = some (D, .busy))
  (h' : Runs none P (backM m0 fr' (.bool false) (setL i (.done .ret) (m.st.hp.set n .dead))) Q) : Runs (some l) P m (roundQ P m0 i D n us Q) := by
 obtain ⟨ks, st⟩ := m
 unfold isRet at h
 simp only at h hl h' hf
 split at h
 ·rw [runs_iff]
  exact RunA.ret (runsK_ret _ _ ⟨fr', hf, hl, h'⟩)
 ·cases h
theorem R.over {fn : Func} {n D : Nat} {us : List Value} {m0 : M} (res : AV) (fr' : List AV) (h : (edAt m).isSome = true) (hr : resIn P fn m.st = some res) (hf : frameAt n m.st = some (us, fr')) (hl : lstAt (n + 1) m.st.hp = some (D, .ready))
  (h' : Runs none P (afterM none m0 fr' (setM (n + 1) (m.st.hp.set n .dead))) Q) : Runs none P m (rangeQ P fn m0 n D us Q) :=
 R.fin h ⟨.inl rfl, res, fr', .ready, hr, hf, hl, h'⟩ ⟨.inr rfl, res, fr', .ready, hr, hf, hl, h'⟩
theorem R.left {fn : Func} {n D : Nat} {us : List Value} {m0 : M} (c : Code) (res : AV) (fr' : List AV) (h : (edAt m).isSome = true) (hr : resIn P fn m.st = some res) (hf : frameAt n m.st = some (us, fr')) (hl : lstAt (n + 1) m.st.hp = some (D, .done c))
  (h' : Runs none P (afterM (some c) m0 fr' (setM (n + 1) (m.st.hp.set n .dead))) Q) : Runs none P m (rangeQ P fn m0 n D us Q) :=
 R.fin h ⟨.inl rfl, res, fr', .done c, hr, hf, hl, h'⟩ ⟨.inr rfl, res, fr', .done c, hr, hf, hl, h'⟩
end
end Go.Abs

/-! The machine's rules: boxes that are written no more. -/
namespace Go.Abs
open Go.RowKit
mutual
def bxV (i : Nat) (ds : List AV) : AV → AV
 | .ptr j o => if j = i then .rptr (ds.drop o) else .ptr j o
 | .agg cs => .agg (bxL i ds cs)
 | .tup cs => .tup (bxL i ds cs)
 | .fn f cs => .fn f (bxL i ds cs)
 | .ref j => .ref j
 | .lst s n cs => .lst s n cs
 | .clp s n cs => .clp s n cs
 | .nam u o s n cs => .nam u o s n cs
 | .rptr cs => .rptr cs
 | .int k n => .int k n
 | .bool b => .bool b
 | .str s => .str s
 | .nil => .nil
 | .own e s n cs => .own e s n cs
 | .top => .top
def bxL (i : Nat) (ds : List AV) : List AV → List AV
 | [] => []
 | c :: cs => bxV i ds c :: bxL i ds cs
end
def AObj.bx (i : Nat) (ds : List AV) : AObj → AObj
 | .box t cs => .box t (bxL i ds cs)
 | .list e s n cs => .list e s n cs
 | .dead => .dead
 | .frame us cs => .frame us (bxL i ds cs)
 | .inert x => .inert x
theorem AObj.bx_alive (i : Nat) (ds : List AV) (o : AObj) : (o.bx i ds).alive = o.alive := by cases o <;> rfl
def bxS (i : Nat) (ds : List AV) (st : St) : St := ⟨bxL i ds st.fr, (st.hp.map (AObj.bx i ds)).set i .dead⟩
theorem RelL.dropN {w : World} {Z : Nat → Prop} {μ : List Value} : ∀ {cs : List AV} {vs : List Value} (k : Nat), RelL w Z μ cs vs → RelL w Z μ (cs.drop k) (vs.drop k)
 | cs, vs, 0, h => by simpa using h
 | [], vs, k + 1, h => by rw [RelL] at h; subst h; simpa using RelL.nil
 | c :: cs, vs, k + 1, h => by
  rw [RelL] at h
  obtain ⟨x, xs, rfl, _, h2⟩ := h
  simpa using RelL.dropN k h2
mutual
theorem Rel.bx {w : World} {Z Z' : Nat → Prop} {μ : List Value} (i : Nat) (ds : List AV) (g : Nat) (xs : List Value) (hz : ∀ b, b < w.heap.size → ¬ Z b → ¬ Z' b) (hu : μ[i]? = some (.pointer (some ⟨g, 0, none⟩))) (hg : ¬ Z' g)
  (hc : ∀ (j : Nat) x, xs[j]? = some x → w.cell? ⟨g, j, none⟩ = some x) (hr : RelL w Z' [] ds xs) : ∀ {c : AV} {v : Value}, Rel w Z μ c v → Rel w Z' μ (bxV i ds c) v
 | .int _ _, _, h => by simpa [Rel, bxV] using h
 | .bool _, _, h => by simpa [Rel, bxV] using h
 | .str _, _, h => by simpa [Rel, bxV] using h
 | .nil, _, h => by simpa [Rel, bxV] using h
 | .top, _, _ => by simp [Rel, bxV]
 | .own _ _ _ _, _, h => by simp [Rel] at h
 | .lst s n cs, v, h => Rel.weak (c := .lst s n cs) hz h
 | .clp s n cs, v, h => Rel.weak (c := .clp s n cs) hz h
 | .nam u o s n cs, v, h => Rel.weak (c := .nam u o s n cs) hz h
 | .rptr cs, v, h => Rel.weak (c := .rptr cs) hz h
 | .ref j, v, h => by simpa [Rel, bxV] using h
 | .ptr j o, v, h => by
  simp only [bxV]
  split
  ·rename_i hj
   simp only [Rel] at h ⊢
   obtain ⟨u, g', h1, h2, rfl⟩ := h
   rw [hj, hu] at h1
   cases h1
   simp only [blk, Option.some.injEq] at h2
   subst h2
   refine ⟨⟨g, o, none⟩, xs.drop o, rfl, fun _ => ⟨_, rfl, hg, fun j x hx => ?_⟩, hr.dropN o⟩
   rw [List.getElem?_drop] at hx
   rw [add_lit']
   exact hc _ _ hx
  ·simpa [Rel] using h
 | .agg cs, v, h => by
  simp only [Rel, bxV] at h ⊢
  obtain ⟨ys, h1, h2⟩ := h
  exact ⟨ys, h1, RelL.bx i ds g xs hz hu hg hc hr h2⟩
 | .tup cs, v, h => by
  simp only [Rel, bxV] at h ⊢
  obtain ⟨ys, h1, h2⟩ := h
  exact ⟨ys, h1, RelL.bx i ds g xs hz hu hg hc hr h2⟩
 | .fn f cs, v, h => by
  simp only [Rel, bxV] at h ⊢
  obtain ⟨ys, h1, h2⟩ := h
  exact ⟨ys, h1, RelL.bx i ds g xs hz hu hg hc hr h2⟩
theorem RelL.bx {w : World} {Z Z' : Nat → Prop} {μ : List Value} (i : Nat) (ds : List AV) (g : Nat) (xs : List Value) (hz : ∀ b, b < w.heap.size → ¬ Z b → ¬ Z' b) (hu : μ[i]? = some (.pointer (some ⟨g, 0, none⟩))) (hg : ¬ Z' g)
  (hc : ∀ (j : Nat) x, xs[j]? = some x → w.cell? ⟨g, j, none⟩ = some x) (hr : RelL w Z' [] ds xs) : ∀ {cs : List AV} {vs : List Value}, RelL w Z μ cs vs → RelL w Z' μ (bxL i ds cs) vs
 | [], _, h => by simpa [RelL, bxL] using h
 | c :: cs, _, h => by
  simp only [RelL, bxL] at h ⊢
  obtain ⟨x, ys, h1, h2, h3⟩ := h
  exact ⟨x, ys, h1, Rel.bx i ds g xs hz hu hg hc hr h2, RelL.bx i ds g xs hz hu hg hc hr h3⟩
end
theorem Sub.bx (i t : Nat) (ds : List AV) (st : St) (hi : st.hp[i]? = some (.box t ds)) (hl : leafyL ds = true) : Sub st (bxS i ds st) := by
 rintro Z0 w0 a w ⟨μ, F, hFb, hH, hF, hd, hb⟩
 have hil : i < μ.length := by rw [hH.len]; exact (List.getElem?_eq_some_iff.1 hi).1
 obtain ⟨u, hu⟩ : ∃ u, μ[i]? = some u := ⟨_, List.getElem?_eq_getElem hil⟩
 have hO := hH.obj i _ u hi hu
 have hzn := fun g => hH.zone i _ u g hi rfl hu
 obtain ⟨g, xs, rfl, hB, hh, hx⟩ := hO
 have hz : ∀ b, b < w.heap.size → ¬ Zone Z0 F w0.heap.size b → ¬ Zone Z0 (fun b => F b ∨ b = g) w0.heap.size b := fun b _ h => zone_more b h
 have hg : ¬ Zone Z0 (fun b => F b ∨ b = g) w0.heap.size g := fun h => h.elim (fun h => by omega) (fun h => h.2 (.inr rfl))
 have hc : ∀ (j : Nat) x, xs[j]? = some x → w.cell? ⟨g, j, none⟩ = some x := fun j x hx => by
  rw [cell_of_row w _ j _ _ _ hh]; simpa using hx
 have hr : RelL w (Zone Z0 (fun b => F b ∨ b = g) w0.heap.size) [] ds xs := RelL.weak hz (RelL.leafy hl hx)
 refine ⟨μ, fun b => F b ∨ b = g, fun b h => h.elim (hFb b) (fun h => by subst h; exact ⟨hB, (Array.getElem?_eq_some_iff.1 hh).1⟩), ?_, RelL.bx i ds g xs hz hu hg hc hr hF, hd.keep (fun j x hj => ⟨?_, fun u hu => hu⟩), hb⟩
 rotate_left
 ·have hne : i ≠ j := by
   rintro rfl
   rw [hi] at hj
   cases hj
  show ((st.hp.map (AObj.bx i ds)).set i .dead)[j]? = _
  rw [List.getElem?_set_ne hne, List.getElem?_map, hj]
  rfl
 have get : ∀ (j : Nat) o, ((st.hp.map (AObj.bx i ds)).set i .dead)[j]? = some o → o = .dead ∨ (j ≠ i ∧ ∃ o', st.hp[j]? = some o' ∧ o = o'.bx i ds) := by
  intro j o ho
  by_cases hj : j = i
  ·subst hj
   rw [List.getElem?_set_self (by simpa using (List.getElem?_eq_some_iff.1 hi).1)] at ho
   simp at ho
   exact .inl ho.symm
  ·rw [List.getElem?_set_ne (Ne.symm hj), List.getElem?_map, Option.map_eq_some_iff] at ho
   obtain ⟨o', h1, rfl⟩ := ho
   exact .inr ⟨hj, o', h1, rfl⟩
 refine ⟨by simp [bxS, hH.len], fun j o v g' h1 ha h2 hg' => ?_, hH.one, fun j o v h1 h2 => ?_, fun j k oj ok uj uk g' hne h1 h2 a1 a2 m1 m2 b1 b2 => ?_⟩
 ·rcases get j o h1 with rfl | ⟨hj, o', ho, rfl⟩
  ·cases ha
  ·rw [AObj.bx_alive] at ha
   have h3 := hH.zone j o' v g' ho ha h2 hg'
   exact h3.elim .inl (fun h => .inr ⟨h.1, fun hf => hf.elim h.2 (fun h4 => hH.sep i j _ o' _ v g' (Ne.symm hj) hi ho rfl ha hu h2 (by rw [h4]; rfl) hg')⟩)
 ·rcases get j o h1 with rfl | ⟨hj, o', ho, rfl⟩
  ·trivial
  ·have hO := hH.obj j o' v ho h2
   cases o' with
   | box t es => obtain ⟨g', ys, e1, e2, e3, e4⟩ := hO; exact ⟨g', ys, e1, e2, e3, RelL.bx i ds g xs hz hu hg hc hr e4⟩
   | list e s n es => obtain ⟨ys, e1, e2⟩ := hO; exact ⟨ys, e1, e2.weak hz⟩
   | dead => trivial
   | frame us es => exact RelL.bx i ds g xs hz hu hg hc hr hO
   | inert x => exact InertRel.keep (fun b h1 h2 => ⟨rfl, hz b h1 h2⟩) hO
 ·rcases get j oj h1 with rfl | ⟨hj, o1, ho1, rfl⟩
  ·cases a1
  ·rcases get k ok h2 with rfl | ⟨hk, o2, ho2, rfl⟩
   ·cases a2
   ·rw [AObj.bx_alive] at a1 a2
    exact hH.sep j k o1 o2 uj uk g' hne ho1 ho2 a1 a2 m1 m2 b1 b2
def bxM (i : Nat) (m : M) : M :=
 match m.st.hp[i]? with
 | some (.box _ ds) => if leafyL ds then ⟨m.ks, bxS i ds m.st⟩ else m
 | _ => m
theorem R.bx {rd : Option Nat} {P : Program} {m : M} {Q : Exit → St → Prop} (i : Nat) (h : subOk m = true) (h' : Runs rd P (bxM i m) Q) : Runs rd P m Q := by
 unfold bxM at h'
 split at h'
 ·rename_i t ds hi
  split at h'
  ·exact R.sub _ h (Sub.bx i t ds m.st hi (by assumption)) h'
  ·exact h'
 ·exact h'

def rfOf : Code → Option (Array Tmp × Code × Code)
 | .rangeFunc _ ps asg bd => some (ps, asg, bd)
 | .seq x y => match rfOf x with
  | some r => some r
  | none => rfOf y
 | .cond _ x y => match rfOf x with
  | some r => some r
  | none => rfOf y
 | .block _ c => rfOf c
 | .loop c => rfOf c
 | .scope c => rfOf c
 | _ => none
def loopObj (fn : Func) (D : Nat) (us : List Value) (s : LSt) : AObj :=
 match fn.body with
 | some c => match rfOf c with
  | some (ps, asg, bd) => .inert (.lrec D s us ps asg bd)
  | none => .dead
 | none => .dead
end Go.Abs
