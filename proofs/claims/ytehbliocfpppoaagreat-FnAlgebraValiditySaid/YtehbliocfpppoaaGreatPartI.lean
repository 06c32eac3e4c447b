/- Texts of the proof: E02, E05, Sym3, Symg, Syma, Symb, Symc, Symm, Symn, Sym4. -/
import Derived.Laws.StructEq
import Derived.Laws.Concat
import Derived.Laws.BytesString
import Derived.Test.YtehbliocfpppoaaGreatPartH

/-! Draws of formulas. -/
namespace Go.Proofs.YtehbliocfpppoaaGreat
open Go.RowKit Go.Abs
theorem l02Pre_c (k : Int) (a : List (Int × Int)) (ha : a.length ≤ 1000000) : CallA Tryz.prog 123 [AI k, LN a] (ownA eN 129 2 ((k, 0) :: a)) := by
 refine CallA.of Tryz.func123 rfl (by kernel_rfl) (R.go 10 (k14 eN [(k, 0)] a 0 129 2 16 eN_one ?_))
 exact R.go 2 (k18 (ownA eN 129 2 ([(k, 0)] ++ a)) (by first | (rfl) | (exfalso; omega)))
theorem drawX_c_r2 : ∀ (k : Nat) (c : List Int) (p : Nat) (h size vars : Int) (modal : Bool) (eo1 so1 no1 : Nat) (co1 : List AV) (eo2 so2 no2 : Nat) (co2 : List AV) (hk : size.toNat = k) (hc : BY c) (hs : size ≤ 1000), CallX Tryz.prog 101 [.ptr 0 0, AI size, AI vars, .bool modal] [.box 123 [LB c, AI (p : Int), .int .u64 h], .list eo1 so1 no1 co1, .list eo2 so2 no2 co2] (fun (resX : AV) (objX : List AObj) => ∃ r : List (Int × Int), ∃ p1 : Nat, ∃ h1 : Int, (((r.length : Int) ≤ size ∨ r.length ≤ 1) ∧ 1 ≤ r.length) ∧ resX = LN r ∧ objX = [.box 123 [LB c, AI (p1 : Int), .int .u64 h1], .list eo1 so1 no1 co1, .list eo2 so2 no2 co2]) := by
 intro k
 induction k using Nat.strongRecOn with
 | _ k ih =>
 intro c p h size vars modal eo1 so1 no1 co1 eo2 so2 no2 co2 hk hc hs
 refine CallX.dropE (CallX.ofF Tryz.func101 rfl (by kernel_rfl) ?_)
 intro usC frC hfC
 refine R.go 10 ?_
 by_cases c1 : size ≤ 2
 ·refine k8 false (dT c1) ?_
  iterate 2 refine k8 false (dT c1) ?_
  refine k9 true (dT c1) (R.go 6 (k25 (k26a 3 usC frC (nextX_c_r2 c p h 8 eo1 so1 no1 co1 eo2 so2 no2 co2 hc)) ?_))
  rintro _ _ ⟨_, _, ⟨v_2, p1_3, h1_4, f5, rfl, rfl⟩, rfl, rfl⟩
  refine R.go 2 (k4 (v_2 = 0) (fun c6 => ?_) (fun c6 => ?_))
  ·refine R.go 2 (k15 true (l02False_c).frz ?_)
   exact R.go 2 (R.retX (res := LN [(1, 0)]) (hp' := [.box 123 [LB c, AI (p1_3 : Int), .int .u64 h1_4], .list eo1 so1 no1 co1, .list eo2 so2 no2 co2, .dead]) (by kernel_rfl) (by kernel_rfl) (by kernel_rfl) (by kernel_rfl) ⟨[0, 1, 2], by kernel_rfl, by decide, [(1, 0)], p1_3, h1_4, by first | (simp; done) | (simp only [List.length_cons, List.length_append, List.length_nil]; omega), by kernel_rfl, by kernel_rfl⟩)
  refine R.go 5 (k25 (k26a 3 usC frC (nextX_c_r2 c p1_3 h1_4 vars eo1 so1 no1 co1 eo2 so2 no2 co2 hc)) ?_)
  rintro _ _ ⟨_, _, ⟨v_7, p1_8, h1_9, f10, rfl, rfl⟩, rfl, rfl⟩
  refine k15 true (l02Var_c v_7).frz ?_
  exact R.go 2 (R.retX (res := LN [(0, v_7)]) (hp' := [.box 123 [LB c, AI (p1_8 : Int), .int .u64 h1_9], .list eo1 so1 no1 co1, .list eo2 so2 no2 co2, .dead]) (by kernel_rfl) (by kernel_rfl) (by kernel_rfl) (by kernel_rfl) ⟨[0, 1, 2], by kernel_rfl, by decide, [(0, v_7)], p1_8, h1_9, by first | (simp; done) | (simp only [List.length_cons, List.length_append, List.length_nil]; omega), by kernel_rfl, by kernel_rfl⟩)
 refine k7 false (dF c1) (R.go 1 (k7 false (dF c1) (k25 (k26a 3 usC frC (nextX_c_r2 c p h 9 eo1 so1 no1 co1 eo2 so2 no2 co2 hc)) ?_)))
 rintro _ _ ⟨_, _, ⟨v_11, p1_12, h1_13, f14, rfl, rfl⟩, rfl, rfl⟩
 refine k7 false (dF c1) (R.go 1 (k9 false (dF c1) (R.go 1 (k4 (v_11 = 0) (fun c15 => ?_) (fun c15 => ?_)))))
 ·refine R.go 4 (k25 (k26a 3 usC frC (nextX_c_r2 c p1_12 h1_13 8 eo1 so1 no1 co1 eo2 so2 no2 co2 hc)) ?_)
  rintro _ _ ⟨_, _, ⟨v_16, p1_17, h1_18, f19, rfl, rfl⟩, rfl, rfl⟩
  refine R.go 2 (k4 (v_16 = 0) (fun c20 => ?_) (fun c20 => ?_))
  ·refine R.go 2 (k15 true (l02False_c).frz ?_)
   exact R.go 2 (R.retX (res := LN [(1, 0)]) (hp' := [.box 123 [LB c, AI (p1_17 : Int), .int .u64 h1_18], .list eo1 so1 no1 co1, .list eo2 so2 no2 co2, .dead]) (by kernel_rfl) (by kernel_rfl) (by kernel_rfl) (by kernel_rfl) ⟨[0, 1, 2], by kernel_rfl, by decide, [(1, 0)], p1_17, h1_18, by first | (simp; done) | (simp only [List.length_cons, List.length_append, List.length_nil]; omega), by kernel_rfl, by kernel_rfl⟩)
  refine R.go 5 (k25 (k26a 3 usC frC (nextX_c_r2 c p1_17 h1_18 vars eo1 so1 no1 co1 eo2 so2 no2 co2 hc)) ?_)
  rintro _ _ ⟨_, _, ⟨v_21, p1_22, h1_23, f24, rfl, rfl⟩, rfl, rfl⟩
  refine k15 true (l02Var_c v_21).frz ?_
  exact R.go 2 (R.retX (res := LN [(0, v_21)]) (hp' := [.box 123 [LB c, AI (p1_22 : Int), .int .u64 h1_23], .list eo1 so1 no1 co1, .list eo2 so2 no2 co2, .dead]) (by kernel_rfl) (by kernel_rfl) (by kernel_rfl) (by kernel_rfl) ⟨[0, 1, 2], by kernel_rfl, by decide, [(0, v_21)], p1_22, h1_23, by first | (simp; done) | (simp only [List.length_cons, List.length_append, List.length_nil]; omega), by kernel_rfl, by kernel_rfl⟩)
 refine R.go 6 ((Bool.eq_false_or_eq_true (modal)).elim (fun c25 => ?_) (fun c25 => ?_))
 ·refine k7 true c25 (R.go 1 (k7 true c25 (k25 (k26a 3 usC frC (nextX_c_r2 c p1_12 h1_13 3 eo1 so1 no1 co1 eo2 so2 no2 co2 hc)) ?_)))
  rintro _ _ ⟨_, _, ⟨v_26, p1_27, h1_28, f29, rfl, rfl⟩, rfl, rfl⟩
  refine k7 true c25 (R.go 1 (k9 true c25 (R.go 1 (k4 (v_26 = 0) (fun c30 => ?_) (fun c30 => ?_)))))
  ·refine R.go 3 (k25 (k26a 3 usC frC (nextX_c_r2 c p1_27 h1_28 2 eo1 so1 no1 co1 eo2 so2 no2 co2 hc)) ?_)
   rintro _ _ ⟨_, _, ⟨v_31, p1_32, h1_33, f34, rfl, rfl⟩, rfl, rfl⟩
   refine k1 (5 + v_31) (R.go 2 (k1 (size - 1) (R.go 2 (k25 (k26a 3 usC frC (ih (((size - 1) : Int).toNat) (by omega) c p1_32 h1_33 (size - 1) vars modal eo1 so1 no1 co1 eo2 so2 no2 co2 (by rfl) hc (by omega))) ?_))))
   rintro _ _ ⟨_, _, ⟨r_35, p1_36, h1_37, f38, rfl, rfl⟩, rfl, rfl⟩
   refine k15 true (l02Pre_c (5 + v_31) r_35 (by first | omega | (simp <;> omega))).frz ?_
   exact R.go 2 (R.retX (res := LN (((5 + v_31), 0) :: r_35)) (hp' := [.box 123 [LB c, AI (p1_36 : Int), .int .u64 h1_37], .list eo1 so1 no1 co1, .list eo2 so2 no2 co2, .dead]) (by kernel_rfl) (by kernel_rfl) (by kernel_rfl) (by kernel_rfl) ⟨[0, 1, 2], by kernel_rfl, by decide, ((5 + v_31), 0) :: r_35, p1_36, h1_37, by first | (simp; done) | (simp only [List.length_cons, List.length_append, List.length_nil]; omega), by kernel_rfl, by kernel_rfl⟩)
  refine R.go 5 (k25 (k26a 3 usC frC (nextX_c_r2 c p1_27 h1_28 6 eo1 so1 no1 co1 eo2 so2 no2 co2 hc)) ?_)
  rintro _ _ ⟨_, _, ⟨v_39, p1_40, h1_41, f42, rfl, rfl⟩, rfl, rfl⟩
  refine R.go 2 (k4 (v_39 = 0) (fun c43 => ?_) (fun c43 => ?_))
  ·refine R.go 4 (k1 (size - 2) (R.go 2 (k25 (k26a 3 usC frC (ih (((size - 2) : Int).toNat) (by omega) c p1_40 h1_41 (size - 2) vars modal eo1 so1 no1 co1 eo2 so2 no2 co2 (by rfl) hc (by omega))) ?_)))
   rintro _ _ ⟨_, _, ⟨r_44, p1_45, h1_46, f47, rfl, rfl⟩, rfl, rfl⟩
   refine k15 true (l02Not_c r_44 (by first | omega | (simp <;> omega))).frz ?_
   exact R.go 2 (R.retX (res := LN ((4, 0) :: (r_44 ++ [(1, 0)]))) (hp' := [.box 123 [LB c, AI (p1_45 : Int), .int .u64 h1_46], .list eo1 so1 no1 co1, .list eo2 so2 no2 co2, .dead]) (by kernel_rfl) (by kernel_rfl) (by kernel_rfl) (by kernel_rfl) ⟨[0, 1, 2], by kernel_rfl, by decide, (4, 0) :: (r_44 ++ [(1, 0)]), p1_45, h1_46, by first | (simp; done) | (simp only [List.length_cons, List.length_append, List.length_nil]; omega), by kernel_rfl, by kernel_rfl⟩)
  refine R.go 5 (k1 (size - 2) (k25 (k26a 3 usC frC (nextX_c_r2 c p1_40 h1_41 (size - 2) eo1 so1 no1 co1 eo2 so2 no2 co2 hc)) ?_))
  rintro _ _ ⟨_, _, ⟨v_48, p1_49, h1_50, f51, rfl, rfl⟩, rfl, rfl⟩
  refine k1 (1 + v_48) (R.go 8 (k25 (k26a 3 usC frC (ih (((1 + v_48) : Int).toNat) (by omega) c p1_49 h1_50 (1 + v_48) vars modal eo1 so1 no1 co1 eo2 so2 no2 co2 (by rfl) hc (by omega))) ?_))
  rintro _ _ ⟨_, _, ⟨r_52, p1_53, h1_54, f55, rfl, rfl⟩, rfl, rfl⟩
  refine R.go 5 (k25 (k26a 3 usC frC (nextX_c_r2 c p1_53 h1_54 3 eo1 so1 no1 co1 eo2 so2 no2 co2 hc)) ?_)
  rintro _ _ ⟨_, _, ⟨v_56, p1_57, h1_58, f59, rfl, rfl⟩, rfl, rfl⟩
  refine k1 (2 + v_56) (R.go 3 (k1 (size - 1) (R.go 1 (k1 ((size - 1) - (1 + v_48)) (R.go 2 (k25 (k26a 3 usC frC (ih ((((size - 1) - (1 + v_48)) : Int).toNat) (by omega) c p1_57 h1_58 ((size - 1) - (1 + v_48)) vars modal eo1 so1 no1 co1 eo2 so2 no2 co2 (by rfl) hc (by omega))) ?_))))))
  rintro _ _ ⟨_, _, ⟨r_60, p1_61, h1_62, f63, rfl, rfl⟩, rfl, rfl⟩
  refine k15 true (l02Pair_c (2 + v_56) r_52 r_60 (by first | omega | (simp <;> omega)) (by first | omega | (simp <;> omega))).frz ?_
  exact R.go 2 (R.retX (res := LN (((2 + v_56), 0) :: (r_52 ++ r_60))) (hp' := [.box 123 [LB c, AI (p1_61 : Int), .int .u64 h1_62], .list eo1 so1 no1 co1, .list eo2 so2 no2 co2, .dead]) (by kernel_rfl) (by kernel_rfl) (by kernel_rfl) (by kernel_rfl) ⟨[0, 1, 2], by kernel_rfl, by decide, ((2 + v_56), 0) :: (r_52 ++ r_60), p1_61, h1_62, by first | (simp; done) | (simp only [List.length_cons, List.length_append, List.length_nil]; omega), by kernel_rfl, by kernel_rfl⟩)
 iterate 3 refine k8 true c25 ?_
 refine k9 false c25 (R.go 7 (k25 (k26a 3 usC frC (nextX_c_r2 c p1_12 h1_13 6 eo1 so1 no1 co1 eo2 so2 no2 co2 hc)) ?_))
 rintro _ _ ⟨_, _, ⟨v_64, p1_65, h1_66, f67, rfl, rfl⟩, rfl, rfl⟩
 refine R.go 2 (k4 (v_64 = 0) (fun c68 => ?_) (fun c68 => ?_))
 ·refine R.go 4 (k1 (size - 2) (R.go 2 (k25 (k26a 3 usC frC (ih (((size - 2) : Int).toNat) (by omega) c p1_65 h1_66 (size - 2) vars modal eo1 so1 no1 co1 eo2 so2 no2 co2 (by rfl) hc (by omega))) ?_)))
  rintro _ _ ⟨_, _, ⟨r_69, p1_70, h1_71, f72, rfl, rfl⟩, rfl, rfl⟩
  refine k15 true (l02Not_c r_69 (by first | omega | (simp <;> omega))).frz ?_
  exact R.go 2 (R.retX (res := LN ((4, 0) :: (r_69 ++ [(1, 0)]))) (hp' := [.box 123 [LB c, AI (p1_70 : Int), .int .u64 h1_71], .list eo1 so1 no1 co1, .list eo2 so2 no2 co2, .dead]) (by kernel_rfl) (by kernel_rfl) (by kernel_rfl) (by kernel_rfl) ⟨[0, 1, 2], by kernel_rfl, by decide, (4, 0) :: (r_69 ++ [(1, 0)]), p1_70, h1_71, by first | (simp; done) | (simp only [List.length_cons, List.length_append, List.length_nil]; omega), by kernel_rfl, by kernel_rfl⟩)
 refine R.go 5 (k1 (size - 2) (k25 (k26a 3 usC frC (nextX_c_r2 c p1_65 h1_66 (size - 2) eo1 so1 no1 co1 eo2 so2 no2 co2 hc)) ?_))
 rintro _ _ ⟨_, _, ⟨v_73, p1_74, h1_75, f76, rfl, rfl⟩, rfl, rfl⟩
 refine k1 (1 + v_73) (R.go 8 (k25 (k26a 3 usC frC (ih (((1 + v_73) : Int).toNat) (by omega) c p1_74 h1_75 (1 + v_73) vars modal eo1 so1 no1 co1 eo2 so2 no2 co2 (by rfl) hc (by omega))) ?_))
 rintro _ _ ⟨_, _, ⟨r_77, p1_78, h1_79, f80, rfl, rfl⟩, rfl, rfl⟩
 refine R.go 5 (k25 (k26a 3 usC frC (nextX_c_r2 c p1_78 h1_79 3 eo1 so1 no1 co1 eo2 so2 no2 co2 hc)) ?_)
 rintro _ _ ⟨_, _, ⟨v_81, p1_82, h1_83, f84, rfl, rfl⟩, rfl, rfl⟩
 refine k1 (2 + v_81) (R.go 3 (k1 (size - 1) (R.go 1 (k1 ((size - 1) - (1 + v_73)) (R.go 2 (k25 (k26a 3 usC frC (ih ((((size - 1) - (1 + v_73)) : Int).toNat) (by omega) c p1_82 h1_83 ((size - 1) - (1 + v_73)) vars modal eo1 so1 no1 co1 eo2 so2 no2 co2 (by rfl) hc (by omega))) ?_))))))
 rintro _ _ ⟨_, _, ⟨r_85, p1_86, h1_87, f88, rfl, rfl⟩, rfl, rfl⟩
 refine k15 true (l02Pair_c (2 + v_81) r_77 r_85 (by first | omega | (simp <;> omega)) (by first | omega | (simp <;> omega))).frz ?_
 exact R.go 2 (R.retX (res := LN (((2 + v_81), 0) :: (r_77 ++ r_85))) (hp' := [.box 123 [LB c, AI (p1_86 : Int), .int .u64 h1_87], .list eo1 so1 no1 co1, .list eo2 so2 no2 co2, .dead]) (by kernel_rfl) (by kernel_rfl) (by kernel_rfl) (by kernel_rfl) ⟨[0, 1, 2], by kernel_rfl, by decide, ((2 + v_81), 0) :: (r_77 ++ r_85), p1_86, h1_87, by first | (simp; done) | (simp only [List.length_cons, List.length_append, List.length_nil]; omega), by kernel_rfl, by kernel_rfl⟩)
theorem drawX_c_r3 : ∀ (k : Nat) (c : List Int) (p : Nat) (h size vars : Int) (modal : Bool) (eo1 so1 no1 : Nat) (co1 : List AV) (eo2 so2 no2 : Nat) (co2 : List AV) (eo3 so3 no3 : Nat) (co3 : List AV) (hk : size.toNat = k) (hc : BY c) (hs : size ≤ 1000), CallX Tryz.prog 101 [.ptr 0 0, AI size, AI vars, .bool modal] [.box 123 [LB c, AI (p : Int), .int .u64 h], .list eo1 so1 no1 co1, .list eo2 so2 no2 co2, .list eo3 so3 no3 co3] (fun (resX : AV) (objX : List AObj) => ∃ r : List (Int × Int), ∃ p1 : Nat, ∃ h1 : Int, (((r.length : Int) ≤ size ∨ r.length ≤ 1) ∧ 1 ≤ r.length) ∧ resX = LN r ∧ objX = [.box 123 [LB c, AI (p1 : Int), .int .u64 h1], .list eo1 so1 no1 co1, .list eo2 so2 no2 co2, .list eo3 so3 no3 co3]) := by
 intro k
 induction k using Nat.strongRecOn with
 | _ k ih =>
 intro c p h size vars modal eo1 so1 no1 co1 eo2 so2 no2 co2 eo3 so3 no3 co3 hk hc hs
 refine CallX.dropE (CallX.ofF Tryz.func101 rfl (by kernel_rfl) ?_)
 intro usC frC hfC
 refine R.go 10 ?_
 by_cases c1 : size ≤ 2
 ·refine k8 false (dT c1) ?_
  iterate 2 refine k8 false (dT c1) ?_
  refine k9 true (dT c1) (R.go 6 (k25 (k26a 4 usC frC (nextX_c_r3 c p h 8 eo1 so1 no1 co1 eo2 so2 no2 co2 eo3 so3 no3 co3 hc)) ?_))
  rintro _ _ ⟨_, _, ⟨v_2, p1_3, h1_4, f5, rfl, rfl⟩, rfl, rfl⟩
  refine R.go 2 (k4 (v_2 = 0) (fun c6 => ?_) (fun c6 => ?_))
  ·refine R.go 2 (k15 true (l02False_c).frz ?_)
   exact R.go 2 (R.retX (res := LN [(1, 0)]) (hp' := [.box 123 [LB c, AI (p1_3 : Int), .int .u64 h1_4], .list eo1 so1 no1 co1, .list eo2 so2 no2 co2, .list eo3 so3 no3 co3, .dead]) (by kernel_rfl) (by kernel_rfl) (by kernel_rfl) (by kernel_rfl) ⟨[0, 1, 2, 3], by kernel_rfl, by decide, [(1, 0)], p1_3, h1_4, by first | (simp; done) | (simp only [List.length_cons, List.length_append, List.length_nil]; omega), by kernel_rfl, by kernel_rfl⟩)
  refine R.go 5 (k25 (k26a 4 usC frC (nextX_c_r3 c p1_3 h1_4 vars eo1 so1 no1 co1 eo2 so2 no2 co2 eo3 so3 no3 co3 hc)) ?_)
  rintro _ _ ⟨_, _, ⟨v_7, p1_8, h1_9, f10, rfl, rfl⟩, rfl, rfl⟩
  refine k15 true (l02Var_c v_7).frz ?_
  exact R.go 2 (R.retX (res := LN [(0, v_7)]) (hp' := [.box 123 [LB c, AI (p1_8 : Int), .int .u64 h1_9], .list eo1 so1 no1 co1, .list eo2 so2 no2 co2, .list eo3 so3 no3 co3, .dead]) (by kernel_rfl) (by kernel_rfl) (by kernel_rfl) (by kernel_rfl) ⟨[0, 1, 2, 3], by kernel_rfl, by decide, [(0, v_7)], p1_8, h1_9, by first | (simp; done) | (simp only [List.length_cons, List.length_append, List.length_nil]; omega), by kernel_rfl, by kernel_rfl⟩)
 refine k7 false (dF c1) (R.go 1 (k7 false (dF c1) (k25 (k26a 4 usC frC (nextX_c_r3 c p h 9 eo1 so1 no1 co1 eo2 so2 no2 co2 eo3 so3 no3 co3 hc)) ?_)))
 rintro _ _ ⟨_, _, ⟨v_11, p1_12, h1_13, f14, rfl, rfl⟩, rfl, rfl⟩
 refine k7 false (dF c1) (R.go 1 (k9 false (dF c1) (R.go 1 (k4 (v_11 = 0) (fun c15 => ?_) (fun c15 => ?_)))))
 ·refine R.go 4 (k25 (k26a 4 usC frC (nextX_c_r3 c p1_12 h1_13 8 eo1 so1 no1 co1 eo2 so2 no2 co2 eo3 so3 no3 co3 hc)) ?_)
  rintro _ _ ⟨_, _, ⟨v_16, p1_17, h1_18, f19, rfl, rfl⟩, rfl, rfl⟩
  refine R.go 2 (k4 (v_16 = 0) (fun c20 => ?_) (fun c20 => ?_))
  ·refine R.go 2 (k15 true (l02False_c).frz ?_)
   exact R.go 2 (R.retX (res := LN [(1, 0)]) (hp' := [.box 123 [LB c, AI (p1_17 : Int), .int .u64 h1_18], .list eo1 so1 no1 co1, .list eo2 so2 no2 co2, .list eo3 so3 no3 co3, .dead]) (by kernel_rfl) (by kernel_rfl) (by kernel_rfl) (by kernel_rfl) ⟨[0, 1, 2, 3], by kernel_rfl, by decide, [(1, 0)], p1_17, h1_18, by first | (simp; done) | (simp only [List.length_cons, List.length_append, List.length_nil]; omega), by kernel_rfl, by kernel_rfl⟩)
  refine R.go 5 (k25 (k26a 4 usC frC (nextX_c_r3 c p1_17 h1_18 vars eo1 so1 no1 co1 eo2 so2 no2 co2 eo3 so3 no3 co3 hc)) ?_)
  rintro _ _ ⟨_, _, ⟨v_21, p1_22, h1_23, f24, rfl, rfl⟩, rfl, rfl⟩
  refine k15 true (l02Var_c v_21).frz ?_
  exact R.go 2 (R.retX (res := LN [(0, v_21)]) (hp' := [.box 123 [LB c, AI (p1_22 : Int), .int .u64 h1_23], .list eo1 so1 no1 co1, .list eo2 so2 no2 co2, .list eo3 so3 no3 co3, .dead]) (by kernel_rfl) (by kernel_rfl) (by kernel_rfl) (by kernel_rfl) ⟨[0, 1, 2, 3], by kernel_rfl, by decide, [(0, v_21)], p1_22, h1_23, by first | (simp; done) | (simp only [List.length_cons, List.length_append, List.length_nil]; omega), by kernel_rfl, by kernel_rfl⟩)
 refine R.go 6 ((Bool.eq_false_or_eq_true (modal)).elim (fun c25 => ?_) (fun c25 => ?_))
 ·refine k7 true c25 (R.go 1 (k7 true c25 (k25 (k26a 4 usC frC (nextX_c_r3 c p1_12 h1_13 3 eo1 so1 no1 co1 eo2 so2 no2 co2 eo3 so3 no3 co3 hc)) ?_)))
  rintro _ _ ⟨_, _, ⟨v_26, p1_27, h1_28, f29, rfl, rfl⟩, rfl, rfl⟩
  refine k7 true c25 (R.go 1 (k9 true c25 (R.go 1 (k4 (v_26 = 0) (fun c30 => ?_) (fun c30 => ?_)))))
  ·refine R.go 3 (k25 (k26a 4 usC frC (nextX_c_r3 c p1_27 h1_28 2 eo1 so1 no1 co1 eo2 so2 no2 co2 eo3 so3 no3 co3 hc)) ?_)
   rintro _ _ ⟨_, _, ⟨v_31, p1_32, h1_33, f34, rfl, rfl⟩, rfl, rfl⟩
   refine k1 (5 + v_31) (R.go 2 (k1 (size - 1) (R.go 2 (k25 (k26a 4 usC frC (ih (((size - 1) : Int).toNat) (by omega) c p1_32 h1_33 (size - 1) vars modal eo1 so1 no1 co1 eo2 so2 no2 co2 eo3 so3 no3 co3 (by rfl) hc (by omega))) ?_))))
   rintro _ _ ⟨_, _, ⟨r_35, p1_36, h1_37, f38, rfl, rfl⟩, rfl, rfl⟩
   refine k15 true (l02Pre_c (5 + v_31) r_35 (by first | omega | (simp <;> omega))).frz ?_
   exact R.go 2 (R.retX (res := LN (((5 + v_31), 0) :: r_35)) (hp' := [.box 123 [LB c, AI (p1_36 : Int), .int .u64 h1_37], .list eo1 so1 no1 co1, .list eo2 so2 no2 co2, .list eo3 so3 no3 co3, .dead]) (by kernel_rfl) (by kernel_rfl) (by kernel_rfl) (by kernel_rfl) ⟨[0, 1, 2, 3], by kernel_rfl, by decide, ((5 + v_31), 0) :: r_35, p1_36, h1_37, by first | (simp; done) | (simp only [List.length_cons, List.length_append, List.length_nil]; omega), by kernel_rfl, by kernel_rfl⟩)
  refine R.go 5 (k25 (k26a 4 usC frC (nextX_c_r3 c p1_27 h1_28 6 eo1 so1 no1 co1 eo2 so2 no2 co2 eo3 so3 no3 co3 hc)) ?_)
  rintro _ _ ⟨_, _, ⟨v_39, p1_40, h1_41, f42, rfl, rfl⟩, rfl, rfl⟩
  refine R.go 2 (k4 (v_39 = 0) (fun c43 => ?_) (fun c43 => ?_))
  ·refine R.go 4 (k1 (size - 2) (R.go 2 (k25 (k26a 4 usC frC (ih (((size - 2) : Int).toNat) (by omega) c p1_40 h1_41 (size - 2) vars modal eo1 so1 no1 co1 eo2 so2 no2 co2 eo3 so3 no3 co3 (by rfl) hc (by omega))) ?_)))
   rintro _ _ ⟨_, _, ⟨r_44, p1_45, h1_46, f47, rfl, rfl⟩, rfl, rfl⟩
   refine k15 true (l02Not_c r_44 (by first | omega | (simp <;> omega))).frz ?_
   exact R.go 2 (R.retX (res := LN ((4, 0) :: (r_44 ++ [(1, 0)]))) (hp' := [.box 123 [LB c, AI (p1_45 : Int), .int .u64 h1_46], .list eo1 so1 no1 co1, .list eo2 so2 no2 co2, .list eo3 so3 no3 co3, .dead]) (by kernel_rfl) (by kernel_rfl) (by kernel_rfl) (by kernel_rfl) ⟨[0, 1, 2, 3], by kernel_rfl, by decide, (4, 0) :: (r_44 ++ [(1, 0)]), p1_45, h1_46, by first | (simp; done) | (simp only [List.length_cons, List.length_append, List.length_nil]; omega), by kernel_rfl, by kernel_rfl⟩)
  refine R.go 5 (k1 (size - 2) (k25 (k26a 4 usC frC (nextX_c_r3 c p1_40 h1_41 (size - 2) eo1 so1 no1 co1 eo2 so2 no2 co2 eo3 so3 no3 co3 hc)) ?_))
  rintro _ _ ⟨_, _, ⟨v_48, p1_49, h1_50, f51, rfl, rfl⟩, rfl, rfl⟩
  refine k1 (1 + v_48) (R.go 8 (k25 (k26a 4 usC frC (ih (((1 + v_48) : Int).toNat) (by omega) c p1_49 h1_50 (1 + v_48) vars modal eo1 so1 no1 co1 eo2 so2 no2 co2 eo3 so3 no3 co3 (by rfl) hc (by omega))) ?_))
  rintro _ _ ⟨_, _, ⟨r_52, p1_53, h1_54, f55, rfl, rfl⟩, rfl, rfl⟩
  refine R.go 5 (k25 (k26a 4 usC frC (nextX_c_r3 c p1_53 h1_54 3 eo1 so1 no1 co1 eo2 so2 no2 co2 eo3 so3 no3 co3 hc)) ?_)
  rintro _ _ ⟨_, _, ⟨v_56, p1_57, h1_58, f59, rfl, rfl⟩, rfl, rfl⟩
  refine k1 (2 + v_56) (R.go 3 (k1 (size - 1) (R.go 1 (k1 ((size - 1) - (1 + v_48)) (R.go 2 (k25 (k26a 4 usC frC (ih ((((size - 1) - (1 + v_48)) : Int).toNat) (by omega) c p1_57 h1_58 ((size - 1) - (1 + v_48)) vars modal eo1 so1 no1 co1 eo2 so2 no2 co2 eo3 so3 no3 co3 (by rfl) hc (by omega))) ?_))))))
  rintro _ _ ⟨_, _, ⟨r_60, p1_61, h1_62, f63, rfl, rfl⟩, rfl, rfl⟩
  refine k15 true (l02Pair_c (2 + v_56) r_52 r_60 (by first | omega | (simp <;> omega)) (by first | omega | (simp <;> omega))).frz ?_
  exact R.go 2 (R.retX (res := LN (((2 + v_56), 0) :: (r_52 ++ r_60))) (hp' := [.box 123 [LB c, AI (p1_61 : Int), .int .u64 h1_62], .list eo1 so1 no1 co1, .list eo2 so2 no2 co2, .list eo3 so3 no3 co3, .dead]) (by kernel_rfl) (by kernel_rfl) (by kernel_rfl) (by kernel_rfl) ⟨[0, 1, 2, 3], by kernel_rfl, by decide, ((2 + v_56), 0) :: (r_52 ++ r_60), p1_61, h1_62, by first | (simp; done) | (simp only [List.length_cons, List.length_append, List.length_nil]; omega), by kernel_rfl, by kernel_rfl⟩)
 iterate 3 refine k8 true c25 ?_
 refine k9 false c25 (R.go 7 (k25 (k26a 4 usC frC (nextX_c_r3 c p1_12 h1_13 6 eo1 so1 no1 co1 eo2 so2 no2 co2 eo3 so3 no3 co3 hc)) ?_))
 rintro _ _ ⟨_, _, ⟨v_64, p1_65, h1_66, f67, rfl, rfl⟩, rfl, rfl⟩
 refine R.go 2 (k4 (v_64 = 0) (fun c68 => ?_) (fun c68 => ?_))
 ·refine R.go 4 (k1 (size - 2) (R.go 2 (k25 (k26a 4 usC frC (ih (((size - 2) : Int).toNat) (by omega) c p1_65 h1_66 (size - 2) vars modal eo1 so1 no1 co1 eo2 so2 no2 co2 eo3 so3 no3 co3 (by rfl) hc (by omega))) ?_)))
  rintro _ _ ⟨_, _, ⟨r_69, p1_70, h1_71, f72, rfl, rfl⟩, rfl, rfl⟩
  refine k15 true (l02Not_c r_69 (by first | omega | (simp <;> omega))).frz ?_
  exact R.go 2 (R.retX (res := LN ((4, 0) :: (r_69 ++ [(1, 0)]))) (hp' := [.box 123 [LB c, AI (p1_70 : Int), .int .u64 h1_71], .list eo1 so1 no1 co1, .list eo2 so2 no2 co2, .list eo3 so3 no3 co3, .dead]) (by kernel_rfl) (by kernel_rfl) (by kernel_rfl) (by kernel_rfl) ⟨[0, 1, 2, 3], by kernel_rfl, by decide, (4, 0) :: (r_69 ++ [(1, 0)]), p1_70, h1_71, by first | (simp; done) | (simp only [List.length_cons, List.length_append, List.length_nil]; omega), by kernel_rfl, by kernel_rfl⟩)
 refine R.go 5 (k1 (size - 2) (k25 (k26a 4 usC frC (nextX_c_r3 c p1_65 h1_66 (size - 2) eo1 so1 no1 co1 eo2 so2 no2 co2 eo3 so3 no3 co3 hc)) ?_))
 rintro _ _ ⟨_, _, ⟨v_73, p1_74, h1_75, f76, rfl, rfl⟩, rfl, rfl⟩
 refine k1 (1 + v_73) (R.go 8 (k25 (k26a 4 usC frC (ih (((1 + v_73) : Int).toNat) (by omega) c p1_74 h1_75 (1 + v_73) vars modal eo1 so1 no1 co1 eo2 so2 no2 co2 eo3 so3 no3 co3 (by rfl) hc (by omega))) ?_))
 rintro _ _ ⟨_, _, ⟨r_77, p1_78, h1_79, f80, rfl, rfl⟩, rfl, rfl⟩
 refine R.go 5 (k25 (k26a 4 usC frC (nextX_c_r3 c p1_78 h1_79 3 eo1 so1 no1 co1 eo2 so2 no2 co2 eo3 so3 no3 co3 hc)) ?_)
 rintro _ _ ⟨_, _, ⟨v_81, p1_82, h1_83, f84, rfl, rfl⟩, rfl, rfl⟩
 refine k1 (2 + v_81) (R.go 3 (k1 (size - 1) (R.go 1 (k1 ((size - 1) - (1 + v_73)) (R.go 2 (k25 (k26a 4 usC frC (ih ((((size - 1) - (1 + v_73)) : Int).toNat) (by omega) c p1_82 h1_83 ((size - 1) - (1 + v_73)) vars modal eo1 so1 no1 co1 eo2 so2 no2 co2 eo3 so3 no3 co3 (by rfl) hc (by omega))) ?_))))))
 rintro _ _ ⟨_, _, ⟨r_85, p1_86, h1_87, f88, rfl, rfl⟩, rfl, rfl⟩
 refine k15 true (l02Pair_c (2 + v_81) r_77 r_85 (by first | omega | (simp <;> omega)) (by first | omega | (simp <;> omega))).frz ?_
 exact R.go 2 (R.retX (res := LN (((2 + v_81), 0) :: (r_77 ++ r_85))) (hp' := [.box 123 [LB c, AI (p1_86 : Int), .int .u64 h1_87], .list eo1 so1 no1 co1, .list eo2 so2 no2 co2, .list eo3 so3 no3 co3, .dead]) (by kernel_rfl) (by kernel_rfl) (by kernel_rfl) (by kernel_rfl) ⟨[0, 1, 2, 3], by kernel_rfl, by decide, ((2 + v_81), 0) :: (r_77 ++ r_85), p1_86, h1_87, by first | (simp; done) | (simp only [List.length_cons, List.length_append, List.length_nil]; omega), by kernel_rfl, by kernel_rfl⟩)
end Go.Proofs.YtehbliocfpppoaaGreat

/-! Draws of formulas, second part. -/
namespace Go.Proofs.YtehbliocfpppoaaGreat
open Go.RowKit Go.Abs
theorem l02Own_c (xs : List (Int × Int)) (hl : xs.length ≤ 1000000000) : CallA Tryz.prog 189 [LN xs] (ownA eN 129 2 xs) := by
 refine CallA.of Tryz.func189 rfl (by kernel_rfl) (R.go 8 (k14 eN [] xs 0 129 2 16 eN_one ?_))
 exact R.go 2 (k18 (ownA eN 129 2 ([] ++ xs)) (by first | (rfl) | (exfalso; omega)))
theorem bendX_c_r2 (c : List Int) (p : Nat) (h : Int) (a : List (Int × Int)) (eo1 so1 no1 : Nat) (co1 : List AV) (eo2 so2 no2 : Nat) (co2 : List AV) (hc : BY c) (ha : 1 ≤ a.length ∧ a.length ≤ 900) : CallX Tryz.prog 102 [.ptr 0 0, LN a] [.box 123 [LB c, AI (p : Int), .int .u64 h], .list eo1 so1 no1 co1, .list eo2 so2 no2 co2] (fun (resX : AV) (objX : List AObj) => ∃ r : List (Int × Int), ∃ p1 : Nat, ∃ h1 : Int, (r.length ≤ 1000) ∧ resX = LN r ∧ objX = [.box 123 [LB c, AI (p1 : Int), .int .u64 h1], .list eo1 so1 no1 co1, .list eo2 so2 no2 co2]) := by
 have hcl : c.length ≤ 4096 := hc.1
 have hcb := hc.2
 refine CallX.dropE (CallX.ofF Tryz.func102 rfl (by kernel_rfl) ?_)
 intro usC frC hfC
 refine R.go 7 (k15 true (l02Own_c a (by first | omega | (simp <;> omega))) (R.go 7 (k25 (k26a 3 usC frC (nextX_c_r3 c p h a.length eo1 so1 no1 co1 eo2 so2 no2 co2 129 2 a.length (rows eN a) hc)) ?_)))
 rintro _ _ ⟨_, _, ⟨v_1, p1_2, h1_3, f4, rfl, rfl⟩, rfl, rfl⟩
 refine R.go 6 (k25 (k26a 3 usC frC (nextX_c_r3 c p1_2 h1_3 5 eo1 so1 no1 co1 eo2 so2 no2 co2 129 2 a.length (rows eN a) hc)) ?_)
 rintro _ _ ⟨_, _, ⟨v_5, p1_6, h1_7, f8, rfl, rfl⟩, rfl, rfl⟩
 refine R.go 7 (k4 (v_5 = 0) (fun c9 => ?_) (fun c9 => ?_))
 ·refine R.go 4 (k25 (k26a 3 usC frC (nextX_c_r3 c p1_6 h1_7 9 eo1 so1 no1 co1 eo2 so2 no2 co2 129 2 a.length (rows eN a) hc)) ?_)
  rintro _ _ ⟨_, _, ⟨v_10, p1_11, h1_12, f13, rfl, rfl⟩, rfl, rfl⟩
  refine k1 (v_10 - 1) (k11 4 2 a.length ((v_1).toNat) v_1 (R.go 1 (R.stF eN 4 129 2 a (0, 0) ((v_1).toNat) 0 (AI (v_10 - 1)) (v_10 - 1, (a.getD ((v_1).toNat) (0, 0)).2) (by kernel_rfl) eN_len (by omega) (by decide) rfl (by kernel_rfl) (R.go 7 (k19 4 (R.kfix 3 (us := usC) (by kernel_rfl) (hfC.frz 4 (LN (a.set ((v_1).toNat) (v_10 - 1, (a.getD ((v_1).toNat) (0, 0)).2))) (Nat.le_of_ble_eq_true (by kernel_rfl))) ?_))))))
  exact R.retX (res := LN (a.set ((v_1).toNat) (v_10 - 1, (a.getD ((v_1).toNat) (0, 0)).2))) (hp' := [.box 123 [LB c, AI (p1_11 : Int), .int .u64 h1_12], .list eo1 so1 no1 co1, .list eo2 so2 no2 co2, .dead, .dead]) (by kernel_rfl) (by kernel_rfl) (by kernel_rfl) (by kernel_rfl) ⟨[0, 1, 2], by kernel_rfl, by decide, a.set ((v_1).toNat) (v_10 - 1, (a.getD ((v_1).toNat) (0, 0)).2), p1_11, h1_12, by first | omega | (simp only [List.length_append, List.length_cons, List.length_nil, List.length_set, List.length_take, List.length_drop]; omega), by kernel_rfl, by kernel_rfl⟩
 refine R.go 5 (k4 (v_5 = 1) (fun c14 => ?_) (fun c14 => ?_))
 ·refine R.go 4 (R.lit (s := 1) (n := 5) (cs := rows eI [(-1), 0, 1, 5, 6]) (by kernel_rfl) (by kernel_rfl) (k25 (k26a 3 usC frC (pickX_c_r3 c p1_6 h1_7 [(-1), 0, 1, 5, 6] eo1 so1 no1 co1 eo2 so2 no2 co2 129 2 a.length (rows eN a) hc (by simp)) (h3 := by rintro _ _ ⟨_, _, _, rfl, rfl⟩; exact Nat.le_of_ble_eq_true (by kernel_rfl))) ?_))
  rintro _ _ ⟨_, _, ⟨v_15, p1_16, h1_17, rfl, rfl⟩, rfl, rfl⟩
  refine k11 4 2 a.length ((v_1).toNat) v_1 (R.go 1 (R.stF eN 4 129 2 a (0, 0) ((v_1).toNat) 1 (AI v_15) ((a.getD ((v_1).toNat) (0, 0)).1, v_15) (by kernel_rfl) eN_len (by omega) (by decide) rfl (by kernel_rfl) (R.go 7 (k19 4 (R.kfix 3 (us := usC) (by kernel_rfl) (hfC.frz 4 (LN (a.set ((v_1).toNat) ((a.getD ((v_1).toNat) (0, 0)).1, v_15))) (Nat.le_of_ble_eq_true (by kernel_rfl))) ?_)))))
  exact R.retX (res := LN (a.set ((v_1).toNat) ((a.getD ((v_1).toNat) (0, 0)).1, v_15))) (hp' := [.box 123 [LB c, AI (p1_16 : Int), .int .u64 h1_17], .list eo1 so1 no1 co1, .list eo2 so2 no2 co2, .dead, .dead]) (by kernel_rfl) (by kernel_rfl) (by kernel_rfl) (by kernel_rfl) ⟨[0, 1, 2], by kernel_rfl, by decide, a.set ((v_1).toNat) ((a.getD ((v_1).toNat) (0, 0)).1, v_15), p1_16, h1_17, by first | omega | (simp only [List.length_append, List.length_cons, List.length_nil, List.length_set, List.length_take, List.length_drop]; omega), by kernel_rfl, by kernel_rfl⟩
 refine R.go 5 (k4 (v_5 = 2) (fun c18 => ?_) (fun c18 => ?_))
 ·refine R.go 3 (k25 (k26a 3 usC frC (nextX_c_r3 c p1_6 h1_7 7 eo1 so1 no1 co1 eo2 so2 no2 co2 129 2 a.length (rows eN a) hc)) ?_)
  rintro _ _ ⟨_, _, ⟨v_19, p1_20, h1_21, f22, rfl, rfl⟩, rfl, rfl⟩
  refine R.go 2 (k14 eN a [(v_19, 0)] 4 129 2 16 eN_one (R.kfix 3 (us := usC) (by kernel_rfl) (hfC.kill 4 (Nat.le_of_ble_eq_true (by kernel_rfl))) (R.go 8 (k19 4 (R.kfix 3 (us := usC) (by kernel_rfl) (hfC.frz 4 (LN (a ++ [(v_19, 0)])) (Nat.le_of_ble_eq_true (by kernel_rfl))) ?_)))))
  exact R.retX (res := LN (a ++ [(v_19, 0)])) (hp' := [.box 123 [LB c, AI (p1_20 : Int), .int .u64 h1_21], .list eo1 so1 no1 co1, .list eo2 so2 no2 co2, .dead, .dead, rowA eN 129 2 [(v_19, 0)]]) (by kernel_rfl) (by kernel_rfl) (by kernel_rfl) (by kernel_rfl) ⟨[0, 1, 2], by kernel_rfl, by decide, a ++ [(v_19, 0)], p1_20, h1_21, by first | omega | (simp only [List.length_append, List.length_cons, List.length_nil, List.length_set, List.length_take, List.length_drop]; omega), by kernel_rfl, by kernel_rfl⟩
 refine R.go 5 (k4 (v_5 = 3) (fun c23 => ?_) (fun c23 => ?_))
 ·refine R.go 3 (R.cut eN a 4 129 ((v_1).toNat) v_1 (by kernel_rfl) (by omega) eN_len (by omega) (by kernel_rfl) (R.kfix 3 (us := usC) (by kernel_rfl) (hfC.kill 4 (Nat.le_of_ble_eq_true (by kernel_rfl))) (R.go 8 (k19 4 (R.kfix 3 (us := usC) (by kernel_rfl) (hfC.frz 4 (LN (a.take ((v_1).toNat))) (Nat.le_of_ble_eq_true (by kernel_rfl))) ?_)))))
  exact R.retX (res := LN (a.take ((v_1).toNat))) (hp' := [.box 123 [LB c, AI (p1_6 : Int), .int .u64 h1_7], .list eo1 so1 no1 co1, .list eo2 so2 no2 co2, .dead, .dead]) (by kernel_rfl) (by kernel_rfl) (by kernel_rfl) (by kernel_rfl) ⟨[0, 1, 2], by kernel_rfl, by decide, a.take ((v_1).toNat), p1_6, h1_7, by first | omega | (simp only [List.length_append, List.length_cons, List.length_nil, List.length_set, List.length_take, List.length_drop]; omega), by kernel_rfl, by kernel_rfl⟩
 refine R.go 5 (k4 (v_5 = 4) (fun c24 => ?_) (fun c24 => ?_))
 ·refine R.any (by decide +kernel) (by kernel_rfl) (k24 0 (np_retX _ _ _ _ _ _) (k24 1 (np_retX _ _ _ _ _ _) (k24 3 (np_retX _ _ _ _ _ _) (k24 4 (np_retX _ _ _ _ _ _) (k28 5 (AI (IntKind.i64.wrap (v_1 + 1))) (np_retX _ _ _ _ _ _) (R.del eN a 2 6 7 4 129 16 ((v_1).toNat) v_1 (IntKind.i64.wrap (v_1 + 1)) (by kernel_rfl) (by omega) (by rw [wrap_id (by omega) (by omega)]; omega) eN_len eN_one (by omega) (by decide) (by omega) (np_retX _ _ _ _ _ _) (R.kfix 3 (us := usC) (by kernel_rfl) (hfC.kill 4 (Nat.le_of_ble_eq_true (by kernel_rfl))) (k22 8 (R.go 2 (k21 ?_))))))))))
  refine R.go 6 (k19 4 (R.kfix 3 (us := usC) (by kernel_rfl) (hfC.frz 4 (LN (a.take ((v_1).toNat) ++ a.drop ((v_1).toNat + 1))) (Nat.le_of_ble_eq_true (by kernel_rfl))) ?_))
  exact R.retX (res := LN (a.take ((v_1).toNat) ++ a.drop ((v_1).toNat + 1))) (hp' := [.box 123 [LB c, AI (p1_6 : Int), .int .u64 h1_7], .list eo1 so1 no1 co1, .list eo2 so2 no2 co2, .dead, .dead]) (by kernel_rfl) (by kernel_rfl) (by kernel_rfl) (by kernel_rfl) ⟨[0, 1, 2], by kernel_rfl, by decide, a.take ((v_1).toNat) ++ a.drop ((v_1).toNat + 1), p1_6, h1_7, by first | omega | (simp only [List.length_append, List.length_cons, List.length_nil, List.length_set, List.length_take, List.length_drop]; omega), by kernel_rfl, by kernel_rfl⟩
 refine R.go 7 (k19 4 (R.kfix 3 (us := usC) (by kernel_rfl) (hfC.frz 4 (LN a) (Nat.le_of_ble_eq_true (by kernel_rfl))) ?_))
 exact R.retX (res := LN a) (hp' := [.box 123 [LB c, AI (p1_6 : Int), .int .u64 h1_7], .list eo1 so1 no1 co1, .list eo2 so2 no2 co2, .dead, .dead]) (by kernel_rfl) (by kernel_rfl) (by kernel_rfl) (by kernel_rfl) ⟨[0, 1, 2], by kernel_rfl, by decide, a, p1_6, h1_7, by first | omega | (simp only [List.length_append, List.length_cons, List.length_nil, List.length_set, List.length_take, List.length_drop]; omega), by kernel_rfl, by kernel_rfl⟩
theorem bendX_c_r3 (c : List Int) (p : Nat) (h : Int) (a : List (Int × Int)) (eo1 so1 no1 : Nat) (co1 : List AV) (eo2 so2 no2 : Nat) (co2 : List AV) (eo3 so3 no3 : Nat) (co3 : List AV) (hc : BY c) (ha : 1 ≤ a.length ∧ a.length ≤ 900) : CallX Tryz.prog 102 [.ptr 0 0, LN a] [.box 123 [LB c, AI (p : Int), .int .u64 h], .list eo1 so1 no1 co1, .list eo2 so2 no2 co2, .list eo3 so3 no3 co3] (fun (resX : AV) (objX : List AObj) => ∃ r : List (Int × Int), ∃ p1 : Nat, ∃ h1 : Int, (r.length ≤ 1000) ∧ resX = LN r ∧ objX = [.box 123 [LB c, AI (p1 : Int), .int .u64 h1], .list eo1 so1 no1 co1, .list eo2 so2 no2 co2, .list eo3 so3 no3 co3]) := by
 have hcl : c.length ≤ 4096 := hc.1
 have hcb := hc.2
 refine CallX.dropE (CallX.ofF Tryz.func102 rfl (by kernel_rfl) ?_)
 intro usC frC hfC
 refine R.go 7 (k15 true (l02Own_c a (by first | omega | (simp <;> omega))) (R.go 7 (k25 (k26a 4 usC frC (nextX_c_r4 c p h a.length eo1 so1 no1 co1 eo2 so2 no2 co2 eo3 so3 no3 co3 129 2 a.length (rows eN a) hc)) ?_)))
 rintro _ _ ⟨_, _, ⟨v_1, p1_2, h1_3, f4, rfl, rfl⟩, rfl, rfl⟩
 refine R.go 6 (k25 (k26a 4 usC frC (nextX_c_r4 c p1_2 h1_3 5 eo1 so1 no1 co1 eo2 so2 no2 co2 eo3 so3 no3 co3 129 2 a.length (rows eN a) hc)) ?_)
 rintro _ _ ⟨_, _, ⟨v_5, p1_6, h1_7, f8, rfl, rfl⟩, rfl, rfl⟩
 refine R.go 7 (k4 (v_5 = 0) (fun c9 => ?_) (fun c9 => ?_))
 ·refine R.go 4 (k25 (k26a 4 usC frC (nextX_c_r4 c p1_6 h1_7 9 eo1 so1 no1 co1 eo2 so2 no2 co2 eo3 so3 no3 co3 129 2 a.length (rows eN a) hc)) ?_)
  rintro _ _ ⟨_, _, ⟨v_10, p1_11, h1_12, f13, rfl, rfl⟩, rfl, rfl⟩
  refine k1 (v_10 - 1) (k11 5 2 a.length ((v_1).toNat) v_1 (R.go 1 (R.stF eN 5 129 2 a (0, 0) ((v_1).toNat) 0 (AI (v_10 - 1)) (v_10 - 1, (a.getD ((v_1).toNat) (0, 0)).2) (by kernel_rfl) eN_len (by omega) (by decide) rfl (by kernel_rfl) (R.go 7 (k19 5 (R.kfix 4 (us := usC) (by kernel_rfl) (hfC.frz 5 (LN (a.set ((v_1).toNat) (v_10 - 1, (a.getD ((v_1).toNat) (0, 0)).2))) (Nat.le_of_ble_eq_true (by kernel_rfl))) ?_))))))
  exact R.retX (res := LN (a.set ((v_1).toNat) (v_10 - 1, (a.getD ((v_1).toNat) (0, 0)).2))) (hp' := [.box 123 [LB c, AI (p1_11 : Int), .int .u64 h1_12], .list eo1 so1 no1 co1, .list eo2 so2 no2 co2, .list eo3 so3 no3 co3, .dead, .dead]) (by kernel_rfl) (by kernel_rfl) (by kernel_rfl) (by kernel_rfl) ⟨[0, 1, 2, 3], by kernel_rfl, by decide, a.set ((v_1).toNat) (v_10 - 1, (a.getD ((v_1).toNat) (0, 0)).2), p1_11, h1_12, by first | omega | (simp only [List.length_append, List.length_cons, List.length_nil, List.length_set, List.length_take, List.length_drop]; omega), by kernel_rfl, by kernel_rfl⟩
 refine R.go 5 (k4 (v_5 = 1) (fun c14 => ?_) (fun c14 => ?_))
 ·refine R.go 4 (R.lit (s := 1) (n := 5) (cs := rows eI [(-1), 0, 1, 5, 6]) (by kernel_rfl) (by kernel_rfl) (k25 (k26a 4 usC frC (pickX_c_r4 c p1_6 h1_7 [(-1), 0, 1, 5, 6] eo1 so1 no1 co1 eo2 so2 no2 co2 eo3 so3 no3 co3 129 2 a.length (rows eN a) hc (by simp)) (h3 := by rintro _ _ ⟨_, _, _, rfl, rfl⟩; exact Nat.le_of_ble_eq_true (by kernel_rfl))) ?_))
  rintro _ _ ⟨_, _, ⟨v_15, p1_16, h1_17, rfl, rfl⟩, rfl, rfl⟩
  refine k11 5 2 a.length ((v_1).toNat) v_1 (R.go 1 (R.stF eN 5 129 2 a (0, 0) ((v_1).toNat) 1 (AI v_15) ((a.getD ((v_1).toNat) (0, 0)).1, v_15) (by kernel_rfl) eN_len (by omega) (by decide) rfl (by kernel_rfl) (R.go 7 (k19 5 (R.kfix 4 (us := usC) (by kernel_rfl) (hfC.frz 5 (LN (a.set ((v_1).toNat) ((a.getD ((v_1).toNat) (0, 0)).1, v_15))) (Nat.le_of_ble_eq_true (by kernel_rfl))) ?_)))))
  exact R.retX (res := LN (a.set ((v_1).toNat) ((a.getD ((v_1).toNat) (0, 0)).1, v_15))) (hp' := [.box 123 [LB c, AI (p1_16 : Int), .int .u64 h1_17], .list eo1 so1 no1 co1, .list eo2 so2 no2 co2, .list eo3 so3 no3 co3, .dead, .dead]) (by kernel_rfl) (by kernel_rfl) (by kernel_rfl) (by kernel_rfl) ⟨[0, 1, 2, 3], by kernel_rfl, by decide, a.set ((v_1).toNat) ((a.getD ((v_1).toNat) (0, 0)).1, v_15), p1_16, h1_17, by first | omega | (simp only [List.length_append, List.length_cons, List.length_nil, List.length_set, List.length_take, List.length_drop]; omega), by kernel_rfl, by kernel_rfl⟩
 refine R.go 5 (k4 (v_5 = 2) (fun c18 => ?_) (fun c18 => ?_))
 ·refine R.go 3 (k25 (k26a 4 usC frC (nextX_c_r4 c p1_6 h1_7 7 eo1 so1 no1 co1 eo2 so2 no2 co2 eo3 so3 no3 co3 129 2 a.length (rows eN a) hc)) ?_)
  rintro _ _ ⟨_, _, ⟨v_19, p1_20, h1_21, f22, rfl, rfl⟩, rfl, rfl⟩
  refine R.go 2 (k14 eN a [(v_19, 0)] 5 129 2 16 eN_one (R.kfix 4 (us := usC) (by kernel_rfl) (hfC.kill 5 (Nat.le_of_ble_eq_true (by kernel_rfl))) (R.go 8 (k19 5 (R.kfix 4 (us := usC) (by kernel_rfl) (hfC.frz 5 (LN (a ++ [(v_19, 0)])) (Nat.le_of_ble_eq_true (by kernel_rfl))) ?_)))))
  exact R.retX (res := LN (a ++ [(v_19, 0)])) (hp' := [.box 123 [LB c, AI (p1_20 : Int), .int .u64 h1_21], .list eo1 so1 no1 co1, .list eo2 so2 no2 co2, .list eo3 so3 no3 co3, .dead, .dead, rowA eN 129 2 [(v_19, 0)]]) (by kernel_rfl) (by kernel_rfl) (by kernel_rfl) (by kernel_rfl) ⟨[0, 1, 2, 3], by kernel_rfl, by decide, a ++ [(v_19, 0)], p1_20, h1_21, by first | omega | (simp only [List.length_append, List.length_cons, List.length_nil, List.length_set, List.length_take, List.length_drop]; omega), by kernel_rfl, by kernel_rfl⟩
 refine R.go 5 (k4 (v_5 = 3) (fun c23 => ?_) (fun c23 => ?_))
 ·refine R.go 3 (R.cut eN a 5 129 ((v_1).toNat) v_1 (by kernel_rfl) (by omega) eN_len (by omega) (by kernel_rfl) (R.kfix 4 (us := usC) (by kernel_rfl) (hfC.kill 5 (Nat.le_of_ble_eq_true (by kernel_rfl))) (R.go 8 (k19 5 (R.kfix 4 (us := usC) (by kernel_rfl) (hfC.frz 5 (LN (a.take ((v_1).toNat))) (Nat.le_of_ble_eq_true (by kernel_rfl))) ?_)))))
  exact R.retX (res := LN (a.take ((v_1).toNat))) (hp' := [.box 123 [LB c, AI (p1_6 : Int), .int .u64 h1_7], .list eo1 so1 no1 co1, .list eo2 so2 no2 co2, .list eo3 so3 no3 co3, .dead, .dead]) (by kernel_rfl) (by kernel_rfl) (by kernel_rfl) (by kernel_rfl) ⟨[0, 1, 2, 3], by kernel_rfl, by decide, a.take ((v_1).toNat), p1_6, h1_7, by first | omega | (simp only [List.length_append, List.length_cons, List.length_nil, List.length_set, List.length_take, List.length_drop]; omega), by kernel_rfl, by kernel_rfl⟩
 refine R.go 5 (k4 (v_5 = 4) (fun c24 => ?_) (fun c24 => ?_))
 ·refine R.any (by decide +kernel) (by kernel_rfl) (k24 0 (np_retX _ _ _ _ _ _) (k24 1 (np_retX _ _ _ _ _ _) (k24 3 (np_retX _ _ _ _ _ _) (k24 4 (np_retX _ _ _ _ _ _) (k28 5 (AI (IntKind.i64.wrap (v_1 + 1))) (np_retX _ _ _ _ _ _) (R.del eN a 2 6 7 5 129 16 ((v_1).toNat) v_1 (IntKind.i64.wrap (v_1 + 1)) (by kernel_rfl) (by omega) (by rw [wrap_id (by omega) (by omega)]; omega) eN_len eN_one (by omega) (by decide) (by omega) (np_retX _ _ _ _ _ _) (R.kfix 4 (us := usC) (by kernel_rfl) (hfC.kill 5 (Nat.le_of_ble_eq_true (by kernel_rfl))) (k22 8 (R.go 2 (k21 ?_))))))))))
  refine R.go 6 (k19 5 (R.kfix 4 (us := usC) (by kernel_rfl) (hfC.frz 5 (LN (a.take ((v_1).toNat) ++ a.drop ((v_1).toNat + 1))) (Nat.le_of_ble_eq_true (by kernel_rfl))) ?_))
  exact R.retX (res := LN (a.take ((v_1).toNat) ++ a.drop ((v_1).toNat + 1))) (hp' := [.box 123 [LB c, AI (p1_6 : Int), .int .u64 h1_7], .list eo1 so1 no1 co1, .list eo2 so2 no2 co2, .list eo3 so3 no3 co3, .dead, .dead]) (by kernel_rfl) (by kernel_rfl) (by kernel_rfl) (by kernel_rfl) ⟨[0, 1, 2, 3], by kernel_rfl, by decide, a.take ((v_1).toNat) ++ a.drop ((v_1).toNat + 1), p1_6, h1_7, by first | omega | (simp only [List.length_append, List.length_cons, List.length_nil, List.length_set, List.length_take, List.length_drop]; omega), by kernel_rfl, by kernel_rfl⟩
 refine R.go 7 (k19 5 (R.kfix 4 (us := usC) (by kernel_rfl) (hfC.frz 5 (LN a) (Nat.le_of_ble_eq_true (by kernel_rfl))) ?_))
 exact R.retX (res := LN a) (hp' := [.box 123 [LB c, AI (p1_6 : Int), .int .u64 h1_7], .list eo1 so1 no1 co1, .list eo2 so2 no2 co2, .list eo3 so3 no3 co3, .dead, .dead]) (by kernel_rfl) (by kernel_rfl) (by kernel_rfl) (by kernel_rfl) ⟨[0, 1, 2, 3], by kernel_rfl, by decide, a, p1_6, h1_7, by first | omega | (simp only [List.length_append, List.length_cons, List.length_nil, List.length_set, List.length_take, List.length_drop]; omega), by kernel_rfl, by kernel_rfl⟩
theorem anyX_c_r2 (c : List Int) (p : Nat) (h size vars : Int) (modal : Bool) (eo1 so1 no1 : Nat) (co1 : List AV) (eo2 so2 no2 : Nat) (co2 : List AV) (hc : BY c) (hs : size ≤ 100) : CallX Tryz.prog 49 [.ptr 0 0, AI size, AI vars, .bool modal] [.box 123 [LB c, AI (p : Int), .int .u64 h], .list eo1 so1 no1 co1, .list eo2 so2 no2 co2] (fun (resX : AV) (objX : List AObj) => ∃ r : List (Int × Int), ∃ p1 : Nat, ∃ h1 : Int, (r.length ≤ 1000) ∧ resX = LN r ∧ objX = [.box 123 [LB c, AI (p1 : Int), .int .u64 h1], .list eo1 so1 no1 co1, .list eo2 so2 no2 co2]) := by
 have hcl : c.length ≤ 4096 := hc.1
 have hcb := hc.2
 refine CallX.dropE (CallX.ofF Tryz.func49 rfl (by kernel_rfl) ?_)
 intro usC frC hfC
 refine R.go 10 (k25 (k26a 3 usC frC (drawX_c_r2 ((size : Int).toNat) c p h size vars modal eo1 so1 no1 co1 eo2 so2 no2 co2 (by rfl) hc (by omega))) ?_)
 rintro _ _ ⟨_, _, ⟨r_1, p1_2, h1_3, f4, rfl, rfl⟩, rfl, rfl⟩
 refine R.go 6 (k25 (k26a 3 usC frC (nextX_c_r2 c p1_2 h1_3 40 eo1 so1 no1 co1 eo2 so2 no2 co2 hc)) ?_)
 rintro _ _ ⟨_, _, ⟨v_5, p1_6, h1_7, f8, rfl, rfl⟩, rfl, rfl⟩
 refine R.go 7 (k4 (v_5 = 0) (fun c9 => ?_) (fun c9 => ?_))
 ·refine R.go 4 (k25 (k26a 3 usC frC (bendX_c_r2 c p1_6 h1_7 r_1 eo1 so1 no1 co1 eo2 so2 no2 co2 hc (by omega))) ?_)
  rintro _ _ ⟨_, _, ⟨r_10, p1_11, h1_12, f13, rfl, rfl⟩, rfl, rfl⟩
  exact R.go 2 (R.retX (res := LN r_10) (hp' := [.box 123 [LB c, AI (p1_11 : Int), .int .u64 h1_12], .list eo1 so1 no1 co1, .list eo2 so2 no2 co2, .dead]) (by kernel_rfl) (by kernel_rfl) (by kernel_rfl) (by kernel_rfl) ⟨[0, 1, 2], by kernel_rfl, by decide, r_10, p1_11, h1_12, by first | assumption | omega, by kernel_rfl, by kernel_rfl⟩)
 refine R.go 5 (k4 (v_5 = 1) (fun c14 => ?_) (fun c14 => ?_))
 ·refine R.go 1 (k16 ((fun | (b, q, k) => (⟨(frm 42 [(0, .ptr 0 0), (2, AI vars), (3, .bool modal), (9, LN b)]), [.box 123 [LB c, AI (q : Int), .int .u64 k], .list eo1 so1 no1 co1, .list eo2 so2 no2 co2, .frame usC frC]⟩ : St) : (List (Int × Int)) × Nat × Int → St)) (fun | (b, q, k) => (1 ≤ b.length) ∧ (b.length ≤ 200)) (fun | (b, q, k) => 200 - b.length) (r_1, p1_6, h1_7) [0, 2, 3, 9] none ⟨(by omega), (by omega)⟩ ?_)
  rintro ⟨b, q, k⟩ ⟨h18_1, h18_2⟩ R15 N16
  refine R.go 7 ?_
  by_cases c19 : (b.length : Int) ≤ 40
  ·refine k7 true (dT c19) (R.go 1 (k7 true (dT c19) (k25 (k26a 3 usC frC (nextX_c_r2 c q k 60 eo1 so1 no1 co1 eo2 so2 no2 co2 hc)) ?_)))
   rintro _ _ ⟨_, _, ⟨v_20, p1_21, h1_22, f23, rfl, rfl⟩, rfl, rfl⟩
   refine k7 true (dT c19) (R.go 1 (k9 true (dT c19) (R.go 1 (k4 (v_20 > 0) (fun c24 => ?_) (fun c24 => ?_)))))
   ·refine R.go 4 (k25 (k26a 3 usC frC (nextX_c_r2 c p1_21 h1_22 3 eo1 so1 no1 co1 eo2 so2 no2 co2 hc)) ?_)
    rintro _ _ ⟨_, _, ⟨v_25, p1_26, h1_27, f28, rfl, rfl⟩, rfl, rfl⟩
    refine k1 (2 + v_25) (R.go 4 (k25 (k26a 3 usC frC (drawX_c_r2 ((6 : Int).toNat) c p1_26 h1_27 6 vars modal eo1 so1 no1 co1 eo2 so2 no2 co2 (by rfl) hc (by omega))) ?_))
    rintro _ _ ⟨_, _, ⟨r_29, p1_30, h1_31, f32, rfl, rfl⟩, rfl, rfl⟩
    refine k15 true (l02Pair_c (2 + v_25) b r_29 (by first | omega | (simp <;> omega)) (by first | omega | (simp <;> omega))).frz ?_
    exact R.go 3 (k17 R15 (N16 (((2 + v_25), 0) :: (b ++ r_29), p1_30, h1_31) [0, 2, 3, 9] none _ (by kernel_rfl) (by kernel_rfl) ⟨(by (simp only [List.length_cons, List.length_append]; omega)), (by (simp only [List.length_cons, List.length_append]; omega))⟩ (by show (200 - (((2 + v_25), 0) :: (b ++ r_29)).length) < (200 - b.length); (simp only [List.length_cons, List.length_append]; omega))))
   exact R.go 7 (R.retX (res := LN b) (hp' := [.box 123 [LB c, AI (p1_21 : Int), .int .u64 h1_22], .list eo1 so1 no1 co1, .list eo2 so2 no2 co2, .dead]) (by kernel_rfl) (by kernel_rfl) (by kernel_rfl) (by kernel_rfl) ⟨[0, 1, 2], by kernel_rfl, by decide, b, p1_21, h1_22, by first | assumption | omega, by kernel_rfl, by kernel_rfl⟩)
  iterate 3 refine k8 true (dF c19) ?_
  refine k9 false (dF c19) ?_
  exact R.go 9 (R.retX (res := LN b) (hp' := [.box 123 [LB c, AI (q : Int), .int .u64 k], .list eo1 so1 no1 co1, .list eo2 so2 no2 co2, .dead]) (by kernel_rfl) (by kernel_rfl) (by kernel_rfl) (by kernel_rfl) ⟨[0, 1, 2], by kernel_rfl, by decide, b, q, k, by first | assumption | omega, by kernel_rfl, by kernel_rfl⟩)
 exact R.go 7 (R.retX (res := LN r_1) (hp' := [.box 123 [LB c, AI (p1_6 : Int), .int .u64 h1_7], .list eo1 so1 no1 co1, .list eo2 so2 no2 co2, .dead]) (by kernel_rfl) (by kernel_rfl) (by kernel_rfl) (by kernel_rfl) ⟨[0, 1, 2], by kernel_rfl, by decide, r_1, p1_6, h1_7, by first | assumption | omega, by kernel_rfl, by kernel_rfl⟩)
theorem anyX_c_r3 (c : List Int) (p : Nat) (h size vars : Int) (modal : Bool) (eo1 so1 no1 : Nat) (co1 : List AV) (eo2 so2 no2 : Nat) (co2 : List AV) (eo3 so3 no3 : Nat) (co3 : List AV) (hc : BY c) (hs : size ≤ 100) : CallX Tryz.prog 49 [.ptr 0 0, AI size, AI vars, .bool modal] [.box 123 [LB c, AI (p : Int), .int .u64 h], .list eo1 so1 no1 co1, .list eo2 so2 no2 co2, .list eo3 so3 no3 co3] (fun (resX : AV) (objX : List AObj) => ∃ r : List (Int × Int), ∃ p1 : Nat, ∃ h1 : Int, (r.length ≤ 1000) ∧ resX = LN r ∧ objX = [.box 123 [LB c, AI (p1 : Int), .int .u64 h1], .list eo1 so1 no1 co1, .list eo2 so2 no2 co2, .list eo3 so3 no3 co3]) := by
 have hcl : c.length ≤ 4096 := hc.1
 have hcb := hc.2
 refine CallX.dropE (CallX.ofF Tryz.func49 rfl (by kernel_rfl) ?_)
 intro usC frC hfC
 refine R.go 10 (k25 (k26a 4 usC frC (drawX_c_r3 ((size : Int).toNat) c p h size vars modal eo1 so1 no1 co1 eo2 so2 no2 co2 eo3 so3 no3 co3 (by rfl) hc (by omega))) ?_)
 rintro _ _ ⟨_, _, ⟨r_1, p1_2, h1_3, f4, rfl, rfl⟩, rfl, rfl⟩
 refine R.go 6 (k25 (k26a 4 usC frC (nextX_c_r3 c p1_2 h1_3 40 eo1 so1 no1 co1 eo2 so2 no2 co2 eo3 so3 no3 co3 hc)) ?_)
 rintro _ _ ⟨_, _, ⟨v_5, p1_6, h1_7, f8, rfl, rfl⟩, rfl, rfl⟩
 refine R.go 7 (k4 (v_5 = 0) (fun c9 => ?_) (fun c9 => ?_))
 ·refine R.go 4 (k25 (k26a 4 usC frC (bendX_c_r3 c p1_6 h1_7 r_1 eo1 so1 no1 co1 eo2 so2 no2 co2 eo3 so3 no3 co3 hc (by omega))) ?_)
  rintro _ _ ⟨_, _, ⟨r_10, p1_11, h1_12, f13, rfl, rfl⟩, rfl, rfl⟩
  exact R.go 2 (R.retX (res := LN r_10) (hp' := [.box 123 [LB c, AI (p1_11 : Int), .int .u64 h1_12], .list eo1 so1 no1 co1, .list eo2 so2 no2 co2, .list eo3 so3 no3 co3, .dead]) (by kernel_rfl) (by kernel_rfl) (by kernel_rfl) (by kernel_rfl) ⟨[0, 1, 2, 3], by kernel_rfl, by decide, r_10, p1_11, h1_12, by first | assumption | omega, by kernel_rfl, by kernel_rfl⟩)
 refine R.go 5 (k4 (v_5 = 1) (fun c14 => ?_) (fun c14 => ?_))
 ·refine R.go 1 (k16 ((fun | (b, q, k) => (⟨(frm 42 [(0, .ptr 0 0), (2, AI vars), (3, .bool modal), (9, LN b)]), [.box 123 [LB c, AI (q : Int), .int .u64 k], .list eo1 so1 no1 co1, .list eo2 so2 no2 co2, .list eo3 so3 no3 co3, .frame usC frC]⟩ : St) : (List (Int × Int)) × Nat × Int → St)) (fun | (b, q, k) => (1 ≤ b.length) ∧ (b.length ≤ 200)) (fun | (b, q, k) => 200 - b.length) (r_1, p1_6, h1_7) [0, 2, 3, 9] none ⟨(by omega), (by omega)⟩ ?_)
  rintro ⟨b, q, k⟩ ⟨h18_1, h18_2⟩ R15 N16
  refine R.go 7 ?_
  by_cases c19 : (b.length : Int) ≤ 40
  ·refine k7 true (dT c19) (R.go 1 (k7 true (dT c19) (k25 (k26a 4 usC frC (nextX_c_r3 c q k 60 eo1 so1 no1 co1 eo2 so2 no2 co2 eo3 so3 no3 co3 hc)) ?_)))
   rintro _ _ ⟨_, _, ⟨v_20, p1_21, h1_22, f23, rfl, rfl⟩, rfl, rfl⟩
   refine k7 true (dT c19) (R.go 1 (k9 true (dT c19) (R.go 1 (k4 (v_20 > 0) (fun c24 => ?_) (fun c24 => ?_)))))
   ·refine R.go 4 (k25 (k26a 4 usC frC (nextX_c_r3 c p1_21 h1_22 3 eo1 so1 no1 co1 eo2 so2 no2 co2 eo3 so3 no3 co3 hc)) ?_)
    rintro _ _ ⟨_, _, ⟨v_25, p1_26, h1_27, f28, rfl, rfl⟩, rfl, rfl⟩
    refine k1 (2 + v_25) (R.go 4 (k25 (k26a 4 usC frC (drawX_c_r3 ((6 : Int).toNat) c p1_26 h1_27 6 vars modal eo1 so1 no1 co1 eo2 so2 no2 co2 eo3 so3 no3 co3 (by rfl) hc (by omega))) ?_))
    rintro _ _ ⟨_, _, ⟨r_29, p1_30, h1_31, f32, rfl, rfl⟩, rfl, rfl⟩
    refine k15 true (l02Pair_c (2 + v_25) b r_29 (by first | omega | (simp <;> omega)) (by first | omega | (simp <;> omega))).frz ?_
    exact R.go 3 (k17 R15 (N16 (((2 + v_25), 0) :: (b ++ r_29), p1_30, h1_31) [0, 2, 3, 9] none _ (by kernel_rfl) (by kernel_rfl) ⟨(by (simp only [List.length_cons, List.length_append]; omega)), (by (simp only [List.length_cons, List.length_append]; omega))⟩ (by show (200 - (((2 + v_25), 0) :: (b ++ r_29)).length) < (200 - b.length); (simp only [List.length_cons, List.length_append]; omega))))
   exact R.go 7 (R.retX (res := LN b) (hp' := [.box 123 [LB c, AI (p1_21 : Int), .int .u64 h1_22], .list eo1 so1 no1 co1, .list eo2 so2 no2 co2, .list eo3 so3 no3 co3, .dead]) (by kernel_rfl) (by kernel_rfl) (by kernel_rfl) (by kernel_rfl) ⟨[0, 1, 2, 3], by kernel_rfl, by decide, b, p1_21, h1_22, by first | assumption | omega, by kernel_rfl, by kernel_rfl⟩)
  iterate 3 refine k8 true (dF c19) ?_
  refine k9 false (dF c19) ?_
  exact R.go 9 (R.retX (res := LN b) (hp' := [.box 123 [LB c, AI (q : Int), .int .u64 k], .list eo1 so1 no1 co1, .list eo2 so2 no2 co2, .list eo3 so3 no3 co3, .dead]) (by kernel_rfl) (by kernel_rfl) (by kernel_rfl) (by kernel_rfl) ⟨[0, 1, 2, 3], by kernel_rfl, by decide, b, q, k, by first | assumption | omega, by kernel_rfl, by kernel_rfl⟩)
 exact R.go 7 (R.retX (res := LN r_1) (hp' := [.box 123 [LB c, AI (p1_6 : Int), .int .u64 h1_7], .list eo1 so1 no1 co1, .list eo2 so2 no2 co2, .list eo3 so3 no3 co3, .dead]) (by kernel_rfl) (by kernel_rfl) (by kernel_rfl) (by kernel_rfl) ⟨[0, 1, 2, 3], by kernel_rfl, by decide, r_1, p1_6, h1_7, by first | assumption | omega, by kernel_rfl, by kernel_rfl⟩)
end Go.Proofs.YtehbliocfpppoaaGreat

/-! The machine's rules: pairs of numbers are compared. -/
namespace Go.Abs
open Go.RowKit
def intT (P : Program) (t : TypeId) : Bool := match P.underlying t with
 | some (.int _) => true
 | _ => false
def pairB (P : Program) (t : TypeId) : Bool :=
 (match P.underlying t with
 | some (.struct fs) => match fs.toList with
  | [f1, f2] => decide (f1.name ≠ "_" ∧ f2.name ≠ "_" ∧ f1.offset = 0 ∧ f2.offset = 1) && intT P f1.type && intT P f2.type
  | _ => false
 | _ => false) && !P.stoodInHeld t && !P.eqGuardType P.depth t
theorem intT_parts {P : Program} {t : TypeId} (h : intT P t = true) : ∃ k, P.underlying t = some (.int k) := by
 unfold intT at h
 split at h
 ·exact ⟨_, by assumption⟩
 ·cases h
theorem run_pairEq {P : Program} {t : TypeId} (h : pairB P t = true) (k k' : IntKind) (a b c d : Int) (w : World) : (Op.equalIn 10000 t (.agg #[.int k a, .int k' b]) (.agg #[.int k c, .int k' d])).run P w = .ok (decide (a = c ∧ b = d)) w := by
 unfold pairB at h
 simp only [Bool.and_eq_true, Bool.not_eq_true'] at h
 obtain ⟨⟨h, hst⟩, _⟩ := h
 split at h
 ·rename_i fs hu
  split at h
  ·rename_i f1 f2 hfs
   simp only [Bool.and_eq_true, decide_eq_true_eq] at h
   obtain ⟨⟨⟨n1, n2, o1, o2⟩, i1⟩, i2⟩ := h
   obtain ⟨k1, u1⟩ := intT_parts i1
   obtain ⟨k2, u2⟩ := intT_parts i2
   have hf : P.fieldsOf t = fs := by unfold Program.fieldsOf; rw [hu]
   rw [run_equalIn_struct w 9999 t _ _ (by rw [hf]; exact hu) hst, hf, hfs]
   have g1 : aggB P f1.type = some false := by unfold aggB; rw [u1]; rfl
   have g2 : aggB P f2.type = some false := by unfold aggB; rw [u2]; rfl
   have p1 : ∀ x y : Value, (part f1.type #[x, y] f1.offset).run P w = .ok x w := fun x y => run_part1 g1 (by rw [o1]; rfl) w
   have p2 : ∀ x y : Value, (part f2.type #[x, y] f2.offset).run P w = .ok y w := fun x y => run_part1 g2 (by rw [o2]; rfl) w
   simp only [Op.eqFields, if_pos n1, if_pos n2, Sem.run_bind, p1, p2, Result.andThen_ok, run_equalIn_int w 9998 f1.type k k1 a c u1, run_equalIn_int w 9998 f2.type k' k2 b d u2, Sem.run_ite, Sem.run_pure]
   by_cases e1 : a = c <;> by_cases e2 : b = d <;> simp [e1, e2]
  ·cases h
 ·cases h
def eqAt (P : Program) (m : M) : Option (Bool × Int × Int × Int × Int) :=
 match opM m with
 | some (.binOp .eql t x y _) => match ev m.st.fr x, ev m.st.fr y with
  | .agg [.int k a, .int k' b], .agg [.int k2 c, .int k3 d] => if pairB P t = true ∧ k = k2 ∧ k' = k3 then some (true, a, b, c, d) else none
  | _, _ => none
 | some (.binOp .neq t x y _) => match ev m.st.fr x, ev m.st.fr y with
  | .agg [.int k a, .int k' b], .agg [.int k2 c, .int k3 d] => if pairB P t = true ∧ k = k2 ∧ k' = k3 then some (false, a, b, c, d) else none
  | _, _ => none
 | _ => none
section
variable {rd : Option Nat} {P : Program} {m : M} {Q : Exit → St → Prop}
theorem OpsQ.val {all : Array Oper} {o : Oper} {l : List Oper} {fr : List AV} {hp : List AObj} {R : Exit → St → Prop} {b : AV} (hw : WantedA all o fr) (hcall : ∀ c, o.op ≠ .defer c)
  (hrun : ∀ (Z : Nat → Prop) (μ : List Value) (a : Act) (w : World), RelL w Z μ fr a.tmps.toList → ∃ v, (execOp a.eval o).run P w = .ok (.value v) w ∧ Rel w Z μ b v) (h' : OpsQ rd P all l ⟨putF fr o.dst b, hp⟩ R) : OpsQ rd P all (o :: l) ⟨fr, hp⟩ R := by
 intro Z0 w0 a w hS
 obtain ⟨μ, F, hFb, hH, hF, hd, hbel⟩ := hS
 refine wpListIn_step fun K hK => ?_
 rw [wanted_rel hF hw, if_pos rfl]
 obtain ⟨v, hr, hv⟩ := hrun _ μ a w hF
 refine wpIn_of_run (fun c' h => hcall _ h) ?_
 rw [hr]
 exact hK _ _ (h' Z0 w0 _ w ⟨μ, F, hFb, hH, put_rel hF _ hv, by rw [put_defers']; exact hd, hbel⟩)
theorem agg2 {w : World} {Z : Nat → Prop} {μ : List Value} {k k' : IntKind} {a b : Int} {v : Value} (h : Rel w Z μ (.agg [.int k a, .int k' b]) v) : v = .agg #[.int k a, .int k' b] := by
 simp only [Rel, RelL] at h
 obtain ⟨xs, rfl, x, ys, rfl, rfl, y, zs, rfl, rfl, rfl⟩ := h
 rfl
theorem R.eqN (e : Bool) (a b c d : Int) (v : Bool) (h : eqAt P m = some (e, a, b, c, d)) (ho : opsAt m = true) (hv : v = (if e = true then decide (a = c ∧ b = d) else !decide (a = c ∧ b = d))) (h' : Runs rd P (putM m none (.bool v) m.st.hp) Q) : Runs rd P m Q := by
 subst hv
 obtain ⟨ks, ⟨fr, hp⟩⟩ := m
 unfold eqAt opM headOf at h
 unfold opsAt at ho
 simp only [putM, runs_iff] at h ho h' ⊢
 split at ho
 ·rename_i all o l fl ks'
  simp only [RunsK] at h' ⊢
  intro hW
  split at h
  ·rename_i t x y ty hop
   split at hop
   ·rename_i all' o' f' t' heq
    simp only [Option.some.injEq, Prod.mk.injEq] at heq
    obtain ⟨rfl, rfl, rfl, _⟩ := heq
    split at hop
    ·rename_i hw
     simp only [Option.some.injEq] at hop
     split at h
     ·rename_i k a1 k' b1 k2 c1 k3 d1 hx hy
      split at h
      ·rename_i hc
       obtain ⟨hp1, rfl, rfl⟩ := hc
       simp only [Option.some.injEq, Prod.mk.injEq] at h
       obtain ⟨rfl, rfl, rfl, rfl, rfl⟩ := h
       refine OpsQ.val (wantH_true hw hW) (fun c => by rw [hop]; simp) (fun Z μ ac w hF => ⟨.bool (decide (a1 = c1 ∧ b1 = d1)), ?_, by simp [Rel]⟩) (h' headW_false)
       have h1 := agg2 (hx ▸ ev_rel hF x)
       have h2 := agg2 (hy ▸ ev_rel hF y)
       have hg : P.eqGuardType P.depth t = false := by unfold pairB at hp1; simp only [Bool.and_eq_true, Bool.not_eq_true'] at hp1; exact hp1.2
       simp only [execOp, hop, h1, h2, Sem.run_bind, run_eqGuard_agg w .eql t x y _ _ hg, Result.andThen_ok, run_eql_struct w, run_pairEq hp1, Sem.run_pure]
      ·cases h
     ·cases h
    ·cases hop
   ·cases hop
  ·rename_i t x y ty hop
   split at hop
   ·rename_i all' o' f' t' heq
    simp only [Option.some.injEq, Prod.mk.injEq] at heq
    obtain ⟨rfl, rfl, rfl, _⟩ := heq
    split at hop
    ·rename_i hw
     simp only [Option.some.injEq] at hop
     split at h
     ·rename_i k a1 k' b1 k2 c1 k3 d1 hx hy
      split at h
      ·rename_i hc
       obtain ⟨hp1, rfl, rfl⟩ := hc
       simp only [Option.some.injEq, Prod.mk.injEq] at h
       obtain ⟨rfl, rfl, rfl, rfl, rfl⟩ := h
       refine OpsQ.val (wantH_true hw hW) (fun c => by rw [hop]; simp) (fun Z μ ac w hF => ⟨.bool (!decide (a1 = c1 ∧ b1 = d1)), ?_, by simp [Rel]⟩) (h' headW_false)
       have h1 := agg2 (hx ▸ ev_rel hF x)
       have h2 := agg2 (hy ▸ ev_rel hF y)
       have hg : P.eqGuardType P.depth t = false := by unfold pairB at hp1; simp only [Bool.and_eq_true, Bool.not_eq_true'] at hp1; exact hp1.2
       simp only [execOp, hop, h1, h2, Sem.run_bind, run_eqGuard_agg w .neq t x y _ _ hg, Result.andThen_ok, run_neq_struct w, run_pairEq hp1, Sem.run_pure]
      ·cases h
     ·cases h
    ·cases hop
   ·cases hop
  ·cases h
 ·cases ho
end
end Go.Abs

/-! The machine's rules: texts joined, compared, made of bytes. -/
namespace Go.Abs
open Go.RowKit
inductive StrOp
 | cat | eql | neq
def strAt (m : M) : Option (StrOp × ByteArray × ByteArray) :=
 match opM m with
 | some (.binOp .add _ x y _) => match ev m.st.fr x, ev m.st.fr y with
  | .str a, .str b => some (.cat, a, b)
  | _, _ => none
 | some (.binOp .eql _ x y _) => match ev m.st.fr x, ev m.st.fr y with
  | .str a, .str b => some (.eql, a, b)
  | _, _ => none
 | some (.binOp .neq _ x y _) => match ev m.st.fr x, ev m.st.fr y with
  | .str a, .str b => some (.neq, a, b)
  | _, _ => none
 | _ => none
def strV : StrOp → ByteArray → ByteArray → AV
 | .cat, a, b => .str (a ++ b)
 | .eql, a, b => .bool (a.toList == b.toList)
 | .neq, a, b => .bool !(a.toList == b.toList)
section
variable {rd : Option Nat} {P : Program} {m : M} {Q : Exit → St → Prop}
theorem R.str (k : StrOp) (a b : ByteArray) (v : AV) (h : strAt m = some (k, a, b)) (ht : quiet0 m = true) (hs : a.size + b.size ≤ 9223372036854775807) (hv : strV k a b = v) (h' : Runs rd P (putM m none v m.st.hp) Q) : Runs rd P m Q := by
 subst hv
 unfold strAt at h
 split at h
 ·rename_i t x y ty hop
  split at h
  ·rename_i a1 b1 hx hy
   simp only [Option.some.injEq, Prod.mk.injEq] at h
   obtain ⟨rfl, rfl, rfl⟩ := h
   exact R.eff0 hop (.inl (.catS _ _ hx hy hs)) ht h'
  ·cases h
 ·rename_i t x y ty hop
  split at h
  ·rename_i a1 b1 hx hy
   simp only [Option.some.injEq, Prod.mk.injEq] at h
   obtain ⟨rfl, rfl, rfl⟩ := h
   exact R.eff0 hop (.inl (.eqlS _ _ hx hy)) ht h'
  ·cases h
 ·rename_i t x y ty hop
  split at h
  ·rename_i a1 b1 hx hy
   simp only [Option.some.injEq, Prod.mk.injEq] at h
   obtain ⟨rfl, rfl, rfl⟩ := h
   exact R.eff0 hop (.inl (.neqS _ _ hx hy)) ht h'
  ·cases h
 ·cases h
end
end Go.Abs

/-! Named slices: rows of one's own laid into rows; a named row taken back to be written; slots read by names. -/
namespace Go.Abs
open Go.RowKit

mutual
def InN (u : Value) : AV → Prop
 | .nam v o _ _ cs => (u = v ∧ (cs ≠ [] ∨ o ≠ none)) ∨ InNL u cs
 | .lst _ _ cs => InNL u cs
 | .clp _ _ cs => InNL u cs
 | .rptr cs => InNL u cs
 | .agg cs => InNL u cs
 | .tup cs => InNL u cs
 | .fn _ cs => InNL u cs
 | .int _ _ => False
 | .bool _ => False
 | .str _ => False
 | .nil => False
 | .ref _ => False
 | .ptr _ _ => False
 | .own _ _ _ _ => False
 | .top => False
def InNL (u : Value) : List AV → Prop
 | [] => False
 | c :: cs => InN u c ∨ InNL u cs
end
mutual
def NoRaw : AV → Bool
 | .nam _ _ _ _ cs => NoRawL cs
 | .lst _ _ cs => cs.isEmpty
 | .clp _ _ cs => cs.isEmpty
 | .rptr _ => false
 | .agg cs => NoRawL cs
 | .tup cs => NoRawL cs
 | .fn _ cs => NoRawL cs
 | .int _ _ => true
 | .bool _ => true
 | .str _ => true
 | .nil => true
 | .ref _ => true
 | .ptr _ _ => true
 | .own _ _ _ _ => true
 | .top => true
def NoRawL : List AV → Bool
 | [] => true
 | c :: cs => NoRaw c && NoRawL cs
end
theorem add_block' (a : Addr) (j : Nat) : (a.add j).block = a.block := by unfold Addr.add; split <;> rfl
section
variable {w : World}
mutual
theorem InN.of {Z : Nat → Prop} {μ : List Value} {u : Value} {g : Nat} (hg : blk u = some g) : ∀ {c : AV} {v : Value}, Rel w Z μ c v → InN u c → g < w.heap.size ∧ ¬ Z g
 | .nam v' o s n cs, v, h, hn => by
  simp only [Rel] at h
  simp only [InN] at hn
  obtain ⟨⟨h0, h00⟩, A, c, xs, h1, h2, h3, h4, h5⟩ := h
  rcases hn with ⟨rfl, hn⟩ | hn
  ·subst h0
   by_cases ho : o = none
   ·have hcs : cs ≠ [] := by
     rcases hn with hn | hn
     ·exact hn
     ·exact absurd ho hn
    have hx : xs ≠ [] := by
     intro e
     have h6 := h5.length
     rw [e] at h6
     exact hcs (List.eq_nil_of_length_eq_zero (by simpa using h6.symm))
    obtain ⟨ad, rfl, hz, hc⟩ := h4 hx
    rw [h1] at hg
    simp only [blk, Option.some.injEq] at hg
    subst hg
    cases xs with
    | nil => exact absurd rfl hx
    | cons y ys =>
     have h6 := World.block_lt_of_cell? w _ (hc 0 y rfl)
     rw [add_block'] at h6
     exact ⟨h6, hz⟩
   ·cases o with
    | none => exact absurd rfl ho
    | some e =>
     obtain ⟨xs', hown, hz⟩ := h00 e rfl
     exact ⟨ownsRow_lt' hown hg, hz g hg⟩
  ·exact InNL.of hg h5 hn
 | .lst s n cs, v, h, hn => by
  simp only [Rel] at h
  simp only [InN] at hn
  obtain ⟨A, c, xs, h1, h2, h3, h4, h5⟩ := h
  exact InNL.of hg h5 hn
 | .clp s n cs, v, h, hn => by
  simp only [Rel] at h
  simp only [InN] at hn
  obtain ⟨A, c, xs, h1, h2, h3, h4, h5⟩ := h
  exact InNL.of hg h5 hn
 | .rptr cs, v, h, hn => by
  simp only [Rel] at h
  simp only [InN] at hn
  obtain ⟨ad, xs, h1, h4, h5⟩ := h
  exact InNL.of hg h5 hn
 | .agg cs, v, h, hn => by
  simp only [Rel] at h
  simp only [InN] at hn
  obtain ⟨xs, h1, h5⟩ := h
  exact InNL.of hg h5 hn
 | .tup cs, v, h, hn => by
  simp only [Rel] at h
  simp only [InN] at hn
  obtain ⟨xs, h1, h5⟩ := h
  exact InNL.of hg h5 hn
 | .fn f cs, v, h, hn => by
  simp only [Rel] at h
  simp only [InN] at hn
  obtain ⟨xs, h1, h5⟩ := h
  exact InNL.of hg h5 hn
 | .int _ _, _, _, hn => by simp [InN] at hn
 | .bool _, _, _, hn => by simp [InN] at hn
 | .str _, _, _, hn => by simp [InN] at hn
 | .nil, _, _, hn => by simp [InN] at hn
 | .ref _, _, _, hn => by simp [InN] at hn
 | .ptr _ _, _, _, hn => by simp [InN] at hn
 | .own _ _ _ _, _, _, hn => by simp [InN] at hn
 | .top, _, _, hn => by simp [InN] at hn
theorem InNL.of {Z : Nat → Prop} {μ : List Value} {u : Value} {g : Nat} (hg : blk u = some g) : ∀ {cs : List AV} {vs : List Value}, RelL w Z μ cs vs → InNL u cs → g < w.heap.size ∧ ¬ Z g
 | [], _, _, hn => by simp [InNL] at hn
 | c :: cs, _, h, hn => by
  simp only [RelL] at h
  simp only [InNL] at hn
  obtain ⟨x, xs, rfl, h1, h2⟩ := h
  rcases hn with hn | hn
  ·exact InN.of hg h1 hn
  ·exact InNL.of hg h2 hn
end
end
theorem ownsRow_from {w : World} {B B' e s n : Nat} {v : Value} {xs : List Value} (h : w.ownsRow B e s v n xs) (hg : ∀ g, blk v = some g → B' ≤ g) : w.ownsRow B' e s v n xs := by
 refine ⟨h.1, h.2.imp id ?_⟩
 rintro ⟨g, cap, cur, h1, h2, h3⟩
 exact ⟨g, cap, cur, h1, hg g (by rw [h1]; rfl), h3⟩

def SubE {ι : Type} (st : St) (st' : ι → St) (Φ : ι → Prop) : Prop := ∀ (Z0 : Nat → Prop) (w0 : World) (a : Act) (w : World), Sim Z0 w0 st a w → ∃ x, Φ x ∧ Sim Z0 w0 (st' x) a w
section
variable {rd : Option Nat} {P : Program} {m : M} {Q : Exit → St → Prop}
theorem R.subE {ι : Type} (st' : ι → St) (Φ : ι → Prop) (h : subOk m = true) (hs : SubE m.st st' Φ) (h' : ∀ x, Φ x → Runs rd P ⟨m.ks, st' x⟩ Q) : Runs rd P m Q := by
 obtain ⟨ks, st⟩ := m
 unfold subOk at h
 simp only [runs_iff] at h' ⊢
 try simp only at h hs h' ⊢
 split at h
 ·intro Z0 w0 a w hS
  obtain ⟨x, hx, hS'⟩ := hs Z0 w0 a w hS
  exact h' x hx Z0 w0 a w hS'
 ·intro _ Z0 w0 a w hS
  obtain ⟨x, hx, hS'⟩ := hs Z0 w0 a w hS
  exact h' x hx headW_false Z0 w0 a w hS'
 ·intro Z0 w0 a w hS
  obtain ⟨x, hx, hS'⟩ := hs Z0 w0 a w hS
  exact h' x hx Z0 w0 a w hS'
 ·cases h
end

def InS (u : Value) (st : St) : Prop := InNL u st.fr ∨ ∃ (j : Nat) (o : AObj), st.hp[j]? = some o ∧ InNL u o.cells
theorem InS.of {w : World} {Z : Nat → Prop} {B : Nat} {μ : List Value} {st : St} {vs : List Value} {u : Value} {g : Nat} (hH : HRel w Z B μ st.hp) (hF : RelL w Z μ st.fr vs) (hg : blk u = some g) (h : InS u st) : g < w.heap.size ∧ ¬ Z g := by
 rcases h with h | ⟨j, o, ho, h⟩
 ·exact InNL.of hg hF h
 ·have hjl : j < μ.length := by rw [hH.len]; exact (List.getElem?_eq_some_iff.1 ho).1
  obtain ⟨xs, hx, _⟩ := obj_cells (hH.obj j o _ ho (List.getElem?_eq_getElem hjl))
  exact InNL.of hg hx h
section
variable {rd : Option Nat} {P : Program} {m : M} {Q : Exit → St → Prop}
end


section
variable {rd : Option Nat} {P : Program} {m : M} {Q : Exit → St → Prop}
end

mutual
def nameable : AV → Bool
 | .lst _ _ cs => nameableL cs
 | .agg cs => nameableL cs
 | .int _ _ => true
 | .bool _ => true
 | .nil => true
 | .nam _ _ _ _ _ => false
 | .clp _ _ _ => false
 | .rptr _ => false
 | .tup _ => false
 | .fn _ _ => false
 | .str _ => true
 | .ref _ => false
 | .ptr _ _ => false
 | .own _ _ _ _ => false
 | .top => true
def nameableL : List AV → Bool
 | [] => true
 | c :: cs => nameable c && nameableL cs
end
structure ByN (c' c : AV) : Prop where
 leafy : c'.leafy = true
 raw : NoRaw c' = true
 fgt : ∀ (w : World) (Z : Nat → Prop) v, Rel w Z [] c' v → Rel w Z [] c v
structure ByNL (c' c : List AV) : Prop where
 leafy : leafyL c' = true
 raw : NoRawL c' = true
 fgt : ∀ (w : World) (Z : Nat → Prop) v, RelL w Z [] c' v → RelL w Z [] c v
mutual
theorem name_of {w : World} {Z : Nat → Prop} : ∀ {c : AV} {v : Value}, nameable c = true → Rel w Z [] c v → ∃ c', ByN c' c ∧ Rel w Z [] c' v
 | .lst s n cs, v, h, hr => by
  simp only [nameable] at h
  simp only [Rel] at hr
  obtain ⟨A, c, xs, h1, h2, h3, h4, h5⟩ := hr
  obtain ⟨cs', ⟨k1, k2, k3⟩, k4⟩ := nameL_of h h5
  refine ⟨.nam v none s n cs', ⟨rfl, by simpa [NoRaw] using k2, fun w Z x hx => ?_⟩, ?_⟩
  ·simp only [Rel] at hx ⊢
   obtain ⟨_, A, c, xs', e1, e2, e3, e4, e5⟩ := hx
   exact ⟨A, c, xs', e1, by rw [← h2, ← h5.length, k4.length, e2, ← e2, ← k4.length, h5.length, h2] , e3, e4, k3 _ _ _ e5⟩
  ·simp only [Rel]
   exact ⟨⟨trivial, fun e he => by cases he⟩, A, c, xs, h1, by rw [← k4.length, h5.length, h2], h3, h4, k4⟩
 | .agg cs, v, h, hr => by
  simp only [nameable] at h
  simp only [Rel] at hr
  obtain ⟨xs, h1, h5⟩ := hr
  obtain ⟨cs', ⟨k1, k2, k3⟩, k4⟩ := nameL_of h h5
  refine ⟨.agg cs', ⟨by simpa [AV.leafy] using k1, by simpa [NoRaw] using k2, fun w Z x hx => ?_⟩, ?_⟩
  ·simp only [Rel] at hx ⊢
   obtain ⟨xs', e1, e5⟩ := hx
   exact ⟨xs', e1, k3 _ _ _ e5⟩
  ·simp only [Rel]
   exact ⟨xs, h1, k4⟩
 | .int k n, v, _, hr => ⟨.int k n, ⟨rfl, rfl, fun _ _ _ h => h⟩, hr⟩
 | .bool b, v, _, hr => ⟨.bool b, ⟨rfl, rfl, fun _ _ _ h => h⟩, hr⟩
 | .str b, v, _, hr => ⟨.str b, ⟨rfl, rfl, fun _ _ _ h => h⟩, hr⟩
 | .nil, v, _, hr => ⟨.nil, ⟨rfl, rfl, fun _ _ _ h => h⟩, hr⟩
 | .top, v, _, hr => ⟨.top, ⟨rfl, rfl, fun _ _ _ h => h⟩, hr⟩
 | .nam _ _ _ _ _, _, h, _ => by simp [nameable] at h
 | .clp _ _ _, _, h, _ => by simp [nameable] at h
 | .rptr _, _, h, _ => by simp [nameable] at h
 | .tup _, _, h, _ => by simp [nameable] at h
 | .fn _ _, _, h, _ => by simp [nameable] at h
 | .ref _, _, h, _ => by simp [nameable] at h
 | .ptr _ _, _, h, _ => by simp [nameable] at h
 | .own _ _ _ _, _, h, _ => by simp [nameable] at h
theorem nameL_of {w : World} {Z : Nat → Prop} : ∀ {c : List AV} {v : List Value}, nameableL c = true → RelL w Z [] c v → ∃ c', ByNL c' c ∧ RelL w Z [] c' v
 | [], v, _, hr => ⟨[], ⟨rfl, rfl, fun _ _ _ h => h⟩, hr⟩
 | c :: cs, v, h, hr => by
  simp only [nameableL, Bool.and_eq_true] at h
  simp only [RelL] at hr
  obtain ⟨x, xs, rfl, h1, h2⟩ := hr
  obtain ⟨c', ⟨k1, k2, k3⟩, k4⟩ := name_of h.1 h1
  obtain ⟨cs', ⟨l1, l2, l3⟩, l4⟩ := nameL_of h.2 h2
  refine ⟨c' :: cs', ⟨by simp [leafyL, k1, l1], by simp [NoRawL, k2, l2], fun w Z v hv => ?_⟩, RelL.cons k4 l4⟩
  simp only [RelL] at hv ⊢
  obtain ⟨x, xs, e1, e2, e3⟩ := hv
  exact ⟨x, xs, e1, k3 _ _ _ e2, l3 _ _ _ e3⟩
end
theorem SubE.name (t : Nat) (c : AV) (st : St) (ht : st.fr[t]? = some c) (hn : nameable c = true) (hl : c.leafy = true) : SubE st (fun c' => ⟨st.fr.set t c', st.hp⟩) (fun c' => ByN c' c) := by
 rintro Z0 w0 a w ⟨μ, F, hFb, hH, hF, hd, hb⟩
 obtain ⟨x, hx, hr⟩ := hF.get ht
 obtain ⟨c', h1, h2⟩ := name_of hn (Rel.leafy hl hr)
 refine ⟨c', h1, μ, F, hFb, hH, ?_, hd, hb⟩
 have h3 := hF.set t h2.lift
 rwa [show a.tmps.toList.set t x = a.tmps.toList by
  apply List.ext_getElem?
  intro i
  by_cases hi : i = t
  ·subst hi; rw [List.getElem?_set_self (List.getElem?_eq_some_iff.1 hx).1, hx]
  ·rw [List.getElem?_set_ne (Ne.symm hi)]] at h3
section
variable {rd : Option Nat} {P : Program} {m : M} {Q : Exit → St → Prop}
theorem R.name (t : Nat) (c : AV) (h : subOk m = true) (ht : m.st.fr[t]? = some c) (hn : nameable c = true) (hl : c.leafy = true) (h' : ∀ c', ByN c' c → Runs rd P ⟨m.ks, ⟨m.st.fr.set t c', m.st.hp⟩⟩ Q) : Runs rd P m Q :=
 R.subE _ _ h (SubE.name t c m.st ht hn hl) h'
end
end Go.Abs

/-! Calls of which is told that there is a result with some facts, which may speak of the first block that the call made; calls by value whose arguments are told less of. -/
namespace Go.Abs
open Go.RowKit
def CallE (P : Program) (f : FuncId) (args : List AV) (Φ : Nat → AV → Prop) : Prop :=
 Enters P f ∧ ∀ (Z0 : Nat → Prop) (w : World) (vs : List Value), RelL w (Zone Z0 NoF w.heap.size) [] args vs →
  Calls P f vs.toArray w fun e w' => ∃ res v bs F', Φ w.heap.size res ∧ e = .returned v ∧ (∀ b, F' b → w.heap.size ≤ b ∧ b < w'.heap.size) ∧ RF w' (Zone Z0 F' w.heap.size) w.heap.size res v bs ∧ bs.Nodup ∧ (∀ b ∈ bs, ¬ F' b) ∧ Below w.heap.size w w'
theorem CallE.mono {P : Program} {f : FuncId} {args : List AV} {Φ Ψ : Nat → AV → Prop} (h : CallE P f args Φ) (h' : ∀ b r, Φ b r → Ψ b r) : CallE P f args Ψ := by
 refine ⟨h.1, fun Z0 w vs hvs => (h.2 Z0 w vs hvs).mono ?_⟩
 rintro e w' ⟨r, v, bs, F', hr, h⟩
 exact ⟨r, v, bs, F', h' _ _ hr, h⟩
def resB (P : Program) (fn : Func) (st : St) : Option AV :=
 match st.hp[0]? with
 | some (AObj.inert (Inert.base _)) => if noMark st.hp then resOf P fn ⟨st.fr, st.hp.set 0 AObj.dead⟩ else none
 | _ => none
def retE (P : Program) (fn : Func) (b : Nat) (Φ : Nat → AV → Prop) : Exit → St → Prop := fun e st' => (e = .normal ∨ e = .ret) ∧ ∃ res, Φ b res ∧ resB P fn st' = some res
theorem R.retB {P : Program} {m : M} {fn : Func} {b : Nat} {Φ : Nat → AV → Prop} (res : AV) (h : (edAt m).isSome = true) (hr : resB P fn m.st = some res) (hΦ : Φ b res) : Runs none P m (Go.Abs.retE P fn b Φ) :=
 R.fin h ⟨.inl rfl, res, hΦ, hr⟩ ⟨.inr rfl, res, hΦ, hr⟩
theorem CallE.of {P : Program} {f : FuncId} {fn : Func} {c : Code} {args : List AV} {Φ : Nat → AV → Prop} (hf : P.funcs[f]? = some fn) (hb : fn.body = some c) (hnm : (fn.name == "runtime.NumGoroutine") = false)
  (h : ∀ b, Runs none P ⟨[.code c], ⟨frameOf fn.ntmps args, [.inert (.base b)]⟩⟩ (retE P fn b Φ)) : CallE P f args Φ := by
 refine ⟨enters_of hf hnm (by rw [hb]; rfl), ?_⟩
 intro Z0 w vs hvs
 have hlen := hvs.length
 refine callsIn_wide.1 (callsIn_of_wp_marks (F := Fence.wide) (n := 0) hf hb trivial ?_)
 have hS : Sim Z0 w ⟨args ++ List.replicate (fn.ntmps - args.length) .top, [.inert (.base w.heap.size)]⟩ { tmps := vs.toArray ++ Array.replicate (fn.ntmps - vs.toArray.size) undef, defers := [] } w := by
  have one : ∀ {i : Nat} {α : Type} {x y : α}, ([x] : List α)[i]? = some y → i = 0 ∧ y = x := by
   intro i α x y h
   cases i with
   | zero => simp at h; exact ⟨rfl, h.symm⟩
   | succ i => simp at h
  refine ⟨[.bool false], NoF, fun b h => h.elim, ⟨rfl, fun i o u g h1 h2 h3 hg => ?_, fun i u h => ?_, fun i o u h1 h2 => ?_, fun i j oi oj ui uj g hne h1 h2 => ?_⟩, ?_, .inl rfl, Below.refl _ _⟩
  ·obtain ⟨_, rfl⟩ := one h3
   cases hg
  ·obtain ⟨_, rfl⟩ := one h
   rfl
  ·obtain ⟨_, rfl⟩ := one h1
   obtain ⟨_, rfl⟩ := one h2
   exact ⟨rfl, rfl⟩
  ·exact absurd ((one h1).1.trans (one h2).1.symm) hne
  simp only [Array.toList_append, Array.toList_replicate, List.size_toArray, hlen]
  refine (RelL.lift hvs).append ?_
  generalize fn.ntmps - args.length = n
  induction n with
  | zero => exact RelL.nil
  | succ n ih => exact RelL.cons (by simp [Rel]) ih
 refine wpIn_mono ((h w.heap.size).out Z0 w _ w hS) ?_
 have fin : ∀ (st' : St) (a' : Act) (w' : World) res, Φ w.heap.size res → resB P fn st' = some res → Sim Z0 w st' a' w' → LeavesInM Fence.wide 0 P fn a'.tmps (fun e w'' => ∃ res v' bs F', Φ w.heap.size res ∧ e = .returned v' ∧ (∀ b, F' b → w.heap.size ≤ b ∧ b < w''.heap.size) ∧ RF w'' (Zone Z0 F' w.heap.size) w.heap.size res v' bs ∧ bs.Nodup ∧ (∀ b ∈ bs, ¬ F' b) ∧ Below w.heap.size w w'') a'.defers .returning w' := by
  rintro st' a' w' res hΦ hr ⟨μ, F, hFb, hH, hF, hd, hbel⟩
  unfold resB at hr
  split at hr
  ·rename_i b hb0
   split at hr
   ·rename_i hnm
    have hr := resOf_parts hr
    rw [hd.none hnm]
    obtain ⟨x, bs, h1, h2, h3, h4⟩ := resOf_run (st := ⟨st'.fr, st'.hp.set 0 .dead⟩) (hH.bury 0) hF hr.1
    have hge := RF.ge h2
    refine ⟨x, h1, res, x, bs, F, hΦ, rfl, hFb, h2, h3, fun b hb hf => ?_, hbel⟩
    have := hge b hb
    exact (h4 b hb).elim (fun h => absurd h.1 (by omega)) (fun h => h.2 hf)
   ·cases hr
  ·cases hr
 rintro e a' w' ⟨st', ⟨hq, res, hΦ, hr⟩, hS'⟩
 rcases hq with rfl | rfl
 ·exact fin st' a' w' res hΦ hr hS'
 ·exact fin st' a' w' res hΦ hr hS'

mutual
def ClosedN (b : Nat) : AV → Prop
 | .nam v _ _ _ cs => closedL cs = true ∧ ∀ g, blk v = some g → b ≤ g
 | .own _ _ _ cs => ClosedNL b cs
 | .agg cs => ClosedNL b cs
 | .tup cs => ClosedNL b cs
 | .int _ _ => True
 | .bool _ => True
 | .str _ => True
 | .nil => True
 | .top => True
 | .lst _ _ _ => False
 | .clp _ _ _ => False
 | .rptr _ => False
 | .fn _ _ => False
 | .ref _ => False
 | .ptr _ _ => False
def ClosedNL (b : Nat) : List AV → Prop
 | [] => True
 | c :: cs => ClosedN b c ∧ ClosedNL b cs
end
mutual
theorem Rel.shutN {w : World} {Z Z' : Nat → Prop} {b : Nat} (hz : ∀ g, b ≤ g → ¬ Z g → ¬ Z' g) : ∀ {c : AV} {v : Value}, ClosedN b c → Rel w Z [] c v → Rel w Z' [] c v
 | .nam u o s n cs, v, hc, h => by
  simp only [Rel] at h ⊢
  simp only [ClosedN] at hc
  obtain ⟨⟨rfl, h00⟩, A, c, xs, h1, h2, h3, h4, h5⟩ := h
  refine ⟨⟨rfl, fun e he => ?_⟩, A, c, xs, h1, h2, h3, fun hx => ?_, RelL.shut hc.1 h5⟩
  ·obtain ⟨ys, k1, k2⟩ := h00 e he
   exact ⟨ys, k1, fun g hg => hz g (hc.2 g hg) (k2 g hg)⟩
  ·obtain ⟨ad, rfl, k1, k2⟩ := h4 hx
   exact ⟨ad, rfl, hz _ (hc.2 _ (by rw [h1]; rfl)) k1, k2⟩
 | .agg cs, v, hc, h => by
  simp only [Rel] at h ⊢
  simp only [ClosedN] at hc
  obtain ⟨xs, h1, h2⟩ := h
  exact ⟨xs, h1, RelL.shutN hz hc h2⟩
 | .tup cs, v, hc, h => by
  simp only [Rel] at h ⊢
  simp only [ClosedN] at hc
  obtain ⟨xs, h1, h2⟩ := h
  exact ⟨xs, h1, RelL.shutN hz hc h2⟩
 | .int _ _, _, _, h => by simpa [Rel] using h
 | .bool _, _, _, h => by simpa [Rel] using h
 | .str _, _, _, h => by simpa [Rel] using h
 | .nil, _, _, h => by simpa [Rel] using h
 | .top, _, _, h => by simp [Rel]
 | .own _ _ _ _, _, _, h => by simp [Rel] at h
 | .lst _ _ _, _, hc, _ => by simp [ClosedN] at hc
 | .clp _ _ _, _, hc, _ => by simp [ClosedN] at hc
 | .rptr _, _, hc, _ => by simp [ClosedN] at hc
 | .fn _ _, _, hc, _ => by simp [ClosedN] at hc
 | .ref _, _, hc, _ => by simp [ClosedN] at hc
 | .ptr _ _, _, hc, _ => by simp [ClosedN] at hc
theorem RelL.shutN {w : World} {Z Z' : Nat → Prop} {b : Nat} (hz : ∀ g, b ≤ g → ¬ Z g → ¬ Z' g) : ∀ {cs : List AV} {vs : List Value}, ClosedNL b cs → RelL w Z [] cs vs → RelL w Z' [] cs vs
 | [], _, _, h => by simpa [RelL] using h
 | c :: cs, _, hc, h => by
  simp only [RelL] at h ⊢
  simp only [ClosedNL] at hc
  obtain ⟨x, xs, h1, h2, h3⟩ := h
  exact ⟨x, xs, h1, Rel.shutN hz hc.1 h2, RelL.shutN hz hc.2 h3⟩
end
mutual
theorem RF.shutN {w : World} {Z Z' : Nat → Prop} {b B' : Nat} (hB : B' ≤ b) (hz : ∀ g, b ≤ g → ¬ Z g → ¬ Z' g) : ∀ {c : AV} {v : Value} {bs : List Nat}, ClosedN b c → RF w Z b c v bs → RF w Z' B' c v bs
 | .own e s n cs, v, bs, hc, h => by
  simp only [RF] at h ⊢
  simp only [ClosedN] at hc
  obtain ⟨xs, h1, h2, h3⟩ := h
  exact ⟨xs, ownsRow_from h1 (fun g hg => by
   rcases h1.2 with ⟨rfl, _⟩ | ⟨g', cap, cur, rfl, k1, _⟩
   ·cases hg
   ·cases hg; exact Nat.le_trans hB k1), RelL.shutN hz hc h2, h3⟩
 | .agg cs, v, bs, hc, h => by
  simp only [RF] at h ⊢
  simp only [ClosedN] at hc
  obtain ⟨xs, h1, h2⟩ := h
  exact ⟨xs, h1, RFL.shutN hB hz hc h2⟩
 | .tup cs, v, bs, hc, h => by
  simp only [RF] at h ⊢
  simp only [ClosedN] at hc
  obtain ⟨xs, h1, h2⟩ := h
  exact ⟨xs, h1, RFL.shutN hB hz hc h2⟩
 | .nam u o s n cs, v, bs, hc, h => by
  simp only [RF] at h ⊢
  exact ⟨Rel.shutN hz hc h.1, h.2⟩
 | .int _ _, _, _, _, h => by simpa [RF] using h
 | .bool _, _, _, _, h => by simpa [RF] using h
 | .str _, _, _, _, h => by simpa [RF] using h
 | .nil, _, _, _, h => by simpa [RF] using h
 | .top, _, _, _, h => by simpa [RF] using h
 | .lst _ _ _, _, _, hc, _ => by simp [ClosedN] at hc
 | .clp _ _ _, _, _, hc, _ => by simp [ClosedN] at hc
 | .rptr _, _, _, hc, _ => by simp [ClosedN] at hc
 | .fn _ _, _, _, hc, _ => by simp [ClosedN] at hc
 | .ref _, _, _, hc, _ => by simp [ClosedN] at hc
 | .ptr _ _, _, _, hc, _ => by simp [ClosedN] at hc
theorem RFL.shutN {w : World} {Z Z' : Nat → Prop} {b B' : Nat} (hB : B' ≤ b) (hz : ∀ g, b ≤ g → ¬ Z g → ¬ Z' g) : ∀ {cs : List AV} {vs : List Value} {bs : List Nat}, ClosedNL b cs → RFL w Z b cs vs bs → RFL w Z' B' cs vs bs
 | [], _, _, _, h => by simpa [RFL] using h
 | c :: cs, _, _, hc, h => by
  simp only [RFL] at h ⊢
  simp only [ClosedNL] at hc
  obtain ⟨x, xs, b1, b2, h1, h2, h3, h4⟩ := h
  exact ⟨x, xs, b1, b2, h1, RF.shutN hB hz hc.1 h2, RFL.shutN hB hz hc.2 h3, h4⟩
end
theorem OpsQ.callE {rd : Option Nat} {P : Program} {all : Array Oper} {o : Oper} {l : List Oper} {fr : List AV} {hp : List AObj} {R : Exit → St → Prop} {c : Operand} {args : Array Operand} {tys : Array TypeId} {f : FuncId} {caps avs : List AV} {Φ : Nat → AV → Prop} (hw : WantedA all o fr)
  (hop : o.op = .call { callee := .value c, args := args, argTypes := tys }) (hc : ev fr c = .fn f caps) (hs : SnapL hp (args.toList.map (ev fr) ++ caps) avs) (hcall : CallE P f avs Φ) (hcl : ∀ b r, Φ b r → ClosedN b r) (hnm : noMark hp = true)
  (h' : ∀ b1, (∀ (k b : Nat), hp[k]? = some (.inert (.base b)) → b ≤ b1) → (∀ u, InS u ⟨fr, hp⟩ → ∀ g, blk u = some g → g < b1) → ∀ res, Φ b1 res → OpsQ rd P all l ⟨putF fr o.dst (imp hp.length res).1, hp ++ (imp hp.length res).2⟩ R) : OpsQ rd P all (o :: l) ⟨fr, hp⟩ R := by
 intro Z0 w0 a w hS
 refine wpListIn_step fun K hK => ?_
 obtain ⟨μ, F, hFb, hH, hF, hd, hb⟩ := hS
 rw [wanted_rel hF hw, if_pos rfl]
 have hB : w0.heap.size ≤ w.heap.size := hb.size
 have hE : ∀ y, Rel w (Zone Z0 F w0.heap.size) μ (ev fr y) (a.eval y) := fun y => ev_rel hF y
 have hcv := hc ▸ hE c
 simp only [Rel] at hcv
 obtain ⟨cv, hcv, hrc⟩ := hcv
 have hargs' : RelL w (Zone Z0 F w0.heap.size) μ (args.toList.map (ev fr)) (args.toList.map a.eval) := by
  generalize args.toList = l
  induction l with
  | nil => exact RelL.nil
  | cons x l ih => exact RelL.cons (hE x) ih
 have hall : RelL w (Zone (fun _ => False) NoF w.heap.size) [] avs (args.toList.map a.eval ++ cv) := RelL.weak (fun b hb hz hz2 => hz2.elim (fun h => h.2) (fun h => hz h.1)) (SnapL.sound hH hs (hargs'.append hrc))
 obtain ⟨hen, hcall⟩ := hcall
 have hC := hcall (fun _ => False) w _ hall
 have hrun : (execOp a.eval o).run P w = .ok (.enter f (args.toList.map a.eval ++ cv).toArray) w := by
  have e1 : (args.map a.eval ++ cv.toArray) = (args.toList.map a.eval ++ cv).toArray := by
   apply Array.toList_inj.1; simp
  simp only [execOp, hop, resolve, Deferred.ofValue, hcv, Sem.run_bind, Sem.run_pure, Result.andThen_ok, invoke, Array.empty_append]
  rw [e1]
  exact hen _ _
 refine wpIn_of_run (fun c' => by rw [hop]; simp) ?_
 rw [hrun]
 refine upon_enter hC ?_
 rintro en w' ⟨res, x, bs, F', hΦ, rfl, hF', hrf, hnd, hbf, hbel⟩
 have hrf2 : RF w' (Zone Z0 (fun b => F b ∨ F' b) w0.heap.size) w0.heap.size res x bs := RF.shutN hB (fun g hg hz hzz => hzz.elim (fun h => by omega) (fun h => h.2 (.inr (Classical.byContradiction fun hf => hz (.inr ⟨hg, hf⟩))))) (hcl _ _ hΦ) hrf
 obtain ⟨μs, ht, hr⟩ := imp_sound μ hp.length hH.len hrf2
 have hzo : ∀ b, b < w.heap.size → ¬ Zone Z0 F w0.heap.size b → ¬ Zone Z0 (fun b => F b ∨ F' b) w0.heap.size b := fun b _ hz => zone_more b hz
 refine ⟨x, rfl, hK _ _ (h' w.heap.size (fun k b hk => ?_) (fun u hu g hg => (InS.of hH hF hg hu).1) res hΦ Z0 w0 _ _ ⟨μ ++ μs, fun b => F b ∨ F' b, fun b hb => hb.elim (fun h => ⟨(hFb b h).1, Nat.lt_of_lt_of_le (hFb b h).2 hbel.size⟩) (fun h => ⟨Nat.le_trans hB (hF' b h).1, (hF' b h).2⟩), ?_, ?_, ?_, ?_⟩)⟩
 ·have hkl : k < μ.length := by rw [hH.len]; exact (List.getElem?_eq_some_iff.1 hk).1
  have h1 := hH.obj k _ _ hk (List.getElem?_eq_getElem hkl)
  obtain ⟨_, rfl⟩ := h1
  exact hB
 ·refine HRel.extend (bs := bs) (hH.weak hzo (fun b hb hz => ?_)) hbel ht (fun g hg => RF.ge hrf g hg) (fun g hg => ?_) hnd
  ·exact hz.elim .inl (fun h2 => .inr ⟨h2.1, fun hf => hf.elim h2.2 (fun h3 => absurd (hF' b h3).1 (by omega))⟩)
  ·have := RF.ge hrf g hg
   exact .inr ⟨by omega, fun hf => hf.elim (fun h3 => absurd (hFb g h3).2 (by omega)) (hbf g hg)⟩
 ·refine put_rel (RelL.keep (fun b h1 h2 => hbel.block b h1) (fun i u h => append_old i u h) (RelL.weak hzo hF)) _ hr
 ·rw [put_defers']
  exact .inl (hd.none hnm)
 ·exact hb.trans (hbel.mono hB)
section
variable {rd : Option Nat} {P : Program} {m : M} {Q : Exit → St → Prop}
theorem R.callE {f : FuncId} {avs0 avs : List AV} {Φ : Nat → AV → Prop} (hc : CallE P f avs Φ) (h : csAt m = some (f, avs0)) (hs : SnapL m.st.hp avs0 avs) (hcl : ∀ b r, Φ b r → ClosedN b r) (ht : opsHd m = true)
  (h' : ∀ b1, (∀ (k b : Nat), m.st.hp[k]? = some (.inert (.base b)) → b ≤ b1) → (∀ u, InS u m.st → ∀ g, blk u = some g → g < b1) → ∀ res, Φ b1 res → Runs rd P (putM m none (imp m.st.hp.length res).1 (m.st.hp ++ (imp m.st.hp.length res).2)) Q) : Runs rd P m Q := by
 have hnm := csAt_mark h
 obtain ⟨fo, args, tys, caps, hop, hf, rfl⟩ := csAt_parts h
 obtain ⟨ks, ⟨fr, hp⟩⟩ := m
 unfold opM headOf at hop
 unfold opsHd at ht
 unfold putM at h'
 simp only [runs_iff] at h' ⊢
 try simp only at hop ht h' hf hs hnm ⊢
 split at hop
 ·rename_i all o fl t heq
  split at hop
  ·rename_i hw
   simp only [Option.some.injEq] at hop
   split at heq
   ·cases heq
    intro hW
    exact OpsQ.callE (wantH_true hw hW) hop hf hs hc hcl hnm fun b1 h1 h2 res hΦ => h' b1 h1 h2 res hΦ headW_false
   ·simp at ht
   ·cases heq
  ·cases hop
 ·cases hop
end
end Go.Abs

/-! Rows of named rows; the rules for them; loops of few rounds. -/
namespace Go.Abs
open Go.RowKit
section
variable {α : Type} {E : α → List AV} {el s b : Nat} {L : List (Value × List α)} {v : Value}
structure NL (b : Nat) (L : List (Value × List α)) : Prop where
 nd : (L.filterMap fun x => blk x.1).Nodup
 ge : ∀ x ∈ L, ∀ g, blk x.1 = some g → b ≤ g
theorem NL.nil : NL b ([] : List (Value × List α)) := ⟨List.nodup_nil, fun x h => by simp at h⟩
theorem NL.mono {b' : Nat} (h : NL b L) (hb : b' ≤ b) : NL b' L := ⟨h.nd, fun x hx g hg => Nat.le_trans hb (h.ge x hx g hg)⟩
theorem NL.set (h : NL b L) (i : Nat) (d : Value × List α) (ys : List α) (hi : i < L.length) : NL b (L.set i ((L.getD i d).1, ys)) := by
 have e : (L.set i ((L.getD i d).1, ys)).map (fun x => x.1) = L.map fun x => x.1 := by
  apply List.ext_getElem?
  intro k
  simp only [List.getElem?_map, List.getElem?_set]
  split
  ·rename_i hk
   subst hk
   simp [hi, List.getD_eq_getElem?_getD]
  ·rfl
 have e2 : ∀ M : List (Value × List α), (M.filterMap fun x => blk x.1) = (M.map fun x => x.1).filterMap blk := fun M => by rw [List.filterMap_map]; rfl
 refine ⟨by rw [e2, e, ← e2]; exact h.nd, fun x hx g hg => ?_⟩
 have : x.1 ∈ L.map fun x => x.1 := by rw [← e]; exact List.mem_map_of_mem hx
 obtain ⟨y, hy, e3⟩ := List.mem_map.1 this
 exact h.ge y hy g (by rw [e3]; exact hg)
theorem NL.at (h : NL b L) (d : Value × List α) {i : Nat} (hi : i < L.length) : ∀ g, blk (L.getD i d).1 = some g → b ≤ g :=
 h.ge _ (List.mem_of_getElem? (i := i) (by simp [List.getD_eq_getElem?_getD, List.getElem?_eq_getElem hi]))
theorem closedN_int {k : IntKind} {n : Int} : ClosedN b (.int k n) := trivial
theorem closedN_tup {cs : List AV} (h : ClosedNL b cs) : ClosedN b (.tup cs) := by simpa [ClosedN] using h
theorem closedN_agg {cs : List AV} (h : ClosedNL b cs) : ClosedN b (.agg cs) := by simpa [ClosedN] using h
theorem closedNL_nil : ClosedNL b [] := trivial
theorem closedNL_cons {c : AV} {cs : List AV} (h : ClosedN b c) (h' : ClosedNL b cs) : ClosedNL b (c :: cs) := ⟨h, h'⟩
mutual
theorem closedN_of : ∀ {c : AV}, c.closed = true → ClosedN b c
 | .int _ _, _ => trivial
 | .bool _, _ => trivial
 | .str _, _ => trivial
 | .nil, _ => trivial
 | .top, _ => trivial
 | .own _ _ _ _, h => by simp only [ClosedN]; exact closedNL_of (by simpa [AV.closed] using h)
 | .agg cs, h => closedN_agg (closedNL_of (by simpa [AV.closed] using h))
 | .tup cs, h => closedN_tup (closedNL_of (by simpa [AV.closed] using h))
 | .lst _ _ _, h => by simp [AV.closed] at h
 | .clp _ _ _, h => by simp [AV.closed] at h
 | .nam _ _ _ _ _, h => by simp [AV.closed] at h
 | .rptr _, h => by simp [AV.closed] at h
 | .ref _, h => by simp [AV.closed] at h
 | .ptr _ _, h => by simp [AV.closed] at h
 | .fn _ _, h => by simp [AV.closed] at h
theorem closedNL_of : ∀ {cs : List AV}, closedL cs = true → ClosedNL b cs
 | [], _ => trivial
 | c :: cs, h => by
  simp only [closedL, Bool.and_eq_true] at h
  exact ⟨closedN_of h.1, closedNL_of h.2⟩
end
theorem closedN_ownC {e s : Nat} (xs : List α) (hE : ∀ x, closedL (E x) = true) : ClosedN b (ownA E e s xs) := closedN_of (ownA_closed hE e s xs)

end
section
variable {rd : Option Nat} {P : Program} {m : M} {Q : Exit → St → Prop} {α : Type}

def lpC (m : M) : Code :=
 match m.ks with
 | .code (.loop c) :: _ => c
 | _ => .skip
def lpK (m : M) : List Kont :=
 match m.ks with
 | .code (.loop _) :: ks => ks
 | _ => []
def isLp (m : M) : Bool :=
 match m.ks with
 | .code (.loop _) :: _ => true
 | _ => false
def Again (rd : Option Nat) (P : Program) (c : Code) (ks : List Kont) (Q : Exit → St → Prop) : Nat → (St → Prop) → Prop
 | 0, _ => True
 | n + 1, R => ∀ st, (∀ R', Again rd P c ks Q n R' → Runs rd P ⟨.code c :: .stop R' :: ks, st⟩ Q) → R st
def RK (rd : Option Nat) (P : Program) (c : Code) (ks : List Kont) (Q : Exit → St → Prop) : Nat → St → Prop
 | 0, _ => False
 | n + 1, st => Runs rd P ⟨.code c :: .stop (RK rd P c ks Q n) :: ks, st⟩ Q
theorem again_RK {c : Code} {ks : List Kont} : ∀ n, Again rd P c ks Q n (RK rd P c ks Q n)
 | 0 => trivial
 | n + 1 => fun _ h => h _ (again_RK n)
theorem R.rounds (n : Nat) (h : isLp m = true) (h' : ∀ R, Again rd P (lpC m) (lpK m) Q n R → Runs rd P ⟨.code (lpC m) :: .stop R :: lpK m, m.st⟩ Q) : Runs rd P m Q := by
 obtain ⟨ks0, st⟩ := m
 have h2 := h' _ (again_RK n)
 unfold isLp at h
 unfold lpC lpK at h2
 simp only at h h2
 split at h
 ·simp only at h2
  rw [runs_iff]
  simp only [RunsK]
  rename_i c ks
  refine RunA.loop (I := fun n st => RK rd P c ks Q n st) (n + 1) h2 (fun k st hk => ?_)
  cases k with
  | zero => exact hk.elim
  | succ k =>
   have h1 := hk.out
   simp only [RunsK] at h1
   refine h1.mono fun e st' hq => ?_
   cases e with
   | normal => exact ⟨st', Sub.refl _, k, Nat.lt_succ_self _, hq⟩
   | ret => exact hq
   | exit id => exact hq
   | goto l => exact hq
   | panic ch => exact hq
   | outgrown => exact hq
 ·cases h
end
section
variable {rd : Option Nat} {P : Program} {m : M} {Q : Exit → St → Prop}
end
end Go.Abs

/-! Arrays: made, indexed, an element's address. -/
namespace Go.Abs
open Go.RowKit
section
variable {rd : Option Nat} {P : Program} {m : M} {Q : Exit → St → Prop}
def arrOp (P : Program) (m : M) : Option AV :=
 match opM m with
 | some (.index t x y) => match ev m.st.fr x, ev m.st.fr y, arrB P t with
  | .agg cs, .int _ j, some (n, _) => if 0 ≤ j ∧ j < n then cs[j.toNat]? else none
  | _, _, _ => none
 | some (.indexAddr t x y) => match ev m.st.fr x, ev m.st.fr y, arrB P t with
  | .ptr i o, .int _ j, some (n, _) => if 0 ≤ j ∧ j < n then some (.ptr i (o + j.toNat)) else none
  | _, _, _ => none
 | some (.build t parts) => match arrB P t, zeroB P t with
  | some _, some zs => (fillA (fun i => some (i * 1, 1)) zs (parts.toList.map fun x => (x.1, ev m.st.fr x.2))).map .agg
  | _, _ => none
 | _ => none
theorem R.arr (v : AV) (h : arrOp P m = some v) (ht : quiet0 m = true) (h' : Runs rd P (putM m none v m.st.hp) Q) : Runs rd P m Q := by
 unfold arrOp at h
 split at h
 ·rename_i t x y hop
  split at h
  ·rename_i cs k j n el hx hy ha
   split at h
   ·rename_i hc
    exact R.eff0 hop (.inl (.indexA cs k j n el hx hy ha hc.1 hc.2 h)) ht h'
   ·cases h
  ·cases h
 ·rename_i t x y hop
  split at h
  ·rename_i i o k j n el hx hy ha
   split at h
   ·rename_i hc
    cases h
    exact R.eff0 hop (.inl (.indexAddrA i o k j n el hx hy ha hc.1 hc.2)) ht h'
   ·cases h
  ·cases h
 ·rename_i t parts hop
  split at h
  ·rename_i p zs ha hz
   obtain ⟨n, el⟩ := p
   rw [Option.map_eq_some_iff] at h
   obtain ⟨cs, hf, rfl⟩ := h
   exact R.eff0 hop (.inl (.buildA n el zs cs ha hz hf)) ht h'
  ·cases h
 ·cases h
end
end Go.Abs

/-! Texts of any bytes: length, a byte, a part, order. -/
namespace Go.Abs
open Go.RowKit
def eY (s : ByteArray) : List AV := [.str s]
theorem eY_len (s : ByteArray) : (eY s).length = 1 := rfl
theorem eY_one (s : ByteArray) : (eY s).all AV.one = true := rfl
section
variable {rd : Option Nat} {P : Program} {m : M} {Q : Exit → St → Prop}
def sLen (P : Program) (m : M) : Option ByteArray :=
 match opM m with
 | some (.call { callee := .builtin .len, args := ⟨[x]⟩, argTypes := ⟨[t]⟩ }) => match P.underlying t, ev m.st.fr x with
  | some .string, .str s => some s
  | _, _ => none
 | _ => none
theorem R.sLen (s : ByteArray) (h : sLen P m = some s) (ht : quiet0 m = true) (h' : Runs rd P (putM m none (AI (s.size : Int)) m.st.hp) Q) : Runs rd P m Q := by
 unfold Go.Abs.sLen at h
 split at h
 ·rename_i x t hop
  split at h
  ·rename_i s1 hu hx
   cases h
   exact R.eff0 hop (.inl (.lenY _ hx hu)) ht h'
  ·cases h
 ·cases h
def sIdx (P : Program) (m : M) : Option (ByteArray × Int) :=
 match opM m with
 | some (.index t x y) => match P.underlying t, ev m.st.fr x, ev m.st.fr y with
  | some .string, .str s, .int _ j => some (s, j)
  | _, _, _ => none
 | _ => none
theorem R.sIdx (s : ByteArray) (j : Int) (h : sIdx P m = some (s, j)) (ht : quiet0 m = true) (h0 : 0 ≤ j) (h1 : j < (s.size : Int)) (h' : Runs rd P (putM m none (.int .u8 (byt s j.toNat)) m.st.hp) Q) : Runs rd P m Q := by
 unfold Go.Abs.sIdx at h
 split at h
 ·rename_i t x y hop
  split at h
  ·rename_i s1 k j1 hu hx hy
   cases h
   exact R.eff0 hop (.inl (.idxY _ k _ hx hy hu h0 h1)) ht h'
  ·cases h
 ·cases h
def sSub (P : Program) (m : M) : Option (ByteArray × Int × Int) :=
 match opM m with
 | some (.slice t x (some y) (some z) none) => match P.underlying t, ev m.st.fr x, ev m.st.fr y, ev m.st.fr z with
  | some .string, .str s, .int _ l, .int _ h => some (s, l, h)
  | _, _, _, _ => none
 | _ => none
theorem R.sSub (s : ByteArray) (l u : Int) (h : sSub P m = some (s, l, u)) (ht : quiet0 m = true) (h0 : 0 ≤ l) (h1 : l ≤ u) (h2 : u ≤ (s.size : Int)) (h' : Runs rd P (putM m none (.str (s.extract l.toNat u.toNat)) m.st.hp) Q) : Runs rd P m Q := by
 unfold Go.Abs.sSub at h
 split at h
 ·rename_i t x y z hop
  split at h
  ·rename_i s1 k l1 k2 u1 hu hx hy hz
   cases h
   exact R.eff0 hop (.inl (.subY _ k k2 _ _ hx hy hz hu h0 h1 h2)) ht h'
  ·cases h
 ·cases h
def sLt (m : M) : Option (Bool × ByteArray × ByteArray) :=
 match opM m with
 | some (.binOp .lss _ x y _) => match ev m.st.fr x, ev m.st.fr y with
  | .str a, .str b => some (false, a, b)
  | _, _ => none
 | some (.binOp .leq _ x y _) => match ev m.st.fr x, ev m.st.fr y with
  | .str a, .str b => some (true, a, b)
  | _, _ => none
 | _ => none
theorem R.sLt (q : Bool) (a b : ByteArray) (h : sLt m = some (q, a, b)) (ht : quiet0 m = true) (h' : Runs rd P (putM m none (.bool (ltY q a b)) m.st.hp) Q) : Runs rd P m Q := by
 unfold Go.Abs.sLt at h
 split at h
 ·rename_i t x y ty hop
  split at h
  ·rename_i a1 b1 hx hy
   cases h
   exact R.eff0 hop (.inl (.lssY _ _ hx hy)) ht h'
  ·cases h
 ·rename_i t x y ty hop
  split at h
  ·rename_i a1 b1 hx hy
   cases h
   exact R.eff0 hop (.inl (.leqY _ _ hx hy)) ht h'
  ·cases h
 ·cases h
end
end Go.Abs

/-! Calls that need no object of the caller's, beside any objects. -/
namespace Go.Abs
open Go.RowKit
theorem zone_two {Z0 F F1 : Nat → Prop} {B C : Nat} (hBC : B ≤ C) (hF : ∀ b, F b → B ≤ b ∧ b < C) (hF1 : ∀ b, F1 b → C ≤ b) (b : Nat) : Zone Z0 (fun b => F b ∨ F1 b) B b ↔ Zone (Zone Z0 F B) F1 C b := by
 unfold Zone
 constructor
 ·rintro (⟨h1, h2⟩ | ⟨h1, h2⟩)
  ·exact .inl ⟨by omega, .inl ⟨h1, h2⟩⟩
  ·rcases Nat.lt_or_ge b C with h | h
   ·exact .inl ⟨h, .inr ⟨h1, fun hf => h2 (.inl hf)⟩⟩
   ·exact .inr ⟨h, fun hf => h2 (.inr hf)⟩
 ·rintro (⟨h1, h2 | h2⟩ | ⟨h1, h2⟩)
  ·exact .inl h2
  ·refine .inr ⟨h2.1, ?_⟩
   rintro (hf | hf)
   ·exact h2.2 hf
   ·have := hF1 b hf; omega
  ·refine .inr ⟨by omega, ?_⟩
   rintro (hf | hf)
   ·have := hF b hf; omega
   ·exact h2 hf
section
variable {rd : Option Nat} {P : Program} {m : M} {Q : Exit → St → Prop}
theorem CallX.any {f : FuncId} {args : List AV} {Φ : AV → List AObj → Prop} (hp : List AObj) (hc : CallX P f args [] Φ) (hl : leafyL args = true) (hΦ : ∀ r h, Φ r h → h = []) : CallX P f args hp fun r h => h = hp ∧ Φ r [] := by
 obtain ⟨hen, hc⟩ := hc
 refine ⟨hen, ?_⟩
 intro Z0 F w0 w μ vs us fr hFb hH hvs hus hbel
 have hBC := hbel.size
 have zn : ∀ b, b < w.heap.size → (Zone (Zone Z0 F w0.heap.size) NoF w.heap.size b ↔ Zone Z0 F w0.heap.size b) := fun b hb => by
  unfold Zone NoF
  constructor
  ·rintro (h | h)
   ·exact h.2
   ·omega
  ·exact fun h => .inl ⟨hb, h⟩
 have hvs1 : RelL w (Zone (Zone Z0 F w0.heap.size) NoF w.heap.size) [] args vs := (RelL.leafy hl hvs).weak fun b hb h1 h2 => h1 ((zn b hb).1 h2)
 have h0 : HRel w (Zone (Zone Z0 F w0.heap.size) NoF w.heap.size) w.heap.size [] [] := ⟨rfl, fun i o u g h => by simp at h, fun i u h => by simp at h, fun i o u h => by simp at h, fun i j oi oj ui uj g _ h => by simp at h⟩
 refine (hc (Zone Z0 F w0.heap.size) NoF w w [] vs [] [] (fun b h => h.elim) h0 hvs1 RelL.nil (Below.refl _ _)).mono ?_
 rintro e w' ⟨v, μ', F1, res, hp', hΦ1, rfl, hF1, hH1, hres, _, hb1⟩
 have e1 := hΦ _ _ hΦ1
 subst e1
 have hm' : μ' = [] := List.eq_nil_of_length_eq_zero (by simpa using hH1.len)
 subst hm'
 have z2 := zone_two (Z0 := Z0) hBC hFb (fun b h => (hF1 b h).1)
 have hk : ∀ b, b < w.heap.size → w'.heap[b]? = w.heap[b]? := fun b hb => hb1.block b hb
 have hold : ∀ b, b < w'.heap.size → ¬ Zone Z0 F w0.heap.size b → ¬ Zone Z0 (fun b => F b ∨ F1 b) w0.heap.size b := by
  intro b _ h1 h2
  rcases Nat.lt_or_ge b w.heap.size with h | h
  ·rcases (z2 b).1 h2 with h3 | h3
   ·exact h1 h3.2
   ·omega
  ·exact h1 (.inr ⟨by omega, fun hf => by have := hFb b hf; omega⟩)
 refine ⟨v, μ, fun b => F b ∨ F1 b, res, hp, ⟨rfl, hΦ1⟩, rfl, ?_, ?_, ?_, ?_, hbel.trans (hb1.mono hBC)⟩
 ·rintro b (h | h)
  ·have := hFb b h; have := hb1.size; omega
  ·have := hF1 b h; omega
 ·refine ⟨hH.len, fun i o u g h1 ha h2 hg => ?_, hH.one, fun i o u h1 h2 => ?_, hH.sep⟩
  ·have hz := hH.zone i o u g h1 ha h2 hg
   have hlt := ((hH.obj i o u h1 h2).blk_ge ha hg).2
   exact (z2 g).2 (.inl ⟨hlt, hz⟩)
  ·have h3 := hH.obj i o u h1 h2
   cases ha : o.alive with
   | true => exact (h3.keep (w' := w') (fun b hb _ => hk b hb) (fun _ _ h => h) (fun g hg => hk g (h3.blk_ge ha hg).2)).weak hold
   | false => exact (h3.keep_dead (w' := w') (B' := w0.heap.size) (u' := u) (fun b hb _ => hk b hb) (fun _ _ h => h) ha).weak hold
 ·exact Rel.lift (hres.weak fun b _ h1 h2 => h1 ((z2 b).1 h2))
 ·exact (hus.keep (w' := w') (fun b hb _ => hk b hb) (fun _ _ h => h)).weak hold
theorem R.callX0 {f : FuncId} {avs : List AV} {Φ : AV → List AObj → Prop} (hc : CallX P f avs [] Φ) (hl : leafyL avs = true) (h0 : ∀ r h, Φ r h → h = []) (h : csAt m = some (f, avs)) (ht : opsHd m = true) (h' : ∀ res, Φ res [] → Runs rd P (putM m none res m.st.hp) Q) : Runs rd P m Q :=
 R.callX (hc.any m.st.hp hl h0) h rfl ht fun res hp' ⟨e, hΦ⟩ => by subst e; exact h' res hΦ
theorem k29 {f : FuncId} {avs : List AV} {Φ : AV → List AObj → Prop} (hc : CallX P f avs [] Φ) (h0 : ∀ r h, Φ r h → h = []) (h' : ∀ res, Φ res [] → Runs rd P (putM m none res m.st.hp) Q) (hl : leafyL avs = true := by kernel_rfl) (h : csAt m = some (f, avs) := by kernel_rfl) (ht : opsHd m = true := by kernel_rfl) : Runs rd P m Q := _root_.Go.Abs.R.callX0 hc hl h0 h ht h'
end
end Go.Abs
