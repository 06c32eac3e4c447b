/- Texts of the proof: E02, E05, M01, M02, R05. -/
import Derived.Test.YtpalghbfhgimkaaPartF

/-! Draws of formulas. -/
namespace Go.Proofs.Ytpalghbfhgimkaa
open Go.RowKit Go.Abs

theorem l02Pre_c (k : Int) (a : List (Int × Int)) (ha : a.length ≤ 1000000) : CallA Try.prog 96 [AI k, LN a] (ownA eN 86 2 ((k, 0) :: a)) := by
  refine CallA.of Try.func96 rfl (by kernel_rfl) ?_
  refine R.go 10 (R.app eN [(k, 0)] a 0 86 2 16 (by kernel_rfl) eN_one (by decide) (by first | omega | (simp <;> omega)) (by kernel_rfl) ?_)
  exact R.go 2 (R.retE (ownA eN 86 2 ([(k, 0)] ++ a)) (by kernel_rfl) (by kernel_rfl) (by first | (rfl) | (exfalso; omega)))

theorem drawX_c_r3 : ∀ (k : Nat) (c : List Int) (p : Nat) (h : Int) (size : Int) (vars : Int) (modal : Bool) (eo1 : Nat) (so1 : Nat) (no1 : Nat) (co1 : List AV) (eo2 : Nat) (so2 : Nat) (no2 : Nat) (co2 : List AV) (eo3 : Nat) (so3 : Nat) (no3 : Nat) (co3 : List AV) (hk : size.toNat = k) (hc : BY c) (hs : size ≤ 1000), CallX Try.prog 74 [.ptr 0 0, AI size, AI vars, .bool modal] [.box 98 [LB c, AI (p : Int), .int .u64 h], .list eo1 so1 no1 co1, .list eo2 so2 no2 co2, .list eo3 so3 no3 co3] (fun (resX : AV) (objX : List AObj) => ∃ r : List (Int × Int), ∃ p1 : Nat, ∃ h1 : Int, (((r.length : Int) ≤ size ∨ r.length ≤ 1) ∧ 1 ≤ r.length) ∧ resX = LN r ∧ objX = [.box 98 [LB c, AI (p1 : Int), .int .u64 h1], .list eo1 so1 no1 co1, .list eo2 so2 no2 co2, .list eo3 so3 no3 co3]) := by
  intro k
  induction k using Nat.strongRecOn with
  | _ k ih =>
  intro c p h size vars modal eo1 so1 no1 co1 eo2 so2 no2 co2 eo3 so3 no3 co3 hk hc hs
  refine CallX.dropE (CallX.ofF Try.func74 rfl (by kernel_rfl) ?_)
  intro usC frC hfC
  refine R.go 10 ?_
  by_cases c1 : size ≤ 2
  · refine R.skp (decide (size ≤ 2)) false (by kernel_rfl) (dT c1) (by kernel_rfl) ?_
    refine R.skp (decide (size ≤ 2)) false (by kernel_rfl) (dT c1) (by kernel_rfl) ?_
    refine R.skp (decide (size ≤ 2)) false (by kernel_rfl) (dT c1) (by kernel_rfl) ?_
    refine R.pick (decide (size ≤ 2)) true (by kernel_rfl) (dT c1) (by kernel_rfl) ?_
    refine R.go 6 (R.callX (CallX.inF 4 usC frC (nextX_c_r3 c p h 8 eo1 so1 no1 co1 eo2 so2 no2 co2 eo3 so3 no3 co3 hc) (Nat.le_of_ble_eq_true (by kernel_rfl)) (by kernel_rfl) (by kernel_rfl) (by rintro _ _ ⟨_, _, _, _, rfl, rfl⟩; exact Nat.le_of_ble_eq_true (by kernel_rfl))) (by kernel_rfl) (by kernel_rfl) (by kernel_rfl) ?_)
    rintro _ _ ⟨_, _, ⟨v_2, p1_3, h1_4, f5, rfl, rfl⟩, rfl, rfl⟩
    refine R.go 2 (R.cond (v_2 = 0) (by kernel_rfl) (fun c6 => ?_) (fun c6 => ?_))
    · refine R.go 2 (R.call true (l02False_c).frz (by kernel_rfl) rfl (by kernel_rfl) ?_)
      exact R.go 2 (R.retX (res := LN [(1, 0)]) (hp' := [.box 98 [LB c, AI (p1_3 : Int), .int .u64 h1_4], .list eo1 so1 no1 co1, .list eo2 so2 no2 co2, .list eo3 so3 no3 co3, .dead]) (by kernel_rfl) (by kernel_rfl) (by kernel_rfl) (by kernel_rfl) ⟨[0, 1, 2, 3], by kernel_rfl, by decide, [(1, 0)], p1_3, h1_4, by first | (simp; done) | (simp only [List.length_cons, List.length_append, List.length_nil]; omega), by kernel_rfl, by kernel_rfl⟩)
    · refine R.go 5 (R.callX (CallX.inF 4 usC frC (nextX_c_r3 c p1_3 h1_4 vars eo1 so1 no1 co1 eo2 so2 no2 co2 eo3 so3 no3 co3 hc) (Nat.le_of_ble_eq_true (by kernel_rfl)) (by kernel_rfl) (by kernel_rfl) (by rintro _ _ ⟨_, _, _, _, rfl, rfl⟩; exact Nat.le_of_ble_eq_true (by kernel_rfl))) (by kernel_rfl) (by kernel_rfl) (by kernel_rfl) ?_)
      rintro _ _ ⟨_, _, ⟨v_7, p1_8, h1_9, f10, rfl, rfl⟩, rfl, rfl⟩
      refine R.call true (l02Var_c v_7).frz (by kernel_rfl) rfl (by kernel_rfl) ?_
      exact R.go 2 (R.retX (res := LN [(0, v_7)]) (hp' := [.box 98 [LB c, AI (p1_8 : Int), .int .u64 h1_9], .list eo1 so1 no1 co1, .list eo2 so2 no2 co2, .list eo3 so3 no3 co3, .dead]) (by kernel_rfl) (by kernel_rfl) (by kernel_rfl) (by kernel_rfl) ⟨[0, 1, 2, 3], by kernel_rfl, by decide, [(0, v_7)], p1_8, h1_9, by first | (simp; done) | (simp only [List.length_cons, List.length_append, List.length_nil]; omega), by kernel_rfl, by kernel_rfl⟩)
  · refine R.want (decide (size ≤ 2)) false (by kernel_rfl) (dF c1) ?_
    refine R.go 1 (R.want (decide (size ≤ 2)) false (by kernel_rfl) (dF c1) ?_)
    refine R.callX (CallX.inF 4 usC frC (nextX_c_r3 c p h 9 eo1 so1 no1 co1 eo2 so2 no2 co2 eo3 so3 no3 co3 hc) (Nat.le_of_ble_eq_true (by kernel_rfl)) (by kernel_rfl) (by kernel_rfl) (by rintro _ _ ⟨_, _, _, _, rfl, rfl⟩; exact Nat.le_of_ble_eq_true (by kernel_rfl))) (by kernel_rfl) (by kernel_rfl) (by kernel_rfl) ?_
    rintro _ _ ⟨_, _, ⟨v_11, p1_12, h1_13, f14, rfl, rfl⟩, rfl, rfl⟩
    refine R.want (decide (size ≤ 2)) false (by kernel_rfl) (dF c1) ?_
    refine R.go 1 (R.pick (decide (size ≤ 2)) false (by kernel_rfl) (dF c1) (by kernel_rfl) ?_)
    refine R.go 1 (R.cond (v_11 = 0) (by kernel_rfl) (fun c15 => ?_) (fun c15 => ?_))
    · refine R.go 4 (R.callX (CallX.inF 4 usC frC (nextX_c_r3 c p1_12 h1_13 8 eo1 so1 no1 co1 eo2 so2 no2 co2 eo3 so3 no3 co3 hc) (Nat.le_of_ble_eq_true (by kernel_rfl)) (by kernel_rfl) (by kernel_rfl) (by rintro _ _ ⟨_, _, _, _, rfl, rfl⟩; exact Nat.le_of_ble_eq_true (by kernel_rfl))) (by kernel_rfl) (by kernel_rfl) (by kernel_rfl) ?_)
      rintro _ _ ⟨_, _, ⟨v_16, p1_17, h1_18, f19, rfl, rfl⟩, rfl, rfl⟩
      refine R.go 2 (R.cond (v_16 = 0) (by kernel_rfl) (fun c20 => ?_) (fun c20 => ?_))
      · refine R.go 2 (R.call true (l02False_c).frz (by kernel_rfl) rfl (by kernel_rfl) ?_)
        exact R.go 2 (R.retX (res := LN [(1, 0)]) (hp' := [.box 98 [LB c, AI (p1_17 : Int), .int .u64 h1_18], .list eo1 so1 no1 co1, .list eo2 so2 no2 co2, .list eo3 so3 no3 co3, .dead]) (by kernel_rfl) (by kernel_rfl) (by kernel_rfl) (by kernel_rfl) ⟨[0, 1, 2, 3], by kernel_rfl, by decide, [(1, 0)], p1_17, h1_18, by first | (simp; done) | (simp only [List.length_cons, List.length_append, List.length_nil]; omega), by kernel_rfl, by kernel_rfl⟩)
      · refine R.go 5 (R.callX (CallX.inF 4 usC frC (nextX_c_r3 c p1_17 h1_18 vars eo1 so1 no1 co1 eo2 so2 no2 co2 eo3 so3 no3 co3 hc) (Nat.le_of_ble_eq_true (by kernel_rfl)) (by kernel_rfl) (by kernel_rfl) (by rintro _ _ ⟨_, _, _, _, rfl, rfl⟩; exact Nat.le_of_ble_eq_true (by kernel_rfl))) (by kernel_rfl) (by kernel_rfl) (by kernel_rfl) ?_)
        rintro _ _ ⟨_, _, ⟨v_21, p1_22, h1_23, f24, rfl, rfl⟩, rfl, rfl⟩
        refine R.call true (l02Var_c v_21).frz (by kernel_rfl) rfl (by kernel_rfl) ?_
        exact R.go 2 (R.retX (res := LN [(0, v_21)]) (hp' := [.box 98 [LB c, AI (p1_22 : Int), .int .u64 h1_23], .list eo1 so1 no1 co1, .list eo2 so2 no2 co2, .list eo3 so3 no3 co3, .dead]) (by kernel_rfl) (by kernel_rfl) (by kernel_rfl) (by kernel_rfl) ⟨[0, 1, 2, 3], by kernel_rfl, by decide, [(0, v_21)], p1_22, h1_23, by first | (simp; done) | (simp only [List.length_cons, List.length_append, List.length_nil]; omega), by kernel_rfl, by kernel_rfl⟩)
    · refine R.go 6 ?_
      refine (Bool.eq_false_or_eq_true (modal)).elim (fun c25 => ?_) (fun c25 => ?_)
      · refine R.want (modal) true (by kernel_rfl) c25 ?_
        refine R.go 1 (R.want (modal) true (by kernel_rfl) c25 ?_)
        refine R.callX (CallX.inF 4 usC frC (nextX_c_r3 c p1_12 h1_13 3 eo1 so1 no1 co1 eo2 so2 no2 co2 eo3 so3 no3 co3 hc) (Nat.le_of_ble_eq_true (by kernel_rfl)) (by kernel_rfl) (by kernel_rfl) (by rintro _ _ ⟨_, _, _, _, rfl, rfl⟩; exact Nat.le_of_ble_eq_true (by kernel_rfl))) (by kernel_rfl) (by kernel_rfl) (by kernel_rfl) ?_
        rintro _ _ ⟨_, _, ⟨v_26, p1_27, h1_28, f29, rfl, rfl⟩, rfl, rfl⟩
        refine R.want (modal) true (by kernel_rfl) c25 ?_
        refine R.go 1 (R.pick (modal) true (by kernel_rfl) c25 (by kernel_rfl) ?_)
        refine R.go 1 (R.cond (v_26 = 0) (by kernel_rfl) (fun c30 => ?_) (fun c30 => ?_))
        · refine R.go 3 (R.callX (CallX.inF 4 usC frC (nextX_c_r3 c p1_27 h1_28 2 eo1 so1 no1 co1 eo2 so2 no2 co2 eo3 so3 no3 co3 hc) (Nat.le_of_ble_eq_true (by kernel_rfl)) (by kernel_rfl) (by kernel_rfl) (by rintro _ _ ⟨_, _, _, _, rfl, rfl⟩; exact Nat.le_of_ble_eq_true (by kernel_rfl))) (by kernel_rfl) (by kernel_rfl) (by kernel_rfl) ?_)
          rintro _ _ ⟨_, _, ⟨v_31, p1_32, h1_33, f34, rfl, rfl⟩, rfl, rfl⟩
          refine R.ar (5 + v_31) (by kernel_rfl) (by omega) (by omega) (by kernel_rfl) ?_
          refine R.go 2 (R.ar (size - 1) (by kernel_rfl) (by omega) (by omega) (by kernel_rfl) ?_)
          refine R.go 2 (R.callX (CallX.inF 4 usC frC (ih (((size - 1) : Int).toNat) (by omega) c p1_32 h1_33 (size - 1) vars modal eo1 so1 no1 co1 eo2 so2 no2 co2 eo3 so3 no3 co3 (by rfl) hc (by omega)) (Nat.le_of_ble_eq_true (by kernel_rfl)) (by kernel_rfl) (by kernel_rfl) (by rintro _ _ ⟨_, _, _, _, rfl, rfl⟩; exact Nat.le_of_ble_eq_true (by kernel_rfl))) (by kernel_rfl) (by kernel_rfl) (by kernel_rfl) ?_)
          rintro _ _ ⟨_, _, ⟨r_35, p1_36, h1_37, f38, rfl, rfl⟩, rfl, rfl⟩
          refine R.call true (l02Pre_c (5 + v_31) r_35 (by first | omega | (simp <;> omega))).frz (by kernel_rfl) rfl (by kernel_rfl) ?_
          exact R.go 2 (R.retX (res := LN (((5 + v_31), 0) :: r_35)) (hp' := [.box 98 [LB c, AI (p1_36 : Int), .int .u64 h1_37], .list eo1 so1 no1 co1, .list eo2 so2 no2 co2, .list eo3 so3 no3 co3, .dead]) (by kernel_rfl) (by kernel_rfl) (by kernel_rfl) (by kernel_rfl) ⟨[0, 1, 2, 3], by kernel_rfl, by decide, ((5 + v_31), 0) :: r_35, p1_36, h1_37, by first | (simp; done) | (simp only [List.length_cons, List.length_append, List.length_nil]; omega), by kernel_rfl, by kernel_rfl⟩)
        · refine R.go 5 (R.callX (CallX.inF 4 usC frC (nextX_c_r3 c p1_27 h1_28 6 eo1 so1 no1 co1 eo2 so2 no2 co2 eo3 so3 no3 co3 hc) (Nat.le_of_ble_eq_true (by kernel_rfl)) (by kernel_rfl) (by kernel_rfl) (by rintro _ _ ⟨_, _, _, _, rfl, rfl⟩; exact Nat.le_of_ble_eq_true (by kernel_rfl))) (by kernel_rfl) (by kernel_rfl) (by kernel_rfl) ?_)
          rintro _ _ ⟨_, _, ⟨v_39, p1_40, h1_41, f42, rfl, rfl⟩, rfl, rfl⟩
          refine R.go 2 (R.cond (v_39 = 0) (by kernel_rfl) (fun c43 => ?_) (fun c43 => ?_))
          · refine R.go 4 (R.ar (size - 2) (by kernel_rfl) (by omega) (by omega) (by kernel_rfl) ?_)
            refine R.go 2 (R.callX (CallX.inF 4 usC frC (ih (((size - 2) : Int).toNat) (by omega) c p1_40 h1_41 (size - 2) vars modal eo1 so1 no1 co1 eo2 so2 no2 co2 eo3 so3 no3 co3 (by rfl) hc (by omega)) (Nat.le_of_ble_eq_true (by kernel_rfl)) (by kernel_rfl) (by kernel_rfl) (by rintro _ _ ⟨_, _, _, _, rfl, rfl⟩; exact Nat.le_of_ble_eq_true (by kernel_rfl))) (by kernel_rfl) (by kernel_rfl) (by kernel_rfl) ?_)
            rintro _ _ ⟨_, _, ⟨r_44, p1_45, h1_46, f47, rfl, rfl⟩, rfl, rfl⟩
            refine R.call true (l02Not_c r_44 (by first | omega | (simp <;> omega))).frz (by kernel_rfl) rfl (by kernel_rfl) ?_
            exact R.go 2 (R.retX (res := LN ((4, 0) :: (r_44 ++ [(1, 0)]))) (hp' := [.box 98 [LB c, AI (p1_45 : Int), .int .u64 h1_46], .list eo1 so1 no1 co1, .list eo2 so2 no2 co2, .list eo3 so3 no3 co3, .dead]) (by kernel_rfl) (by kernel_rfl) (by kernel_rfl) (by kernel_rfl) ⟨[0, 1, 2, 3], by kernel_rfl, by decide, (4, 0) :: (r_44 ++ [(1, 0)]), p1_45, h1_46, by first | (simp; done) | (simp only [List.length_cons, List.length_append, List.length_nil]; omega), by kernel_rfl, by kernel_rfl⟩)
          · refine R.go 5 (R.ar (size - 2) (by kernel_rfl) (by omega) (by omega) (by kernel_rfl) ?_)
            refine R.callX (CallX.inF 4 usC frC (nextX_c_r3 c p1_40 h1_41 (size - 2) eo1 so1 no1 co1 eo2 so2 no2 co2 eo3 so3 no3 co3 hc) (Nat.le_of_ble_eq_true (by kernel_rfl)) (by kernel_rfl) (by kernel_rfl) (by rintro _ _ ⟨_, _, _, _, rfl, rfl⟩; exact Nat.le_of_ble_eq_true (by kernel_rfl))) (by kernel_rfl) (by kernel_rfl) (by kernel_rfl) ?_
            rintro _ _ ⟨_, _, ⟨v_48, p1_49, h1_50, f51, rfl, rfl⟩, rfl, rfl⟩
            refine R.ar (1 + v_48) (by kernel_rfl) (by omega) (by omega) (by kernel_rfl) ?_
            refine R.go 8 (R.callX (CallX.inF 4 usC frC (ih (((1 + v_48) : Int).toNat) (by omega) c p1_49 h1_50 (1 + v_48) vars modal eo1 so1 no1 co1 eo2 so2 no2 co2 eo3 so3 no3 co3 (by rfl) hc (by omega)) (Nat.le_of_ble_eq_true (by kernel_rfl)) (by kernel_rfl) (by kernel_rfl) (by rintro _ _ ⟨_, _, _, _, rfl, rfl⟩; exact Nat.le_of_ble_eq_true (by kernel_rfl))) (by kernel_rfl) (by kernel_rfl) (by kernel_rfl) ?_)
            rintro _ _ ⟨_, _, ⟨r_52, p1_53, h1_54, f55, rfl, rfl⟩, rfl, rfl⟩
            refine R.go 5 (R.callX (CallX.inF 4 usC frC (nextX_c_r3 c p1_53 h1_54 3 eo1 so1 no1 co1 eo2 so2 no2 co2 eo3 so3 no3 co3 hc) (Nat.le_of_ble_eq_true (by kernel_rfl)) (by kernel_rfl) (by kernel_rfl) (by rintro _ _ ⟨_, _, _, _, rfl, rfl⟩; exact Nat.le_of_ble_eq_true (by kernel_rfl))) (by kernel_rfl) (by kernel_rfl) (by kernel_rfl) ?_)
            rintro _ _ ⟨_, _, ⟨v_56, p1_57, h1_58, f59, rfl, rfl⟩, rfl, rfl⟩
            refine R.ar (2 + v_56) (by kernel_rfl) (by omega) (by omega) (by kernel_rfl) ?_
            refine R.go 3 (R.ar (size - 1) (by kernel_rfl) (by omega) (by omega) (by kernel_rfl) ?_)
            refine R.go 1 (R.ar ((size - 1) - (1 + v_48)) (by kernel_rfl) (by omega) (by omega) (by kernel_rfl) ?_)
            refine R.go 2 (R.callX (CallX.inF 4 usC frC (ih ((((size - 1) - (1 + v_48)) : Int).toNat) (by omega) c p1_57 h1_58 ((size - 1) - (1 + v_48)) vars modal eo1 so1 no1 co1 eo2 so2 no2 co2 eo3 so3 no3 co3 (by rfl) hc (by omega)) (Nat.le_of_ble_eq_true (by kernel_rfl)) (by kernel_rfl) (by kernel_rfl) (by rintro _ _ ⟨_, _, _, _, rfl, rfl⟩; exact Nat.le_of_ble_eq_true (by kernel_rfl))) (by kernel_rfl) (by kernel_rfl) (by kernel_rfl) ?_)
            rintro _ _ ⟨_, _, ⟨r_60, p1_61, h1_62, f63, rfl, rfl⟩, rfl, rfl⟩
            refine R.call true (l02Pair_c (2 + v_56) r_52 r_60 (by first | omega | (simp <;> omega)) (by first | omega | (simp <;> omega))).frz (by kernel_rfl) rfl (by kernel_rfl) ?_
            exact R.go 2 (R.retX (res := LN (((2 + v_56), 0) :: (r_52 ++ r_60))) (hp' := [.box 98 [LB c, AI (p1_61 : Int), .int .u64 h1_62], .list eo1 so1 no1 co1, .list eo2 so2 no2 co2, .list eo3 so3 no3 co3, .dead]) (by kernel_rfl) (by kernel_rfl) (by kernel_rfl) (by kernel_rfl) ⟨[0, 1, 2, 3], by kernel_rfl, by decide, ((2 + v_56), 0) :: (r_52 ++ r_60), p1_61, h1_62, by first | (simp; done) | (simp only [List.length_cons, List.length_append, List.length_nil]; omega), by kernel_rfl, by kernel_rfl⟩)
      · refine R.skp (modal) true (by kernel_rfl) c25 (by kernel_rfl) ?_
        refine R.skp (modal) true (by kernel_rfl) c25 (by kernel_rfl) ?_
        refine R.skp (modal) true (by kernel_rfl) c25 (by kernel_rfl) ?_
        refine R.pick (modal) false (by kernel_rfl) c25 (by kernel_rfl) ?_
        refine R.go 7 (R.callX (CallX.inF 4 usC frC (nextX_c_r3 c p1_12 h1_13 6 eo1 so1 no1 co1 eo2 so2 no2 co2 eo3 so3 no3 co3 hc) (Nat.le_of_ble_eq_true (by kernel_rfl)) (by kernel_rfl) (by kernel_rfl) (by rintro _ _ ⟨_, _, _, _, rfl, rfl⟩; exact Nat.le_of_ble_eq_true (by kernel_rfl))) (by kernel_rfl) (by kernel_rfl) (by kernel_rfl) ?_)
        rintro _ _ ⟨_, _, ⟨v_64, p1_65, h1_66, f67, rfl, rfl⟩, rfl, rfl⟩
        refine R.go 2 (R.cond (v_64 = 0) (by kernel_rfl) (fun c68 => ?_) (fun c68 => ?_))
        · refine R.go 4 (R.ar (size - 2) (by kernel_rfl) (by omega) (by omega) (by kernel_rfl) ?_)
          refine R.go 2 (R.callX (CallX.inF 4 usC frC (ih (((size - 2) : Int).toNat) (by omega) c p1_65 h1_66 (size - 2) vars modal eo1 so1 no1 co1 eo2 so2 no2 co2 eo3 so3 no3 co3 (by rfl) hc (by omega)) (Nat.le_of_ble_eq_true (by kernel_rfl)) (by kernel_rfl) (by kernel_rfl) (by rintro _ _ ⟨_, _, _, _, rfl, rfl⟩; exact Nat.le_of_ble_eq_true (by kernel_rfl))) (by kernel_rfl) (by kernel_rfl) (by kernel_rfl) ?_)
          rintro _ _ ⟨_, _, ⟨r_69, p1_70, h1_71, f72, rfl, rfl⟩, rfl, rfl⟩
          refine R.call true (l02Not_c r_69 (by first | omega | (simp <;> omega))).frz (by kernel_rfl) rfl (by kernel_rfl) ?_
          exact R.go 2 (R.retX (res := LN ((4, 0) :: (r_69 ++ [(1, 0)]))) (hp' := [.box 98 [LB c, AI (p1_70 : Int), .int .u64 h1_71], .list eo1 so1 no1 co1, .list eo2 so2 no2 co2, .list eo3 so3 no3 co3, .dead]) (by kernel_rfl) (by kernel_rfl) (by kernel_rfl) (by kernel_rfl) ⟨[0, 1, 2, 3], by kernel_rfl, by decide, (4, 0) :: (r_69 ++ [(1, 0)]), p1_70, h1_71, by first | (simp; done) | (simp only [List.length_cons, List.length_append, List.length_nil]; omega), by kernel_rfl, by kernel_rfl⟩)
        · refine R.go 5 (R.ar (size - 2) (by kernel_rfl) (by omega) (by omega) (by kernel_rfl) ?_)
          refine R.callX (CallX.inF 4 usC frC (nextX_c_r3 c p1_65 h1_66 (size - 2) eo1 so1 no1 co1 eo2 so2 no2 co2 eo3 so3 no3 co3 hc) (Nat.le_of_ble_eq_true (by kernel_rfl)) (by kernel_rfl) (by kernel_rfl) (by rintro _ _ ⟨_, _, _, _, rfl, rfl⟩; exact Nat.le_of_ble_eq_true (by kernel_rfl))) (by kernel_rfl) (by kernel_rfl) (by kernel_rfl) ?_
          rintro _ _ ⟨_, _, ⟨v_73, p1_74, h1_75, f76, rfl, rfl⟩, rfl, rfl⟩
          refine R.ar (1 + v_73) (by kernel_rfl) (by omega) (by omega) (by kernel_rfl) ?_
          refine R.go 8 (R.callX (CallX.inF 4 usC frC (ih (((1 + v_73) : Int).toNat) (by omega) c p1_74 h1_75 (1 + v_73) vars modal eo1 so1 no1 co1 eo2 so2 no2 co2 eo3 so3 no3 co3 (by rfl) hc (by omega)) (Nat.le_of_ble_eq_true (by kernel_rfl)) (by kernel_rfl) (by kernel_rfl) (by rintro _ _ ⟨_, _, _, _, rfl, rfl⟩; exact Nat.le_of_ble_eq_true (by kernel_rfl))) (by kernel_rfl) (by kernel_rfl) (by kernel_rfl) ?_)
          rintro _ _ ⟨_, _, ⟨r_77, p1_78, h1_79, f80, rfl, rfl⟩, rfl, rfl⟩
          refine R.go 5 (R.callX (CallX.inF 4 usC frC (nextX_c_r3 c p1_78 h1_79 3 eo1 so1 no1 co1 eo2 so2 no2 co2 eo3 so3 no3 co3 hc) (Nat.le_of_ble_eq_true (by kernel_rfl)) (by kernel_rfl) (by kernel_rfl) (by rintro _ _ ⟨_, _, _, _, rfl, rfl⟩; exact Nat.le_of_ble_eq_true (by kernel_rfl))) (by kernel_rfl) (by kernel_rfl) (by kernel_rfl) ?_)
          rintro _ _ ⟨_, _, ⟨v_81, p1_82, h1_83, f84, rfl, rfl⟩, rfl, rfl⟩
          refine R.ar (2 + v_81) (by kernel_rfl) (by omega) (by omega) (by kernel_rfl) ?_
          refine R.go 3 (R.ar (size - 1) (by kernel_rfl) (by omega) (by omega) (by kernel_rfl) ?_)
          refine R.go 1 (R.ar ((size - 1) - (1 + v_73)) (by kernel_rfl) (by omega) (by omega) (by kernel_rfl) ?_)
          refine R.go 2 (R.callX (CallX.inF 4 usC frC (ih ((((size - 1) - (1 + v_73)) : Int).toNat) (by omega) c p1_82 h1_83 ((size - 1) - (1 + v_73)) vars modal eo1 so1 no1 co1 eo2 so2 no2 co2 eo3 so3 no3 co3 (by rfl) hc (by omega)) (Nat.le_of_ble_eq_true (by kernel_rfl)) (by kernel_rfl) (by kernel_rfl) (by rintro _ _ ⟨_, _, _, _, rfl, rfl⟩; exact Nat.le_of_ble_eq_true (by kernel_rfl))) (by kernel_rfl) (by kernel_rfl) (by kernel_rfl) ?_)
          rintro _ _ ⟨_, _, ⟨r_85, p1_86, h1_87, f88, rfl, rfl⟩, rfl, rfl⟩
          refine R.call true (l02Pair_c (2 + v_81) r_77 r_85 (by first | omega | (simp <;> omega)) (by first | omega | (simp <;> omega))).frz (by kernel_rfl) rfl (by kernel_rfl) ?_
          exact R.go 2 (R.retX (res := LN (((2 + v_81), 0) :: (r_77 ++ r_85))) (hp' := [.box 98 [LB c, AI (p1_86 : Int), .int .u64 h1_87], .list eo1 so1 no1 co1, .list eo2 so2 no2 co2, .list eo3 so3 no3 co3, .dead]) (by kernel_rfl) (by kernel_rfl) (by kernel_rfl) (by kernel_rfl) ⟨[0, 1, 2, 3], by kernel_rfl, by decide, ((2 + v_81), 0) :: (r_77 ++ r_85), p1_86, h1_87, by first | (simp; done) | (simp only [List.length_cons, List.length_append, List.length_nil]; omega), by kernel_rfl, by kernel_rfl⟩)

end Go.Proofs.Ytpalghbfhgimkaa


/-! Draws of formulas, second part. -/
namespace Go.Proofs.Ytpalghbfhgimkaa
open Go.RowKit Go.Abs

theorem l02Own_c (xs : List (Int × Int)) (hl : xs.length ≤ 1000000000) : CallA Try.prog 98 [LN xs] (ownA eN 86 2 xs) := by
  refine CallA.of Try.func98 rfl (by kernel_rfl) ?_
  refine R.go 8 (R.app eN [] xs 0 86 2 16 (by kernel_rfl) eN_one (by decide) (by first | omega | (simp <;> omega)) (by kernel_rfl) ?_)
  exact R.go 2 (R.retE (ownA eN 86 2 ([] ++ xs)) (by kernel_rfl) (by kernel_rfl) (by first | (rfl) | (exfalso; omega)))

theorem bendX_c_r3 (c : List Int) (p : Nat) (h : Int) (a : List (Int × Int)) (eo1 : Nat) (so1 : Nat) (no1 : Nat) (co1 : List AV) (eo2 : Nat) (so2 : Nat) (no2 : Nat) (co2 : List AV) (eo3 : Nat) (so3 : Nat) (no3 : Nat) (co3 : List AV) (hc : BY c) (ha : 1 ≤ a.length ∧ a.length ≤ 900) : CallX Try.prog 75 [.ptr 0 0, LN a] [.box 98 [LB c, AI (p : Int), .int .u64 h], .list eo1 so1 no1 co1, .list eo2 so2 no2 co2, .list eo3 so3 no3 co3] (fun (resX : AV) (objX : List AObj) => ∃ r : List (Int × Int), ∃ p1 : Nat, ∃ h1 : Int, (r.length ≤ 1000) ∧ resX = LN r ∧ objX = [.box 98 [LB c, AI (p1 : Int), .int .u64 h1], .list eo1 so1 no1 co1, .list eo2 so2 no2 co2, .list eo3 so3 no3 co3]) := by
  have hcl : c.length ≤ 4096 := hc.1
  have hcb := hc.2
  refine CallX.dropE (CallX.ofF Try.func75 rfl (by kernel_rfl) ?_)
  intro usC frC hfC
  refine R.go 7 (R.call true (l02Own_c a (by first | omega | (simp <;> omega))) (by kernel_rfl) rfl (by kernel_rfl) ?_)
  refine R.go 7 (R.callX (CallX.inF 4 usC frC (nextX_c_r4 c p h a.length eo1 so1 no1 co1 eo2 so2 no2 co2 eo3 so3 no3 co3 86 2 a.length (rows eN a) hc) (Nat.le_of_ble_eq_true (by kernel_rfl)) (by kernel_rfl) (by kernel_rfl) (by rintro _ _ ⟨_, _, _, _, rfl, rfl⟩; exact Nat.le_of_ble_eq_true (by kernel_rfl))) (by kernel_rfl) (by kernel_rfl) (by kernel_rfl) ?_)
  rintro _ _ ⟨_, _, ⟨v_1, p1_2, h1_3, f4, rfl, rfl⟩, rfl, rfl⟩
  refine R.go 6 (R.callX (CallX.inF 4 usC frC (nextX_c_r4 c p1_2 h1_3 5 eo1 so1 no1 co1 eo2 so2 no2 co2 eo3 so3 no3 co3 86 2 a.length (rows eN a) hc) (Nat.le_of_ble_eq_true (by kernel_rfl)) (by kernel_rfl) (by kernel_rfl) (by rintro _ _ ⟨_, _, _, _, rfl, rfl⟩; exact Nat.le_of_ble_eq_true (by kernel_rfl))) (by kernel_rfl) (by kernel_rfl) (by kernel_rfl) ?_)
  rintro _ _ ⟨_, _, ⟨v_5, p1_6, h1_7, f8, rfl, rfl⟩, rfl, rfl⟩
  refine R.go 7 (R.cond (v_5 = 0) (by kernel_rfl) (fun c9 => ?_) (fun c9 => ?_))
  · refine R.go 4 (R.callX (CallX.inF 4 usC frC (nextX_c_r4 c p1_6 h1_7 9 eo1 so1 no1 co1 eo2 so2 no2 co2 eo3 so3 no3 co3 86 2 a.length (rows eN a) hc) (Nat.le_of_ble_eq_true (by kernel_rfl)) (by kernel_rfl) (by kernel_rfl) (by rintro _ _ ⟨_, _, _, _, rfl, rfl⟩; exact Nat.le_of_ble_eq_true (by kernel_rfl))) (by kernel_rfl) (by kernel_rfl) (by kernel_rfl) ?_)
    rintro _ _ ⟨_, _, ⟨v_10, p1_11, h1_12, f13, rfl, rfl⟩, rfl, rfl⟩
    refine R.ar (v_10 - 1) (by kernel_rfl) (by omega) (by omega) (by kernel_rfl) ?_
    refine R.idxO 5 2 a.length ((v_1).toNat) v_1 (by kernel_rfl) (by omega) (by omega) (by kernel_rfl) ?_
    refine R.go 1 (R.stF eN 5 86 2 a (0, 0) ((v_1).toNat) 0 (AI (v_10 - 1)) (v_10 - 1, (a.getD ((v_1).toNat) (0, 0)).2) (by kernel_rfl) eN_len (by omega) (by decide) rfl (by kernel_rfl) ?_)
    refine R.go 7 (R.frz 5 (by kernel_rfl) ?_)
    refine R.kfix 4 (us := usC) (by kernel_rfl) (hfC.frz 5 (LN (a.set ((v_1).toNat) (v_10 - 1, (a.getD ((v_1).toNat) (0, 0)).2))) (Nat.le_of_ble_eq_true (by kernel_rfl))) ?_
    exact R.retX (res := LN (a.set ((v_1).toNat) (v_10 - 1, (a.getD ((v_1).toNat) (0, 0)).2))) (hp' := [.box 98 [LB c, AI (p1_11 : Int), .int .u64 h1_12], .list eo1 so1 no1 co1, .list eo2 so2 no2 co2, .list eo3 so3 no3 co3, .dead, .dead]) (by kernel_rfl) (by kernel_rfl) (by kernel_rfl) (by kernel_rfl) ⟨[0, 1, 2, 3], by kernel_rfl, by decide, a.set ((v_1).toNat) (v_10 - 1, (a.getD ((v_1).toNat) (0, 0)).2), p1_11, h1_12, by first | omega | (simp only [List.length_append, List.length_cons, List.length_nil, List.length_set, List.length_take, List.length_drop]; omega), by kernel_rfl, by kernel_rfl⟩
  · refine R.go 5 (R.cond (v_5 = 1) (by kernel_rfl) (fun c14 => ?_) (fun c14 => ?_))
    · refine R.go 4 (R.lit (s := 1) (n := 5) (cs := rows eI [(-1), 0, 1, 5, 6]) (by kernel_rfl) (by kernel_rfl) ?_)
      refine R.callX (CallX.inF 4 usC frC (pickX_c_r4 c p1_6 h1_7 [(-1), 0, 1, 5, 6] eo1 so1 no1 co1 eo2 so2 no2 co2 eo3 so3 no3 co3 86 2 a.length (rows eN a) hc (by simp)) (Nat.le_of_ble_eq_true (by kernel_rfl)) (by kernel_rfl) (by kernel_rfl) (by rintro _ _ ⟨_, _, _, rfl, rfl⟩; exact Nat.le_of_ble_eq_true (by kernel_rfl))) (by kernel_rfl) (by kernel_rfl) (by kernel_rfl) ?_
      rintro _ _ ⟨_, _, ⟨v_15, p1_16, h1_17, rfl, rfl⟩, rfl, rfl⟩
      refine R.idxO 5 2 a.length ((v_1).toNat) v_1 (by kernel_rfl) (by omega) (by omega) (by kernel_rfl) ?_
      refine R.go 1 (R.stF eN 5 86 2 a (0, 0) ((v_1).toNat) 1 (AI v_15) ((a.getD ((v_1).toNat) (0, 0)).1, v_15) (by kernel_rfl) eN_len (by omega) (by decide) rfl (by kernel_rfl) ?_)
      refine R.go 7 (R.frz 5 (by kernel_rfl) ?_)
      refine R.kfix 4 (us := usC) (by kernel_rfl) (hfC.frz 5 (LN (a.set ((v_1).toNat) ((a.getD ((v_1).toNat) (0, 0)).1, v_15))) (Nat.le_of_ble_eq_true (by kernel_rfl))) ?_
      exact R.retX (res := LN (a.set ((v_1).toNat) ((a.getD ((v_1).toNat) (0, 0)).1, v_15))) (hp' := [.box 98 [LB c, AI (p1_16 : Int), .int .u64 h1_17], .list eo1 so1 no1 co1, .list eo2 so2 no2 co2, .list eo3 so3 no3 co3, .dead, .dead]) (by kernel_rfl) (by kernel_rfl) (by kernel_rfl) (by kernel_rfl) ⟨[0, 1, 2, 3], by kernel_rfl, by decide, a.set ((v_1).toNat) ((a.getD ((v_1).toNat) (0, 0)).1, v_15), p1_16, h1_17, by first | omega | (simp only [List.length_append, List.length_cons, List.length_nil, List.length_set, List.length_take, List.length_drop]; omega), by kernel_rfl, by kernel_rfl⟩
    · refine R.go 5 (R.cond (v_5 = 2) (by kernel_rfl) (fun c18 => ?_) (fun c18 => ?_))
      · refine R.go 3 (R.callX (CallX.inF 4 usC frC (nextX_c_r4 c p1_6 h1_7 7 eo1 so1 no1 co1 eo2 so2 no2 co2 eo3 so3 no3 co3 86 2 a.length (rows eN a) hc) (Nat.le_of_ble_eq_true (by kernel_rfl)) (by kernel_rfl) (by kernel_rfl) (by rintro _ _ ⟨_, _, _, _, rfl, rfl⟩; exact Nat.le_of_ble_eq_true (by kernel_rfl))) (by kernel_rfl) (by kernel_rfl) (by kernel_rfl) ?_)
        rintro _ _ ⟨_, _, ⟨v_19, p1_20, h1_21, f22, rfl, rfl⟩, rfl, rfl⟩
        refine R.go 2 (R.app eN a [(v_19, 0)] 5 86 2 16 (by kernel_rfl) eN_one (by decide) (by first | omega | (simp <;> omega)) (by kernel_rfl) ?_)
        refine R.kfix 4 (us := usC) (by kernel_rfl) (hfC.kill 5 (Nat.le_of_ble_eq_true (by kernel_rfl))) ?_
        refine R.go 8 (R.frz 5 (by kernel_rfl) ?_)
        refine R.kfix 4 (us := usC) (by kernel_rfl) (hfC.frz 5 (LN (a ++ [(v_19, 0)])) (Nat.le_of_ble_eq_true (by kernel_rfl))) ?_
        exact R.retX (res := LN (a ++ [(v_19, 0)])) (hp' := [.box 98 [LB c, AI (p1_20 : Int), .int .u64 h1_21], .list eo1 so1 no1 co1, .list eo2 so2 no2 co2, .list eo3 so3 no3 co3, .dead, .dead, rowA eN 86 2 [(v_19, 0)]]) (by kernel_rfl) (by kernel_rfl) (by kernel_rfl) (by kernel_rfl) ⟨[0, 1, 2, 3], by kernel_rfl, by decide, a ++ [(v_19, 0)], p1_20, h1_21, by first | omega | (simp only [List.length_append, List.length_cons, List.length_nil, List.length_set, List.length_take, List.length_drop]; omega), by kernel_rfl, by kernel_rfl⟩
      · refine R.go 5 (R.cond (v_5 = 3) (by kernel_rfl) (fun c23 => ?_) (fun c23 => ?_))
        · refine R.go 3 (R.cut eN a 5 86 ((v_1).toNat) v_1 (by kernel_rfl) (by omega) eN_len (by omega) (by kernel_rfl) ?_)
          refine R.kfix 4 (us := usC) (by kernel_rfl) (hfC.kill 5 (Nat.le_of_ble_eq_true (by kernel_rfl))) ?_
          refine R.go 8 (R.frz 5 (by kernel_rfl) ?_)
          refine R.kfix 4 (us := usC) (by kernel_rfl) (hfC.frz 5 (LN (a.take ((v_1).toNat))) (Nat.le_of_ble_eq_true (by kernel_rfl))) ?_
          exact R.retX (res := LN (a.take ((v_1).toNat))) (hp' := [.box 98 [LB c, AI (p1_6 : Int), .int .u64 h1_7], .list eo1 so1 no1 co1, .list eo2 so2 no2 co2, .list eo3 so3 no3 co3, .dead, .dead]) (by kernel_rfl) (by kernel_rfl) (by kernel_rfl) (by kernel_rfl) ⟨[0, 1, 2, 3], by kernel_rfl, by decide, a.take ((v_1).toNat), p1_6, h1_7, by first | omega | (simp only [List.length_append, List.length_cons, List.length_nil, List.length_set, List.length_take, List.length_drop]; omega), by kernel_rfl, by kernel_rfl⟩
        · refine R.go 5 (R.cond (v_5 = 4) (by kernel_rfl) (fun c24 => ?_) (fun c24 => ?_))
          · refine R.any (by decide +kernel) (by kernel_rfl) ?_
            refine R.anyF 0 (by kernel_rfl) (np_retX _ _ _ _ _ _) ?_
            refine R.anyF 1 (by kernel_rfl) (np_retX _ _ _ _ _ _) ?_
            refine R.anyF 3 (by kernel_rfl) (np_retX _ _ _ _ _ _) ?_
            refine R.anyF 4 (by kernel_rfl) (np_retX _ _ _ _ _ _) ?_
            refine R.anyI 5 (AI (IntKind.i64.wrap (v_1 + 1))) (by kernel_rfl) (np_retX _ _ _ _ _ _) ?_
            refine R.del eN a 2 6 7 5 86 16 ((v_1).toNat) v_1 (IntKind.i64.wrap (v_1 + 1)) (by kernel_rfl) (by omega) (by rw [wrap_id (by omega) (by omega)]; omega) eN_len eN_one (by omega) (by decide) (by omega) (np_retX _ _ _ _ _ _) ?_
            refine R.kfix 4 (us := usC) (by kernel_rfl) (hfC.kill 5 (Nat.le_of_ble_eq_true (by kernel_rfl))) ?_
            refine R.any1 8 (by kernel_rfl) (by kernel_rfl) ?_
            refine R.go 2 (R.any0 (by kernel_rfl) ?_)
            refine R.go 6 (R.frz 5 (by kernel_rfl) ?_)
            refine R.kfix 4 (us := usC) (by kernel_rfl) (hfC.frz 5 (LN (a.take ((v_1).toNat) ++ a.drop ((v_1).toNat + 1))) (Nat.le_of_ble_eq_true (by kernel_rfl))) ?_
            exact R.retX (res := LN (a.take ((v_1).toNat) ++ a.drop ((v_1).toNat + 1))) (hp' := [.box 98 [LB c, AI (p1_6 : Int), .int .u64 h1_7], .list eo1 so1 no1 co1, .list eo2 so2 no2 co2, .list eo3 so3 no3 co3, .dead, .dead]) (by kernel_rfl) (by kernel_rfl) (by kernel_rfl) (by kernel_rfl) ⟨[0, 1, 2, 3], by kernel_rfl, by decide, a.take ((v_1).toNat) ++ a.drop ((v_1).toNat + 1), p1_6, h1_7, by first | omega | (simp only [List.length_append, List.length_cons, List.length_nil, List.length_set, List.length_take, List.length_drop]; omega), by kernel_rfl, by kernel_rfl⟩
          · refine R.go 7 (R.frz 5 (by kernel_rfl) ?_)
            refine R.kfix 4 (us := usC) (by kernel_rfl) (hfC.frz 5 (LN a) (Nat.le_of_ble_eq_true (by kernel_rfl))) ?_
            exact R.retX (res := LN a) (hp' := [.box 98 [LB c, AI (p1_6 : Int), .int .u64 h1_7], .list eo1 so1 no1 co1, .list eo2 so2 no2 co2, .list eo3 so3 no3 co3, .dead, .dead]) (by kernel_rfl) (by kernel_rfl) (by kernel_rfl) (by kernel_rfl) ⟨[0, 1, 2, 3], by kernel_rfl, by decide, a, p1_6, h1_7, by first | omega | (simp only [List.length_append, List.length_cons, List.length_nil, List.length_set, List.length_take, List.length_drop]; omega), by kernel_rfl, by kernel_rfl⟩

theorem anyX_c_r3 (c : List Int) (p : Nat) (h : Int) (size : Int) (vars : Int) (modal : Bool) (eo1 : Nat) (so1 : Nat) (no1 : Nat) (co1 : List AV) (eo2 : Nat) (so2 : Nat) (no2 : Nat) (co2 : List AV) (eo3 : Nat) (so3 : Nat) (no3 : Nat) (co3 : List AV) (hc : BY c) (hs : size ≤ 100) : CallX Try.prog 50 [.ptr 0 0, AI size, AI vars, .bool modal] [.box 98 [LB c, AI (p : Int), .int .u64 h], .list eo1 so1 no1 co1, .list eo2 so2 no2 co2, .list eo3 so3 no3 co3] (fun (resX : AV) (objX : List AObj) => ∃ r : List (Int × Int), ∃ p1 : Nat, ∃ h1 : Int, (r.length ≤ 1000) ∧ resX = LN r ∧ objX = [.box 98 [LB c, AI (p1 : Int), .int .u64 h1], .list eo1 so1 no1 co1, .list eo2 so2 no2 co2, .list eo3 so3 no3 co3]) := by
  have hcl : c.length ≤ 4096 := hc.1
  have hcb := hc.2
  refine CallX.dropE (CallX.ofF Try.func50 rfl (by kernel_rfl) ?_)
  intro usC frC hfC
  refine R.go 10 (R.callX (CallX.inF 4 usC frC (drawX_c_r3 ((size : Int).toNat) c p h size vars modal eo1 so1 no1 co1 eo2 so2 no2 co2 eo3 so3 no3 co3 (by rfl) hc (by omega)) (Nat.le_of_ble_eq_true (by kernel_rfl)) (by kernel_rfl) (by kernel_rfl) (by rintro _ _ ⟨_, _, _, _, rfl, rfl⟩; exact Nat.le_of_ble_eq_true (by kernel_rfl))) (by kernel_rfl) (by kernel_rfl) (by kernel_rfl) ?_)
  rintro _ _ ⟨_, _, ⟨r_1, p1_2, h1_3, f4, rfl, rfl⟩, rfl, rfl⟩
  refine R.go 6 (R.callX (CallX.inF 4 usC frC (nextX_c_r3 c p1_2 h1_3 40 eo1 so1 no1 co1 eo2 so2 no2 co2 eo3 so3 no3 co3 hc) (Nat.le_of_ble_eq_true (by kernel_rfl)) (by kernel_rfl) (by kernel_rfl) (by rintro _ _ ⟨_, _, _, _, rfl, rfl⟩; exact Nat.le_of_ble_eq_true (by kernel_rfl))) (by kernel_rfl) (by kernel_rfl) (by kernel_rfl) ?_)
  rintro _ _ ⟨_, _, ⟨v_5, p1_6, h1_7, f8, rfl, rfl⟩, rfl, rfl⟩
  refine R.go 7 (R.cond (v_5 = 0) (by kernel_rfl) (fun c9 => ?_) (fun c9 => ?_))
  · refine R.go 4 (R.callX (CallX.inF 4 usC frC (bendX_c_r3 c p1_6 h1_7 r_1 eo1 so1 no1 co1 eo2 so2 no2 co2 eo3 so3 no3 co3 hc (by omega)) (Nat.le_of_ble_eq_true (by kernel_rfl)) (by kernel_rfl) (by kernel_rfl) (by rintro _ _ ⟨_, _, _, _, rfl, rfl⟩; exact Nat.le_of_ble_eq_true (by kernel_rfl))) (by kernel_rfl) (by kernel_rfl) (by kernel_rfl) ?_)
    rintro _ _ ⟨_, _, ⟨r_10, p1_11, h1_12, f13, rfl, rfl⟩, rfl, rfl⟩
    exact R.go 2 (R.retX (res := LN r_10) (hp' := [.box 98 [LB c, AI (p1_11 : Int), .int .u64 h1_12], .list eo1 so1 no1 co1, .list eo2 so2 no2 co2, .list eo3 so3 no3 co3, .dead]) (by kernel_rfl) (by kernel_rfl) (by kernel_rfl) (by kernel_rfl) ⟨[0, 1, 2, 3], by kernel_rfl, by decide, r_10, p1_11, h1_12, by first | assumption | omega, by kernel_rfl, by kernel_rfl⟩)
  · refine R.go 5 (R.cond (v_5 = 1) (by kernel_rfl) (fun c14 => ?_) (fun c14 => ?_))
    · refine R.go 1 (R.loop ((fun | (b, q, k) => (⟨(frm 42 [(0, .ptr 0 0), (2, AI vars), (3, .bool modal), (9, LN b)]), [.box 98 [LB c, AI (q : Int), .int .u64 k], .list eo1 so1 no1 co1, .list eo2 so2 no2 co2, .list eo3 so3 no3 co3, .frame usC frC]⟩ : St) : (List (Int × Int)) × Nat × Int → St)) (fun | (b, q, k) => (1 ≤ b.length) ∧ (b.length ≤ 200)) (fun | (b, q, k) => 200 - b.length) (r_1, p1_6, h1_7) [0, 2, 3, 9] none (by kernel_rfl) (by kernel_rfl) (by kernel_rfl) ⟨(by omega), (by omega)⟩ ?_)
      rintro ⟨b, q, k⟩ ⟨h18_1, h18_2⟩ R15 N16
      refine R.go 7 ?_
      by_cases c19 : (b.length : Int) ≤ 40
      · refine R.want (decide ((b.length : Int) ≤ 40)) true (by kernel_rfl) (dT c19) ?_
        refine R.go 1 (R.want (decide ((b.length : Int) ≤ 40)) true (by kernel_rfl) (dT c19) ?_)
        refine R.callX (CallX.inF 4 usC frC (nextX_c_r3 c q k 60 eo1 so1 no1 co1 eo2 so2 no2 co2 eo3 so3 no3 co3 hc) (Nat.le_of_ble_eq_true (by kernel_rfl)) (by kernel_rfl) (by kernel_rfl) (by rintro _ _ ⟨_, _, _, _, rfl, rfl⟩; exact Nat.le_of_ble_eq_true (by kernel_rfl))) (by kernel_rfl) (by kernel_rfl) (by kernel_rfl) ?_
        rintro _ _ ⟨_, _, ⟨v_20, p1_21, h1_22, f23, rfl, rfl⟩, rfl, rfl⟩
        refine R.want (decide ((b.length : Int) ≤ 40)) true (by kernel_rfl) (dT c19) ?_
        refine R.go 1 (R.pick (decide ((b.length : Int) ≤ 40)) true (by kernel_rfl) (dT c19) (by kernel_rfl) ?_)
        refine R.go 1 (R.cond (v_20 > 0) (by kernel_rfl) (fun c24 => ?_) (fun c24 => ?_))
        · refine R.go 4 (R.callX (CallX.inF 4 usC frC (nextX_c_r3 c p1_21 h1_22 3 eo1 so1 no1 co1 eo2 so2 no2 co2 eo3 so3 no3 co3 hc) (Nat.le_of_ble_eq_true (by kernel_rfl)) (by kernel_rfl) (by kernel_rfl) (by rintro _ _ ⟨_, _, _, _, rfl, rfl⟩; exact Nat.le_of_ble_eq_true (by kernel_rfl))) (by kernel_rfl) (by kernel_rfl) (by kernel_rfl) ?_)
          rintro _ _ ⟨_, _, ⟨v_25, p1_26, h1_27, f28, rfl, rfl⟩, rfl, rfl⟩
          refine R.ar (2 + v_25) (by kernel_rfl) (by omega) (by omega) (by kernel_rfl) ?_
          refine R.go 4 (R.callX (CallX.inF 4 usC frC (drawX_c_r3 ((6 : Int).toNat) c p1_26 h1_27 6 vars modal eo1 so1 no1 co1 eo2 so2 no2 co2 eo3 so3 no3 co3 (by rfl) hc (by omega)) (Nat.le_of_ble_eq_true (by kernel_rfl)) (by kernel_rfl) (by kernel_rfl) (by rintro _ _ ⟨_, _, _, _, rfl, rfl⟩; exact Nat.le_of_ble_eq_true (by kernel_rfl))) (by kernel_rfl) (by kernel_rfl) (by kernel_rfl) ?_)
          rintro _ _ ⟨_, _, ⟨r_29, p1_30, h1_31, f32, rfl, rfl⟩, rfl, rfl⟩
          refine R.call true (l02Pair_c (2 + v_25) b r_29 (by first | omega | (simp <;> omega)) (by first | omega | (simp <;> omega))).frz (by kernel_rfl) rfl (by kernel_rfl) ?_
          exact R.go 3 (R.stop R15 (by kernel_rfl) (N16 (((2 + v_25), 0) :: (b ++ r_29), p1_30, h1_31) [0, 2, 3, 9] none _ (by kernel_rfl) (by kernel_rfl) ⟨(by (simp only [List.length_cons, List.length_append]; omega)), (by (simp only [List.length_cons, List.length_append]; omega))⟩ (by show (200 - (((2 + v_25), 0) :: (b ++ r_29)).length) < (200 - b.length); (simp only [List.length_cons, List.length_append]; omega))))
        · exact R.go 7 (R.retX (res := LN b) (hp' := [.box 98 [LB c, AI (p1_21 : Int), .int .u64 h1_22], .list eo1 so1 no1 co1, .list eo2 so2 no2 co2, .list eo3 so3 no3 co3, .dead]) (by kernel_rfl) (by kernel_rfl) (by kernel_rfl) (by kernel_rfl) ⟨[0, 1, 2, 3], by kernel_rfl, by decide, b, p1_21, h1_22, by first | assumption | omega, by kernel_rfl, by kernel_rfl⟩)
      · refine R.skp (decide ((b.length : Int) ≤ 40)) true (by kernel_rfl) (dF c19) (by kernel_rfl) ?_
        refine R.skp (decide ((b.length : Int) ≤ 40)) true (by kernel_rfl) (dF c19) (by kernel_rfl) ?_
        refine R.skp (decide ((b.length : Int) ≤ 40)) true (by kernel_rfl) (dF c19) (by kernel_rfl) ?_
        refine R.pick (decide ((b.length : Int) ≤ 40)) false (by kernel_rfl) (dF c19) (by kernel_rfl) ?_
        exact R.go 9 (R.retX (res := LN b) (hp' := [.box 98 [LB c, AI (q : Int), .int .u64 k], .list eo1 so1 no1 co1, .list eo2 so2 no2 co2, .list eo3 so3 no3 co3, .dead]) (by kernel_rfl) (by kernel_rfl) (by kernel_rfl) (by kernel_rfl) ⟨[0, 1, 2, 3], by kernel_rfl, by decide, b, q, k, by first | assumption | omega, by kernel_rfl, by kernel_rfl⟩)
    · exact R.go 7 (R.retX (res := LN r_1) (hp' := [.box 98 [LB c, AI (p1_6 : Int), .int .u64 h1_7], .list eo1 so1 no1 co1, .list eo2 so2 no2 co2, .list eo3 so3 no3 co3, .dead]) (by kernel_rfl) (by kernel_rfl) (by kernel_rfl) (by kernel_rfl) ⟨[0, 1, 2, 3], by kernel_rfl, by decide, r_1, p1_6, h1_7, by first | assumption | omega, by kernel_rfl, by kernel_rfl⟩)

end Go.Proofs.Ytpalghbfhgimkaa


/-! Sums of bits of masks. -/
namespace Go.Proofs.Ytpalghbfhgimkaa
open Go.RowKit Go.Abs

theorem wrap_toNat (v : BitVec 64) : IntKind.i64.wrap (v.toNat : Int) = v.toInt := by
  rw [IntKind.wrap_i64, BitVec.toInt_eq_toNat_cond]
  have := v.isLt
  split <;> omega
theorem wrap_toInt (x : Int) : (BitVec.ofInt 64 x).toInt = IntKind.i64.wrap x := by
  rw [IntKind.wrap_i64, BitVec.toInt_ofInt, Int.bmod]
  simp only [Nat.reducePow]
  split <;> omega
theorem band_bv (x y : Int) : band x y = (BitVec.ofInt 64 x &&& BitVec.ofInt 64 y).toInt := wrap_toNat _
theorem bor_bv (x y : Int) : bor x y = (BitVec.ofInt 64 x ||| BitVec.ofInt 64 y).toInt := wrap_toNat _
theorem bnot_bv (x y : Int) : bnot x y = (BitVec.ofInt 64 x &&& ~~~ BitVec.ofInt 64 y).toInt := wrap_toNat _

theorem bnot_zero (x m : Int) (hx : IntKind.i64.wrap x = x) : bnot x m = 0 ↔ band x m = x := by
  rw [bnot_bv, band_bv]
  have e : x = (BitVec.ofInt 64 x).toInt := by rw [wrap_toInt, hx]
  have e0 : (0 : Int) = (0 : BitVec 64).toInt := rfl
  conv => rhs; rhs; rw [e]
  conv => lhs; rhs; rw [e0]
  rw [BitVec.toInt_inj, BitVec.toInt_inj]
  constructor
  · intro h
    apply BitVec.eq_of_getLsbD_eq
    intro i hi
    have := congrArg (fun v => v.getLsbD i) h
    simp [hi] at this ⊢
    exact this
  · intro h
    apply BitVec.eq_of_getLsbD_eq
    intro i hi
    have := congrArg (fun v => v.getLsbD i) h
    simp [hi] at this ⊢
    exact this
theorem boxAB (xs : List Int) (m : Int) (h : ∀ x ∈ xs, IntKind.i64.wrap x = x) : ∀ i, i ≤ xs.length → boxA xs m i = boxB xs m i
  | 0, _ => rfl
  | i + 1, hi => by
    have hx : IntKind.i64.wrap (xs.getD i 0) = xs.getD i 0 := h _ (by
      rw [List.getD_eq_getElem?_getD, List.getElem?_eq_getElem (by omega)]
      exact List.getElem_mem _)
    have hb := bnot_zero (xs.getD i 0) m hx
    simp only [boxA, boxB, boxAB xs m h i (by omega)]
    by_cases hc : band (xs.getD i 0) m = xs.getD i 0
    · rw [if_pos hc, if_pos (hb.2 hc)]
    · rw [if_neg hc, if_neg (fun h => hc (hb.1 h))]

end Go.Proofs.Ytpalghbfhgimkaa


/-! Bits of masks; relations as rows of masks; closures. -/
namespace Go.Proofs.Ytpalghbfhgimkaa
open Go.RowKit Go.Abs

theorem bv_nat (a : Nat) : BitVec.ofInt 64 (a : Int) = BitVec.ofNat 64 a := by simp
theorem toInt_lt {v : BitVec 64} (h : v.toNat < 2 ^ 62) : v.toInt = (v.toNat : Int) := by
  rw [BitVec.toInt_eq_toNat_cond, if_pos (by omega)]
theorem toNat_lt {a : Nat} (h : a < 2 ^ 62) : (BitVec.ofNat 64 a).toNat = a := by
  rw [BitVec.toNat_ofNat, Nat.mod_eq_of_lt (by omega)]
theorem bor_nat {a b : Nat} (ha : a < 2 ^ 62) (hb : b < 2 ^ 62) : bor (a : Int) (b : Int) = ((a ||| b : Nat) : Int) := by
  have h : (BitVec.ofNat 64 a ||| BitVec.ofNat 64 b).toNat = a ||| b := by rw [BitVec.toNat_or, toNat_lt ha, toNat_lt hb]
  rw [bor_bv, bv_nat, bv_nat, toInt_lt (by rw [h]; exact Nat.or_lt_two_pow ha hb), h]
theorem band_nat {a b : Nat} (ha : a < 2 ^ 62) (hb : b < 2 ^ 62) : band (a : Int) (b : Int) = ((a &&& b : Nat) : Int) := by
  have h : (BitVec.ofNat 64 a &&& BitVec.ofNat 64 b).toNat = a &&& b := by rw [BitVec.toNat_and, toNat_lt ha, toNat_lt hb]
  rw [band_bv, bv_nat, bv_nat, toInt_lt (by rw [h]; exact Nat.and_lt_two_pow _ hb), h]
theorem shl_nat {i : Nat} (h : i ≤ 62) : shl64 1 (i : Int) = ((2 ^ i : Nat) : Int) := by
  rw [shl_one _ (by omega) (by omega)]
  simp
theorem shr_nat {m i : Nat} (h : i ≤ 62) : shr64 (m : Int) (i : Int) = ((m / 2 ^ i : Nat) : Int) := by
  unfold shr64
  rw [show min (i : Int).toNat 64 = i by omega]
  rw [show ((2 : Int) ^ i) = ((2 ^ i : Nat) : Int) by simp]
  rw [Int.fdiv_eq_ediv_of_nonneg _ (Int.natCast_nonneg _)]
  rfl

/-- The bits of a mask. -/
def tb (m : Int) (i : Nat) : Bool := m.toNat.testBit i
def InM (n : Nat) (m : Int) : Prop := 0 ≤ m ∧ m.toNat < 2 ^ n
theorem inM_nat {n : Nat} {m : Int} (h : InM n m) : ∃ a : Nat, m = a ∧ a < 2 ^ n := ⟨m.toNat, by have := h.1; omega, h.2⟩
theorem inM_62 {n a : Nat} (hn : n ≤ 61) (h : a < 2 ^ n) : a < 2 ^ 62 := Nat.lt_of_lt_of_le h (Nat.pow_le_pow_right (by decide) (by omega))
theorem inM_bor {n : Nat} {a b : Int} (hn : n ≤ 61) (ha : InM n a) (hb : InM n b) : InM n (bor a b) := by
  obtain ⟨a, rfl, ha'⟩ := inM_nat ha
  obtain ⟨b, rfl, hb'⟩ := inM_nat hb
  rw [bor_nat (inM_62 hn ha') (inM_62 hn hb')]
  exact ⟨by omega, by simpa using Nat.or_lt_two_pow ha' hb'⟩
theorem tb_bor {n : Nat} {a b : Int} (hn : n ≤ 61) (ha : InM n a) (hb : InM n b) (i : Nat) : tb (bor a b) i = (tb a i || tb b i) := by
  obtain ⟨a, rfl, ha'⟩ := inM_nat ha
  obtain ⟨b, rfl, hb'⟩ := inM_nat hb
  rw [bor_nat (inM_62 hn ha') (inM_62 hn hb')]
  simp [tb, Nat.testBit_or]
theorem inM_one {n i : Nat} (hn : n ≤ 61) (hi : i < n) : InM n (shl64 1 (i : Int)) := by
  rw [shl_nat (by omega)]
  exact ⟨Int.natCast_nonneg _, by rw [Int.toNat_natCast]; exact Nat.pow_lt_pow_right (by decide) hi⟩
theorem tb_one {i : Nat} (hi : i ≤ 61) (j : Nat) : tb (shl64 1 (i : Int)) j = decide (i = j) := by
  rw [shl_nat (by omega)]
  unfold tb
  rw [Int.toNat_natCast, Nat.testBit_two_pow]
theorem inM_zero (n : Nat) : InM n 0 := ⟨Int.le_refl _, by simpa using Nat.two_pow_pos n⟩
theorem tb_zero (i : Nat) : tb 0 i = false := by simp [tb]
theorem tb_ext {a b : Int} (ha : 0 ≤ a) (hb : 0 ≤ b) (h : ∀ i, tb a i = tb b i) : a = b := by
  have := Nat.eq_of_testBit_eq (x := a.toNat) (y := b.toNat) h
  omega
theorem tb_lt {n : Nat} {m : Int} {i : Nat} (h : InM n m) (hi : tb m i = true) : i < n := by
  rcases Nat.lt_or_ge i n with h1 | h1
  · exact h1
  · have := Nat.testBit_lt_two_pow (Nat.lt_of_lt_of_le h.2 (Nat.pow_le_pow_right (by decide) h1))
    unfold tb at hi
    rw [this] at hi
    cases hi
theorem wrap_inM {n : Nat} {m : Int} (hn : n ≤ 61) (h : InM n m) : IntKind.i64.wrap m = m := by
  obtain ⟨a, rfl, ha⟩ := inM_nat h
  have := inM_62 hn ha
  exact wrap_id (by omega) (by omega)
theorem bnot_sub {n : Nat} {a b : Int} (hn : n ≤ 61) (ha : InM n a) (hb : InM n b) : bnot a b = 0 ↔ ∀ i, tb a i = true → tb b i = true := by
  rw [bnot_zero a b (wrap_inM hn ha)]
  obtain ⟨a, rfl, ha'⟩ := inM_nat ha
  obtain ⟨b, rfl, hb'⟩ := inM_nat hb
  rw [band_nat (inM_62 hn ha') (inM_62 hn hb')]
  simp only [tb, Int.toNat_natCast]
  constructor
  · intro h i hi
    have h1 : a &&& b = a := by omega
    rw [← h1, Nat.testBit_and] at hi
    simp only [Bool.and_eq_true] at hi
    exact hi.2
  · intro h
    congr 1
    apply Nat.eq_of_testBit_eq
    intro i
    rw [Nat.testBit_and]
    cases hi : a.testBit i with
    | false => rfl
    | true => rw [h i hi]; rfl
theorem has_tb {n i : Nat} {m : Int} (hn : n ≤ 61) (h : InM n m) (hi : i ≤ 61) : band (shr64 m (i : Int)) 1 = 1 ↔ tb m i = true := by
  obtain ⟨a, rfl, ha⟩ := inM_nat h
  have h1 : a / 2 ^ i < 2 ^ 62 := Nat.lt_of_le_of_lt (Nat.div_le_self _ _) (inM_62 hn ha)
  rw [shr_nat (by omega), show (1 : Int) = ((1 : Nat) : Int) from rfl, band_nat h1 (by decide), Nat.and_one_is_mod]
  simp only [tb, Int.toNat_natCast, Nat.testBit_eq_decide_div_mod_eq, decide_eq_true_eq]
  omega
theorem full_rng {n : Nat} {m : Int} (hn : n ≤ 61) : InM n m ↔ inR m 0 ((shl64 1 (n : Int)) - 1) = true := by
  rw [inR_iff, shl_nat (by omega)]
  unfold InM
  generalize 2 ^ n = q
  omega

/-- Steps along a relation. -/
def Edge (xs : List Int) (i j : Nat) : Prop := i < xs.length ∧ tb (xs.getD i 0) j = true
inductive Star (E : Nat → Nat → Prop) : Nat → Nat → Prop
  | refl (i : Nat) : Star E i i
  | tail {i j k : Nat} (h : Star E i j) (e : E j k) : Star E i k
theorem Star.trans {E : Nat → Nat → Prop} {i j k : Nat} (h : Star E i j) (h' : Star E j k) : Star E i k := by
  induction h' with
  | refl => exact h
  | tail _ e ih => exact .tail ih e
/-- Paths that pass only through points below b. -/
inductive Pth (E : Nat → Nat → Prop) (b : Nat) : Nat → Nat → Prop
  | edge {i k : Nat} (e : E i k) : Pth E b i k
  | via {i m k : Nat} (h : Pth E b i m) (hm : m < b) (h' : Pth E b m k) : Pth E b i k
theorem Pth.mono {E : Nat → Nat → Prop} {b b' i k : Nat} (hb : b ≤ b') (h : Pth E b i k) : Pth E b' i k := by
  induction h with
  | edge e => exact .edge e
  | via _ hm _ i1 i2 => exact .via i1 (by omega) i2
theorem Pth.zero {E : Nat → Nat → Prop} {i k : Nat} (h : Pth E 0 i k) : E i k := by
  cases h with
  | edge e => exact e
  | via _ hm _ => omega
/-- Rows of masks of n bits. -/
def RelOK (n : Nat) (xs : List Int) : Prop := xs.length = n ∧ ∀ j, j < n → InM n (xs.getD j 0)
def wrow (out : List Int) (j i : Nat) : List Int := if band (shr64 (out.getD i 0) (j : Int)) 1 = 1 then out.set i (bor (out.getD i 0) (out.getD j 0)) else out
def win (out : List Int) (j : Nat) : Nat → List Int
  | 0 => out
  | i + 1 => wrow (win out j i) j i
def wout (xs : List Int) : Nat → List Int
  | 0 => xs
  | j + 1 => win (wout xs j) j xs.length
end Go.Proofs.Ytpalghbfhgimkaa


/-! Frames: which are frames, reachability, roots. -/
namespace Go.Proofs.Ytpalghbfhgimkaa
open Go.RowKit Go.Abs

def okFr (n : Int) (xs : List Int) : Bool := inR n 0 8 && decide ((xs.length : Int) = n) && !xs.any fun m => !inR m 0 ((shl64 1 n) - 1)
def outR (n m : Int) : Bool := !(inR n 0 30 && inR m 0 ((shl64 1 n) - 1))
/-- Where p holds first. -/
def fidxI (p : Int → Bool) : List Int → Int → Int
  | [], _ => -1
  | x :: l, i => if p x = true then i else fidxI p l (i + 1)
theorem drop_consI (a : List Int) (j : Nat) (h : j < a.length) : a.drop j = a.getD j 0 :: a.drop (j + 1) := by
  rw [List.drop_eq_getElem_cons h, List.getD_eq_getElem?_getD, List.getElem?_eq_getElem h]; rfl
theorem fidxI_hit {p : Int → Bool} {a : List Int} {i : Nat} (h : i < a.length) (hp : p (a.getD i 0) = true) : fidxI p (a.drop i) i = i := by
  rw [drop_consI a i h, fidxI, if_pos hp]
theorem fidxI_miss {p : Int → Bool} {a : List Int} {i : Nat} (h : i < a.length) (hp : p (a.getD i 0) = false) : fidxI p (a.drop i) i = fidxI p (a.drop (i + 1)) ((i + 1 : Nat) : Int) := by
  rw [drop_consI a i h, fidxI, if_neg (by rw [hp]; decide)]
  rfl
theorem fidxI_end {p : Int → Bool} {a : List Int} {i : Nat} (h : a.length ≤ i) : fidxI p (a.drop i) i = -1 := by
  rw [List.drop_eq_nil_of_le h, fidxI]
theorem fidxI_any {p : Int → Bool} : ∀ {a : List Int} {i : Int}, 0 ≤ i → (0 ≤ fidxI p a i ↔ a.any p = true)
  | [], i, h => by simp [fidxI]
  | x :: a, i, h => by
    have ih := fidxI_any (p := p) (a := a) (i := i + 1) (by omega)
    rw [fidxI, List.any_cons]
    by_cases hp : p x = true
    · simp [hp, h]
    · rw [if_neg hp, ih]; simp [hp]
theorem anyI_hit {p : Int → Bool} {a : List Int} {i : Nat} (h : i < a.length) (hp : p (a.getD i 0) = true) : (a.drop i).any p = true := by
  rw [drop_consI a i h, List.any_cons, hp, Bool.true_or]
theorem anyI_miss {p : Int → Bool} {a : List Int} {i : Nat} (h : i < a.length) (hp : p (a.getD i 0) = false) : (a.drop i).any p = (a.drop (i + 1)).any p := by
  rw [drop_consI a i h, List.any_cons, hp, Bool.false_or]
theorem anyI_end {p : Int → Bool} {a : List Int} {i : Nat} (h : a.length ≤ i) : (a.drop i).any p = false := by
  rw [List.drop_eq_nil_of_le h]; rfl
theorem okFr_no {n : Int} {xs : List Int} (h : inR n 0 8 = false) : okFr n xs = false := by simp [okFr, h]
theorem okFr_ne {n : Int} {xs : List Int} (h : ¬ (xs.length : Int) = n) : okFr n xs = false := by simp [okFr, h]
theorem okFr_yes {n : Int} {xs : List Int} (h : inR n 0 8 = true) (h1 : (xs.length : Int) = n) : okFr n xs = !xs.any fun m => !inR m 0 ((shl64 1 n) - 1) := by simp [okFr, h, h1]
theorem okFr_out {n : Int} {xs : List Int} (h : inR n 0 8 = true) (h1 : (xs.length : Int) = n) : (!xs.any (outR xs.length)) = okFr n xs := by
  rw [okFr_yes h h1]
  have h8 := (inR_iff _ _ _).1 h
  have e : outR xs.length = fun m => !inR m 0 ((shl64 1 n) - 1) := by
    funext m
    rw [outR, h1, (inR_iff n 0 30).2 (by omega), Bool.true_and]
  rw [e]
theorem okFr_rel {n : Int} {xs : List Int} (h : okFr n xs = true) : 0 ≤ n ∧ n ≤ 8 ∧ (xs.length : Int) = n ∧ RelOK n.toNat xs := by
  simp only [okFr, Bool.and_eq_true, inR_iff, decide_eq_true_eq, Bool.not_eq_true'] at h
  obtain ⟨⟨⟨h0, h1⟩, h2⟩, h3⟩ := h
  refine ⟨h0, h1, h2, by omega, fun j hj => ?_⟩
  have hg : xs.getD j 0 ∈ xs := by
    rw [List.getD_eq_getElem?_getD, List.getElem?_eq_getElem (by omega), Option.getD_some]
    exact List.getElem_mem _
  have := List.any_eq_false.1 h3 _ hg
  rw [full_rng (by omega), show ((n.toNat : Nat) : Int) = n by omega]
  simpa using this
theorem wout_len (xs : List Int) : ∀ j, (wout xs j).length = xs.length
  | 0 => rfl
  | j + 1 => by rw [wout, win_len, wout_len xs j]
where win_len (out : List Int) (j : Nat) : ∀ i, (win out j i).length = out.length
  | 0 => rfl
  | i + 1 => by
    rw [win, wrow]
    split
    · rw [List.length_set, win_len out j i]
    · exact win_len out j i
theorem win_len (out : List Int) (j i : Nat) : (win out j i).length = out.length := wout_len.win_len out j i
theorem isMask_c (n : Int) (m : Int) : CallA Try.prog 63 [AI n, AI m] (.bool (!(outR n m))) := by
  have hb : (0 ≤ n ∧ n ≤ 30) → 1 ≤ shl64 1 n ∧ shl64 1 n ≤ 4611686018427387904 := fun h => shl_rng n h.1 (by omega)
  refine CallA.of Try.func63 rfl (by kernel_rfl) ?_
  refine R.go 7 (R.call true (inRange_c n 0 30) (by kernel_rfl) rfl (by kernel_rfl) ?_)
  refine R.go 1 ?_
  refine (Bool.eq_false_or_eq_true (inR n 0 30)).elim (fun c1 => ?_) (fun c1 => ?_)
  · refine R.want (inR n 0 30) true (by kernel_rfl) c1 ?_
    refine R.go 1 (R.want (inR n 0 30) true (by kernel_rfl) c1 ?_)
    refine R.go 1 (R.want (inR n 0 30) true (by kernel_rfl) c1 ?_)
    refine R.shl 1 n (by kernel_rfl) (by first | omega | (simp only [inR_iff, inR_not] at *; omega)) (by kernel_rfl) ?_
    refine R.want (inR n 0 30) true (by kernel_rfl) c1 ?_
    refine R.ar ((shl64 1 n) - 1) (by kernel_rfl) (by first | omega | (simp only [inR_iff, inR_not] at *; omega)) (by first | omega | (simp only [inR_iff, inR_not] at *; omega)) (by kernel_rfl) ?_
    refine R.want (inR n 0 30) true (by kernel_rfl) c1 ?_
    refine R.call true (inRange_c m 0 ((shl64 1 n) - 1)) (by kernel_rfl) rfl (by kernel_rfl) ?_
    refine R.pick (inR n 0 30) true (by kernel_rfl) c1 (by kernel_rfl) ?_
    exact R.go 2 (R.retE (.bool (inR m 0 ((shl64 1 n) - 1))) (by kernel_rfl) (by kernel_rfl) (by first | (apply congrArg AV.bool; simp [outR, *]) | (exfalso; omega)))
  · refine R.skp (inR n 0 30) true (by kernel_rfl) c1 (by kernel_rfl) ?_
    refine R.skp (inR n 0 30) true (by kernel_rfl) c1 (by kernel_rfl) ?_
    refine R.skp (inR n 0 30) true (by kernel_rfl) c1 (by kernel_rfl) ?_
    refine R.skp (inR n 0 30) true (by kernel_rfl) c1 (by kernel_rfl) ?_
    refine R.skp (inR n 0 30) true (by kernel_rfl) c1 (by kernel_rfl) ?_
    refine R.pick (inR n 0 30) false (by kernel_rfl) c1 (by kernel_rfl) ?_
    exact R.go 2 (R.retE (.bool false) (by kernel_rfl) (by kernel_rfl) (by first | (apply congrArg AV.bool; simp [outR, *]) | (exfalso; omega)))

theorem frameAll_c (n : Int) (xs : List Int) (h0 : 0 ≤ n) (h1 : n ≤ 62) : CallA Try.prog 40 [.agg [AI n, LI xs]] (AI ((shl64 1 n) - 1)) := by
  have hb : 1 ≤ shl64 1 n ∧ shl64 1 n ≤ 4611686018427387904 := shl_rng n h0 h1
  refine CallA.of Try.func40 rfl (by kernel_rfl) ?_
  refine R.go 9 (R.shl 1 n (by kernel_rfl) (by omega) (by kernel_rfl) ?_)
  refine R.ar ((shl64 1 n) - 1) (by kernel_rfl) (by omega) (by omega) (by kernel_rfl) ?_
  exact R.go 2 (R.retE (AI ((shl64 1 n) - 1)) (by kernel_rfl) (by kernel_rfl) (by rfl))

theorem isRel1_c (m : Int) (xs : List Int) : CallA Try.prog 100 [AI m, .rptr [LI xs]] (.bool (outR xs.length m)) := by
  refine CallA.of Try.func100 rfl (by kernel_rfl) ?_
  refine R.go 7 (R.call true (size_c xs) (by kernel_rfl) rfl (by kernel_rfl) ?_)
  refine R.go 1 (R.call true (isMask_c xs.length m) (by kernel_rfl) rfl (by kernel_rfl) ?_)
  exact R.go 3 (R.retE (.bool (!(!(outR xs.length m)))) (by kernel_rfl) (by kernel_rfl) (by first | (apply congrArg AV.bool; simp) | (exfalso; omega)))

theorem indexI_c (a : List Int) (xs : List Int) (hl : a.length ≤ 1000000000) : CallA Try.prog 82 [LI a, .fn 100 [.rptr [LI xs]]] (AI (fidxI (outR xs.length) a 0)) := by
  refine CallA.of Try.func82 rfl (by kernel_rfl) ?_
  refine R.go 12 (R.loop (fun (i : Nat) => (⟨(frm 19 [(0, LI a), (1, .fn 100 [.rptr [LI xs]]), (7, AI a.length), (8, AI (i : Int))]), []⟩ : St)) (fun (i : Nat) => (i ≤ a.length) ∧ (fidxI (outR xs.length) a 0 = fidxI (outR xs.length) (a.drop i) i)) (fun (i : Nat) => a.length - i) 0 [0, 1, 7, 8] none (by kernel_rfl) (by kernel_rfl) (by kernel_rfl) ⟨(by omega), (by rfl)⟩ ?_)
  rintro i ⟨h3_1, h3_2⟩ R1 N2
  refine R.go 5 (R.cond ((i : Int) < (a.length : Int)) (by kernel_rfl) (fun c4 => ?_) (fun c4 => ?_))
  · refine R.go 13 (R.idx eI a 0 i (i : Int) (by kernel_rfl) rfl eI_len (by omega) (by kernel_rfl) ?_)
    refine R.go 1 (R.call true (isRel1_c (a.getD i 0) xs) (by kernel_rfl) rfl (by kernel_rfl) ?_)
    refine R.go 1 (R.condB (outR xs.length (a.getD i 0)) (by kernel_rfl) (fun c5 => ?_) (fun c5 => ?_))
    · exact R.go 5 (R.retE (AI (i : Int)) (by kernel_rfl) (by kernel_rfl) (by first | (apply congrArg AI; rw [‹fidxI (outR xs.length) a 0 = _›]; first | exact (fidxI_end (by omega)).symm | exact (fidxI_hit (by omega) (by assumption)).symm) | (exfalso; omega)))
    · refine R.go 3 (R.ar ((i : Int) + 1) (by kernel_rfl) (by omega) (by omega) (by kernel_rfl) ?_)
      exact R.go 2 (R.stop R1 (by kernel_rfl) (N2 (i + 1) [0, 1, 7, 8] none _ (by kernel_rfl) (by kernel_rfl) ⟨(by omega), (by rw [‹fidxI (outR xs.length) a 0 = _›]; exact fidxI_miss (by omega) (by assumption))⟩ (by show (a.length - (i + 1)) < (a.length - i); omega)))
  · exact R.go 5 (R.retE (AI (-1)) (by kernel_rfl) (by kernel_rfl) (by first | (apply congrArg AI; rw [‹fidxI (outR xs.length) a 0 = _›]; first | exact (fidxI_end (by omega)).symm | exact (fidxI_hit (by omega) (by assumption)).symm) | (exfalso; omega)))

theorem containsI_c (a : List Int) (xs : List Int) (hl : a.length ≤ 1000000000) : CallA Try.prog 61 [LI a, .fn 100 [.rptr [LI xs]]] (.bool (a.any (outR xs.length))) := by
  refine CallA.of Try.func61 rfl (by kernel_rfl) ?_
  refine R.go 8 (R.call true (indexI_c a xs hl) (by kernel_rfl) rfl (by kernel_rfl) ?_)
  exact R.go 3 (R.retE (.bool (decide ((fidxI (outR xs.length) a 0) ≥ 0))) (by kernel_rfl) (by kernel_rfl) (by first | (apply congrArg AV.bool; rw [Bool.eq_iff_iff, decide_eq_true_iff]; exact fidxI_any (Int.le_refl 0)) | (exfalso; omega)))

theorem isRelation_c (xs : List Int) (hl : xs.length ≤ 1000000000) : CallA Try.prog 81 [LI xs] (.bool (!(xs.any (outR xs.length)))) := by
  refine CallA.of Try.func81 rfl (by kernel_rfl) ?_
  refine R.go 9 (R.call false (containsI_c xs xs hl) (by kernel_rfl) rfl (by kernel_rfl) ?_)
  exact R.go 3 (R.retE (.bool (!(xs.any (outR xs.length)))) (by kernel_rfl) (by kernel_rfl) (by rfl))

theorem l01Masks_c (n : Int) (xs : List Int) (hl : xs.length ≤ 1000000000) (h0 : 0 ≤ n) (h1 : n ≤ 62) : CallA Try.prog 53 [AI n, LI xs] (.bool (!(xs.any fun m => !inR m 0 ((shl64 1 n) - 1)))) := by
  refine CallA.of Try.func53 rfl (by kernel_rfl) ?_
  refine R.go 10 (R.loop (fun (i : Nat) => (⟨(frm 20 [(0, AI n), (1, LI xs), (5, AI (i : Int))]), []⟩ : St)) (fun (i : Nat) => (i ≤ xs.length) ∧ ((xs.any fun m => !inR m 0 ((shl64 1 n) - 1)) = (xs.drop i).any fun m => !inR m 0 ((shl64 1 n) - 1))) (fun (i : Nat) => xs.length - i) 0 [0, 1, 5] none (by kernel_rfl) (by kernel_rfl) (by kernel_rfl) ⟨(by omega), (by rfl)⟩ ?_)
  rintro i ⟨h3_1, h3_2⟩ R1 N2
  refine R.go 8 (R.cond ((i : Int) < (xs.length : Int)) (by kernel_rfl) (fun c4 => ?_) (fun c4 => ?_))
  · refine R.go 7 (R.idx eI xs 0 i (i : Int) (by kernel_rfl) rfl eI_len (by omega) (by kernel_rfl) ?_)
    refine R.go 2 (R.call true (l01Full_c n h0 h1) (by kernel_rfl) rfl (by kernel_rfl) ?_)
    refine R.call true (l01In_c (xs.getD i 0) 0 ((shl64 1 n) - 1)) (by kernel_rfl) rfl (by kernel_rfl) ?_
    refine R.go 2 (R.condM (inR (xs.getD i 0) 0 ((shl64 1 n) - 1)) (by kernel_rfl) (fun c5 => ?_) (fun c5 => ?_))
    · exact R.go 4 (R.retE (.bool false) (by kernel_rfl) (by kernel_rfl) (by first | (apply congrArg AV.bool; rw [‹(xs.any fun m => !inR m 0 ((shl64 1 n) - 1)) = _›]; first | (rw [anyI_end (by omega)]; rfl) | (rw [anyI_hit (by omega) (by simpa using ‹inR _ _ _ = false›)]; rfl)) | (exfalso; omega)))
    · refine R.go 4 (R.ar ((i : Int) + 1) (by kernel_rfl) (by omega) (by omega) (by kernel_rfl) ?_)
      exact R.go 2 (R.stop R1 (by kernel_rfl) (N2 (i + 1) [0, 1, 5] none _ (by kernel_rfl) (by kernel_rfl) ⟨(by omega), (by rw [‹(xs.any fun m => !inR m 0 ((shl64 1 n) - 1)) = _›]; exact anyI_miss (p := fun m => !inR m 0 ((shl64 1 n) - 1)) (by omega) (by simpa using ‹inR _ _ _ = true›))⟩ (by show (xs.length - (i + 1)) < (xs.length - i); omega)))
  · exact R.go 5 (R.retE (.bool true) (by kernel_rfl) (by kernel_rfl) (by first | (apply congrArg AV.bool; rw [‹(xs.any fun m => !inR m 0 ((shl64 1 n) - 1)) = _›]; first | (rw [anyI_end (by omega)]; rfl) | (rw [anyI_hit (by omega) (by simpa using ‹inR _ _ _ = false›)]; rfl)) | (exfalso; omega)))

theorem l05Is_c (n : Int) (xs : List Int) (hl : xs.length ≤ 1000000000) : CallA Try.prog 52 [.agg [AI n, LI xs]] (.bool (okFr n xs)) := by
  have hn := fun h : inR n 0 8 = true => (inR_iff _ _ _).1 h
  refine CallA.of Try.func52 rfl (by kernel_rfl) ?_
  refine R.go 9 (R.call true (l01In_c n 0 8) (by kernel_rfl) rfl (by kernel_rfl) ?_)
  refine R.go 1 ?_
  refine (Bool.eq_false_or_eq_true (inR n 0 8)).elim (fun c1 => ?_) (fun c1 => ?_)
  · refine R.want (inR n 0 8) true (by kernel_rfl) c1 ?_
    refine R.go 1 (R.want (inR n 0 8) true (by kernel_rfl) c1 ?_)
    refine R.go 1 (R.want (inR n 0 8) true (by kernel_rfl) c1 ?_)
    refine R.go 1 (R.want (inR n 0 8) true (by kernel_rfl) c1 ?_)
    refine R.go 1 (R.want (inR n 0 8) true (by kernel_rfl) c1 ?_)
    refine R.go 1 (R.want (inR n 0 8) true (by kernel_rfl) c1 ?_)
    refine R.go 1 (R.pick (inR n 0 8) true (by kernel_rfl) c1 (by kernel_rfl) ?_)
    refine R.go 1 ?_
    by_cases c2 : (xs.length : Int) = n
    · refine R.want (decide ((xs.length : Int) = n)) true (by kernel_rfl) (dT c2) ?_
      refine R.go 1 (R.want (decide ((xs.length : Int) = n)) true (by kernel_rfl) (dT c2) ?_)
      refine R.go 1 (R.want (decide ((xs.length : Int) = n)) true (by kernel_rfl) (dT c2) ?_)
      refine R.go 1 (R.want (decide ((xs.length : Int) = n)) true (by kernel_rfl) (dT c2) ?_)
      refine R.go 1 (R.want (decide ((xs.length : Int) = n)) true (by kernel_rfl) (dT c2) ?_)
      refine R.call true (l01Masks_c n xs hl (by first | omega | (simp only [inR_iff, inR_not] at *; omega)) (by first | omega | (simp only [inR_iff, inR_not] at *; omega))) (by kernel_rfl) rfl (by kernel_rfl) ?_
      refine R.pick (decide ((xs.length : Int) = n)) true (by kernel_rfl) (dT c2) (by kernel_rfl) ?_
      exact R.go 2 (R.retE (.bool (!(xs.any fun m => !inR m 0 ((shl64 1 n) - 1)))) (by kernel_rfl) (by kernel_rfl) (by first | (apply congrArg AV.bool; first | exact (okFr_no (by assumption)).symm | exact (okFr_ne (by assumption)).symm | exact (okFr_yes (by assumption) (by assumption)).symm) | (exfalso; omega)))
    · refine R.skp (decide ((xs.length : Int) = n)) true (by kernel_rfl) (dF c2) (by kernel_rfl) ?_
      refine R.skp (decide ((xs.length : Int) = n)) true (by kernel_rfl) (dF c2) (by kernel_rfl) ?_
      refine R.skp (decide ((xs.length : Int) = n)) true (by kernel_rfl) (dF c2) (by kernel_rfl) ?_
      refine R.skp (decide ((xs.length : Int) = n)) true (by kernel_rfl) (dF c2) (by kernel_rfl) ?_
      refine R.skp (decide ((xs.length : Int) = n)) true (by kernel_rfl) (dF c2) (by kernel_rfl) ?_
      refine R.pick (decide ((xs.length : Int) = n)) false (by kernel_rfl) (dF c2) (by kernel_rfl) ?_
      exact R.go 2 (R.retE (.bool false) (by kernel_rfl) (by kernel_rfl) (by first | (apply congrArg AV.bool; first | exact (okFr_no (by assumption)).symm | exact (okFr_ne (by assumption)).symm | exact (okFr_yes (by assumption) (by assumption)).symm) | (exfalso; omega)))
  · refine R.skp (inR n 0 8) true (by kernel_rfl) c1 (by kernel_rfl) ?_
    refine R.skp (inR n 0 8) true (by kernel_rfl) c1 (by kernel_rfl) ?_
    refine R.skp (inR n 0 8) true (by kernel_rfl) c1 (by kernel_rfl) ?_
    refine R.skp (inR n 0 8) true (by kernel_rfl) c1 (by kernel_rfl) ?_
    refine R.skp (inR n 0 8) true (by kernel_rfl) c1 (by kernel_rfl) ?_
    refine R.skp (inR n 0 8) true (by kernel_rfl) c1 (by kernel_rfl) ?_
    refine R.pick (inR n 0 8) false (by kernel_rfl) c1 (by kernel_rfl) ?_
    exact R.go 9 (R.retE (.bool false) (by kernel_rfl) (by kernel_rfl) (by first | (apply congrArg AV.bool; first | exact (okFr_no (by assumption)).symm | exact (okFr_ne (by assumption)).symm | exact (okFr_yes (by assumption) (by assumption)).symm) | (exfalso; omega)))

theorem isFrame_c (n : Int) (xs : List Int) (hl : xs.length ≤ 1000000000) : CallA Try.prog 60 [.agg [AI n, LI xs]] (.bool (okFr n xs)) := by
  have hn := fun h : inR n 0 8 = true => (inR_iff _ _ _).1 h
  refine CallA.of Try.func60 rfl (by kernel_rfl) ?_
  refine R.go 9 (R.call true (inRange_c n 0 8) (by kernel_rfl) rfl (by kernel_rfl) ?_)
  refine R.go 1 ?_
  refine (Bool.eq_false_or_eq_true (inR n 0 8)).elim (fun c1 => ?_) (fun c1 => ?_)
  · refine R.want (inR n 0 8) true (by kernel_rfl) c1 ?_
    refine R.go 1 (R.want (inR n 0 8) true (by kernel_rfl) c1 ?_)
    refine R.go 1 (R.want (inR n 0 8) true (by kernel_rfl) c1 ?_)
    refine R.call true (size_c xs) (by kernel_rfl) rfl (by kernel_rfl) ?_
    refine R.want (inR n 0 8) true (by kernel_rfl) c1 ?_
    refine R.go 1 (R.want (inR n 0 8) true (by kernel_rfl) c1 ?_)
    refine R.go 1 (R.want (inR n 0 8) true (by kernel_rfl) c1 ?_)
    refine R.go 1 (R.pick (inR n 0 8) true (by kernel_rfl) c1 (by kernel_rfl) ?_)
    refine R.go 1 ?_
    by_cases c2 : (xs.length : Int) = n
    · refine R.want (decide ((xs.length : Int) = n)) true (by kernel_rfl) (dT c2) ?_
      refine R.go 1 (R.want (decide ((xs.length : Int) = n)) true (by kernel_rfl) (dT c2) ?_)
      refine R.go 1 (R.want (decide ((xs.length : Int) = n)) true (by kernel_rfl) (dT c2) ?_)
      refine R.call true (isRelation_c xs hl) (by kernel_rfl) rfl (by kernel_rfl) ?_
      refine R.pick (decide ((xs.length : Int) = n)) true (by kernel_rfl) (dT c2) (by kernel_rfl) ?_
      exact R.go 2 (R.retE (.bool (!(xs.any (outR xs.length)))) (by kernel_rfl) (by kernel_rfl) (by first | (apply congrArg AV.bool; first | exact (okFr_no (by assumption)).symm | exact (okFr_ne (by assumption)).symm | exact okFr_out (by assumption) (by assumption)) | (exfalso; omega)))
    · refine R.skp (decide ((xs.length : Int) = n)) true (by kernel_rfl) (dF c2) (by kernel_rfl) ?_
      refine R.skp (decide ((xs.length : Int) = n)) true (by kernel_rfl) (dF c2) (by kernel_rfl) ?_
      refine R.skp (decide ((xs.length : Int) = n)) true (by kernel_rfl) (dF c2) (by kernel_rfl) ?_
      refine R.pick (decide ((xs.length : Int) = n)) false (by kernel_rfl) (dF c2) (by kernel_rfl) ?_
      exact R.go 2 (R.retE (.bool false) (by kernel_rfl) (by kernel_rfl) (by first | (apply congrArg AV.bool; first | exact (okFr_no (by assumption)).symm | exact (okFr_ne (by assumption)).symm | exact okFr_out (by assumption) (by assumption)) | (exfalso; omega)))
  · refine R.skp (inR n 0 8) true (by kernel_rfl) c1 (by kernel_rfl) ?_
    refine R.skp (inR n 0 8) true (by kernel_rfl) c1 (by kernel_rfl) ?_
    refine R.skp (inR n 0 8) true (by kernel_rfl) c1 (by kernel_rfl) ?_
    refine R.skp (inR n 0 8) true (by kernel_rfl) c1 (by kernel_rfl) ?_
    refine R.skp (inR n 0 8) true (by kernel_rfl) c1 (by kernel_rfl) ?_
    refine R.skp (inR n 0 8) true (by kernel_rfl) c1 (by kernel_rfl) ?_
    refine R.pick (inR n 0 8) false (by kernel_rfl) c1 (by kernel_rfl) ?_
    exact R.go 7 (R.retE (.bool false) (by kernel_rfl) (by kernel_rfl) (by first | (apply congrArg AV.bool; first | exact (okFr_no (by assumption)).symm | exact (okFr_ne (by assumption)).symm | exact okFr_out (by assumption) (by assumption)) | (exfalso; omega)))

theorem l01Bit_c (m : Int) (i : Int) (h0 : 0 ≤ i) (h1 : i ≤ 62) : CallA Try.prog 34 [AI m, AI i] (.bool (decide (band (shr64 m i) 1 = 1))) := by
  refine CallA.of Try.func34 rfl (by kernel_rfl) ?_
  refine R.go 8 (R.cv .u64 i (by kernel_rfl) (u64_id (by omega) (by omega)) (by kernel_rfl) ?_)
  refine R.shr m i (by kernel_rfl) (by omega) (by kernel_rfl) ?_
  exact R.go 4 (R.retE (.bool (decide ((band (shr64 m i) 1) = 1))) (by kernel_rfl) (by kernel_rfl) (by first | (rfl) | (exfalso; omega)))

theorem clone_c (xs : List Int) (hl : xs.length ≤ 1000000000) : CallA Try.prog 68 [LI xs] (ownA eI 2 1 xs) := by
  refine CallA.of Try.func68 rfl (by kernel_rfl) ?_
  refine R.go 8 (R.isNil xs.length (by kernel_rfl) (by kernel_rfl) (fun c1 => ?_) ?_)
  · refine R.go 6 (R.nil 2 2 1 (by kernel_rfl) ?_)
    exact R.retE (ownA eI 2 1 []) (by kernel_rfl) (by kernel_rfl) (by first | (first | rfl | rw [List.eq_nil_of_length_eq_zero (l := xs) (by assumption)]) | (exfalso; omega))
  · refine R.go 7 (R.app eI [] xs 0 2 1 8 (by kernel_rfl) eI_one (by decide) (by first | omega | (simp <;> omega)) (by kernel_rfl) ?_)
    exact R.go 2 (R.retE (ownA eI 2 1 ([] ++ xs)) (by kernel_rfl) (by kernel_rfl) (by first | (first | rfl | rw [List.eq_nil_of_length_eq_zero (l := xs) (by assumption)]) | (exfalso; omega)))

end Go.Proofs.Ytpalghbfhgimkaa
