/- Texts of the proof: RI5, Symq, Symr, RI6, RI7. -/
import Derived.Shelf.SlSortCmp.WholeK
import Derived.Shelf.SlSortCmp.NoneTotal
import Derived.Sort.OwnSortedInts
import Derived.Test.YtehbliocfpppoaaGreatPartI

/-! Least forms by the program: the row that is handed back is one's own. -/
namespace Go.Proofs.YtehbliocfpppoaaGreat
open Go.RowKit Go.Abs
theorem ls_len {n : Int} {xs X b b2 : List Int} (hb : b.length ≤ 1000) (hX : PM n X) (h8 : n ≤ 8) (h : b2 = if cmpL (reo xs X) b < 0 then reo xs X else b) : b2.length ≤ 1000 := by
 have := reo_len xs X
 have := hX.1
 rw [h]; split <;> omega
theorem leastStep_c (n : Int) (xs bst X : List Int) (b : Nat) (v : Value) (hF : okFr n xs = true) (ho : PM n X) (hb : bst.length ≤ 1000) (hv : ∀ g, blk v = some g → b ≤ g) : CallX Tryz.prog 93 [.ref 5, .ptr 1 0, .ptr 2 0] [.inert (.base b), .box 22 [LI xs], .box 22 [.nam v (some 2) 1 bst.length (rows eI bst)], .box 2 [AI n], .box 113 [.fn 93 [.ptr 1 0, .ptr 2 0]], rowA eI 2 1 X, .box 22 [.ref 5], .box 156 [.fn 172 [.ptr 6 0, .ptr 3 0, .ptr 4 0, .ptr 7 0]]] (fun (resX : AV) (objX : List AObj) => ∃ v2 : Value, ∃ b2 : List Int, (b2 = if cmpL (reo xs X) bst < 0 then reo xs X else bst) ∧ (∀ g, blk v2 = some g → b ≤ g) ∧ resX = .tup [] ∧ objX = [.inert (.base b), .box 22 [LI xs], .box 22 [.nam v2 (some 2) 1 b2.length (rows eI b2)], .box 2 [AI n], .box 113 [.fn 93 [.ptr 1 0, .ptr 2 0]], rowA eI 2 1 X, .box 22 [.ref 5], .box 156 [.fn 172 [.ptr 6 0, .ptr 3 0, .ptr 4 0, .ptr 7 0]]]) := by
 have hol : X.length ≤ 8 := by have := (okFr_rel hF).2.1; have := ho.1; omega
 have hrl := reo_len xs X
 refine CallX.dropE (CallX.ofF Tryz.func93 rfl (by kernel_rfl) ?_)
 intro usC frC hfC
 refine R.go 4 (k20 false (reo_c n xs X hF ho) ?_ (hr := ownA_closed eI_closed 2 1 (reo xs X)))
 refine R.go 4 (R.pin 9 2 1 (reo xs X).length (rows eI (reo xs X)) (by kernel_rfl) (by kernel_rfl) ?_)
 intro v1 hn2
 have hb3 : ∀ g, blk v1 = some g → b ≤ g := newN_base hn2 0 (by kernel_rfl)
 clear hn2
 refine R.kfix 8 (us := usC) (by kernel_rfl) (hfC.frz 9 (.nam v1 (some 2) 1 (reo xs X).length (rows eI (reo xs X))) (Nat.le_of_ble_eq_true (by kernel_rfl))) (R.go 2 (R.callW (avs0 := [.nam v1 (some 2) 1 (reo xs X).length (rows eI (reo xs X)), .nam v (some 2) 1 bst.length (rows eI bst)]) (cmpL_c (reo xs X) bst (by first | omega | (simp <;> omega)) (by first | omega | (simp <;> omega))) (by kernel_rfl) (.cons (.wk (.leaf rfl) (fun w Z u h => fgt1 w Z u h)) (.cons (.wk (.leaf rfl) (fun w Z u h => fgt1 w Z u h)) (.nil))) rfl (by kernel_rfl) (R.go 2 (k9 ((cmpL (reo xs X) bst) < 0) (fun c4 => ?_) (fun c4 => ?_)))))
 ·exact R.go 4 (R.retX (res := .tup []) (hp' := [.inert (.base b), .box 22 [LI xs], .box 22 [.nam v1 (some 2) 1 (reo xs X).length (rows eI (reo xs X))], .box 2 [AI n], .box 113 [.fn 93 [.ptr 1 0, .ptr 2 0]], rowA eI 2 1 X, .box 22 [.ref 5], .box 156 [.fn 172 [.ptr 6 0, .ptr 3 0, .ptr 4 0, .ptr 7 0]], .dead, .dead]) (by kernel_rfl) (by kernel_rfl) (by kernel_rfl) (by kernel_rfl) ⟨[0, 1, 2, 3, 4, 5, 6, 7], by kernel_rfl, by decide, v1, reo xs X, by first | assumption | (rw [if_pos (by assumption)]) | (rw [if_neg (by assumption)]), by first | assumption | (rw [if_pos (by assumption)]) | (rw [if_neg (by assumption)]), by kernel_rfl, by kernel_rfl⟩)
 exact R.go 1 (R.retX (res := .tup []) (hp' := [.inert (.base b), .box 22 [LI xs], .box 22 [.nam v (some 2) 1 bst.length (rows eI bst)], .box 2 [AI n], .box 113 [.fn 93 [.ptr 1 0, .ptr 2 0]], rowA eI 2 1 X, .box 22 [.ref 5], .box 156 [.fn 172 [.ptr 6 0, .ptr 3 0, .ptr 4 0, .ptr 7 0]], .dead, .dead]) (by kernel_rfl) (by kernel_rfl) (by kernel_rfl) (by kernel_rfl) ⟨[0, 1, 2, 3, 4, 5, 6, 7], by kernel_rfl, by decide, v, bst, by first | assumption | (rw [if_pos (by assumption)]) | (rw [if_neg (by assumption)]), by first | assumption | (rw [if_pos (by assumption)]) | (rw [if_neg (by assumption)]), by kernel_rfl, by kernel_rfl⟩)
theorem grow_c : ∀ (d : Nat) (n : Int) (xs bst X : List Int) (u : Int) (b : Nat) (v : Value) (hd : X.length + d = n.toNat) (hF : okFr n xs = true) (hX : PX n X u) (hb : bst.length ≤ 1000) (hv : ∀ g, blk v = some g → b ≤ g), CallY Tryz.prog 5 172 [AI u, .ptr 6 0, .ptr 3 0, .ptr 4 0, .ptr 7 0] [.inert (.base b), .box 22 [LI xs], .box 22 [.nam v (some 2) 1 bst.length (rows eI bst)], .box 2 [AI n], .box 113 [.fn 93 [.ptr 1 0, .ptr 2 0]], rowA eI 2 1 X, .box 22 [.ref 5], .box 156 [.fn 172 [.ptr 6 0, .ptr 3 0, .ptr 4 0, .ptr 7 0]]] (fun (resX : AV) (objX : List AObj) => ∃ v2 : Value, ∃ b2 : List Int, (LST n xs X bst b2 ∧ b2.length ≤ 1000) ∧ (∀ g, blk v2 = some g → b ≤ g) ∧ resX = .tup [] ∧ objX = [.inert (.base b), .box 22 [LI xs], .box 22 [.nam v2 (some 2) 1 b2.length (rows eI b2)], .box 2 [AI n], .box 113 [.fn 93 [.ptr 1 0, .ptr 2 0]], rowA eI 2 1 X, .box 22 [.ref 5], .box 156 [.fn 172 [.ptr 6 0, .ptr 3 0, .ptr 4 0, .ptr 7 0]]]) := by
 intro d
 induction d using Nat.strongRecOn with
 | _ d ih =>
 intro n xs bst X u b v hd hF hX hb hv
 have hFr := okFr_rel hF
 have hb0 : 0 ≤ n ∧ n ≤ 8 := ⟨hFr.1, hFr.2.1⟩
 have hpm := fun h : X.length = n.toNat => px_pm hX h
 have hu61 := inM_mono (n' := 61) (by omega) hX.2.2.1
 refine CallY.dropE (CallY.ofF Tryz.func172 rfl (by kernel_rfl) ?_)
 intro usC frC hfC hkC
 refine R.go 2 (R.meet (⟨(frm 38 [(0, AI u), (1, .ptr 6 0), (2, .ptr 3 0), (3, .ptr 4 0), (4, .ptr 7 0), (7, .ref 5), (8, AI X.length), (9, AI n), (10, .bool (decide ((X.length : Int) = n)))]), [.inert (.base b), .box 22 [LI xs], .box 22 [.nam v (some 2) 1 bst.length (rows eI bst)], .box 2 [AI n], .box 113 [.fn 93 [.ptr 1 0, .ptr 2 0]], rowA eI 2 1 X, .box 22 [.ref 5], .box 156 [.fn 172 [.ptr 6 0, .ptr 3 0, .ptr 4 0, .ptr 7 0]], .frame usC frC]⟩ : St) (by kernel_rfl) ?_ ?_)
 ·refine R.any (by decide +kernel) (by kernel_rfl) (k28 0 2 ?_ ?_)
  ·refine R.go 2 (k28 1 2 ?_ ?_)
   ·refine k20 false (size_c X) (R.go 1 (k27 2 (R.go 2 (k27 3 (R.go 2 (k26 ?_))))))
    exact k31
   refine R.go 2 (k27 1 (k20 false (size_c X) (R.go 1 (k27 3 (R.go 2 (k26 ?_))))))
   exact k31
  refine R.go 2 (k27 0 (R.go 2 (k27 1 (k20 false (size_c X) (R.go 1 (k27 3 (R.go 2 (k26 ?_))))))))
  exact k31
 refine k9 ((X.length : Int) = n) (fun c1 => ?_) (fun c1 => ?_)
 ·refine R.go 4 (R.callX (CallX.inF 8 usC frC (leastStep_c n xs bst X b v (by assumption) (by first | assumption | exact hpm (by omega)) hb hv) (Nat.le_of_ble_eq_true (by kernel_rfl)) (by kernel_rfl) (by kernel_rfl) (by rintro _ _ ⟨_, _, _, _, rfl, rfl⟩; exact Nat.le_of_ble_eq_true (by kernel_rfl))) (by kernel_rfl) (by kernel_rfl) (by kernel_rfl) ?_)
  rintro _ _ ⟨_, _, ⟨v2_2, b2_3, f4, f5, rfl, rfl⟩, rfl, rfl⟩
  exact R.go 1 (R.retX (res := .tup []) (hp' := [.inert (.base b), .box 22 [LI xs], .box 22 [.nam v2_2 (some 2) 1 b2_3.length (rows eI b2_3)], .box 2 [AI n], .box 113 [.fn 93 [.ptr 1 0, .ptr 2 0]], rowA eI 2 1 X, .box 22 [.ref 5], .box 156 [.fn 172 [.ptr 6 0, .ptr 3 0, .ptr 4 0, .ptr 7 0]], .dead]) (by kernel_rfl) (by kernel_rfl) (by kernel_rfl) (by kernel_rfl) ⟨[0, 1, 2, 3, 4, 5, 6, 7], by kernel_rfl, by decide, v2_2, b2_3, by first | assumption | exact ⟨ls_end (by assumption) (by assumption) (by omega), by assumption⟩ | exact ⟨ls_one (hpm (by omega)) (by assumption), ls_len hb (hpm (by omega)) hb0.2 (by assumption)⟩, by first | assumption | exact ⟨ls_end (by assumption) (by assumption) (by omega), by assumption⟩ | exact ⟨ls_one (hpm (by omega)) (by assumption), ls_len hb (hpm (by omega)) hb0.2 (by assumption)⟩, by kernel_rfl, by kernel_rfl⟩)
 refine R.go 7 (k21 ((fun | (i, vI, bI, Z) => (⟨(frm 38 [(0, AI u), (1, .ptr 6 0), (4, .ptr 7 0), (14, AI n), (15, AI (i : Int))]), [.inert (.base b), .box 22 [LI xs], .box 22 [.nam vI (some 2) 1 bI.length (rows eI bI)], .box 2 [AI n], .box 113 [.fn 93 [.ptr 1 0, .ptr 2 0]], rowA eI 2 1 Z, .box 22 [.ref 5], .box 156 [.fn 172 [.ptr 6 0, .ptr 3 0, .ptr 4 0, .ptr 7 0]], .frame usC frC]⟩ : St) : Nat × Value × (List Int) × (List Int) → St)) (fun | (i, vI, bI, Z) => ((i : Int) ≤ n) ∧ (LSI n xs X i bst bI) ∧ (bI.length ≤ 1000) ∧ (∀ g, blk vI = some g → b ≤ g) ∧ (X = Z)) (fun | (i, vI, bI, Z) => n.toNat - i) (0, v, bst, X) [0, 1, 4, 14, 15] none ⟨(by omega), (by exact ls_0 n xs X bst fun o h => pm_nn h _), (by omega), (by assumption), (by rfl)⟩ ?_)
 rintro ⟨i, vI, bI, Z⟩ ⟨h9_1, h9_2, h9_3, h9_4, rfl⟩ R6 N7
 have hsn : (X ++ [(i : Int)]).length = X.length + 1 := by simp
 refine R.go 5 (k9 ((i : Int) < n) (fun c10 => ?_) (fun c10 => ?_))
 ·refine R.go 12 (k20 true (has_c u (i : Int) (by omega)) (R.go 2 (k10 (band (shr64 u (i : Int)) 1 = 1) (fun c11 => ?_) (fun c11 => ?_))))
  ·refine R.go 5 (k19 eI X [(i : Int)] 5 2 1 8 eI_one (R.kfix 8 (us := usC) (by kernel_rfl) hkC (k24 9 (R.kfix 8 (us := usC) (by kernel_rfl) (hfC.frz 9 (LI [(i : Int)]) (Nat.le_of_ble_eq_true (by kernel_rfl))) (R.deadF 9 (by kernel_rfl) (by kernel_rfl) (R.go 3 (R.any (by decide +kernel) (by kernel_rfl) (k30 1 ?_ (np := np_retX _ _ _ _ _ _)))))))))
   refine k30 2 ?_ (np := np_retX _ _ _ _ _ _)
   refine k28 0 3 ?_ ?_
   ·refine R.go 2 (k27 3 (R.shl 1 (i : Int) (by kernel_rfl) (by omega) (by kernel_rfl) (R.go 1 (k27 4 (R.go 2 (k27 5 (R.callZ (CallY.inF 8 usC frC (CallY.inF 8 [] [] (ih (n.toNat - ((X ++ [(i : Int)]) : List Int).length) (by omega) n xs bI (X ++ [(i : Int)]) (bor u (shl64 1 (i : Int))) b vI (by first | omega | (simp; done) | (simp; omega)) (by assumption) (by first | assumption | exact px_step (by omega) hX (by omega) (by assumption)) h9_3 h9_4) (Nat.le_of_ble_eq_true (by kernel_rfl)) (by kernel_rfl) (by kernel_rfl) (by rintro _ _ ⟨_, _, _, _, rfl, rfl⟩; exact Nat.le_of_ble_eq_true (by kernel_rfl)) 5 rfl (by kernel_rfl)) (Nat.le_of_ble_eq_true (by kernel_rfl)) (by kernel_rfl) (by kernel_rfl) (by rintro _ _ ⟨_, _, ⟨_, _, _, _, rfl, rfl⟩, rfl, rfl⟩; exact Nat.le_of_ble_eq_true (by kernel_rfl)) 5 rfl hkC) (by kernel_rfl) (by kernel_rfl) (by kernel_rfl) ?_)))))))
    rintro _ _ ⟨_, _, ⟨_, _, ⟨v2_12, b2_13, f14, f15, rfl, rfl⟩, rfl, rfl⟩, rfl, rfl⟩
    refine R.go 1 (k26 (R.go 4 (k8 (((X ++ [(i : Int)]).length : Int) - 1) (R.cut eI (X ++ [(i : Int)]) 5 2 ((((X ++ [(i : Int)]).length : Int) - 1).toNat) (((X ++ [(i : Int)]).length : Int) - 1) (by kernel_rfl) (by omega) eI_len (by first | omega | (simp only [List.length_set]; omega) | (simp <;> omega)) (by kernel_rfl) (R.kfix 8 (us := usC) (by kernel_rfl) hkC (R.go 4 (k8 ((i : Int) + 1) ?_)))))))
    exact R.go 2 (k22 R6 (N7 (i + 1, v2_12, b2_13, (X ++ [(i : Int)]).take ((((X ++ [(i : Int)]).length : Int) - 1).toNat)) [0, 1, 4, 14, 15] (some [0, 1, 2, 3, 4, 5, 6, 7, 8]) _ (by kernel_rfl) (canonF (fr := frC) (fun (frX : List AV) => (⟨(frm 38 [(0, AI u), (1, .ptr 6 0), (4, .ptr 7 0), (14, AI n), (15, AI ((i : Int) + 1))]), [.inert (.base b), .box 22 [LI xs], .box 22 [.nam v2_12 (some 2) 1 b2_13.length (rows eI b2_13)], .box 2 [AI n], .box 113 [.fn 93 [.ptr 1 0, .ptr 2 0]], rowA eI 2 1 ((X ++ [(i : Int)]).take ((((X ++ [(i : Int)]).length : Int) - 1).toNat)), .box 22 [.ref 5], .box 156 [.fn 172 [.ptr 6 0, .ptr 3 0, .ptr 4 0, .ptr 7 0]], .frame usC frX]⟩ : St)) (hfC.ren _ (by kernel_rfl)) (by kernel_rfl) (by kernel_rfl)) ⟨(by omega), (by first | exact ls_skip hb0.2 hX (by assumption) (by omega) (by omega) (by assumption) | exact ls_rec (by assumption) (by omega) ((by assumption : LST n xs (X ++ [(i : Int)]) bI _ ∧ _).1)), (by omega), (by assumption), (by first | rfl | exact (cut_snoc _ _ (by simp)).symm)⟩ (by show (n.toNat - (i + 1)) < (n.toNat - i); omega)))
   refine R.shl 1 (i : Int) (by kernel_rfl) (by omega) (by kernel_rfl) (R.go 1 (k28 0 4 ?_ ?_))
   ·refine R.go 2 (k27 4 (R.go 2 (k27 5 (R.callZ (CallY.inF 8 usC frC (CallY.inF 8 [] [] (ih (n.toNat - ((X ++ [(i : Int)]) : List Int).length) (by omega) n xs bI (X ++ [(i : Int)]) (bor u (shl64 1 (i : Int))) b vI (by first | omega | (simp; done) | (simp; omega)) (by assumption) (by first | assumption | exact px_step (by omega) hX (by omega) (by assumption)) h9_3 h9_4) (Nat.le_of_ble_eq_true (by kernel_rfl)) (by kernel_rfl) (by kernel_rfl) (by rintro _ _ ⟨_, _, _, _, rfl, rfl⟩; exact Nat.le_of_ble_eq_true (by kernel_rfl)) 5 rfl (by kernel_rfl)) (Nat.le_of_ble_eq_true (by kernel_rfl)) (by kernel_rfl) (by kernel_rfl) (by rintro _ _ ⟨_, _, ⟨_, _, _, _, rfl, rfl⟩, rfl, rfl⟩; exact Nat.le_of_ble_eq_true (by kernel_rfl)) 5 rfl hkC) (by kernel_rfl) (by kernel_rfl) (by kernel_rfl) ?_))))
    rintro _ _ ⟨_, _, ⟨_, _, ⟨v2_16, b2_17, f18, f19, rfl, rfl⟩, rfl, rfl⟩, rfl, rfl⟩
    refine R.go 1 (k26 (R.go 4 (k8 (((X ++ [(i : Int)]).length : Int) - 1) (R.cut eI (X ++ [(i : Int)]) 5 2 ((((X ++ [(i : Int)]).length : Int) - 1).toNat) (((X ++ [(i : Int)]).length : Int) - 1) (by kernel_rfl) (by omega) eI_len (by first | omega | (simp only [List.length_set]; omega) | (simp <;> omega)) (by kernel_rfl) (R.kfix 8 (us := usC) (by kernel_rfl) hkC (R.go 4 (k8 ((i : Int) + 1) ?_)))))))
    exact R.go 2 (k22 R6 (N7 (i + 1, v2_16, b2_17, (X ++ [(i : Int)]).take ((((X ++ [(i : Int)]).length : Int) - 1).toNat)) [0, 1, 4, 14, 15] (some [0, 1, 2, 3, 4, 5, 6, 7, 8]) _ (by kernel_rfl) (canonF (fr := frC) (fun (frX : List AV) => (⟨(frm 38 [(0, AI u), (1, .ptr 6 0), (4, .ptr 7 0), (14, AI n), (15, AI ((i : Int) + 1))]), [.inert (.base b), .box 22 [LI xs], .box 22 [.nam v2_16 (some 2) 1 b2_17.length (rows eI b2_17)], .box 2 [AI n], .box 113 [.fn 93 [.ptr 1 0, .ptr 2 0]], rowA eI 2 1 ((X ++ [(i : Int)]).take ((((X ++ [(i : Int)]).length : Int) - 1).toNat)), .box 22 [.ref 5], .box 156 [.fn 172 [.ptr 6 0, .ptr 3 0, .ptr 4 0, .ptr 7 0]], .frame usC frX]⟩ : St)) (hfC.ren _ (by kernel_rfl)) (by kernel_rfl) (by kernel_rfl)) ⟨(by omega), (by first | exact ls_skip hb0.2 hX (by assumption) (by omega) (by omega) (by assumption) | exact ls_rec (by assumption) (by omega) ((by assumption : LST n xs (X ++ [(i : Int)]) bI _ ∧ _).1)), (by omega), (by assumption), (by first | rfl | exact (cut_snoc _ _ (by simp)).symm)⟩ (by show (n.toNat - (i + 1)) < (n.toNat - i); omega)))
   refine R.go 2 (k27 0 (R.go 2 (k27 5 (R.callZ (CallY.inF 8 usC frC (CallY.inF 8 [] [] (ih (n.toNat - ((X ++ [(i : Int)]) : List Int).length) (by omega) n xs bI (X ++ [(i : Int)]) (bor u (shl64 1 (i : Int))) b vI (by first | omega | (simp; done) | (simp; omega)) (by assumption) (by first | assumption | exact px_step (by omega) hX (by omega) (by assumption)) h9_3 h9_4) (Nat.le_of_ble_eq_true (by kernel_rfl)) (by kernel_rfl) (by kernel_rfl) (by rintro _ _ ⟨_, _, _, _, rfl, rfl⟩; exact Nat.le_of_ble_eq_true (by kernel_rfl)) 5 rfl (by kernel_rfl)) (Nat.le_of_ble_eq_true (by kernel_rfl)) (by kernel_rfl) (by kernel_rfl) (by rintro _ _ ⟨_, _, ⟨_, _, _, _, rfl, rfl⟩, rfl, rfl⟩; exact Nat.le_of_ble_eq_true (by kernel_rfl)) 5 rfl hkC) (by kernel_rfl) (by kernel_rfl) (by kernel_rfl) ?_))))
   rintro _ _ ⟨_, _, ⟨_, _, ⟨v2_20, b2_21, f22, f23, rfl, rfl⟩, rfl, rfl⟩, rfl, rfl⟩
   refine R.go 1 (k26 (R.go 4 (k8 (((X ++ [(i : Int)]).length : Int) - 1) (R.cut eI (X ++ [(i : Int)]) 5 2 ((((X ++ [(i : Int)]).length : Int) - 1).toNat) (((X ++ [(i : Int)]).length : Int) - 1) (by kernel_rfl) (by omega) eI_len (by first | omega | (simp only [List.length_set]; omega) | (simp <;> omega)) (by kernel_rfl) (R.kfix 8 (us := usC) (by kernel_rfl) hkC (R.go 4 (k8 ((i : Int) + 1) ?_)))))))
   exact R.go 2 (k22 R6 (N7 (i + 1, v2_20, b2_21, (X ++ [(i : Int)]).take ((((X ++ [(i : Int)]).length : Int) - 1).toNat)) [0, 1, 4, 14, 15] (some [0, 1, 2, 3, 4, 5, 6, 7, 8]) _ (by kernel_rfl) (canonF (fr := frC) (fun (frX : List AV) => (⟨(frm 38 [(0, AI u), (1, .ptr 6 0), (4, .ptr 7 0), (14, AI n), (15, AI ((i : Int) + 1))]), [.inert (.base b), .box 22 [LI xs], .box 22 [.nam v2_20 (some 2) 1 b2_21.length (rows eI b2_21)], .box 2 [AI n], .box 113 [.fn 93 [.ptr 1 0, .ptr 2 0]], rowA eI 2 1 ((X ++ [(i : Int)]).take ((((X ++ [(i : Int)]).length : Int) - 1).toNat)), .box 22 [.ref 5], .box 156 [.fn 172 [.ptr 6 0, .ptr 3 0, .ptr 4 0, .ptr 7 0]], .frame usC frX]⟩ : St)) (hfC.ren _ (by kernel_rfl)) (by kernel_rfl) (by kernel_rfl)) ⟨(by omega), (by first | exact ls_skip hb0.2 hX (by assumption) (by omega) (by omega) (by assumption) | exact ls_rec (by assumption) (by omega) ((by assumption : LST n xs (X ++ [(i : Int)]) bI _ ∧ _).1)), (by omega), (by assumption), (by first | rfl | exact (cut_snoc _ _ (by simp)).symm)⟩ (by show (n.toNat - (i + 1)) < (n.toNat - i); omega)))
  refine R.go 3 (k8 ((i : Int) + 1) ?_)
  exact R.go 2 (k22 R6 (N7 (i + 1, vI, bI, X) [0, 1, 4, 14, 15] none _ (by kernel_rfl) (by kernel_rfl) ⟨(by omega), (by first | exact ls_skip hb0.2 hX (by assumption) (by omega) (by omega) (by assumption) | exact ls_rec (by assumption) (by omega) ((by assumption : LST n xs (X ++ [(i : Int)]) bI _ ∧ _).1)), (by omega), (by assumption), (by first | rfl | exact (cut_snoc _ _ (by simp)).symm)⟩ (by show (n.toNat - (i + 1)) < (n.toNat - i); omega)))
 exact R.go 1 (R.retX (res := .tup []) (hp' := [.inert (.base b), .box 22 [LI xs], .box 22 [.nam vI (some 2) 1 bI.length (rows eI bI)], .box 2 [AI n], .box 113 [.fn 93 [.ptr 1 0, .ptr 2 0]], rowA eI 2 1 X, .box 22 [.ref 5], .box 156 [.fn 172 [.ptr 6 0, .ptr 3 0, .ptr 4 0, .ptr 7 0]], .dead]) (by kernel_rfl) (by kernel_rfl) (by kernel_rfl) (by kernel_rfl) ⟨[0, 1, 2, 3, 4, 5, 6, 7], by kernel_rfl, by decide, vI, bI, by first | assumption | exact ⟨ls_end (by assumption) (by assumption) (by omega), by assumption⟩ | exact ⟨ls_one (hpm (by omega)) (by assumption), ls_len hb (hpm (by omega)) hb0.2 (by assumption)⟩, by first | assumption | exact ⟨ls_end (by assumption) (by assumption) (by omega), by assumption⟩ | exact ⟨ls_one (hpm (by omega)) (by assumption), ls_len hb (hpm (by omega)) hb0.2 (by assumption)⟩, by kernel_rfl, by kernel_rfl⟩)
theorem perms_c (n : Int) (xs bst : List Int) (b : Nat) (v : Value) (hF : okFr n xs = true) (hb : bst.length ≤ 1000) (hv : ∀ g, blk v = some g → b ≤ g) : CallX Tryz.prog 92 [AI n, .fn 93 [.ptr 1 0, .ptr 2 0]] [.inert (.base b), .box 22 [LI xs], .box 22 [.nam v (some 2) 1 bst.length (rows eI bst)]] (fun (resX : AV) (objX : List AObj) => ∃ v2 : Value, ∃ b2 : List Int, (LST n xs [] bst b2 ∧ b2.length ≤ 1000) ∧ (∀ g, blk v2 = some g → b ≤ g) ∧ resX = .tup [] ∧ objX = [.inert (.base b), .box 22 [LI xs], .box 22 [.nam v2 (some 2) 1 b2.length (rows eI b2)]]) := by
 have hFr := okFr_rel hF
 have hb0 : 0 ≤ n ∧ n ≤ 8 := ⟨hFr.1, hFr.2.1⟩
 have hpx := px_nil n
 refine CallX.dropE (CallX.ofF Tryz.func92 rfl (by kernel_rfl) ?_)
 intro usC frC hfC
 refine R.go 8 (R.mkC eI 0 2 8 0 ((n).toNat) 0 n (by kernel_rfl) rfl (by omega) (by omega) (by decide) (by omega) (by kernel_rfl) (R.go 14 (R.callZ (CallY.inF 3 usC frC (grow_c (n.toNat - ([] : List Int).length) n xs bst [] 0 b v (by first | omega | (simp; done) | (simp; omega)) (by assumption) (by first | assumption | exact px_step (by omega) hX (by omega) (by assumption)) hb hv) (Nat.le_of_ble_eq_true (by kernel_rfl)) (by kernel_rfl) (by kernel_rfl) (by rintro _ _ ⟨_, _, _, _, rfl, rfl⟩; exact Nat.le_of_ble_eq_true (by kernel_rfl)) 6 rfl (hfC.kill 6 (Nat.le_of_ble_eq_true (by kernel_rfl)))) (by kernel_rfl) (by kernel_rfl) (by kernel_rfl) ?_)))
 rintro _ _ ⟨_, _, ⟨v2_1, b2_2, f3, f4, rfl, rfl⟩, rfl, rfl⟩
 exact R.go 1 (R.retX (res := .tup []) (hp' := [.inert (.base b), .box 22 [LI xs], .box 22 [.nam v2_1 (some 2) 1 b2_2.length (rows eI b2_2)], .dead, .box 2 [AI n], .box 113 [.fn 93 [.ptr 1 0, .ptr 2 0]], rowA eI 2 1 [], .box 22 [.ref 6], .box 156 [.fn 172 [.ptr 7 0, .ptr 4 0, .ptr 5 0, .ptr 8 0]]]) (by kernel_rfl) (by kernel_rfl) (by kernel_rfl) (by kernel_rfl) ⟨[0, 1, 2], by kernel_rfl, by decide, v2_1, b2_2, by assumption, by assumption, by kernel_rfl, by kernel_rfl⟩)
theorem leastRel_c (xs : List Int) (hF : okFr (xs.length : Int) xs = true) : CallE Tryz.prog 37 [LI xs] (fun (b : Nat) (r : AV) => ∃ v : Value, ∃ q : List Int, r = .nam v (some 2) 1 q.length (rows eI q) ∧ (∀ g, blk v = some g → b ≤ g) ∧ (q = lfR (xs.length : Int) xs) ∧ (q.length ≤ 8)) := by
 have hFr := okFr_rel hF
 have hb0 : 0 ≤ (xs.length : Int) ∧ (xs.length : Int) ≤ 8 := ⟨hFr.1, hFr.2.1⟩
 refine CallE.of Tryz.func37 rfl (by kernel_rfl) (fun b => (R.go 8 (k20 true (clone_c xs (by first | omega | (simp <;> omega))) (R.go 5 (R.pin 2 2 1 xs.length (rows eI xs) (by kernel_rfl) (by kernel_rfl) ?_)))))
 intro v1 hn2
 have hb3 : ∀ g, blk v1 = some g → b ≤ g := newN_base hn2 0 (by kernel_rfl)
 clear hn2
 refine R.go 1 (k20 true (size_c xs) (R.go 1 (R.deadF 2 (by kernel_rfl) (by kernel_rfl) (R.callX (CallX.inF 2 [] [] (perms_c xs.length xs xs b v1 (by assumption) (by first | assumption | omega) hb3) (Nat.le_of_ble_eq_true (by kernel_rfl)) (by kernel_rfl) (by kernel_rfl) (by rintro _ _ ⟨_, _, _, _, rfl, rfl⟩; exact Nat.le_of_ble_eq_true (by kernel_rfl))) (by kernel_rfl) (by kernel_rfl) (by kernel_rfl) ?_))))
 rintro _ _ ⟨_, _, ⟨v2_4, b2_5, f6, f7, rfl, rfl⟩, rfl, rfl⟩
 exact R.go 6 (k32 (.nam v2_4 (some 2) 1 b2_5.length (rows eI b2_5)) ⟨v2_4, b2_5, rfl, by first | (assumption) | (exfalso; omega), by first | (exact lfR_eq hF (by assumption : LST _ _ _ _ _ ∧ _).1) | (exfalso; omega), by first | ((have h9 := lfR_len hF; rw [← lfR_eq hF (by assumption : LST _ _ _ _ _ ∧ _).1] at h9; omega)) | (exfalso; omega)⟩)
theorem leastRel_c_cl (xs : List Int) : ∀ (b : Nat) (r : AV), (fun (b : Nat) (r : AV) => ∃ v : Value, ∃ q : List Int, r = .nam v (some 2) 1 q.length (rows eI q) ∧ (∀ g, blk v = some g → b ≤ g) ∧ (q = lfR (xs.length : Int) xs) ∧ (q.length ≤ 8)) b r → ClosedN b r := by
 rintro b r ⟨v, q, rfl, e0, e1, e2⟩
 exact (closedN_nam _ eI_closed e0)
end Go.Proofs.YtehbliocfpppoaaGreat

/-! slices.SortFunc at rows of structs of a number and a row of one's own, named. -/
namespace Go.Abs
open Go.RowKit Go.Proofs Go.ChangeShapes Go.WideShapes Go.Deep

theorem grow_below {W w' : World} (h : Below W.heap.size W w') : ∃ q os', w' = Go.Sort.grow (W.drewN q) os' := by
 have hd := h.drawn
 have hs := h.size
 refine ⟨w'.drawn - W.drawn, w'.heap.extract W.heap.size w'.heap.size, ?_⟩
 have e1 : w'.heap = W.heap ++ w'.heap.extract W.heap.size w'.heap.size := by
  refine Array.ext (by simp; omega) fun i h1 h2 => ?_
  rcases Nat.lt_or_ge i W.heap.size with hi | hi
  ·have := h.block i hi
   rw [Array.getElem?_eq_getElem h1, Array.getElem?_eq_getElem hi] at this
   rw [Array.getElem_append_left hi]
   simpa using this
  ·rw [Array.getElem_append_right hi, Array.getElem_extract]
   congr 1
   omega
 have e2 : w'.drawn = W.drawn + (w'.drawn - W.drawn) := by omega
 have e3 := h.os
 have e4 := h.tape
 have e5 := h.output
 obtain ⟨hp, tp, dr, os, out⟩ := w'
 simp only at e1 e2 e3 e4 e5 ⊢
 subst e3 e4 e5
 unfold Go.Sort.grow World.drewN
 simp only
 rw [← e1, ← e2]

theorem holds_id {w : World} {g : Nat} {cur : Array Value} {e : TypeId} {F : Array Value} (hb : w.heap[g]? = some (.cells cur e (0, 0))) (ht : cur.toList.take F.size = F.toList) : Go.Sort.Holds id w g 0 F := by
 intro j hj
 refine ⟨?_, by simp [World.frozen?, hb]⟩
 have h1 : (cur.toList.take F.size)[j]? = F.toList[j]? := by rw [ht]
 rw [List.getElem?_take_of_lt hj] at h1
 simp only [World.cell?, hb, Nat.zero_add]
 simp only [Option.isSome_none, Bool.false_eq_true, if_false]
 rw [← Array.getElem?_toList, h1]
 simp [hj]
theorem heap_put {w : World} {g n : Nat} {os : Array Obj} {cur : Array Value} {e : TypeId} {fr : Nat × Nat} (F : Array Value) (hb : w.heap[g]? = some (.cells cur e fr)) :
  (Go.Sort.grow (Go.Sort.putRow id (Sort.ahead w n) g 0 F) os).heap[g]? = some (.cells (Go.Sort.putCells id 0 F cur) e fr) := by
 have hg : g < w.heap.size := (Array.getElem?_eq_some_iff.1 hb).1
 rw [Go.Sort.heap_grow_old _ _ (by simpa using hg)]
 simp [Go.Sort.putRow, Go.Sort.mapBlock, Sort.ahead, Array.getElem?_modify, hb, Go.Sort.onCells]
theorem grownBy_put {w : World} {g n : Nat} {os : Array Obj} (F : Array Value) : w.grownBy (Go.Sort.grow (Go.Sort.putRow id (Sort.ahead w n) g 0 F) os) (some g) := by
 refine ⟨rfl, rfl, rfl, by simp, fun k hk hne => ?_⟩
 rw [Go.Sort.heap_grow_old _ _ (by simpa using hk)]
 have : g ≠ k := fun e => hne (by rw [e])
 simp [Go.Sort.putRow, Go.Sort.mapBlock, Sort.ahead, Array.getElem?_modify, this]
theorem take_put (cur F : Array Value) (h : F.size ≤ cur.size) : (Go.Sort.putCells id 0 F cur).toList.take F.size = F.toList := by
 apply List.ext_getElem?
 intro j
 by_cases hj : j < F.size
 ·rw [List.getElem?_take_of_lt hj, Array.getElem?_toList]
  simp [Go.Sort.putCells, hj, show j < cur.size by omega]
 ·rw [List.getElem?_take_eq_none (by omega), List.getElem?_eq_none (by simp; omega)]
structure FEl (w : World) (Z : Nat → Prop) (el K : Nat) where
 p : Int × Value × List Int
 vs : List Value
 hr : RelL w Z [] (eQ eI el 1 p) vs
 hl : p.2.2.length ≤ K
section
variable {w : World} {Z : Nat → Prop} {el K : Nat}
theorem relQ_two {x : Int × Value × List Int} {vs : List Value} (h : RelL w Z [] (eQ eI el 1 x) vs) : ∃ v, vs = [.int .i64 x.1, v] ∧ Rel w Z [] (.nam x.2.1 (some el) 1 x.2.2.length (rows eI x.2.2)) v ∧ v.oneCell' = true := by
 simp only [eQ, RelL] at h
 obtain ⟨a, _, rfl, h1, b, _, rfl, h2, rfl⟩ := h
 simp only [AI, Rel] at h1
 subst h1
 refine ⟨b, rfl, h2, ?_⟩
 simp only [Rel] at h2
 obtain ⟨_, A, c, xs, rfl, _⟩ := h2
 rfl
theorem FEl.len (x : FEl w Z el K) : x.vs.length = 2 := by
 obtain ⟨v, e, _⟩ := relQ_two x.hr
 rw [e]; rfl
theorem FEl.one (x : FEl w Z el K) : ∀ v ∈ x.vs, v.oneCell' = true := by
 obtain ⟨v, e, _, h⟩ := relQ_two x.hr
 rw [e]
 intro u hu
 simp only [List.mem_cons, List.not_mem_nil, or_false] at hu
 rcases hu with rfl | rfl
 ·rfl
 ·exact h
def FEl.zero (w : World) (Z : Nat → Prop) (el K : Nat) : FEl w Z el K := ⟨(0, .slice none 0 0, []), [.int .i64 0, .slice none 0 0], by
 simp only [eQ, RelL, AI, Rel, rows]
 refine ⟨_, _, rfl, rfl, _, _, rfl, ⟨⟨rfl, fun e he => ⟨[], ⟨rfl, .inl ⟨rfl, rfl⟩⟩, fun g hg => by cases hg⟩⟩, none, 0, [], rfl, rfl, Nat.le_refl _, fun h => absurd rfl h, rfl⟩, rfl⟩, Nat.zero_le _⟩
instance : Inhabited (FEl w Z el K) := ⟨FEl.zero w Z el K⟩
theorem relQ_split : ∀ {L : List (Int × Value × List Int)} {ys : List Value}, RelL w Z [] (rows (eQ eI el 1) L) ys → (∀ x ∈ L, x.2.2.length ≤ K) → ∃ D : List (FEl w Z el K), D.map (·.p) = L ∧ ys = D.flatMap (·.vs)
 | [], ys, h, _ => ⟨[], rfl, by simpa [rows, RelL] using h⟩
 | x :: L, ys, h, hK => by
  rw [rows] at h
  have h1 := h.take 2
  have h2 := h.drop 2
  rw [List.take_left' (l₁ := eQ eI el 1 x) (i := 2) rfl] at h1
  rw [List.drop_left' (l₁ := eQ eI el 1 x) (i := 2) rfl] at h2
  obtain ⟨D, e1, e2⟩ := relQ_split h2 fun y hy => hK y (List.mem_cons_of_mem _ hy)
  refine ⟨⟨x, _, h1, hK x (List.mem_cons_self ..)⟩ :: D, by rw [List.map_cons, e1], ?_⟩
  rw [List.flatMap_cons, ← e2, List.take_append_drop]
theorem relQ_join {w' : World} {Z' : Nat → Prop} (hk : ∀ b, b < w.heap.size → ¬ Z b → w'.heap[b]? = w.heap[b]?) (hz : ∀ b, b < w'.heap.size → ¬ Z b → ¬ Z' b) : ∀ D : List (FEl w Z el K), RelL w' Z' [] (rows (eQ eI el 1) (D.map (·.p))) (D.flatMap (·.vs))
 | [] => RelL.nil
 | x :: D => by
  rw [List.map_cons, rows, List.flatMap_cons]
  exact ((x.hr.keep hk (fun _ _ h => h)).weak hz).append (relQ_join hk hz D)
theorem flat_two : ∀ (D : List (FEl w Z el K)) (t : Nat), t < D.length * 2 → (D.flatMap (·.vs))[t]? = some (((D.getD (t / 2) default).vs)[t % 2]!)
 | [], t, h => by simp at h
 | x :: D, t, h => by
  have hx := x.len
  rw [List.flatMap_cons]
  rcases Nat.lt_or_ge t 2 with ht | ht
  ·rw [List.getElem?_append_left (by omega), Nat.div_eq_of_lt ht, Nat.mod_eq_of_lt ht, List.getD_cons_zero, List.getElem?_eq_getElem (by omega), List.getElem!_eq_getElem?_getD, List.getElem?_eq_getElem (by omega)]
   rfl
  ·rw [List.getElem?_append_right (by omega), hx, flat_two D (t - 2) (by simp at h; omega)]
   have e1 : t / 2 = (t - 2) / 2 + 1 := by omega
   have e2 : t % 2 = (t - 2) % 2 := by omega
   rw [e1, e2, List.getD_cons_succ]
theorem flatMap_len : ∀ D : List (FEl w Z el K), (D.flatMap (·.vs)).length = D.length * 2
 | [] => rfl
 | x :: D => by rw [List.flatMap_cons, List.length_append, flatMap_len D, x.len, List.length_cons]; omega
theorem flatK_list (D : List (FEl w Z el K)) : (Go.Sort.flatK (fun x : FEl w Z el K => x.vs) 2 D.toArray).toList = D.flatMap (·.vs) := by
 apply List.ext_getElem?
 intro t
 rcases Nat.lt_or_ge t (D.length * 2) with ht | ht
 ·rw [flat_two D t ht]
  unfold Go.Sort.flatK
  simp only [Array.toList_map, Array.toList_range, List.getElem?_map, List.size_toArray]
  rw [List.getElem?_range ht]
  simp only [Option.map_some, Option.some.injEq]
  congr 1
  simp only [List.getD_eq_getElem?_getD, getElem!_def, List.getElem?_toArray]
  cases D[t / 2]? <;> rfl
 ·rw [List.getElem?_eq_none (by rw [Array.length_toList, Go.Sort.size_flatK, List.size_toArray]; exact ht), List.getElem?_eq_none (by rw [flatMap_len]; exact ht)]
end
def SrtQ (cf : Int × List Int → Int × List Int → Int) (L : List (Int × Value × List Int)) : Prop := L.Pairwise fun x y => ¬ cf (y.1, y.2.2) (x.1, x.2.2) < 0
set_option maxHeartbeats 2000000 in
theorem CallX.sortF {P : Program} {ρ : Go.Shelf.Ren} (Ly : SlLaysF0.n6 P ρ) (hen : Enters P (ρ.f 6)) (aE : ∀ w, (isAgg (ρ.t 24)).run P w = .ok true w) (zE : ∀ w, (Go.sizeOf (ρ.t 24)).run P w = .ok 2 w) {fc : FuncId} (cf : Int × List Int → Int × List Int → Int) {K : Nat}
  (hO : Go.Sort.SWO (fun x y : Int × List Int => decide (cf x y < 0))) (hc : ∀ (a : Int) (xs : List Int) (b : Int) (ys : List Int), xs.length ≤ K → ys.length ≤ K → CallA P fc [.agg [AI a, LI xs], .agg [AI b, LI ys]] (AI (cf (a, xs) (b, ys)))) (hen2 : Enters P fc)
  (i el elF : Nat) (L : List (Int × Value × List Int)) (hp : List AObj) (hi : hp[i]? = some (rowA (eQ eI el 1) elF 2 L)) (hK : ∀ x ∈ L, x.2.2.length ≤ K) (hl : L.length ≤ 1000000000) :
  CallX P (ρ.f 6) [.ref i, .fn fc []] hp fun r hp' => ∃ L' : List (Int × Value × List Int), (L'.Perm L ∧ SrtQ cf L') ∧ r = .tup [] ∧ hp' = hp.set i (rowA (eQ eI el 1) elF 2 L') := by
 refine ⟨hen, ?_⟩
 intro Z0 F w0 w μ vs us fr hFb hH hvs hus hbel
 simp only [RelL, Rel] at hvs
 obtain ⟨v, _, rfl, hv, fv, _, rfl, ⟨cs, rfl, rfl⟩, rfl⟩ := hvs
 obtain ⟨ys, hown, hrel⟩ : ∃ ys, w.ownsRow w0.heap.size elF 2 v L.length ys ∧ RelL w (Zone Z0 F w0.heap.size) [] (rows (eQ eI el 1) L) ys := hH.obj i _ v hi hv
 have hZn := zone_new (Z0 := Z0) hbel.size hFb
 rcases hown with ⟨hyl, ⟨rfl, hn⟩ | ⟨g, cap, cur, rfl, hbase, hb, hncap, hcap, hsz, htake⟩⟩
 ·have hx : L = [] := List.eq_nil_of_length_eq_zero hn
  subst hx
  refine (AnyF.slices_SortFunc_none Ly none 0 _ w).mono ?_
  rintro en w' ⟨rfl, rfl⟩
  refine ⟨_, μ, F, _, _, ⟨[], ⟨List.Perm.nil, List.Pairwise.nil⟩, rfl, rfl⟩, rfl, hFb, by rw [set_self hi]; exact hH, by simp [Rel, RelL], hus, hbel⟩
 ·obtain ⟨D, hD1, hD2⟩ := relQ_split (K := K) hrel hK
  have hDl : D.length = L.length := by rw [← hD1, List.length_map]
  have hgl : g < w.heap.size := (Array.getElem?_eq_some_iff.1 hb).1
  have hZg : Zone Z0 F w0.heap.size g := hH.zone i _ _ g hi rfl hv rfl
  have hfl := flatK_list D
  have hO' : Go.Sort.SWO (ltOf fun x y : FEl w (Zone Z0 F w0.heap.size) el K => cf (x.p.1, x.p.2.2) (y.p.1, y.p.2.2)) := ⟨fun x => hO.irrefl _, fun x y z => hO.trans _ _ _, fun x y z => hO.ntrans _ _ _⟩
  have hcmp : CmpLays P fc #[] (fun x : FEl w (Zone Z0 F w0.heap.size) el K => x.vs) 2 (fun x y => cf (x.p.1, x.p.2.2) (y.p.1, y.p.2.2)) g 0 D.toArray.size w := by
   intro m os dk hs x y
   have hgr := grownBy_put (w := w) (g := g) (n := m) (os := os) (Go.Sort.flatK (fun x : FEl w (Zone Z0 F w0.heap.size) el K => x.vs) 2 dk)
   generalize hW : sortWorldK (fun x : FEl w (Zone Z0 F w0.heap.size) el K => x.vs) 2 w g 0 m dk os = W
   have hWe : W = Go.Sort.grow (Go.Sort.putRow id (Sort.ahead w m) g 0 (Go.Sort.flatK (fun x : FEl w (Zone Z0 F w0.heap.size) el K => x.vs) 2 dk)) os := hW.symm
   rw [← hWe] at hgr
   have key : ∀ x : FEl w (Zone Z0 F w0.heap.size) el K, Rel W (Zone (fun _ => False) NoF W.heap.size) [] (.agg [AI x.p.1, LI x.p.2.2]) (.agg x.vs.toArray) := fun x => by
    obtain ⟨v, e, h1, _⟩ := relQ_two x.hr
    have h2 : RelL w (Zone Z0 F w0.heap.size) [] [.lst 1 x.p.2.2.length (rows eI x.p.2.2)] [v] := RelL.cons (fgt1 _ _ _ h1) RelL.nil
    have h3 := (h2.keep (w' := W) (fun b hb hz => hgr.block b hb (fun e => by cases e; exact hz hZg)) (fun _ _ h => h)).weak (Z' := Zone (fun _ => False) NoF W.heap.size) (fun b hb _ hz => hz.elim (fun h => h.2) (fun h => by omega))
    simp only [Rel]
    refine ⟨x.vs, rfl, ?_⟩
    rw [e]
    exact RelL.cons (by simp only [AI, Rel]) h3
   have hcall := (hc x.p.1 x.p.2.2 y.p.1 y.p.2.2 x.hl y.hl).2 (fun _ => False) W [.agg x.vs.toArray, .agg y.vs.toArray] (RelL.cons (key x) (RelL.cons (key y) RelL.nil))
   refine (show Calls P fc (#[.agg x.vs.toArray, .agg y.vs.toArray] ++ #[]) W _ from ?_)
   refine hcall.mono ?_
   rintro en w' ⟨v, bs, F', rfl, _, hv, _, _, hbl⟩
   simp only [AI, RF] at hv
   refine ⟨by rw [hv.1], ?_⟩
   exact grow_below hbl
  have hH2 : Go.Sort.HoldsK (fun x : FEl w (Zone Z0 F w0.heap.size) el K => x.vs) 2 w g 0 D.toArray := by
   refine holds_id hb ?_
   rw [Go.Sort.size_flatK, List.size_toArray, hfl, hDl, ← hD2]
   exact htake
  have hkit := AnyQ.slices_SortFunc Ly 2 aE zE (fun x : FEl w (Zone Z0 F w0.heap.size) el K => x.vs) (fun x => x.len) (fun x => x.one) (fun x y => cf (x.p.1, x.p.2.2) (y.p.1, y.p.2.2)) hO' fc #[] g 0 cap D.toArray w (fun args w => hen2 args w) hcmp hH2 hgl (by rw [List.size_toArray]; omega)
  rw [List.size_toArray, hDl] at hkit
  refine hkit.mono ?_
  rintro en w' ⟨rfl, d', nn, os, hper, hsrt, hw'⟩
  have hds : d'.size = D.length := by rw [hper.1, List.size_toArray]
  have hw2 : w' = Go.Sort.grow (Go.Sort.putRow id (Sort.ahead w nn) g 0 (Go.Sort.flatK (fun x : FEl w (Zone Z0 F w0.heap.size) el K => x.vs) 2 d')) os := hw'
  have hgr := grownBy_put (w := w) (g := g) (n := nn) (os := os) (Go.Sort.flatK (fun x : FEl w (Zone Z0 F w0.heap.size) el K => x.vs) 2 d')
  have hhp := heap_put (n := nn) (os := os) (Go.Sort.flatK (fun x : FEl w (Zone Z0 F w0.heap.size) el K => x.vs) 2 d') hb
  have hdr : w.drawn ≤ w'.drawn := by rw [hw2]; simp [Go.Sort.grow, Go.Sort.putRow, Go.Sort.mapBlock, Sort.ahead]
  rw [← hw2] at hgr hhp
  have hfl' := flatK_list d'.toList
  rw [Array.toArray_toList] at hfl'
  have hpl : d'.toList.Perm D := by
   have h1 := hper.2.2
   have e1 : d'.extract 0 L.length = d' := by rw [← hDl, ← hds]; exact Array.extract_size
   have e2 : D.toArray.extract 0 L.length = D.toArray := by rw [← hDl]; exact Array.extract_size (xs := D.toArray)
   rw [e1, e2] at h1
   simpa using h1
  have hL' : (d'.toList.map (·.p)).length = L.length := by rw [List.length_map, Array.length_toList, hds, hDl]
  refine ⟨_, μ, F, .tup [], _, ⟨d'.toList.map (·.p), ⟨by rw [← hD1]; exact hpl.map _, ?_⟩, rfl, rfl⟩, rfl, fun b hb' => ⟨(hFb b hb').1, Nat.lt_of_lt_of_le (hFb b hb').2 hgr.size⟩, ?_, by simp [Rel, RelL], ?_, ?_⟩
  ·unfold SrtQ
   rw [List.pairwise_map, List.pairwise_iff_getElem]
   intro a b ha hb2 hab
   have h1 := hsrt a b (Nat.zero_le _) hab (by rw [Array.length_toList] at hb2; omega)
   rw [Array.length_toList] at ha hb2
   rw [getElem!_pos d' b hb2, getElem!_pos d' a ha] at h1
   exact of_decide_eq_false h1
  ·refine hH.update_same hZn hi hv rfl (fun b hb1 hne => hgr.block b hb1 (fun e => hne (by cases e; rfl))) ?_
   refine ⟨d'.toList.flatMap (·.vs), ⟨by rw [flatMap_len, hL', Array.length_toList, hds, hDl], .inr ⟨g, cap, _, by rw [hL'], hbase, hhp, by rw [hL']; exact hncap, hcap, ?_, ?_⟩⟩, relQ_join (fun b hb1 hz => hgr.block b hb1 (fun e => by cases e; exact hz hZg)) (fun b _ h => h) d'.toList⟩
   ·simp [Go.Sort.putCells, hsz]
   ·rw [hL', show L.length * 2 = (Go.Sort.flatK (fun x : FEl w (Zone Z0 F w0.heap.size) el K => x.vs) 2 d').size by rw [Go.Sort.size_flatK, hds, hDl], take_put _ _ (by rw [Go.Sort.size_flatK, hds, hDl, hsz]; exact Nat.mul_le_mul_right _ hncap), hfl']
  ·exact RelL.keep (w := w) (fun b hb1 hz => hgr.block b hb1 (fun e => by cases e; exact hz hZg)) (fun _ _ h => h) hus
  ·exact hbel.trans ⟨hgr.os, hgr.tape, hgr.output, hgr.size, fun k hk => hgr.block k (by have := hbel.size; omega) (fun e => by cases e; omega), hdr⟩
end Go.Abs

/-! The machine's rules: a second slice of a row of one's own; the end of a row of structs with names cleared, then cut off. -/
namespace Go.Abs
open Go.RowKit
section
variable {rd : Option Nat} {P : Program} {m : M} {Q : Exit → St → Prop} {α : Type}
def subAt (P : Program) (m : M) : Option (Nat × Nat × Nat × Int) :=
 match opM m with
 | some (.slice t x (some lo) none none) => match ev m.st.fr x, ev m.st.fr lo, elemB P t with
  | .ref i, .int _ l, some (el, s) => match m.st.hp[i]? with
   | some (.list el' s' n _) => if el' = el ∧ s' = s then some (i, s, n, l) else none
   | _ => none
  | _, _, _ => none
 | _ => none
theorem R.subO (i s n l : Nat) (li : Int) (h : subAt P m = some (i, s, n, li)) (hl : li = (l : Int)) (hn : l < n) (ht : opsHd m = true) (h' : ∀ u v, SubOf s l n u v → Runs rd P (putM m none (weakN v (n - l)) (m.st.hp ++ [.frame [u] [.ref i]])) Q) : Runs rd P m Q := by
 subst hl
 unfold subAt at h
 split at h
 ·rename_i t x lo hop
  split at h
  ·rename_i i0 k0 l0 el0 s0 hx hlo hel
   split at h
   ·rename_i el1 s1 n1 cs1 hi
    split at h
    ·rename_i he
     obtain ⟨rfl, rfl⟩ := he
     simp only [Option.some.injEq, Prod.mk.injEq] at h
     obtain ⟨rfl, rfl, rfl, rfl⟩ := h
     obtain ⟨ks, ⟨fr, hp⟩⟩ := m
     unfold opM headOf at hop
     unfold opsHd at ht
     unfold putM at h'
     simp only [runs_iff] at h' ⊢
     try simp only at hop ht h' hx hlo hi ⊢
     split at hop
     ·rename_i all o fl t0 heq
      split at hop
      ·rename_i hw
       simp only [Option.some.injEq] at hop
       split at heq
       ·cases heq
        intro hW
        exact OpsQ.subO (wantH_true hw hW) hop hx hlo hel hi hn fun u v hs => h' u v hs headW_false
       ·simp at ht
       ·cases heq
      ·cases hop
     ·cases hop
    ·cases h
   ·cases h
  ·cases h
 ·cases h
def ixsAt (P : Program) (m : M) : Option (Value × Nat × Int) :=
 match opM m with
 | some (.indexAddr t x y) => match ev m.st.fr x, ev m.st.fr y, elemB P t with
  | .nam v none 0 _ [], .int _ j, some (_, s) => some (v, s, j)
  | _, _, _ => none
 | _ => none
theorem R.idxS (i q s l n j : Nat) (ji : Int) (u v : Value) (h : ixsAt P m = some (v, s, ji)) (hq : m.st.hp[q]? = some (.frame [u] [.ref i])) (hji : ji = (j : Int)) (hs : SubOf s l n u v) (hj : l + j < n) (ht : opsHd m = true)
  (h' : Runs rd P (putM m none (.ptr i ((l + j) * s)) m.st.hp) Q) : Runs rd P m Q := by
 subst hji
 unfold ixsAt at h
 split at h
 ·rename_i t x y hop
  split at h
  ·rename_i v0 m0 k0 j0 el0 s0 hx hy hel
   simp only [Option.some.injEq, Prod.mk.injEq] at h
   obtain ⟨rfl, rfl, rfl⟩ := h
   obtain ⟨ks, ⟨fr, hp⟩⟩ := m
   unfold opM headOf at hop
   unfold opsHd at ht
   unfold putM at h'
   simp only [runs_iff] at h' ⊢
   try simp only at hop ht h' hx hy hq ⊢
   split at hop
   ·rename_i all o fl t0 heq
    split at hop
    ·rename_i hw
     simp only [Option.some.injEq] at hop
     split at heq
     ·cases heq
      intro hW
      exact OpsQ.idxS (wantH_true hw hW) hop hx hy hel hq hs hj (h' headW_false)
     ·simp at ht
     ·cases heq
    ·cases hop
   ·cases hop
  ·cases h
 ·cases h
def clrRow (E : α → List AV) (el s : Nat) (xs : List α) (l : Nat) (zs : List AV) : AObj := .list el s xs.length (rows E (xs.take l) ++ zerosA zs s (xs.length - l))
theorem zeros_all {p : AV → Bool} {zs : List AV} {s n : Nat} (h : zs.all p = true) (hs : zs.length = s) (h0 : 0 < s) : (zerosA zs s n).all p = true := by
 rw [List.all_eq_true] at h ⊢
 intro c hc
 unfold zerosA at hc
 obtain ⟨k, _, rfl⟩ := List.mem_map.1 hc
 have hk : k % s < zs.length := by rw [hs]; exact Nat.mod_lt _ h0
 rw [List.getD_eq_getElem?_getD, List.getElem?_eq_getElem hk]
 exact h _ (List.getElem_mem hk)
theorem leafyL_all : ∀ {cs : List AV}, (∀ c ∈ cs, leafyL [c] = true) → leafyL cs = true
 | [], _ => rfl
 | c :: cs, h => by
  have h1 := h c (List.mem_cons_self ..)
  have h2 := leafyL_all (cs := cs) fun d hd => h d (List.mem_cons_of_mem _ hd)
  simp only [leafyL, Bool.and_eq_true] at h1 ⊢
  exact ⟨h1.1, h2⟩
theorem R.clrQ (E : α → List AV) (xs : List α) (i el s l : Nat) (li : Int) (zs : List AV) (h : clrAt P m = some (i, el, s, xs.length, rows E xs, zs, li)) (hl : li = (l : Int)) (hE : ∀ x, (E x).length = s) (h1 : l ≤ xs.length) (hs : zs.length = s) (h0 : 0 < s) (hz1 : zs.all AV.one = true) (hz2 : zs.all (fun c => leafyL [c]) = true)
  (h' : Runs rd P (clrM m (m.st.hp.set i (clrRow E el s xs l zs))) Q) : Runs rd P m Q := by
 subst hl
 obtain ⟨ks, ⟨fr, hp⟩⟩ := m
 unfold clrAt at h
 simp only at h
 split at h
 ·rename_i all o1 o2 rest f ks'
  split at h
  ·rename_i t x lo c hp1 hp2
   obtain ⟨callee, args, tys⟩ := c
   simp only at h
   split at h
   ·rename_i d0 t' ha hb
    split at h
    ·rename_i hc
     simp only [Bool.and_eq_true, decide_eq_true_eq, Option.isNone_iff_eq_none] at hc
     obtain ⟨⟨⟨⟨rfl, g1⟩, g2⟩, hd1⟩, hd⟩ := hc
     split at h
     ·rename_i i0 k0 l0 el0 s0 zs0 b0 hx hlo hr
      split at h
      ·rename_i el1 s1 n1 cs1 hi
       split at h
       ·rename_i he
        obtain ⟨rfl, rfl⟩ := he
        simp only [Option.some.injEq, Prod.mk.injEq] at h
        obtain ⟨rfl, rfl, rfl, rfl, rfl, rfl, rfl⟩ := h
        have ea : args = #[.tmp d0] := Array.toList_inj.1 ha
        have et : tys = #[t'] := Array.toList_inj.1 hb
        subst ea
        subst et
        rw [runs_iff] at h' ⊢
        simp only [clrM, RunsK] at h' ⊢
        have hset : setMany (rows E xs) (l * s1) (zerosA zs0 s1 (xs.length - l)) = rows E (xs.take l) ++ zerosA zs0 s1 (xs.length - l) := by
         have hzl : (zerosA zs0 s1 (xs.length - l)).length = (xs.length - l) * s1 := by simp [zerosA]
         have e : l * s1 + (xs.length - l) * s1 = xs.length * s1 := by rw [← Nat.add_mul]; congr 1; omega
         rw [setMany, rows_take hE, hzl, e, List.drop_of_length_le (by rw [rows_length hE]; exact Nat.le_refl _), List.append_nil]
        unfold clrRow at h'
        rw [← hset] at h'
        intro _
        refine OpsQ.clr g1 hp1 hd1 g2 hp2 hx hlo hr hi h1 hd ?_ ?_ ?_
        ·exact fun c hc => List.all_eq_true.1 (zeros_all hz1 hs h0) c hc
        ·exact leafyL_all fun c hc => List.all_eq_true.1 (zeros_all (p := fun c => leafyL [c]) hz2 hs h0) c hc
        ·rw [← hd1]
         exact h' headW_false
       ·cases h
      ·cases h
     ·cases h
    ·cases h
   ·cases h
  ·cases h
 ·cases h
theorem R.cutQ (E : α → List AV) (xs : List α) (i el s l : Nat) (zs : List AV) (li : Int) (h0 : ctAt P m = some (i, el, s, xs.length, rows E (xs.take l) ++ zerosA zs s (xs.length - l), li)) (hl : li = (l : Int)) (hE : ∀ x, (E x).length = s) (h1 : l ≤ xs.length) (ht : writeOk m = true)
  (h' : Runs rd P (putM m (some i) (.ref i) ((m.st.hp.map (AObj.kill i)).set i (rowA E el s (xs.take l)))) Q) : Runs rd P m Q := by
 unfold ctAt at h0
 split at h0
 ·rename_i t x hi0 hop
  split at h0
  ·rename_i i0 el' s' k h2 hx hel hhi
   split at h0
   ·rename_i el0 s0 n0 cs0 hi1
    split at h0
    ·rename_i hc
     obtain ⟨rfl, rfl, hs0⟩ := hc
     simp only [Option.some.injEq, Prod.mk.injEq] at h0
     obtain ⟨rfl, rfl, rfl, rfl, rfl, rfl⟩ := h0
     subst hl
     unfold rowA at h'
     rw [List.length_take, Nat.min_eq_left h1] at h'
     have e : (rows E (xs.take l) ++ zerosA zs s' (xs.length - l)).take (l * s') = rows E (xs.take l) := List.take_left' (by rw [rows_length hE, List.length_take, Nat.min_eq_left h1])
     rw [← e] at h'
     exact R.effW hop (.cut i0 el' s' xs.length l _ k hx hi1 hhi hel h1 hs0) ht h'
    ·cases h0
   ·cases h0
  ·cases h0
 ·cases h0
end
end Go.Abs

/-! Frames compared, sorted, compacted. -/
namespace Go.Proofs.YtehbliocfpppoaaGreat
open Go.RowKit Go.Abs

def cmpX (p q : Int × List Int) : Int := if cmpI p.1 q.1 = 0 then cmpL p.2 q.2 else cmpI p.1 q.1
theorem cmpX_neg (p q : Int × List Int) : cmpX q p = - cmpX p q := by
 unfold cmpX
 rw [cmpI_neg p.1 q.1, cmpL_neg p.2 q.2]
 split <;> split <;> omega
theorem cmpX_zero {p q : Int × List Int} : cmpX p q = 0 ↔ p = q := by
 unfold cmpX
 constructor
 ·intro h
  split at h
  ·rename_i e
   exact Prod.ext (cmpI_eq.1 e) (cmpL_zero h)
  ·rename_i e; exact absurd h e
 ·rintro rfl
  rw [if_pos (cmpI_eq.2 rfl), cmpL_self]
theorem cmpX_trans {p q r : Int × List Int} (h1 : cmpX p q < 0) (h2 : cmpX q r < 0) : cmpX p r < 0 := by
 unfold cmpX at h1 h2 ⊢
 by_cases e1 : cmpI p.1 q.1 = 0
 ·rw [if_pos e1] at h1
  have e1' := cmpI_eq.1 e1
  by_cases e2 : cmpI q.1 r.1 = 0
  ·rw [if_pos e2] at h2
   rw [if_pos (by rw [e1']; exact e2)]
   exact lt_trans' h1 h2
  ·rw [if_neg e2] at h2
   rw [if_neg (by rw [e1']; exact e2), e1']; exact h2
 ·rw [if_neg e1] at h1
  have h1' := cmpI_lt.1 h1
  by_cases e2 : cmpI q.1 r.1 = 0
  ·have e2' := cmpI_eq.1 e2
   rw [← e2', if_neg e1]; exact h1
  ·rw [if_neg e2] at h2
   have h2' := cmpI_lt.1 h2
   have h3 : cmpI p.1 r.1 < 0 := cmpI_lt.2 (by omega)
   rw [if_neg (by omega)]; exact h3
theorem cmpX_swo : Go.Sort.SWO (fun x y : Int × List Int => decide (cmpX x y < 0)) := ⟨fun x => by rw [cmpX_zero.2 rfl]; decide, fun x y z h1 h2 => decide_eq_true (cmpX_trans (of_decide_eq_true h1) (of_decide_eq_true h2)), fun x y z h1 h2 => by
 have h1 := of_decide_eq_false h1
 have h2 := of_decide_eq_false h2
 refine decide_eq_false fun h3 => ?_
 have a1 := cmpX_neg x y
 have a2 := cmpX_neg y z
 have a3 := cmpX_neg x z
 by_cases e1 : cmpX x y = 0
 ·rw [cmpX_zero.1 e1] at h3; exact h2 h3
 ·by_cases e2 : cmpX y z = 0
  ·rw [← cmpX_zero.1 e2] at h3; exact h1 h3
  ·have := cmpX_trans (p := z) (q := y) (r := x) (by omega) (by omega)
   omega⟩
theorem cmpX_F {a b : List Int} : cmpX ((a.length : Int), a) ((b.length : Int), b) = cmpF a b := rfl
def orI : List Int → Int
 | [] => 0
 | x :: l => if x = 0 then orI l else x
theorem orI_drop {l : List Int} {i : Nat} (hi : i < l.length) : orI (l.drop i) = if l.getD i 0 = 0 then orI (l.drop (i + 1)) else l.getD i 0 := by
 rw [List.drop_eq_getElem_cons hi, orI, List.getD_eq_getElem?_getD, List.getElem?_eq_getElem hi]; rfl
theorem orI_two (a b : Int) : orI [a, b] = if a = 0 then b else a := by
 rw [orI, orI, orI]
 split
 ·split
  ·rename_i e; exact e.symm
  ·rfl
 ·rfl

abbrev FQ := Int × Value × List Int
abbrev dQ : FQ := (0, .bool false, [])
def kyQ (x : FQ) : Int × List Int := (x.1, x.2.2)
def cpT (L : List FQ) : Nat → List FQ
 | 0 => []
 | i + 1 => if i ≠ 0 ∧ kyQ (L.getD i dQ) = kyQ (L.getD (i - 1) dQ) then cpT L i else cpT L i ++ [L.getD i dQ]
def cpQ (L : List FQ) : List FQ := cpT L L.length
def NoD (L : List FQ) (k : Nat) : Prop := ∀ j : Nat, 0 < j → j < k → kyQ (L.getD j dQ) ≠ kyQ (L.getD (j - 1) dQ)
theorem noD_1 (L : List FQ) : NoD L 1 := fun j h1 h2 => by omega
theorem noD_s {L : List FQ} {k : Nat} (h : NoD L k) (hk : kyQ (L.getD k dQ) ≠ kyQ (L.getD (k - 1) dQ)) : NoD L (k + 1) := fun j h1 h2 => by
 by_cases e : j = k
 ·subst e; exact hk
 ·exact h j h1 (by omega)
theorem cpT_no {L : List FQ} : ∀ {k : Nat}, NoD L k → k ≤ L.length → cpT L k = L.take k
 | 0, _, _ => by simp [cpT]
 | k + 1, h, hk => by
  have ih := cpT_no (L := L) (k := k) (fun j a b => h j a (by omega)) (by omega)
  rw [cpT, if_neg (fun q => h k (by omega) (by omega) q.2), ih, List.take_add_one, List.getD_eq_getElem?_getD, List.getElem?_eq_getElem (by omega)]
  rfl
theorem cpT_sub {L : List FQ} : ∀ {k : Nat}, k ≤ L.length → (cpT L k).Sublist (L.take k)
 | 0, _ => by simp [cpT]
 | k + 1, hk => by
  have ih := cpT_sub (L := L) (k := k) (by omega)
  have e : L.take (k + 1) = L.take k ++ [L.getD k dQ] := by
   rw [List.take_add_one, List.getD_eq_getElem?_getD, List.getElem?_eq_getElem (by omega)]; rfl
  rw [cpT, e]
  split
  ·exact ih.trans (List.sublist_append_left _ _)
  ·exact ih.append (List.Sublist.refl _)
theorem cpT_mem {L : List FQ} : ∀ {k : Nat}, k ≤ L.length → ∀ x ∈ L.take k, ∃ y ∈ cpT L k, kyQ y = kyQ x
 | 0, _, x, hx => by simp at hx
 | k + 1, hk, x, hx => by
  have ih := cpT_mem (L := L) (k := k) (by omega)
  have e : L.take (k + 1) = L.take k ++ [L.getD k dQ] := by
   rw [List.take_add_one, List.getD_eq_getElem?_getD, List.getElem?_eq_getElem (by omega)]; rfl
  rw [e] at hx
  rw [cpT]
  rcases List.mem_append.1 hx with hx | hx
  ·obtain ⟨y, hy, e2⟩ := ih x hx
   split
   ·exact ⟨y, hy, e2⟩
   ·exact ⟨y, List.mem_append.2 (.inl hy), e2⟩
  ·have hx : x = L.getD k dQ := by simpa using hx
   subst hx
   split
   ·rename_i hc
    have hm : L.getD (k - 1) dQ ∈ L.take k := by
     rw [List.getD_eq_getElem?_getD, List.getElem?_eq_getElem (by omega), Option.getD_some]
     exact List.mem_take_iff_getElem.2 ⟨k - 1, by omega, rfl⟩
    obtain ⟨y, hy, e2⟩ := ih _ hm
    exact ⟨y, hy, e2.trans hc.2.symm⟩
   ·exact ⟨_, List.mem_append.2 (.inr (List.mem_singleton.2 rfl)), rfl⟩
theorem srtQ_get {L : List FQ} (h : Go.Abs.SrtQ cmpX L) {i j : Nat} (hij : i < j) (hj : j < L.length) : ¬ cmpX (kyQ (L.getD j dQ)) (kyQ (L.getD i dQ)) < 0 := by
 have := List.pairwise_iff_getElem.1 h i j (by omega) hj hij
 rw [List.getD_eq_getElem?_getD, List.getElem?_eq_getElem hj, List.getD_eq_getElem?_getD, List.getElem?_eq_getElem (by omega)]
 exact this
theorem cpT_srt {L : List FQ} (h : Go.Abs.SrtQ cmpX L) : ∀ {k : Nat}, k ≤ L.length → (cpT L k).Pairwise fun x y => cmpX (kyQ x) (kyQ y) < 0
 | 0, _ => List.Pairwise.nil
 | k + 1, hk => by
  have ih := cpT_srt h (k := k) (by omega)
  rw [cpT]
  split
  ·exact ih
  ·rename_i hc
   rw [List.pairwise_append]
   refine ⟨ih, List.pairwise_singleton _ _, fun x hx y hy => ?_⟩
   have hy : y = L.getD k dQ := by simpa using hy
   subst hy
   have hx2 := (cpT_sub (L := L) (k := k) (by omega)).subset hx
   obtain ⟨i, hi, rfl⟩ := List.mem_take_iff_getElem.1 hx2
   have ei : L[i] = L.getD i dQ := by rw [List.getD_eq_getElem?_getD, List.getElem?_eq_getElem (by omega)]; rfl
   rw [ei]
   have h1 := srtQ_get h (i := i) (j := k) (by omega) (by omega)
   have h2 := cmpX_neg (kyQ (L.getD i dQ)) (kyQ (L.getD k dQ))
   by_cases e : cmpX (kyQ (L.getD i dQ)) (kyQ (L.getD k dQ)) = 0
   ·have e1 := cmpX_zero.1 e
    refine absurd ⟨by omega, ?_⟩ hc
    by_cases e3 : i = k - 1
    ·rw [← e3]; exact e1.symm
    ·have a1 := srtQ_get h (i := i) (j := k - 1) (by omega) (by omega)
     have a2 := srtQ_get h (i := k - 1) (j := k) (by omega) (by omega)
     rw [e1] at a1
     have a3 := cmpX_neg (kyQ (L.getD k dQ)) (kyQ (L.getD (k - 1) dQ))
     exact cmpX_zero.1 (by omega)
   ·omega
def CI (L : List FQ) (k k2 kk : Nat) (M : List FQ) : Prop := M.length = L.length ∧ kk + 1 ≤ k + k2 ∧ M.take kk = cpT L (k + k2) ∧ (cpT L (k + k2)).length = kk ∧ ∀ j : Nat, k + k2 ≤ j + 1 → M.getD j dQ = L.getD j dQ
theorem ci_0 {L : List FQ} {k : Nat} (h : NoD L k) (h1 : 1 ≤ k) (hk : k < L.length) (hd : kyQ (L.getD k dQ) = kyQ (L.getD (k - 1) dQ)) : CI L k 1 k L := by
 have e : cpT L (k + 1) = L.take k := by rw [cpT, if_pos ⟨by omega, hd⟩, cpT_no h (by omega)]
 exact ⟨rfl, by omega, e.symm, by rw [e, List.length_take]; omega, fun _ _ => rfl⟩
theorem ci_skip {L M : List FQ} {k k2 kk : Nat} (h : CI L k k2 kk M) (h1 : 1 ≤ k) (hd : kyQ (M.getD (k + k2) dQ) = kyQ (M.getD (k + k2 - 1) dQ)) : CI L k (k2 + 1) kk M := by
 obtain ⟨a, b, c, d, e⟩ := h
 rw [e (k + k2) (by omega), e (k + k2 - 1) (by omega)] at hd
 have e2 : cpT L (k + (k2 + 1)) = cpT L (k + k2) := by
  rw [← Nat.add_assoc, cpT, if_pos ⟨by omega, hd⟩]
 exact ⟨a, by omega, by rw [e2]; exact c, by rw [e2]; exact d, fun j hj => e j (by omega)⟩
theorem ci_keep {L M : List FQ} {k k2 kk : Nat} (h : CI L k k2 kk M) (h1 : 1 ≤ k) (hk : k + k2 < L.length) (hd : ¬ kyQ (M.getD (k + k2) dQ) = kyQ (M.getD (k + k2 - 1) dQ)) : CI L k (k2 + 1) (kk + 1) (M.set kk (M.getD (k + k2) dQ)) := by
 obtain ⟨a, b, c, d, e⟩ := h
 have hx := e (k + k2) (by omega)
 rw [hx, e (k + k2 - 1) (by omega)] at hd
 have e2 : cpT L (k + (k2 + 1)) = cpT L (k + k2) ++ [L.getD (k + k2) dQ] := by
  rw [← Nat.add_assoc, cpT, if_neg (fun q => hd q.2)]
 refine ⟨by rw [List.length_set]; exact a, by omega, ?_, by rw [e2, List.length_append, d]; rfl, fun j hj => ?_⟩
 ·rw [e2, hx, ← c, List.take_add_one, List.take_set_of_le (by omega), List.getElem?_set_self (by omega)]; rfl
 ·rw [List.getD_eq_getElem?_getD, List.getElem?_set_ne (by omega), ← List.getD_eq_getElem?_getD]
  exact e j (by omega)
theorem ci_end {L M : List FQ} {k k2 kk : Nat} (h : CI L k k2 kk M) (hk : k + k2 = L.length) : M.take kk = cpQ L := by
 rw [cpQ, ← hk]; exact h.2.2.1
theorem cpQ_no {L : List FQ} {k : Nat} (h : NoD L k) (hk : L.length ≤ k) : L = cpQ L := by
 rw [cpQ, cpT_no (k := L.length) (fun j a b => h j a (by omega)) (Nat.le_refl _), List.take_length]
theorem cmpOr_c (l : List Int) (hl : l.length ≤ 1000000000) : CallA Tryz.prog 98 [LI l] (AI (orI l)) := by
 refine CallA.of Tryz.func98 rfl (by kernel_rfl) (R.go 16 (k21 (fun (i : Nat) => (⟨(frm 18 [(3, AI 0), (6, LI l), (7, AI l.length), (8, AI (i : Int))]), []⟩ : St)) (fun (i : Nat) => (i ≤ l.length) ∧ (orI (l.drop i) = orI l)) (fun (i : Nat) => l.length - i) 0 [3, 6, 7, 8] none ⟨(by omega), (by rfl)⟩ ?_))
 rintro i ⟨h3_1, h3_2⟩ R1 N2
 refine R.go 5 (k9 ((i : Int) < (l.length : Int)) (fun c4 => ?_) (fun c4 => ?_))
 ·refine R.go 5 (k15 eI l 0 i (i : Int) eI_len (R.go 9 (k10 ((l.getD i 0) = 0) (fun c5 => ?_) (fun c5 => ?_))))
  ·exact R.go 5 (k23 (AI (l.getD i 0)) (by first | (apply congrArg AI; first | (rw [← ‹orI (l.drop i) = orI l›, orI_drop (l := l) (i := i) (by omega), if_neg (by assumption)]) | (rw [← ‹orI (l.drop i) = orI l›, List.drop_eq_nil_of_le (by omega)]; rfl)) | (exfalso; omega)))
  refine R.go 3 (k8 ((i : Int) + 1) ?_)
  exact R.go 2 (k22 R1 (N2 (i + 1) [3, 6, 7, 8] none _ (by kernel_rfl) (by kernel_rfl) ⟨(by omega), (by (rw [← ‹orI (l.drop i) = orI l›, orI_drop (l := l) (i := i) (by omega), if_pos (by assumption)]))⟩ (by show (l.length - (i + 1)) < (l.length - i); omega)))
 exact R.go 6 (k23 (AI 0) (by first | (apply congrArg AI; first | (rw [← ‹orI (l.drop i) = orI l›, orI_drop (l := l) (i := i) (by omega), if_neg (by assumption)]) | (rw [← ‹orI (l.drop i) = orI l›, List.drop_eq_nil_of_le (by omega)]; rfl)) | (exfalso; omega)))
theorem cmpFr_c (a : Int) (xs : List Int) (b : Int) (ys : List Int) (la : xs.length ≤ 1000000000) (lb : ys.length ≤ 1000000000) : CallA Tryz.prog 39 [.agg [AI a, LI xs], .agg [AI b, LI ys]] (AI (cmpX (a, xs) (b, ys))) := by
 refine CallA.of Tryz.func39 rfl (by kernel_rfl) (R.go 7 (R.meet (⟨(frm 17 [(0, .agg [AI a, LI xs]), (1, .agg [AI b, LI ys]), (2, .ptr 0 0), (3, .ptr 1 0), (4, AI (orI [cmpI a b, cmpL xs ys])), (5, .ptr 0 0), (6, AI a), (7, .ptr 1 0), (8, AI b), (9, AI (cmpI a b)), (10, .ptr 0 1), (11, LI xs), (12, .ptr 1 1), (13, LI ys), (14, AI (cmpL xs ys)), (15, LI [cmpI a b, cmpL xs ys]), (16, AI (orI [cmpI a b, cmpL xs ys]))]), [.box 46 [AI a, LI xs], .box 46 [AI b, LI ys]]⟩ : St) (by kernel_rfl) ?_ ?_))
 ·refine R.any (by decide +kernel) (by kernel_rfl) (R.anyA 0 (.ptr 0 0) (by kernel_rfl) (np_meet _) (R.anyA 2 (.ptr 1 0) (by kernel_rfl) (np_meet _) (R.anyA 5 (.ptr 0 1) (by kernel_rfl) (np_meet _) (R.anyA 7 (.ptr 1 1) (by kernel_rfl) (np_meet _) (R.any4 1 3 6 8 (by kernel_rfl) (by kernel_rfl) ?_ ?_ ?_ ?_)))))
  ·refine R.go 2 (k29 3 6 8 ?_ ?_ ?_)
   ·refine R.go 2 (k29 4 6 8 ?_ ?_ ?_)
    ·refine k20 true (cmpI_c a b) (R.go 1 (k28 6 8 ?_ ?_))
     ·refine R.go 2 (k27 8 (R.go 2 (k27 9 (k20 true (cmpL_c xs ys la lb) (R.go 1 (k27 10 (R.lit (s := 1) (n := 2) (cs := rows eI [cmpI a b, cmpL xs ys]) (by kernel_rfl) (by kernel_rfl) (R.go 1 (k27 11 (k20 true (cmpOr_c [cmpI a b, cmpL xs ys] (by first | omega | (simp only [List.length_cons, List.length_nil]; omega))) (R.go 1 (k27 12 (R.go 2 (k26 ?_))))))))))))))
      exact k31
     refine R.go 2 (k27 6 (R.go 2 (k27 9 (k20 true (cmpL_c xs ys la lb) (R.go 1 (k27 10 (R.lit (s := 1) (n := 2) (cs := rows eI [cmpI a b, cmpL xs ys]) (by kernel_rfl) (by kernel_rfl) (R.go 1 (k27 11 (k20 true (cmpOr_c [cmpI a b, cmpL xs ys] (by first | omega | (simp only [List.length_cons, List.length_nil]; omega))) (R.go 1 (k27 12 (R.go 2 (k26 ?_))))))))))))))
     exact k31
    ·refine R.go 2 (k28 4 8 ?_ ?_)
     ·refine k20 true (cmpI_c a b) (R.go 1 (k27 8 (R.go 2 (k27 9 (k20 true (cmpL_c xs ys la lb) (R.go 1 (k27 10 (R.lit (s := 1) (n := 2) (cs := rows eI [cmpI a b, cmpL xs ys]) (by kernel_rfl) (by kernel_rfl) (R.go 1 (k27 11 (k20 true (cmpOr_c [cmpI a b, cmpL xs ys] (by first | omega | (simp only [List.length_cons, List.length_nil]; omega))) (R.go 1 (k27 12 (R.go 2 (k26 ?_)))))))))))))))
      exact k31
     refine R.go 2 (k27 4 (k20 true (cmpI_c a b) (R.go 1 (k27 9 (k20 true (cmpL_c xs ys la lb) (R.go 1 (k27 10 (R.lit (s := 1) (n := 2) (cs := rows eI [cmpI a b, cmpL xs ys]) (by kernel_rfl) (by kernel_rfl) (R.go 1 (k27 11 (k20 true (cmpOr_c [cmpI a b, cmpL xs ys] (by first | omega | (simp only [List.length_cons, List.length_nil]; omega))) (R.go 1 (k27 12 (R.go 2 (k26 ?_)))))))))))))))
     exact k31
    refine R.go 2 (k28 4 6 ?_ ?_)
    ·refine k20 true (cmpI_c a b) (R.go 1 (k27 6 (R.go 2 (k27 9 (k20 true (cmpL_c xs ys la lb) (R.go 1 (k27 10 (R.lit (s := 1) (n := 2) (cs := rows eI [cmpI a b, cmpL xs ys]) (by kernel_rfl) (by kernel_rfl) (R.go 1 (k27 11 (k20 true (cmpOr_c [cmpI a b, cmpL xs ys] (by first | omega | (simp only [List.length_cons, List.length_nil]; omega))) (R.go 1 (k27 12 (R.go 2 (k26 ?_)))))))))))))))
     exact k31
    refine R.go 2 (k27 4 (k20 true (cmpI_c a b) (R.go 1 (k27 9 (k20 true (cmpL_c xs ys la lb) (R.go 1 (k27 10 (R.lit (s := 1) (n := 2) (cs := rows eI [cmpI a b, cmpL xs ys]) (by kernel_rfl) (by kernel_rfl) (R.go 1 (k27 11 (k20 true (cmpOr_c [cmpI a b, cmpL xs ys] (by first | omega | (simp only [List.length_cons, List.length_nil]; omega))) (R.go 1 (k27 12 (R.go 2 (k26 ?_)))))))))))))))
    exact k31
   ·refine R.go 2 (k28 3 8 ?_ ?_)
    ·refine R.go 2 (k28 4 8 ?_ ?_)
     ·refine k20 true (cmpI_c a b) (R.go 1 (k27 8 (R.go 2 (k27 9 (k20 true (cmpL_c xs ys la lb) (R.go 1 (k27 10 (R.lit (s := 1) (n := 2) (cs := rows eI [cmpI a b, cmpL xs ys]) (by kernel_rfl) (by kernel_rfl) (R.go 1 (k27 11 (k20 true (cmpOr_c [cmpI a b, cmpL xs ys] (by first | omega | (simp only [List.length_cons, List.length_nil]; omega))) (R.go 1 (k27 12 (R.go 2 (k26 ?_)))))))))))))))
      exact k31
     refine R.go 2 (k27 4 (k20 true (cmpI_c a b) (R.go 1 (k27 9 (k20 true (cmpL_c xs ys la lb) (R.go 1 (k27 10 (R.lit (s := 1) (n := 2) (cs := rows eI [cmpI a b, cmpL xs ys]) (by kernel_rfl) (by kernel_rfl) (R.go 1 (k27 11 (k20 true (cmpOr_c [cmpI a b, cmpL xs ys] (by first | omega | (simp only [List.length_cons, List.length_nil]; omega))) (R.go 1 (k27 12 (R.go 2 (k26 ?_)))))))))))))))
     exact k31
    refine R.go 2 (k27 3 (R.go 2 (k27 4 (k20 true (cmpI_c a b) (R.go 1 (k27 9 (k20 true (cmpL_c xs ys la lb) (R.go 1 (k27 10 (R.lit (s := 1) (n := 2) (cs := rows eI [cmpI a b, cmpL xs ys]) (by kernel_rfl) (by kernel_rfl) (R.go 1 (k27 11 (k20 true (cmpOr_c [cmpI a b, cmpL xs ys] (by first | omega | (simp only [List.length_cons, List.length_nil]; omega))) (R.go 1 (k27 12 ?_)))))))))))))))
    refine R.go 2 (k26 ?_)
    exact k31
   refine R.go 2 (k28 3 6 ?_ ?_)
   ·refine R.go 2 (k28 4 6 ?_ ?_)
    ·refine k20 true (cmpI_c a b) (R.go 1 (k27 6 (R.go 2 (k27 9 (k20 true (cmpL_c xs ys la lb) (R.go 1 (k27 10 (R.lit (s := 1) (n := 2) (cs := rows eI [cmpI a b, cmpL xs ys]) (by kernel_rfl) (by kernel_rfl) (R.go 1 (k27 11 (k20 true (cmpOr_c [cmpI a b, cmpL xs ys] (by first | omega | (simp only [List.length_cons, List.length_nil]; omega))) (R.go 1 (k27 12 (R.go 2 (k26 ?_)))))))))))))))
     exact k31
    refine R.go 2 (k27 4 (k20 true (cmpI_c a b) (R.go 1 (k27 9 (k20 true (cmpL_c xs ys la lb) (R.go 1 (k27 10 (R.lit (s := 1) (n := 2) (cs := rows eI [cmpI a b, cmpL xs ys]) (by kernel_rfl) (by kernel_rfl) (R.go 1 (k27 11 (k20 true (cmpOr_c [cmpI a b, cmpL xs ys] (by first | omega | (simp only [List.length_cons, List.length_nil]; omega))) (R.go 1 (k27 12 (R.go 2 (k26 ?_)))))))))))))))
    exact k31
   refine R.go 2 (k27 3 (R.go 2 (k27 4 (k20 true (cmpI_c a b) (R.go 1 (k27 9 (k20 true (cmpL_c xs ys la lb) (R.go 1 (k27 10 (R.lit (s := 1) (n := 2) (cs := rows eI [cmpI a b, cmpL xs ys]) (by kernel_rfl) (by kernel_rfl) (R.go 1 (k27 11 (k20 true (cmpOr_c [cmpI a b, cmpL xs ys] (by first | omega | (simp only [List.length_cons, List.length_nil]; omega))) (R.go 1 (k27 12 ?_)))))))))))))))
   refine R.go 2 (k26 ?_)
   exact k31
  ·refine R.go 2 (k29 1 6 8 ?_ ?_ ?_)
   ·refine R.go 2 (k29 4 6 8 ?_ ?_ ?_)
    ·refine k20 true (cmpI_c a b) (R.go 1 (k28 6 8 ?_ ?_))
     ·refine R.go 2 (k27 8 (R.go 2 (k27 9 (k20 true (cmpL_c xs ys la lb) (R.go 1 (k27 10 (R.lit (s := 1) (n := 2) (cs := rows eI [cmpI a b, cmpL xs ys]) (by kernel_rfl) (by kernel_rfl) (R.go 1 (k27 11 (k20 true (cmpOr_c [cmpI a b, cmpL xs ys] (by first | omega | (simp only [List.length_cons, List.length_nil]; omega))) (R.go 1 (k27 12 (R.go 2 (k26 ?_))))))))))))))
      exact k31
     refine R.go 2 (k27 6 (R.go 2 (k27 9 (k20 true (cmpL_c xs ys la lb) (R.go 1 (k27 10 (R.lit (s := 1) (n := 2) (cs := rows eI [cmpI a b, cmpL xs ys]) (by kernel_rfl) (by kernel_rfl) (R.go 1 (k27 11 (k20 true (cmpOr_c [cmpI a b, cmpL xs ys] (by first | omega | (simp only [List.length_cons, List.length_nil]; omega))) (R.go 1 (k27 12 (R.go 2 (k26 ?_))))))))))))))
     exact k31
    ·refine R.go 2 (k28 4 8 ?_ ?_)
     ·refine k20 true (cmpI_c a b) (R.go 1 (k27 8 (R.go 2 (k27 9 (k20 true (cmpL_c xs ys la lb) (R.go 1 (k27 10 (R.lit (s := 1) (n := 2) (cs := rows eI [cmpI a b, cmpL xs ys]) (by kernel_rfl) (by kernel_rfl) (R.go 1 (k27 11 (k20 true (cmpOr_c [cmpI a b, cmpL xs ys] (by first | omega | (simp only [List.length_cons, List.length_nil]; omega))) (R.go 1 (k27 12 (R.go 2 (k26 ?_)))))))))))))))
      exact k31
     refine R.go 2 (k27 4 (k20 true (cmpI_c a b) (R.go 1 (k27 9 (k20 true (cmpL_c xs ys la lb) (R.go 1 (k27 10 (R.lit (s := 1) (n := 2) (cs := rows eI [cmpI a b, cmpL xs ys]) (by kernel_rfl) (by kernel_rfl) (R.go 1 (k27 11 (k20 true (cmpOr_c [cmpI a b, cmpL xs ys] (by first | omega | (simp only [List.length_cons, List.length_nil]; omega))) (R.go 1 (k27 12 (R.go 2 (k26 ?_)))))))))))))))
     exact k31
    refine R.go 2 (k28 4 6 ?_ ?_)
    ·refine k20 true (cmpI_c a b) (R.go 1 (k27 6 (R.go 2 (k27 9 (k20 true (cmpL_c xs ys la lb) (R.go 1 (k27 10 (R.lit (s := 1) (n := 2) (cs := rows eI [cmpI a b, cmpL xs ys]) (by kernel_rfl) (by kernel_rfl) (R.go 1 (k27 11 (k20 true (cmpOr_c [cmpI a b, cmpL xs ys] (by first | omega | (simp only [List.length_cons, List.length_nil]; omega))) (R.go 1 (k27 12 (R.go 2 (k26 ?_)))))))))))))))
     exact k31
    refine R.go 2 (k27 4 (k20 true (cmpI_c a b) (R.go 1 (k27 9 (k20 true (cmpL_c xs ys la lb) (R.go 1 (k27 10 (R.lit (s := 1) (n := 2) (cs := rows eI [cmpI a b, cmpL xs ys]) (by kernel_rfl) (by kernel_rfl) (R.go 1 (k27 11 (k20 true (cmpOr_c [cmpI a b, cmpL xs ys] (by first | omega | (simp only [List.length_cons, List.length_nil]; omega))) (R.go 1 (k27 12 (R.go 2 (k26 ?_)))))))))))))))
    exact k31
   ·refine R.go 2 (k28 1 8 ?_ ?_)
    ·refine R.go 2 (k28 4 8 ?_ ?_)
     ·refine k20 true (cmpI_c a b) (R.go 1 (k27 8 (R.go 2 (k27 9 (k20 true (cmpL_c xs ys la lb) (R.go 1 (k27 10 (R.lit (s := 1) (n := 2) (cs := rows eI [cmpI a b, cmpL xs ys]) (by kernel_rfl) (by kernel_rfl) (R.go 1 (k27 11 (k20 true (cmpOr_c [cmpI a b, cmpL xs ys] (by first | omega | (simp only [List.length_cons, List.length_nil]; omega))) (R.go 1 (k27 12 (R.go 2 (k26 ?_)))))))))))))))
      exact k31
     refine R.go 2 (k27 4 (k20 true (cmpI_c a b) (R.go 1 (k27 9 (k20 true (cmpL_c xs ys la lb) (R.go 1 (k27 10 (R.lit (s := 1) (n := 2) (cs := rows eI [cmpI a b, cmpL xs ys]) (by kernel_rfl) (by kernel_rfl) (R.go 1 (k27 11 (k20 true (cmpOr_c [cmpI a b, cmpL xs ys] (by first | omega | (simp only [List.length_cons, List.length_nil]; omega))) (R.go 1 (k27 12 (R.go 2 (k26 ?_)))))))))))))))
     exact k31
    refine R.go 2 (k27 1 (R.go 2 (k27 4 (k20 true (cmpI_c a b) (R.go 1 (k27 9 (k20 true (cmpL_c xs ys la lb) (R.go 1 (k27 10 (R.lit (s := 1) (n := 2) (cs := rows eI [cmpI a b, cmpL xs ys]) (by kernel_rfl) (by kernel_rfl) (R.go 1 (k27 11 (k20 true (cmpOr_c [cmpI a b, cmpL xs ys] (by first | omega | (simp only [List.length_cons, List.length_nil]; omega))) (R.go 1 (k27 12 ?_)))))))))))))))
    refine R.go 2 (k26 ?_)
    exact k31
   refine R.go 2 (k28 1 6 ?_ ?_)
   ·refine R.go 2 (k28 4 6 ?_ ?_)
    ·refine k20 true (cmpI_c a b) (R.go 1 (k27 6 (R.go 2 (k27 9 (k20 true (cmpL_c xs ys la lb) (R.go 1 (k27 10 (R.lit (s := 1) (n := 2) (cs := rows eI [cmpI a b, cmpL xs ys]) (by kernel_rfl) (by kernel_rfl) (R.go 1 (k27 11 (k20 true (cmpOr_c [cmpI a b, cmpL xs ys] (by first | omega | (simp only [List.length_cons, List.length_nil]; omega))) (R.go 1 (k27 12 (R.go 2 (k26 ?_)))))))))))))))
     exact k31
    refine R.go 2 (k27 4 (k20 true (cmpI_c a b) (R.go 1 (k27 9 (k20 true (cmpL_c xs ys la lb) (R.go 1 (k27 10 (R.lit (s := 1) (n := 2) (cs := rows eI [cmpI a b, cmpL xs ys]) (by kernel_rfl) (by kernel_rfl) (R.go 1 (k27 11 (k20 true (cmpOr_c [cmpI a b, cmpL xs ys] (by first | omega | (simp only [List.length_cons, List.length_nil]; omega))) (R.go 1 (k27 12 (R.go 2 (k26 ?_)))))))))))))))
    exact k31
   refine R.go 2 (k27 1 (R.go 2 (k27 4 (k20 true (cmpI_c a b) (R.go 1 (k27 9 (k20 true (cmpL_c xs ys la lb) (R.go 1 (k27 10 (R.lit (s := 1) (n := 2) (cs := rows eI [cmpI a b, cmpL xs ys]) (by kernel_rfl) (by kernel_rfl) (R.go 1 (k27 11 (k20 true (cmpOr_c [cmpI a b, cmpL xs ys] (by first | omega | (simp only [List.length_cons, List.length_nil]; omega))) (R.go 1 (k27 12 ?_)))))))))))))))
   refine R.go 2 (k26 ?_)
   exact k31
  ·refine R.go 2 (k29 1 3 8 ?_ ?_ ?_)
   ·refine R.go 2 (k28 3 8 ?_ ?_)
    ·refine R.go 2 (k28 4 8 ?_ ?_)
     ·refine k20 true (cmpI_c a b) (R.go 1 (k27 8 (R.go 2 (k27 9 (k20 true (cmpL_c xs ys la lb) (R.go 1 (k27 10 (R.lit (s := 1) (n := 2) (cs := rows eI [cmpI a b, cmpL xs ys]) (by kernel_rfl) (by kernel_rfl) (R.go 1 (k27 11 (k20 true (cmpOr_c [cmpI a b, cmpL xs ys] (by first | omega | (simp only [List.length_cons, List.length_nil]; omega))) (R.go 1 (k27 12 (R.go 2 (k26 ?_)))))))))))))))
      exact k31
     refine R.go 2 (k27 4 (k20 true (cmpI_c a b) (R.go 1 (k27 9 (k20 true (cmpL_c xs ys la lb) (R.go 1 (k27 10 (R.lit (s := 1) (n := 2) (cs := rows eI [cmpI a b, cmpL xs ys]) (by kernel_rfl) (by kernel_rfl) (R.go 1 (k27 11 (k20 true (cmpOr_c [cmpI a b, cmpL xs ys] (by first | omega | (simp only [List.length_cons, List.length_nil]; omega))) (R.go 1 (k27 12 (R.go 2 (k26 ?_)))))))))))))))
     exact k31
    refine R.go 2 (k27 3 (R.go 2 (k27 4 (k20 true (cmpI_c a b) (R.go 1 (k27 9 (k20 true (cmpL_c xs ys la lb) (R.go 1 (k27 10 (R.lit (s := 1) (n := 2) (cs := rows eI [cmpI a b, cmpL xs ys]) (by kernel_rfl) (by kernel_rfl) (R.go 1 (k27 11 (k20 true (cmpOr_c [cmpI a b, cmpL xs ys] (by first | omega | (simp only [List.length_cons, List.length_nil]; omega))) (R.go 1 (k27 12 ?_)))))))))))))))
    refine R.go 2 (k26 ?_)
    exact k31
   ·refine R.go 2 (k28 1 8 ?_ ?_)
    ·refine R.go 2 (k28 4 8 ?_ ?_)
     ·refine k20 true (cmpI_c a b) (R.go 1 (k27 8 (R.go 2 (k27 9 (k20 true (cmpL_c xs ys la lb) (R.go 1 (k27 10 (R.lit (s := 1) (n := 2) (cs := rows eI [cmpI a b, cmpL xs ys]) (by kernel_rfl) (by kernel_rfl) (R.go 1 (k27 11 (k20 true (cmpOr_c [cmpI a b, cmpL xs ys] (by first | omega | (simp only [List.length_cons, List.length_nil]; omega))) (R.go 1 (k27 12 (R.go 2 (k26 ?_)))))))))))))))
      exact k31
     refine R.go 2 (k27 4 (k20 true (cmpI_c a b) (R.go 1 (k27 9 (k20 true (cmpL_c xs ys la lb) (R.go 1 (k27 10 (R.lit (s := 1) (n := 2) (cs := rows eI [cmpI a b, cmpL xs ys]) (by kernel_rfl) (by kernel_rfl) (R.go 1 (k27 11 (k20 true (cmpOr_c [cmpI a b, cmpL xs ys] (by first | omega | (simp only [List.length_cons, List.length_nil]; omega))) (R.go 1 (k27 12 (R.go 2 (k26 ?_)))))))))))))))
     exact k31
    refine R.go 2 (k27 1 (R.go 2 (k27 4 (k20 true (cmpI_c a b) (R.go 1 (k27 9 (k20 true (cmpL_c xs ys la lb) (R.go 1 (k27 10 (R.lit (s := 1) (n := 2) (cs := rows eI [cmpI a b, cmpL xs ys]) (by kernel_rfl) (by kernel_rfl) (R.go 1 (k27 11 (k20 true (cmpOr_c [cmpI a b, cmpL xs ys] (by first | omega | (simp only [List.length_cons, List.length_nil]; omega))) (R.go 1 (k27 12 ?_)))))))))))))))
    refine R.go 2 (k26 ?_)
    exact k31
   refine R.go 2 (k28 1 3 ?_ ?_)
   ·refine R.go 2 (k27 3 (R.go 2 (k27 4 (k20 true (cmpI_c a b) (R.go 1 (k27 9 (k20 true (cmpL_c xs ys la lb) (R.go 1 (k27 10 (R.lit (s := 1) (n := 2) (cs := rows eI [cmpI a b, cmpL xs ys]) (by kernel_rfl) (by kernel_rfl) (R.go 1 (k27 11 (k20 true (cmpOr_c [cmpI a b, cmpL xs ys] (by first | omega | (simp only [List.length_cons, List.length_nil]; omega))) (R.go 1 (k27 12 ?_)))))))))))))))
    refine R.go 2 (k26 ?_)
    exact k31
   refine R.go 2 (k27 1 (R.go 2 (k27 4 (k20 true (cmpI_c a b) (R.go 1 (k27 9 (k20 true (cmpL_c xs ys la lb) (R.go 1 (k27 10 (R.lit (s := 1) (n := 2) (cs := rows eI [cmpI a b, cmpL xs ys]) (by kernel_rfl) (by kernel_rfl) (R.go 1 (k27 11 (k20 true (cmpOr_c [cmpI a b, cmpL xs ys] (by first | omega | (simp only [List.length_cons, List.length_nil]; omega))) (R.go 1 (k27 12 ?_)))))))))))))))
   refine R.go 2 (k26 ?_)
   exact k31
  refine R.go 2 (k29 1 3 6 ?_ ?_ ?_)
  ·refine R.go 2 (k28 3 6 ?_ ?_)
   ·refine R.go 2 (k28 4 6 ?_ ?_)
    ·refine k20 true (cmpI_c a b) (R.go 1 (k27 6 (R.go 2 (k27 9 (k20 true (cmpL_c xs ys la lb) (R.go 1 (k27 10 (R.lit (s := 1) (n := 2) (cs := rows eI [cmpI a b, cmpL xs ys]) (by kernel_rfl) (by kernel_rfl) (R.go 1 (k27 11 (k20 true (cmpOr_c [cmpI a b, cmpL xs ys] (by first | omega | (simp only [List.length_cons, List.length_nil]; omega))) (R.go 1 (k27 12 (R.go 2 (k26 ?_)))))))))))))))
     exact k31
    refine R.go 2 (k27 4 (k20 true (cmpI_c a b) (R.go 1 (k27 9 (k20 true (cmpL_c xs ys la lb) (R.go 1 (k27 10 (R.lit (s := 1) (n := 2) (cs := rows eI [cmpI a b, cmpL xs ys]) (by kernel_rfl) (by kernel_rfl) (R.go 1 (k27 11 (k20 true (cmpOr_c [cmpI a b, cmpL xs ys] (by first | omega | (simp only [List.length_cons, List.length_nil]; omega))) (R.go 1 (k27 12 (R.go 2 (k26 ?_)))))))))))))))
    exact k31
   refine R.go 2 (k27 3 (R.go 2 (k27 4 (k20 true (cmpI_c a b) (R.go 1 (k27 9 (k20 true (cmpL_c xs ys la lb) (R.go 1 (k27 10 (R.lit (s := 1) (n := 2) (cs := rows eI [cmpI a b, cmpL xs ys]) (by kernel_rfl) (by kernel_rfl) (R.go 1 (k27 11 (k20 true (cmpOr_c [cmpI a b, cmpL xs ys] (by first | omega | (simp only [List.length_cons, List.length_nil]; omega))) (R.go 1 (k27 12 ?_)))))))))))))))
   refine R.go 2 (k26 ?_)
   exact k31
  ·refine R.go 2 (k28 1 6 ?_ ?_)
   ·refine R.go 2 (k28 4 6 ?_ ?_)
    ·refine k20 true (cmpI_c a b) (R.go 1 (k27 6 (R.go 2 (k27 9 (k20 true (cmpL_c xs ys la lb) (R.go 1 (k27 10 (R.lit (s := 1) (n := 2) (cs := rows eI [cmpI a b, cmpL xs ys]) (by kernel_rfl) (by kernel_rfl) (R.go 1 (k27 11 (k20 true (cmpOr_c [cmpI a b, cmpL xs ys] (by first | omega | (simp only [List.length_cons, List.length_nil]; omega))) (R.go 1 (k27 12 (R.go 2 (k26 ?_)))))))))))))))
     exact k31
    refine R.go 2 (k27 4 (k20 true (cmpI_c a b) (R.go 1 (k27 9 (k20 true (cmpL_c xs ys la lb) (R.go 1 (k27 10 (R.lit (s := 1) (n := 2) (cs := rows eI [cmpI a b, cmpL xs ys]) (by kernel_rfl) (by kernel_rfl) (R.go 1 (k27 11 (k20 true (cmpOr_c [cmpI a b, cmpL xs ys] (by first | omega | (simp only [List.length_cons, List.length_nil]; omega))) (R.go 1 (k27 12 (R.go 2 (k26 ?_)))))))))))))))
    exact k31
   refine R.go 2 (k27 1 (R.go 2 (k27 4 (k20 true (cmpI_c a b) (R.go 1 (k27 9 (k20 true (cmpL_c xs ys la lb) (R.go 1 (k27 10 (R.lit (s := 1) (n := 2) (cs := rows eI [cmpI a b, cmpL xs ys]) (by kernel_rfl) (by kernel_rfl) (R.go 1 (k27 11 (k20 true (cmpOr_c [cmpI a b, cmpL xs ys] (by first | omega | (simp only [List.length_cons, List.length_nil]; omega))) (R.go 1 (k27 12 ?_)))))))))))))))
   refine R.go 2 (k26 ?_)
   exact k31
  refine R.go 2 (k28 1 3 ?_ ?_)
  ·refine R.go 2 (k27 3 (R.go 2 (k27 4 (k20 true (cmpI_c a b) (R.go 1 (k27 9 (k20 true (cmpL_c xs ys la lb) (R.go 1 (k27 10 (R.lit (s := 1) (n := 2) (cs := rows eI [cmpI a b, cmpL xs ys]) (by kernel_rfl) (by kernel_rfl) (R.go 1 (k27 11 (k20 true (cmpOr_c [cmpI a b, cmpL xs ys] (by first | omega | (simp only [List.length_cons, List.length_nil]; omega))) (R.go 1 (k27 12 ?_)))))))))))))))
   refine R.go 2 (k26 ?_)
   exact k31
  refine R.go 2 (k27 1 (R.go 2 (k27 4 (k20 true (cmpI_c a b) (R.go 1 (k27 9 (k20 true (cmpL_c xs ys la lb) (R.go 1 (k27 10 (R.lit (s := 1) (n := 2) (cs := rows eI [cmpI a b, cmpL xs ys]) (by kernel_rfl) (by kernel_rfl) (R.go 1 (k27 11 (k20 true (cmpOr_c [cmpI a b, cmpL xs ys] (by first | omega | (simp only [List.length_cons, List.length_nil]; omega))) (R.go 1 (k27 12 ?_)))))))))))))))
  refine R.go 2 (k26 ?_)
  exact k31
 exact k23 (AI (orI [cmpI a b, cmpL xs ys])) (by first | (apply congrArg AI; rw [orI_two]; rfl) | (exfalso; omega))
theorem cmpEq_c (a : Int) (xs : List Int) (b : Int) (ys : List Int) (la : xs.length ≤ 1000000000) (lb : ys.length ≤ 1000000000) : CallA Tryz.prog 41 [.agg [AI a, LI xs], .agg [AI b, LI ys]] (.bool (decide (cmpX (a, xs) (b, ys) = 0))) := by
 refine CallA.of Tryz.func41 rfl (by kernel_rfl) (R.go 10 (k20 true (cmpFr_c a xs b ys la lb) ?_))
 exact R.go 3 (k23 (.bool (decide ((cmpX (a, xs) (b, ys)) = 0))) (by first | (rfl) | (exfalso; omega)))
def srfR : Go.Shelf.Ren := { f := fun x => match x with | 6 => 38 | 15 => 97 | 14 => 96 | 28 => 181 | 29 => 182 | 20 => 173 | 21 => 174 | 22 => 175 | 23 => 176 | 24 => 177 | 25 => 178 | 26 => 179 | 27 => 180 | 46 => 206 | 47 => 207 | 48 => 208 | 49 => 209 | 50 => 210 | 57 => 217 | n => n, t := fun x => match x with | 22 => 61 | 24 => 46 | 25 => 72 | 3 => 3 | 39 => 119 | 0 => 0 | 53 => 167 | 55 => 102 | 4 => 4 | 46 => 160 | 45 => 159 | 50 => 164 | 5 => 5 | 9 => 9 | 66 => 183 | 70 => 187 | 76 => 193 | 77 => 194 | n => n, g := fun n => n }
theorem srfLay : Go.Proofs.SlLaysF0.n6 Tryz.prog srfR where
 mixed := by decide +kernel
 f6 := ⟨Tryz.f38.name, by decide, Tryz.func38.trans (congrArg some (by kernel_rfl))⟩
 f14 := ⟨Tryz.f96.name, by decide, Tryz.func96.trans (congrArg some (by kernel_rfl))⟩
 f15 := Tryz.func97.trans (congrArg some (by kernel_rfl))
 f20 := ⟨Tryz.f173.name, by decide, Tryz.func173.trans (congrArg some (by kernel_rfl))⟩
 f21 := ⟨Tryz.f174.name, by decide, Tryz.func174.trans (congrArg some (by kernel_rfl))⟩
 f22 := ⟨Tryz.f175.name, by decide, Tryz.func175.trans (congrArg some (by kernel_rfl))⟩
 f23 := ⟨Tryz.f176.name, by decide, Tryz.func176.trans (congrArg some (by kernel_rfl))⟩
 f24 := ⟨Tryz.f177.name, by decide, Tryz.func177.trans (congrArg some (by kernel_rfl))⟩
 f25 := ⟨Tryz.f178.name, by decide, Tryz.func178.trans (congrArg some (by kernel_rfl))⟩
 f26 := ⟨Tryz.f179.name, by decide, Tryz.func179.trans (congrArg some (by kernel_rfl))⟩
 f27 := ⟨Tryz.f180.name, by decide, Tryz.func180.trans (congrArg some (by kernel_rfl))⟩
 f28 := Tryz.func181.trans (congrArg some (by kernel_rfl))
 f29 := Tryz.func182.trans (congrArg some (by kernel_rfl))
 f46 := ⟨Tryz.f206.name, by decide, Tryz.func206.trans (congrArg some (by kernel_rfl))⟩
 f47 := Tryz.func207.trans (congrArg some (by kernel_rfl))
 f48 := Tryz.func208.trans (congrArg some (by kernel_rfl))
 f49 := ⟨Tryz.f209.name, by decide, Tryz.func209.trans (congrArg some (by kernel_rfl))⟩
 f50 := ⟨Tryz.f210.name, by decide, Tryz.func210.trans (congrArg some (by kernel_rfl))⟩
 f57 := ⟨Tryz.f217.name, by decide, Tryz.func217.trans (congrArg some (by kernel_rfl))⟩
 t0 := Tryz.underlying0
 a0 := Tryz.isAgg0
 z0 := Tryz.sizeOf0
 v0 := Tryz.zeroValue0
 t3 := Tryz.underlying3
 a3 := Tryz.isAgg3
 z3 := Tryz.sizeOf3
 v3 := Tryz.zeroValue3
 t4 := Tryz.underlying4
 a4 := Tryz.isAgg4
 z4 := Tryz.sizeOf4
 v4 := Tryz.zeroValue4
 t5 := Tryz.underlying5
 a5 := Tryz.isAgg5
 z5 := Tryz.sizeOf5
 v5 := Tryz.zeroValue5
 t9 := Tryz.underlying9
 a9 := Tryz.isAgg9
 z9 := Tryz.sizeOf9
 v9 := Tryz.zeroValue9
 t22 := Tryz.underlying61
 a22 := Tryz.isAgg61
 z22 := Tryz.sizeOf61
 v22 := Tryz.zeroValue61
 t25 := Tryz.underlying72
 a25 := Tryz.isAgg72
 z25 := Tryz.sizeOf72
 v25 := Tryz.zeroValue72
 t39 := Tryz.underlying119
 a39 := Tryz.isAgg119
 z39 := Tryz.sizeOf119
 v39 := Tryz.zeroValue119
 t45 := Tryz.underlying159
 a45 := Tryz.isAgg159
 z45 := Tryz.sizeOf159
 v45 := Tryz.zeroValue159
 t46 := Tryz.underlying160
 a46 := Tryz.isAgg160
 z46 := Tryz.sizeOf160
 v46 := Tryz.zeroValue160
 t50 := Tryz.underlying164
 a50 := Tryz.isAgg164
 z50 := Tryz.sizeOf164
 v50 := Tryz.zeroValue164
 t53 := Tryz.underlying167
 a53 := Tryz.isAgg167
 z53 := Tryz.sizeOf167
 v53 := Tryz.zeroValue167
 t55 := Tryz.underlying102
 a55 := Tryz.isAgg102
 z55 := Tryz.sizeOf102
 v55 := Tryz.zeroValue102
 t66 := Tryz.underlying183
 a66 := Tryz.isAgg183
 z66 := Tryz.sizeOf183
 v66 := Tryz.zeroValue183
 t70 := Tryz.underlying187
 a70 := Tryz.isAgg187
 z70 := Tryz.sizeOf187
 v70 := Tryz.zeroValue187
 t76 := Tryz.underlying193
 a76 := Tryz.isAgg193
 z76 := Tryz.sizeOf193
 v76 := Tryz.zeroValue193
 t77 := Tryz.underlying194
 a77 := Tryz.isAgg194
 z77 := Tryz.sizeOf194
 v77 := Tryz.zeroValue194
theorem sortQ_c (b : Nat) (n : Int) (xs : List Int) (L : List FQ) (hK : ∀ x ∈ L, x.2.2.length ≤ 1000) (hl : L.length ≤ 1000000000) : CallX Tryz.prog 38 [.ref 2, .fn 39 []] [.inert (.base b), .box 29 [AI n, LI xs], rowA (eQ eI 2 1) 46 2 L] (fun (resX : AV) (objX : List AObj) => ∃ L2 : List FQ, (L2.Perm L ∧ Go.Abs.SrtQ cmpX L2) ∧ resX = .tup [] ∧ objX = [.inert (.base b), .box 29 [AI n, LI xs], rowA (eQ eI 2 1) 46 2 L2]) := by
 refine (CallX.sortF srfLay (enters_of Tryz.func38 (by kernel_rfl) rfl) Tryz.isAgg46 Tryz.sizeOf46 cmpX (K := 1000) cmpX_swo (fun a xs b ys h1 h2 => cmpFr_c a xs b ys (by omega) (by omega)) (enters_of Tryz.func39 (by kernel_rfl) rfl) 2 2 46 L [.inert (.base b), .box 29 [AI n, LI xs], rowA (eQ eI 2 1) 46 2 L] rfl hK hl).mono ?_
 rintro r h' ⟨L2, h1, rfl, rfl⟩
 exact ⟨L2, h1, rfl, rfl⟩
end Go.Proofs.YtehbliocfpppoaaGreat

/-! Runs of equal frames compacted. -/
namespace Go.Proofs.YtehbliocfpppoaaGreat
open Go.RowKit Go.Abs
theorem dup_of {L : List FQ} {i j : Nat} (hj : j = i - 1) (h : cmpX ((L.getD i dQ).1, (L.getD i dQ).2.2) ((L.getD j dQ).1, (L.getD j dQ).2.2) = 0) : kyQ (L.getD i dQ) = kyQ (L.getD (i - 1) dQ) := by subst hj; exact cmpX_zero.1 h
theorem ndup_of {L : List FQ} {i j : Nat} (hj : j = i - 1) (h : ¬ cmpX ((L.getD i dQ).1, (L.getD i dQ).2.2) ((L.getD j dQ).1, (L.getD j dQ).2.2) = 0) : ¬ kyQ (L.getD i dQ) = kyQ (L.getD (i - 1) dQ) := by subst hj; exact fun q => h (cmpX_zero.2 q)
theorem el_of {L : List FQ} (hK : ∀ x ∈ L, x.2.2.length ≤ 1000) {i : Nat} (hi : i < L.length) : (L.getD i dQ).2.2.length ≤ 1000 := hK _ (ri_gt hi)
theorem ci_el {L M : List FQ} {k k2 kk : Nat} (hK : ∀ x ∈ L, x.2.2.length ≤ 1000) (h : CI L k k2 kk M) {j : Nat} (hj : k + k2 ≤ j + 1) (hl : j < L.length) : (M.getD j dQ).2.2.length ≤ 1000 := by
 rw [h.2.2.2.2 j hj]; exact el_of hK hl
theorem compact_c (b : Nat) (n : Int) (xs : List Int) (L : List FQ) (hK : ∀ x ∈ L, x.2.2.length ≤ 1000) (hl : L.length ≤ 1000000000) : CallY Tryz.prog 2 40 [.ref 2, .fn 41 []] [.inert (.base b), .box 29 [AI n, LI xs], rowA (eQ eI 2 1) 46 2 L] (fun (resX : AV) (objX : List AObj) => ∃ L2 : List FQ, (L2 = cpQ L) ∧ resX = .ref 2 ∧ objX = [.inert (.base b), .box 29 [AI n, LI xs], rowA (eQ eI 2 1) 46 2 L2]) := by
 refine CallY.dropE (CallY.ofF Tryz.func40 rfl (by kernel_rfl) ?_)
 intro usC frC hfC hkC
 refine R.go 11 (k9 ((L.length : Int) < 2) (fun c1 => ?_) (fun c1 => ?_))
 ·exact R.go 5 (R.retX (res := .ref 2) (hp' := [.inert (.base b), .box 29 [AI n, LI xs], rowA (eQ eI 2 1) 46 2 L, .dead]) (by kernel_rfl) (by kernel_rfl) (by kernel_rfl) (by kernel_rfl) ⟨[0, 1, 2], by kernel_rfl, by decide, L, by first | exact cpQ_no (noD_1 L) (by omega) | exact cpQ_no (by assumption) (by omega) | exact ci_end (by assumption) (by omega), by kernel_rfl, by kernel_rfl⟩)
 refine R.go 7 (k21 (fun (k : Nat) => (⟨(frm 66 [(0, .ref 2), (1, .fn 41 []), (5, AI (k : Int))]), [.inert (.base b), .box 29 [AI n, LI xs], rowA (eQ eI 2 1) 46 2 L, .frame usC frC]⟩ : St)) (fun (k : Nat) => (1 ≤ k) ∧ (k ≤ L.length) ∧ (NoD L k)) (fun (k : Nat) => L.length - k) 1 [0, 1, 5] none ⟨(by omega), (by omega), (by exact noD_1 L)⟩ ?_)
 rintro k ⟨h4_1, h4_2, h4_3⟩ R2 N3
 refine R.go 8 (k9 ((k : Int) < (L.length : Int)) (fun c5 => ?_) (fun c5 => ?_))
 ·refine R.go 4 ?_
  have he1 : (L.getD k (0, .bool false, [])).2.2.length ≤ 1000 := el_of hK (by omega)
  have he2 : (L.getD ((k : Int) - 1).toNat (0, .bool false, [])).2.2.length ≤ 1000 := el_of hK (by omega)
  refine R.meet (⟨(frm 66 [(0, .ref 2), (1, .fn 41 []), (5, AI (k : Int)), (12, AI (k : Int)), (13, .ref 2), (14, AI L.length), (15, .bool (decide ((k : Int) < (L.length : Int)))), (18, .fn 41 []), (19, .ref 2), (20, AI (k : Int)), (21, .ptr 2 (k * 2)), (22, .agg [AI ((L.getD k (0, .bool false, [])).1), .nam ((L.getD k (0, .bool false, [])).2.1) (some 2) 1 ((L.getD k (0, .bool false, [])).2.2).length (rows eI ((L.getD k (0, .bool false, [])).2.2))]), (23, .ref 2), (24, AI (k : Int)), (25, AI ((k : Int) - 1)), (26, .ptr 2 ((((k : Int) - 1).toNat) * 2)), (27, .agg [AI ((L.getD (((k : Int) - 1).toNat) (0, .bool false, [])).1), .nam ((L.getD (((k : Int) - 1).toNat) (0, .bool false, [])).2.1) (some 2) 1 ((L.getD (((k : Int) - 1).toNat) (0, .bool false, [])).2.2).length (rows eI ((L.getD (((k : Int) - 1).toNat) (0, .bool false, [])).2.2))]), (28, .bool (decide (cmpX (((L.getD k (0, .bool false, [])).1), ((L.getD k (0, .bool false, [])).2.2)) (((L.getD (((k : Int) - 1).toNat) (0, .bool false, [])).1), ((L.getD (((k : Int) - 1).toNat) (0, .bool false, [])).2.2)) = 0)))]), [.inert (.base b), .box 29 [AI n, LI xs], rowA (eQ eI 2 1) 46 2 L, .frame usC frC]⟩ : St) (by kernel_rfl) ?_ ?_
  ·refine R.any (by decide +kernel) (by kernel_rfl) (k30 0 (k30 1 (k30 2 (k30 5 (k30 6 (R.anyJn 7 (.int .i64 (IntKind.i64.wrap ((k : Int) - 1))) ((k : Int) - 1) (by kernel_rfl) (congrArg (AV.int .i64) (wrap_id (by omega) (by omega))) (np_meet _) (R.anyO 3 2 2 L.length k (k : Int) (by kernel_rfl) rfl (by omega) (np_meet _) (R.anyO 8 2 2 L.length (((k : Int) - 1).toNat) ((k : Int) - 1) (by kernel_rfl) (by omega) (by omega) (np_meet _) (k28 4 9 ?_ ?_)))))))))
   ·refine R.ldA (eQ eI 2 1) L (0, .bool false, []) k 2 (by kernel_rfl) eQ_len (by omega) (by kernel_rfl) (R.go 1 (k27 9 (R.ldA (eQ eI 2 1) L (0, .bool false, []) (((k : Int) - 1).toNat) 2 (by kernel_rfl) eQ_len (by omega) (by kernel_rfl) (R.go 1 (k27 10 (R.callW (avs0 := [.agg [AI ((L.getD k (0, .bool false, [])).1), .nam ((L.getD k (0, .bool false, [])).2.1) (some 2) 1 ((L.getD k (0, .bool false, [])).2.2).length (rows eI ((L.getD k (0, .bool false, [])).2.2))], .agg [AI ((L.getD (((k : Int) - 1).toNat) (0, .bool false, [])).1), .nam ((L.getD (((k : Int) - 1).toNat) (0, .bool false, [])).2.1) (some 2) 1 ((L.getD (((k : Int) - 1).toNat) (0, .bool false, [])).2.2).length (rows eI ((L.getD (((k : Int) - 1).toNat) (0, .bool false, [])).2.2))]]) (cmpEq_c ((L.getD k (0, .bool false, [])).1) ((L.getD k (0, .bool false, [])).2.2) ((L.getD (((k : Int) - 1).toNat) (0, .bool false, [])).1) ((L.getD (((k : Int) - 1).toNat) (0, .bool false, [])).2.2) (by first | omega | (simp <;> omega)) (by first | omega | (simp <;> omega))) (by kernel_rfl) (.cons (.agg (.cons (.leaf rfl) (.cons (.wk (.leaf rfl) (fun w Z u h => fgt1 w Z u h)) (.nil)))) (.cons (.agg (.cons (.leaf rfl) (.cons (.wk (.leaf rfl) (fun w Z u h => fgt1 w Z u h)) (.nil)))) (.nil))) rfl (by kernel_rfl) (R.go 1 (k26 ?_))))))))
    exact k31
   refine R.ldA (eQ eI 2 1) L (0, .bool false, []) (((k : Int) - 1).toNat) 2 (by kernel_rfl) eQ_len (by omega) (by kernel_rfl) (R.go 1 (k27 4 (R.ldA (eQ eI 2 1) L (0, .bool false, []) k 2 (by kernel_rfl) eQ_len (by omega) (by kernel_rfl) (R.go 1 (k27 10 (R.callW (avs0 := [.agg [AI ((L.getD k (0, .bool false, [])).1), .nam ((L.getD k (0, .bool false, [])).2.1) (some 2) 1 ((L.getD k (0, .bool false, [])).2.2).length (rows eI ((L.getD k (0, .bool false, [])).2.2))], .agg [AI ((L.getD (((k : Int) - 1).toNat) (0, .bool false, [])).1), .nam ((L.getD (((k : Int) - 1).toNat) (0, .bool false, [])).2.1) (some 2) 1 ((L.getD (((k : Int) - 1).toNat) (0, .bool false, [])).2.2).length (rows eI ((L.getD (((k : Int) - 1).toNat) (0, .bool false, [])).2.2))]]) (cmpEq_c ((L.getD k (0, .bool false, [])).1) ((L.getD k (0, .bool false, [])).2.2) ((L.getD (((k : Int) - 1).toNat) (0, .bool false, [])).1) ((L.getD (((k : Int) - 1).toNat) (0, .bool false, [])).2.2) (by first | omega | (simp <;> omega)) (by first | omega | (simp <;> omega))) (by kernel_rfl) (.cons (.agg (.cons (.leaf rfl) (.cons (.wk (.leaf rfl) (fun w Z u h => fgt1 w Z u h)) (.nil)))) (.cons (.agg (.cons (.leaf rfl) (.cons (.wk (.leaf rfl) (fun w Z u h => fgt1 w Z u h)) (.nil)))) (.nil))) rfl (by kernel_rfl) (R.go 1 (k26 ?_))))))))
   exact k31
  refine k9 (cmpX (((L.getD k (0, .bool false, [])).1), ((L.getD k (0, .bool false, [])).2.2)) (((L.getD (((k : Int) - 1).toNat) (0, .bool false, [])).1), ((L.getD (((k : Int) - 1).toNat) (0, .bool false, [])).2.2)) = 0) (fun c6 => ?_) (fun c6 => ?_)
  ·have hdup := dup_of (L := L) (i := k) (j := ((k : Int) - 1).toNat) (by omega) (by assumption)
   refine R.go 4 (R.subO 2 2 L.length k (k : Int) (by kernel_rfl) rfl (by omega) (by kernel_rfl) ?_)
   intro u7 v8 hsub9
   refine R.go 8 (k21 ((fun | (k2, kk, M) => (⟨(frm 66 [(0, .ref 2), (1, .fn 41 []), (5, AI (kk : Int)), (6, (weakN v8 (L.length - k))), (7, AI (k2 : Int))]), [.inert (.base b), .box 29 [AI n, LI xs], rowA (eQ eI 2 1) 46 2 M, .frame usC frC, .frame [u7] [.ref 2]]⟩ : St) : Nat × Nat × (List FQ) → St)) (fun | (k2, kk, M) => (1 ≤ k2) ∧ (k + k2 ≤ L.length) ∧ (CI L k k2 kk M)) (fun | (k2, kk, M) => L.length - (k + k2)) (1, k, L) [0, 1, 5, 6, 7] none ⟨(by omega), (by omega), (by exact ci_0 (by assumption) (by omega) (by omega) hdup)⟩ ?_)
   rintro ⟨k2, kk, M⟩ ⟨h13_1, h13_2, h13_3⟩ R10 N11
   have hml : M.length = L.length := (‹CI L k k2 kk M›).1
   have hkb : kk + 1 ≤ k + k2 := (‹CI L k k2 kk M›).2.1
   refine R.go 8 (k9 ((k2 : Int) < ((L.length - k : Nat) : Int)) (fun c14 => ?_) (fun c14 => ?_))
   ·refine R.go 4 ?_
    have he3 : (M.getD (k + k2) (0, .bool false, [])).2.2.length ≤ 1000 := ci_el hK ‹CI L k k2 kk M› (by omega) (by omega)
    have he4 : (M.getD (k + ((k2 : Int) - 1).toNat) (0, .bool false, [])).2.2.length ≤ 1000 := ci_el hK ‹CI L k k2 kk M› (by omega) (by omega)
    refine R.meet (⟨(frm 66 [(0, .ref 2), (1, .fn 41 []), (5, AI (kk : Int)), (6, (weakN v8 (L.length - k))), (7, AI (k2 : Int)), (32, AI (k2 : Int)), (33, (weakN v8 (L.length - k))), (34, AI ((L.length - k : Nat) : Int)), (35, .bool (decide ((k2 : Int) < ((L.length - k : Nat) : Int)))), (38, .fn 41 []), (39, (weakN v8 (L.length - k))), (40, AI (k2 : Int)), (41, .ptr 2 ((k + k2) * 2)), (42, .agg [AI ((M.getD (k + k2) (0, .bool false, [])).1), .nam ((M.getD (k + k2) (0, .bool false, [])).2.1) (some 2) 1 ((M.getD (k + k2) (0, .bool false, [])).2.2).length (rows eI ((M.getD (k + k2) (0, .bool false, [])).2.2))]), (43, (weakN v8 (L.length - k))), (44, AI (k2 : Int)), (45, AI ((k2 : Int) - 1)), (46, .ptr 2 ((k + (((k2 : Int) - 1).toNat)) * 2)), (47, .agg [AI ((M.getD (k + (((k2 : Int) - 1).toNat)) (0, .bool false, [])).1), .nam ((M.getD (k + (((k2 : Int) - 1).toNat)) (0, .bool false, [])).2.1) (some 2) 1 ((M.getD (k + (((k2 : Int) - 1).toNat)) (0, .bool false, [])).2.2).length (rows eI ((M.getD (k + (((k2 : Int) - 1).toNat)) (0, .bool false, [])).2.2))]), (48, .bool (decide (cmpX (((M.getD (k + k2) (0, .bool false, [])).1), ((M.getD (k + k2) (0, .bool false, [])).2.2)) (((M.getD (k + (((k2 : Int) - 1).toNat)) (0, .bool false, [])).1), ((M.getD (k + (((k2 : Int) - 1).toNat)) (0, .bool false, [])).2.2)) = 0))), (49, .bool (!decide (cmpX (((M.getD (k + k2) (0, .bool false, [])).1), ((M.getD (k + k2) (0, .bool false, [])).2.2)) (((M.getD (k + (((k2 : Int) - 1).toNat)) (0, .bool false, [])).1), ((M.getD (k + (((k2 : Int) - 1).toNat)) (0, .bool false, [])).2.2)) = 0)))]), [.inert (.base b), .box 29 [AI n, LI xs], rowA (eQ eI 2 1) 46 2 M, .frame usC frC, .frame [u7] [.ref 2]]⟩ : St) (by kernel_rfl) ?_ ?_
    ·refine R.any (by decide +kernel) (by kernel_rfl) (k30 0 (k30 1 (k30 2 (k30 5 (k30 6 (R.anyJn 7 (.int .i64 (IntKind.i64.wrap ((k2 : Int) - 1))) ((k2 : Int) - 1) (by kernel_rfl) (congrArg (AV.int .i64) (wrap_id (by omega) (by omega))) (np_meet _) (k28 3 8 ?_ ?_)))))))
     ·refine R.idxS 2 4 2 k L.length k2 (k2 : Int) u7 v8 (by kernel_rfl) (by kernel_rfl) rfl hsub9 (by omega) (by kernel_rfl) (R.go 1 (k28 4 8 ?_ ?_))
      ·refine R.ldA (eQ eI 2 1) M (0, .bool false, []) (k + k2) 2 (by kernel_rfl) eQ_len (by omega) (by kernel_rfl) (R.go 1 (k27 8 (R.idxS 2 4 2 k L.length (((k2 : Int) - 1).toNat) ((k2 : Int) - 1) u7 v8 (by kernel_rfl) (by kernel_rfl) (by omega) hsub9 (by omega) (by kernel_rfl) (R.go 1 (k27 9 (R.ldA (eQ eI 2 1) M (0, .bool false, []) (k + (((k2 : Int) - 1).toNat)) 2 (by kernel_rfl) eQ_len (by omega) (by kernel_rfl) (R.go 1 (k27 10 (R.callW (avs0 := [.agg [AI ((M.getD (k + k2) (0, .bool false, [])).1), .nam ((M.getD (k + k2) (0, .bool false, [])).2.1) (some 2) 1 ((M.getD (k + k2) (0, .bool false, [])).2.2).length (rows eI ((M.getD (k + k2) (0, .bool false, [])).2.2))], .agg [AI ((M.getD (k + (((k2 : Int) - 1).toNat)) (0, .bool false, [])).1), .nam ((M.getD (k + (((k2 : Int) - 1).toNat)) (0, .bool false, [])).2.1) (some 2) 1 ((M.getD (k + (((k2 : Int) - 1).toNat)) (0, .bool false, [])).2.2).length (rows eI ((M.getD (k + (((k2 : Int) - 1).toNat)) (0, .bool false, [])).2.2))]]) (cmpEq_c ((M.getD (k + k2) (0, .bool false, [])).1) ((M.getD (k + k2) (0, .bool false, [])).2.2) ((M.getD (k + (((k2 : Int) - 1).toNat)) (0, .bool false, [])).1) ((M.getD (k + (((k2 : Int) - 1).toNat)) (0, .bool false, [])).2.2) (by first | omega | (simp <;> omega)) (by first | omega | (simp <;> omega))) (by kernel_rfl) (.cons (.agg (.cons (.leaf rfl) (.cons (.wk (.leaf rfl) (fun w Z u h => fgt1 w Z u h)) (.nil)))) (.cons (.agg (.cons (.leaf rfl) (.cons (.wk (.leaf rfl) (fun w Z u h => fgt1 w Z u h)) (.nil)))) (.nil))) rfl (by kernel_rfl) (R.go 1 (k27 11 (R.go 2 (k26 ?_)))))))))))))
       exact k31
      refine R.idxS 2 4 2 k L.length (((k2 : Int) - 1).toNat) ((k2 : Int) - 1) u7 v8 (by kernel_rfl) (by kernel_rfl) (by omega) hsub9 (by omega) (by kernel_rfl) (R.go 1 (k28 4 9 ?_ ?_))
      ·refine R.ldA (eQ eI 2 1) M (0, .bool false, []) (k + k2) 2 (by kernel_rfl) eQ_len (by omega) (by kernel_rfl) (R.go 1 (k27 9 (R.ldA (eQ eI 2 1) M (0, .bool false, []) (k + (((k2 : Int) - 1).toNat)) 2 (by kernel_rfl) eQ_len (by omega) (by kernel_rfl) (R.go 1 (k27 10 (R.callW (avs0 := [.agg [AI ((M.getD (k + k2) (0, .bool false, [])).1), .nam ((M.getD (k + k2) (0, .bool false, [])).2.1) (some 2) 1 ((M.getD (k + k2) (0, .bool false, [])).2.2).length (rows eI ((M.getD (k + k2) (0, .bool false, [])).2.2))], .agg [AI ((M.getD (k + (((k2 : Int) - 1).toNat)) (0, .bool false, [])).1), .nam ((M.getD (k + (((k2 : Int) - 1).toNat)) (0, .bool false, [])).2.1) (some 2) 1 ((M.getD (k + (((k2 : Int) - 1).toNat)) (0, .bool false, [])).2.2).length (rows eI ((M.getD (k + (((k2 : Int) - 1).toNat)) (0, .bool false, [])).2.2))]]) (cmpEq_c ((M.getD (k + k2) (0, .bool false, [])).1) ((M.getD (k + k2) (0, .bool false, [])).2.2) ((M.getD (k + (((k2 : Int) - 1).toNat)) (0, .bool false, [])).1) ((M.getD (k + (((k2 : Int) - 1).toNat)) (0, .bool false, [])).2.2) (by first | omega | (simp <;> omega)) (by first | omega | (simp <;> omega))) (by kernel_rfl) (.cons (.agg (.cons (.leaf rfl) (.cons (.wk (.leaf rfl) (fun w Z u h => fgt1 w Z u h)) (.nil)))) (.cons (.agg (.cons (.leaf rfl) (.cons (.wk (.leaf rfl) (fun w Z u h => fgt1 w Z u h)) (.nil)))) (.nil))) rfl (by kernel_rfl) (R.go 1 (k27 11 (R.go 2 (k26 ?_))))))))))
       exact k31
      refine R.ldA (eQ eI 2 1) M (0, .bool false, []) (k + (((k2 : Int) - 1).toNat)) 2 (by kernel_rfl) eQ_len (by omega) (by kernel_rfl) (R.go 1 (k27 4 (R.ldA (eQ eI 2 1) M (0, .bool false, []) (k + k2) 2 (by kernel_rfl) eQ_len (by omega) (by kernel_rfl) (R.go 1 (k27 10 (R.callW (avs0 := [.agg [AI ((M.getD (k + k2) (0, .bool false, [])).1), .nam ((M.getD (k + k2) (0, .bool false, [])).2.1) (some 2) 1 ((M.getD (k + k2) (0, .bool false, [])).2.2).length (rows eI ((M.getD (k + k2) (0, .bool false, [])).2.2))], .agg [AI ((M.getD (k + (((k2 : Int) - 1).toNat)) (0, .bool false, [])).1), .nam ((M.getD (k + (((k2 : Int) - 1).toNat)) (0, .bool false, [])).2.1) (some 2) 1 ((M.getD (k + (((k2 : Int) - 1).toNat)) (0, .bool false, [])).2.2).length (rows eI ((M.getD (k + (((k2 : Int) - 1).toNat)) (0, .bool false, [])).2.2))]]) (cmpEq_c ((M.getD (k + k2) (0, .bool false, [])).1) ((M.getD (k + k2) (0, .bool false, [])).2.2) ((M.getD (k + (((k2 : Int) - 1).toNat)) (0, .bool false, [])).1) ((M.getD (k + (((k2 : Int) - 1).toNat)) (0, .bool false, [])).2.2) (by first | omega | (simp <;> omega)) (by first | omega | (simp <;> omega))) (by kernel_rfl) (.cons (.agg (.cons (.leaf rfl) (.cons (.wk (.leaf rfl) (fun w Z u h => fgt1 w Z u h)) (.nil)))) (.cons (.agg (.cons (.leaf rfl) (.cons (.wk (.leaf rfl) (fun w Z u h => fgt1 w Z u h)) (.nil)))) (.nil))) rfl (by kernel_rfl) (R.go 1 (k27 11 (R.go 2 (k26 ?_))))))))))
      exact k31
     refine R.idxS 2 4 2 k L.length (((k2 : Int) - 1).toNat) ((k2 : Int) - 1) u7 v8 (by kernel_rfl) (by kernel_rfl) (by omega) hsub9 (by omega) (by kernel_rfl) (R.go 1 (k28 3 9 ?_ ?_))
     ·refine R.idxS 2 4 2 k L.length k2 (k2 : Int) u7 v8 (by kernel_rfl) (by kernel_rfl) rfl hsub9 (by omega) (by kernel_rfl) (R.go 1 (k28 4 9 ?_ ?_))
      ·refine R.ldA (eQ eI 2 1) M (0, .bool false, []) (k + k2) 2 (by kernel_rfl) eQ_len (by omega) (by kernel_rfl) (R.go 1 (k27 9 (R.ldA (eQ eI 2 1) M (0, .bool false, []) (k + (((k2 : Int) - 1).toNat)) 2 (by kernel_rfl) eQ_len (by omega) (by kernel_rfl) (R.go 1 (k27 10 (R.callW (avs0 := [.agg [AI ((M.getD (k + k2) (0, .bool false, [])).1), .nam ((M.getD (k + k2) (0, .bool false, [])).2.1) (some 2) 1 ((M.getD (k + k2) (0, .bool false, [])).2.2).length (rows eI ((M.getD (k + k2) (0, .bool false, [])).2.2))], .agg [AI ((M.getD (k + (((k2 : Int) - 1).toNat)) (0, .bool false, [])).1), .nam ((M.getD (k + (((k2 : Int) - 1).toNat)) (0, .bool false, [])).2.1) (some 2) 1 ((M.getD (k + (((k2 : Int) - 1).toNat)) (0, .bool false, [])).2.2).length (rows eI ((M.getD (k + (((k2 : Int) - 1).toNat)) (0, .bool false, [])).2.2))]]) (cmpEq_c ((M.getD (k + k2) (0, .bool false, [])).1) ((M.getD (k + k2) (0, .bool false, [])).2.2) ((M.getD (k + (((k2 : Int) - 1).toNat)) (0, .bool false, [])).1) ((M.getD (k + (((k2 : Int) - 1).toNat)) (0, .bool false, [])).2.2) (by first | omega | (simp <;> omega)) (by first | omega | (simp <;> omega))) (by kernel_rfl) (.cons (.agg (.cons (.leaf rfl) (.cons (.wk (.leaf rfl) (fun w Z u h => fgt1 w Z u h)) (.nil)))) (.cons (.agg (.cons (.leaf rfl) (.cons (.wk (.leaf rfl) (fun w Z u h => fgt1 w Z u h)) (.nil)))) (.nil))) rfl (by kernel_rfl) (R.go 1 (k27 11 (R.go 2 (k26 ?_))))))))))
       exact k31
      refine R.ldA (eQ eI 2 1) M (0, .bool false, []) (k + (((k2 : Int) - 1).toNat)) 2 (by kernel_rfl) eQ_len (by omega) (by kernel_rfl) (R.go 1 (k27 4 (R.ldA (eQ eI 2 1) M (0, .bool false, []) (k + k2) 2 (by kernel_rfl) eQ_len (by omega) (by kernel_rfl) (R.go 1 (k27 10 (R.callW (avs0 := [.agg [AI ((M.getD (k + k2) (0, .bool false, [])).1), .nam ((M.getD (k + k2) (0, .bool false, [])).2.1) (some 2) 1 ((M.getD (k + k2) (0, .bool false, [])).2.2).length (rows eI ((M.getD (k + k2) (0, .bool false, [])).2.2))], .agg [AI ((M.getD (k + (((k2 : Int) - 1).toNat)) (0, .bool false, [])).1), .nam ((M.getD (k + (((k2 : Int) - 1).toNat)) (0, .bool false, [])).2.1) (some 2) 1 ((M.getD (k + (((k2 : Int) - 1).toNat)) (0, .bool false, [])).2.2).length (rows eI ((M.getD (k + (((k2 : Int) - 1).toNat)) (0, .bool false, [])).2.2))]]) (cmpEq_c ((M.getD (k + k2) (0, .bool false, [])).1) ((M.getD (k + k2) (0, .bool false, [])).2.2) ((M.getD (k + (((k2 : Int) - 1).toNat)) (0, .bool false, [])).1) ((M.getD (k + (((k2 : Int) - 1).toNat)) (0, .bool false, [])).2.2) (by first | omega | (simp <;> omega)) (by first | omega | (simp <;> omega))) (by kernel_rfl) (.cons (.agg (.cons (.leaf rfl) (.cons (.wk (.leaf rfl) (fun w Z u h => fgt1 w Z u h)) (.nil)))) (.cons (.agg (.cons (.leaf rfl) (.cons (.wk (.leaf rfl) (fun w Z u h => fgt1 w Z u h)) (.nil)))) (.nil))) rfl (by kernel_rfl) (R.go 1 (k27 11 (R.go 2 (k26 ?_))))))))))
      exact k31
     refine R.ldA (eQ eI 2 1) M (0, .bool false, []) (k + (((k2 : Int) - 1).toNat)) 2 (by kernel_rfl) eQ_len (by omega) (by kernel_rfl) (R.go 1 (k27 3 (R.idxS 2 4 2 k L.length k2 (k2 : Int) u7 v8 (by kernel_rfl) (by kernel_rfl) rfl hsub9 (by omega) (by kernel_rfl) (R.go 1 (k27 4 (R.ldA (eQ eI 2 1) M (0, .bool false, []) (k + k2) 2 (by kernel_rfl) eQ_len (by omega) (by kernel_rfl) (R.go 1 (k27 10 (R.callW (avs0 := [.agg [AI ((M.getD (k + k2) (0, .bool false, [])).1), .nam ((M.getD (k + k2) (0, .bool false, [])).2.1) (some 2) 1 ((M.getD (k + k2) (0, .bool false, [])).2.2).length (rows eI ((M.getD (k + k2) (0, .bool false, [])).2.2))], .agg [AI ((M.getD (k + (((k2 : Int) - 1).toNat)) (0, .bool false, [])).1), .nam ((M.getD (k + (((k2 : Int) - 1).toNat)) (0, .bool false, [])).2.1) (some 2) 1 ((M.getD (k + (((k2 : Int) - 1).toNat)) (0, .bool false, [])).2.2).length (rows eI ((M.getD (k + (((k2 : Int) - 1).toNat)) (0, .bool false, [])).2.2))]]) (cmpEq_c ((M.getD (k + k2) (0, .bool false, [])).1) ((M.getD (k + k2) (0, .bool false, [])).2.2) ((M.getD (k + (((k2 : Int) - 1).toNat)) (0, .bool false, [])).1) ((M.getD (k + (((k2 : Int) - 1).toNat)) (0, .bool false, [])).2.2) (by first | omega | (simp <;> omega)) (by first | omega | (simp <;> omega))) (by kernel_rfl) (.cons (.agg (.cons (.leaf rfl) (.cons (.wk (.leaf rfl) (fun w Z u h => fgt1 w Z u h)) (.nil)))) (.cons (.agg (.cons (.leaf rfl) (.cons (.wk (.leaf rfl) (fun w Z u h => fgt1 w Z u h)) (.nil)))) (.nil))) rfl (by kernel_rfl) (R.go 1 (k27 11 (R.go 2 (k26 ?_)))))))))))))
     exact k31
    refine k10 (cmpX (((M.getD (k + k2) (0, .bool false, [])).1), ((M.getD (k + k2) (0, .bool false, [])).2.2)) (((M.getD (k + (((k2 : Int) - 1).toNat)) (0, .bool false, [])).1), ((M.getD (k + (((k2 : Int) - 1).toNat)) (0, .bool false, [])).2.2)) = 0) (fun c15 => ?_) (fun c15 => ?_)
    ·refine R.go 6 (R.idxS 2 4 2 k L.length k2 (k2 : Int) u7 v8 (by kernel_rfl) (by kernel_rfl) rfl hsub9 (by omega) (by kernel_rfl) (R.ldA (eQ eI 2 1) M (0, .bool false, []) (k + k2) 2 (by kernel_rfl) eQ_len (by omega) (by kernel_rfl) (k16 2 2 M.length kk (kk : Int) (R.stN (eQ eI 2 1) 2 46 2 M kk ((M.getD (k + k2) (0, .bool false, [])).1, (M.getD (k + k2) (0, .bool false, [])).2.1, (M.getD (k + k2) (0, .bool false, [])).2.2) (by kernel_rfl) eQ_len (by omega) (by kernel_rfl) (R.go 3 (k8 ((kk : Int) + 1) (R.go 5 (k8 ((k2 : Int) + 1) ?_))))))))
     exact R.go 2 (k22 R10 (N11 (k2 + 1, kk + 1, M.set kk ((M.getD (k + k2) (0, .bool false, [])).1, (M.getD (k + k2) (0, .bool false, [])).2.1, (M.getD (k + k2) (0, .bool false, [])).2.2)) [0, 1, 5, 6, 7] none _ (by kernel_rfl) (by kernel_rfl) ⟨(by omega), (by omega), (by first | exact ci_keep ‹CI L k k2 kk M› (by omega) (by omega) (ndup_of (i := k + k2) (j := k + ((k2 : Int) - 1).toNat) (by omega) (by assumption)) | exact ci_skip ‹CI L k k2 kk M› (by omega) (dup_of (i := k + k2) (j := k + ((k2 : Int) - 1).toNat) (by omega) (by assumption)))⟩ (by show (L.length - (k + (k2 + 1))) < (L.length - (k + k2)); omega)))
    refine R.go 4 (k8 ((k2 : Int) + 1) ?_)
    exact R.go 2 (k22 R10 (N11 (k2 + 1, kk, M) [0, 1, 5, 6, 7] none _ (by kernel_rfl) (by kernel_rfl) ⟨(by omega), (by omega), (by first | exact ci_keep ‹CI L k k2 kk M› (by omega) (by omega) (ndup_of (i := k + k2) (j := k + ((k2 : Int) - 1).toNat) (by omega) (by assumption)) | exact ci_skip ‹CI L k k2 kk M› (by omega) (dup_of (i := k + k2) (j := k + ((k2 : Int) - 1).toNat) (by omega) (by assumption)))⟩ (by show (L.length - (k + (k2 + 1))) < (L.length - (k + k2)); omega)))
   refine R.go 5 (R.clrQ (eQ eI 2 1) M 2 46 2 kk (kk : Int) [AI 0, .nil] (by kernel_rfl) rfl eQ_len (by omega) rfl (by decide) rfl rfl (R.go 5 (R.cutQ (eQ eI 2 1) M 2 46 2 kk [AI 0, .nil] (kk : Int) (by kernel_rfl) rfl eQ_len (by omega) (by kernel_rfl) (R.kfix 3 (us := usC) (by kernel_rfl) hkC ?_))))
   exact R.go 2 (R.retX (res := .ref 2) (hp' := [.inert (.base b), .box 29 [AI n, LI xs], rowA (eQ eI 2 1) 46 2 (M.take kk), .dead, .frame [u7] (frm 1 [])]) (by kernel_rfl) (by kernel_rfl) (by kernel_rfl) (by kernel_rfl) ⟨[0, 1, 2], by kernel_rfl, by decide, M.take kk, by first | exact cpQ_no (noD_1 L) (by omega) | exact cpQ_no (by assumption) (by omega) | exact ci_end (by assumption) (by omega), by kernel_rfl, by kernel_rfl⟩)
  refine R.go 4 (k8 ((k : Int) + 1) ?_)
  exact R.go 2 (k22 R2 (N3 (k + 1) [0, 1, 5] none _ (by kernel_rfl) (by kernel_rfl) ⟨(by omega), (by omega), (by exact noD_s (by assumption) (ndup_of (j := ((k : Int) - 1).toNat) (by omega) (by assumption)))⟩ (by show (L.length - (k + 1)) < (L.length - k); omega)))
 exact R.go 6 (R.retX (res := .ref 2) (hp' := [.inert (.base b), .box 29 [AI n, LI xs], rowA (eQ eI 2 1) 46 2 L, .dead]) (by kernel_rfl) (by kernel_rfl) (by kernel_rfl) (by kernel_rfl) ⟨[0, 1, 2], by kernel_rfl, by decide, L, by first | exact cpQ_no (noD_1 L) (by omega) | exact cpQ_no (by assumption) (by omega) | exact ci_end (by assumption) (by omega), by kernel_rfl, by kernel_rfl⟩)
end Go.Proofs.YtehbliocfpppoaaGreat
