/- Texts of the proof: DS5. -/
import Derived.Test.YtpalghbfhgimkaaPartI

/-! The law of DefinableSets. -/
namespace Go.Proofs.Ytpalghbfhgimkaa
open Go.RowKit Go.Abs

def lim (l : List (List (Int × Int))) : Prop := l.length ≤ 1048576 ∧ ∀ j : Nat, j < l.length → (l.getD j []).length ≤ 1048576
theorem mkN_row {X Y : List (Int × Int)} {k : Int} {i : Nat} (hX : X = Y) (hi : i = X.length) : markTo X k i = marks Y.length k := by subst hX hi; exact markTo_all _ _ _ rfl
theorem lenG_sum (l : List (List (Int × Int))) : ∀ i : Nat, i ≤ l.length → lenG l i = sumL (l.take i)
  | 0, _ => by simp [lenG, sumL]
  | i + 1, h => by rw [lenG, lenG_sum l i (by omega), sumL_take l i (by omega)]
theorem lenG_all (l : List (List (Int × Int))) : lenG l l.length = sumL l := by rw [lenG_sum l _ (Nat.le_refl _), List.take_length]

set_option maxHeartbeats 4000000 in
theorem lawDefinableSets_inE (n : Int) (xs : List Int) (vs : List Int) (l : List (List (Int × Int))) (ua : Value) (ub : Value) (uc : Value) (ca : List AV) (cb : List AV) (cc : List AV) (hca : ByN (.nam ua none 1 xs.length ca) (LI xs)) (hcb : ByN (.nam ub none 1 vs.length cb) (LI vs)) (hcc : ByN (.nam uc none 1 l.length cc) (LLN l)) (hl : xs.length + vs.length + (l.length + sumL l) ≤ 1048576) : CallE Try.prog 3 [.agg [AI n, .nam ua none 1 xs.length ca, .nam ub none 1 vs.length cb], .nam uc none 1 l.length cc] (fun (b : Nat) (r : AV) => r = .bool true) := by
  have hv1l : ∀ j : Nat, j < l.length → (l.getD j []).length ≤ 1048576 := fun j hj => by have := sumL_get l j hj; omega
  have hv2l : ∀ j : Nat, j < l.length → (l.getD j []).length ≤ 1000000000 := fun j hj => by have := hv1l j hj; omega
  have hv3l : lim l := ⟨by omega, hv1l⟩
  have hsu := lenG_all l
  have hdl := fun L => dsR_len n xs vs L
  refine CallE.of Try.func3 rfl (by kernel_rfl) (fun b => ?_)
  refine R.go 13 (R.callW (avs0 := [.agg [AI n, .nam ua none 1 xs.length ca, .nam ub none 1 vs.length cb], AI 1048576]) (szModel_c n xs vs 1048576 (by omega) (by first | omega | (simp <;> omega))) (by kernel_rfl) (.cons (.agg (.cons (.leaf rfl) (.cons (.wk (.leaf hca.leafy) hca.fgt) (.cons (.wk (.leaf hcb.leafy) hcb.fgt) (.nil))))) (.cons (.leaf rfl) (.nil))) rfl (by kernel_rfl) ?_)
  refine R.go 8 (R.cond (((1048576 : Int) - xs.length - vs.length) < 0) (by kernel_rfl) (fun c1 => ?_) (fun c1 => ?_))
  · exact R.go 4 (R.retB (.bool true) (by kernel_rfl) (by kernel_rfl) (rfl))
  · refine R.go 5 (R.callW (avs0 := [.nam uc none 1 l.length cc, AI ((1048576 : Int) - xs.length - vs.length)]) (szNodeSS_c l ((1048576 : Int) - xs.length - vs.length) (by first | omega | (simp <;> omega)) (by first | omega | (simp <;> omega))) (by kernel_rfl) (.cons (.wk (.leaf hcc.leafy) hcc.fgt) (.cons (.leaf rfl) (.nil))) rfl (by kernel_rfl) ?_)
    refine R.go 8 (R.cond (((((1048576 : Int) - xs.length - vs.length) : Int) - l.length - sumL l) < 0) (by kernel_rfl) (fun c2 => ?_) (fun c2 => ?_))
    · exact R.go 4 (R.retB (.bool true) (by kernel_rfl) (by kernel_rfl) (rfl))
    · refine R.go 4 (R.callW (avs0 := [.agg [AI n, .nam ua none 1 xs.length ca, .nam ub none 1 vs.length cb]]) (toModel_c n xs vs (by first | omega | (simp <;> omega)) (by first | omega | (simp <;> omega))) (by kernel_rfl) (.cons (.agg (.cons (.leaf rfl) (.cons (.wk (.leaf hca.leafy) hca.fgt) (.cons (.wk (.leaf hcb.leafy) hcb.fgt) (.nil))))) (.nil)) (by simp [AV.closed, closedL, AI, ownA_closed eI_closed]) (by kernel_rfl) ?_)
      refine R.go 1 (R.callE (avs0 := [.nam uc none 1 l.length cc]) (toNodeSSE_c l (by first | omega | (simp <;> omega)) hv1l) (by kernel_rfl) (.cons (.wk (.leaf hcc.leafy) hcc.fgt) (.nil)) (toNodeSSE_c_cl l) (by kernel_rfl) ?_)
      intro bE1 hbn3 hsn4 rn5 hrn6
      obtain ⟨LE1, rfl, heE1_1, heE1_2⟩ := hrn6
      have hbb7 : b ≤ bE1 := hbn3 0 b (by kernel_rfl)
      clear hbn3 hsn4
      have hm1 : (LE1.map Prod.snd) = l := heE1_2
      have hlE1 : (LE1.map Prod.snd).length ≤ 1048576 ∧ ∀ i0 : Nat, i0 < (LE1.map Prod.snd).length → ((LE1.map Prod.snd).getD i0 []).length ≤ 1048576 := by rw [hm1]; exact ⟨by omega, hv1l⟩
      have hlF1 : ∀ j : Nat, j < (LE1.map Prod.snd).length → ((LE1.map Prod.snd).getD j []).length ≤ 1000000000 := fun j hj => Nat.le_trans (hlE1.2 j hj) (by decide)
      have hdl1 := dsR_len n xs vs (LE1.map Prod.snd)
      refine R.callW (avs0 := [.agg [AI n, .ref 2, .ref 3], .ref 4]) (DS_spec n xs vs (LE1.map Prod.snd) (by first | omega | (simp <;> omega)) (by first | omega | (simp <;> omega)) hlE1) (by kernel_rfl) (.cons (.agg (.cons (.leaf rfl) (.cons (.ref (e := 2) (s := 1) (n := xs.length) (cs := rows eI xs) (by kernel_rfl)) (.cons (.ref (e := 2) (s := 1) (n := vs.length) (cs := rows eI vs) (by kernel_rfl)) (.nil))))) (.cons (.wk (.ref (e := 51) (s := 1) (n := LE1.length) (cs := rows (eV eN 86 2) LE1) (by kernel_rfl)) (fgtV (fun _ => rfl) _)) (.nil))) (by simp [AV.closed, closedL, AI, ownA_closed eI_closed]) (by kernel_rfl) ?_
      refine R.go 3 (R.frz 5 (by kernel_rfl) ?_)
      refine R.go 5 (R.nameS 6 1 (dsR n xs vs (LE1.map Prod.snd)).length (rows eI (dsR n xs vs (LE1.map Prod.snd))) (by kernel_rfl) (by kernel_rfl) (nameable_LI _) ?_)
      intro uo8 co9 ho10
      refine R.go 1 (R.callW (avs0 := [.agg [AI n, .nam ua none 1 xs.length ca, .nam ub none 1 vs.length cb]]) (toModel_c n xs vs (by first | omega | (simp <;> omega)) (by first | omega | (simp <;> omega))) (by kernel_rfl) (.cons (.agg (.cons (.leaf rfl) (.cons (.wk (.leaf hca.leafy) hca.fgt) (.cons (.wk (.leaf hcb.leafy) hcb.fgt) (.nil))))) (.nil)) (by simp [AV.closed, closedL, AI, ownA_closed eI_closed]) (by kernel_rfl) ?_)
      refine R.go 6 (R.callE (avs0 := [.nam uc none 1 l.length cc]) (toNodeSSE_c l (by first | omega | (simp <;> omega)) hv1l) (by kernel_rfl) (.cons (.wk (.leaf hcc.leafy) hcc.fgt) (.nil)) (toNodeSSE_c_cl l) (by kernel_rfl) ?_)
      intro bE2 hbn11 hsn12 rn13 hrn14
      obtain ⟨LE2, rfl, heE2_1, heE2_2⟩ := hrn14
      have hbb15 : b ≤ bE2 := hbn11 0 b (by kernel_rfl)
      have hsf16 : ∀ v, (∀ g, blk v = some g → bE2 ≤ g) → Go.Abs.Safe v (.nam ua none 1 xs.length ca) := fun v hv => safe_old hca (fun u hu => hsn12 u (inS_slot 0 (c := .agg [AI n, .nam ua none 1 xs.length ca, .nam ub none 1 vs.length cb]) (by kernel_rfl) (by simp [InN, InNL] at hu ⊢; simp [hu]))) hv
      have hsf17 : ∀ v, (∀ g, blk v = some g → bE2 ≤ g) → Go.Abs.Safe v (.nam ub none 1 vs.length cb) := fun v hv => safe_old hcb (fun u hu => hsn12 u (inS_slot 0 (c := .agg [AI n, .nam ua none 1 xs.length ca, .nam ub none 1 vs.length cb]) (by kernel_rfl) (by simp [InN, InNL] at hu ⊢; simp [hu]))) hv
      have hsf18 : ∀ v, (∀ g, blk v = some g → bE2 ≤ g) → Go.Abs.Safe v (.nam uc none 1 l.length cc) := fun v hv => safe_old hcc (fun u hu => hsn12 u (inS_slot 1 (c := .nam uc none 1 l.length cc) (by kernel_rfl) hu)) hv
      have hsf19 : ∀ v, (∀ g, blk v = some g → bE2 ≤ g) → Go.Abs.Safe v (.nam uo8 none 1 (dsR n xs vs (LE1.map Prod.snd)).length co9) := fun v hv => safe_old ho10 (fun u hu => hsn12 u (inS_slot 6 (c := .nam uo8 none 1 (dsR n xs vs (LE1.map Prod.snd)).length co9) (by kernel_rfl) hu)) hv
      clear hbn11 hsn12
      have hm2 : (LE2.map Prod.snd) = l := heE2_2
      have hlE2 : (LE2.map Prod.snd).length ≤ 1048576 ∧ ∀ i0 : Nat, i0 < (LE2.map Prod.snd).length → ((LE2.map Prod.snd).getD i0 []).length ≤ 1048576 := by rw [hm2]; exact ⟨by omega, hv1l⟩
      have hlF2 : ∀ j : Nat, j < (LE2.map Prod.snd).length → ((LE2.map Prod.snd).getD j []).length ≤ 1000000000 := fun j hj => Nat.le_trans (hlE2.2 j hj) (by decide)
      have hdl2 := dsR_len n xs vs (LE2.map Prod.snd)
      have hr2 : (dsR n xs vs (LE2.map Prod.snd)) = (dsR n xs vs (LE1.map Prod.snd)) := by rw [hm2, hm1]
      have hs2 : dsC n xs vs (LE2.map Prod.snd) = dsC n xs vs (LE1.map Prod.snd) := by rw [hm2, hm1]
      refine R.go 6 (R.callW (avs0 := [.agg [AI n, .ref 6, .ref 7], .ref 9]) (DS_impl n xs vs (LE2.map Prod.snd) (by first | omega | (simp <;> omega)) (by first | omega | (simp <;> omega)) hlE2) (by kernel_rfl) (.cons (.agg (.cons (.leaf rfl) (.cons (.ref (e := 2) (s := 1) (n := xs.length) (cs := rows eI xs) (by kernel_rfl)) (.cons (.ref (e := 2) (s := 1) (n := vs.length) (cs := rows eI vs) (by kernel_rfl)) (.nil))))) (.cons (.wk (.ref (e := 51) (s := 1) (n := LE2.length) (cs := rows (eV eN 86 2) LE2) (by kernel_rfl)) (fgtV (fun _ => rfl) _)) (.nil))) (by simp [AV.closed, closedL, AI, ownA_closed eI_closed]) (by kernel_rfl) ?_)
      refine R.go 11 (R.callW (avs0 := [.ref 10, .nam uo8 none 1 (dsR n xs vs (LE1.map Prod.snd)).length co9]) (eqInt64S_c (dsR n xs vs (LE2.map Prod.snd)) (dsR n xs vs (LE1.map Prod.snd)) (by first | omega | (simp <;> omega))) (by kernel_rfl) (.cons (.ref (e := 2) (s := 1) (n := (dsR n xs vs (LE2.map Prod.snd)).length) (cs := rows eI (dsR n xs vs (LE2.map Prod.snd))) (by kernel_rfl)) (.cons (.wk (.leaf ho10.leafy) ho10.fgt) (.nil))) rfl (by kernel_rfl) ?_)
      refine R.go 2 (R.want (!decide ((dsR n xs vs (LE2.map Prod.snd)) = (dsR n xs vs (LE1.map Prod.snd)))) false (by kernel_rfl) (nF hr2) ?_)
      refine R.go 1 (R.want (!decide ((dsR n xs vs (LE2.map Prod.snd)) = (dsR n xs vs (LE1.map Prod.snd)))) false (by kernel_rfl) (nF hr2) ?_)
      refine R.go 1 (R.want (!decide ((dsR n xs vs (LE2.map Prod.snd)) = (dsR n xs vs (LE1.map Prod.snd)))) false (by kernel_rfl) (nF hr2) ?_)
      refine R.go 1 (R.pick (!decide ((dsR n xs vs (LE2.map Prod.snd)) = (dsR n xs vs (LE1.map Prod.snd)))) false (by kernel_rfl) (nF hr2) (by kernel_rfl) ?_)
      refine R.go 1 (R.condN ((dsC n xs vs (LE2.map Prod.snd)) = (dsC n xs vs (LE1.map Prod.snd))) (by kernel_rfl) (fun c20 => ?_) (fun c20 => ?_))
      · exact R.go 4 (R.retB (.bool false) (by kernel_rfl) (by kernel_rfl) (by first | rfl | (rfl) | (exfalso; omega)))
      · refine R.go 3 (R.meet (⟨(frm 119 [(0, .agg [AI n, .nam ua none 1 xs.length ca, .nam ub none 1 vs.length cb]), (1, .nam uc none 1 l.length cc), (2, .ptr 1 0), (4, .bool false), (5, AI ((((1048576 : Int) - xs.length - vs.length) : Int) - l.length - sumL l)), (6, .nam uo8 none 1 (dsR n xs vs (LE1.map Prod.snd)).length co9), (7, AI (dsC n xs vs (LE1.map Prod.snd))), (8, .ptr 8 0), (9, .ref 9), (10, .ref 10), (11, AI (dsC n xs vs (LE2.map Prod.snd))), (17, .agg [AI n, .nam ua none 1 xs.length ca, .nam ub none 1 vs.length cb]), (18, AI 1048576), (19, AI ((1048576 : Int) - xs.length - vs.length)), (20, AI ((1048576 : Int) - xs.length - vs.length)), (21, .bool (decide (((1048576 : Int) - xs.length - vs.length) < 0))), (22, .nam uc none 1 l.length cc), (23, AI ((1048576 : Int) - xs.length - vs.length)), (24, AI ((((1048576 : Int) - xs.length - vs.length) : Int) - l.length - sumL l)), (25, AI ((((1048576 : Int) - xs.length - vs.length) : Int) - l.length - sumL l)), (26, .bool (decide (((((1048576 : Int) - xs.length - vs.length) : Int) - l.length - sumL l) < 0))), (27, .tup [LI (dsR n xs vs (LE1.map Prod.snd)), AI (dsC n xs vs (LE1.map Prod.snd))]), (28, .agg [AI n, .nam ua none 1 xs.length ca, .nam ub none 1 vs.length cb]), (29, .agg [AI n, .ref 2, .ref 3]), (30, .nam uc none 1 l.length cc), (31, .ref 4), (32, .tup [LI (dsR n xs vs (LE1.map Prod.snd)), AI (dsC n xs vs (LE1.map Prod.snd))]), (33, LI (dsR n xs vs (LE1.map Prod.snd))), (34, AI (dsC n xs vs (LE1.map Prod.snd))), (35, .agg [AI n, .nam ua none 1 xs.length ca, .nam ub none 1 vs.length cb]), (36, .agg [AI n, .ref 6, .ref 7]), (37, .nam uc none 1 l.length cc), (38, .ref 9), (39, .tup [.ref 10, AI (dsC n xs vs (LE2.map Prod.snd))]), (40, .agg [AI n, .ref 6, .ref 7]), (41, .ref 9), (42, .tup [.ref 10, AI (dsC n xs vs (LE2.map Prod.snd))]), (43, .ref 10), (44, AI (dsC n xs vs (LE2.map Prod.snd))), (45, .ref 10), (46, .nam uo8 none 1 (dsR n xs vs (LE1.map Prod.snd)).length co9), (47, .bool (decide ((dsR n xs vs (LE2.map Prod.snd)) = (dsR n xs vs (LE1.map Prod.snd))))), (48, .bool (!decide ((dsR n xs vs (LE2.map Prod.snd)) = (dsR n xs vs (LE1.map Prod.snd))))), (49, .bool (!decide ((dsR n xs vs (LE2.map Prod.snd)) = (dsR n xs vs (LE1.map Prod.snd))))), (50, AI (dsC n xs vs (LE2.map Prod.snd))), (51, AI (dsC n xs vs (LE1.map Prod.snd))), (52, .bool (!decide ((dsC n xs vs (LE2.map Prod.snd)) = (dsC n xs vs (LE1.map Prod.snd))))), (53, .bool (!decide ((dsC n xs vs (LE2.map Prod.snd)) = (dsC n xs vs (LE1.map Prod.snd))))), (54, .agg [AI n, .ref 6, .ref 7]), (55, .agg [AI n, .nam ua none 1 xs.length ca, .nam ub none 1 vs.length cb]), (56, .agg [AI n, .ref 11, .ref 12]), (57, .bool true), (58, .bool false)]), [.inert (.base b), .box 26 [AI n, .nam ua none 1 xs.length ca, .nam ub none 1 vs.length cb], rowA eI 2 1 xs, rowA eI 2 1 vs, rowA (eV eN 86 2) 51 1 LE1, .dead, rowA eI 2 1 xs, rowA eI 2 1 vs, .box 34 [AI n, .ref 6, .ref 7], rowA (eV eN 86 2) 51 1 LE2, rowA eI 2 1 (dsR n xs vs (LE2.map Prod.snd)), rowA eI 2 1 xs, rowA eI 2 1 vs]⟩ : St) (by kernel_rfl) ?_ ?_)
        · refine R.any (by decide +kernel) (by kernel_rfl) ?_
          refine R.any2 0 1 (by kernel_rfl) (by kernel_rfl) ?_ ?_
          · refine R.go 2 (R.any1 1 (by kernel_rfl) (by kernel_rfl) ?_)
            refine R.go 2 (R.any1 2 (by kernel_rfl) (by kernel_rfl) ?_)
            refine R.callW (avs0 := [.agg [AI n, .nam ua none 1 xs.length ca, .nam ub none 1 vs.length cb]]) (toModel_c n xs vs (by first | omega | (simp <;> omega)) (by first | omega | (simp <;> omega))) (by kernel_rfl) (.cons (.agg (.cons (.leaf rfl) (.cons (.wk (.leaf hca.leafy) hca.fgt) (.cons (.wk (.leaf hcb.leafy) hcb.fgt) (.nil))))) (.nil)) (by simp [AV.closed, closedL, AI, ownA_closed eI_closed]) (by kernel_rfl) ?_
            refine R.go 1 (R.any1 3 (by kernel_rfl) (by kernel_rfl) ?_)
            refine R.call false (eqModel_c n xs vs (by first | omega | (simp <;> omega)) (by first | omega | (simp <;> omega))) (by kernel_rfl) rfl (by kernel_rfl) ?_
            refine R.go 1 (R.any1 4 (by kernel_rfl) (by kernel_rfl) ?_)
            refine R.go 2 (R.any0 (by kernel_rfl) ?_)
            exact R.met (by kernel_rfl) (by kernel_rfl)
          · refine R.go 2 (R.any2 0 2 (by kernel_rfl) (by kernel_rfl) ?_ ?_)
            · refine R.go 2 (R.any1 2 (by kernel_rfl) (by kernel_rfl) ?_)
              refine R.callW (avs0 := [.agg [AI n, .nam ua none 1 xs.length ca, .nam ub none 1 vs.length cb]]) (toModel_c n xs vs (by first | omega | (simp <;> omega)) (by first | omega | (simp <;> omega))) (by kernel_rfl) (.cons (.agg (.cons (.leaf rfl) (.cons (.wk (.leaf hca.leafy) hca.fgt) (.cons (.wk (.leaf hcb.leafy) hcb.fgt) (.nil))))) (.nil)) (by simp [AV.closed, closedL, AI, ownA_closed eI_closed]) (by kernel_rfl) ?_
              refine R.go 1 (R.any1 3 (by kernel_rfl) (by kernel_rfl) ?_)
              refine R.call false (eqModel_c n xs vs (by first | omega | (simp <;> omega)) (by first | omega | (simp <;> omega))) (by kernel_rfl) rfl (by kernel_rfl) ?_
              refine R.go 1 (R.any1 4 (by kernel_rfl) (by kernel_rfl) ?_)
              refine R.go 2 (R.any0 (by kernel_rfl) ?_)
              exact R.met (by kernel_rfl) (by kernel_rfl)
            · refine R.callW (avs0 := [.agg [AI n, .nam ua none 1 xs.length ca, .nam ub none 1 vs.length cb]]) (toModel_c n xs vs (by first | omega | (simp <;> omega)) (by first | omega | (simp <;> omega))) (by kernel_rfl) (.cons (.agg (.cons (.leaf rfl) (.cons (.wk (.leaf hca.leafy) hca.fgt) (.cons (.wk (.leaf hcb.leafy) hcb.fgt) (.nil))))) (.nil)) (by simp [AV.closed, closedL, AI, ownA_closed eI_closed]) (by kernel_rfl) ?_
              refine R.go 1 (R.any1 0 (by kernel_rfl) (by kernel_rfl) ?_)
              refine R.go 2 (R.any1 3 (by kernel_rfl) (by kernel_rfl) ?_)
              refine R.call false (eqModel_c n xs vs (by first | omega | (simp <;> omega)) (by first | omega | (simp <;> omega))) (by kernel_rfl) rfl (by kernel_rfl) ?_
              refine R.go 1 (R.any1 4 (by kernel_rfl) (by kernel_rfl) ?_)
              refine R.go 2 (R.any0 (by kernel_rfl) ?_)
              exact R.met (by kernel_rfl) (by kernel_rfl)
        · refine R.go 7 (R.callE (avs0 := [.nam uc none 1 l.length cc]) (toNodeSSE_c l (by first | omega | (simp <;> omega)) hv1l) (by kernel_rfl) (.cons (.wk (.leaf hcc.leafy) hcc.fgt) (.nil)) (toNodeSSE_c_cl l) (by kernel_rfl) ?_)
          intro bE3 hbn21 hsn22 rn23 hrn24
          obtain ⟨LE3, rfl, heE3_1, heE3_2⟩ := hrn24
          have hbb25 : b ≤ bE3 := hbn21 0 b (by kernel_rfl)
          clear hbn21 hsn22
          have hm3 : (LE3.map Prod.snd) = l := heE3_2
          have hlE3 : (LE3.map Prod.snd).length ≤ 1048576 ∧ ∀ i0 : Nat, i0 < (LE3.map Prod.snd).length → ((LE3.map Prod.snd).getD i0 []).length ≤ 1048576 := by rw [hm3]; exact ⟨by omega, hv1l⟩
          have hlF3 : ∀ j : Nat, j < (LE3.map Prod.snd).length → ((LE3.map Prod.snd).getD j []).length ≤ 1000000000 := fun j hj => Nat.le_trans (hlE3.2 j hj) (by decide)
          have hdl3 := dsR_len n xs vs (LE3.map Prod.snd)
          have hm23 : (LE2.map Prod.snd) = (LE3.map Prod.snd) := by rw [hm2, hm3]
          refine R.callW (avs0 := [.ref 9, .ref 13]) (eqNodeSS_c (LE2.map Prod.snd) (LE3.map Prod.snd) (by first | omega | (simp <;> omega)) hlF2) (by kernel_rfl) (.cons (.wk (.ref (e := 51) (s := 1) (n := LE2.length) (cs := rows (eV eN 86 2) LE2) (by kernel_rfl)) (fgtV (fun _ => rfl) _)) (.cons (.wk (.ref (e := 51) (s := 1) (n := LE3.length) (cs := rows (eV eN 86 2) LE3) (by kernel_rfl)) (fgtV (fun _ => rfl) _)) (.nil))) rfl (by kernel_rfl) ?_
          refine R.go 2 (R.els (!decide ((LE2.map Prod.snd) = (LE3.map Prod.snd))) (by kernel_rfl) (nF hm23) ?_)
          refine R.go 9 (R.keepS [1, 2, 6, 7, 9, 10, 11, 12, 64, 65] (by kernel_rfl) ?_)
          refine R.prune [0, 1, 6, 7, 9, 10] (by kernel_rfl) (by kernel_rfl) ?_
          refine R.enter (avs := [.agg [AI n, .ref 2, .ref 3], AI 1]) Try.func14 rfl (by kernel_rfl) (by kernel_rfl) (by kernel_rfl) ?_
          intro us26
          refine R.go 10 (R.enter (avs := [.agg [AI n, .ref 2], AI 1]) Try.func45 rfl (by kernel_rfl) (by kernel_rfl) (by kernel_rfl) ?_)
          intro us27
          refine R.go 10 (R.enter (avs := [.ref 2, AI 1]) Try.func16 rfl (by kernel_rfl) (by kernel_rfl) (by kernel_rfl) ?_)
          intro us28
          refine R.go 10 (R.loop ((fun | (i1, ys1, q1) => (⟨(frm 19 [(0, .ref 2), (1, AI q1), (5, AI (i1 : Int))]), [.inert (.base b), .box 26 [AI n, .nam ua none 1 xs.length ca, .nam ub none 1 vs.length cb], rowA eI 2 1 ys1, rowA eI 2 1 vs, rowA (eV eN 86 2) 51 1 LE2, rowA eI 2 1 (dsR n xs vs (LE2.map Prod.snd)), .frame us26 (frm 119 [(1, .nam uc none 1 l.length cc), (2, .ptr 1 0), (6, .nam uo8 none 1 (dsR n xs vs (LE1.map Prod.snd)).length co9), (7, AI (dsC n xs vs (LE1.map Prod.snd))), (9, .ref 4), (10, .ref 5), (11, AI (dsC n xs vs (LE2.map Prod.snd))), (12, AI 1), (64, .agg [AI n, .ref 2, .ref 3]), (65, AI 1)]), .box 34 [AI n, .ref 2, .ref 3], .frame us27 (frm 14 [(0, .agg [AI n, .ref 2, .ref 3]), (1, AI 1), (2, .ptr 7 0), (4, AI 0), (5, .ptr 7 0), (6, .agg [AI n, .ref 2]), (7, AI 1)]), .box 32 [AI n, .ref 2], .frame us28 (frm 10 [(0, .agg [AI n, .ref 2]), (1, AI 1), (2, .ptr 9 0), (4, AI 0), (5, .ptr 9 1), (6, .ref 2), (7, AI 1)])]⟩ : St) : Nat × (List Int) × Int → St)) (fun | (i1, ys1, q1) => (i1 ≤ xs.length) ∧ (ys1 = markI xs 1 i1) ∧ (q1 = 1 + (i1 : Int))) (fun | (i1, ys1, q1) => xs.length - i1) (0, xs, 1) [0, 1, 5] none (by kernel_rfl) (by kernel_rfl) (by kernel_rfl) ⟨(by omega), (by exact markI_zero _ _), (by simp)⟩ ?_)
          rintro ⟨i1, ys1, q1⟩ ⟨h32_1, rfl, rfl⟩ R29 N30
          have hl1 : (markI xs 1 i1).length = xs.length := markI_length _ _ _ (by assumption)
          refine R.go 8 (R.cond ((i1 : Int) < ((markI xs 1 i1).length : Int)) (by kernel_rfl) (fun c33 => ?_) (fun c33 => ?_))
          · refine R.go 8 (R.idxO 2 1 (markI xs 1 i1).length i1 (i1 : Int) (by kernel_rfl) rfl (by omega) (by kernel_rfl) ?_)
            refine R.stI 2 2 (markI xs 1 i1) i1 (1 + (i1 : Int)) (by kernel_rfl) (by omega) (by kernel_rfl) ?_
            refine R.go 3 (R.ar ((1 + (i1 : Int)) + 1) (by kernel_rfl) (by omega) (by omega) (by kernel_rfl) ?_)
            refine R.go 5 (R.ar ((i1 : Int) + 1) (by kernel_rfl) (by omega) (by omega) (by kernel_rfl) ?_)
            exact R.go 2 (R.stop R29 (by kernel_rfl) (N30 (i1 + 1, (markI xs 1 i1).set i1 (1 + (i1 : Int)), (1 + (i1 : Int)) + 1) [0, 1, 5] none _ (by kernel_rfl) (by kernel_rfl) ⟨(by omega), (by exact markI_set _ _ _ (by omega) _ (by omega)), (by omega)⟩ (by show (xs.length - (i1 + 1)) < (xs.length - i1); omega)))
          · refine R.go 6 (R.back (AI (1 + (i1 : Int))) (frm 10 [(0, .agg [AI n, .ref 2]), (1, AI 1), (2, .ptr 9 0), (4, AI 0), (5, .ptr 9 1), (6, .ref 2), (7, AI 1)]) (by kernel_rfl) (by kernel_rfl) (by kernel_rfl) ?_)
            refine R.go 7 (R.back (AI (1 + (i1 : Int))) (frm 14 [(0, .agg [AI n, .ref 2, .ref 3]), (1, AI 1), (2, .ptr 7 0), (4, AI 0), (5, .ptr 7 0), (6, .agg [AI n, .ref 2]), (7, AI 1)]) (by kernel_rfl) (by kernel_rfl) (by kernel_rfl) ?_)
            refine R.go 7 (R.enter (avs := [.ref 3, AI (1 + (i1 : Int))]) Try.func16 rfl (by kernel_rfl) (by kernel_rfl) (by kernel_rfl) ?_)
            intro us34
            refine R.go 10 (R.loop ((fun | (i2, ys2, q2) => (⟨(frm 19 [(0, .ref 3), (1, AI q2), (5, AI (i2 : Int))]), [.inert (.base b), .box 26 [AI n, .nam ua none 1 xs.length ca, .nam ub none 1 vs.length cb], rowA eI 2 1 (markI xs 1 i1), rowA eI 2 1 ys2, rowA (eV eN 86 2) 51 1 LE2, rowA eI 2 1 (dsR n xs vs (LE2.map Prod.snd)), .frame us26 (frm 119 [(1, .nam uc none 1 l.length cc), (2, .ptr 1 0), (6, .nam uo8 none 1 (dsR n xs vs (LE1.map Prod.snd)).length co9), (7, AI (dsC n xs vs (LE1.map Prod.snd))), (9, .ref 4), (10, .ref 5), (11, AI (dsC n xs vs (LE2.map Prod.snd))), (12, AI 1), (64, .agg [AI n, .ref 2, .ref 3]), (65, AI 1)]), .box 34 [AI n, .ref 2, .ref 3], .dead, .box 32 [AI n, .ref 2], .dead, .frame us34 (frm 14 [(0, .agg [AI n, .ref 2, .ref 3]), (1, AI (1 + (i1 : Int))), (2, .ptr 7 0), (4, AI 0), (5, .ptr 7 0), (6, .agg [AI n, .ref 2]), (7, AI 1), (8, AI (1 + (i1 : Int))), (9, .ptr 7 2), (10, .ref 3), (11, AI (1 + (i1 : Int)))])]⟩ : St) : Nat × (List Int) × Int → St)) (fun | (i2, ys2, q2) => (i2 ≤ vs.length) ∧ (ys2 = markI vs (1 + (i1 : Int)) i2) ∧ (q2 = 1 + (i1 : Int) + (i2 : Int))) (fun | (i2, ys2, q2) => vs.length - i2) (0, vs, (1 + (i1 : Int))) [0, 1, 5] none (by kernel_rfl) (by kernel_rfl) (by kernel_rfl) ⟨(by omega), (by exact markI_zero _ _), (by simp)⟩ ?_)
            rintro ⟨i2, ys2, q2⟩ ⟨h38_1, rfl, rfl⟩ R35 N36
            have hl2 : (markI vs (1 + (i1 : Int)) i2).length = vs.length := markI_length _ _ _ (by assumption)
            refine R.go 8 (R.cond ((i2 : Int) < ((markI vs (1 + (i1 : Int)) i2).length : Int)) (by kernel_rfl) (fun c39 => ?_) (fun c39 => ?_))
            · refine R.go 8 (R.idxO 3 1 (markI vs (1 + (i1 : Int)) i2).length i2 (i2 : Int) (by kernel_rfl) rfl (by omega) (by kernel_rfl) ?_)
              refine R.stI 3 2 (markI vs (1 + (i1 : Int)) i2) i2 (1 + (i1 : Int) + (i2 : Int)) (by kernel_rfl) (by omega) (by kernel_rfl) ?_
              refine R.go 3 (R.ar ((1 + (i1 : Int) + (i2 : Int)) + 1) (by kernel_rfl) (by omega) (by omega) (by kernel_rfl) ?_)
              refine R.go 5 (R.ar ((i2 : Int) + 1) (by kernel_rfl) (by omega) (by omega) (by kernel_rfl) ?_)
              exact R.go 2 (R.stop R35 (by kernel_rfl) (N36 (i2 + 1, (markI vs (1 + (i1 : Int)) i2).set i2 (1 + (i1 : Int) + (i2 : Int)), (1 + (i1 : Int) + (i2 : Int)) + 1) [0, 1, 5] none _ (by kernel_rfl) (by kernel_rfl) ⟨(by omega), (by exact markI_set _ _ _ (by omega) _ (by omega)), (by omega)⟩ (by show (vs.length - (i2 + 1)) < (vs.length - i2); omega)))
            · refine R.go 6 (R.back (AI (1 + (i1 : Int) + (i2 : Int))) (frm 14 [(0, .agg [AI n, .ref 2, .ref 3]), (1, AI (1 + (i1 : Int))), (2, .ptr 7 0), (4, AI 0), (5, .ptr 7 0), (6, .agg [AI n, .ref 2]), (7, AI 1), (8, AI (1 + (i1 : Int))), (9, .ptr 7 2), (10, .ref 3), (11, AI (1 + (i1 : Int)))]) (by kernel_rfl) (by kernel_rfl) (by kernel_rfl) ?_)
              refine R.go 7 (R.back (AI (1 + (i1 : Int) + (i2 : Int))) (frm 119 [(1, .nam uc none 1 l.length cc), (2, .ptr 1 0), (6, .nam uo8 none 1 (dsR n xs vs (LE1.map Prod.snd)).length co9), (7, AI (dsC n xs vs (LE1.map Prod.snd))), (9, .ref 4), (10, .ref 5), (11, AI (dsC n xs vs (LE2.map Prod.snd))), (12, AI 1), (64, .agg [AI n, .ref 2, .ref 3]), (65, AI 1)]) (by kernel_rfl) (by kernel_rfl) (by kernel_rfl) ?_)
              refine R.go 6 (R.keepS [1, 2, 6, 7, 10, 11, 12, 67, 68] (by kernel_rfl) ?_)
              refine R.enter (avs := [.ref 4, AI (1 + (i1 : Int) + (i2 : Int))]) Try.func15 rfl (by kernel_rfl) (by kernel_rfl) (by kernel_rfl) ?_
              intro us40
              refine R.go 10 (R.loop ((fun | (iv, LM, qv3) => (⟨(frm 19 [(0, .ref 4), (1, AI qv3), (5, AI (iv : Int))]), [.inert (.base b), .box 26 [AI n, .nam ua none 1 xs.length ca, .nam ub none 1 vs.length cb], rowA eI 2 1 (markI xs 1 i1), rowA eI 2 1 (markI vs (1 + (i1 : Int)) i2), rowA (eV eN 86 2) 51 1 LM, rowA eI 2 1 (dsR n xs vs (LE2.map Prod.snd)), .dead, .box 34 [AI n, .ref 2, .ref 3], .dead, .box 32 [AI n, .ref 2], .dead, .dead, .frame us40 (frm 119 [(1, .nam uc none 1 l.length cc), (2, .ptr 1 0), (6, .nam uo8 none 1 (dsR n xs vs (LE1.map Prod.snd)).length co9), (7, AI (dsC n xs vs (LE1.map Prod.snd))), (10, .ref 5), (11, AI (dsC n xs vs (LE2.map Prod.snd))), (12, AI (1 + (i1 : Int) + (i2 : Int))), (67, .ref 4), (68, AI (1 + (i1 : Int) + (i2 : Int)))])]⟩ : St) : Nat × (List (Value × List (Int × Int))) × Int → St)) (fun | (iv, LM, qv3) => (iv ≤ l.length) ∧ (NL bE2 LM) ∧ (MkG marks 2 (1 + (i1 : Int) + (i2 : Int)) l LM iv) ∧ (qv3 = 1 + (i1 : Int) + (i2 : Int) + 2 * (lenG l iv : Int))) (fun | (iv, LM, qv3) => l.length - iv) (0, LE2, (1 + (i1 : Int) + (i2 : Int))) [0, 1, 5] none (by kernel_rfl) (by kernel_rfl) (by kernel_rfl) ⟨(by omega), (by assumption), (by exact MkG.zero (by assumption)), (by simp [lenG])⟩ ?_)
              rintro ⟨iv, LM, qv3⟩ ⟨h44_1, h44_2, h44_3, h44_4⟩ R41 N42
              have hml3 : LM.length = l.length := (‹MkG marks 2 (1 + (i1 : Int) + (i2 : Int)) l LM iv›).1
              refine R.go 8 (R.cond ((iv : Int) < (LM.length : Int)) (by kernel_rfl) (fun c45 => ?_) (fun c45 => ?_))
              · have hnow3 := (‹MkG marks 2 (1 + (i1 : Int) + (i2 : Int)) l LM iv›).now (by omega)
                have hxl3 : (LM.getD iv (.bool false, [])).2.length = (l.getD iv []).length := by rw [hnow3]
                have hst3 := lenG_step l iv (by omega)
                refine R.go 6 (R.idxO 4 1 LM.length iv (iv : Int) (by kernel_rfl) rfl (by omega) (by kernel_rfl) ?_)
                refine R.ldE (eV eN 86 2) 1 0 LM (.bool false, []) iv (.nam ((LM.getD iv (.bool false, [])).1) (some 86) 2 ((LM.getD iv (.bool false, [])).2).length (rows eN ((LM.getD iv (.bool false, [])).2))) (by kernel_rfl) eV_len (by omega) rfl (by kernel_rfl) ?_
                refine R.go 1 (R.keepS [0, 1, 5, 15, 16] (by kernel_rfl) ?_)
                have hg46 := h44_2.at (.bool false, []) (i := iv) (by omega)
                refine R.thawV eN 86 2 51 LM iv (.bool false, []) 4 15 0 b (frm 19 [(0, .ref 4), (1, AI qv3), (5, AI (iv : Int)), (16, AI qv3)]) [.inert (.base b), .box 26 [AI n, .nam ua none 1 xs.length ca, .nam ub none 1 vs.length cb], rowA eI 2 1 (markI xs 1 i1), rowA eI 2 1 (markI vs (1 + (i1 : Int)) i2), .dead, rowA eI 2 1 (dsR n xs vs (LE2.map Prod.snd)), .dead, .box 34 [AI n, .ref 2, .ref 3], .dead, .box 32 [AI n, .ref 2], .dead, .dead, .frame us40 (frm 119 [(1, .nam uc none 1 l.length cc), (2, .ptr 1 0), (6, .nam uo8 none 1 (dsR n xs vs (LE1.map Prod.snd)).length co9), (7, AI (dsC n xs vs (LE1.map Prod.snd))), (10, .ref 5), (11, AI (dsC n xs vs (LE2.map Prod.snd))), (12, AI (1 + (i1 : Int) + (i2 : Int))), (67, .ref 4), (68, AI (1 + (i1 : Int) + (i2 : Int)))])] (by kernel_rfl) (by kernel_rfl) (by omega) (h44_2.mono hbb15) eN_closed (by kernel_rfl) (by kernel_rfl) (by kernel_rfl) (by kernel_rfl) (safe_frm (List.forall_mem_cons.2 ⟨safe_ref, (List.forall_mem_cons.2 ⟨safe_int, (List.forall_mem_cons.2 ⟨safe_int, (List.forall_mem_cons.2 ⟨safe_int, (fun x h => absurd h (List.not_mem_nil))⟩)⟩)⟩)⟩)) (List.forall_mem_cons.2 ⟨trivial, (List.forall_mem_cons.2 ⟨(safeL_cons.2 ⟨safe_int, (safeL_cons.2 ⟨(hsf16 _ hg46), (safeL_cons.2 ⟨(hsf17 _ hg46), safeL_nil⟩)⟩)⟩), (List.forall_mem_cons.2 ⟨(safe_rows eI_closed _), (List.forall_mem_cons.2 ⟨(safe_rows eI_closed _), (List.forall_mem_cons.2 ⟨trivial, (List.forall_mem_cons.2 ⟨(safe_rows eI_closed _), (List.forall_mem_cons.2 ⟨trivial, (List.forall_mem_cons.2 ⟨(safeL_cons.2 ⟨safe_int, (safeL_cons.2 ⟨safe_ref, (safeL_cons.2 ⟨safe_ref, safeL_nil⟩)⟩)⟩), (List.forall_mem_cons.2 ⟨trivial, (List.forall_mem_cons.2 ⟨(safeL_cons.2 ⟨safe_int, (safeL_cons.2 ⟨safe_ref, safeL_nil⟩)⟩), (List.forall_mem_cons.2 ⟨trivial, (List.forall_mem_cons.2 ⟨trivial, (List.forall_mem_cons.2 ⟨(safe_frm (List.forall_mem_cons.2 ⟨(hsf18 _ hg46), (List.forall_mem_cons.2 ⟨safe_ptr, (List.forall_mem_cons.2 ⟨(hsf19 _ hg46), (List.forall_mem_cons.2 ⟨safe_int, (List.forall_mem_cons.2 ⟨safe_ref, (List.forall_mem_cons.2 ⟨safe_int, (List.forall_mem_cons.2 ⟨safe_int, (List.forall_mem_cons.2 ⟨safe_ref, (List.forall_mem_cons.2 ⟨safe_int, (fun x h => absurd h (List.not_mem_nil))⟩)⟩)⟩)⟩)⟩)⟩)⟩)⟩)⟩)), (fun x h => absurd h (List.not_mem_nil))⟩)⟩)⟩)⟩)⟩)⟩)⟩)⟩)⟩)⟩)⟩)⟩)⟩) ?_
                refine R.enter (avs := [.ref 13, AI qv3]) Try.func46 rfl (by kernel_rfl) (by kernel_rfl) (by kernel_rfl) ?_
                intro us47
                refine R.go 10 (R.loop ((fun | (i3, ys3, q3) => (⟨(frm 27 [(0, .ref 13), (1, AI q3), (5, AI (i3 : Int))]), [.inert (.base b), .box 26 [AI n, .nam ua none 1 xs.length ca, .nam ub none 1 vs.length cb], rowA eI 2 1 (markI xs 1 i1), rowA eI 2 1 (markI vs (1 + (i1 : Int)) i2), weakRow eN 86 2 51 LM iv (.bool false, []), rowA eI 2 1 (dsR n xs vs (LE2.map Prod.snd)), .dead, .box 34 [AI n, .ref 2, .ref 3], .dead, .box 32 [AI n, .ref 2], .dead, .dead, .frame us40 (frm 119 [(1, .nam uc none 1 l.length cc), (2, .ptr 1 0), (6, .nam uo8 none 1 (dsR n xs vs (LE1.map Prod.snd)).length co9), (7, AI (dsC n xs vs (LE1.map Prod.snd))), (10, .ref 5), (11, AI (dsC n xs vs (LE2.map Prod.snd))), (12, AI (1 + (i1 : Int) + (i2 : Int))), (67, .ref 4), (68, AI (1 + (i1 : Int) + (i2 : Int)))]), rowA eN 86 2 ys3, .frame [(LM.getD iv (.bool false, [])).1] [.ref 13], .frame us47 (frm 19 [(0, .ref 4), (1, AI qv3), (5, AI (iv : Int)), (15, .ref 13), (16, AI qv3)])]⟩ : St) : Nat × (List (Int × Int)) × Int → St)) (fun | (i3, ys3, q3) => (i3 ≤ ((LM.getD iv (.bool false, [])).2).length) ∧ (ys3 = markTo ((LM.getD iv (.bool false, [])).2) qv3 i3) ∧ (q3 = qv3 + 2 * (i3 : Int))) (fun | (i3, ys3, q3) => ((LM.getD iv (.bool false, [])).2).length - i3) (0, ((LM.getD iv (.bool false, [])).2), qv3) [0, 1, 5] none (by kernel_rfl) (by kernel_rfl) (by kernel_rfl) ⟨(by omega), (by exact markTo_zero _ _), (by simp)⟩ ?_)
                rintro ⟨i3, ys3, q3⟩ ⟨h51_1, rfl, rfl⟩ R48 N49
                have hl3 : (markTo ((LM.getD iv (.bool false, [])).2) qv3 i3).length = ((LM.getD iv (.bool false, [])).2).length := markTo_length _ _ _ (by assumption)
                refine R.go 8 (R.cond ((i3 : Int) < ((markTo ((LM.getD iv (.bool false, [])).2) qv3 i3).length : Int)) (by kernel_rfl) (fun c52 => ?_) (fun c52 => ?_))
                · refine R.go 8 (R.idxO 13 2 (markTo ((LM.getD iv (.bool false, [])).2) qv3 i3).length i3 (i3 : Int) (by kernel_rfl) rfl (by first | omega | (simp only [List.length_set]; omega) | (simp <;> omega)) (by kernel_rfl) ?_)
                  refine R.go 1 (R.stF eN 13 86 2 (markTo ((LM.getD iv (.bool false, [])).2) qv3 i3) (0, 0) i3 0 (AI (qv3 + 2 * (i3 : Int))) (qv3 + 2 * (i3 : Int), ((markTo ((LM.getD iv (.bool false, [])).2) qv3 i3).getD i3 (0, 0)).2) (by kernel_rfl) eN_len (by first | omega | (simp only [List.length_set]; omega) | (simp <;> omega)) (by decide) rfl (by kernel_rfl) ?_)
                  refine R.go 4 (R.ar ((qv3 + 2 * (i3 : Int)) + 1) (by kernel_rfl) (by omega) (by omega) (by kernel_rfl) ?_)
                  refine R.go 7 (R.idxO 13 2 ((markTo ((LM.getD iv (.bool false, [])).2) qv3 i3).set i3 (qv3 + 2 * (i3 : Int), ((markTo ((LM.getD iv (.bool false, [])).2) qv3 i3).getD i3 (0, 0)).2)).length i3 (i3 : Int) (by kernel_rfl) rfl (by first | omega | (simp only [List.length_set]; omega) | (simp <;> omega)) (by kernel_rfl) ?_)
                  refine R.go 1 (R.stF eN 13 86 2 ((markTo ((LM.getD iv (.bool false, [])).2) qv3 i3).set i3 (qv3 + 2 * (i3 : Int), ((markTo ((LM.getD iv (.bool false, [])).2) qv3 i3).getD i3 (0, 0)).2)) (0, 0) i3 1 (AI ((qv3 + 2 * (i3 : Int)) + 1)) ((((markTo ((LM.getD iv (.bool false, [])).2) qv3 i3).set i3 (qv3 + 2 * (i3 : Int), ((markTo ((LM.getD iv (.bool false, [])).2) qv3 i3).getD i3 (0, 0)).2)).getD i3 (0, 0)).1, (qv3 + 2 * (i3 : Int)) + 1) (by kernel_rfl) eN_len (by first | omega | (simp only [List.length_set]; omega) | (simp <;> omega)) (by decide) rfl (by kernel_rfl) ?_)
                  refine R.go 3 (R.ar (((qv3 + 2 * (i3 : Int)) + 1) + 1) (by kernel_rfl) (by omega) (by omega) (by kernel_rfl) ?_)
                  refine R.go 5 (R.ar ((i3 : Int) + 1) (by kernel_rfl) (by omega) (by omega) (by kernel_rfl) ?_)
                  exact R.go 2 (R.stop R48 (by kernel_rfl) (N49 (i3 + 1, ((markTo ((LM.getD iv (.bool false, [])).2) qv3 i3).set i3 (qv3 + 2 * (i3 : Int), ((markTo ((LM.getD iv (.bool false, [])).2) qv3 i3).getD i3 (0, 0)).2)).set i3 ((((markTo ((LM.getD iv (.bool false, [])).2) qv3 i3).set i3 (qv3 + 2 * (i3 : Int), ((markTo ((LM.getD iv (.bool false, [])).2) qv3 i3).getD i3 (0, 0)).2)).getD i3 (0, 0)).1, (qv3 + 2 * (i3 : Int)) + 1), ((qv3 + 2 * (i3 : Int)) + 1) + 1) [0, 1, 5] none _ (by kernel_rfl) (by kernel_rfl) ⟨(by omega), (by exact markTo_set _ _ _ (by omega) _ _ (by rw [getD_set_eq _ _ _ _ (by omega)])), (by omega)⟩ (by show (((LM.getD iv (.bool false, [])).2).length - (i3 + 1)) < (((LM.getD iv (.bool false, [])).2).length - i3); omega)))
                · refine R.go 6 (R.back (AI (qv3 + 2 * (i3 : Int))) (frm 19 [(0, .ref 4), (1, AI qv3), (5, AI (iv : Int)), (15, .ref 13), (16, AI qv3)]) (by kernel_rfl) (by kernel_rfl) (by kernel_rfl) ?_)
                  refine R.repinV eN 86 2 51 LM iv (.bool false, []) 4 13 (markTo ((LM.getD iv (.bool false, [])).2) qv3 i3) (by kernel_rfl) (by kernel_rfl) (by omega) (by kernel_rfl) (by kernel_rfl) rfl ?_
                  refine R.go 5 (R.ar ((iv : Int) + 1) (by kernel_rfl) (by omega) (by omega) (by kernel_rfl) ?_)
                  exact R.go 2 (R.stop R41 (by kernel_rfl) (N42 (iv + 1, LM.set iv ((LM.getD iv (.bool false, [])).1, markTo ((LM.getD iv (.bool false, [])).2) qv3 i3), qv3 + 2 * (i3 : Int)) [0, 1, 5] (some [0, 1, 2, 3, 4, 5, 6, 7, 8, 9, 10, 11, 12]) _ (by kernel_rfl) (by kernel_rfl) ⟨(by omega), (by exact NL.set (by assumption) _ _ _ (by omega)), (by exact MkG.set (by assumption) (by omega) ((mkN_row hnow3 (by omega)).trans (by rw [‹qv3 = 1 + (i1 : Int) + (i2 : Int) + 2 * (lenG l iv : Int)›]))), (by rw [lenG]; omega)⟩ (by show (l.length - (iv + 1)) < (l.length - iv); omega)))
              · refine R.go 6 (R.back (AI qv3) (frm 119 [(1, .nam uc none 1 l.length cc), (2, .ptr 1 0), (6, .nam uo8 none 1 (dsR n xs vs (LE1.map Prod.snd)).length co9), (7, AI (dsC n xs vs (LE1.map Prod.snd))), (10, .ref 5), (11, AI (dsC n xs vs (LE2.map Prod.snd))), (12, AI (1 + (i1 : Int) + (i2 : Int))), (67, .ref 4), (68, AI (1 + (i1 : Int) + (i2 : Int)))]) (by kernel_rfl) (by kernel_rfl) (by kernel_rfl) ?_)
                refine R.go 8 ?_
                by_cases c53 : qv3 < 0
                · refine R.skp (decide (qv3 < 0)) false (by kernel_rfl) (dT c53) (by kernel_rfl) ?_
                  refine R.skp (decide (qv3 < 0)) false (by kernel_rfl) (dT c53) (by kernel_rfl) ?_
                  refine R.skp (decide (qv3 < 0)) false (by kernel_rfl) (dT c53) (by kernel_rfl) ?_
                  refine R.skp (decide (qv3 < 0)) false (by kernel_rfl) (dT c53) (by kernel_rfl) ?_
                  refine R.pick (decide (qv3 < 0)) true (by kernel_rfl) (dT c53) (by kernel_rfl) ?_
                  exact R.go 11 (R.retB (.bool false) (by kernel_rfl) (by kernel_rfl) (by first | rfl | (rfl) | (exfalso; omega)))
                · refine R.want (decide (qv3 < 0)) false (by kernel_rfl) (dF c53) ?_
                  refine R.go 1 (R.want (decide (qv3 < 0)) false (by kernel_rfl) (dF c53) ?_)
                  refine R.go 1 (R.want (decide (qv3 < 0)) false (by kernel_rfl) (dF c53) ?_)
                  refine R.callW (avs0 := [.ref 5, .nam uo8 none 1 (dsR n xs vs (LE1.map Prod.snd)).length co9]) (eqInt64S_c (dsR n xs vs (LE2.map Prod.snd)) (dsR n xs vs (LE1.map Prod.snd)) (by first | omega | (simp <;> omega))) (by kernel_rfl) (.cons (.ref (e := 2) (s := 1) (n := (dsR n xs vs (LE2.map Prod.snd)).length) (cs := rows eI (dsR n xs vs (LE2.map Prod.snd))) (by kernel_rfl)) (.cons (.wk (.leaf ho10.leafy) ho10.fgt) (.nil))) rfl (by kernel_rfl) ?_
                  refine R.want (decide (qv3 < 0)) false (by kernel_rfl) (dF c53) ?_
                  refine R.go 1 (R.pick (decide (qv3 < 0)) false (by kernel_rfl) (dF c53) (by kernel_rfl) ?_)
                  refine R.go 1 (R.want (!decide ((dsR n xs vs (LE2.map Prod.snd)) = (dsR n xs vs (LE1.map Prod.snd)))) false (by kernel_rfl) (nF hr2) ?_)
                  refine R.go 1 (R.want (!decide ((dsR n xs vs (LE2.map Prod.snd)) = (dsR n xs vs (LE1.map Prod.snd)))) false (by kernel_rfl) (nF hr2) ?_)
                  refine R.go 1 (R.want (!decide ((dsR n xs vs (LE2.map Prod.snd)) = (dsR n xs vs (LE1.map Prod.snd)))) false (by kernel_rfl) (nF hr2) ?_)
                  refine R.go 1 (R.pick (!decide ((dsR n xs vs (LE2.map Prod.snd)) = (dsR n xs vs (LE1.map Prod.snd)))) false (by kernel_rfl) (nF hr2) (by kernel_rfl) ?_)
                  refine R.go 1 (R.els (!decide ((dsC n xs vs (LE2.map Prod.snd)) = (dsC n xs vs (LE1.map Prod.snd)))) (by kernel_rfl) (nF c20) ?_)
                  refine R.go 9 (R.enter (avs := [.ref 5, AI 1]) Try.func16 rfl (by kernel_rfl) (by kernel_rfl) (by kernel_rfl) ?_)
                  intro us54
                  refine R.go 10 (R.loop ((fun | (i4, ys4, q4) => (⟨(frm 19 [(0, .ref 5), (1, AI q4), (5, AI (i4 : Int))]), [.inert (.base b), .box 26 [AI n, .nam ua none 1 xs.length ca, .nam ub none 1 vs.length cb], rowA eI 2 1 (markI xs 1 i1), rowA eI 2 1 (markI vs (1 + (i1 : Int)) i2), rowA (eV eN 86 2) 51 1 LM, rowA eI 2 1 ys4, .dead, .box 34 [AI n, .ref 2, .ref 3], .dead, .box 32 [AI n, .ref 2], .dead, .dead, .dead, .frame us54 (frm 119 [(1, .nam uc none 1 l.length cc), (2, .ptr 1 0), (6, .nam uo8 none 1 (dsR n xs vs (LE1.map Prod.snd)).length co9), (7, AI (dsC n xs vs (LE1.map Prod.snd))), (10, .ref 5), (11, AI (dsC n xs vs (LE2.map Prod.snd))), (12, AI qv3), (13, AI 1), (67, .ref 4), (68, AI (1 + (i1 : Int) + (i2 : Int))), (69, AI qv3), (70, AI qv3), (71, .bool (decide (qv3 < 0))), (72, .bool (decide (qv3 < 0))), (73, .ref 5), (74, .nam uo8 none 1 (dsR n xs vs (LE1.map Prod.snd)).length co9), (75, .bool (decide ((dsR n xs vs (LE2.map Prod.snd)) = (dsR n xs vs (LE1.map Prod.snd))))), (76, .bool (!decide ((dsR n xs vs (LE2.map Prod.snd)) = (dsR n xs vs (LE1.map Prod.snd))))), (77, .bool (!decide ((dsR n xs vs (LE2.map Prod.snd)) = (dsR n xs vs (LE1.map Prod.snd))))), (78, .bool (!decide ((dsR n xs vs (LE2.map Prod.snd)) = (dsR n xs vs (LE1.map Prod.snd))))), (79, AI (dsC n xs vs (LE2.map Prod.snd))), (80, AI (dsC n xs vs (LE1.map Prod.snd))), (81, .bool (!decide ((dsC n xs vs (LE2.map Prod.snd)) = (dsC n xs vs (LE1.map Prod.snd))))), (82, .bool (!decide ((dsC n xs vs (LE2.map Prod.snd)) = (dsC n xs vs (LE1.map Prod.snd))))), (83, .ref 5), (84, AI 1)])]⟩ : St) : Nat × (List Int) × Int → St)) (fun | (i4, ys4, q4) => (i4 ≤ (dsR n xs vs (LE2.map Prod.snd)).length) ∧ (ys4 = markI (dsR n xs vs (LE2.map Prod.snd)) 1 i4) ∧ (q4 = 1 + (i4 : Int))) (fun | (i4, ys4, q4) => (dsR n xs vs (LE2.map Prod.snd)).length - i4) (0, (dsR n xs vs (LE2.map Prod.snd)), 1) [0, 1, 5] none (by kernel_rfl) (by kernel_rfl) (by kernel_rfl) ⟨(by omega), (by exact markI_zero _ _), (by simp)⟩ ?_)
                  rintro ⟨i4, ys4, q4⟩ ⟨h58_1, rfl, rfl⟩ R55 N56
                  have hl4 : (markI (dsR n xs vs (LE2.map Prod.snd)) 1 i4).length = (dsR n xs vs (LE2.map Prod.snd)).length := markI_length _ _ _ (by assumption)
                  refine R.go 8 (R.cond ((i4 : Int) < ((markI (dsR n xs vs (LE2.map Prod.snd)) 1 i4).length : Int)) (by kernel_rfl) (fun c59 => ?_) (fun c59 => ?_))
                  · refine R.go 8 (R.idxO 5 1 (markI (dsR n xs vs (LE2.map Prod.snd)) 1 i4).length i4 (i4 : Int) (by kernel_rfl) rfl (by omega) (by kernel_rfl) ?_)
                    refine R.stI 5 2 (markI (dsR n xs vs (LE2.map Prod.snd)) 1 i4) i4 (1 + (i4 : Int)) (by kernel_rfl) (by omega) (by kernel_rfl) ?_
                    refine R.go 3 (R.ar ((1 + (i4 : Int)) + 1) (by kernel_rfl) (by omega) (by omega) (by kernel_rfl) ?_)
                    refine R.go 5 (R.ar ((i4 : Int) + 1) (by kernel_rfl) (by omega) (by omega) (by kernel_rfl) ?_)
                    exact R.go 2 (R.stop R55 (by kernel_rfl) (N56 (i4 + 1, (markI (dsR n xs vs (LE2.map Prod.snd)) 1 i4).set i4 (1 + (i4 : Int)), (1 + (i4 : Int)) + 1) [0, 1, 5] none _ (by kernel_rfl) (by kernel_rfl) ⟨(by omega), (by exact markI_set _ _ _ (by omega) _ (by omega)), (by omega)⟩ (by show ((dsR n xs vs (LE2.map Prod.snd)).length - (i4 + 1)) < ((dsR n xs vs (LE2.map Prod.snd)).length - i4); omega)))
                  · refine R.go 6 (R.back (AI (1 + (i4 : Int))) (frm 119 [(1, .nam uc none 1 l.length cc), (2, .ptr 1 0), (6, .nam uo8 none 1 (dsR n xs vs (LE1.map Prod.snd)).length co9), (7, AI (dsC n xs vs (LE1.map Prod.snd))), (10, .ref 5), (11, AI (dsC n xs vs (LE2.map Prod.snd))), (12, AI qv3), (13, AI 1), (67, .ref 4), (68, AI (1 + (i1 : Int) + (i2 : Int))), (69, AI qv3), (70, AI qv3), (71, .bool (decide (qv3 < 0))), (72, .bool (decide (qv3 < 0))), (73, .ref 5), (74, .nam uo8 none 1 (dsR n xs vs (LE1.map Prod.snd)).length co9), (75, .bool (decide ((dsR n xs vs (LE2.map Prod.snd)) = (dsR n xs vs (LE1.map Prod.snd))))), (76, .bool (!decide ((dsR n xs vs (LE2.map Prod.snd)) = (dsR n xs vs (LE1.map Prod.snd))))), (77, .bool (!decide ((dsR n xs vs (LE2.map Prod.snd)) = (dsR n xs vs (LE1.map Prod.snd))))), (78, .bool (!decide ((dsR n xs vs (LE2.map Prod.snd)) = (dsR n xs vs (LE1.map Prod.snd))))), (79, AI (dsC n xs vs (LE2.map Prod.snd))), (80, AI (dsC n xs vs (LE1.map Prod.snd))), (81, .bool (!decide ((dsC n xs vs (LE2.map Prod.snd)) = (dsC n xs vs (LE1.map Prod.snd))))), (82, .bool (!decide ((dsC n xs vs (LE2.map Prod.snd)) = (dsC n xs vs (LE1.map Prod.snd))))), (83, .ref 5), (84, AI 1)]) (by kernel_rfl) (by kernel_rfl) (by kernel_rfl) ?_)
                    have hi4 : i4 = (dsR n xs vs (LE2.map Prod.snd)).length := by omega
                    have hx4 : markI (dsR n xs vs (LE2.map Prod.snd)) 1 i4 = markC (markI (dsR n xs vs (LE2.map Prod.snd)) 1 i4).length 1 := by rw [hl4, hi4]; exact markI_all _ _ _ rfl
                    refine R.go 10 (R.call false (heldInt64S_c (markI (dsR n xs vs (LE2.map Prod.snd)) 1 i4) 1 (by first | omega | (simp <;> omega)) (by omega) (by assumption)) (by kernel_rfl) rfl (by kernel_rfl) ?_)
                    refine R.go 8 (R.cond ((1 + ((markI (dsR n xs vs (LE2.map Prod.snd)) 1 i4).length : Int)) < 0) (by kernel_rfl) (fun c60 => ?_) (fun c60 => ?_))
                    · exact R.go 4 (R.retB (.bool false) (by kernel_rfl) (by kernel_rfl) (by first | rfl | (rfl) | (exfalso; omega)))
                    · refine R.go 8 (R.condN ((1 + ((markI (dsR n xs vs (LE2.map Prod.snd)) 1 i4).length : Int)) = (1 + (i4 : Int))) (by kernel_rfl) (fun c61 => ?_) (fun c61 => ?_))
                      · exact R.go 4 (R.retB (.bool false) (by kernel_rfl) (by kernel_rfl) (by first | rfl | (rfl) | (exfalso; omega)))
                      · refine R.go 4 (R.callW (avs0 := [.agg [AI n, .nam ua none 1 xs.length ca, .nam ub none 1 vs.length cb]]) (toModel_c n xs vs (by first | omega | (simp <;> omega)) (by first | omega | (simp <;> omega))) (by kernel_rfl) (.cons (.agg (.cons (.leaf rfl) (.cons (.wk (.leaf hca.leafy) hca.fgt) (.cons (.wk (.leaf hcb.leafy) hcb.fgt) (.nil))))) (.nil)) (by simp [AV.closed, closedL, AI, ownA_closed eI_closed]) (by kernel_rfl) ?_)
                        refine R.go 1 (R.callE (avs0 := [.nam uc none 1 l.length cc]) (toNodeSSE_c l (by first | omega | (simp <;> omega)) hv1l) (by kernel_rfl) (.cons (.wk (.leaf hcc.leafy) hcc.fgt) (.nil)) (toNodeSSE_c_cl l) (by kernel_rfl) ?_)
                        intro bE4 hbn62 hsn63 rn64 hrn65
                        obtain ⟨LE4, rfl, heE4_1, heE4_2⟩ := hrn65
                        have hbb66 : b ≤ bE4 := hbn62 0 b (by kernel_rfl)
                        clear hbn62 hsn63
                        have hm4 : (LE4.map Prod.snd) = l := heE4_2
                        have hlE4 : (LE4.map Prod.snd).length ≤ 1048576 ∧ ∀ i0 : Nat, i0 < (LE4.map Prod.snd).length → ((LE4.map Prod.snd).getD i0 []).length ≤ 1048576 := by rw [hm4]; exact ⟨by omega, hv1l⟩
                        have hlF4 : ∀ j : Nat, j < (LE4.map Prod.snd).length → ((LE4.map Prod.snd).getD j []).length ≤ 1000000000 := fun j hj => Nat.le_trans (hlE4.2 j hj) (by decide)
                        have hdl4 := dsR_len n xs vs (LE4.map Prod.snd)
                        have hr4 : (dsR n xs vs (LE4.map Prod.snd)) = (dsR n xs vs (LE1.map Prod.snd)) := by rw [hm4, hm1]
                        have hs4 : dsC n xs vs (LE4.map Prod.snd) = dsC n xs vs (LE1.map Prod.snd) := by rw [hm4, hm1]
                        refine R.callW (avs0 := [.agg [AI n, .ref 14, .ref 15], .ref 16]) (DS_impl n xs vs (LE4.map Prod.snd) (by first | omega | (simp <;> omega)) (by first | omega | (simp <;> omega)) hlE4) (by kernel_rfl) (.cons (.agg (.cons (.leaf rfl) (.cons (.ref (e := 2) (s := 1) (n := xs.length) (cs := rows eI xs) (by kernel_rfl)) (.cons (.ref (e := 2) (s := 1) (n := vs.length) (cs := rows eI vs) (by kernel_rfl)) (.nil))))) (.cons (.wk (.ref (e := 51) (s := 1) (n := LE4.length) (cs := rows (eV eN 86 2) LE4) (by kernel_rfl)) (fgtV (fun _ => rfl) _)) (.nil))) (by simp [AV.closed, closedL, AI, ownA_closed eI_closed]) (by kernel_rfl) ?_
                        refine R.go 11 (R.callW (avs0 := [.ref 17, .nam uo8 none 1 (dsR n xs vs (LE1.map Prod.snd)).length co9]) (eqInt64S_c (dsR n xs vs (LE4.map Prod.snd)) (dsR n xs vs (LE1.map Prod.snd)) (by first | omega | (simp <;> omega))) (by kernel_rfl) (.cons (.ref (e := 2) (s := 1) (n := (dsR n xs vs (LE4.map Prod.snd)).length) (cs := rows eI (dsR n xs vs (LE4.map Prod.snd))) (by kernel_rfl)) (.cons (.wk (.leaf ho10.leafy) ho10.fgt) (.nil))) rfl (by kernel_rfl) ?_)
                        refine R.go 2 (R.want (!decide ((dsR n xs vs (LE4.map Prod.snd)) = (dsR n xs vs (LE1.map Prod.snd)))) false (by kernel_rfl) (nF hr4) ?_)
                        refine R.go 1 (R.want (!decide ((dsR n xs vs (LE4.map Prod.snd)) = (dsR n xs vs (LE1.map Prod.snd)))) false (by kernel_rfl) (nF hr4) ?_)
                        refine R.go 1 (R.want (!decide ((dsR n xs vs (LE4.map Prod.snd)) = (dsR n xs vs (LE1.map Prod.snd)))) false (by kernel_rfl) (nF hr4) ?_)
                        refine R.go 1 (R.pick (!decide ((dsR n xs vs (LE4.map Prod.snd)) = (dsR n xs vs (LE1.map Prod.snd)))) false (by kernel_rfl) (nF hr4) (by kernel_rfl) ?_)
                        refine R.go 1 (R.condN ((dsC n xs vs (LE4.map Prod.snd)) = (dsC n xs vs (LE1.map Prod.snd))) (by kernel_rfl) (fun c67 => ?_) (fun c67 => ?_))
                        · exact R.go 4 (R.retB (.bool false) (by kernel_rfl) (by kernel_rfl) (by first | rfl | (rfl) | (exfalso; omega)))
                        · refine R.go 9 (R.call false (heldInt64S_c (markI (dsR n xs vs (LE2.map Prod.snd)) 1 i4) 1 (by first | omega | (simp <;> omega)) (by omega) (by assumption)) (by kernel_rfl) rfl (by kernel_rfl) ?_)
                          refine R.go 8 (R.els (decide ((1 + ((markI (dsR n xs vs (LE2.map Prod.snd)) 1 i4).length : Int)) < 0)) (by kernel_rfl) (dF c60) ?_)
                          refine R.go 8 (R.els (!decide ((1 + ((markI (dsR n xs vs (LE2.map Prod.snd)) 1 i4).length : Int)) = (1 + (i4 : Int)))) (by kernel_rfl) (nF c61) ?_)
                          exact R.go 5 (R.retB (.bool true) (by kernel_rfl) (by kernel_rfl) (rfl))
theorem lawDefinableSets_in (n : Int) (xs vs : List Int) (l : List (List (Int × Int))) (hl : xs.length + vs.length + (l.length + sumL l) ≤ 1048576) : CallA Try.prog 3 [.agg [AI n, LI xs, LI vs], LLN l] (.bool true) :=
  CallA.nameM (enters_of Try.func3 (by kernel_rfl) rfl) (nameable_LI xs) (nameable_LI vs) (nameable_LLN l) fun ua ca ub cb uc cc hca hcb hcc => CallE.toA (lawDefinableSets_inE n xs vs l ua ub uc ca cb cc hca hcb hcc hl)

theorem lawDefinableSets_1 (n : Int) (xs : List Int) (vs : List Int) (l : List (List (Int × Int))) (hx : 1048576 < xs.length) (hb : xs.length ≤ 9223372036854775807) : CallA Try.prog 3 [.agg [AI n, LI xs, LI vs], LLN l] (.bool true) := by
  refine CallA.of Try.func3 rfl (by kernel_rfl) ?_
  refine R.go 13 (R.call true (szModel_no1 n xs vs 1048576 (by omega) (by first | omega | (simp <;> omega)) hb) (by kernel_rfl) rfl (by kernel_rfl) ?_)
  exact R.go 13 (R.retE (.bool true) (by kernel_rfl) (by kernel_rfl) (by rfl))

theorem lawDefinableSets_2 (n : Int) (xs : List Int) (vs : List Int) (l : List (List (Int × Int))) (hy : xs.length ≤ 1048576) (hx : 1048576 < xs.length + vs.length) (hb : vs.length ≤ 9223372036854775807) : CallA Try.prog 3 [.agg [AI n, LI xs, LI vs], LLN l] (.bool true) := by
  refine CallA.of Try.func3 rfl (by kernel_rfl) ?_
  refine R.go 13 (R.call true (szModel_no2 n xs vs 1048576 (by omega) (by first | omega | (simp <;> omega)) (by first | omega | (simp <;> omega)) hb) (by kernel_rfl) rfl (by kernel_rfl) ?_)
  exact R.go 13 (R.retE (.bool true) (by kernel_rfl) (by kernel_rfl) (by rfl))

theorem lawDefinableSets_3 (n : Int) (xs : List Int) (vs : List Int) (l : List (List (Int × Int))) (hy : xs.length + vs.length ≤ 1048576) (hx : 1048576 < xs.length + vs.length + (l.length + sumL l)) (hb : l.length ≤ 9223372036854775807) (hb2 : ∀ j : Nat, j < l.length → (l.getD j []).length ≤ 9223372036854775807) : CallA Try.prog 3 [.agg [AI n, LI xs, LI vs], LLN l] (.bool true) := by
  refine CallA.of Try.func3 rfl (by kernel_rfl) ?_
  refine R.go 13 (R.call true (szModel_c n xs vs 1048576 (by omega) (by first | omega | (simp <;> omega))) (by kernel_rfl) rfl (by kernel_rfl) ?_)
  refine R.go 8 (R.cond (((1048576 : Int) - xs.length - vs.length) < 0) (by kernel_rfl) (fun c1 => ?_) (fun c1 => ?_))
  · exact R.go 4 (R.retE (.bool true) (by kernel_rfl) (by kernel_rfl) (by rfl))
  · refine R.go 5 (R.call true (szNodeSS_no l ((1048576 : Int) - xs.length - vs.length) (by first | omega | (simp <;> omega)) (by first | omega | (simp <;> omega)) hb hb2) (by kernel_rfl) rfl (by kernel_rfl) ?_)
    exact R.go 13 (R.retE (.bool true) (by kernel_rfl) (by kernel_rfl) (by rfl))

theorem lawDefinableSets (n : Int) (xs vs : List Int) (m0 : xs.length ≤ maxLen) (m1 : vs.length ≤ maxLen) (l : List (List (Int × Int))) (m2 : l.length ≤ maxLen) (m2' : ∀ j : Nat, j < l.length → (l.getD j []).length ≤ maxLen) : CallA Try.prog 3 [.agg [AI n, LI xs, LI vs], LLN l] (.bool true) := by
  have hm : maxLen ≤ 9223372036854775807 := by decide
  rcases Nat.lt_or_ge 1048576 (xs.length) with h0 | h0
  · exact lawDefinableSets_1 n xs vs l h0 (by omega)
  rcases Nat.lt_or_ge 1048576 (xs.length + vs.length) with h1 | h1
  · exact lawDefinableSets_2 n xs vs l h0 h1 (by omega)
  rcases Nat.lt_or_ge 1048576 (xs.length + vs.length + (l.length + sumL l)) with h2 | h2
  · exact lawDefinableSets_3 n xs vs l h1 h2 (by omega) (fun j hj => Nat.le_trans (m2' j hj) hm)
  exact lawDefinableSets_in n xs vs l h2

end Go.Proofs.Ytpalghbfhgimkaa
