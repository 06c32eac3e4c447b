/- Texts of the proof: MO3. -/
import Derived.Test.YtgebepfdphmjcaaGreatPartM

/-! The law FnMorphismsKeepTruth. -/
namespace Go.Proofs.YtgebepfdphmjcaaGreat
open Go.RowKit Go.Abs

section
variable {n : Int} {xs V : List Int} {a : List (Int × Int)}
def VAL (n : Int) (V : List Int) : Prop := ∀ j : Nat, j < V.length → 0 ≤ V.getD j 0 ∧ V.getD j 0 < shl64 1 n
theorem val_in (h0 : 0 ≤ n) (h8 : n ≤ 8) (hV : VAL n V) {j : Nat} (hj : j < V.length) : InM n.toNat (V.getD j 0) := by
  have := hV j hj
  refine (full_rng (n := n.toNat) (by omega)).2 ((inR_iff _ _ _).2 ?_)
  rw [nn_eq h0]
  omega
theorem val_snoc {x : Int} (hV : VAL n V) (h0 : 0 ≤ x) (h1 : x < shl64 1 n) : VAL n (V ++ [x]) := by
  intro j hj
  rw [List.length_append, List.length_singleton] at hj
  rcases Nat.lt_or_ge j V.length with h | h
  · rw [pre_get h]; exact hV j h
  · rw [post_get h, show j - V.length = 0 by omega]
    exact ⟨h0, h1⟩
theorem val_mo (hR : okFr n xs = true) (hl : V.length = 6) (hV : VAL n V) : okMo n xs V = true := by
  obtain ⟨h0, h8, _, _⟩ := okFr_rel hR
  rw [okMo_3 hR (by omega), anyI_all (p := fun m => !inR m 0 ((shl64 1 n) - 1)) fun j hj => ?_]
  · rfl
  · have := hV j hj
    rw [(inR_iff _ _ _).2 (by omega)]; rfl
theorem bitT {N : Nat} {m : Int} (hN : N ≤ 61) (h : InM N m) {i : Nat} (hi : i ≤ 61) : decide (band (shr64 m (i : Int)) 1 = 1) = tb m i := by
  rw [Bool.eq_iff_iff, decide_eq_true_iff]
  exact has_tb hN h hi
end
section
variable {n m : Int} {xs ys ims V : List Int} {a : List (Int × Int)}
theorem ml_1 (hz : moC n xs m ys ims = 0) : okFr n xs = true ∧ okFr m ys = true ∧ (ims.length : Int) = n ∧ (0 ≤ m ∧ m ≤ 8) ∧ (1 ≤ shl64 1 m ∧ shl64 1 m ≤ 4611686018427387904) ∧ ims.length ≤ 8 ∧ (∀ j, j < ims.length → 0 ≤ ims.getD j 0 ∧ ims.getD j 0 ≤ 60) := by
  obtain ⟨h1, h2, _, h4, h5⟩ := moC_ok hz
  obtain ⟨m0, m8, ml, _⟩ := okFr_rel h2
  exact ⟨h1, h2, h5.symm, ⟨m0, m8⟩, shl_rng m m0 (by omega), h4.1, fun j hj => by have := h4.2.2.2 j hj; omega⟩
theorem ml_2 (hz : moC n xs m ys ims = 0) (hV : VAL m V) : pvH m ims V := by
  obtain ⟨h1, h2, _, h4, h5⟩ := moC_ok hz
  obtain ⟨m0, m8, ml, _⟩ := okFr_rel h2
  exact ⟨fun j hj => by have := h4.2.2.2 j hj; omega, fun j hj => val_in m0 m8 hV hj⟩
theorem ml_3 (hz : moC n xs m ys ims = 0) (hl : V.length = 6) (hV : VAL m V) : okMo n xs (pulV ims V) = true ∧ okMo m ys V = true := by
  obtain ⟨h1, h2, _, h4, h5⟩ := moC_ok hz
  obtain ⟨n0, n8, nl, _⟩ := okFr_rel h1
  refine ⟨val_mo h1 (by unfold pulV; rw [List.length_map]; exact hl) fun j hj => ?_, val_mo h2 hl hV⟩
  have hj : j < V.length := by unfold pulV at hj; rwa [List.length_map] at hj
  rw [pulV_get hj]
  have := (full_rng (n := n.toNat) (by omega)).1 (sqz_ok (L := ims) (m := V.getD j 0) (N := n.toNat) (by omega) ims.length (by omega))
  rw [nn_eq n0] at this
  have := (inR_iff _ _ _).1 this
  omega
theorem ml_4 (hz : moC n xs m ys ims = 0) (hM : moR n xs m ys ims = true) (hl : V.length = 6) (hV : VAL m V) (hc : mcode n xs (pulV ims V) a = 0) {i : Nat} (hi : i < ims.length) :
    ((decide (band (shr64 (tval n xs (pulV ims V) a) (i : Int)) 1 = 1)) == (decide (band (shr64 (tval m ys V a) (ims.getD i 0)) 1 = 1))) = true := by
  obtain ⟨h1, h2, _, h4, h5⟩ := moC_ok hz
  obtain ⟨n0, n8, nl, _⟩ := okFr_rel h1
  obtain ⟨m0, m8, ml, _⟩ := okFr_rel h2
  obtain ⟨k1, k2⟩ := ml_3 hz hl hV
  have hF := (mcode_ok hc).2
  have hA := (isF_okm hF).1
  have hc2 := mcode_good k2 hF
  have hMa : morA n xs ys ims = true := by rw [moR_0 hz]; exact hM
  have hp := ml_2 hz hV
  have hx := h4.2.2.2 i hi
  have key := mor_tr hz hMa hp hl hF hi
  have e : ims.getD i 0 = (((ims.getD i 0).toNat : Nat) : Int) := by omega
  unfold tval
  rw [if_pos hc, if_pos hc2, beq_iff_eq, e]
  have hX : ∀ j : Nat, j < 6 → InM n.toNat ((pulV ims V).getD j 0) := fun j hj => by
    rw [pulV_get (by omega)]
    exact sqz_ok (by omega) _ (by omega)
  rw [bitT (N := n.toNat) (by omega) (tset_in h1 hA hX) (by omega), bitT (N := m.toNat) (by omega) (tset_in h2 hA fun j hj => hp.2 j (by omega)) (by omega)]
  exact key
end

theorem drSub_c (c : List Int) (hc : BY c) : CallX Tryz.prog 15 [LB c] [] (fun (resX : AV) (objX : List AObj) => ∃ a : List (Int × Int), (a.length ≤ 1000) ∧ resX = LN a ∧ objX = []) := by
  have hcl : c.length ≤ 4096 := hc.1
  have hcb := hc.2
  refine CallX.dropE (CallX.ofF Tryz.func15 rfl (by kernel_rfl) ?_)
  intro usC frC hfC
  refine R.go 7 (R.enter (avs := [LB c]) Tryz.func36 rfl (by kernel_rfl) (by kernel_rfl) (by kernel_rfl) ?_)
  intro us1
  refine R.go 9 (R.cv .u64 (c.length : Int) (by kernel_rfl) (u64_id (by omega) (by omega)) (by kernel_rfl) ?_)
  refine R.go 11 (R.loop ((fun | (i, hh) => (⟨(frm 38 [(0, LB c), (3, .ptr 2 0), (4, AI (i : Int))]), [.frame usC frC, .frame us1 (frm 6 [(0, LB c), (2, .nil), (3, LB c)]), .box 120 [LB c, AI 0, .int .u64 hh]]⟩ : St) : Nat × Int → St)) (fun | (i, hh) => i ≤ c.length) (fun | (i, hh) => c.length - i) (0, (IntKind.u64.wrap (7129 + (c.length : Int)))) [0, 3, 4] none (by kernel_rfl) (by kernel_rfl) (by kernel_rfl) (by omega) ?_)
  rintro ⟨i, hh⟩ h5_1 R2 N3
  refine R.go 8 ?_
  by_cases c6 : (i : Int) < (c.length : Int)
  · refine R.want (decide ((i : Int) < (c.length : Int))) true (by kernel_rfl) (dT c6) ?_
    refine R.go 1 (R.want (decide ((i : Int) < (c.length : Int))) true (by kernel_rfl) (dT c6) ?_)
    refine R.go 1 (R.pick (decide ((i : Int) < (c.length : Int))) true (by kernel_rfl) (dT c6) (by kernel_rfl) ?_)
    refine R.go 1 (R.cond ((i : Int) < 4096) (by kernel_rfl) (fun c7 => ?_) (fun c7 => ?_))
    · have hbi := hcb i (by omega)
      refine R.go 12 (R.idx eB c 0 i (i : Int) (by kernel_rfl) rfl eB_len (by omega) (by kernel_rfl) ?_)
      refine R.go 1 (R.cv .u64 (c.getD i 0) (by kernel_rfl) (u64_id (by omega) (by omega)) (by kernel_rfl) ?_)
      refine R.go 9 (R.ar ((i : Int) + 1) (by kernel_rfl) (by omega) (by omega) (by kernel_rfl) ?_)
      exact R.go 2 (R.stop R2 (by kernel_rfl) (N3 (i + 1, IntKind.u64.wrap ((IntKind.u64.wrap ((IntKind.u64.wrap (hh * 1099511628211)) + (c.getD i 0))) + 11)) [0, 3, 4] none _ (by kernel_rfl) (by kernel_rfl) (by omega) (by show (c.length - (i + 1)) < (c.length - i); omega)))
    · refine R.go 6 (R.back (.ptr 2 0) (frm 6 [(0, LB c), (2, .nil), (3, LB c)]) (by kernel_rfl) (by kernel_rfl) (by kernel_rfl) ?_)
      refine R.deadF 1 (by kernel_rfl) (by kernel_rfl) ?_
      refine R.callX (CallX.inF 0 usC frC (CallX.inF 0 [] [] (anyX_c c 0 hh 16 3 true hc (by omega)) (Nat.le_of_ble_eq_true (by kernel_rfl)) (by kernel_rfl) (by kernel_rfl) (by rintro _ _ ⟨_, _, _, _, rfl, rfl⟩; exact Nat.le_of_ble_eq_true (by kernel_rfl))) (Nat.le_of_ble_eq_true (by kernel_rfl)) (by kernel_rfl) (by kernel_rfl) (by rintro _ _ ⟨_, _, ⟨_, _, _, _, rfl, rfl⟩, rfl, rfl⟩; exact Nat.le_of_ble_eq_true (by kernel_rfl))) (by kernel_rfl) (by kernel_rfl) (by kernel_rfl) ?_
      rintro _ _ ⟨_, _, ⟨_, _, ⟨r_8, p1_9, h1_10, f11, rfl, rfl⟩, rfl, rfl⟩, rfl, rfl⟩
      exact R.go 2 (R.retX (res := LN r_8) (hp' := [.dead, .frame [] [], .box 120 [LB c, AI (p1_9 : Int), .int .u64 h1_10]]) (by kernel_rfl) (by kernel_rfl) (by kernel_rfl) (by kernel_rfl) ⟨[], by kernel_rfl, by decide, r_8, by first | assumption | omega, by kernel_rfl, by kernel_rfl⟩)
  · refine R.skp (decide ((i : Int) < (c.length : Int))) true (by kernel_rfl) (dF c6) (by kernel_rfl) ?_
    refine R.skp (decide ((i : Int) < (c.length : Int))) true (by kernel_rfl) (dF c6) (by kernel_rfl) ?_
    refine R.pick (decide ((i : Int) < (c.length : Int))) false (by kernel_rfl) (dF c6) (by kernel_rfl) ?_
    refine R.go 8 (R.back (.ptr 2 0) (frm 6 [(0, LB c), (2, .nil), (3, LB c)]) (by kernel_rfl) (by kernel_rfl) (by kernel_rfl) ?_)
    refine R.deadF 1 (by kernel_rfl) (by kernel_rfl) ?_
    refine R.callX (CallX.inF 0 usC frC (CallX.inF 0 [] [] (anyX_c c 0 hh 16 3 true hc (by omega)) (Nat.le_of_ble_eq_true (by kernel_rfl)) (by kernel_rfl) (by kernel_rfl) (by rintro _ _ ⟨_, _, _, _, rfl, rfl⟩; exact Nat.le_of_ble_eq_true (by kernel_rfl))) (Nat.le_of_ble_eq_true (by kernel_rfl)) (by kernel_rfl) (by kernel_rfl) (by rintro _ _ ⟨_, _, ⟨_, _, _, _, rfl, rfl⟩, rfl, rfl⟩; exact Nat.le_of_ble_eq_true (by kernel_rfl))) (by kernel_rfl) (by kernel_rfl) (by kernel_rfl) ?_
    rintro _ _ ⟨_, _, ⟨_, _, ⟨r_12, p1_13, h1_14, f15, rfl, rfl⟩, rfl, rfl⟩, rfl, rfl⟩
    exact R.go 2 (R.retX (res := LN r_12) (hp' := [.dead, .frame [] [], .box 120 [LB c, AI (p1_13 : Int), .int .u64 h1_14]]) (by kernel_rfl) (by kernel_rfl) (by kernel_rfl) (by kernel_rfl) ⟨[], by kernel_rfl, by decide, r_12, by first | assumption | omega, by kernel_rfl, by kernel_rfl⟩)

theorem big_c (c : List Int) : CallA Tryz.prog 6 [LB c] (.bool (decide ((c.length : Int) > 4096))) := by
  refine CallA.of Tryz.func6 rfl (by kernel_rfl) ?_
  exact R.go 11 (R.retE (.bool (decide ((c.length : Int) > 4096))) (by kernel_rfl) (by kernel_rfl) (by rfl))

theorem bit5_c (k : Int) (i : Int) (h0 : 0 ≤ i) (h1 : i < 62) : CallA Tryz.prog 18 [AI k, AI i] (.bool (decide (band (shr64 k i) 1 = 1))) := by
  refine CallA.of Tryz.func18 rfl (by kernel_rfl) ?_
  refine R.go 8 (R.cv .u64 i (by kernel_rfl) (u64_id (by omega) (by omega)) (by kernel_rfl) ?_)
  refine R.shr k i (by kernel_rfl) (by omega) (by kernel_rfl) ?_
  exact R.go 4 (R.retE (.bool (decide ((band (shr64 k i) 1) = 1))) (by kernel_rfl) (by kernel_rfl) (by first | (rfl) | (exfalso; omega)))

theorem lawMor_c (c : List Int) (hcb : ∀ q : Nat, q < c.length → 0 ≤ c.getD q 0 ∧ c.getD q 0 ≤ 255) : CallA Tryz.prog 3 [LB c] (.bool true) := by
  refine CallA.of Tryz.func3 rfl (by kernel_rfl) ?_
  refine R.go 8 (R.call true (big_c c) (by kernel_rfl) rfl (by kernel_rfl) ?_)
  refine R.go 1 (R.cond ((c.length : Int) > 4096) (by kernel_rfl) (fun c1 => ?_) (fun c1 => ?_))
  · exact R.go 4 (R.retE (.bool true) (by kernel_rfl) (by kernel_rfl) (by rfl))
  · have hc : BY c := ⟨by omega, hcb⟩
    refine R.go 4 (R.callX (drMor_c c hc) (by kernel_rfl) (by kernel_rfl) (by kernel_rfl) ?_)
    rintro _ _ ⟨n_2, xs_3, m_4, ys_5, im_6, f7, f8, f9, rfl, rfl⟩
    refine R.go 15 (R.call true (IM_impl n_2 xs_3 m_4 ys_5 im_6 (by first | omega | (simp <;> omega)) (by first | omega | (simp <;> omega)) (by first | omega | (simp <;> omega))) (by kernel_rfl) rfl (by kernel_rfl) ?_)
    refine R.go 11 (R.call true (IM_spec n_2 xs_3 m_4 ys_5 im_6 (by first | omega | (simp <;> omega)) (by first | omega | (simp <;> omega)) (by first | omega | (simp <;> omega))) (by kernel_rfl) rfl (by kernel_rfl) ?_)
    refine R.go 13 (R.want (!decide ((moC n_2 xs_3 m_4 ys_5 im_6) = (moC n_2 xs_3 m_4 ys_5 im_6))) false (by kernel_rfl) (nF rfl) ?_)
    refine R.go 1 (R.want (!decide ((moC n_2 xs_3 m_4 ys_5 im_6) = (moC n_2 xs_3 m_4 ys_5 im_6))) false (by kernel_rfl) (nF rfl) ?_)
    refine R.go 1 (R.want (!decide ((moC n_2 xs_3 m_4 ys_5 im_6) = (moC n_2 xs_3 m_4 ys_5 im_6))) false (by kernel_rfl) (nF rfl) ?_)
    refine R.go 1 (R.pick (!decide ((moC n_2 xs_3 m_4 ys_5 im_6) = (moC n_2 xs_3 m_4 ys_5 im_6))) false (by kernel_rfl) (nF rfl) (by kernel_rfl) ?_)
    refine R.go 1 (R.els (!((moR n_2 xs_3 m_4 ys_5 im_6) == (moR n_2 xs_3 m_4 ys_5 im_6))) (by kernel_rfl) (bnF (beq_self_eq_true _)) ?_)
    refine R.go 7 ?_
    by_cases c10 : (moC n_2 xs_3 m_4 ys_5 im_6) = 0
    · refine R.want (!decide ((moC n_2 xs_3 m_4 ys_5 im_6) = 0)) false (by kernel_rfl) (nF c10) ?_
      refine R.go 1 (R.want (!decide ((moC n_2 xs_3 m_4 ys_5 im_6) = 0)) false (by kernel_rfl) (nF c10) ?_)
      refine R.go 1 (R.pick (!decide ((moC n_2 xs_3 m_4 ys_5 im_6) = 0)) false (by kernel_rfl) (nF c10) (by kernel_rfl) ?_)
      refine R.go 1 (R.condM (moR n_2 xs_3 m_4 ys_5 im_6) (by kernel_rfl) (fun c11 => ?_) (fun c11 => ?_))
      · exact R.go 4 (R.retE (.bool true) (by kernel_rfl) (by kernel_rfl) (by rfl))
      · have hz : moC n_2 xs_3 m_4 ys_5 im_6 = 0 := by assumption
        have hM : moR n_2 xs_3 m_4 ys_5 im_6 = true := by assumption
        have hm1 := ml_1 hz
        have hF1 : okFr n_2 xs_3 = true := hm1.1
        have hF2 : okFr m_4 ys_5 = true := hm1.2.1
        have hm3 := hm1.2.2.1
        have hm4 := hm1.2.2.2.1
        have hm5 := hm1.2.2.2.2.1
        have hm6 := hm1.2.2.2.2.2.1
        have hm7 := hm1.2.2.2.2.2.2
        refine R.go 4 (R.callX (CallX.box 1 26 [AI m_4, LI ys_5] (CallX.box 0 26 [AI n_2, LI xs_3] (rollX_c_r2 c 801 26 2 1 [AI n_2, LI xs_3] 26 2 1 [AI m_4, LI ys_5] hc) (by kernel_rfl) (by kernel_rfl) (by kernel_rfl) (by kernel_rfl) (by rintro _ _ ⟨_, rfl, rfl⟩; exact ⟨by kernel_rfl, by kernel_rfl, by kernel_rfl⟩)) (by kernel_rfl) (by kernel_rfl) (by kernel_rfl) (by kernel_rfl) (by rintro _ _ ⟨_, ⟨_, rfl, rfl⟩, rfl⟩; exact ⟨by kernel_rfl, by kernel_rfl, by kernel_rfl⟩)) (by kernel_rfl) (by kernel_rfl) (by kernel_rfl) ?_)
        rintro _ _ ⟨_, ⟨_, ⟨h_12, rfl, rfl⟩, rfl⟩, rfl⟩
        refine R.go 13 (R.loop ((fun | (v, V, q, hq) => (⟨(frm 176 [(0, LB c), (3, .ptr 0 0), (4, .ptr 1 0), (5, LI im_6), (10, .ptr 2 0), (11, .ref 3), (12, AI (v : Int))]), [.box 26 [AI n_2, LI xs_3], .box 26 [AI m_4, LI ys_5], .box 73 [LB c, AI (q : Int), .int .u64 hq], rowA eI 2 1 V]⟩ : St) : Nat × (List Int) × Nat × Int → St)) (fun | (v, V, q, hq) => (v ≤ 6) ∧ (V.length = v) ∧ (VAL m_4 V)) (fun | (v, V, q, hq) => 6 - v) (0, [], 0, h_12) [0, 3, 4, 5, 10, 11, 12] none (by kernel_rfl) (by kernel_rfl) (by kernel_rfl) ⟨(by omega), (by rfl), (by exact fun j hj => absurd hj (by simp))⟩ ?_)
        rintro ⟨v, V, q, hq⟩ ⟨h16_1, h16_2, h16_3⟩ R13 N14
        refine R.go 6 (R.cond ((v : Int) < 6) (by kernel_rfl) (fun c17 => ?_) (fun c17 => ?_))
        · refine R.go 8 (R.cv .u64 m_4 (by kernel_rfl) (u64_id (by omega) (by omega)) (by kernel_rfl) ?_)
          refine R.shl 1 m_4 (by kernel_rfl) (by omega) (by kernel_rfl) ?_
          refine R.callX (CallX.perm [1, 2, 0, 3] [2, 0, 1, 3] (CallX.box 2 26 [AI m_4, LI ys_5] (CallX.box 1 26 [AI n_2, LI xs_3] (belowX_c_r3 c q hq (shl64 1 m_4) 26 2 1 [AI n_2, LI xs_3] 26 2 1 [AI m_4, LI ys_5] 2 1 V.length (rows eI V) hc) (by kernel_rfl) (by kernel_rfl) (by kernel_rfl) (by kernel_rfl) (by rintro _ _ ⟨_, _, _, _, rfl, rfl⟩; exact ⟨by kernel_rfl, by kernel_rfl, by kernel_rfl⟩)) (by kernel_rfl) (by kernel_rfl) (by kernel_rfl) (by kernel_rfl) (by rintro _ _ ⟨_, ⟨_, _, _, _, rfl, rfl⟩, rfl⟩; exact ⟨by kernel_rfl, by kernel_rfl, by kernel_rfl⟩)) (by kernel_rfl) (by kernel_rfl) (by kernel_rfl) (by rintro _ _ ⟨_, ⟨_, ⟨_, _, _, _, rfl, rfl⟩, rfl⟩, rfl⟩; exact Nat.le_of_ble_eq_true (by kernel_rfl))) (by kernel_rfl) (by kernel_rfl) (by kernel_rfl) ?_
          rintro _ _ ⟨_, _, ⟨_, ⟨_, ⟨v_18, p1_19, h1_20, f21, rfl, rfl⟩, rfl⟩, rfl⟩, rfl, rfl⟩
          refine R.go 1 (R.app eI V [v_18] 3 2 1 8 (by kernel_rfl) eI_one (by decide) (by first | omega | (simp <;> omega)) (by kernel_rfl) ?_)
          refine R.go 5 (R.ar ((v : Int) + 1) (by kernel_rfl) (by omega) (by omega) (by kernel_rfl) ?_)
          exact R.go 2 (R.stop R13 (by kernel_rfl) (N14 (v + 1, V ++ [v_18], p1_19, h1_20) [0, 3, 4, 5, 10, 11, 12] (some [0, 1, 2, 3]) _ (by kernel_rfl) (by kernel_rfl) ⟨(by omega), (by (simp <;> omega)), (by exact val_snoc (by assumption) (by omega) (by omega))⟩ (by show (6 - (v + 1)) < (6 - v); omega)))
        · have hv6 : (V).length = 6 := by omega
          have hVA : VAL m_4 V := by assumption
          have hpv : pvH m_4 im_6 V := ml_2 hz hVA
          have hpl : (pulV im_6 V).length = 6 := by unfold pulV; rw [List.length_map]; exact hv6
          refine R.go 7 (R.call false (PV_impl n_2 xs_3 m_4 ys_5 im_6 V hF1 hF2 (by first | omega | (simp <;> omega)) hpv (by first | omega | (simp <;> omega))) (by kernel_rfl) (by simp [AV.closed, closedL, AI, ownA_closed eI_closed]) (by kernel_rfl) ?_)
          refine R.go 12 (R.call false (PV_spec n_2 xs_3 m_4 ys_5 im_6 V hz hpv (by first | omega | (simp <;> omega)) (by first | omega | (simp <;> omega)) (by first | omega | (simp <;> omega)) (by first | omega | (simp <;> omega))) (by kernel_rfl) (by simp [AV.closed, closedL, AI, ownA_closed eI_closed]) (by kernel_rfl) ?_)
          refine R.go 15 (R.call false (likeIn_c (pulV im_6 V) (by first | omega | (simp <;> omega))) (by kernel_rfl) rfl (by kernel_rfl) ?_)
          refine R.go 8 (R.callX0 (drSub_c c hc) (by kernel_rfl) (by rintro _ _ ⟨_, _, rfl, rfl⟩; rfl) (by kernel_rfl) (by kernel_rfl) ?_)
          rintro _ ⟨a_22, f23, rfl, _⟩
          refine R.go 8 (R.call false (TS_impl n_2 xs_3 (pulV im_6 V) a_22 (by first | omega | (simp <;> omega)) (by first | omega | (simp <;> omega)) (by first | omega | (simp <;> omega))) (by kernel_rfl) (by simp [AV.closed, closedL, AI]) (by kernel_rfl) ?_)
          refine R.go 12 (R.call false (TS_impl m_4 ys_5 V a_22 (by first | omega | (simp <;> omega)) (by first | omega | (simp <;> omega)) (by first | omega | (simp <;> omega))) (by kernel_rfl) (by simp [AV.closed, closedL, AI]) (by kernel_rfl) ?_)
          refine R.go 12 (R.call false (TS_spec n_2 xs_3 (pulV im_6 V) a_22 (by first | omega | (simp <;> omega)) (by first | omega | (simp <;> omega)) (by first | omega | (simp <;> omega))) (by kernel_rfl) (by simp [AV.closed, closedL, AI]) (by kernel_rfl) ?_)
          refine R.go 12 (R.call false (TS_spec m_4 ys_5 V a_22 (by first | omega | (simp <;> omega)) (by first | omega | (simp <;> omega)) (by first | omega | (simp <;> omega))) (by kernel_rfl) (by simp [AV.closed, closedL, AI]) (by kernel_rfl) ?_)
          refine R.go 13 (R.want (!decide ((mcode n_2 xs_3 (pulV im_6 V) a_22) = (mcode n_2 xs_3 (pulV im_6 V) a_22))) false (by kernel_rfl) (nF rfl) ?_)
          refine R.go 1 (R.want (!decide ((mcode n_2 xs_3 (pulV im_6 V) a_22) = (mcode n_2 xs_3 (pulV im_6 V) a_22))) false (by kernel_rfl) (nF rfl) ?_)
          refine R.go 1 (R.want (!decide ((mcode n_2 xs_3 (pulV im_6 V) a_22) = (mcode n_2 xs_3 (pulV im_6 V) a_22))) false (by kernel_rfl) (nF rfl) ?_)
          refine R.go 1 (R.pick (!decide ((mcode n_2 xs_3 (pulV im_6 V) a_22) = (mcode n_2 xs_3 (pulV im_6 V) a_22))) false (by kernel_rfl) (nF rfl) (by kernel_rfl) ?_)
          refine R.go 1 (R.want (!decide ((mcode m_4 ys_5 V a_22) = (mcode m_4 ys_5 V a_22))) false (by kernel_rfl) (nF rfl) ?_)
          refine R.go 1 (R.want (!decide ((mcode m_4 ys_5 V a_22) = (mcode m_4 ys_5 V a_22))) false (by kernel_rfl) (nF rfl) ?_)
          refine R.go 1 (R.want (!decide ((mcode m_4 ys_5 V a_22) = (mcode m_4 ys_5 V a_22))) false (by kernel_rfl) (nF rfl) ?_)
          refine R.go 1 (R.pick (!decide ((mcode m_4 ys_5 V a_22) = (mcode m_4 ys_5 V a_22))) false (by kernel_rfl) (nF rfl) (by kernel_rfl) ?_)
          refine R.go 1 (R.want (!decide ((tval n_2 xs_3 (pulV im_6 V) a_22) = (tval n_2 xs_3 (pulV im_6 V) a_22))) false (by kernel_rfl) (nF rfl) ?_)
          refine R.go 1 (R.want (!decide ((tval n_2 xs_3 (pulV im_6 V) a_22) = (tval n_2 xs_3 (pulV im_6 V) a_22))) false (by kernel_rfl) (nF rfl) ?_)
          refine R.go 1 (R.want (!decide ((tval n_2 xs_3 (pulV im_6 V) a_22) = (tval n_2 xs_3 (pulV im_6 V) a_22))) false (by kernel_rfl) (nF rfl) ?_)
          refine R.go 1 (R.pick (!decide ((tval n_2 xs_3 (pulV im_6 V) a_22) = (tval n_2 xs_3 (pulV im_6 V) a_22))) false (by kernel_rfl) (nF rfl) (by kernel_rfl) ?_)
          refine R.go 1 (R.els (!decide ((tval m_4 ys_5 V a_22) = (tval m_4 ys_5 V a_22))) (by kernel_rfl) (nF rfl) ?_)
          have hbt0 := fun (i : Nat) (hi : i < (im_6).length) (hcc : mcode n_2 xs_3 (pulV im_6 V) a_22 = 0) => ml_4 (a := a_22) hz hM hv6 hVA hcc hi
          refine R.go 7 (R.loop (fun (i : Nat) => (⟨(frm 176 [(5, LI im_6), (22, AI (tval n_2 xs_3 (pulV im_6 V) a_22)), (23, AI (mcode n_2 xs_3 (pulV im_6 V) a_22)), (24, AI (tval m_4 ys_5 V a_22)), (26, AI (i : Int))]), []⟩ : St)) (fun (i : Nat) => i ≤ (im_6).length) (fun (i : Nat) => (im_6).length - i) 0 [5, 22, 23, 24, 26] (some []) (by kernel_rfl) (by kernel_rfl) (by kernel_rfl) (by omega) ?_)
          rintro i h26_1 R24 N25
          have hix := fun h : (i : Nat) < (im_6).length => hm7 i h
          refine R.go 8 ?_
          by_cases c27 : (i : Int) < (im_6.length : Int)
          · refine R.want (decide ((i : Int) < (im_6.length : Int))) true (by kernel_rfl) (dT c27) ?_
            refine R.go 1 (R.want (decide ((i : Int) < (im_6.length : Int))) true (by kernel_rfl) (dT c27) ?_)
            refine R.go 1 (R.pick (decide ((i : Int) < (im_6.length : Int))) true (by kernel_rfl) (dT c27) (by kernel_rfl) ?_)
            refine R.go 1 (R.cond ((mcode n_2 xs_3 (pulV im_6 V) a_22) = 0) (by kernel_rfl) (fun c28 => ?_) (fun c28 => ?_))
            · have hi7 := hm7 i (by omega)
              have hbt := hbt0 i (by omega) (by assumption)
              refine R.go 7 (R.call true (bit5_c (tval n_2 xs_3 (pulV im_6 V) a_22) (i : Int) (by omega) (by omega)) (by kernel_rfl) rfl (by kernel_rfl) ?_)
              refine R.go 3 (R.idx eI im_6 0 i (i : Int) (by kernel_rfl) rfl eI_len (by omega) (by kernel_rfl) ?_)
              refine R.go 1 (R.call true (bit5_c (tval m_4 ys_5 V a_22) (im_6.getD i 0) (by omega) (by omega)) (by kernel_rfl) rfl (by kernel_rfl) ?_)
              refine R.go 2 (R.condM (((decide (band (shr64 (tval n_2 xs_3 (pulV im_6 V) a_22) (i : Int)) 1 = 1)) == (decide (band (shr64 (tval m_4 ys_5 V a_22) (im_6.getD i 0)) 1 = 1)))) (by kernel_rfl) (fun c29 => ?_) (fun c29 => ?_))
              · exact R.go 4 (R.retE (.bool false) (by kernel_rfl) (by kernel_rfl) (by first | (first | rfl | exact absurd (hbt.symm.trans (by assumption : _ = false)) (by decide)) | (exfalso; omega)))
              · refine R.go 4 (R.ar ((i : Int) + 1) (by kernel_rfl) (by omega) (by omega) (by kernel_rfl) ?_)
                exact R.go 2 (R.stop R24 (by kernel_rfl) (N25 (i + 1) [5, 22, 23, 24, 26] none _ (by kernel_rfl) (by kernel_rfl) (by omega) (by show ((im_6).length - (i + 1)) < ((im_6).length - i); omega)))
            · exact R.go 5 (R.retE (.bool true) (by kernel_rfl) (by kernel_rfl) (by rfl))
          · refine R.skp (decide ((i : Int) < (im_6.length : Int))) true (by kernel_rfl) (dF c27) (by kernel_rfl) ?_
            refine R.skp (decide ((i : Int) < (im_6.length : Int))) true (by kernel_rfl) (dF c27) (by kernel_rfl) ?_
            refine R.pick (decide ((i : Int) < (im_6.length : Int))) false (by kernel_rfl) (dF c27) (by kernel_rfl) ?_
            exact R.go 7 (R.retE (.bool true) (by kernel_rfl) (by kernel_rfl) (by rfl))
    · refine R.skp (!decide ((moC n_2 xs_3 m_4 ys_5 im_6) = 0)) false (by kernel_rfl) (nT c10) (by kernel_rfl) ?_
      refine R.skp (!decide ((moC n_2 xs_3 m_4 ys_5 im_6) = 0)) false (by kernel_rfl) (nT c10) (by kernel_rfl) ?_
      refine R.pick (!decide ((moC n_2 xs_3 m_4 ys_5 im_6) = 0)) true (by kernel_rfl) (nT c10) (by kernel_rfl) ?_
      exact R.go 6 (R.retE (.bool true) (by kernel_rfl) (by kernel_rfl) (by rfl))

end Go.Proofs.YtgebepfdphmjcaaGreat
