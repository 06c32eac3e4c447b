/- Texts of the proof: C03. -/
import Derived.Test.YtgebepfdphmjcaaPartL

/-! The law FnUnravelled. -/
namespace Go.Proofs.Ytgebepfdphmjcaa
open Go.RowKit Go.Abs

section
variable {n w k : Int} {xs V : List Int} {a : List (Int × Int)}
theorem u_zero : ∀ i, (uL xs k w i).getD 0 0 = w ∧ (uS xs k w i).getD 0 0 = 0
  | 0 => ⟨rfl, rfl⟩
  | i + 1 => by
    have ih := u_zero i
    have hp := uL_pos xs k w i
    have hs := uS_len xs k w i
    rw [uL_s, uS_s, pre_get (by omega), pre_get (by omega)]
    exact ih
/-- Six values below 2^n. -/
def VAL (n : Int) (V : List Int) : Prop := ∀ j : Nat, j < V.length → 0 ≤ V.getD j 0 ∧ V.getD j 0 < shl64 1 n
theorem val_in (h0 : 0 ≤ n) (h8 : n ≤ 8) (hV : VAL n V) {j : Nat} (hj : j < V.length) : InM n.toNat (V.getD j 0) := by
  have := hV j hj
  refine (full_rng (n := n.toNat) (by omega)).2 ((inR_iff _ _ _).2 ?_)
  rw [nn_eq h0]
  omega
theorem val_snoc {x : Int} (hV : VAL n V) (h0 : 0 ≤ x) (h1 : x < shl64 1 n) : VAL n (V ++ [x]) := by
  intro j hj
  rw [List.length_append, List.length_singleton] at hj
  rcases Nat.lt_or_ge j V.length with h | h
  · rw [pre_get h]; exact hV j h
  · rw [post_get h, show j - V.length = 0 by omega]
    exact ⟨h0, h1⟩
theorem val_mo (hR : okFr n xs = true) (hl : V.length = 6) (hV : VAL n V) : okMo n xs V = true := by
  obtain ⟨h0, h8, _, _⟩ := okFr_rel hR
  rw [okMo_3 hR (by omega), anyI_all (p := fun m => !inR m 0 ((shl64 1 n) - 1)) fun j hj => ?_]
  · rfl
  · have := hV j hj
    rw [(inR_iff _ _ _).2 (by omega)]; rfl
theorem ur_1 (hz : unC n xs w k = 0) : okFr n xs = true ∧ okFr ((unA xs w k).length : Int) (unA xs w k) = true ∧ ((unE xs w k).length : Int) = ((unA xs w k).length : Int) ∧ (unE xs w k).length ≤ 8 ∧ (0 ≤ n ∧ n ≤ 8) ∧ (1 ≤ shl64 1 n ∧ shl64 1 n ≤ 4611686018427387904) ∧ (unA xs w k).length ≤ 8 := by
  obtain ⟨hR, hw, hk, N, hN, hi, h8, eA, eL⟩ := unC_ok hz
  have hr := okFr_rel hR
  have hla := uA_len xs k w N
  rw [eA, eL, hla, ← hN]
  exact ⟨hR, u_fr hN hi h8, rfl, h8, ⟨hr.1, hr.2.1⟩, shl_rng n hr.1 (by omega), h8⟩
theorem ur_2 (hz : unC n xs w k = 0) (hV : VAL n V) : pvH n (unE xs w k) V := by
  obtain ⟨hR, hw, hk, N, hN, hi, h8, eA, eL⟩ := unC_ok hz
  have hr := okFr_rel hR
  refine ⟨fun j hj => ?_, fun j hj => val_in hr.1 hr.2.1 hV hj⟩
  rw [eL]
  exact getD_all (P := fun y => 0 ≤ y ∧ y < n) (by omega) (uL_rng hR hw N) j
theorem pul_in {N : Nat} {L : List Int} (hN : N ≤ 61) (h : L.length = N) {j : Nat} (hj : j < V.length) : InM N ((pulV L V).getD j 0) := by
  rw [pulV_get hj]
  exact sqz_ok hN _ (by omega)
theorem bitT {N : Nat} {m : Int} (hN : N ≤ 61) (h : InM N m) {i : Nat} (hi : i ≤ 61) : decide (band (shr64 m (i : Int)) 1 = 1) = tb m i := by
  rw [Bool.eq_iff_iff, decide_eq_true_iff]
  exact has_tb hN h hi
theorem ur_3 (hz : unC n xs w k = 0) (hl : V.length = 6) (hV : VAL n V) (hF : isF a = true) (hd : mdp a ≤ k) : tatC n xs V w a = 0 ∧ tatC ((unA xs w k).length : Int) (unA xs w k) (pulV (unE xs w k) V) 0 a = 0 ∧ (tat ((unA xs w k).length : Int) (unA xs w k) (pulV (unE xs w k) V) 0 a == tat n xs V w a) = true := by
  obtain ⟨hR, hw, hk, N, hN, hi, h8, eA, eL⟩ := unC_ok hz
  have hr := okFr_rel hR
  have hla := uA_len xs k w N
  have hpos := uL_pos xs k w N
  have hS := u_fr hN hi h8
  have hinv := u_inv (k := k) hR hw N hi (by omega)
  have hz0 := u_zero (xs := xs) (k := k) (w := w) N
  have hLr := getD_all (P := fun y => 0 ≤ y ∧ y < n) (l := uL xs k w N) (by omega) (uL_rng hR hw N)
  have hA := isF_okm hF
  have hX : ∀ j : Nat, j < 6 → InM n.toNat (V.getD j 0) := fun j hj => val_in hr.1 hr.2.1 hV (by omega)
  have hY : ∀ j : Nat, j < 6 → InM (N : Int).toNat ((pulV (uL xs k w N) V).getD j 0) := fun j hj => pul_in (N := (N : Int).toNat) (by omega) (by omega) (by omega)
  have hm1 := mcode_good (val_mo hR hl hV) hF
  have hmo2 : okMo (N : Int) (uA xs k w N) (pulV (uL xs k w N) V) = true := by
    refine val_mo hS (by unfold pulV; rw [List.length_map]; exact hl) fun j hj => ?_
    have hj : j < V.length := by unfold pulV at hj; rwa [List.length_map] at hj
    have := (full_rng (n := (N : Int).toNat) (by omega)).1 (hY j (by omega))
    rw [nn_eq (by omega)] at this
    have := (inR_iff _ _ _).1 this
    omega
  have hm2 := mcode_good hmo2 hF
  rw [eA, eL, hla]
  have key := tr_map hS hR hY hX (fun x => ((uL xs k w N).getD x 0).toNat) (fun x => k - (uS xs k w N).getD x 0) (fun x _ => by have := hLr x; omega)
    (fun j hj x hx => by
      rw [pulV_get (by omega), Bool.eq_iff_iff, sqzG_bits (N := n.toNat) (R := 8) (by omega) (by omega) (hX j hj) (fun i _ => by have := hLr i; omega) _ (Nat.le_refl _) (by omega)]
      exact ⟨fun h => h.2, fun h => ⟨by omega, h⟩⟩)
    (fun x hx y hy => by
      obtain ⟨q1, q2, q3, q4⟩ := (hinv x (by omega)).1 y hy
      exact ⟨q4, by omega⟩)
    (fun x hx hD v hv => (hinv x (by omega)).2 (by omega) v hv) hA.1 0 (by omega) (by rw [hz0.2]; omega)
  simp only [hz0.1] at key
  refine ⟨by rw [tatC, if_pos hm1, if_pos ((inR_iff _ _ _).2 (by omega))], by rw [tatC, if_pos hm2, if_pos ((inR_iff _ _ _).2 (by omega))], ?_⟩
  rw [beq_iff_eq, tat, tat, decide_eq_true hm1, decide_eq_true hm2, (inR_iff w 0 (n - 1)).2 (by omega), (inR_iff 0 0 ((N : Int) - 1)).2 (by omega)]
  simp only [Bool.true_and]
  have e1 := bitT (N := (N : Int).toNat) (by omega) (tset_in hS hA.1 hY) (i := 0) (by omega)
  have e2 := bitT (N := n.toNat) (by omega) (tset_in hR hA.1 hX) (i := w.toNat) (by omega)
  rw [show ((w.toNat : Nat) : Int) = w by omega] at e2
  rw [e2]
  exact e1.trans key
end
theorem dp_ok {a : List (Int × Int)} (h : dpC a = 0) : isF a = true ∧ dpM a = mdp a := by
  unfold dpC at h
  split at h
  · rename_i h1
    exact ⟨h1, by rw [dpM, if_pos h1]⟩
  · omega

theorem numX_c_r2 (c : List Int) (p : Nat) (h : Int) (n : Int) (eo1 : Nat) (so1 : Nat) (no1 : Nat) (co1 : List AV) (eo2 : Nat) (so2 : Nat) (no2 : Nat) (co2 : List AV) (hc : BY c) : CallX Try.prog 55 [.ptr 0 0, AI n] [.box 112 [LB c, AI (p : Int), .int .u64 h], .list eo1 so1 no1 co1, .list eo2 so2 no2 co2] (fun (resX : AV) (objX : List AObj) => ∃ v : Int, ∃ p1 : Nat, ∃ h1 : Int, resX = AI v ∧ objX = [.box 112 [LB c, AI (p1 : Int), .int .u64 h1], .list eo1 so1 no1 co1, .list eo2 so2 no2 co2]) := by
  have hcl : c.length ≤ 4096 := hc.1
  have hcb := hc.2
  refine CallX.dropE (CallX.ofF Try.func55 rfl (by kernel_rfl) ?_)
  intro usC frC hfC
  refine R.go 8 (R.callX (CallX.inF 3 usC frC (nextX_c_r2 c p h 40 eo1 so1 no1 co1 eo2 so2 no2 co2 hc) (Nat.le_of_ble_eq_true (by kernel_rfl)) (by kernel_rfl) (by kernel_rfl) (by rintro _ _ ⟨_, _, _, _, rfl, rfl⟩; exact Nat.le_of_ble_eq_true (by kernel_rfl))) (by kernel_rfl) (by kernel_rfl) (by kernel_rfl) ?_)
  rintro _ _ ⟨_, _, ⟨v_1, p1_2, h1_3, f4, rfl, rfl⟩, rfl, rfl⟩
  refine R.go 2 (R.cond (v_1 = 0) (by kernel_rfl) (fun c5 => ?_) (fun c5 => ?_))
  · refine R.go 4 (R.lit (s := 1) (n := 4) (cs := rows eI [(-1), n, 9223372036854775807, (-9223372036854775808)]) (by kernel_rfl) (by kernel_rfl) ?_)
    refine R.callX (CallX.inF 3 usC frC (pickX_c_r2 c p1_2 h1_3 [(-1), n, 9223372036854775807, (-9223372036854775808)] eo1 so1 no1 co1 eo2 so2 no2 co2 hc (by simp)) (Nat.le_of_ble_eq_true (by kernel_rfl)) (by kernel_rfl) (by kernel_rfl) (by rintro _ _ ⟨_, _, _, rfl, rfl⟩; exact Nat.le_of_ble_eq_true (by kernel_rfl))) (by kernel_rfl) (by kernel_rfl) (by kernel_rfl) ?_
    rintro _ _ ⟨_, _, ⟨v_6, p1_7, h1_8, rfl, rfl⟩, rfl, rfl⟩
    exact R.go 2 (R.retX (res := AI v_6) (hp' := [.box 112 [LB c, AI (p1_7 : Int), .int .u64 h1_8], .list eo1 so1 no1 co1, .list eo2 so2 no2 co2, .dead]) (by kernel_rfl) (by kernel_rfl) (by kernel_rfl) (by kernel_rfl) ⟨[0, 1, 2], by kernel_rfl, by decide, v_6, p1_7, h1_8, by kernel_rfl, by kernel_rfl⟩)
  · refine R.go 5 (R.callX (CallX.inF 3 usC frC (nextX_c_r2 c p1_2 h1_3 n eo1 so1 no1 co1 eo2 so2 no2 co2 hc) (Nat.le_of_ble_eq_true (by kernel_rfl)) (by kernel_rfl) (by kernel_rfl) (by rintro _ _ ⟨_, _, _, _, rfl, rfl⟩; exact Nat.le_of_ble_eq_true (by kernel_rfl))) (by kernel_rfl) (by kernel_rfl) (by kernel_rfl) ?_)
    rintro _ _ ⟨_, _, ⟨v_9, p1_10, h1_11, f12, rfl, rfl⟩, rfl, rfl⟩
    exact R.go 2 (R.retX (res := AI v_9) (hp' := [.box 112 [LB c, AI (p1_10 : Int), .int .u64 h1_11], .list eo1 so1 no1 co1, .list eo2 so2 no2 co2, .dead]) (by kernel_rfl) (by kernel_rfl) (by kernel_rfl) (by kernel_rfl) ⟨[0, 1, 2], by kernel_rfl, by decide, v_9, p1_10, h1_11, by kernel_rfl, by kernel_rfl⟩)

theorem drUn_c (c : List Int) (hc : BY c) : CallX Try.prog 16 [LB c] [] (fun (resX : AV) (objX : List AObj) => ∃ n : Int, ∃ xs : List Int, ∃ w : Int, ∃ k : Int, (xs.length ≤ 1000) ∧ resX = .tup [.agg [AI n, LI xs], AI w, AI k] ∧ objX = []) := by
  have hcl : c.length ≤ 4096 := hc.1
  have hcb := hc.2
  refine CallX.dropE (CallX.ofF Try.func16 rfl (by kernel_rfl) ?_)
  intro usC frC hfC
  refine R.go 9 (R.enter (avs := [LB c]) Try.func42 rfl (by kernel_rfl) (by kernel_rfl) (by kernel_rfl) ?_)
  intro us1
  refine R.go 9 (R.cv .u64 (c.length : Int) (by kernel_rfl) (u64_id (by omega) (by omega)) (by kernel_rfl) ?_)
  refine R.go 11 (R.loop ((fun | (i, hh) => (⟨(frm 38 [(0, LB c), (3, .ptr 3 0), (4, AI (i : Int))]), [.frame usC frC, .box 26 [AI 0, .nil], .frame us1 (frm 19 [(0, LB c), (2, .ptr 1 0), (3, AI 0), (4, AI 0), (7, LB c)]), .box 112 [LB c, AI 0, .int .u64 hh]]⟩ : St) : Nat × Int → St)) (fun | (i, hh) => i ≤ c.length) (fun | (i, hh) => c.length - i) (0, (IntKind.u64.wrap (7129 + (c.length : Int)))) [0, 3, 4] none (by kernel_rfl) (by kernel_rfl) (by kernel_rfl) (by omega) ?_)
  rintro ⟨i, hh⟩ h5_1 R2 N3
  refine R.go 8 ?_
  by_cases c6 : (i : Int) < (c.length : Int)
  · refine R.want (decide ((i : Int) < (c.length : Int))) true (by kernel_rfl) (dT c6) ?_
    refine R.go 1 (R.want (decide ((i : Int) < (c.length : Int))) true (by kernel_rfl) (dT c6) ?_)
    refine R.go 1 (R.pick (decide ((i : Int) < (c.length : Int))) true (by kernel_rfl) (dT c6) (by kernel_rfl) ?_)
    refine R.go 1 (R.cond ((i : Int) < 4096) (by kernel_rfl) (fun c7 => ?_) (fun c7 => ?_))
    · have hbi := hcb i (by omega)
      refine R.go 12 (R.idx eB c 0 i (i : Int) (by kernel_rfl) rfl eB_len (by omega) (by kernel_rfl) ?_)
      refine R.go 1 (R.cv .u64 (c.getD i 0) (by kernel_rfl) (u64_id (by omega) (by omega)) (by kernel_rfl) ?_)
      refine R.go 9 (R.ar ((i : Int) + 1) (by kernel_rfl) (by omega) (by omega) (by kernel_rfl) ?_)
      exact R.go 2 (R.stop R2 (by kernel_rfl) (N3 (i + 1, IntKind.u64.wrap ((IntKind.u64.wrap ((IntKind.u64.wrap (hh * 1099511628211)) + (c.getD i 0))) + 11)) [0, 3, 4] none _ (by kernel_rfl) (by kernel_rfl) (by omega) (by show (c.length - (i + 1)) < (c.length - i); omega)))
    · refine R.go 6 (R.back (.ptr 3 0) (frm 19 [(0, LB c), (2, .ptr 1 0), (3, AI 0), (4, AI 0), (7, LB c)]) (by kernel_rfl) (by kernel_rfl) (by kernel_rfl) ?_)
      refine R.go 5 (R.deadF 2 (by kernel_rfl) (by kernel_rfl) ?_)
      refine R.callX (CallX.inF 0 usC frC (CallX.inF 1 [] [] (CallX.perm [1, 0] [1, 0] (CallX.box 1 26 [AI 0, .nil] (frameX_c_r1 c 0 hh 5 26 2 1 [AI 0, .nil] hc (by omega)) (by kernel_rfl) (by kernel_rfl) (by kernel_rfl) (by kernel_rfl) (by rintro _ _ ⟨_, _, _, _, _, rfl, rfl⟩; exact ⟨by kernel_rfl, by kernel_rfl, by kernel_rfl⟩)) (by kernel_rfl) (by kernel_rfl) (by kernel_rfl) (by rintro _ _ ⟨_, ⟨_, _, _, _, _, rfl, rfl⟩, rfl⟩; exact Nat.le_of_ble_eq_true (by kernel_rfl))) (Nat.le_of_ble_eq_true (by kernel_rfl)) (by kernel_rfl) (by kernel_rfl) (by rintro _ _ ⟨_, _, ⟨_, ⟨_, _, _, _, _, rfl, rfl⟩, rfl⟩, rfl, rfl⟩; exact Nat.le_of_ble_eq_true (by kernel_rfl))) (Nat.le_of_ble_eq_true (by kernel_rfl)) (by kernel_rfl) (by kernel_rfl) (by rintro _ _ ⟨_, _, ⟨_, _, ⟨_, ⟨_, _, _, _, _, rfl, rfl⟩, rfl⟩, rfl, rfl⟩, rfl, rfl⟩; exact Nat.le_of_ble_eq_true (by kernel_rfl))) (by kernel_rfl) (by kernel_rfl) (by kernel_rfl) ?_
      rintro _ _ ⟨_, _, ⟨_, _, ⟨_, _, ⟨_, ⟨n_8, xs_9, p1_10, h1_11, f12, rfl, rfl⟩, rfl⟩, rfl, rfl⟩, rfl, rfl⟩, rfl, rfl⟩
      refine R.go 4 (R.any (by decide +kernel) (by kernel_rfl) ?_)
      refine R.anyF 1 (by kernel_rfl) (np_retX _ _ _ _ _ _) ?_
      refine R.anyF 5 (by kernel_rfl) (np_retX _ _ _ _ _ _) ?_
      refine R.anyA 2 (.ptr 4 0) (by kernel_rfl) (np_retX _ _ _ _ _ _) ?_
      refine R.any3 0 3 6 (by kernel_rfl) (by kernel_rfl) ?_ ?_ ?_
      · refine R.go 2 (R.any2 3 6 (by kernel_rfl) (by kernel_rfl) ?_ ?_)
        · refine R.go 2 (R.any2 4 6 (by kernel_rfl) (by kernel_rfl) ?_ ?_)
          · refine R.callX (CallX.inF 0 usC frC (CallX.inF 1 [] [] (CallX.perm [1, 0, 2] [1, 0, 2] (CallX.box 2 26 [AI n_8, LI xs_9] (CallX.box 1 26 [AI 0, .nil] (numX_c_r2 c p1_10 h1_11 n_8 26 2 1 [AI 0, .nil] 26 2 1 [AI n_8, LI xs_9] hc) (by kernel_rfl) (by kernel_rfl) (by kernel_rfl) (by kernel_rfl) (by rintro _ _ ⟨_, _, _, rfl, rfl⟩; exact ⟨by kernel_rfl, by kernel_rfl, by kernel_rfl⟩)) (by kernel_rfl) (by kernel_rfl) (by kernel_rfl) (by kernel_rfl) (by rintro _ _ ⟨_, ⟨_, _, _, rfl, rfl⟩, rfl⟩; exact ⟨by kernel_rfl, by kernel_rfl, by kernel_rfl⟩)) (by kernel_rfl) (by kernel_rfl) (by kernel_rfl) (by rintro _ _ ⟨_, ⟨_, ⟨_, _, _, rfl, rfl⟩, rfl⟩, rfl⟩; exact Nat.le_of_ble_eq_true (by kernel_rfl))) (Nat.le_of_ble_eq_true (by kernel_rfl)) (by kernel_rfl) (by kernel_rfl) (by rintro _ _ ⟨_, _, ⟨_, ⟨_, ⟨_, _, _, rfl, rfl⟩, rfl⟩, rfl⟩, rfl, rfl⟩; exact Nat.le_of_ble_eq_true (by kernel_rfl))) (Nat.le_of_ble_eq_true (by kernel_rfl)) (by kernel_rfl) (by kernel_rfl) (by rintro _ _ ⟨_, _, ⟨_, _, ⟨_, ⟨_, ⟨_, _, _, rfl, rfl⟩, rfl⟩, rfl⟩, rfl, rfl⟩, rfl, rfl⟩; exact Nat.le_of_ble_eq_true (by kernel_rfl))) (by kernel_rfl) (by kernel_rfl) (by kernel_rfl) ?_
            rintro _ _ ⟨_, _, ⟨_, _, ⟨_, _, ⟨_, ⟨_, ⟨v_13, p1_14, h1_15, rfl, rfl⟩, rfl⟩, rfl⟩, rfl, rfl⟩, rfl, rfl⟩, rfl, rfl⟩
            refine R.go 1 (R.any1 6 (by kernel_rfl) (by kernel_rfl) ?_)
            refine R.lit (s := 1) (n := 6) (cs := rows eI [0, 1, 2, 3, 8, 9]) (by kernel_rfl) (by kernel_rfl) ?_
            refine R.go 1 (R.any1 7 (by kernel_rfl) (by kernel_rfl) ?_)
            refine R.callX (CallX.inF 0 usC frC (CallX.inF 1 [] [] (CallX.perm [1, 0, 2] [1, 0, 2] (CallX.box 2 26 [AI n_8, LI xs_9] (CallX.box 1 26 [AI 0, .nil] (pickX_c_r2 c p1_14 h1_15 [0, 1, 2, 3, 8, 9] 26 2 1 [AI 0, .nil] 26 2 1 [AI n_8, LI xs_9] hc (by simp)) (by kernel_rfl) (by kernel_rfl) (by kernel_rfl) (by kernel_rfl) (by rintro _ _ ⟨_, _, _, rfl, rfl⟩; exact ⟨by kernel_rfl, by kernel_rfl, by kernel_rfl⟩)) (by kernel_rfl) (by kernel_rfl) (by kernel_rfl) (by kernel_rfl) (by rintro _ _ ⟨_, ⟨_, _, _, rfl, rfl⟩, rfl⟩; exact ⟨by kernel_rfl, by kernel_rfl, by kernel_rfl⟩)) (by kernel_rfl) (by kernel_rfl) (by kernel_rfl) (by rintro _ _ ⟨_, ⟨_, ⟨_, _, _, rfl, rfl⟩, rfl⟩, rfl⟩; exact Nat.le_of_ble_eq_true (by kernel_rfl))) (Nat.le_of_ble_eq_true (by kernel_rfl)) (by kernel_rfl) (by kernel_rfl) (by rintro _ _ ⟨_, _, ⟨_, ⟨_, ⟨_, _, _, rfl, rfl⟩, rfl⟩, rfl⟩, rfl, rfl⟩; exact Nat.le_of_ble_eq_true (by kernel_rfl))) (Nat.le_of_ble_eq_true (by kernel_rfl)) (by kernel_rfl) (by kernel_rfl) (by rintro _ _ ⟨_, _, ⟨_, _, ⟨_, ⟨_, ⟨_, _, _, rfl, rfl⟩, rfl⟩, rfl⟩, rfl, rfl⟩, rfl, rfl⟩; exact Nat.le_of_ble_eq_true (by kernel_rfl))) (by kernel_rfl) (by kernel_rfl) (by kernel_rfl) ?_
            rintro _ _ ⟨_, _, ⟨_, _, ⟨_, _, ⟨_, ⟨_, ⟨v_16, p1_17, h1_18, rfl, rfl⟩, rfl⟩, rfl⟩, rfl, rfl⟩, rfl, rfl⟩, rfl, rfl⟩
            refine R.go 1 (R.any1 8 (by kernel_rfl) (by kernel_rfl) ?_)
            refine R.go 2 (R.any1 9 (by kernel_rfl) (by kernel_rfl) ?_)
            refine R.go 2 (R.any1 10 (by kernel_rfl) (by kernel_rfl) ?_)
            refine R.go 2 (R.any0 (by kernel_rfl) ?_)
            exact R.retX (res := .tup [.agg [AI n_8, LI xs_9], AI v_13, AI v_16]) (hp' := [.dead, .box 26 [AI n_8, LI xs_9], .frame [] [], .box 112 [LB c, AI (p1_17 : Int), .int .u64 h1_18], .box 26 [AI n_8, LI xs_9]]) (by kernel_rfl) (by kernel_rfl) (by kernel_rfl) (by kernel_rfl) ⟨[], by kernel_rfl, by decide, n_8, xs_9, v_13, v_16, by first | assumption | omega, by kernel_rfl, by kernel_rfl⟩
          · refine R.lit (s := 1) (n := 6) (cs := rows eI [0, 1, 2, 3, 8, 9]) (by kernel_rfl) (by kernel_rfl) ?_
            refine R.go 1 (R.any1 4 (by kernel_rfl) (by kernel_rfl) ?_)
            refine R.callX (CallX.inF 0 usC frC (CallX.inF 1 [] [] (CallX.perm [1, 0, 2] [1, 0, 2] (CallX.box 2 26 [AI n_8, LI xs_9] (CallX.box 1 26 [AI 0, .nil] (numX_c_r2 c p1_10 h1_11 n_8 26 2 1 [AI 0, .nil] 26 2 1 [AI n_8, LI xs_9] hc) (by kernel_rfl) (by kernel_rfl) (by kernel_rfl) (by kernel_rfl) (by rintro _ _ ⟨_, _, _, rfl, rfl⟩; exact ⟨by kernel_rfl, by kernel_rfl, by kernel_rfl⟩)) (by kernel_rfl) (by kernel_rfl) (by kernel_rfl) (by kernel_rfl) (by rintro _ _ ⟨_, ⟨_, _, _, rfl, rfl⟩, rfl⟩; exact ⟨by kernel_rfl, by kernel_rfl, by kernel_rfl⟩)) (by kernel_rfl) (by kernel_rfl) (by kernel_rfl) (by rintro _ _ ⟨_, ⟨_, ⟨_, _, _, rfl, rfl⟩, rfl⟩, rfl⟩; exact Nat.le_of_ble_eq_true (by kernel_rfl))) (Nat.le_of_ble_eq_true (by kernel_rfl)) (by kernel_rfl) (by kernel_rfl) (by rintro _ _ ⟨_, _, ⟨_, ⟨_, ⟨_, _, _, rfl, rfl⟩, rfl⟩, rfl⟩, rfl, rfl⟩; exact Nat.le_of_ble_eq_true (by kernel_rfl))) (Nat.le_of_ble_eq_true (by kernel_rfl)) (by kernel_rfl) (by kernel_rfl) (by rintro _ _ ⟨_, _, ⟨_, _, ⟨_, ⟨_, ⟨_, _, _, rfl, rfl⟩, rfl⟩, rfl⟩, rfl, rfl⟩, rfl, rfl⟩; exact Nat.le_of_ble_eq_true (by kernel_rfl))) (by kernel_rfl) (by kernel_rfl) (by kernel_rfl) ?_
            rintro _ _ ⟨_, _, ⟨_, _, ⟨_, _, ⟨_, ⟨_, ⟨v_19, p1_20, h1_21, rfl, rfl⟩, rfl⟩, rfl⟩, rfl, rfl⟩, rfl, rfl⟩, rfl, rfl⟩
            refine R.go 1 (R.any1 7 (by kernel_rfl) (by kernel_rfl) ?_)
            refine R.callX (CallX.inF 0 usC frC (CallX.inF 1 [] [] (CallX.perm [1, 0, 2] [1, 0, 2] (CallX.box 2 26 [AI n_8, LI xs_9] (CallX.box 1 26 [AI 0, .nil] (pickX_c_r2 c p1_20 h1_21 [0, 1, 2, 3, 8, 9] 26 2 1 [AI 0, .nil] 26 2 1 [AI n_8, LI xs_9] hc (by simp)) (by kernel_rfl) (by kernel_rfl) (by kernel_rfl) (by kernel_rfl) (by rintro _ _ ⟨_, _, _, rfl, rfl⟩; exact ⟨by kernel_rfl, by kernel_rfl, by kernel_rfl⟩)) (by kernel_rfl) (by kernel_rfl) (by kernel_rfl) (by kernel_rfl) (by rintro _ _ ⟨_, ⟨_, _, _, rfl, rfl⟩, rfl⟩; exact ⟨by kernel_rfl, by kernel_rfl, by kernel_rfl⟩)) (by kernel_rfl) (by kernel_rfl) (by kernel_rfl) (by rintro _ _ ⟨_, ⟨_, ⟨_, _, _, rfl, rfl⟩, rfl⟩, rfl⟩; exact Nat.le_of_ble_eq_true (by kernel_rfl))) (Nat.le_of_ble_eq_true (by kernel_rfl)) (by kernel_rfl) (by kernel_rfl) (by rintro _ _ ⟨_, _, ⟨_, ⟨_, ⟨_, _, _, rfl, rfl⟩, rfl⟩, rfl⟩, rfl, rfl⟩; exact Nat.le_of_ble_eq_true (by kernel_rfl))) (Nat.le_of_ble_eq_true (by kernel_rfl)) (by kernel_rfl) (by kernel_rfl) (by rintro _ _ ⟨_, _, ⟨_, _, ⟨_, ⟨_, ⟨_, _, _, rfl, rfl⟩, rfl⟩, rfl⟩, rfl, rfl⟩, rfl, rfl⟩; exact Nat.le_of_ble_eq_true (by kernel_rfl))) (by kernel_rfl) (by kernel_rfl) (by kernel_rfl) ?_
            rintro _ _ ⟨_, _, ⟨_, _, ⟨_, _, ⟨_, ⟨_, ⟨v_22, p1_23, h1_24, rfl, rfl⟩, rfl⟩, rfl⟩, rfl, rfl⟩, rfl, rfl⟩, rfl, rfl⟩
            refine R.go 1 (R.any1 8 (by kernel_rfl) (by kernel_rfl) ?_)
            refine R.go 2 (R.any1 9 (by kernel_rfl) (by kernel_rfl) ?_)
            refine R.go 2 (R.any1 10 (by kernel_rfl) (by kernel_rfl) ?_)
            refine R.go 2 (R.any0 (by kernel_rfl) ?_)
            exact R.retX (res := .tup [.agg [AI n_8, LI xs_9], AI v_19, AI v_22]) (hp' := [.dead, .box 26 [AI n_8, LI xs_9], .frame [] [], .box 112 [LB c, AI (p1_23 : Int), .int .u64 h1_24], .box 26 [AI n_8, LI xs_9]]) (by kernel_rfl) (by kernel_rfl) (by kernel_rfl) (by kernel_rfl) ⟨[], by kernel_rfl, by decide, n_8, xs_9, v_19, v_22, by first | assumption | omega, by kernel_rfl, by kernel_rfl⟩
        · refine R.lit (s := 1) (n := 6) (cs := rows eI [0, 1, 2, 3, 8, 9]) (by kernel_rfl) (by kernel_rfl) ?_
          refine R.go 1 (R.any1 3 (by kernel_rfl) (by kernel_rfl) ?_)
          refine R.go 2 (R.any1 4 (by kernel_rfl) (by kernel_rfl) ?_)
          refine R.callX (CallX.inF 0 usC frC (CallX.inF 1 [] [] (CallX.perm [1, 0, 2] [1, 0, 2] (CallX.box 2 26 [AI n_8, LI xs_9] (CallX.box 1 26 [AI 0, .nil] (numX_c_r2 c p1_10 h1_11 n_8 26 2 1 [AI 0, .nil] 26 2 1 [AI n_8, LI xs_9] hc) (by kernel_rfl) (by kernel_rfl) (by kernel_rfl) (by kernel_rfl) (by rintro _ _ ⟨_, _, _, rfl, rfl⟩; exact ⟨by kernel_rfl, by kernel_rfl, by kernel_rfl⟩)) (by kernel_rfl) (by kernel_rfl) (by kernel_rfl) (by kernel_rfl) (by rintro _ _ ⟨_, ⟨_, _, _, rfl, rfl⟩, rfl⟩; exact ⟨by kernel_rfl, by kernel_rfl, by kernel_rfl⟩)) (by kernel_rfl) (by kernel_rfl) (by kernel_rfl) (by rintro _ _ ⟨_, ⟨_, ⟨_, _, _, rfl, rfl⟩, rfl⟩, rfl⟩; exact Nat.le_of_ble_eq_true (by kernel_rfl))) (Nat.le_of_ble_eq_true (by kernel_rfl)) (by kernel_rfl) (by kernel_rfl) (by rintro _ _ ⟨_, _, ⟨_, ⟨_, ⟨_, _, _, rfl, rfl⟩, rfl⟩, rfl⟩, rfl, rfl⟩; exact Nat.le_of_ble_eq_true (by kernel_rfl))) (Nat.le_of_ble_eq_true (by kernel_rfl)) (by kernel_rfl) (by kernel_rfl) (by rintro _ _ ⟨_, _, ⟨_, _, ⟨_, ⟨_, ⟨_, _, _, rfl, rfl⟩, rfl⟩, rfl⟩, rfl, rfl⟩, rfl, rfl⟩; exact Nat.le_of_ble_eq_true (by kernel_rfl))) (by kernel_rfl) (by kernel_rfl) (by kernel_rfl) ?_
          rintro _ _ ⟨_, _, ⟨_, _, ⟨_, _, ⟨_, ⟨_, ⟨v_25, p1_26, h1_27, rfl, rfl⟩, rfl⟩, rfl⟩, rfl, rfl⟩, rfl, rfl⟩, rfl, rfl⟩
          refine R.go 1 (R.any1 7 (by kernel_rfl) (by kernel_rfl) ?_)
          refine R.callX (CallX.inF 0 usC frC (CallX.inF 1 [] [] (CallX.perm [1, 0, 2] [1, 0, 2] (CallX.box 2 26 [AI n_8, LI xs_9] (CallX.box 1 26 [AI 0, .nil] (pickX_c_r2 c p1_26 h1_27 [0, 1, 2, 3, 8, 9] 26 2 1 [AI 0, .nil] 26 2 1 [AI n_8, LI xs_9] hc (by simp)) (by kernel_rfl) (by kernel_rfl) (by kernel_rfl) (by kernel_rfl) (by rintro _ _ ⟨_, _, _, rfl, rfl⟩; exact ⟨by kernel_rfl, by kernel_rfl, by kernel_rfl⟩)) (by kernel_rfl) (by kernel_rfl) (by kernel_rfl) (by kernel_rfl) (by rintro _ _ ⟨_, ⟨_, _, _, rfl, rfl⟩, rfl⟩; exact ⟨by kernel_rfl, by kernel_rfl, by kernel_rfl⟩)) (by kernel_rfl) (by kernel_rfl) (by kernel_rfl) (by rintro _ _ ⟨_, ⟨_, ⟨_, _, _, rfl, rfl⟩, rfl⟩, rfl⟩; exact Nat.le_of_ble_eq_true (by kernel_rfl))) (Nat.le_of_ble_eq_true (by kernel_rfl)) (by kernel_rfl) (by kernel_rfl) (by rintro _ _ ⟨_, _, ⟨_, ⟨_, ⟨_, _, _, rfl, rfl⟩, rfl⟩, rfl⟩, rfl, rfl⟩; exact Nat.le_of_ble_eq_true (by kernel_rfl))) (Nat.le_of_ble_eq_true (by kernel_rfl)) (by kernel_rfl) (by kernel_rfl) (by rintro _ _ ⟨_, _, ⟨_, _, ⟨_, ⟨_, ⟨_, _, _, rfl, rfl⟩, rfl⟩, rfl⟩, rfl, rfl⟩, rfl, rfl⟩; exact Nat.le_of_ble_eq_true (by kernel_rfl))) (by kernel_rfl) (by kernel_rfl) (by kernel_rfl) ?_
          rintro _ _ ⟨_, _, ⟨_, _, ⟨_, _, ⟨_, ⟨_, ⟨v_28, p1_29, h1_30, rfl, rfl⟩, rfl⟩, rfl⟩, rfl, rfl⟩, rfl, rfl⟩, rfl, rfl⟩
          refine R.go 1 (R.any1 8 (by kernel_rfl) (by kernel_rfl) ?_)
          refine R.go 2 (R.any1 9 (by kernel_rfl) (by kernel_rfl) ?_)
          refine R.go 2 (R.any1 10 (by kernel_rfl) (by kernel_rfl) ?_)
          refine R.go 2 (R.any0 (by kernel_rfl) ?_)
          exact R.retX (res := .tup [.agg [AI n_8, LI xs_9], AI v_25, AI v_28]) (hp' := [.dead, .box 26 [AI n_8, LI xs_9], .frame [] [], .box 112 [LB c, AI (p1_29 : Int), .int .u64 h1_30], .box 26 [AI n_8, LI xs_9]]) (by kernel_rfl) (by kernel_rfl) (by kernel_rfl) (by kernel_rfl) ⟨[], by kernel_rfl, by decide, n_8, xs_9, v_25, v_28, by first | assumption | omega, by kernel_rfl, by kernel_rfl⟩
      · refine R.go 2 (R.any3 0 4 6 (by kernel_rfl) (by kernel_rfl) ?_ ?_ ?_)
        · refine R.go 2 (R.any2 4 6 (by kernel_rfl) (by kernel_rfl) ?_ ?_)
          · refine R.callX (CallX.inF 0 usC frC (CallX.inF 1 [] [] (CallX.perm [1, 0, 2] [1, 0, 2] (CallX.box 2 26 [AI n_8, LI xs_9] (CallX.box 1 26 [AI 0, .nil] (numX_c_r2 c p1_10 h1_11 n_8 26 2 1 [AI 0, .nil] 26 2 1 [AI n_8, LI xs_9] hc) (by kernel_rfl) (by kernel_rfl) (by kernel_rfl) (by kernel_rfl) (by rintro _ _ ⟨_, _, _, rfl, rfl⟩; exact ⟨by kernel_rfl, by kernel_rfl, by kernel_rfl⟩)) (by kernel_rfl) (by kernel_rfl) (by kernel_rfl) (by kernel_rfl) (by rintro _ _ ⟨_, ⟨_, _, _, rfl, rfl⟩, rfl⟩; exact ⟨by kernel_rfl, by kernel_rfl, by kernel_rfl⟩)) (by kernel_rfl) (by kernel_rfl) (by kernel_rfl) (by rintro _ _ ⟨_, ⟨_, ⟨_, _, _, rfl, rfl⟩, rfl⟩, rfl⟩; exact Nat.le_of_ble_eq_true (by kernel_rfl))) (Nat.le_of_ble_eq_true (by kernel_rfl)) (by kernel_rfl) (by kernel_rfl) (by rintro _ _ ⟨_, _, ⟨_, ⟨_, ⟨_, _, _, rfl, rfl⟩, rfl⟩, rfl⟩, rfl, rfl⟩; exact Nat.le_of_ble_eq_true (by kernel_rfl))) (Nat.le_of_ble_eq_true (by kernel_rfl)) (by kernel_rfl) (by kernel_rfl) (by rintro _ _ ⟨_, _, ⟨_, _, ⟨_, ⟨_, ⟨_, _, _, rfl, rfl⟩, rfl⟩, rfl⟩, rfl, rfl⟩, rfl, rfl⟩; exact Nat.le_of_ble_eq_true (by kernel_rfl))) (by kernel_rfl) (by kernel_rfl) (by kernel_rfl) ?_
            rintro _ _ ⟨_, _, ⟨_, _, ⟨_, _, ⟨_, ⟨_, ⟨v_31, p1_32, h1_33, rfl, rfl⟩, rfl⟩, rfl⟩, rfl, rfl⟩, rfl, rfl⟩, rfl, rfl⟩
            refine R.go 1 (R.any1 6 (by kernel_rfl) (by kernel_rfl) ?_)
            refine R.lit (s := 1) (n := 6) (cs := rows eI [0, 1, 2, 3, 8, 9]) (by kernel_rfl) (by kernel_rfl) ?_
            refine R.go 1 (R.any1 7 (by kernel_rfl) (by kernel_rfl) ?_)
            refine R.callX (CallX.inF 0 usC frC (CallX.inF 1 [] [] (CallX.perm [1, 0, 2] [1, 0, 2] (CallX.box 2 26 [AI n_8, LI xs_9] (CallX.box 1 26 [AI 0, .nil] (pickX_c_r2 c p1_32 h1_33 [0, 1, 2, 3, 8, 9] 26 2 1 [AI 0, .nil] 26 2 1 [AI n_8, LI xs_9] hc (by simp)) (by kernel_rfl) (by kernel_rfl) (by kernel_rfl) (by kernel_rfl) (by rintro _ _ ⟨_, _, _, rfl, rfl⟩; exact ⟨by kernel_rfl, by kernel_rfl, by kernel_rfl⟩)) (by kernel_rfl) (by kernel_rfl) (by kernel_rfl) (by kernel_rfl) (by rintro _ _ ⟨_, ⟨_, _, _, rfl, rfl⟩, rfl⟩; exact ⟨by kernel_rfl, by kernel_rfl, by kernel_rfl⟩)) (by kernel_rfl) (by kernel_rfl) (by kernel_rfl) (by rintro _ _ ⟨_, ⟨_, ⟨_, _, _, rfl, rfl⟩, rfl⟩, rfl⟩; exact Nat.le_of_ble_eq_true (by kernel_rfl))) (Nat.le_of_ble_eq_true (by kernel_rfl)) (by kernel_rfl) (by kernel_rfl) (by rintro _ _ ⟨_, _, ⟨_, ⟨_, ⟨_, _, _, rfl, rfl⟩, rfl⟩, rfl⟩, rfl, rfl⟩; exact Nat.le_of_ble_eq_true (by kernel_rfl))) (Nat.le_of_ble_eq_true (by kernel_rfl)) (by kernel_rfl) (by kernel_rfl) (by rintro _ _ ⟨_, _, ⟨_, _, ⟨_, ⟨_, ⟨_, _, _, rfl, rfl⟩, rfl⟩, rfl⟩, rfl, rfl⟩, rfl, rfl⟩; exact Nat.le_of_ble_eq_true (by kernel_rfl))) (by kernel_rfl) (by kernel_rfl) (by kernel_rfl) ?_
            rintro _ _ ⟨_, _, ⟨_, _, ⟨_, _, ⟨_, ⟨_, ⟨v_34, p1_35, h1_36, rfl, rfl⟩, rfl⟩, rfl⟩, rfl, rfl⟩, rfl, rfl⟩, rfl, rfl⟩
            refine R.go 1 (R.any1 8 (by kernel_rfl) (by kernel_rfl) ?_)
            refine R.go 2 (R.any1 9 (by kernel_rfl) (by kernel_rfl) ?_)
            refine R.go 2 (R.any1 10 (by kernel_rfl) (by kernel_rfl) ?_)
            refine R.go 2 (R.any0 (by kernel_rfl) ?_)
            exact R.retX (res := .tup [.agg [AI n_8, LI xs_9], AI v_31, AI v_34]) (hp' := [.dead, .box 26 [AI n_8, LI xs_9], .frame [] [], .box 112 [LB c, AI (p1_35 : Int), .int .u64 h1_36], .box 26 [AI n_8, LI xs_9]]) (by kernel_rfl) (by kernel_rfl) (by kernel_rfl) (by kernel_rfl) ⟨[], by kernel_rfl, by decide, n_8, xs_9, v_31, v_34, by first | assumption | omega, by kernel_rfl, by kernel_rfl⟩
          · refine R.lit (s := 1) (n := 6) (cs := rows eI [0, 1, 2, 3, 8, 9]) (by kernel_rfl) (by kernel_rfl) ?_
            refine R.go 1 (R.any1 4 (by kernel_rfl) (by kernel_rfl) ?_)
            refine R.callX (CallX.inF 0 usC frC (CallX.inF 1 [] [] (CallX.perm [1, 0, 2] [1, 0, 2] (CallX.box 2 26 [AI n_8, LI xs_9] (CallX.box 1 26 [AI 0, .nil] (numX_c_r2 c p1_10 h1_11 n_8 26 2 1 [AI 0, .nil] 26 2 1 [AI n_8, LI xs_9] hc) (by kernel_rfl) (by kernel_rfl) (by kernel_rfl) (by kernel_rfl) (by rintro _ _ ⟨_, _, _, rfl, rfl⟩; exact ⟨by kernel_rfl, by kernel_rfl, by kernel_rfl⟩)) (by kernel_rfl) (by kernel_rfl) (by kernel_rfl) (by kernel_rfl) (by rintro _ _ ⟨_, ⟨_, _, _, rfl, rfl⟩, rfl⟩; exact ⟨by kernel_rfl, by kernel_rfl, by kernel_rfl⟩)) (by kernel_rfl) (by kernel_rfl) (by kernel_rfl) (by rintro _ _ ⟨_, ⟨_, ⟨_, _, _, rfl, rfl⟩, rfl⟩, rfl⟩; exact Nat.le_of_ble_eq_true (by kernel_rfl))) (Nat.le_of_ble_eq_true (by kernel_rfl)) (by kernel_rfl) (by kernel_rfl) (by rintro _ _ ⟨_, _, ⟨_, ⟨_, ⟨_, _, _, rfl, rfl⟩, rfl⟩, rfl⟩, rfl, rfl⟩; exact Nat.le_of_ble_eq_true (by kernel_rfl))) (Nat.le_of_ble_eq_true (by kernel_rfl)) (by kernel_rfl) (by kernel_rfl) (by rintro _ _ ⟨_, _, ⟨_, _, ⟨_, ⟨_, ⟨_, _, _, rfl, rfl⟩, rfl⟩, rfl⟩, rfl, rfl⟩, rfl, rfl⟩; exact Nat.le_of_ble_eq_true (by kernel_rfl))) (by kernel_rfl) (by kernel_rfl) (by kernel_rfl) ?_
            rintro _ _ ⟨_, _, ⟨_, _, ⟨_, _, ⟨_, ⟨_, ⟨v_37, p1_38, h1_39, rfl, rfl⟩, rfl⟩, rfl⟩, rfl, rfl⟩, rfl, rfl⟩, rfl, rfl⟩
            refine R.go 1 (R.any1 7 (by kernel_rfl) (by kernel_rfl) ?_)
            refine R.callX (CallX.inF 0 usC frC (CallX.inF 1 [] [] (CallX.perm [1, 0, 2] [1, 0, 2] (CallX.box 2 26 [AI n_8, LI xs_9] (CallX.box 1 26 [AI 0, .nil] (pickX_c_r2 c p1_38 h1_39 [0, 1, 2, 3, 8, 9] 26 2 1 [AI 0, .nil] 26 2 1 [AI n_8, LI xs_9] hc (by simp)) (by kernel_rfl) (by kernel_rfl) (by kernel_rfl) (by kernel_rfl) (by rintro _ _ ⟨_, _, _, rfl, rfl⟩; exact ⟨by kernel_rfl, by kernel_rfl, by kernel_rfl⟩)) (by kernel_rfl) (by kernel_rfl) (by kernel_rfl) (by kernel_rfl) (by rintro _ _ ⟨_, ⟨_, _, _, rfl, rfl⟩, rfl⟩; exact ⟨by kernel_rfl, by kernel_rfl, by kernel_rfl⟩)) (by kernel_rfl) (by kernel_rfl) (by kernel_rfl) (by rintro _ _ ⟨_, ⟨_, ⟨_, _, _, rfl, rfl⟩, rfl⟩, rfl⟩; exact Nat.le_of_ble_eq_true (by kernel_rfl))) (Nat.le_of_ble_eq_true (by kernel_rfl)) (by kernel_rfl) (by kernel_rfl) (by rintro _ _ ⟨_, _, ⟨_, ⟨_, ⟨_, _, _, rfl, rfl⟩, rfl⟩, rfl⟩, rfl, rfl⟩; exact Nat.le_of_ble_eq_true (by kernel_rfl))) (Nat.le_of_ble_eq_true (by kernel_rfl)) (by kernel_rfl) (by kernel_rfl) (by rintro _ _ ⟨_, _, ⟨_, _, ⟨_, ⟨_, ⟨_, _, _, rfl, rfl⟩, rfl⟩, rfl⟩, rfl, rfl⟩, rfl, rfl⟩; exact Nat.le_of_ble_eq_true (by kernel_rfl))) (by kernel_rfl) (by kernel_rfl) (by kernel_rfl) ?_
            rintro _ _ ⟨_, _, ⟨_, _, ⟨_, _, ⟨_, ⟨_, ⟨v_40, p1_41, h1_42, rfl, rfl⟩, rfl⟩, rfl⟩, rfl, rfl⟩, rfl, rfl⟩, rfl, rfl⟩
            refine R.go 1 (R.any1 8 (by kernel_rfl) (by kernel_rfl) ?_)
            refine R.go 2 (R.any1 9 (by kernel_rfl) (by kernel_rfl) ?_)
            refine R.go 2 (R.any1 10 (by kernel_rfl) (by kernel_rfl) ?_)
            refine R.go 2 (R.any0 (by kernel_rfl) ?_)
            exact R.retX (res := .tup [.agg [AI n_8, LI xs_9], AI v_37, AI v_40]) (hp' := [.dead, .box 26 [AI n_8, LI xs_9], .frame [] [], .box 112 [LB c, AI (p1_41 : Int), .int .u64 h1_42], .box 26 [AI n_8, LI xs_9]]) (by kernel_rfl) (by kernel_rfl) (by kernel_rfl) (by kernel_rfl) ⟨[], by kernel_rfl, by decide, n_8, xs_9, v_37, v_40, by first | assumption | omega, by kernel_rfl, by kernel_rfl⟩
        · refine R.callX (CallX.inF 0 usC frC (CallX.inF 1 [] [] (CallX.perm [1, 0, 2] [1, 0, 2] (CallX.box 2 26 [AI n_8, LI xs_9] (CallX.box 1 26 [AI 0, .nil] (numX_c_r2 c p1_10 h1_11 n_8 26 2 1 [AI 0, .nil] 26 2 1 [AI n_8, LI xs_9] hc) (by kernel_rfl) (by kernel_rfl) (by kernel_rfl) (by kernel_rfl) (by rintro _ _ ⟨_, _, _, rfl, rfl⟩; exact ⟨by kernel_rfl, by kernel_rfl, by kernel_rfl⟩)) (by kernel_rfl) (by kernel_rfl) (by kernel_rfl) (by kernel_rfl) (by rintro _ _ ⟨_, ⟨_, _, _, rfl, rfl⟩, rfl⟩; exact ⟨by kernel_rfl, by kernel_rfl, by kernel_rfl⟩)) (by kernel_rfl) (by kernel_rfl) (by kernel_rfl) (by rintro _ _ ⟨_, ⟨_, ⟨_, _, _, rfl, rfl⟩, rfl⟩, rfl⟩; exact Nat.le_of_ble_eq_true (by kernel_rfl))) (Nat.le_of_ble_eq_true (by kernel_rfl)) (by kernel_rfl) (by kernel_rfl) (by rintro _ _ ⟨_, _, ⟨_, ⟨_, ⟨_, _, _, rfl, rfl⟩, rfl⟩, rfl⟩, rfl, rfl⟩; exact Nat.le_of_ble_eq_true (by kernel_rfl))) (Nat.le_of_ble_eq_true (by kernel_rfl)) (by kernel_rfl) (by kernel_rfl) (by rintro _ _ ⟨_, _, ⟨_, _, ⟨_, ⟨_, ⟨_, _, _, rfl, rfl⟩, rfl⟩, rfl⟩, rfl, rfl⟩, rfl, rfl⟩; exact Nat.le_of_ble_eq_true (by kernel_rfl))) (by kernel_rfl) (by kernel_rfl) (by kernel_rfl) ?_
          rintro _ _ ⟨_, _, ⟨_, _, ⟨_, _, ⟨_, ⟨_, ⟨v_43, p1_44, h1_45, rfl, rfl⟩, rfl⟩, rfl⟩, rfl, rfl⟩, rfl, rfl⟩, rfl, rfl⟩
          refine R.go 1 (R.any2 0 6 (by kernel_rfl) (by kernel_rfl) ?_ ?_)
          · refine R.go 2 (R.any1 6 (by kernel_rfl) (by kernel_rfl) ?_)
            refine R.lit (s := 1) (n := 6) (cs := rows eI [0, 1, 2, 3, 8, 9]) (by kernel_rfl) (by kernel_rfl) ?_
            refine R.go 1 (R.any1 7 (by kernel_rfl) (by kernel_rfl) ?_)
            refine R.callX (CallX.inF 0 usC frC (CallX.inF 1 [] [] (CallX.perm [1, 0, 2] [1, 0, 2] (CallX.box 2 26 [AI n_8, LI xs_9] (CallX.box 1 26 [AI 0, .nil] (pickX_c_r2 c p1_44 h1_45 [0, 1, 2, 3, 8, 9] 26 2 1 [AI 0, .nil] 26 2 1 [AI n_8, LI xs_9] hc (by simp)) (by kernel_rfl) (by kernel_rfl) (by kernel_rfl) (by kernel_rfl) (by rintro _ _ ⟨_, _, _, rfl, rfl⟩; exact ⟨by kernel_rfl, by kernel_rfl, by kernel_rfl⟩)) (by kernel_rfl) (by kernel_rfl) (by kernel_rfl) (by kernel_rfl) (by rintro _ _ ⟨_, ⟨_, _, _, rfl, rfl⟩, rfl⟩; exact ⟨by kernel_rfl, by kernel_rfl, by kernel_rfl⟩)) (by kernel_rfl) (by kernel_rfl) (by kernel_rfl) (by rintro _ _ ⟨_, ⟨_, ⟨_, _, _, rfl, rfl⟩, rfl⟩, rfl⟩; exact Nat.le_of_ble_eq_true (by kernel_rfl))) (Nat.le_of_ble_eq_true (by kernel_rfl)) (by kernel_rfl) (by kernel_rfl) (by rintro _ _ ⟨_, _, ⟨_, ⟨_, ⟨_, _, _, rfl, rfl⟩, rfl⟩, rfl⟩, rfl, rfl⟩; exact Nat.le_of_ble_eq_true (by kernel_rfl))) (Nat.le_of_ble_eq_true (by kernel_rfl)) (by kernel_rfl) (by kernel_rfl) (by rintro _ _ ⟨_, _, ⟨_, _, ⟨_, ⟨_, ⟨_, _, _, rfl, rfl⟩, rfl⟩, rfl⟩, rfl, rfl⟩, rfl, rfl⟩; exact Nat.le_of_ble_eq_true (by kernel_rfl))) (by kernel_rfl) (by kernel_rfl) (by kernel_rfl) ?_
            rintro _ _ ⟨_, _, ⟨_, _, ⟨_, _, ⟨_, ⟨_, ⟨v_46, p1_47, h1_48, rfl, rfl⟩, rfl⟩, rfl⟩, rfl, rfl⟩, rfl, rfl⟩, rfl, rfl⟩
            refine R.go 1 (R.any1 8 (by kernel_rfl) (by kernel_rfl) ?_)
            refine R.go 2 (R.any1 9 (by kernel_rfl) (by kernel_rfl) ?_)
            refine R.go 2 (R.any1 10 (by kernel_rfl) (by kernel_rfl) ?_)
            refine R.go 2 (R.any0 (by kernel_rfl) ?_)
            exact R.retX (res := .tup [.agg [AI n_8, LI xs_9], AI v_43, AI v_46]) (hp' := [.dead, .box 26 [AI n_8, LI xs_9], .frame [] [], .box 112 [LB c, AI (p1_47 : Int), .int .u64 h1_48], .box 26 [AI n_8, LI xs_9]]) (by kernel_rfl) (by kernel_rfl) (by kernel_rfl) (by kernel_rfl) ⟨[], by kernel_rfl, by decide, n_8, xs_9, v_43, v_46, by first | assumption | omega, by kernel_rfl, by kernel_rfl⟩
          · refine R.lit (s := 1) (n := 6) (cs := rows eI [0, 1, 2, 3, 8, 9]) (by kernel_rfl) (by kernel_rfl) ?_
            refine R.go 1 (R.any2 0 7 (by kernel_rfl) (by kernel_rfl) ?_ ?_)
            · refine R.go 2 (R.any1 7 (by kernel_rfl) (by kernel_rfl) ?_)
              refine R.callX (CallX.inF 0 usC frC (CallX.inF 1 [] [] (CallX.perm [1, 0, 2] [1, 0, 2] (CallX.box 2 26 [AI n_8, LI xs_9] (CallX.box 1 26 [AI 0, .nil] (pickX_c_r2 c p1_44 h1_45 [0, 1, 2, 3, 8, 9] 26 2 1 [AI 0, .nil] 26 2 1 [AI n_8, LI xs_9] hc (by simp)) (by kernel_rfl) (by kernel_rfl) (by kernel_rfl) (by kernel_rfl) (by rintro _ _ ⟨_, _, _, rfl, rfl⟩; exact ⟨by kernel_rfl, by kernel_rfl, by kernel_rfl⟩)) (by kernel_rfl) (by kernel_rfl) (by kernel_rfl) (by kernel_rfl) (by rintro _ _ ⟨_, ⟨_, _, _, rfl, rfl⟩, rfl⟩; exact ⟨by kernel_rfl, by kernel_rfl, by kernel_rfl⟩)) (by kernel_rfl) (by kernel_rfl) (by kernel_rfl) (by rintro _ _ ⟨_, ⟨_, ⟨_, _, _, rfl, rfl⟩, rfl⟩, rfl⟩; exact Nat.le_of_ble_eq_true (by kernel_rfl))) (Nat.le_of_ble_eq_true (by kernel_rfl)) (by kernel_rfl) (by kernel_rfl) (by rintro _ _ ⟨_, _, ⟨_, ⟨_, ⟨_, _, _, rfl, rfl⟩, rfl⟩, rfl⟩, rfl, rfl⟩; exact Nat.le_of_ble_eq_true (by kernel_rfl))) (Nat.le_of_ble_eq_true (by kernel_rfl)) (by kernel_rfl) (by kernel_rfl) (by rintro _ _ ⟨_, _, ⟨_, _, ⟨_, ⟨_, ⟨_, _, _, rfl, rfl⟩, rfl⟩, rfl⟩, rfl, rfl⟩, rfl, rfl⟩; exact Nat.le_of_ble_eq_true (by kernel_rfl))) (by kernel_rfl) (by kernel_rfl) (by kernel_rfl) ?_
              rintro _ _ ⟨_, _, ⟨_, _, ⟨_, _, ⟨_, ⟨_, ⟨v_49, p1_50, h1_51, rfl, rfl⟩, rfl⟩, rfl⟩, rfl, rfl⟩, rfl, rfl⟩, rfl, rfl⟩
              refine R.go 1 (R.any1 8 (by kernel_rfl) (by kernel_rfl) ?_)
              refine R.go 2 (R.any1 9 (by kernel_rfl) (by kernel_rfl) ?_)
              refine R.go 2 (R.any1 10 (by kernel_rfl) (by kernel_rfl) ?_)
              refine R.go 2 (R.any0 (by kernel_rfl) ?_)
              exact R.retX (res := .tup [.agg [AI n_8, LI xs_9], AI v_43, AI v_49]) (hp' := [.dead, .box 26 [AI n_8, LI xs_9], .frame [] [], .box 112 [LB c, AI (p1_50 : Int), .int .u64 h1_51], .box 26 [AI n_8, LI xs_9]]) (by kernel_rfl) (by kernel_rfl) (by kernel_rfl) (by kernel_rfl) ⟨[], by kernel_rfl, by decide, n_8, xs_9, v_43, v_49, by first | assumption | omega, by kernel_rfl, by kernel_rfl⟩
            · refine R.callX (CallX.inF 0 usC frC (CallX.inF 1 [] [] (CallX.perm [1, 0, 2] [1, 0, 2] (CallX.box 2 26 [AI n_8, LI xs_9] (CallX.box 1 26 [AI 0, .nil] (pickX_c_r2 c p1_44 h1_45 [0, 1, 2, 3, 8, 9] 26 2 1 [AI 0, .nil] 26 2 1 [AI n_8, LI xs_9] hc (by simp)) (by kernel_rfl) (by kernel_rfl) (by kernel_rfl) (by kernel_rfl) (by rintro _ _ ⟨_, _, _, rfl, rfl⟩; exact ⟨by kernel_rfl, by kernel_rfl, by kernel_rfl⟩)) (by kernel_rfl) (by kernel_rfl) (by kernel_rfl) (by kernel_rfl) (by rintro _ _ ⟨_, ⟨_, _, _, rfl, rfl⟩, rfl⟩; exact ⟨by kernel_rfl, by kernel_rfl, by kernel_rfl⟩)) (by kernel_rfl) (by kernel_rfl) (by kernel_rfl) (by rintro _ _ ⟨_, ⟨_, ⟨_, _, _, rfl, rfl⟩, rfl⟩, rfl⟩; exact Nat.le_of_ble_eq_true (by kernel_rfl))) (Nat.le_of_ble_eq_true (by kernel_rfl)) (by kernel_rfl) (by kernel_rfl) (by rintro _ _ ⟨_, _, ⟨_, ⟨_, ⟨_, _, _, rfl, rfl⟩, rfl⟩, rfl⟩, rfl, rfl⟩; exact Nat.le_of_ble_eq_true (by kernel_rfl))) (Nat.le_of_ble_eq_true (by kernel_rfl)) (by kernel_rfl) (by kernel_rfl) (by rintro _ _ ⟨_, _, ⟨_, _, ⟨_, ⟨_, ⟨_, _, _, rfl, rfl⟩, rfl⟩, rfl⟩, rfl, rfl⟩, rfl, rfl⟩; exact Nat.le_of_ble_eq_true (by kernel_rfl))) (by kernel_rfl) (by kernel_rfl) (by kernel_rfl) ?_
              rintro _ _ ⟨_, _, ⟨_, _, ⟨_, _, ⟨_, ⟨_, ⟨v_52, p1_53, h1_54, rfl, rfl⟩, rfl⟩, rfl⟩, rfl, rfl⟩, rfl, rfl⟩, rfl, rfl⟩
              refine R.go 1 (R.any1 0 (by kernel_rfl) (by kernel_rfl) ?_)
              refine R.go 2 (R.any1 8 (by kernel_rfl) (by kernel_rfl) ?_)
              refine R.go 2 (R.any1 9 (by kernel_rfl) (by kernel_rfl) ?_)
              refine R.go 2 (R.any1 10 (by kernel_rfl) (by kernel_rfl) ?_)
              refine R.go 2 (R.any0 (by kernel_rfl) ?_)
              exact R.retX (res := .tup [.agg [AI n_8, LI xs_9], AI v_43, AI v_52]) (hp' := [.dead, .box 26 [AI n_8, LI xs_9], .frame [] [], .box 112 [LB c, AI (p1_53 : Int), .int .u64 h1_54], .box 26 [AI n_8, LI xs_9]]) (by kernel_rfl) (by kernel_rfl) (by kernel_rfl) (by kernel_rfl) ⟨[], by kernel_rfl, by decide, n_8, xs_9, v_43, v_52, by first | assumption | omega, by kernel_rfl, by kernel_rfl⟩
        · refine R.lit (s := 1) (n := 6) (cs := rows eI [0, 1, 2, 3, 8, 9]) (by kernel_rfl) (by kernel_rfl) ?_
          refine R.go 1 (R.any2 0 4 (by kernel_rfl) (by kernel_rfl) ?_ ?_)
          · refine R.go 2 (R.any1 4 (by kernel_rfl) (by kernel_rfl) ?_)
            refine R.callX (CallX.inF 0 usC frC (CallX.inF 1 [] [] (CallX.perm [1, 0, 2] [1, 0, 2] (CallX.box 2 26 [AI n_8, LI xs_9] (CallX.box 1 26 [AI 0, .nil] (numX_c_r2 c p1_10 h1_11 n_8 26 2 1 [AI 0, .nil] 26 2 1 [AI n_8, LI xs_9] hc) (by kernel_rfl) (by kernel_rfl) (by kernel_rfl) (by kernel_rfl) (by rintro _ _ ⟨_, _, _, rfl, rfl⟩; exact ⟨by kernel_rfl, by kernel_rfl, by kernel_rfl⟩)) (by kernel_rfl) (by kernel_rfl) (by kernel_rfl) (by kernel_rfl) (by rintro _ _ ⟨_, ⟨_, _, _, rfl, rfl⟩, rfl⟩; exact ⟨by kernel_rfl, by kernel_rfl, by kernel_rfl⟩)) (by kernel_rfl) (by kernel_rfl) (by kernel_rfl) (by rintro _ _ ⟨_, ⟨_, ⟨_, _, _, rfl, rfl⟩, rfl⟩, rfl⟩; exact Nat.le_of_ble_eq_true (by kernel_rfl))) (Nat.le_of_ble_eq_true (by kernel_rfl)) (by kernel_rfl) (by kernel_rfl) (by rintro _ _ ⟨_, _, ⟨_, ⟨_, ⟨_, _, _, rfl, rfl⟩, rfl⟩, rfl⟩, rfl, rfl⟩; exact Nat.le_of_ble_eq_true (by kernel_rfl))) (Nat.le_of_ble_eq_true (by kernel_rfl)) (by kernel_rfl) (by kernel_rfl) (by rintro _ _ ⟨_, _, ⟨_, _, ⟨_, ⟨_, ⟨_, _, _, rfl, rfl⟩, rfl⟩, rfl⟩, rfl, rfl⟩, rfl, rfl⟩; exact Nat.le_of_ble_eq_true (by kernel_rfl))) (by kernel_rfl) (by kernel_rfl) (by kernel_rfl) ?_
            rintro _ _ ⟨_, _, ⟨_, _, ⟨_, _, ⟨_, ⟨_, ⟨v_55, p1_56, h1_57, rfl, rfl⟩, rfl⟩, rfl⟩, rfl, rfl⟩, rfl, rfl⟩, rfl, rfl⟩
            refine R.go 1 (R.any1 7 (by kernel_rfl) (by kernel_rfl) ?_)
            refine R.callX (CallX.inF 0 usC frC (CallX.inF 1 [] [] (CallX.perm [1, 0, 2] [1, 0, 2] (CallX.box 2 26 [AI n_8, LI xs_9] (CallX.box 1 26 [AI 0, .nil] (pickX_c_r2 c p1_56 h1_57 [0, 1, 2, 3, 8, 9] 26 2 1 [AI 0, .nil] 26 2 1 [AI n_8, LI xs_9] hc (by simp)) (by kernel_rfl) (by kernel_rfl) (by kernel_rfl) (by kernel_rfl) (by rintro _ _ ⟨_, _, _, rfl, rfl⟩; exact ⟨by kernel_rfl, by kernel_rfl, by kernel_rfl⟩)) (by kernel_rfl) (by kernel_rfl) (by kernel_rfl) (by kernel_rfl) (by rintro _ _ ⟨_, ⟨_, _, _, rfl, rfl⟩, rfl⟩; exact ⟨by kernel_rfl, by kernel_rfl, by kernel_rfl⟩)) (by kernel_rfl) (by kernel_rfl) (by kernel_rfl) (by rintro _ _ ⟨_, ⟨_, ⟨_, _, _, rfl, rfl⟩, rfl⟩, rfl⟩; exact Nat.le_of_ble_eq_true (by kernel_rfl))) (Nat.le_of_ble_eq_true (by kernel_rfl)) (by kernel_rfl) (by kernel_rfl) (by rintro _ _ ⟨_, _, ⟨_, ⟨_, ⟨_, _, _, rfl, rfl⟩, rfl⟩, rfl⟩, rfl, rfl⟩; exact Nat.le_of_ble_eq_true (by kernel_rfl))) (Nat.le_of_ble_eq_true (by kernel_rfl)) (by kernel_rfl) (by kernel_rfl) (by rintro _ _ ⟨_, _, ⟨_, _, ⟨_, ⟨_, ⟨_, _, _, rfl, rfl⟩, rfl⟩, rfl⟩, rfl, rfl⟩, rfl, rfl⟩; exact Nat.le_of_ble_eq_true (by kernel_rfl))) (by kernel_rfl) (by kernel_rfl) (by kernel_rfl) ?_
            rintro _ _ ⟨_, _, ⟨_, _, ⟨_, _, ⟨_, ⟨_, ⟨v_58, p1_59, h1_60, rfl, rfl⟩, rfl⟩, rfl⟩, rfl, rfl⟩, rfl, rfl⟩, rfl, rfl⟩
            refine R.go 1 (R.any1 8 (by kernel_rfl) (by kernel_rfl) ?_)
            refine R.go 2 (R.any1 9 (by kernel_rfl) (by kernel_rfl) ?_)
            refine R.go 2 (R.any1 10 (by kernel_rfl) (by kernel_rfl) ?_)
            refine R.go 2 (R.any0 (by kernel_rfl) ?_)
            exact R.retX (res := .tup [.agg [AI n_8, LI xs_9], AI v_55, AI v_58]) (hp' := [.dead, .box 26 [AI n_8, LI xs_9], .frame [] [], .box 112 [LB c, AI (p1_59 : Int), .int .u64 h1_60], .box 26 [AI n_8, LI xs_9]]) (by kernel_rfl) (by kernel_rfl) (by kernel_rfl) (by kernel_rfl) ⟨[], by kernel_rfl, by decide, n_8, xs_9, v_55, v_58, by first | assumption | omega, by kernel_rfl, by kernel_rfl⟩
          · refine R.callX (CallX.inF 0 usC frC (CallX.inF 1 [] [] (CallX.perm [1, 0, 2] [1, 0, 2] (CallX.box 2 26 [AI n_8, LI xs_9] (CallX.box 1 26 [AI 0, .nil] (numX_c_r2 c p1_10 h1_11 n_8 26 2 1 [AI 0, .nil] 26 2 1 [AI n_8, LI xs_9] hc) (by kernel_rfl) (by kernel_rfl) (by kernel_rfl) (by kernel_rfl) (by rintro _ _ ⟨_, _, _, rfl, rfl⟩; exact ⟨by kernel_rfl, by kernel_rfl, by kernel_rfl⟩)) (by kernel_rfl) (by kernel_rfl) (by kernel_rfl) (by kernel_rfl) (by rintro _ _ ⟨_, ⟨_, _, _, rfl, rfl⟩, rfl⟩; exact ⟨by kernel_rfl, by kernel_rfl, by kernel_rfl⟩)) (by kernel_rfl) (by kernel_rfl) (by kernel_rfl) (by rintro _ _ ⟨_, ⟨_, ⟨_, _, _, rfl, rfl⟩, rfl⟩, rfl⟩; exact Nat.le_of_ble_eq_true (by kernel_rfl))) (Nat.le_of_ble_eq_true (by kernel_rfl)) (by kernel_rfl) (by kernel_rfl) (by rintro _ _ ⟨_, _, ⟨_, ⟨_, ⟨_, _, _, rfl, rfl⟩, rfl⟩, rfl⟩, rfl, rfl⟩; exact Nat.le_of_ble_eq_true (by kernel_rfl))) (Nat.le_of_ble_eq_true (by kernel_rfl)) (by kernel_rfl) (by kernel_rfl) (by rintro _ _ ⟨_, _, ⟨_, _, ⟨_, ⟨_, ⟨_, _, _, rfl, rfl⟩, rfl⟩, rfl⟩, rfl, rfl⟩, rfl, rfl⟩; exact Nat.le_of_ble_eq_true (by kernel_rfl))) (by kernel_rfl) (by kernel_rfl) (by kernel_rfl) ?_
            rintro _ _ ⟨_, _, ⟨_, _, ⟨_, _, ⟨_, ⟨_, ⟨v_61, p1_62, h1_63, rfl, rfl⟩, rfl⟩, rfl⟩, rfl, rfl⟩, rfl, rfl⟩, rfl, rfl⟩
            refine R.go 1 (R.any2 0 7 (by kernel_rfl) (by kernel_rfl) ?_ ?_)
            · refine R.go 2 (R.any1 7 (by kernel_rfl) (by kernel_rfl) ?_)
              refine R.callX (CallX.inF 0 usC frC (CallX.inF 1 [] [] (CallX.perm [1, 0, 2] [1, 0, 2] (CallX.box 2 26 [AI n_8, LI xs_9] (CallX.box 1 26 [AI 0, .nil] (pickX_c_r2 c p1_62 h1_63 [0, 1, 2, 3, 8, 9] 26 2 1 [AI 0, .nil] 26 2 1 [AI n_8, LI xs_9] hc (by simp)) (by kernel_rfl) (by kernel_rfl) (by kernel_rfl) (by kernel_rfl) (by rintro _ _ ⟨_, _, _, rfl, rfl⟩; exact ⟨by kernel_rfl, by kernel_rfl, by kernel_rfl⟩)) (by kernel_rfl) (by kernel_rfl) (by kernel_rfl) (by kernel_rfl) (by rintro _ _ ⟨_, ⟨_, _, _, rfl, rfl⟩, rfl⟩; exact ⟨by kernel_rfl, by kernel_rfl, by kernel_rfl⟩)) (by kernel_rfl) (by kernel_rfl) (by kernel_rfl) (by rintro _ _ ⟨_, ⟨_, ⟨_, _, _, rfl, rfl⟩, rfl⟩, rfl⟩; exact Nat.le_of_ble_eq_true (by kernel_rfl))) (Nat.le_of_ble_eq_true (by kernel_rfl)) (by kernel_rfl) (by kernel_rfl) (by rintro _ _ ⟨_, _, ⟨_, ⟨_, ⟨_, _, _, rfl, rfl⟩, rfl⟩, rfl⟩, rfl, rfl⟩; exact Nat.le_of_ble_eq_true (by kernel_rfl))) (Nat.le_of_ble_eq_true (by kernel_rfl)) (by kernel_rfl) (by kernel_rfl) (by rintro _ _ ⟨_, _, ⟨_, _, ⟨_, ⟨_, ⟨_, _, _, rfl, rfl⟩, rfl⟩, rfl⟩, rfl, rfl⟩, rfl, rfl⟩; exact Nat.le_of_ble_eq_true (by kernel_rfl))) (by kernel_rfl) (by kernel_rfl) (by kernel_rfl) ?_
              rintro _ _ ⟨_, _, ⟨_, _, ⟨_, _, ⟨_, ⟨_, ⟨v_64, p1_65, h1_66, rfl, rfl⟩, rfl⟩, rfl⟩, rfl, rfl⟩, rfl, rfl⟩, rfl, rfl⟩
              refine R.go 1 (R.any1 8 (by kernel_rfl) (by kernel_rfl) ?_)
              refine R.go 2 (R.any1 9 (by kernel_rfl) (by kernel_rfl) ?_)
              refine R.go 2 (R.any1 10 (by kernel_rfl) (by kernel_rfl) ?_)
              refine R.go 2 (R.any0 (by kernel_rfl) ?_)
              exact R.retX (res := .tup [.agg [AI n_8, LI xs_9], AI v_61, AI v_64]) (hp' := [.dead, .box 26 [AI n_8, LI xs_9], .frame [] [], .box 112 [LB c, AI (p1_65 : Int), .int .u64 h1_66], .box 26 [AI n_8, LI xs_9]]) (by kernel_rfl) (by kernel_rfl) (by kernel_rfl) (by kernel_rfl) ⟨[], by kernel_rfl, by decide, n_8, xs_9, v_61, v_64, by first | assumption | omega, by kernel_rfl, by kernel_rfl⟩
            · refine R.callX (CallX.inF 0 usC frC (CallX.inF 1 [] [] (CallX.perm [1, 0, 2] [1, 0, 2] (CallX.box 2 26 [AI n_8, LI xs_9] (CallX.box 1 26 [AI 0, .nil] (pickX_c_r2 c p1_62 h1_63 [0, 1, 2, 3, 8, 9] 26 2 1 [AI 0, .nil] 26 2 1 [AI n_8, LI xs_9] hc (by simp)) (by kernel_rfl) (by kernel_rfl) (by kernel_rfl) (by kernel_rfl) (by rintro _ _ ⟨_, _, _, rfl, rfl⟩; exact ⟨by kernel_rfl, by kernel_rfl, by kernel_rfl⟩)) (by kernel_rfl) (by kernel_rfl) (by kernel_rfl) (by kernel_rfl) (by rintro _ _ ⟨_, ⟨_, _, _, rfl, rfl⟩, rfl⟩; exact ⟨by kernel_rfl, by kernel_rfl, by kernel_rfl⟩)) (by kernel_rfl) (by kernel_rfl) (by kernel_rfl) (by rintro _ _ ⟨_, ⟨_, ⟨_, _, _, rfl, rfl⟩, rfl⟩, rfl⟩; exact Nat.le_of_ble_eq_true (by kernel_rfl))) (Nat.le_of_ble_eq_true (by kernel_rfl)) (by kernel_rfl) (by kernel_rfl) (by rintro _ _ ⟨_, _, ⟨_, ⟨_, ⟨_, _, _, rfl, rfl⟩, rfl⟩, rfl⟩, rfl, rfl⟩; exact Nat.le_of_ble_eq_true (by kernel_rfl))) (Nat.le_of_ble_eq_true (by kernel_rfl)) (by kernel_rfl) (by kernel_rfl) (by rintro _ _ ⟨_, _, ⟨_, _, ⟨_, ⟨_, ⟨_, _, _, rfl, rfl⟩, rfl⟩, rfl⟩, rfl, rfl⟩, rfl, rfl⟩; exact Nat.le_of_ble_eq_true (by kernel_rfl))) (by kernel_rfl) (by kernel_rfl) (by kernel_rfl) ?_
              rintro _ _ ⟨_, _, ⟨_, _, ⟨_, _, ⟨_, ⟨_, ⟨v_67, p1_68, h1_69, rfl, rfl⟩, rfl⟩, rfl⟩, rfl, rfl⟩, rfl, rfl⟩, rfl, rfl⟩
              refine R.go 1 (R.any1 0 (by kernel_rfl) (by kernel_rfl) ?_)
              refine R.go 2 (R.any1 8 (by kernel_rfl) (by kernel_rfl) ?_)
              refine R.go 2 (R.any1 9 (by kernel_rfl) (by kernel_rfl) ?_)
              refine R.go 2 (R.any1 10 (by kernel_rfl) (by kernel_rfl) ?_)
              refine R.go 2 (R.any0 (by kernel_rfl) ?_)
              exact R.retX (res := .tup [.agg [AI n_8, LI xs_9], AI v_61, AI v_67]) (hp' := [.dead, .box 26 [AI n_8, LI xs_9], .frame [] [], .box 112 [LB c, AI (p1_68 : Int), .int .u64 h1_69], .box 26 [AI n_8, LI xs_9]]) (by kernel_rfl) (by kernel_rfl) (by kernel_rfl) (by kernel_rfl) ⟨[], by kernel_rfl, by decide, n_8, xs_9, v_61, v_67, by first | assumption | omega, by kernel_rfl, by kernel_rfl⟩
      · refine R.lit (s := 1) (n := 6) (cs := rows eI [0, 1, 2, 3, 8, 9]) (by kernel_rfl) (by kernel_rfl) ?_
        refine R.go 1 (R.any2 0 3 (by kernel_rfl) (by kernel_rfl) ?_ ?_)
        · refine R.go 2 (R.any1 3 (by kernel_rfl) (by kernel_rfl) ?_)
          refine R.go 2 (R.any1 4 (by kernel_rfl) (by kernel_rfl) ?_)
          refine R.callX (CallX.inF 0 usC frC (CallX.inF 1 [] [] (CallX.perm [1, 0, 2] [1, 0, 2] (CallX.box 2 26 [AI n_8, LI xs_9] (CallX.box 1 26 [AI 0, .nil] (numX_c_r2 c p1_10 h1_11 n_8 26 2 1 [AI 0, .nil] 26 2 1 [AI n_8, LI xs_9] hc) (by kernel_rfl) (by kernel_rfl) (by kernel_rfl) (by kernel_rfl) (by rintro _ _ ⟨_, _, _, rfl, rfl⟩; exact ⟨by kernel_rfl, by kernel_rfl, by kernel_rfl⟩)) (by kernel_rfl) (by kernel_rfl) (by kernel_rfl) (by kernel_rfl) (by rintro _ _ ⟨_, ⟨_, _, _, rfl, rfl⟩, rfl⟩; exact ⟨by kernel_rfl, by kernel_rfl, by kernel_rfl⟩)) (by kernel_rfl) (by kernel_rfl) (by kernel_rfl) (by rintro _ _ ⟨_, ⟨_, ⟨_, _, _, rfl, rfl⟩, rfl⟩, rfl⟩; exact Nat.le_of_ble_eq_true (by kernel_rfl))) (Nat.le_of_ble_eq_true (by kernel_rfl)) (by kernel_rfl) (by kernel_rfl) (by rintro _ _ ⟨_, _, ⟨_, ⟨_, ⟨_, _, _, rfl, rfl⟩, rfl⟩, rfl⟩, rfl, rfl⟩; exact Nat.le_of_ble_eq_true (by kernel_rfl))) (Nat.le_of_ble_eq_true (by kernel_rfl)) (by kernel_rfl) (by kernel_rfl) (by rintro _ _ ⟨_, _, ⟨_, _, ⟨_, ⟨_, ⟨_, _, _, rfl, rfl⟩, rfl⟩, rfl⟩, rfl, rfl⟩, rfl, rfl⟩; exact Nat.le_of_ble_eq_true (by kernel_rfl))) (by kernel_rfl) (by kernel_rfl) (by kernel_rfl) ?_
          rintro _ _ ⟨_, _, ⟨_, _, ⟨_, _, ⟨_, ⟨_, ⟨v_70, p1_71, h1_72, rfl, rfl⟩, rfl⟩, rfl⟩, rfl, rfl⟩, rfl, rfl⟩, rfl, rfl⟩
          refine R.go 1 (R.any1 7 (by kernel_rfl) (by kernel_rfl) ?_)
          refine R.callX (CallX.inF 0 usC frC (CallX.inF 1 [] [] (CallX.perm [1, 0, 2] [1, 0, 2] (CallX.box 2 26 [AI n_8, LI xs_9] (CallX.box 1 26 [AI 0, .nil] (pickX_c_r2 c p1_71 h1_72 [0, 1, 2, 3, 8, 9] 26 2 1 [AI 0, .nil] 26 2 1 [AI n_8, LI xs_9] hc (by simp)) (by kernel_rfl) (by kernel_rfl) (by kernel_rfl) (by kernel_rfl) (by rintro _ _ ⟨_, _, _, rfl, rfl⟩; exact ⟨by kernel_rfl, by kernel_rfl, by kernel_rfl⟩)) (by kernel_rfl) (by kernel_rfl) (by kernel_rfl) (by kernel_rfl) (by rintro _ _ ⟨_, ⟨_, _, _, rfl, rfl⟩, rfl⟩; exact ⟨by kernel_rfl, by kernel_rfl, by kernel_rfl⟩)) (by kernel_rfl) (by kernel_rfl) (by kernel_rfl) (by rintro _ _ ⟨_, ⟨_, ⟨_, _, _, rfl, rfl⟩, rfl⟩, rfl⟩; exact Nat.le_of_ble_eq_true (by kernel_rfl))) (Nat.le_of_ble_eq_true (by kernel_rfl)) (by kernel_rfl) (by kernel_rfl) (by rintro _ _ ⟨_, _, ⟨_, ⟨_, ⟨_, _, _, rfl, rfl⟩, rfl⟩, rfl⟩, rfl, rfl⟩; exact Nat.le_of_ble_eq_true (by kernel_rfl))) (Nat.le_of_ble_eq_true (by kernel_rfl)) (by kernel_rfl) (by kernel_rfl) (by rintro _ _ ⟨_, _, ⟨_, _, ⟨_, ⟨_, ⟨_, _, _, rfl, rfl⟩, rfl⟩, rfl⟩, rfl, rfl⟩, rfl, rfl⟩; exact Nat.le_of_ble_eq_true (by kernel_rfl))) (by kernel_rfl) (by kernel_rfl) (by kernel_rfl) ?_
          rintro _ _ ⟨_, _, ⟨_, _, ⟨_, _, ⟨_, ⟨_, ⟨v_73, p1_74, h1_75, rfl, rfl⟩, rfl⟩, rfl⟩, rfl, rfl⟩, rfl, rfl⟩, rfl, rfl⟩
          refine R.go 1 (R.any1 8 (by kernel_rfl) (by kernel_rfl) ?_)
          refine R.go 2 (R.any1 9 (by kernel_rfl) (by kernel_rfl) ?_)
          refine R.go 2 (R.any1 10 (by kernel_rfl) (by kernel_rfl) ?_)
          refine R.go 2 (R.any0 (by kernel_rfl) ?_)
          exact R.retX (res := .tup [.agg [AI n_8, LI xs_9], AI v_70, AI v_73]) (hp' := [.dead, .box 26 [AI n_8, LI xs_9], .frame [] [], .box 112 [LB c, AI (p1_74 : Int), .int .u64 h1_75], .box 26 [AI n_8, LI xs_9]]) (by kernel_rfl) (by kernel_rfl) (by kernel_rfl) (by kernel_rfl) ⟨[], by kernel_rfl, by decide, n_8, xs_9, v_70, v_73, by first | assumption | omega, by kernel_rfl, by kernel_rfl⟩
        · refine R.go 2 (R.any2 0 4 (by kernel_rfl) (by kernel_rfl) ?_ ?_)
          · refine R.go 2 (R.any1 4 (by kernel_rfl) (by kernel_rfl) ?_)
            refine R.callX (CallX.inF 0 usC frC (CallX.inF 1 [] [] (CallX.perm [1, 0, 2] [1, 0, 2] (CallX.box 2 26 [AI n_8, LI xs_9] (CallX.box 1 26 [AI 0, .nil] (numX_c_r2 c p1_10 h1_11 n_8 26 2 1 [AI 0, .nil] 26 2 1 [AI n_8, LI xs_9] hc) (by kernel_rfl) (by kernel_rfl) (by kernel_rfl) (by kernel_rfl) (by rintro _ _ ⟨_, _, _, rfl, rfl⟩; exact ⟨by kernel_rfl, by kernel_rfl, by kernel_rfl⟩)) (by kernel_rfl) (by kernel_rfl) (by kernel_rfl) (by kernel_rfl) (by rintro _ _ ⟨_, ⟨_, _, _, rfl, rfl⟩, rfl⟩; exact ⟨by kernel_rfl, by kernel_rfl, by kernel_rfl⟩)) (by kernel_rfl) (by kernel_rfl) (by kernel_rfl) (by rintro _ _ ⟨_, ⟨_, ⟨_, _, _, rfl, rfl⟩, rfl⟩, rfl⟩; exact Nat.le_of_ble_eq_true (by kernel_rfl))) (Nat.le_of_ble_eq_true (by kernel_rfl)) (by kernel_rfl) (by kernel_rfl) (by rintro _ _ ⟨_, _, ⟨_, ⟨_, ⟨_, _, _, rfl, rfl⟩, rfl⟩, rfl⟩, rfl, rfl⟩; exact Nat.le_of_ble_eq_true (by kernel_rfl))) (Nat.le_of_ble_eq_true (by kernel_rfl)) (by kernel_rfl) (by kernel_rfl) (by rintro _ _ ⟨_, _, ⟨_, _, ⟨_, ⟨_, ⟨_, _, _, rfl, rfl⟩, rfl⟩, rfl⟩, rfl, rfl⟩, rfl, rfl⟩; exact Nat.le_of_ble_eq_true (by kernel_rfl))) (by kernel_rfl) (by kernel_rfl) (by kernel_rfl) ?_
            rintro _ _ ⟨_, _, ⟨_, _, ⟨_, _, ⟨_, ⟨_, ⟨v_76, p1_77, h1_78, rfl, rfl⟩, rfl⟩, rfl⟩, rfl, rfl⟩, rfl, rfl⟩, rfl, rfl⟩
            refine R.go 1 (R.any1 7 (by kernel_rfl) (by kernel_rfl) ?_)
            refine R.callX (CallX.inF 0 usC frC (CallX.inF 1 [] [] (CallX.perm [1, 0, 2] [1, 0, 2] (CallX.box 2 26 [AI n_8, LI xs_9] (CallX.box 1 26 [AI 0, .nil] (pickX_c_r2 c p1_77 h1_78 [0, 1, 2, 3, 8, 9] 26 2 1 [AI 0, .nil] 26 2 1 [AI n_8, LI xs_9] hc (by simp)) (by kernel_rfl) (by kernel_rfl) (by kernel_rfl) (by kernel_rfl) (by rintro _ _ ⟨_, _, _, rfl, rfl⟩; exact ⟨by kernel_rfl, by kernel_rfl, by kernel_rfl⟩)) (by kernel_rfl) (by kernel_rfl) (by kernel_rfl) (by kernel_rfl) (by rintro _ _ ⟨_, ⟨_, _, _, rfl, rfl⟩, rfl⟩; exact ⟨by kernel_rfl, by kernel_rfl, by kernel_rfl⟩)) (by kernel_rfl) (by kernel_rfl) (by kernel_rfl) (by rintro _ _ ⟨_, ⟨_, ⟨_, _, _, rfl, rfl⟩, rfl⟩, rfl⟩; exact Nat.le_of_ble_eq_true (by kernel_rfl))) (Nat.le_of_ble_eq_true (by kernel_rfl)) (by kernel_rfl) (by kernel_rfl) (by rintro _ _ ⟨_, _, ⟨_, ⟨_, ⟨_, _, _, rfl, rfl⟩, rfl⟩, rfl⟩, rfl, rfl⟩; exact Nat.le_of_ble_eq_true (by kernel_rfl))) (Nat.le_of_ble_eq_true (by kernel_rfl)) (by kernel_rfl) (by kernel_rfl) (by rintro _ _ ⟨_, _, ⟨_, _, ⟨_, ⟨_, ⟨_, _, _, rfl, rfl⟩, rfl⟩, rfl⟩, rfl, rfl⟩, rfl, rfl⟩; exact Nat.le_of_ble_eq_true (by kernel_rfl))) (by kernel_rfl) (by kernel_rfl) (by kernel_rfl) ?_
            rintro _ _ ⟨_, _, ⟨_, _, ⟨_, _, ⟨_, ⟨_, ⟨v_79, p1_80, h1_81, rfl, rfl⟩, rfl⟩, rfl⟩, rfl, rfl⟩, rfl, rfl⟩, rfl, rfl⟩
            refine R.go 1 (R.any1 8 (by kernel_rfl) (by kernel_rfl) ?_)
            refine R.go 2 (R.any1 9 (by kernel_rfl) (by kernel_rfl) ?_)
            refine R.go 2 (R.any1 10 (by kernel_rfl) (by kernel_rfl) ?_)
            refine R.go 2 (R.any0 (by kernel_rfl) ?_)
            exact R.retX (res := .tup [.agg [AI n_8, LI xs_9], AI v_76, AI v_79]) (hp' := [.dead, .box 26 [AI n_8, LI xs_9], .frame [] [], .box 112 [LB c, AI (p1_80 : Int), .int .u64 h1_81], .box 26 [AI n_8, LI xs_9]]) (by kernel_rfl) (by kernel_rfl) (by kernel_rfl) (by kernel_rfl) ⟨[], by kernel_rfl, by decide, n_8, xs_9, v_76, v_79, by first | assumption | omega, by kernel_rfl, by kernel_rfl⟩
          · refine R.callX (CallX.inF 0 usC frC (CallX.inF 1 [] [] (CallX.perm [1, 0, 2] [1, 0, 2] (CallX.box 2 26 [AI n_8, LI xs_9] (CallX.box 1 26 [AI 0, .nil] (numX_c_r2 c p1_10 h1_11 n_8 26 2 1 [AI 0, .nil] 26 2 1 [AI n_8, LI xs_9] hc) (by kernel_rfl) (by kernel_rfl) (by kernel_rfl) (by kernel_rfl) (by rintro _ _ ⟨_, _, _, rfl, rfl⟩; exact ⟨by kernel_rfl, by kernel_rfl, by kernel_rfl⟩)) (by kernel_rfl) (by kernel_rfl) (by kernel_rfl) (by kernel_rfl) (by rintro _ _ ⟨_, ⟨_, _, _, rfl, rfl⟩, rfl⟩; exact ⟨by kernel_rfl, by kernel_rfl, by kernel_rfl⟩)) (by kernel_rfl) (by kernel_rfl) (by kernel_rfl) (by rintro _ _ ⟨_, ⟨_, ⟨_, _, _, rfl, rfl⟩, rfl⟩, rfl⟩; exact Nat.le_of_ble_eq_true (by kernel_rfl))) (Nat.le_of_ble_eq_true (by kernel_rfl)) (by kernel_rfl) (by kernel_rfl) (by rintro _ _ ⟨_, _, ⟨_, ⟨_, ⟨_, _, _, rfl, rfl⟩, rfl⟩, rfl⟩, rfl, rfl⟩; exact Nat.le_of_ble_eq_true (by kernel_rfl))) (Nat.le_of_ble_eq_true (by kernel_rfl)) (by kernel_rfl) (by kernel_rfl) (by rintro _ _ ⟨_, _, ⟨_, _, ⟨_, ⟨_, ⟨_, _, _, rfl, rfl⟩, rfl⟩, rfl⟩, rfl, rfl⟩, rfl, rfl⟩; exact Nat.le_of_ble_eq_true (by kernel_rfl))) (by kernel_rfl) (by kernel_rfl) (by kernel_rfl) ?_
            rintro _ _ ⟨_, _, ⟨_, _, ⟨_, _, ⟨_, ⟨_, ⟨v_82, p1_83, h1_84, rfl, rfl⟩, rfl⟩, rfl⟩, rfl, rfl⟩, rfl, rfl⟩, rfl, rfl⟩
            refine R.go 1 (R.any2 0 7 (by kernel_rfl) (by kernel_rfl) ?_ ?_)
            · refine R.go 2 (R.any1 7 (by kernel_rfl) (by kernel_rfl) ?_)
              refine R.callX (CallX.inF 0 usC frC (CallX.inF 1 [] [] (CallX.perm [1, 0, 2] [1, 0, 2] (CallX.box 2 26 [AI n_8, LI xs_9] (CallX.box 1 26 [AI 0, .nil] (pickX_c_r2 c p1_83 h1_84 [0, 1, 2, 3, 8, 9] 26 2 1 [AI 0, .nil] 26 2 1 [AI n_8, LI xs_9] hc (by simp)) (by kernel_rfl) (by kernel_rfl) (by kernel_rfl) (by kernel_rfl) (by rintro _ _ ⟨_, _, _, rfl, rfl⟩; exact ⟨by kernel_rfl, by kernel_rfl, by kernel_rfl⟩)) (by kernel_rfl) (by kernel_rfl) (by kernel_rfl) (by kernel_rfl) (by rintro _ _ ⟨_, ⟨_, _, _, rfl, rfl⟩, rfl⟩; exact ⟨by kernel_rfl, by kernel_rfl, by kernel_rfl⟩)) (by kernel_rfl) (by kernel_rfl) (by kernel_rfl) (by rintro _ _ ⟨_, ⟨_, ⟨_, _, _, rfl, rfl⟩, rfl⟩, rfl⟩; exact Nat.le_of_ble_eq_true (by kernel_rfl))) (Nat.le_of_ble_eq_true (by kernel_rfl)) (by kernel_rfl) (by kernel_rfl) (by rintro _ _ ⟨_, _, ⟨_, ⟨_, ⟨_, _, _, rfl, rfl⟩, rfl⟩, rfl⟩, rfl, rfl⟩; exact Nat.le_of_ble_eq_true (by kernel_rfl))) (Nat.le_of_ble_eq_true (by kernel_rfl)) (by kernel_rfl) (by kernel_rfl) (by rintro _ _ ⟨_, _, ⟨_, _, ⟨_, ⟨_, ⟨_, _, _, rfl, rfl⟩, rfl⟩, rfl⟩, rfl, rfl⟩, rfl, rfl⟩; exact Nat.le_of_ble_eq_true (by kernel_rfl))) (by kernel_rfl) (by kernel_rfl) (by kernel_rfl) ?_
              rintro _ _ ⟨_, _, ⟨_, _, ⟨_, _, ⟨_, ⟨_, ⟨v_85, p1_86, h1_87, rfl, rfl⟩, rfl⟩, rfl⟩, rfl, rfl⟩, rfl, rfl⟩, rfl, rfl⟩
              refine R.go 1 (R.any1 8 (by kernel_rfl) (by kernel_rfl) ?_)
              refine R.go 2 (R.any1 9 (by kernel_rfl) (by kernel_rfl) ?_)
              refine R.go 2 (R.any1 10 (by kernel_rfl) (by kernel_rfl) ?_)
              refine R.go 2 (R.any0 (by kernel_rfl) ?_)
              exact R.retX (res := .tup [.agg [AI n_8, LI xs_9], AI v_82, AI v_85]) (hp' := [.dead, .box 26 [AI n_8, LI xs_9], .frame [] [], .box 112 [LB c, AI (p1_86 : Int), .int .u64 h1_87], .box 26 [AI n_8, LI xs_9]]) (by kernel_rfl) (by kernel_rfl) (by kernel_rfl) (by kernel_rfl) ⟨[], by kernel_rfl, by decide, n_8, xs_9, v_82, v_85, by first | assumption | omega, by kernel_rfl, by kernel_rfl⟩
            · refine R.callX (CallX.inF 0 usC frC (CallX.inF 1 [] [] (CallX.perm [1, 0, 2] [1, 0, 2] (CallX.box 2 26 [AI n_8, LI xs_9] (CallX.box 1 26 [AI 0, .nil] (pickX_c_r2 c p1_83 h1_84 [0, 1, 2, 3, 8, 9] 26 2 1 [AI 0, .nil] 26 2 1 [AI n_8, LI xs_9] hc (by simp)) (by kernel_rfl) (by kernel_rfl) (by kernel_rfl) (by kernel_rfl) (by rintro _ _ ⟨_, _, _, rfl, rfl⟩; exact ⟨by kernel_rfl, by kernel_rfl, by kernel_rfl⟩)) (by kernel_rfl) (by kernel_rfl) (by kernel_rfl) (by kernel_rfl) (by rintro _ _ ⟨_, ⟨_, _, _, rfl, rfl⟩, rfl⟩; exact ⟨by kernel_rfl, by kernel_rfl, by kernel_rfl⟩)) (by kernel_rfl) (by kernel_rfl) (by kernel_rfl) (by rintro _ _ ⟨_, ⟨_, ⟨_, _, _, rfl, rfl⟩, rfl⟩, rfl⟩; exact Nat.le_of_ble_eq_true (by kernel_rfl))) (Nat.le_of_ble_eq_true (by kernel_rfl)) (by kernel_rfl) (by kernel_rfl) (by rintro _ _ ⟨_, _, ⟨_, ⟨_, ⟨_, _, _, rfl, rfl⟩, rfl⟩, rfl⟩, rfl, rfl⟩; exact Nat.le_of_ble_eq_true (by kernel_rfl))) (Nat.le_of_ble_eq_true (by kernel_rfl)) (by kernel_rfl) (by kernel_rfl) (by rintro _ _ ⟨_, _, ⟨_, _, ⟨_, ⟨_, ⟨_, _, _, rfl, rfl⟩, rfl⟩, rfl⟩, rfl, rfl⟩, rfl, rfl⟩; exact Nat.le_of_ble_eq_true (by kernel_rfl))) (by kernel_rfl) (by kernel_rfl) (by kernel_rfl) ?_
              rintro _ _ ⟨_, _, ⟨_, _, ⟨_, _, ⟨_, ⟨_, ⟨v_88, p1_89, h1_90, rfl, rfl⟩, rfl⟩, rfl⟩, rfl, rfl⟩, rfl, rfl⟩, rfl, rfl⟩
              refine R.go 1 (R.any1 0 (by kernel_rfl) (by kernel_rfl) ?_)
              refine R.go 2 (R.any1 8 (by kernel_rfl) (by kernel_rfl) ?_)
              refine R.go 2 (R.any1 9 (by kernel_rfl) (by kernel_rfl) ?_)
              refine R.go 2 (R.any1 10 (by kernel_rfl) (by kernel_rfl) ?_)
              refine R.go 2 (R.any0 (by kernel_rfl) ?_)
              exact R.retX (res := .tup [.agg [AI n_8, LI xs_9], AI v_82, AI v_88]) (hp' := [.dead, .box 26 [AI n_8, LI xs_9], .frame [] [], .box 112 [LB c, AI (p1_89 : Int), .int .u64 h1_90], .box 26 [AI n_8, LI xs_9]]) (by kernel_rfl) (by kernel_rfl) (by kernel_rfl) (by kernel_rfl) ⟨[], by kernel_rfl, by decide, n_8, xs_9, v_82, v_88, by first | assumption | omega, by kernel_rfl, by kernel_rfl⟩
  · refine R.skp (decide ((i : Int) < (c.length : Int))) true (by kernel_rfl) (dF c6) (by kernel_rfl) ?_
    refine R.skp (decide ((i : Int) < (c.length : Int))) true (by kernel_rfl) (dF c6) (by kernel_rfl) ?_
    refine R.pick (decide ((i : Int) < (c.length : Int))) false (by kernel_rfl) (dF c6) (by kernel_rfl) ?_
    refine R.go 8 (R.back (.ptr 3 0) (frm 19 [(0, LB c), (2, .ptr 1 0), (3, AI 0), (4, AI 0), (7, LB c)]) (by kernel_rfl) (by kernel_rfl) (by kernel_rfl) ?_)
    refine R.go 5 (R.deadF 2 (by kernel_rfl) (by kernel_rfl) ?_)
    refine R.callX (CallX.inF 0 usC frC (CallX.inF 1 [] [] (CallX.perm [1, 0] [1, 0] (CallX.box 1 26 [AI 0, .nil] (frameX_c_r1 c 0 hh 5 26 2 1 [AI 0, .nil] hc (by omega)) (by kernel_rfl) (by kernel_rfl) (by kernel_rfl) (by kernel_rfl) (by rintro _ _ ⟨_, _, _, _, _, rfl, rfl⟩; exact ⟨by kernel_rfl, by kernel_rfl, by kernel_rfl⟩)) (by kernel_rfl) (by kernel_rfl) (by kernel_rfl) (by rintro _ _ ⟨_, ⟨_, _, _, _, _, rfl, rfl⟩, rfl⟩; exact Nat.le_of_ble_eq_true (by kernel_rfl))) (Nat.le_of_ble_eq_true (by kernel_rfl)) (by kernel_rfl) (by kernel_rfl) (by rintro _ _ ⟨_, _, ⟨_, ⟨_, _, _, _, _, rfl, rfl⟩, rfl⟩, rfl, rfl⟩; exact Nat.le_of_ble_eq_true (by kernel_rfl))) (Nat.le_of_ble_eq_true (by kernel_rfl)) (by kernel_rfl) (by kernel_rfl) (by rintro _ _ ⟨_, _, ⟨_, _, ⟨_, ⟨_, _, _, _, _, rfl, rfl⟩, rfl⟩, rfl, rfl⟩, rfl, rfl⟩; exact Nat.le_of_ble_eq_true (by kernel_rfl))) (by kernel_rfl) (by kernel_rfl) (by kernel_rfl) ?_
    rintro _ _ ⟨_, _, ⟨_, _, ⟨_, _, ⟨_, ⟨n_91, xs_92, p1_93, h1_94, f95, rfl, rfl⟩, rfl⟩, rfl, rfl⟩, rfl, rfl⟩, rfl, rfl⟩
    refine R.go 4 (R.any (by decide +kernel) (by kernel_rfl) ?_)
    refine R.anyF 1 (by kernel_rfl) (np_retX _ _ _ _ _ _) ?_
    refine R.anyF 5 (by kernel_rfl) (np_retX _ _ _ _ _ _) ?_
    refine R.anyA 2 (.ptr 4 0) (by kernel_rfl) (np_retX _ _ _ _ _ _) ?_
    refine R.any3 0 3 6 (by kernel_rfl) (by kernel_rfl) ?_ ?_ ?_
    · refine R.go 2 (R.any2 3 6 (by kernel_rfl) (by kernel_rfl) ?_ ?_)
      · refine R.go 2 (R.any2 4 6 (by kernel_rfl) (by kernel_rfl) ?_ ?_)
        · refine R.callX (CallX.inF 0 usC frC (CallX.inF 1 [] [] (CallX.perm [1, 0, 2] [1, 0, 2] (CallX.box 2 26 [AI n_91, LI xs_92] (CallX.box 1 26 [AI 0, .nil] (numX_c_r2 c p1_93 h1_94 n_91 26 2 1 [AI 0, .nil] 26 2 1 [AI n_91, LI xs_92] hc) (by kernel_rfl) (by kernel_rfl) (by kernel_rfl) (by kernel_rfl) (by rintro _ _ ⟨_, _, _, rfl, rfl⟩; exact ⟨by kernel_rfl, by kernel_rfl, by kernel_rfl⟩)) (by kernel_rfl) (by kernel_rfl) (by kernel_rfl) (by kernel_rfl) (by rintro _ _ ⟨_, ⟨_, _, _, rfl, rfl⟩, rfl⟩; exact ⟨by kernel_rfl, by kernel_rfl, by kernel_rfl⟩)) (by kernel_rfl) (by kernel_rfl) (by kernel_rfl) (by rintro _ _ ⟨_, ⟨_, ⟨_, _, _, rfl, rfl⟩, rfl⟩, rfl⟩; exact Nat.le_of_ble_eq_true (by kernel_rfl))) (Nat.le_of_ble_eq_true (by kernel_rfl)) (by kernel_rfl) (by kernel_rfl) (by rintro _ _ ⟨_, _, ⟨_, ⟨_, ⟨_, _, _, rfl, rfl⟩, rfl⟩, rfl⟩, rfl, rfl⟩; exact Nat.le_of_ble_eq_true (by kernel_rfl))) (Nat.le_of_ble_eq_true (by kernel_rfl)) (by kernel_rfl) (by kernel_rfl) (by rintro _ _ ⟨_, _, ⟨_, _, ⟨_, ⟨_, ⟨_, _, _, rfl, rfl⟩, rfl⟩, rfl⟩, rfl, rfl⟩, rfl, rfl⟩; exact Nat.le_of_ble_eq_true (by kernel_rfl))) (by kernel_rfl) (by kernel_rfl) (by kernel_rfl) ?_
          rintro _ _ ⟨_, _, ⟨_, _, ⟨_, _, ⟨_, ⟨_, ⟨v_96, p1_97, h1_98, rfl, rfl⟩, rfl⟩, rfl⟩, rfl, rfl⟩, rfl, rfl⟩, rfl, rfl⟩
          refine R.go 1 (R.any1 6 (by kernel_rfl) (by kernel_rfl) ?_)
          refine R.lit (s := 1) (n := 6) (cs := rows eI [0, 1, 2, 3, 8, 9]) (by kernel_rfl) (by kernel_rfl) ?_
          refine R.go 1 (R.any1 7 (by kernel_rfl) (by kernel_rfl) ?_)
          refine R.callX (CallX.inF 0 usC frC (CallX.inF 1 [] [] (CallX.perm [1, 0, 2] [1, 0, 2] (CallX.box 2 26 [AI n_91, LI xs_92] (CallX.box 1 26 [AI 0, .nil] (pickX_c_r2 c p1_97 h1_98 [0, 1, 2, 3, 8, 9] 26 2 1 [AI 0, .nil] 26 2 1 [AI n_91, LI xs_92] hc (by simp)) (by kernel_rfl) (by kernel_rfl) (by kernel_rfl) (by kernel_rfl) (by rintro _ _ ⟨_, _, _, rfl, rfl⟩; exact ⟨by kernel_rfl, by kernel_rfl, by kernel_rfl⟩)) (by kernel_rfl) (by kernel_rfl) (by kernel_rfl) (by kernel_rfl) (by rintro _ _ ⟨_, ⟨_, _, _, rfl, rfl⟩, rfl⟩; exact ⟨by kernel_rfl, by kernel_rfl, by kernel_rfl⟩)) (by kernel_rfl) (by kernel_rfl) (by kernel_rfl) (by rintro _ _ ⟨_, ⟨_, ⟨_, _, _, rfl, rfl⟩, rfl⟩, rfl⟩; exact Nat.le_of_ble_eq_true (by kernel_rfl))) (Nat.le_of_ble_eq_true (by kernel_rfl)) (by kernel_rfl) (by kernel_rfl) (by rintro _ _ ⟨_, _, ⟨_, ⟨_, ⟨_, _, _, rfl, rfl⟩, rfl⟩, rfl⟩, rfl, rfl⟩; exact Nat.le_of_ble_eq_true (by kernel_rfl))) (Nat.le_of_ble_eq_true (by kernel_rfl)) (by kernel_rfl) (by kernel_rfl) (by rintro _ _ ⟨_, _, ⟨_, _, ⟨_, ⟨_, ⟨_, _, _, rfl, rfl⟩, rfl⟩, rfl⟩, rfl, rfl⟩, rfl, rfl⟩; exact Nat.le_of_ble_eq_true (by kernel_rfl))) (by kernel_rfl) (by kernel_rfl) (by kernel_rfl) ?_
          rintro _ _ ⟨_, _, ⟨_, _, ⟨_, _, ⟨_, ⟨_, ⟨v_99, p1_100, h1_101, rfl, rfl⟩, rfl⟩, rfl⟩, rfl, rfl⟩, rfl, rfl⟩, rfl, rfl⟩
          refine R.go 1 (R.any1 8 (by kernel_rfl) (by kernel_rfl) ?_)
          refine R.go 2 (R.any1 9 (by kernel_rfl) (by kernel_rfl) ?_)
          refine R.go 2 (R.any1 10 (by kernel_rfl) (by kernel_rfl) ?_)
          refine R.go 2 (R.any0 (by kernel_rfl) ?_)
          exact R.retX (res := .tup [.agg [AI n_91, LI xs_92], AI v_96, AI v_99]) (hp' := [.dead, .box 26 [AI n_91, LI xs_92], .frame [] [], .box 112 [LB c, AI (p1_100 : Int), .int .u64 h1_101], .box 26 [AI n_91, LI xs_92]]) (by kernel_rfl) (by kernel_rfl) (by kernel_rfl) (by kernel_rfl) ⟨[], by kernel_rfl, by decide, n_91, xs_92, v_96, v_99, by first | assumption | omega, by kernel_rfl, by kernel_rfl⟩
        · refine R.lit (s := 1) (n := 6) (cs := rows eI [0, 1, 2, 3, 8, 9]) (by kernel_rfl) (by kernel_rfl) ?_
          refine R.go 1 (R.any1 4 (by kernel_rfl) (by kernel_rfl) ?_)
          refine R.callX (CallX.inF 0 usC frC (CallX.inF 1 [] [] (CallX.perm [1, 0, 2] [1, 0, 2] (CallX.box 2 26 [AI n_91, LI xs_92] (CallX.box 1 26 [AI 0, .nil] (numX_c_r2 c p1_93 h1_94 n_91 26 2 1 [AI 0, .nil] 26 2 1 [AI n_91, LI xs_92] hc) (by kernel_rfl) (by kernel_rfl) (by kernel_rfl) (by kernel_rfl) (by rintro _ _ ⟨_, _, _, rfl, rfl⟩; exact ⟨by kernel_rfl, by kernel_rfl, by kernel_rfl⟩)) (by kernel_rfl) (by kernel_rfl) (by kernel_rfl) (by kernel_rfl) (by rintro _ _ ⟨_, ⟨_, _, _, rfl, rfl⟩, rfl⟩; exact ⟨by kernel_rfl, by kernel_rfl, by kernel_rfl⟩)) (by kernel_rfl) (by kernel_rfl) (by kernel_rfl) (by rintro _ _ ⟨_, ⟨_, ⟨_, _, _, rfl, rfl⟩, rfl⟩, rfl⟩; exact Nat.le_of_ble_eq_true (by kernel_rfl))) (Nat.le_of_ble_eq_true (by kernel_rfl)) (by kernel_rfl) (by kernel_rfl) (by rintro _ _ ⟨_, _, ⟨_, ⟨_, ⟨_, _, _, rfl, rfl⟩, rfl⟩, rfl⟩, rfl, rfl⟩; exact Nat.le_of_ble_eq_true (by kernel_rfl))) (Nat.le_of_ble_eq_true (by kernel_rfl)) (by kernel_rfl) (by kernel_rfl) (by rintro _ _ ⟨_, _, ⟨_, _, ⟨_, ⟨_, ⟨_, _, _, rfl, rfl⟩, rfl⟩, rfl⟩, rfl, rfl⟩, rfl, rfl⟩; exact Nat.le_of_ble_eq_true (by kernel_rfl))) (by kernel_rfl) (by kernel_rfl) (by kernel_rfl) ?_
          rintro _ _ ⟨_, _, ⟨_, _, ⟨_, _, ⟨_, ⟨_, ⟨v_102, p1_103, h1_104, rfl, rfl⟩, rfl⟩, rfl⟩, rfl, rfl⟩, rfl, rfl⟩, rfl, rfl⟩
          refine R.go 1 (R.any1 7 (by kernel_rfl) (by kernel_rfl) ?_)
          refine R.callX (CallX.inF 0 usC frC (CallX.inF 1 [] [] (CallX.perm [1, 0, 2] [1, 0, 2] (CallX.box 2 26 [AI n_91, LI xs_92] (CallX.box 1 26 [AI 0, .nil] (pickX_c_r2 c p1_103 h1_104 [0, 1, 2, 3, 8, 9] 26 2 1 [AI 0, .nil] 26 2 1 [AI n_91, LI xs_92] hc (by simp)) (by kernel_rfl) (by kernel_rfl) (by kernel_rfl) (by kernel_rfl) (by rintro _ _ ⟨_, _, _, rfl, rfl⟩; exact ⟨by kernel_rfl, by kernel_rfl, by kernel_rfl⟩)) (by kernel_rfl) (by kernel_rfl) (by kernel_rfl) (by kernel_rfl) (by rintro _ _ ⟨_, ⟨_, _, _, rfl, rfl⟩, rfl⟩; exact ⟨by kernel_rfl, by kernel_rfl, by kernel_rfl⟩)) (by kernel_rfl) (by kernel_rfl) (by kernel_rfl) (by rintro _ _ ⟨_, ⟨_, ⟨_, _, _, rfl, rfl⟩, rfl⟩, rfl⟩; exact Nat.le_of_ble_eq_true (by kernel_rfl))) (Nat.le_of_ble_eq_true (by kernel_rfl)) (by kernel_rfl) (by kernel_rfl) (by rintro _ _ ⟨_, _, ⟨_, ⟨_, ⟨_, _, _, rfl, rfl⟩, rfl⟩, rfl⟩, rfl, rfl⟩; exact Nat.le_of_ble_eq_true (by kernel_rfl))) (Nat.le_of_ble_eq_true (by kernel_rfl)) (by kernel_rfl) (by kernel_rfl) (by rintro _ _ ⟨_, _, ⟨_, _, ⟨_, ⟨_, ⟨_, _, _, rfl, rfl⟩, rfl⟩, rfl⟩, rfl, rfl⟩, rfl, rfl⟩; exact Nat.le_of_ble_eq_true (by kernel_rfl))) (by kernel_rfl) (by kernel_rfl) (by kernel_rfl) ?_
          rintro _ _ ⟨_, _, ⟨_, _, ⟨_, _, ⟨_, ⟨_, ⟨v_105, p1_106, h1_107, rfl, rfl⟩, rfl⟩, rfl⟩, rfl, rfl⟩, rfl, rfl⟩, rfl, rfl⟩
          refine R.go 1 (R.any1 8 (by kernel_rfl) (by kernel_rfl) ?_)
          refine R.go 2 (R.any1 9 (by kernel_rfl) (by kernel_rfl) ?_)
          refine R.go 2 (R.any1 10 (by kernel_rfl) (by kernel_rfl) ?_)
          refine R.go 2 (R.any0 (by kernel_rfl) ?_)
          exact R.retX (res := .tup [.agg [AI n_91, LI xs_92], AI v_102, AI v_105]) (hp' := [.dead, .box 26 [AI n_91, LI xs_92], .frame [] [], .box 112 [LB c, AI (p1_106 : Int), .int .u64 h1_107], .box 26 [AI n_91, LI xs_92]]) (by kernel_rfl) (by kernel_rfl) (by kernel_rfl) (by kernel_rfl) ⟨[], by kernel_rfl, by decide, n_91, xs_92, v_102, v_105, by first | assumption | omega, by kernel_rfl, by kernel_rfl⟩
      · refine R.lit (s := 1) (n := 6) (cs := rows eI [0, 1, 2, 3, 8, 9]) (by kernel_rfl) (by kernel_rfl) ?_
        refine R.go 1 (R.any1 3 (by kernel_rfl) (by kernel_rfl) ?_)
        refine R.go 2 (R.any1 4 (by kernel_rfl) (by kernel_rfl) ?_)
        refine R.callX (CallX.inF 0 usC frC (CallX.inF 1 [] [] (CallX.perm [1, 0, 2] [1, 0, 2] (CallX.box 2 26 [AI n_91, LI xs_92] (CallX.box 1 26 [AI 0, .nil] (numX_c_r2 c p1_93 h1_94 n_91 26 2 1 [AI 0, .nil] 26 2 1 [AI n_91, LI xs_92] hc) (by kernel_rfl) (by kernel_rfl) (by kernel_rfl) (by kernel_rfl) (by rintro _ _ ⟨_, _, _, rfl, rfl⟩; exact ⟨by kernel_rfl, by kernel_rfl, by kernel_rfl⟩)) (by kernel_rfl) (by kernel_rfl) (by kernel_rfl) (by kernel_rfl) (by rintro _ _ ⟨_, ⟨_, _, _, rfl, rfl⟩, rfl⟩; exact ⟨by kernel_rfl, by kernel_rfl, by kernel_rfl⟩)) (by kernel_rfl) (by kernel_rfl) (by kernel_rfl) (by rintro _ _ ⟨_, ⟨_, ⟨_, _, _, rfl, rfl⟩, rfl⟩, rfl⟩; exact Nat.le_of_ble_eq_true (by kernel_rfl))) (Nat.le_of_ble_eq_true (by kernel_rfl)) (by kernel_rfl) (by kernel_rfl) (by rintro _ _ ⟨_, _, ⟨_, ⟨_, ⟨_, _, _, rfl, rfl⟩, rfl⟩, rfl⟩, rfl, rfl⟩; exact Nat.le_of_ble_eq_true (by kernel_rfl))) (Nat.le_of_ble_eq_true (by kernel_rfl)) (by kernel_rfl) (by kernel_rfl) (by rintro _ _ ⟨_, _, ⟨_, _, ⟨_, ⟨_, ⟨_, _, _, rfl, rfl⟩, rfl⟩, rfl⟩, rfl, rfl⟩, rfl, rfl⟩; exact Nat.le_of_ble_eq_true (by kernel_rfl))) (by kernel_rfl) (by kernel_rfl) (by kernel_rfl) ?_
        rintro _ _ ⟨_, _, ⟨_, _, ⟨_, _, ⟨_, ⟨_, ⟨v_108, p1_109, h1_110, rfl, rfl⟩, rfl⟩, rfl⟩, rfl, rfl⟩, rfl, rfl⟩, rfl, rfl⟩
        refine R.go 1 (R.any1 7 (by kernel_rfl) (by kernel_rfl) ?_)
        refine R.callX (CallX.inF 0 usC frC (CallX.inF 1 [] [] (CallX.perm [1, 0, 2] [1, 0, 2] (CallX.box 2 26 [AI n_91, LI xs_92] (CallX.box 1 26 [AI 0, .nil] (pickX_c_r2 c p1_109 h1_110 [0, 1, 2, 3, 8, 9] 26 2 1 [AI 0, .nil] 26 2 1 [AI n_91, LI xs_92] hc (by simp)) (by kernel_rfl) (by kernel_rfl) (by kernel_rfl) (by kernel_rfl) (by rintro _ _ ⟨_, _, _, rfl, rfl⟩; exact ⟨by kernel_rfl, by kernel_rfl, by kernel_rfl⟩)) (by kernel_rfl) (by kernel_rfl) (by kernel_rfl) (by kernel_rfl) (by rintro _ _ ⟨_, ⟨_, _, _, rfl, rfl⟩, rfl⟩; exact ⟨by kernel_rfl, by kernel_rfl, by kernel_rfl⟩)) (by kernel_rfl) (by kernel_rfl) (by kernel_rfl) (by rintro _ _ ⟨_, ⟨_, ⟨_, _, _, rfl, rfl⟩, rfl⟩, rfl⟩; exact Nat.le_of_ble_eq_true (by kernel_rfl))) (Nat.le_of_ble_eq_true (by kernel_rfl)) (by kernel_rfl) (by kernel_rfl) (by rintro _ _ ⟨_, _, ⟨_, ⟨_, ⟨_, _, _, rfl, rfl⟩, rfl⟩, rfl⟩, rfl, rfl⟩; exact Nat.le_of_ble_eq_true (by kernel_rfl))) (Nat.le_of_ble_eq_true (by kernel_rfl)) (by kernel_rfl) (by kernel_rfl) (by rintro _ _ ⟨_, _, ⟨_, _, ⟨_, ⟨_, ⟨_, _, _, rfl, rfl⟩, rfl⟩, rfl⟩, rfl, rfl⟩, rfl, rfl⟩; exact Nat.le_of_ble_eq_true (by kernel_rfl))) (by kernel_rfl) (by kernel_rfl) (by kernel_rfl) ?_
        rintro _ _ ⟨_, _, ⟨_, _, ⟨_, _, ⟨_, ⟨_, ⟨v_111, p1_112, h1_113, rfl, rfl⟩, rfl⟩, rfl⟩, rfl, rfl⟩, rfl, rfl⟩, rfl, rfl⟩
        refine R.go 1 (R.any1 8 (by kernel_rfl) (by kernel_rfl) ?_)
        refine R.go 2 (R.any1 9 (by kernel_rfl) (by kernel_rfl) ?_)
        refine R.go 2 (R.any1 10 (by kernel_rfl) (by kernel_rfl) ?_)
        refine R.go 2 (R.any0 (by kernel_rfl) ?_)
        exact R.retX (res := .tup [.agg [AI n_91, LI xs_92], AI v_108, AI v_111]) (hp' := [.dead, .box 26 [AI n_91, LI xs_92], .frame [] [], .box 112 [LB c, AI (p1_112 : Int), .int .u64 h1_113], .box 26 [AI n_91, LI xs_92]]) (by kernel_rfl) (by kernel_rfl) (by kernel_rfl) (by kernel_rfl) ⟨[], by kernel_rfl, by decide, n_91, xs_92, v_108, v_111, by first | assumption | omega, by kernel_rfl, by kernel_rfl⟩
    · refine R.go 2 (R.any3 0 4 6 (by kernel_rfl) (by kernel_rfl) ?_ ?_ ?_)
      · refine R.go 2 (R.any2 4 6 (by kernel_rfl) (by kernel_rfl) ?_ ?_)
        · refine R.callX (CallX.inF 0 usC frC (CallX.inF 1 [] [] (CallX.perm [1, 0, 2] [1, 0, 2] (CallX.box 2 26 [AI n_91, LI xs_92] (CallX.box 1 26 [AI 0, .nil] (numX_c_r2 c p1_93 h1_94 n_91 26 2 1 [AI 0, .nil] 26 2 1 [AI n_91, LI xs_92] hc) (by kernel_rfl) (by kernel_rfl) (by kernel_rfl) (by kernel_rfl) (by rintro _ _ ⟨_, _, _, rfl, rfl⟩; exact ⟨by kernel_rfl, by kernel_rfl, by kernel_rfl⟩)) (by kernel_rfl) (by kernel_rfl) (by kernel_rfl) (by kernel_rfl) (by rintro _ _ ⟨_, ⟨_, _, _, rfl, rfl⟩, rfl⟩; exact ⟨by kernel_rfl, by kernel_rfl, by kernel_rfl⟩)) (by kernel_rfl) (by kernel_rfl) (by kernel_rfl) (by rintro _ _ ⟨_, ⟨_, ⟨_, _, _, rfl, rfl⟩, rfl⟩, rfl⟩; exact Nat.le_of_ble_eq_true (by kernel_rfl))) (Nat.le_of_ble_eq_true (by kernel_rfl)) (by kernel_rfl) (by kernel_rfl) (by rintro _ _ ⟨_, _, ⟨_, ⟨_, ⟨_, _, _, rfl, rfl⟩, rfl⟩, rfl⟩, rfl, rfl⟩; exact Nat.le_of_ble_eq_true (by kernel_rfl))) (Nat.le_of_ble_eq_true (by kernel_rfl)) (by kernel_rfl) (by kernel_rfl) (by rintro _ _ ⟨_, _, ⟨_, _, ⟨_, ⟨_, ⟨_, _, _, rfl, rfl⟩, rfl⟩, rfl⟩, rfl, rfl⟩, rfl, rfl⟩; exact Nat.le_of_ble_eq_true (by kernel_rfl))) (by kernel_rfl) (by kernel_rfl) (by kernel_rfl) ?_
          rintro _ _ ⟨_, _, ⟨_, _, ⟨_, _, ⟨_, ⟨_, ⟨v_114, p1_115, h1_116, rfl, rfl⟩, rfl⟩, rfl⟩, rfl, rfl⟩, rfl, rfl⟩, rfl, rfl⟩
          refine R.go 1 (R.any1 6 (by kernel_rfl) (by kernel_rfl) ?_)
          refine R.lit (s := 1) (n := 6) (cs := rows eI [0, 1, 2, 3, 8, 9]) (by kernel_rfl) (by kernel_rfl) ?_
          refine R.go 1 (R.any1 7 (by kernel_rfl) (by kernel_rfl) ?_)
          refine R.callX (CallX.inF 0 usC frC (CallX.inF 1 [] [] (CallX.perm [1, 0, 2] [1, 0, 2] (CallX.box 2 26 [AI n_91, LI xs_92] (CallX.box 1 26 [AI 0, .nil] (pickX_c_r2 c p1_115 h1_116 [0, 1, 2, 3, 8, 9] 26 2 1 [AI 0, .nil] 26 2 1 [AI n_91, LI xs_92] hc (by simp)) (by kernel_rfl) (by kernel_rfl) (by kernel_rfl) (by kernel_rfl) (by rintro _ _ ⟨_, _, _, rfl, rfl⟩; exact ⟨by kernel_rfl, by kernel_rfl, by kernel_rfl⟩)) (by kernel_rfl) (by kernel_rfl) (by kernel_rfl) (by kernel_rfl) (by rintro _ _ ⟨_, ⟨_, _, _, rfl, rfl⟩, rfl⟩; exact ⟨by kernel_rfl, by kernel_rfl, by kernel_rfl⟩)) (by kernel_rfl) (by kernel_rfl) (by kernel_rfl) (by rintro _ _ ⟨_, ⟨_, ⟨_, _, _, rfl, rfl⟩, rfl⟩, rfl⟩; exact Nat.le_of_ble_eq_true (by kernel_rfl))) (Nat.le_of_ble_eq_true (by kernel_rfl)) (by kernel_rfl) (by kernel_rfl) (by rintro _ _ ⟨_, _, ⟨_, ⟨_, ⟨_, _, _, rfl, rfl⟩, rfl⟩, rfl⟩, rfl, rfl⟩; exact Nat.le_of_ble_eq_true (by kernel_rfl))) (Nat.le_of_ble_eq_true (by kernel_rfl)) (by kernel_rfl) (by kernel_rfl) (by rintro _ _ ⟨_, _, ⟨_, _, ⟨_, ⟨_, ⟨_, _, _, rfl, rfl⟩, rfl⟩, rfl⟩, rfl, rfl⟩, rfl, rfl⟩; exact Nat.le_of_ble_eq_true (by kernel_rfl))) (by kernel_rfl) (by kernel_rfl) (by kernel_rfl) ?_
          rintro _ _ ⟨_, _, ⟨_, _, ⟨_, _, ⟨_, ⟨_, ⟨v_117, p1_118, h1_119, rfl, rfl⟩, rfl⟩, rfl⟩, rfl, rfl⟩, rfl, rfl⟩, rfl, rfl⟩
          refine R.go 1 (R.any1 8 (by kernel_rfl) (by kernel_rfl) ?_)
          refine R.go 2 (R.any1 9 (by kernel_rfl) (by kernel_rfl) ?_)
          refine R.go 2 (R.any1 10 (by kernel_rfl) (by kernel_rfl) ?_)
          refine R.go 2 (R.any0 (by kernel_rfl) ?_)
          exact R.retX (res := .tup [.agg [AI n_91, LI xs_92], AI v_114, AI v_117]) (hp' := [.dead, .box 26 [AI n_91, LI xs_92], .frame [] [], .box 112 [LB c, AI (p1_118 : Int), .int .u64 h1_119], .box 26 [AI n_91, LI xs_92]]) (by kernel_rfl) (by kernel_rfl) (by kernel_rfl) (by kernel_rfl) ⟨[], by kernel_rfl, by decide, n_91, xs_92, v_114, v_117, by first | assumption | omega, by kernel_rfl, by kernel_rfl⟩
        · refine R.lit (s := 1) (n := 6) (cs := rows eI [0, 1, 2, 3, 8, 9]) (by kernel_rfl) (by kernel_rfl) ?_
          refine R.go 1 (R.any1 4 (by kernel_rfl) (by kernel_rfl) ?_)
          refine R.callX (CallX.inF 0 usC frC (CallX.inF 1 [] [] (CallX.perm [1, 0, 2] [1, 0, 2] (CallX.box 2 26 [AI n_91, LI xs_92] (CallX.box 1 26 [AI 0, .nil] (numX_c_r2 c p1_93 h1_94 n_91 26 2 1 [AI 0, .nil] 26 2 1 [AI n_91, LI xs_92] hc) (by kernel_rfl) (by kernel_rfl) (by kernel_rfl) (by kernel_rfl) (by rintro _ _ ⟨_, _, _, rfl, rfl⟩; exact ⟨by kernel_rfl, by kernel_rfl, by kernel_rfl⟩)) (by kernel_rfl) (by kernel_rfl) (by kernel_rfl) (by kernel_rfl) (by rintro _ _ ⟨_, ⟨_, _, _, rfl, rfl⟩, rfl⟩; exact ⟨by kernel_rfl, by kernel_rfl, by kernel_rfl⟩)) (by kernel_rfl) (by kernel_rfl) (by kernel_rfl) (by rintro _ _ ⟨_, ⟨_, ⟨_, _, _, rfl, rfl⟩, rfl⟩, rfl⟩; exact Nat.le_of_ble_eq_true (by kernel_rfl))) (Nat.le_of_ble_eq_true (by kernel_rfl)) (by kernel_rfl) (by kernel_rfl) (by rintro _ _ ⟨_, _, ⟨_, ⟨_, ⟨_, _, _, rfl, rfl⟩, rfl⟩, rfl⟩, rfl, rfl⟩; exact Nat.le_of_ble_eq_true (by kernel_rfl))) (Nat.le_of_ble_eq_true (by kernel_rfl)) (by kernel_rfl) (by kernel_rfl) (by rintro _ _ ⟨_, _, ⟨_, _, ⟨_, ⟨_, ⟨_, _, _, rfl, rfl⟩, rfl⟩, rfl⟩, rfl, rfl⟩, rfl, rfl⟩; exact Nat.le_of_ble_eq_true (by kernel_rfl))) (by kernel_rfl) (by kernel_rfl) (by kernel_rfl) ?_
          rintro _ _ ⟨_, _, ⟨_, _, ⟨_, _, ⟨_, ⟨_, ⟨v_120, p1_121, h1_122, rfl, rfl⟩, rfl⟩, rfl⟩, rfl, rfl⟩, rfl, rfl⟩, rfl, rfl⟩
          refine R.go 1 (R.any1 7 (by kernel_rfl) (by kernel_rfl) ?_)
          refine R.callX (CallX.inF 0 usC frC (CallX.inF 1 [] [] (CallX.perm [1, 0, 2] [1, 0, 2] (CallX.box 2 26 [AI n_91, LI xs_92] (CallX.box 1 26 [AI 0, .nil] (pickX_c_r2 c p1_121 h1_122 [0, 1, 2, 3, 8, 9] 26 2 1 [AI 0, .nil] 26 2 1 [AI n_91, LI xs_92] hc (by simp)) (by kernel_rfl) (by kernel_rfl) (by kernel_rfl) (by kernel_rfl) (by rintro _ _ ⟨_, _, _, rfl, rfl⟩; exact ⟨by kernel_rfl, by kernel_rfl, by kernel_rfl⟩)) (by kernel_rfl) (by kernel_rfl) (by kernel_rfl) (by kernel_rfl) (by rintro _ _ ⟨_, ⟨_, _, _, rfl, rfl⟩, rfl⟩; exact ⟨by kernel_rfl, by kernel_rfl, by kernel_rfl⟩)) (by kernel_rfl) (by kernel_rfl) (by kernel_rfl) (by rintro _ _ ⟨_, ⟨_, ⟨_, _, _, rfl, rfl⟩, rfl⟩, rfl⟩; exact Nat.le_of_ble_eq_true (by kernel_rfl))) (Nat.le_of_ble_eq_true (by kernel_rfl)) (by kernel_rfl) (by kernel_rfl) (by rintro _ _ ⟨_, _, ⟨_, ⟨_, ⟨_, _, _, rfl, rfl⟩, rfl⟩, rfl⟩, rfl, rfl⟩; exact Nat.le_of_ble_eq_true (by kernel_rfl))) (Nat.le_of_ble_eq_true (by kernel_rfl)) (by kernel_rfl) (by kernel_rfl) (by rintro _ _ ⟨_, _, ⟨_, _, ⟨_, ⟨_, ⟨_, _, _, rfl, rfl⟩, rfl⟩, rfl⟩, rfl, rfl⟩, rfl, rfl⟩; exact Nat.le_of_ble_eq_true (by kernel_rfl))) (by kernel_rfl) (by kernel_rfl) (by kernel_rfl) ?_
          rintro _ _ ⟨_, _, ⟨_, _, ⟨_, _, ⟨_, ⟨_, ⟨v_123, p1_124, h1_125, rfl, rfl⟩, rfl⟩, rfl⟩, rfl, rfl⟩, rfl, rfl⟩, rfl, rfl⟩
          refine R.go 1 (R.any1 8 (by kernel_rfl) (by kernel_rfl) ?_)
          refine R.go 2 (R.any1 9 (by kernel_rfl) (by kernel_rfl) ?_)
          refine R.go 2 (R.any1 10 (by kernel_rfl) (by kernel_rfl) ?_)
          refine R.go 2 (R.any0 (by kernel_rfl) ?_)
          exact R.retX (res := .tup [.agg [AI n_91, LI xs_92], AI v_120, AI v_123]) (hp' := [.dead, .box 26 [AI n_91, LI xs_92], .frame [] [], .box 112 [LB c, AI (p1_124 : Int), .int .u64 h1_125], .box 26 [AI n_91, LI xs_92]]) (by kernel_rfl) (by kernel_rfl) (by kernel_rfl) (by kernel_rfl) ⟨[], by kernel_rfl, by decide, n_91, xs_92, v_120, v_123, by first | assumption | omega, by kernel_rfl, by kernel_rfl⟩
      · refine R.callX (CallX.inF 0 usC frC (CallX.inF 1 [] [] (CallX.perm [1, 0, 2] [1, 0, 2] (CallX.box 2 26 [AI n_91, LI xs_92] (CallX.box 1 26 [AI 0, .nil] (numX_c_r2 c p1_93 h1_94 n_91 26 2 1 [AI 0, .nil] 26 2 1 [AI n_91, LI xs_92] hc) (by kernel_rfl) (by kernel_rfl) (by kernel_rfl) (by kernel_rfl) (by rintro _ _ ⟨_, _, _, rfl, rfl⟩; exact ⟨by kernel_rfl, by kernel_rfl, by kernel_rfl⟩)) (by kernel_rfl) (by kernel_rfl) (by kernel_rfl) (by kernel_rfl) (by rintro _ _ ⟨_, ⟨_, _, _, rfl, rfl⟩, rfl⟩; exact ⟨by kernel_rfl, by kernel_rfl, by kernel_rfl⟩)) (by kernel_rfl) (by kernel_rfl) (by kernel_rfl) (by rintro _ _ ⟨_, ⟨_, ⟨_, _, _, rfl, rfl⟩, rfl⟩, rfl⟩; exact Nat.le_of_ble_eq_true (by kernel_rfl))) (Nat.le_of_ble_eq_true (by kernel_rfl)) (by kernel_rfl) (by kernel_rfl) (by rintro _ _ ⟨_, _, ⟨_, ⟨_, ⟨_, _, _, rfl, rfl⟩, rfl⟩, rfl⟩, rfl, rfl⟩; exact Nat.le_of_ble_eq_true (by kernel_rfl))) (Nat.le_of_ble_eq_true (by kernel_rfl)) (by kernel_rfl) (by kernel_rfl) (by rintro _ _ ⟨_, _, ⟨_, _, ⟨_, ⟨_, ⟨_, _, _, rfl, rfl⟩, rfl⟩, rfl⟩, rfl, rfl⟩, rfl, rfl⟩; exact Nat.le_of_ble_eq_true (by kernel_rfl))) (by kernel_rfl) (by kernel_rfl) (by kernel_rfl) ?_
        rintro _ _ ⟨_, _, ⟨_, _, ⟨_, _, ⟨_, ⟨_, ⟨v_126, p1_127, h1_128, rfl, rfl⟩, rfl⟩, rfl⟩, rfl, rfl⟩, rfl, rfl⟩, rfl, rfl⟩
        refine R.go 1 (R.any2 0 6 (by kernel_rfl) (by kernel_rfl) ?_ ?_)
        · refine R.go 2 (R.any1 6 (by kernel_rfl) (by kernel_rfl) ?_)
          refine R.lit (s := 1) (n := 6) (cs := rows eI [0, 1, 2, 3, 8, 9]) (by kernel_rfl) (by kernel_rfl) ?_
          refine R.go 1 (R.any1 7 (by kernel_rfl) (by kernel_rfl) ?_)
          refine R.callX (CallX.inF 0 usC frC (CallX.inF 1 [] [] (CallX.perm [1, 0, 2] [1, 0, 2] (CallX.box 2 26 [AI n_91, LI xs_92] (CallX.box 1 26 [AI 0, .nil] (pickX_c_r2 c p1_127 h1_128 [0, 1, 2, 3, 8, 9] 26 2 1 [AI 0, .nil] 26 2 1 [AI n_91, LI xs_92] hc (by simp)) (by kernel_rfl) (by kernel_rfl) (by kernel_rfl) (by kernel_rfl) (by rintro _ _ ⟨_, _, _, rfl, rfl⟩; exact ⟨by kernel_rfl, by kernel_rfl, by kernel_rfl⟩)) (by kernel_rfl) (by kernel_rfl) (by kernel_rfl) (by kernel_rfl) (by rintro _ _ ⟨_, ⟨_, _, _, rfl, rfl⟩, rfl⟩; exact ⟨by kernel_rfl, by kernel_rfl, by kernel_rfl⟩)) (by kernel_rfl) (by kernel_rfl) (by kernel_rfl) (by rintro _ _ ⟨_, ⟨_, ⟨_, _, _, rfl, rfl⟩, rfl⟩, rfl⟩; exact Nat.le_of_ble_eq_true (by kernel_rfl))) (Nat.le_of_ble_eq_true (by kernel_rfl)) (by kernel_rfl) (by kernel_rfl) (by rintro _ _ ⟨_, _, ⟨_, ⟨_, ⟨_, _, _, rfl, rfl⟩, rfl⟩, rfl⟩, rfl, rfl⟩; exact Nat.le_of_ble_eq_true (by kernel_rfl))) (Nat.le_of_ble_eq_true (by kernel_rfl)) (by kernel_rfl) (by kernel_rfl) (by rintro _ _ ⟨_, _, ⟨_, _, ⟨_, ⟨_, ⟨_, _, _, rfl, rfl⟩, rfl⟩, rfl⟩, rfl, rfl⟩, rfl, rfl⟩; exact Nat.le_of_ble_eq_true (by kernel_rfl))) (by kernel_rfl) (by kernel_rfl) (by kernel_rfl) ?_
          rintro _ _ ⟨_, _, ⟨_, _, ⟨_, _, ⟨_, ⟨_, ⟨v_129, p1_130, h1_131, rfl, rfl⟩, rfl⟩, rfl⟩, rfl, rfl⟩, rfl, rfl⟩, rfl, rfl⟩
          refine R.go 1 (R.any1 8 (by kernel_rfl) (by kernel_rfl) ?_)
          refine R.go 2 (R.any1 9 (by kernel_rfl) (by kernel_rfl) ?_)
          refine R.go 2 (R.any1 10 (by kernel_rfl) (by kernel_rfl) ?_)
          refine R.go 2 (R.any0 (by kernel_rfl) ?_)
          exact R.retX (res := .tup [.agg [AI n_91, LI xs_92], AI v_126, AI v_129]) (hp' := [.dead, .box 26 [AI n_91, LI xs_92], .frame [] [], .box 112 [LB c, AI (p1_130 : Int), .int .u64 h1_131], .box 26 [AI n_91, LI xs_92]]) (by kernel_rfl) (by kernel_rfl) (by kernel_rfl) (by kernel_rfl) ⟨[], by kernel_rfl, by decide, n_91, xs_92, v_126, v_129, by first | assumption | omega, by kernel_rfl, by kernel_rfl⟩
        · refine R.lit (s := 1) (n := 6) (cs := rows eI [0, 1, 2, 3, 8, 9]) (by kernel_rfl) (by kernel_rfl) ?_
          refine R.go 1 (R.any2 0 7 (by kernel_rfl) (by kernel_rfl) ?_ ?_)
          · refine R.go 2 (R.any1 7 (by kernel_rfl) (by kernel_rfl) ?_)
            refine R.callX (CallX.inF 0 usC frC (CallX.inF 1 [] [] (CallX.perm [1, 0, 2] [1, 0, 2] (CallX.box 2 26 [AI n_91, LI xs_92] (CallX.box 1 26 [AI 0, .nil] (pickX_c_r2 c p1_127 h1_128 [0, 1, 2, 3, 8, 9] 26 2 1 [AI 0, .nil] 26 2 1 [AI n_91, LI xs_92] hc (by simp)) (by kernel_rfl) (by kernel_rfl) (by kernel_rfl) (by kernel_rfl) (by rintro _ _ ⟨_, _, _, rfl, rfl⟩; exact ⟨by kernel_rfl, by kernel_rfl, by kernel_rfl⟩)) (by kernel_rfl) (by kernel_rfl) (by kernel_rfl) (by kernel_rfl) (by rintro _ _ ⟨_, ⟨_, _, _, rfl, rfl⟩, rfl⟩; exact ⟨by kernel_rfl, by kernel_rfl, by kernel_rfl⟩)) (by kernel_rfl) (by kernel_rfl) (by kernel_rfl) (by rintro _ _ ⟨_, ⟨_, ⟨_, _, _, rfl, rfl⟩, rfl⟩, rfl⟩; exact Nat.le_of_ble_eq_true (by kernel_rfl))) (Nat.le_of_ble_eq_true (by kernel_rfl)) (by kernel_rfl) (by kernel_rfl) (by rintro _ _ ⟨_, _, ⟨_, ⟨_, ⟨_, _, _, rfl, rfl⟩, rfl⟩, rfl⟩, rfl, rfl⟩; exact Nat.le_of_ble_eq_true (by kernel_rfl))) (Nat.le_of_ble_eq_true (by kernel_rfl)) (by kernel_rfl) (by kernel_rfl) (by rintro _ _ ⟨_, _, ⟨_, _, ⟨_, ⟨_, ⟨_, _, _, rfl, rfl⟩, rfl⟩, rfl⟩, rfl, rfl⟩, rfl, rfl⟩; exact Nat.le_of_ble_eq_true (by kernel_rfl))) (by kernel_rfl) (by kernel_rfl) (by kernel_rfl) ?_
            rintro _ _ ⟨_, _, ⟨_, _, ⟨_, _, ⟨_, ⟨_, ⟨v_132, p1_133, h1_134, rfl, rfl⟩, rfl⟩, rfl⟩, rfl, rfl⟩, rfl, rfl⟩, rfl, rfl⟩
            refine R.go 1 (R.any1 8 (by kernel_rfl) (by kernel_rfl) ?_)
            refine R.go 2 (R.any1 9 (by kernel_rfl) (by kernel_rfl) ?_)
            refine R.go 2 (R.any1 10 (by kernel_rfl) (by kernel_rfl) ?_)
            refine R.go 2 (R.any0 (by kernel_rfl) ?_)
            exact R.retX (res := .tup [.agg [AI n_91, LI xs_92], AI v_126, AI v_132]) (hp' := [.dead, .box 26 [AI n_91, LI xs_92], .frame [] [], .box 112 [LB c, AI (p1_133 : Int), .int .u64 h1_134], .box 26 [AI n_91, LI xs_92]]) (by kernel_rfl) (by kernel_rfl) (by kernel_rfl) (by kernel_rfl) ⟨[], by kernel_rfl, by decide, n_91, xs_92, v_126, v_132, by first | assumption | omega, by kernel_rfl, by kernel_rfl⟩
          · refine R.callX (CallX.inF 0 usC frC (CallX.inF 1 [] [] (CallX.perm [1, 0, 2] [1, 0, 2] (CallX.box 2 26 [AI n_91, LI xs_92] (CallX.box 1 26 [AI 0, .nil] (pickX_c_r2 c p1_127 h1_128 [0, 1, 2, 3, 8, 9] 26 2 1 [AI 0, .nil] 26 2 1 [AI n_91, LI xs_92] hc (by simp)) (by kernel_rfl) (by kernel_rfl) (by kernel_rfl) (by kernel_rfl) (by rintro _ _ ⟨_, _, _, rfl, rfl⟩; exact ⟨by kernel_rfl, by kernel_rfl, by kernel_rfl⟩)) (by kernel_rfl) (by kernel_rfl) (by kernel_rfl) (by kernel_rfl) (by rintro _ _ ⟨_, ⟨_, _, _, rfl, rfl⟩, rfl⟩; exact ⟨by kernel_rfl, by kernel_rfl, by kernel_rfl⟩)) (by kernel_rfl) (by kernel_rfl) (by kernel_rfl) (by rintro _ _ ⟨_, ⟨_, ⟨_, _, _, rfl, rfl⟩, rfl⟩, rfl⟩; exact Nat.le_of_ble_eq_true (by kernel_rfl))) (Nat.le_of_ble_eq_true (by kernel_rfl)) (by kernel_rfl) (by kernel_rfl) (by rintro _ _ ⟨_, _, ⟨_, ⟨_, ⟨_, _, _, rfl, rfl⟩, rfl⟩, rfl⟩, rfl, rfl⟩; exact Nat.le_of_ble_eq_true (by kernel_rfl))) (Nat.le_of_ble_eq_true (by kernel_rfl)) (by kernel_rfl) (by kernel_rfl) (by rintro _ _ ⟨_, _, ⟨_, _, ⟨_, ⟨_, ⟨_, _, _, rfl, rfl⟩, rfl⟩, rfl⟩, rfl, rfl⟩, rfl, rfl⟩; exact Nat.le_of_ble_eq_true (by kernel_rfl))) (by kernel_rfl) (by kernel_rfl) (by kernel_rfl) ?_
            rintro _ _ ⟨_, _, ⟨_, _, ⟨_, _, ⟨_, ⟨_, ⟨v_135, p1_136, h1_137, rfl, rfl⟩, rfl⟩, rfl⟩, rfl, rfl⟩, rfl, rfl⟩, rfl, rfl⟩
            refine R.go 1 (R.any1 0 (by kernel_rfl) (by kernel_rfl) ?_)
            refine R.go 2 (R.any1 8 (by kernel_rfl) (by kernel_rfl) ?_)
            refine R.go 2 (R.any1 9 (by kernel_rfl) (by kernel_rfl) ?_)
            refine R.go 2 (R.any1 10 (by kernel_rfl) (by kernel_rfl) ?_)
            refine R.go 2 (R.any0 (by kernel_rfl) ?_)
            exact R.retX (res := .tup [.agg [AI n_91, LI xs_92], AI v_126, AI v_135]) (hp' := [.dead, .box 26 [AI n_91, LI xs_92], .frame [] [], .box 112 [LB c, AI (p1_136 : Int), .int .u64 h1_137], .box 26 [AI n_91, LI xs_92]]) (by kernel_rfl) (by kernel_rfl) (by kernel_rfl) (by kernel_rfl) ⟨[], by kernel_rfl, by decide, n_91, xs_92, v_126, v_135, by first | assumption | omega, by kernel_rfl, by kernel_rfl⟩
      · refine R.lit (s := 1) (n := 6) (cs := rows eI [0, 1, 2, 3, 8, 9]) (by kernel_rfl) (by kernel_rfl) ?_
        refine R.go 1 (R.any2 0 4 (by kernel_rfl) (by kernel_rfl) ?_ ?_)
        · refine R.go 2 (R.any1 4 (by kernel_rfl) (by kernel_rfl) ?_)
          refine R.callX (CallX.inF 0 usC frC (CallX.inF 1 [] [] (CallX.perm [1, 0, 2] [1, 0, 2] (CallX.box 2 26 [AI n_91, LI xs_92] (CallX.box 1 26 [AI 0, .nil] (numX_c_r2 c p1_93 h1_94 n_91 26 2 1 [AI 0, .nil] 26 2 1 [AI n_91, LI xs_92] hc) (by kernel_rfl) (by kernel_rfl) (by kernel_rfl) (by kernel_rfl) (by rintro _ _ ⟨_, _, _, rfl, rfl⟩; exact ⟨by kernel_rfl, by kernel_rfl, by kernel_rfl⟩)) (by kernel_rfl) (by kernel_rfl) (by kernel_rfl) (by kernel_rfl) (by rintro _ _ ⟨_, ⟨_, _, _, rfl, rfl⟩, rfl⟩; exact ⟨by kernel_rfl, by kernel_rfl, by kernel_rfl⟩)) (by kernel_rfl) (by kernel_rfl) (by kernel_rfl) (by rintro _ _ ⟨_, ⟨_, ⟨_, _, _, rfl, rfl⟩, rfl⟩, rfl⟩; exact Nat.le_of_ble_eq_true (by kernel_rfl))) (Nat.le_of_ble_eq_true (by kernel_rfl)) (by kernel_rfl) (by kernel_rfl) (by rintro _ _ ⟨_, _, ⟨_, ⟨_, ⟨_, _, _, rfl, rfl⟩, rfl⟩, rfl⟩, rfl, rfl⟩; exact Nat.le_of_ble_eq_true (by kernel_rfl))) (Nat.le_of_ble_eq_true (by kernel_rfl)) (by kernel_rfl) (by kernel_rfl) (by rintro _ _ ⟨_, _, ⟨_, _, ⟨_, ⟨_, ⟨_, _, _, rfl, rfl⟩, rfl⟩, rfl⟩, rfl, rfl⟩, rfl, rfl⟩; exact Nat.le_of_ble_eq_true (by kernel_rfl))) (by kernel_rfl) (by kernel_rfl) (by kernel_rfl) ?_
          rintro _ _ ⟨_, _, ⟨_, _, ⟨_, _, ⟨_, ⟨_, ⟨v_138, p1_139, h1_140, rfl, rfl⟩, rfl⟩, rfl⟩, rfl, rfl⟩, rfl, rfl⟩, rfl, rfl⟩
          refine R.go 1 (R.any1 7 (by kernel_rfl) (by kernel_rfl) ?_)
          refine R.callX (CallX.inF 0 usC frC (CallX.inF 1 [] [] (CallX.perm [1, 0, 2] [1, 0, 2] (CallX.box 2 26 [AI n_91, LI xs_92] (CallX.box 1 26 [AI 0, .nil] (pickX_c_r2 c p1_139 h1_140 [0, 1, 2, 3, 8, 9] 26 2 1 [AI 0, .nil] 26 2 1 [AI n_91, LI xs_92] hc (by simp)) (by kernel_rfl) (by kernel_rfl) (by kernel_rfl) (by kernel_rfl) (by rintro _ _ ⟨_, _, _, rfl, rfl⟩; exact ⟨by kernel_rfl, by kernel_rfl, by kernel_rfl⟩)) (by kernel_rfl) (by kernel_rfl) (by kernel_rfl) (by kernel_rfl) (by rintro _ _ ⟨_, ⟨_, _, _, rfl, rfl⟩, rfl⟩; exact ⟨by kernel_rfl, by kernel_rfl, by kernel_rfl⟩)) (by kernel_rfl) (by kernel_rfl) (by kernel_rfl) (by rintro _ _ ⟨_, ⟨_, ⟨_, _, _, rfl, rfl⟩, rfl⟩, rfl⟩; exact Nat.le_of_ble_eq_true (by kernel_rfl))) (Nat.le_of_ble_eq_true (by kernel_rfl)) (by kernel_rfl) (by kernel_rfl) (by rintro _ _ ⟨_, _, ⟨_, ⟨_, ⟨_, _, _, rfl, rfl⟩, rfl⟩, rfl⟩, rfl, rfl⟩; exact Nat.le_of_ble_eq_true (by kernel_rfl))) (Nat.le_of_ble_eq_true (by kernel_rfl)) (by kernel_rfl) (by kernel_rfl) (by rintro _ _ ⟨_, _, ⟨_, _, ⟨_, ⟨_, ⟨_, _, _, rfl, rfl⟩, rfl⟩, rfl⟩, rfl, rfl⟩, rfl, rfl⟩; exact Nat.le_of_ble_eq_true (by kernel_rfl))) (by kernel_rfl) (by kernel_rfl) (by kernel_rfl) ?_
          rintro _ _ ⟨_, _, ⟨_, _, ⟨_, _, ⟨_, ⟨_, ⟨v_141, p1_142, h1_143, rfl, rfl⟩, rfl⟩, rfl⟩, rfl, rfl⟩, rfl, rfl⟩, rfl, rfl⟩
          refine R.go 1 (R.any1 8 (by kernel_rfl) (by kernel_rfl) ?_)
          refine R.go 2 (R.any1 9 (by kernel_rfl) (by kernel_rfl) ?_)
          refine R.go 2 (R.any1 10 (by kernel_rfl) (by kernel_rfl) ?_)
          refine R.go 2 (R.any0 (by kernel_rfl) ?_)
          exact R.retX (res := .tup [.agg [AI n_91, LI xs_92], AI v_138, AI v_141]) (hp' := [.dead, .box 26 [AI n_91, LI xs_92], .frame [] [], .box 112 [LB c, AI (p1_142 : Int), .int .u64 h1_143], .box 26 [AI n_91, LI xs_92]]) (by kernel_rfl) (by kernel_rfl) (by kernel_rfl) (by kernel_rfl) ⟨[], by kernel_rfl, by decide, n_91, xs_92, v_138, v_141, by first | assumption | omega, by kernel_rfl, by kernel_rfl⟩
        · refine R.callX (CallX.inF 0 usC frC (CallX.inF 1 [] [] (CallX.perm [1, 0, 2] [1, 0, 2] (CallX.box 2 26 [AI n_91, LI xs_92] (CallX.box 1 26 [AI 0, .nil] (numX_c_r2 c p1_93 h1_94 n_91 26 2 1 [AI 0, .nil] 26 2 1 [AI n_91, LI xs_92] hc) (by kernel_rfl) (by kernel_rfl) (by kernel_rfl) (by kernel_rfl) (by rintro _ _ ⟨_, _, _, rfl, rfl⟩; exact ⟨by kernel_rfl, by kernel_rfl, by kernel_rfl⟩)) (by kernel_rfl) (by kernel_rfl) (by kernel_rfl) (by kernel_rfl) (by rintro _ _ ⟨_, ⟨_, _, _, rfl, rfl⟩, rfl⟩; exact ⟨by kernel_rfl, by kernel_rfl, by kernel_rfl⟩)) (by kernel_rfl) (by kernel_rfl) (by kernel_rfl) (by rintro _ _ ⟨_, ⟨_, ⟨_, _, _, rfl, rfl⟩, rfl⟩, rfl⟩; exact Nat.le_of_ble_eq_true (by kernel_rfl))) (Nat.le_of_ble_eq_true (by kernel_rfl)) (by kernel_rfl) (by kernel_rfl) (by rintro _ _ ⟨_, _, ⟨_, ⟨_, ⟨_, _, _, rfl, rfl⟩, rfl⟩, rfl⟩, rfl, rfl⟩; exact Nat.le_of_ble_eq_true (by kernel_rfl))) (Nat.le_of_ble_eq_true (by kernel_rfl)) (by kernel_rfl) (by kernel_rfl) (by rintro _ _ ⟨_, _, ⟨_, _, ⟨_, ⟨_, ⟨_, _, _, rfl, rfl⟩, rfl⟩, rfl⟩, rfl, rfl⟩, rfl, rfl⟩; exact Nat.le_of_ble_eq_true (by kernel_rfl))) (by kernel_rfl) (by kernel_rfl) (by kernel_rfl) ?_
          rintro _ _ ⟨_, _, ⟨_, _, ⟨_, _, ⟨_, ⟨_, ⟨v_144, p1_145, h1_146, rfl, rfl⟩, rfl⟩, rfl⟩, rfl, rfl⟩, rfl, rfl⟩, rfl, rfl⟩
          refine R.go 1 (R.any2 0 7 (by kernel_rfl) (by kernel_rfl) ?_ ?_)
          · refine R.go 2 (R.any1 7 (by kernel_rfl) (by kernel_rfl) ?_)
            refine R.callX (CallX.inF 0 usC frC (CallX.inF 1 [] [] (CallX.perm [1, 0, 2] [1, 0, 2] (CallX.box 2 26 [AI n_91, LI xs_92] (CallX.box 1 26 [AI 0, .nil] (pickX_c_r2 c p1_145 h1_146 [0, 1, 2, 3, 8, 9] 26 2 1 [AI 0, .nil] 26 2 1 [AI n_91, LI xs_92] hc (by simp)) (by kernel_rfl) (by kernel_rfl) (by kernel_rfl) (by kernel_rfl) (by rintro _ _ ⟨_, _, _, rfl, rfl⟩; exact ⟨by kernel_rfl, by kernel_rfl, by kernel_rfl⟩)) (by kernel_rfl) (by kernel_rfl) (by kernel_rfl) (by kernel_rfl) (by rintro _ _ ⟨_, ⟨_, _, _, rfl, rfl⟩, rfl⟩; exact ⟨by kernel_rfl, by kernel_rfl, by kernel_rfl⟩)) (by kernel_rfl) (by kernel_rfl) (by kernel_rfl) (by rintro _ _ ⟨_, ⟨_, ⟨_, _, _, rfl, rfl⟩, rfl⟩, rfl⟩; exact Nat.le_of_ble_eq_true (by kernel_rfl))) (Nat.le_of_ble_eq_true (by kernel_rfl)) (by kernel_rfl) (by kernel_rfl) (by rintro _ _ ⟨_, _, ⟨_, ⟨_, ⟨_, _, _, rfl, rfl⟩, rfl⟩, rfl⟩, rfl, rfl⟩; exact Nat.le_of_ble_eq_true (by kernel_rfl))) (Nat.le_of_ble_eq_true (by kernel_rfl)) (by kernel_rfl) (by kernel_rfl) (by rintro _ _ ⟨_, _, ⟨_, _, ⟨_, ⟨_, ⟨_, _, _, rfl, rfl⟩, rfl⟩, rfl⟩, rfl, rfl⟩, rfl, rfl⟩; exact Nat.le_of_ble_eq_true (by kernel_rfl))) (by kernel_rfl) (by kernel_rfl) (by kernel_rfl) ?_
            rintro _ _ ⟨_, _, ⟨_, _, ⟨_, _, ⟨_, ⟨_, ⟨v_147, p1_148, h1_149, rfl, rfl⟩, rfl⟩, rfl⟩, rfl, rfl⟩, rfl, rfl⟩, rfl, rfl⟩
            refine R.go 1 (R.any1 8 (by kernel_rfl) (by kernel_rfl) ?_)
            refine R.go 2 (R.any1 9 (by kernel_rfl) (by kernel_rfl) ?_)
            refine R.go 2 (R.any1 10 (by kernel_rfl) (by kernel_rfl) ?_)
            refine R.go 2 (R.any0 (by kernel_rfl) ?_)
            exact R.retX (res := .tup [.agg [AI n_91, LI xs_92], AI v_144, AI v_147]) (hp' := [.dead, .box 26 [AI n_91, LI xs_92], .frame [] [], .box 112 [LB c, AI (p1_148 : Int), .int .u64 h1_149], .box 26 [AI n_91, LI xs_92]]) (by kernel_rfl) (by kernel_rfl) (by kernel_rfl) (by kernel_rfl) ⟨[], by kernel_rfl, by decide, n_91, xs_92, v_144, v_147, by first | assumption | omega, by kernel_rfl, by kernel_rfl⟩
          · refine R.callX (CallX.inF 0 usC frC (CallX.inF 1 [] [] (CallX.perm [1, 0, 2] [1, 0, 2] (CallX.box 2 26 [AI n_91, LI xs_92] (CallX.box 1 26 [AI 0, .nil] (pickX_c_r2 c p1_145 h1_146 [0, 1, 2, 3, 8, 9] 26 2 1 [AI 0, .nil] 26 2 1 [AI n_91, LI xs_92] hc (by simp)) (by kernel_rfl) (by kernel_rfl) (by kernel_rfl) (by kernel_rfl) (by rintro _ _ ⟨_, _, _, rfl, rfl⟩; exact ⟨by kernel_rfl, by kernel_rfl, by kernel_rfl⟩)) (by kernel_rfl) (by kernel_rfl) (by kernel_rfl) (by kernel_rfl) (by rintro _ _ ⟨_, ⟨_, _, _, rfl, rfl⟩, rfl⟩; exact ⟨by kernel_rfl, by kernel_rfl, by kernel_rfl⟩)) (by kernel_rfl) (by kernel_rfl) (by kernel_rfl) (by rintro _ _ ⟨_, ⟨_, ⟨_, _, _, rfl, rfl⟩, rfl⟩, rfl⟩; exact Nat.le_of_ble_eq_true (by kernel_rfl))) (Nat.le_of_ble_eq_true (by kernel_rfl)) (by kernel_rfl) (by kernel_rfl) (by rintro _ _ ⟨_, _, ⟨_, ⟨_, ⟨_, _, _, rfl, rfl⟩, rfl⟩, rfl⟩, rfl, rfl⟩; exact Nat.le_of_ble_eq_true (by kernel_rfl))) (Nat.le_of_ble_eq_true (by kernel_rfl)) (by kernel_rfl) (by kernel_rfl) (by rintro _ _ ⟨_, _, ⟨_, _, ⟨_, ⟨_, ⟨_, _, _, rfl, rfl⟩, rfl⟩, rfl⟩, rfl, rfl⟩, rfl, rfl⟩; exact Nat.le_of_ble_eq_true (by kernel_rfl))) (by kernel_rfl) (by kernel_rfl) (by kernel_rfl) ?_
            rintro _ _ ⟨_, _, ⟨_, _, ⟨_, _, ⟨_, ⟨_, ⟨v_150, p1_151, h1_152, rfl, rfl⟩, rfl⟩, rfl⟩, rfl, rfl⟩, rfl, rfl⟩, rfl, rfl⟩
            refine R.go 1 (R.any1 0 (by kernel_rfl) (by kernel_rfl) ?_)
            refine R.go 2 (R.any1 8 (by kernel_rfl) (by kernel_rfl) ?_)
            refine R.go 2 (R.any1 9 (by kernel_rfl) (by kernel_rfl) ?_)
            refine R.go 2 (R.any1 10 (by kernel_rfl) (by kernel_rfl) ?_)
            refine R.go 2 (R.any0 (by kernel_rfl) ?_)
            exact R.retX (res := .tup [.agg [AI n_91, LI xs_92], AI v_144, AI v_150]) (hp' := [.dead, .box 26 [AI n_91, LI xs_92], .frame [] [], .box 112 [LB c, AI (p1_151 : Int), .int .u64 h1_152], .box 26 [AI n_91, LI xs_92]]) (by kernel_rfl) (by kernel_rfl) (by kernel_rfl) (by kernel_rfl) ⟨[], by kernel_rfl, by decide, n_91, xs_92, v_144, v_150, by first | assumption | omega, by kernel_rfl, by kernel_rfl⟩
    · refine R.lit (s := 1) (n := 6) (cs := rows eI [0, 1, 2, 3, 8, 9]) (by kernel_rfl) (by kernel_rfl) ?_
      refine R.go 1 (R.any2 0 3 (by kernel_rfl) (by kernel_rfl) ?_ ?_)
      · refine R.go 2 (R.any1 3 (by kernel_rfl) (by kernel_rfl) ?_)
        refine R.go 2 (R.any1 4 (by kernel_rfl) (by kernel_rfl) ?_)
        refine R.callX (CallX.inF 0 usC frC (CallX.inF 1 [] [] (CallX.perm [1, 0, 2] [1, 0, 2] (CallX.box 2 26 [AI n_91, LI xs_92] (CallX.box 1 26 [AI 0, .nil] (numX_c_r2 c p1_93 h1_94 n_91 26 2 1 [AI 0, .nil] 26 2 1 [AI n_91, LI xs_92] hc) (by kernel_rfl) (by kernel_rfl) (by kernel_rfl) (by kernel_rfl) (by rintro _ _ ⟨_, _, _, rfl, rfl⟩; exact ⟨by kernel_rfl, by kernel_rfl, by kernel_rfl⟩)) (by kernel_rfl) (by kernel_rfl) (by kernel_rfl) (by kernel_rfl) (by rintro _ _ ⟨_, ⟨_, _, _, rfl, rfl⟩, rfl⟩; exact ⟨by kernel_rfl, by kernel_rfl, by kernel_rfl⟩)) (by kernel_rfl) (by kernel_rfl) (by kernel_rfl) (by rintro _ _ ⟨_, ⟨_, ⟨_, _, _, rfl, rfl⟩, rfl⟩, rfl⟩; exact Nat.le_of_ble_eq_true (by kernel_rfl))) (Nat.le_of_ble_eq_true (by kernel_rfl)) (by kernel_rfl) (by kernel_rfl) (by rintro _ _ ⟨_, _, ⟨_, ⟨_, ⟨_, _, _, rfl, rfl⟩, rfl⟩, rfl⟩, rfl, rfl⟩; exact Nat.le_of_ble_eq_true (by kernel_rfl))) (Nat.le_of_ble_eq_true (by kernel_rfl)) (by kernel_rfl) (by kernel_rfl) (by rintro _ _ ⟨_, _, ⟨_, _, ⟨_, ⟨_, ⟨_, _, _, rfl, rfl⟩, rfl⟩, rfl⟩, rfl, rfl⟩, rfl, rfl⟩; exact Nat.le_of_ble_eq_true (by kernel_rfl))) (by kernel_rfl) (by kernel_rfl) (by kernel_rfl) ?_
        rintro _ _ ⟨_, _, ⟨_, _, ⟨_, _, ⟨_, ⟨_, ⟨v_153, p1_154, h1_155, rfl, rfl⟩, rfl⟩, rfl⟩, rfl, rfl⟩, rfl, rfl⟩, rfl, rfl⟩
        refine R.go 1 (R.any1 7 (by kernel_rfl) (by kernel_rfl) ?_)
        refine R.callX (CallX.inF 0 usC frC (CallX.inF 1 [] [] (CallX.perm [1, 0, 2] [1, 0, 2] (CallX.box 2 26 [AI n_91, LI xs_92] (CallX.box 1 26 [AI 0, .nil] (pickX_c_r2 c p1_154 h1_155 [0, 1, 2, 3, 8, 9] 26 2 1 [AI 0, .nil] 26 2 1 [AI n_91, LI xs_92] hc (by simp)) (by kernel_rfl) (by kernel_rfl) (by kernel_rfl) (by kernel_rfl) (by rintro _ _ ⟨_, _, _, rfl, rfl⟩; exact ⟨by kernel_rfl, by kernel_rfl, by kernel_rfl⟩)) (by kernel_rfl) (by kernel_rfl) (by kernel_rfl) (by kernel_rfl) (by rintro _ _ ⟨_, ⟨_, _, _, rfl, rfl⟩, rfl⟩; exact ⟨by kernel_rfl, by kernel_rfl, by kernel_rfl⟩)) (by kernel_rfl) (by kernel_rfl) (by kernel_rfl) (by rintro _ _ ⟨_, ⟨_, ⟨_, _, _, rfl, rfl⟩, rfl⟩, rfl⟩; exact Nat.le_of_ble_eq_true (by kernel_rfl))) (Nat.le_of_ble_eq_true (by kernel_rfl)) (by kernel_rfl) (by kernel_rfl) (by rintro _ _ ⟨_, _, ⟨_, ⟨_, ⟨_, _, _, rfl, rfl⟩, rfl⟩, rfl⟩, rfl, rfl⟩; exact Nat.le_of_ble_eq_true (by kernel_rfl))) (Nat.le_of_ble_eq_true (by kernel_rfl)) (by kernel_rfl) (by kernel_rfl) (by rintro _ _ ⟨_, _, ⟨_, _, ⟨_, ⟨_, ⟨_, _, _, rfl, rfl⟩, rfl⟩, rfl⟩, rfl, rfl⟩, rfl, rfl⟩; exact Nat.le_of_ble_eq_true (by kernel_rfl))) (by kernel_rfl) (by kernel_rfl) (by kernel_rfl) ?_
        rintro _ _ ⟨_, _, ⟨_, _, ⟨_, _, ⟨_, ⟨_, ⟨v_156, p1_157, h1_158, rfl, rfl⟩, rfl⟩, rfl⟩, rfl, rfl⟩, rfl, rfl⟩, rfl, rfl⟩
        refine R.go 1 (R.any1 8 (by kernel_rfl) (by kernel_rfl) ?_)
        refine R.go 2 (R.any1 9 (by kernel_rfl) (by kernel_rfl) ?_)
        refine R.go 2 (R.any1 10 (by kernel_rfl) (by kernel_rfl) ?_)
        refine R.go 2 (R.any0 (by kernel_rfl) ?_)
        exact R.retX (res := .tup [.agg [AI n_91, LI xs_92], AI v_153, AI v_156]) (hp' := [.dead, .box 26 [AI n_91, LI xs_92], .frame [] [], .box 112 [LB c, AI (p1_157 : Int), .int .u64 h1_158], .box 26 [AI n_91, LI xs_92]]) (by kernel_rfl) (by kernel_rfl) (by kernel_rfl) (by kernel_rfl) ⟨[], by kernel_rfl, by decide, n_91, xs_92, v_153, v_156, by first | assumption | omega, by kernel_rfl, by kernel_rfl⟩
      · refine R.go 2 (R.any2 0 4 (by kernel_rfl) (by kernel_rfl) ?_ ?_)
        · refine R.go 2 (R.any1 4 (by kernel_rfl) (by kernel_rfl) ?_)
          refine R.callX (CallX.inF 0 usC frC (CallX.inF 1 [] [] (CallX.perm [1, 0, 2] [1, 0, 2] (CallX.box 2 26 [AI n_91, LI xs_92] (CallX.box 1 26 [AI 0, .nil] (numX_c_r2 c p1_93 h1_94 n_91 26 2 1 [AI 0, .nil] 26 2 1 [AI n_91, LI xs_92] hc) (by kernel_rfl) (by kernel_rfl) (by kernel_rfl) (by kernel_rfl) (by rintro _ _ ⟨_, _, _, rfl, rfl⟩; exact ⟨by kernel_rfl, by kernel_rfl, by kernel_rfl⟩)) (by kernel_rfl) (by kernel_rfl) (by kernel_rfl) (by kernel_rfl) (by rintro _ _ ⟨_, ⟨_, _, _, rfl, rfl⟩, rfl⟩; exact ⟨by kernel_rfl, by kernel_rfl, by kernel_rfl⟩)) (by kernel_rfl) (by kernel_rfl) (by kernel_rfl) (by rintro _ _ ⟨_, ⟨_, ⟨_, _, _, rfl, rfl⟩, rfl⟩, rfl⟩; exact Nat.le_of_ble_eq_true (by kernel_rfl))) (Nat.le_of_ble_eq_true (by kernel_rfl)) (by kernel_rfl) (by kernel_rfl) (by rintro _ _ ⟨_, _, ⟨_, ⟨_, ⟨_, _, _, rfl, rfl⟩, rfl⟩, rfl⟩, rfl, rfl⟩; exact Nat.le_of_ble_eq_true (by kernel_rfl))) (Nat.le_of_ble_eq_true (by kernel_rfl)) (by kernel_rfl) (by kernel_rfl) (by rintro _ _ ⟨_, _, ⟨_, _, ⟨_, ⟨_, ⟨_, _, _, rfl, rfl⟩, rfl⟩, rfl⟩, rfl, rfl⟩, rfl, rfl⟩; exact Nat.le_of_ble_eq_true (by kernel_rfl))) (by kernel_rfl) (by kernel_rfl) (by kernel_rfl) ?_
          rintro _ _ ⟨_, _, ⟨_, _, ⟨_, _, ⟨_, ⟨_, ⟨v_159, p1_160, h1_161, rfl, rfl⟩, rfl⟩, rfl⟩, rfl, rfl⟩, rfl, rfl⟩, rfl, rfl⟩
          refine R.go 1 (R.any1 7 (by kernel_rfl) (by kernel_rfl) ?_)
          refine R.callX (CallX.inF 0 usC frC (CallX.inF 1 [] [] (CallX.perm [1, 0, 2] [1, 0, 2] (CallX.box 2 26 [AI n_91, LI xs_92] (CallX.box 1 26 [AI 0, .nil] (pickX_c_r2 c p1_160 h1_161 [0, 1, 2, 3, 8, 9] 26 2 1 [AI 0, .nil] 26 2 1 [AI n_91, LI xs_92] hc (by simp)) (by kernel_rfl) (by kernel_rfl) (by kernel_rfl) (by kernel_rfl) (by rintro _ _ ⟨_, _, _, rfl, rfl⟩; exact ⟨by kernel_rfl, by kernel_rfl, by kernel_rfl⟩)) (by kernel_rfl) (by kernel_rfl) (by kernel_rfl) (by kernel_rfl) (by rintro _ _ ⟨_, ⟨_, _, _, rfl, rfl⟩, rfl⟩; exact ⟨by kernel_rfl, by kernel_rfl, by kernel_rfl⟩)) (by kernel_rfl) (by kernel_rfl) (by kernel_rfl) (by rintro _ _ ⟨_, ⟨_, ⟨_, _, _, rfl, rfl⟩, rfl⟩, rfl⟩; exact Nat.le_of_ble_eq_true (by kernel_rfl))) (Nat.le_of_ble_eq_true (by kernel_rfl)) (by kernel_rfl) (by kernel_rfl) (by rintro _ _ ⟨_, _, ⟨_, ⟨_, ⟨_, _, _, rfl, rfl⟩, rfl⟩, rfl⟩, rfl, rfl⟩; exact Nat.le_of_ble_eq_true (by kernel_rfl))) (Nat.le_of_ble_eq_true (by kernel_rfl)) (by kernel_rfl) (by kernel_rfl) (by rintro _ _ ⟨_, _, ⟨_, _, ⟨_, ⟨_, ⟨_, _, _, rfl, rfl⟩, rfl⟩, rfl⟩, rfl, rfl⟩, rfl, rfl⟩; exact Nat.le_of_ble_eq_true (by kernel_rfl))) (by kernel_rfl) (by kernel_rfl) (by kernel_rfl) ?_
          rintro _ _ ⟨_, _, ⟨_, _, ⟨_, _, ⟨_, ⟨_, ⟨v_162, p1_163, h1_164, rfl, rfl⟩, rfl⟩, rfl⟩, rfl, rfl⟩, rfl, rfl⟩, rfl, rfl⟩
          refine R.go 1 (R.any1 8 (by kernel_rfl) (by kernel_rfl) ?_)
          refine R.go 2 (R.any1 9 (by kernel_rfl) (by kernel_rfl) ?_)
          refine R.go 2 (R.any1 10 (by kernel_rfl) (by kernel_rfl) ?_)
          refine R.go 2 (R.any0 (by kernel_rfl) ?_)
          exact R.retX (res := .tup [.agg [AI n_91, LI xs_92], AI v_159, AI v_162]) (hp' := [.dead, .box 26 [AI n_91, LI xs_92], .frame [] [], .box 112 [LB c, AI (p1_163 : Int), .int .u64 h1_164], .box 26 [AI n_91, LI xs_92]]) (by kernel_rfl) (by kernel_rfl) (by kernel_rfl) (by kernel_rfl) ⟨[], by kernel_rfl, by decide, n_91, xs_92, v_159, v_162, by first | assumption | omega, by kernel_rfl, by kernel_rfl⟩
        · refine R.callX (CallX.inF 0 usC frC (CallX.inF 1 [] [] (CallX.perm [1, 0, 2] [1, 0, 2] (CallX.box 2 26 [AI n_91, LI xs_92] (CallX.box 1 26 [AI 0, .nil] (numX_c_r2 c p1_93 h1_94 n_91 26 2 1 [AI 0, .nil] 26 2 1 [AI n_91, LI xs_92] hc) (by kernel_rfl) (by kernel_rfl) (by kernel_rfl) (by kernel_rfl) (by rintro _ _ ⟨_, _, _, rfl, rfl⟩; exact ⟨by kernel_rfl, by kernel_rfl, by kernel_rfl⟩)) (by kernel_rfl) (by kernel_rfl) (by kernel_rfl) (by kernel_rfl) (by rintro _ _ ⟨_, ⟨_, _, _, rfl, rfl⟩, rfl⟩; exact ⟨by kernel_rfl, by kernel_rfl, by kernel_rfl⟩)) (by kernel_rfl) (by kernel_rfl) (by kernel_rfl) (by rintro _ _ ⟨_, ⟨_, ⟨_, _, _, rfl, rfl⟩, rfl⟩, rfl⟩; exact Nat.le_of_ble_eq_true (by kernel_rfl))) (Nat.le_of_ble_eq_true (by kernel_rfl)) (by kernel_rfl) (by kernel_rfl) (by rintro _ _ ⟨_, _, ⟨_, ⟨_, ⟨_, _, _, rfl, rfl⟩, rfl⟩, rfl⟩, rfl, rfl⟩; exact Nat.le_of_ble_eq_true (by kernel_rfl))) (Nat.le_of_ble_eq_true (by kernel_rfl)) (by kernel_rfl) (by kernel_rfl) (by rintro _ _ ⟨_, _, ⟨_, _, ⟨_, ⟨_, ⟨_, _, _, rfl, rfl⟩, rfl⟩, rfl⟩, rfl, rfl⟩, rfl, rfl⟩; exact Nat.le_of_ble_eq_true (by kernel_rfl))) (by kernel_rfl) (by kernel_rfl) (by kernel_rfl) ?_
          rintro _ _ ⟨_, _, ⟨_, _, ⟨_, _, ⟨_, ⟨_, ⟨v_165, p1_166, h1_167, rfl, rfl⟩, rfl⟩, rfl⟩, rfl, rfl⟩, rfl, rfl⟩, rfl, rfl⟩
          refine R.go 1 (R.any2 0 7 (by kernel_rfl) (by kernel_rfl) ?_ ?_)
          · refine R.go 2 (R.any1 7 (by kernel_rfl) (by kernel_rfl) ?_)
            refine R.callX (CallX.inF 0 usC frC (CallX.inF 1 [] [] (CallX.perm [1, 0, 2] [1, 0, 2] (CallX.box 2 26 [AI n_91, LI xs_92] (CallX.box 1 26 [AI 0, .nil] (pickX_c_r2 c p1_166 h1_167 [0, 1, 2, 3, 8, 9] 26 2 1 [AI 0, .nil] 26 2 1 [AI n_91, LI xs_92] hc (by simp)) (by kernel_rfl) (by kernel_rfl) (by kernel_rfl) (by kernel_rfl) (by rintro _ _ ⟨_, _, _, rfl, rfl⟩; exact ⟨by kernel_rfl, by kernel_rfl, by kernel_rfl⟩)) (by kernel_rfl) (by kernel_rfl) (by kernel_rfl) (by kernel_rfl) (by rintro _ _ ⟨_, ⟨_, _, _, rfl, rfl⟩, rfl⟩; exact ⟨by kernel_rfl, by kernel_rfl, by kernel_rfl⟩)) (by kernel_rfl) (by kernel_rfl) (by kernel_rfl) (by rintro _ _ ⟨_, ⟨_, ⟨_, _, _, rfl, rfl⟩, rfl⟩, rfl⟩; exact Nat.le_of_ble_eq_true (by kernel_rfl))) (Nat.le_of_ble_eq_true (by kernel_rfl)) (by kernel_rfl) (by kernel_rfl) (by rintro _ _ ⟨_, _, ⟨_, ⟨_, ⟨_, _, _, rfl, rfl⟩, rfl⟩, rfl⟩, rfl, rfl⟩; exact Nat.le_of_ble_eq_true (by kernel_rfl))) (Nat.le_of_ble_eq_true (by kernel_rfl)) (by kernel_rfl) (by kernel_rfl) (by rintro _ _ ⟨_, _, ⟨_, _, ⟨_, ⟨_, ⟨_, _, _, rfl, rfl⟩, rfl⟩, rfl⟩, rfl, rfl⟩, rfl, rfl⟩; exact Nat.le_of_ble_eq_true (by kernel_rfl))) (by kernel_rfl) (by kernel_rfl) (by kernel_rfl) ?_
            rintro _ _ ⟨_, _, ⟨_, _, ⟨_, _, ⟨_, ⟨_, ⟨v_168, p1_169, h1_170, rfl, rfl⟩, rfl⟩, rfl⟩, rfl, rfl⟩, rfl, rfl⟩, rfl, rfl⟩
            refine R.go 1 (R.any1 8 (by kernel_rfl) (by kernel_rfl) ?_)
            refine R.go 2 (R.any1 9 (by kernel_rfl) (by kernel_rfl) ?_)
            refine R.go 2 (R.any1 10 (by kernel_rfl) (by kernel_rfl) ?_)
            refine R.go 2 (R.any0 (by kernel_rfl) ?_)
            exact R.retX (res := .tup [.agg [AI n_91, LI xs_92], AI v_165, AI v_168]) (hp' := [.dead, .box 26 [AI n_91, LI xs_92], .frame [] [], .box 112 [LB c, AI (p1_169 : Int), .int .u64 h1_170], .box 26 [AI n_91, LI xs_92]]) (by kernel_rfl) (by kernel_rfl) (by kernel_rfl) (by kernel_rfl) ⟨[], by kernel_rfl, by decide, n_91, xs_92, v_165, v_168, by first | assumption | omega, by kernel_rfl, by kernel_rfl⟩
          · refine R.callX (CallX.inF 0 usC frC (CallX.inF 1 [] [] (CallX.perm [1, 0, 2] [1, 0, 2] (CallX.box 2 26 [AI n_91, LI xs_92] (CallX.box 1 26 [AI 0, .nil] (pickX_c_r2 c p1_166 h1_167 [0, 1, 2, 3, 8, 9] 26 2 1 [AI 0, .nil] 26 2 1 [AI n_91, LI xs_92] hc (by simp)) (by kernel_rfl) (by kernel_rfl) (by kernel_rfl) (by kernel_rfl) (by rintro _ _ ⟨_, _, _, rfl, rfl⟩; exact ⟨by kernel_rfl, by kernel_rfl, by kernel_rfl⟩)) (by kernel_rfl) (by kernel_rfl) (by kernel_rfl) (by kernel_rfl) (by rintro _ _ ⟨_, ⟨_, _, _, rfl, rfl⟩, rfl⟩; exact ⟨by kernel_rfl, by kernel_rfl, by kernel_rfl⟩)) (by kernel_rfl) (by kernel_rfl) (by kernel_rfl) (by rintro _ _ ⟨_, ⟨_, ⟨_, _, _, rfl, rfl⟩, rfl⟩, rfl⟩; exact Nat.le_of_ble_eq_true (by kernel_rfl))) (Nat.le_of_ble_eq_true (by kernel_rfl)) (by kernel_rfl) (by kernel_rfl) (by rintro _ _ ⟨_, _, ⟨_, ⟨_, ⟨_, _, _, rfl, rfl⟩, rfl⟩, rfl⟩, rfl, rfl⟩; exact Nat.le_of_ble_eq_true (by kernel_rfl))) (Nat.le_of_ble_eq_true (by kernel_rfl)) (by kernel_rfl) (by kernel_rfl) (by rintro _ _ ⟨_, _, ⟨_, _, ⟨_, ⟨_, ⟨_, _, _, rfl, rfl⟩, rfl⟩, rfl⟩, rfl, rfl⟩, rfl, rfl⟩; exact Nat.le_of_ble_eq_true (by kernel_rfl))) (by kernel_rfl) (by kernel_rfl) (by kernel_rfl) ?_
            rintro _ _ ⟨_, _, ⟨_, _, ⟨_, _, ⟨_, ⟨_, ⟨v_171, p1_172, h1_173, rfl, rfl⟩, rfl⟩, rfl⟩, rfl, rfl⟩, rfl, rfl⟩, rfl, rfl⟩
            refine R.go 1 (R.any1 0 (by kernel_rfl) (by kernel_rfl) ?_)
            refine R.go 2 (R.any1 8 (by kernel_rfl) (by kernel_rfl) ?_)
            refine R.go 2 (R.any1 9 (by kernel_rfl) (by kernel_rfl) ?_)
            refine R.go 2 (R.any1 10 (by kernel_rfl) (by kernel_rfl) ?_)
            refine R.go 2 (R.any0 (by kernel_rfl) ?_)
            exact R.retX (res := .tup [.agg [AI n_91, LI xs_92], AI v_165, AI v_171]) (hp' := [.dead, .box 26 [AI n_91, LI xs_92], .frame [] [], .box 112 [LB c, AI (p1_172 : Int), .int .u64 h1_173], .box 26 [AI n_91, LI xs_92]]) (by kernel_rfl) (by kernel_rfl) (by kernel_rfl) (by kernel_rfl) ⟨[], by kernel_rfl, by decide, n_91, xs_92, v_165, v_171, by first | assumption | omega, by kernel_rfl, by kernel_rfl⟩

theorem drSub_c (c : List Int) (hc : BY c) : CallX Try.prog 22 [LB c] [] (fun (resX : AV) (objX : List AObj) => ∃ a : List (Int × Int), (a.length ≤ 1000) ∧ resX = LN a ∧ objX = []) := by
  have hcl : c.length ≤ 4096 := hc.1
  have hcb := hc.2
  refine CallX.dropE (CallX.ofF Try.func22 rfl (by kernel_rfl) ?_)
  intro usC frC hfC
  refine R.go 7 (R.enter (avs := [LB c]) Try.func42 rfl (by kernel_rfl) (by kernel_rfl) (by kernel_rfl) ?_)
  intro us1
  refine R.go 9 (R.cv .u64 (c.length : Int) (by kernel_rfl) (u64_id (by omega) (by omega)) (by kernel_rfl) ?_)
  refine R.go 11 (R.loop ((fun | (i, hh) => (⟨(frm 38 [(0, LB c), (3, .ptr 2 0), (4, AI (i : Int))]), [.frame usC frC, .frame us1 (frm 6 [(0, LB c), (2, .nil), (3, LB c)]), .box 112 [LB c, AI 0, .int .u64 hh]]⟩ : St) : Nat × Int → St)) (fun | (i, hh) => i ≤ c.length) (fun | (i, hh) => c.length - i) (0, (IntKind.u64.wrap (7129 + (c.length : Int)))) [0, 3, 4] none (by kernel_rfl) (by kernel_rfl) (by kernel_rfl) (by omega) ?_)
  rintro ⟨i, hh⟩ h5_1 R2 N3
  refine R.go 8 ?_
  by_cases c6 : (i : Int) < (c.length : Int)
  · refine R.want (decide ((i : Int) < (c.length : Int))) true (by kernel_rfl) (dT c6) ?_
    refine R.go 1 (R.want (decide ((i : Int) < (c.length : Int))) true (by kernel_rfl) (dT c6) ?_)
    refine R.go 1 (R.pick (decide ((i : Int) < (c.length : Int))) true (by kernel_rfl) (dT c6) (by kernel_rfl) ?_)
    refine R.go 1 (R.cond ((i : Int) < 4096) (by kernel_rfl) (fun c7 => ?_) (fun c7 => ?_))
    · have hbi := hcb i (by omega)
      refine R.go 12 (R.idx eB c 0 i (i : Int) (by kernel_rfl) rfl eB_len (by omega) (by kernel_rfl) ?_)
      refine R.go 1 (R.cv .u64 (c.getD i 0) (by kernel_rfl) (u64_id (by omega) (by omega)) (by kernel_rfl) ?_)
      refine R.go 9 (R.ar ((i : Int) + 1) (by kernel_rfl) (by omega) (by omega) (by kernel_rfl) ?_)
      exact R.go 2 (R.stop R2 (by kernel_rfl) (N3 (i + 1, IntKind.u64.wrap ((IntKind.u64.wrap ((IntKind.u64.wrap (hh * 1099511628211)) + (c.getD i 0))) + 11)) [0, 3, 4] none _ (by kernel_rfl) (by kernel_rfl) (by omega) (by show (c.length - (i + 1)) < (c.length - i); omega)))
    · refine R.go 6 (R.back (.ptr 2 0) (frm 6 [(0, LB c), (2, .nil), (3, LB c)]) (by kernel_rfl) (by kernel_rfl) (by kernel_rfl) ?_)
      refine R.deadF 1 (by kernel_rfl) (by kernel_rfl) ?_
      refine R.callX (CallX.inF 0 usC frC (CallX.inF 0 [] [] (anyX_c c 0 hh 16 3 true hc (by omega)) (Nat.le_of_ble_eq_true (by kernel_rfl)) (by kernel_rfl) (by kernel_rfl) (by rintro _ _ ⟨_, _, _, _, rfl, rfl⟩; exact Nat.le_of_ble_eq_true (by kernel_rfl))) (Nat.le_of_ble_eq_true (by kernel_rfl)) (by kernel_rfl) (by kernel_rfl) (by rintro _ _ ⟨_, _, ⟨_, _, _, _, rfl, rfl⟩, rfl, rfl⟩; exact Nat.le_of_ble_eq_true (by kernel_rfl))) (by kernel_rfl) (by kernel_rfl) (by kernel_rfl) ?_
      rintro _ _ ⟨_, _, ⟨_, _, ⟨r_8, p1_9, h1_10, f11, rfl, rfl⟩, rfl, rfl⟩, rfl, rfl⟩
      exact R.go 2 (R.retX (res := LN r_8) (hp' := [.dead, .frame [] [], .box 112 [LB c, AI (p1_9 : Int), .int .u64 h1_10]]) (by kernel_rfl) (by kernel_rfl) (by kernel_rfl) (by kernel_rfl) ⟨[], by kernel_rfl, by decide, r_8, by first | assumption | omega, by kernel_rfl, by kernel_rfl⟩)
  · refine R.skp (decide ((i : Int) < (c.length : Int))) true (by kernel_rfl) (dF c6) (by kernel_rfl) ?_
    refine R.skp (decide ((i : Int) < (c.length : Int))) true (by kernel_rfl) (dF c6) (by kernel_rfl) ?_
    refine R.pick (decide ((i : Int) < (c.length : Int))) false (by kernel_rfl) (dF c6) (by kernel_rfl) ?_
    refine R.go 8 (R.back (.ptr 2 0) (frm 6 [(0, LB c), (2, .nil), (3, LB c)]) (by kernel_rfl) (by kernel_rfl) (by kernel_rfl) ?_)
    refine R.deadF 1 (by kernel_rfl) (by kernel_rfl) ?_
    refine R.callX (CallX.inF 0 usC frC (CallX.inF 0 [] [] (anyX_c c 0 hh 16 3 true hc (by omega)) (Nat.le_of_ble_eq_true (by kernel_rfl)) (by kernel_rfl) (by kernel_rfl) (by rintro _ _ ⟨_, _, _, _, rfl, rfl⟩; exact Nat.le_of_ble_eq_true (by kernel_rfl))) (Nat.le_of_ble_eq_true (by kernel_rfl)) (by kernel_rfl) (by kernel_rfl) (by rintro _ _ ⟨_, _, ⟨_, _, _, _, rfl, rfl⟩, rfl, rfl⟩; exact Nat.le_of_ble_eq_true (by kernel_rfl))) (by kernel_rfl) (by kernel_rfl) (by kernel_rfl) ?_
    rintro _ _ ⟨_, _, ⟨_, _, ⟨r_12, p1_13, h1_14, f15, rfl, rfl⟩, rfl, rfl⟩, rfl, rfl⟩
    exact R.go 2 (R.retX (res := LN r_12) (hp' := [.dead, .frame [] [], .box 112 [LB c, AI (p1_13 : Int), .int .u64 h1_14]]) (by kernel_rfl) (by kernel_rfl) (by kernel_rfl) (by kernel_rfl) ⟨[], by kernel_rfl, by decide, r_12, by first | assumption | omega, by kernel_rfl, by kernel_rfl⟩)

theorem big_c (c : List Int) : CallA Try.prog 7 [LB c] (.bool (decide ((c.length : Int) > 4096))) := by
  refine CallA.of Try.func7 rfl (by kernel_rfl) ?_
  exact R.go 11 (R.retE (.bool (decide ((c.length : Int) > 4096))) (by kernel_rfl) (by kernel_rfl) (by rfl))

theorem lawUn_c (c : List Int) (hcb : ∀ q : Nat, q < c.length → 0 ≤ c.getD q 0 ∧ c.getD q 0 ≤ 255) : CallA Try.prog 4 [LB c] (.bool true) := by
  refine CallA.of Try.func4 rfl (by kernel_rfl) ?_
  refine R.go 8 (R.call true (big_c c) (by kernel_rfl) rfl (by kernel_rfl) ?_)
  refine R.go 1 (R.cond ((c.length : Int) > 4096) (by kernel_rfl) (fun c1 => ?_) (fun c1 => ?_))
  · exact R.go 4 (R.retE (.bool true) (by kernel_rfl) (by kernel_rfl) (by rfl))
  · have hc : BY c := ⟨by omega, hcb⟩
    refine R.go 4 (R.callX (drUn_c c hc) (by kernel_rfl) (by kernel_rfl) (by kernel_rfl) ?_)
    rintro _ _ ⟨n_2, xs_3, w_4, k_5, f6, rfl, rfl⟩
    refine R.go 11 ?_
    by_cases c7 : unC n_2 xs_3 w_4 k_5 = 0
    · refine R.go 3 (R.call true (UFok_impl n_2 xs_3 w_4 k_5 c7 (by first | omega | (simp <;> omega))).frz (by kernel_rfl) rfl (by kernel_rfl) ?_)
      have hu7i : unC n_2 xs_3 w_4 k_5 = 0 → (unA xs_3 w_4 k_5).length ≤ 8 ∧ (unE xs_3 w_4 k_5).length ≤ 8 := fun hz => ⟨(ur_1 hz).2.2.2.2.2.2, (ur_1 hz).2.2.2.1⟩
      refine R.go 14 (R.call true (UFok_spec n_2 xs_3 w_4 k_5 c7 (by first | omega | (simp <;> omega))).frz (by kernel_rfl) rfl (by kernel_rfl) ?_)
      refine R.go 18 (R.call true (likeFr_c ((unA xs_3 w_4 k_5).length) (unA xs_3 w_4 k_5) (by first | omega | (simp <;> omega))) (by kernel_rfl) rfl (by kernel_rfl) ?_)
      refine R.go 5 (R.call true (likeIn_c (unE xs_3 w_4 k_5) (by first | omega | (simp <;> omega))) (by kernel_rfl) rfl (by kernel_rfl) ?_)
      have hz : unC n_2 xs_3 w_4 k_5 = 0 := by assumption
      have hu := ur_1 hz
      have hF1 : okFr n_2 xs_3 = true := hu.1
      have hF2 : okFr ((unA xs_3 w_4 k_5).length : Int) (unA xs_3 w_4 k_5) = true := hu.2.1
      have hu3 := hu.2.2.1
      have hu4 := hu.2.2.2.1
      have hu5 := hu.2.2.2.2.1
      have hu6 := hu.2.2.2.2.2.1
      have hu7 := hu.2.2.2.2.2.2
      refine R.go 16 (R.callX (CallX.box 2 26 [AI ((unA xs_3 w_4 k_5).length), LI (unA xs_3 w_4 k_5)] (CallX.box 1 26 [AI ((unA xs_3 w_4 k_5).length), LI (unA xs_3 w_4 k_5)] (CallX.box 0 26 [AI n_2, LI xs_3] (rollX_c_r3 c 803 26 2 1 [AI n_2, LI xs_3] 26 2 1 [AI ((unA xs_3 w_4 k_5).length), LI (unA xs_3 w_4 k_5)] 26 2 1 [AI ((unA xs_3 w_4 k_5).length), LI (unA xs_3 w_4 k_5)] hc) (by kernel_rfl) (by kernel_rfl) (by kernel_rfl) (by kernel_rfl) (by rintro _ _ ⟨_, rfl, rfl⟩; exact ⟨by kernel_rfl, by kernel_rfl, by kernel_rfl⟩)) (by kernel_rfl) (by kernel_rfl) (by kernel_rfl) (by kernel_rfl) (by rintro _ _ ⟨_, ⟨_, rfl, rfl⟩, rfl⟩; exact ⟨by kernel_rfl, by kernel_rfl, by kernel_rfl⟩)) (by kernel_rfl) (by kernel_rfl) (by kernel_rfl) (by kernel_rfl) (by rintro _ _ ⟨_, ⟨_, ⟨_, rfl, rfl⟩, rfl⟩, rfl⟩; exact ⟨by kernel_rfl, by kernel_rfl, by kernel_rfl⟩)) (by kernel_rfl) (by kernel_rfl) (by kernel_rfl) ?_)
      rintro _ _ ⟨_, ⟨_, ⟨_, ⟨h_8, rfl, rfl⟩, rfl⟩, rfl⟩, rfl⟩
      refine R.go 13 (R.loop ((fun | (i, V, q, hq) => (⟨(frm 151 [(0, LB c), (3, .ptr 0 0), (4, AI w_4), (5, AI k_5), (9, .ptr 1 0), (10, LI (unE xs_3 w_4 k_5)), (12, .ptr 2 0), (13, .ref 3), (14, AI (i : Int))]), [.box 26 [AI n_2, LI xs_3], .box 26 [AI ((unA xs_3 w_4 k_5).length), LI (unA xs_3 w_4 k_5)], .box 77 [LB c, AI (q : Int), .int .u64 hq], rowA eI 2 1 V]⟩ : St) : Nat × (List Int) × Nat × Int → St)) (fun | (i, V, q, hq) => (i ≤ 6) ∧ (V.length = i) ∧ (VAL n_2 V)) (fun | (i, V, q, hq) => 6 - i) (0, [], 0, h_8) [0, 3, 4, 5, 9, 10, 12, 13, 14] (some [0, 2, 3, 4]) (by kernel_rfl) (by kernel_rfl) (by kernel_rfl) ⟨(by omega), (by rfl), (by exact fun j hj => absurd hj (by simp))⟩ ?_)
      rintro ⟨i, V, q, hq⟩ ⟨h12_1, h12_2, h12_3⟩ R9 N10
      refine R.go 6 (R.cond ((i : Int) < 6) (by kernel_rfl) (fun c13 => ?_) (fun c13 => ?_))
      · refine R.go 8 (R.cv .u64 n_2 (by kernel_rfl) (u64_id (by omega) (by omega)) (by kernel_rfl) ?_)
        refine R.shl 1 n_2 (by kernel_rfl) (by omega) (by kernel_rfl) ?_
        refine R.callX (CallX.perm [1, 2, 0, 3] [2, 0, 1, 3] (CallX.box 2 26 [AI ((unA xs_3 w_4 k_5).length), LI (unA xs_3 w_4 k_5)] (CallX.box 1 26 [AI n_2, LI xs_3] (belowX_c_r3 c q hq (shl64 1 n_2) 26 2 1 [AI n_2, LI xs_3] 26 2 1 [AI ((unA xs_3 w_4 k_5).length), LI (unA xs_3 w_4 k_5)] 2 1 V.length (rows eI V) hc) (by kernel_rfl) (by kernel_rfl) (by kernel_rfl) (by kernel_rfl) (by rintro _ _ ⟨_, _, _, _, rfl, rfl⟩; exact ⟨by kernel_rfl, by kernel_rfl, by kernel_rfl⟩)) (by kernel_rfl) (by kernel_rfl) (by kernel_rfl) (by kernel_rfl) (by rintro _ _ ⟨_, ⟨_, _, _, _, rfl, rfl⟩, rfl⟩; exact ⟨by kernel_rfl, by kernel_rfl, by kernel_rfl⟩)) (by kernel_rfl) (by kernel_rfl) (by kernel_rfl) (by rintro _ _ ⟨_, ⟨_, ⟨_, _, _, _, rfl, rfl⟩, rfl⟩, rfl⟩; exact Nat.le_of_ble_eq_true (by kernel_rfl))) (by kernel_rfl) (by kernel_rfl) (by kernel_rfl) ?_
        rintro _ _ ⟨_, _, ⟨_, ⟨_, ⟨v_14, p1_15, h1_16, f17, rfl, rfl⟩, rfl⟩, rfl⟩, rfl, rfl⟩
        refine R.go 1 (R.app eI V [v_14] 3 2 1 8 (by kernel_rfl) eI_one (by decide) (by first | omega | (simp <;> omega)) (by kernel_rfl) ?_)
        refine R.go 5 (R.ar ((i : Int) + 1) (by kernel_rfl) (by omega) (by omega) (by kernel_rfl) ?_)
        exact R.go 2 (R.stop R9 (by kernel_rfl) (N10 (i + 1, V ++ [v_14], p1_15, h1_16) [0, 3, 4, 5, 9, 10, 12, 13, 14] (some [0, 1, 2, 3]) _ (by kernel_rfl) (by kernel_rfl) ⟨(by omega), (by (simp <;> omega)), (by exact val_snoc (by assumption) (by omega) (by omega))⟩ (by show (6 - (i + 1)) < (6 - i); omega)))
      · have hv6 : (V).length = 6 := by omega
        have hVA : VAL n_2 V := by assumption
        have hpv : pvH n_2 (unE xs_3 w_4 k_5) V := ur_2 hz hVA
        have hpl : (pulV (unE xs_3 w_4 k_5) V).length = 6 := by unfold pulV; rw [List.length_map]; exact hv6
        refine R.go 7 (R.call false (PV_impl ((unA xs_3 w_4 k_5).length) (unA xs_3 w_4 k_5) n_2 xs_3 (unE xs_3 w_4 k_5) V (by assumption) hF1 (by first | omega | (simp <;> omega)) hpv (by first | omega | (simp <;> omega))) (by kernel_rfl) (by simp [AV.closed, closedL, AI, ownA_closed eI_closed]) (by kernel_rfl) ?_)
        refine R.go 9 (R.callX0 (drSub_c c hc) (by kernel_rfl) (by rintro _ _ ⟨_, _, rfl, rfl⟩; rfl) (by kernel_rfl) (by kernel_rfl) ?_)
        rintro _ ⟨a_18, f19, rfl, _⟩
        refine R.go 5 (R.call true (DP_spec a_18 (by first | omega | (simp <;> omega))) (by kernel_rfl) rfl (by kernel_rfl) ?_)
        refine R.go 22 ?_
        by_cases c20 : (dpC a_18) = 0
        · refine R.want (!decide ((dpC a_18) = 0)) false (by kernel_rfl) (nF c20) ?_
          refine R.go 1 (R.want (!decide ((dpC a_18) = 0)) false (by kernel_rfl) (nF c20) ?_)
          refine R.go 1 (R.want (!decide ((dpC a_18) = 0)) false (by kernel_rfl) (nF c20) ?_)
          refine R.go 1 (R.pick (!decide ((dpC a_18) = 0)) false (by kernel_rfl) (nF c20) (by kernel_rfl) ?_)
          refine R.go 1 (R.cond ((dpM a_18) > k_5) (by kernel_rfl) (fun c21 => ?_) (fun c21 => ?_))
          · exact R.go 4 (R.retE (.bool true) (by kernel_rfl) (by kernel_rfl) (by rfl))
          · have hdp := dp_ok (by assumption : dpC a_18 = 0)
            have hFa := hdp.1
            have hdm := hdp.2
            have hr3 := ur_3 hz hv6 hVA hFa (by omega)
            have hr4 := hr3.1
            have hr5 := hr3.2.1
            have hr6 := hr3.2.2
            refine R.go 8 (R.call false (TA_impl n_2 xs_3 V w_4 a_18 (by first | omega | (simp <;> omega)) (by first | omega | (simp <;> omega)) (by first | omega | (simp <;> omega))) (by kernel_rfl) (by simp [AV.closed, closedL, AI]) (by kernel_rfl) ?_)
            refine R.go 12 (R.call false (TA_impl ((unA xs_3 w_4 k_5).length) (unA xs_3 w_4 k_5) (pulV (unE xs_3 w_4 k_5) V) 0 a_18 (by first | omega | (simp <;> omega)) (by first | omega | (simp <;> omega)) (by first | omega | (simp <;> omega))) (by kernel_rfl) (by simp [AV.closed, closedL, AI]) (by kernel_rfl) ?_)
            refine R.go 13 (R.call false (TA_spec n_2 xs_3 V w_4 a_18 (by first | omega | (simp <;> omega)) (by first | omega | (simp <;> omega)) (by first | omega | (simp <;> omega))) (by kernel_rfl) (by simp [AV.closed, closedL, AI]) (by kernel_rfl) ?_)
            refine R.go 11 ?_
            by_cases c22 : (tatC n_2 xs_3 V w_4 a_18) = 0
            · refine R.want (decide ((tatC n_2 xs_3 V w_4 a_18) = 0)) true (by kernel_rfl) (dT c22) ?_
              refine R.go 1 (R.want (decide ((tatC n_2 xs_3 V w_4 a_18) = 0)) true (by kernel_rfl) (dT c22) ?_)
              refine R.go 1 (R.pick (decide ((tatC n_2 xs_3 V w_4 a_18) = 0)) true (by kernel_rfl) (dT c22) (by kernel_rfl) ?_)
              refine R.go 1 ?_
              by_cases c23 : (tatC ((unA xs_3 w_4 k_5).length) (unA xs_3 w_4 k_5) (pulV (unE xs_3 w_4 k_5) V) 0 a_18) = 0
              · refine R.want (decide ((tatC ((unA xs_3 w_4 k_5).length) (unA xs_3 w_4 k_5) (pulV (unE xs_3 w_4 k_5) V) 0 a_18) = 0)) true (by kernel_rfl) (dT c23) ?_
                refine R.go 1 (R.want (decide ((tatC ((unA xs_3 w_4 k_5).length) (unA xs_3 w_4 k_5) (pulV (unE xs_3 w_4 k_5) V) 0 a_18) = 0)) true (by kernel_rfl) (dT c23) ?_)
                refine R.go 1 (R.want (decide ((tatC ((unA xs_3 w_4 k_5).length) (unA xs_3 w_4 k_5) (pulV (unE xs_3 w_4 k_5) V) 0 a_18) = 0)) true (by kernel_rfl) (dT c23) ?_)
                refine R.go 1 (R.pick (decide ((tatC ((unA xs_3 w_4 k_5).length) (unA xs_3 w_4 k_5) (pulV (unE xs_3 w_4 k_5) V) 0 a_18) = 0)) true (by kernel_rfl) (dT c23) (by kernel_rfl) ?_)
                refine R.go 1 (R.want ((tat n_2 xs_3 V w_4 a_18) == (tat n_2 xs_3 V w_4 a_18)) true (by kernel_rfl) (beq_self_eq_true _) ?_)
                refine R.go 1 (R.want ((tat n_2 xs_3 V w_4 a_18) == (tat n_2 xs_3 V w_4 a_18)) true (by kernel_rfl) (beq_self_eq_true _) ?_)
                refine R.go 1 (R.want ((tat n_2 xs_3 V w_4 a_18) == (tat n_2 xs_3 V w_4 a_18)) true (by kernel_rfl) (beq_self_eq_true _) ?_)
                refine R.go 1 (R.pick ((tat n_2 xs_3 V w_4 a_18) == (tat n_2 xs_3 V w_4 a_18)) true (by kernel_rfl) (beq_self_eq_true _) (by kernel_rfl) ?_)
                exact R.go 2 (R.retE (.bool ((tat ((unA xs_3 w_4 k_5).length) (unA xs_3 w_4 k_5) (pulV (unE xs_3 w_4 k_5) V) 0 a_18) == (tat n_2 xs_3 V w_4 a_18))) (by kernel_rfl) (by kernel_rfl) (by first | (first | rfl | exact congrArg AV.bool hr6) | (exfalso; omega)))
              · refine R.skp (decide ((tatC ((unA xs_3 w_4 k_5).length) (unA xs_3 w_4 k_5) (pulV (unE xs_3 w_4 k_5) V) 0 a_18) = 0)) true (by kernel_rfl) (dF c23) (by kernel_rfl) ?_
                refine R.skp (decide ((tatC ((unA xs_3 w_4 k_5).length) (unA xs_3 w_4 k_5) (pulV (unE xs_3 w_4 k_5) V) 0 a_18) = 0)) true (by kernel_rfl) (dF c23) (by kernel_rfl) ?_
                refine R.skp (decide ((tatC ((unA xs_3 w_4 k_5).length) (unA xs_3 w_4 k_5) (pulV (unE xs_3 w_4 k_5) V) 0 a_18) = 0)) true (by kernel_rfl) (dF c23) (by kernel_rfl) ?_
                refine R.pick (decide ((tatC ((unA xs_3 w_4 k_5).length) (unA xs_3 w_4 k_5) (pulV (unE xs_3 w_4 k_5) V) 0 a_18) = 0)) false (by kernel_rfl) (dF c23) (by kernel_rfl) ?_
                exact R.go 7 (R.retE (.bool false) (by kernel_rfl) (by kernel_rfl) (by first | (first | rfl | exact congrArg AV.bool hr6) | (exfalso; omega)))
            · refine R.skp (decide ((tatC n_2 xs_3 V w_4 a_18) = 0)) true (by kernel_rfl) (dF c22) (by kernel_rfl) ?_
              refine R.skp (decide ((tatC n_2 xs_3 V w_4 a_18) = 0)) true (by kernel_rfl) (dF c22) (by kernel_rfl) ?_
              refine R.pick (decide ((tatC n_2 xs_3 V w_4 a_18) = 0)) false (by kernel_rfl) (dF c22) (by kernel_rfl) ?_
              exact R.go 12 (R.retE (.bool false) (by kernel_rfl) (by kernel_rfl) (by first | (first | rfl | exact congrArg AV.bool hr6) | (exfalso; omega)))
        · refine R.skp (!decide ((dpC a_18) = 0)) false (by kernel_rfl) (nT c20) (by kernel_rfl) ?_
          refine R.skp (!decide ((dpC a_18) = 0)) false (by kernel_rfl) (nT c20) (by kernel_rfl) ?_
          refine R.skp (!decide ((dpC a_18) = 0)) false (by kernel_rfl) (nT c20) (by kernel_rfl) ?_
          refine R.pick (!decide ((dpC a_18) = 0)) true (by kernel_rfl) (nT c20) (by kernel_rfl) ?_
          exact R.go 6 (R.retE (.bool true) (by kernel_rfl) (by kernel_rfl) (by rfl))
    · refine R.go 3 (R.call true (UFbad_impl n_2 xs_3 w_4 k_5 (by assumption) (by first | omega | (simp <;> omega))) (by kernel_rfl) rfl (by kernel_rfl) ?_)
      have hu7i : unC n_2 xs_3 w_4 k_5 = 0 → (unA xs_3 w_4 k_5).length ≤ 8 ∧ (unE xs_3 w_4 k_5).length ≤ 8 := fun hz => ⟨(ur_1 hz).2.2.2.2.2.2, (ur_1 hz).2.2.2.1⟩
      refine R.go 14 (R.call true (UFbad_spec n_2 xs_3 w_4 k_5 (by assumption) (by first | omega | (simp <;> omega))) (by kernel_rfl) rfl (by kernel_rfl) ?_)
      refine R.go 16 (R.want (!decide ((unC n_2 xs_3 w_4 k_5) = (unC n_2 xs_3 w_4 k_5))) false (by kernel_rfl) (nF rfl) ?_)
      refine R.go 1 (R.want (!decide ((unC n_2 xs_3 w_4 k_5) = (unC n_2 xs_3 w_4 k_5))) false (by kernel_rfl) (nF rfl) ?_)
      refine R.go 1 (R.want (!decide ((unC n_2 xs_3 w_4 k_5) = (unC n_2 xs_3 w_4 k_5))) false (by kernel_rfl) (nF rfl) ?_)
      refine R.call true (likeFr_nil 0) (by kernel_rfl) rfl (by kernel_rfl) ?_
      refine R.want (!decide ((unC n_2 xs_3 w_4 k_5) = (unC n_2 xs_3 w_4 k_5))) false (by kernel_rfl) (nF rfl) ?_
      refine R.go 1 (R.pick (!decide ((unC n_2 xs_3 w_4 k_5) = (unC n_2 xs_3 w_4 k_5))) false (by kernel_rfl) (nF rfl) (by kernel_rfl) ?_)
      refine R.go 3 (R.call true (likeIn_nil) (by kernel_rfl) rfl (by kernel_rfl) ?_)
      refine R.go 11 (R.condN ((unC n_2 xs_3 w_4 k_5) = 0) (by kernel_rfl) (fun c24 => ?_) (fun c24 => ?_))
      · exact R.go 4 (R.retE (.bool true) (by kernel_rfl) (by kernel_rfl) (by rfl))
      · exfalso; omega -- no annotation for loop 1; frame (frm 151 [(0, LB c), (2, .bool false), (3, .ptr 0 0), (4, AI w_4), (

end Go.Proofs.Ytgebepfdphmjcaa
