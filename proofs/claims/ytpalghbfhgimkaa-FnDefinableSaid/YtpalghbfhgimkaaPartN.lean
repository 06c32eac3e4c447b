/- Texts of the proof: DF3. -/
import Derived.Test.YtpalghbfhgimkaaPartM

/-! The law FnDefinable. -/
namespace Go.Proofs.Ytpalghbfhgimkaa
open Go.RowKit Go.Abs

theorem mem_ixD {l : List Int} {j : Nat} (h : j < l.length) : l.getD j 0 ∈ l := getD_mem h
theorem ds_pos {n : Int} {xs vs : List Int} {l : List (List (Int × Int))} (h0 : dsC n xs vs l = 0) : 1 ≤ (dsR n xs vs l).length := List.length_pos_of_mem (ds_zero h0)
theorem ds_tv {n : Int} {xs vs : List Int} {l : List (List (Int × Int))} (h0 : dsC n xs vs l = 0) {i : Nat} (hi : i < l.length) : mcode n xs vs (l.getD i []) = 0 ∧ tval n xs vs (l.getD i []) ∈ dsR n xs vs l := by
  obtain ⟨hM, hA⟩ := dsC_ok h0
  have hm : mcode n xs vs (l.getD i []) = 0 := mcode_good hM (allF_get hA i hi)
  exact ⟨hm, by rw [tval, if_pos hm]; exact ds_formula h0 hi⟩
theorem full9_c (n : Int) (h0 : 0 ≤ n) (h1 : n ≤ 60) : CallA Try.prog 25 [AI n] (AI ((shl64 1 n) - 1)) := by
  have hb : 1 ≤ shl64 1 n ∧ shl64 1 n ≤ 4611686018427387904 := shl_rng n h0 (by omega)
  refine CallA.of Try.func25 rfl (by kernel_rfl) ?_
  refine R.go 10 ?_
  by_cases c1 : n < 0
  · refine R.skp (decide (n < 0)) false (by kernel_rfl) (dT c1) (by kernel_rfl) ?_
    refine R.skp (decide (n < 0)) false (by kernel_rfl) (dT c1) (by kernel_rfl) ?_
    refine R.pick (decide (n < 0)) true (by kernel_rfl) (dT c1) (by kernel_rfl) ?_
    exact R.go 6 (R.retE (AI 0) (by kernel_rfl) (by kernel_rfl) (by first | (rfl) | (exfalso; omega)))
  · refine R.want (decide (n < 0)) false (by kernel_rfl) (dF c1) ?_
    refine R.go 1 (R.want (decide (n < 0)) false (by kernel_rfl) (dF c1) ?_)
    refine R.go 1 (R.pick (decide (n < 0)) false (by kernel_rfl) (dF c1) (by kernel_rfl) ?_)
    refine R.go 1 (R.cond (n > 60) (by kernel_rfl) (fun c2 => ?_) (fun c2 => ?_))
    · exact R.go 4 (R.retE (AI 0) (by kernel_rfl) (by kernel_rfl) (by first | (rfl) | (exfalso; omega)))
    · refine R.go 4 (R.cv .u64 n (by kernel_rfl) (u64_id (by omega) (by omega)) (by kernel_rfl) ?_)
      refine R.shl 1 n (by kernel_rfl) (by omega) (by kernel_rfl) ?_
      refine R.ar ((shl64 1 n) - 1) (by kernel_rfl) (by omega) (by omega) (by kernel_rfl) ?_
      exact R.go 2 (R.retE (AI ((shl64 1 n) - 1)) (by kernel_rfl) (by kernel_rfl) (by rfl))

theorem big_c (c : List Int) : CallA Try.prog 18 [LB c] (.bool (decide ((c.length : Int) > 4096))) := by
  refine CallA.of Try.func18 rfl (by kernel_rfl) ?_
  exact R.go 11 (R.retE (.bool (decide ((c.length : Int) > 4096))) (by kernel_rfl) (by kernel_rfl) (by rfl))

set_option maxHeartbeats 4000000 in
theorem lawDef_c (c : List Int) (hcb : ∀ q : Nat, q < c.length → 0 ≤ c.getD q 0 ∧ c.getD q 0 ≤ 255) : CallA Try.prog 4 [LB c] (.bool true) := by
  refine CallA.of Try.func4 rfl (by kernel_rfl) ?_
  refine R.go 8 (R.call true (big_c c) (by kernel_rfl) rfl (by kernel_rfl) ?_)
  refine R.go 1 (R.cond ((c.length : Int) > 4096) (by kernel_rfl) (fun c1 => ?_) (fun c1 => ?_))
  · exact R.go 4 (R.retE (.bool true) (by kernel_rfl) (by kernel_rfl) (by rfl))
  · have hc : BY c := ⟨by omega, hcb⟩
    refine R.go 4 (R.callX (drDef_c c hc) (by kernel_rfl) (by kernel_rfl) (by kernel_rfl) ?_)
    rintro _ _ ⟨n_2, xs_3, vs_4, l_5, f6, f7, f8, rfl, rfl⟩
    have hlq := (by assumption : (l_5).length ≤ 1000 ∧ ∀ j : Nat, ((l_5).getD j []).length ≤ 1000)
    have hl9 : (l_5).length ≤ 1048576 ∧ ∀ i0 : Nat, i0 < (l_5).length → ((l_5).getD i0 []).length ≤ 1048576 := ⟨by omega, fun j _ => by have := hlq.2 j; omega⟩
    have hdl := dsR_len n_2 xs_3 vs_4 l_5
    refine R.go 11 (R.call true (DS_impl n_2 xs_3 vs_4 l_5 (by first | omega | (simp <;> omega)) (by first | omega | (simp <;> omega)) (by assumption)).frz (by kernel_rfl) rfl (by kernel_rfl) ?_)
    refine R.go 10 (R.call true (DS_spec n_2 xs_3 vs_4 l_5 (by first | omega | (simp <;> omega)) (by first | omega | (simp <;> omega)) (by assumption)).frz (by kernel_rfl) rfl (by kernel_rfl) ?_)
    refine R.go 13 (R.want (!decide ((dsC n_2 xs_3 vs_4 l_5) = (dsC n_2 xs_3 vs_4 l_5))) false (by kernel_rfl) (nF rfl) ?_)
    refine R.go 1 (R.want (!decide ((dsC n_2 xs_3 vs_4 l_5) = (dsC n_2 xs_3 vs_4 l_5))) false (by kernel_rfl) (nF rfl) ?_)
    refine R.go 1 (R.want (!decide ((dsC n_2 xs_3 vs_4 l_5) = (dsC n_2 xs_3 vs_4 l_5))) false (by kernel_rfl) (nF rfl) ?_)
    refine R.call true (likeInts_c (dsR n_2 xs_3 vs_4 l_5) (dsR n_2 xs_3 vs_4 l_5) (by first | omega | (simp <;> omega))) (by kernel_rfl) rfl (by kernel_rfl) ?_
    refine R.want (!decide ((dsC n_2 xs_3 vs_4 l_5) = (dsC n_2 xs_3 vs_4 l_5))) false (by kernel_rfl) (nF rfl) ?_
    refine R.go 1 (R.pick (!decide ((dsC n_2 xs_3 vs_4 l_5) = (dsC n_2 xs_3 vs_4 l_5))) false (by kernel_rfl) (nF rfl) (by kernel_rfl) ?_)
    refine R.go 1 (R.els (!decide ((dsR n_2 xs_3 vs_4 l_5) = (dsR n_2 xs_3 vs_4 l_5))) (by kernel_rfl) (nF rfl) ?_)
    refine R.go 7 (R.condN ((dsC n_2 xs_3 vs_4 l_5) = 0) (by kernel_rfl) (fun c9 => ?_) (fun c9 => ?_))
    · exact R.go 4 (R.retE (.bool true) (by kernel_rfl) (by kernel_rfl) (by rfl))
    · have hz : dsC n_2 xs_3 vs_4 l_5 = 0 := by assumption
      have hpos := ds_pos hz
      have hn8 := ds_n hz
      refine R.go 7 (R.loop (fun (i : Nat) => (⟨(frm 99 [(0, LB c), (3, .ptr 0 0), (4, LLN l_5), (5, LI (dsR n_2 xs_3 vs_4 l_5)), (9, AI (i : Int))]), [.box 34 [AI n_2, LI xs_3, LI vs_4]]⟩ : St)) (fun (i : Nat) => i ≤ (l_5).length) (fun (i : Nat) => (l_5).length - i) 0 [0, 3, 4, 5, 9] none (by kernel_rfl) (by kernel_rfl) (by kernel_rfl) (by omega) ?_)
      rintro i h12_1 R10 N11
      refine R.go 8 (R.cond ((i : Int) < (l_5.length : Int)) (by kernel_rfl) (fun c13 => ?_) (fun c13 => ?_))
      · have htv := ds_tv hz (i := i) (by omega)
        have hti := htv.1
        have htm := htv.2
        have hlj := hlq.2 i
        refine R.go 8 (R.idx eLN l_5 [] i (i : Int) (by kernel_rfl) rfl eLN_len (by omega) (by kernel_rfl) ?_)
        refine R.go 1 (R.call true (TS_impl n_2 xs_3 vs_4 (l_5.getD i []) (by first | omega | (simp <;> omega)) (by first | omega | (simp <;> omega)) (by first | omega | (simp <;> omega))) (by kernel_rfl) rfl (by kernel_rfl) ?_)
        refine R.go 11 ?_
        by_cases c14 : (mcode n_2 xs_3 vs_4 (l_5.getD i [])) = 0
        · refine R.want (!decide ((mcode n_2 xs_3 vs_4 (l_5.getD i [])) = 0)) false (by kernel_rfl) (nF c14) ?_
          refine R.go 1 (R.want (!decide ((mcode n_2 xs_3 vs_4 (l_5.getD i [])) = 0)) false (by kernel_rfl) (nF c14) ?_)
          refine R.go 1 (R.want (!decide ((mcode n_2 xs_3 vs_4 (l_5.getD i [])) = 0)) false (by kernel_rfl) (nF c14) ?_)
          refine R.call true (hasInt_c (dsR n_2 xs_3 vs_4 l_5) (tval n_2 xs_3 vs_4 (l_5.getD i [])) (by first | omega | (simp <;> omega))) (by kernel_rfl) rfl (by kernel_rfl) ?_
          refine R.want (!decide ((mcode n_2 xs_3 vs_4 (l_5.getD i [])) = 0)) false (by kernel_rfl) (nF c14) ?_
          refine R.go 1 (R.pick (!decide ((mcode n_2 xs_3 vs_4 (l_5.getD i [])) = 0)) false (by kernel_rfl) (nF c14) (by kernel_rfl) ?_)
          refine R.go 1 (R.condN ((tval n_2 xs_3 vs_4 (l_5.getD i [])) ∈ (dsR n_2 xs_3 vs_4 l_5)) (by kernel_rfl) (fun c15 => ?_) (fun c15 => ?_))
          · exact R.go 4 (R.retE (.bool false) (by kernel_rfl) (by kernel_rfl) (by first | (first | rfl | exact absurd hor (by assumption) | exact absurd htm (by assumption) | exact congrArg AV.bool (decide_eq_true hno) | (exfalso; omega)) | (exfalso; omega)))
          · refine R.go 4 (R.ar ((i : Int) + 1) (by kernel_rfl) (by omega) (by omega) (by kernel_rfl) ?_)
            exact R.go 2 (R.stop R10 (by kernel_rfl) (N11 (i + 1) [0, 3, 4, 5, 9] none _ (by kernel_rfl) (by kernel_rfl) (by omega) (by show ((l_5).length - (i + 1)) < ((l_5).length - i); omega)))
        · refine R.skp (!decide ((mcode n_2 xs_3 vs_4 (l_5.getD i [])) = 0)) false (by kernel_rfl) (nT c14) (by kernel_rfl) ?_
          refine R.skp (!decide ((mcode n_2 xs_3 vs_4 (l_5.getD i [])) = 0)) false (by kernel_rfl) (nT c14) (by kernel_rfl) ?_
          refine R.skp (!decide ((mcode n_2 xs_3 vs_4 (l_5.getD i [])) = 0)) false (by kernel_rfl) (nT c14) (by kernel_rfl) ?_
          refine R.skp (!decide ((mcode n_2 xs_3 vs_4 (l_5.getD i [])) = 0)) false (by kernel_rfl) (nT c14) (by kernel_rfl) ?_
          refine R.pick (!decide ((mcode n_2 xs_3 vs_4 (l_5.getD i [])) = 0)) true (by kernel_rfl) (nT c14) (by kernel_rfl) ?_
          exact R.go 6 (R.retE (.bool false) (by kernel_rfl) (by kernel_rfl) (by first | (first | rfl | exact absurd hor (by assumption) | exact absurd htm (by assumption) | exact congrArg AV.bool (decide_eq_true hno) | (exfalso; omega)) | (exfalso; omega)))
      · refine R.go 4 (R.callX (CallX.box 0 34 [AI n_2, LI xs_3, LI vs_4] (rollX_c_r1 c 2 34 3 1 [AI n_2, LI xs_3, LI vs_4] hc) (by kernel_rfl) (by kernel_rfl) (by kernel_rfl) (by kernel_rfl) (by rintro _ _ ⟨_, rfl, rfl⟩; exact ⟨by kernel_rfl, by kernel_rfl, by kernel_rfl⟩)) (by kernel_rfl) (by kernel_rfl) (by kernel_rfl) ?_)
        rintro _ _ ⟨_, ⟨h_16, rfl, rfl⟩, rfl⟩
        refine R.go 3 (R.meetF (α := Int × Nat × Int × Int × Nat × Int) (fun | (v_17, p1_18, h1_19, v_21, p1_22, h1_23) => ((((dsR n_2 xs_3 vs_4 l_5).length) < 1 → v_17 = 0) ∧ (1 ≤ ((dsR n_2 xs_3 vs_4 l_5).length) → 0 ≤ v_17 ∧ v_17 < ((dsR n_2 xs_3 vs_4 l_5).length))) ∧ ((((dsR n_2 xs_3 vs_4 l_5).length) < 1 → v_21 = 0) ∧ (1 ≤ ((dsR n_2 xs_3 vs_4 l_5).length) → 0 ≤ v_21 ∧ v_21 < ((dsR n_2 xs_3 vs_4 l_5).length)))) (fun | (v_17, p1_18, h1_19, v_21, p1_22, h1_23) => (⟨(frm 99 [(0, LB c), (3, .ptr 0 0), (4, LLN l_5), (5, LI (dsR n_2 xs_3 vs_4 l_5)), (9, AI (i : Int)), (12, .ptr 1 0), (13, AI ((dsR n_2 xs_3 vs_4 l_5).getD ((v_17).toNat) 0)), (14, AI ((dsR n_2 xs_3 vs_4 l_5).getD ((v_21).toNat) 0)), (45, AI (i : Int)), (46, LLN l_5), (47, AI l_5.length), (48, .bool (decide ((i : Int) < (l_5.length : Int)))), (68, LB c), (69, .ptr 1 0), (70, LI (dsR n_2 xs_3 vs_4 l_5)), (71, .ptr 1 0), (72, LI (dsR n_2 xs_3 vs_4 l_5)), (73, AI ((dsR n_2 xs_3 vs_4 l_5).length)), (74, AI v_17), (75, .rptr [AI ((dsR n_2 xs_3 vs_4 l_5).getD ((v_17).toNat) 0)]), (76, AI ((dsR n_2 xs_3 vs_4 l_5).getD ((v_17).toNat) 0)), (77, LI (dsR n_2 xs_3 vs_4 l_5)), (78, .ptr 1 0), (79, LI (dsR n_2 xs_3 vs_4 l_5)), (80, AI ((dsR n_2 xs_3 vs_4 l_5).length)), (81, AI v_21), (82, .rptr [AI ((dsR n_2 xs_3 vs_4 l_5).getD ((v_21).toNat) 0)]), (83, AI ((dsR n_2 xs_3 vs_4 l_5).getD ((v_21).toNat) 0))]), [.box 34 [AI n_2, LI xs_3, LI vs_4], .box 81 [LB c, AI (p1_22 : Int), .int .u64 h1_23]]⟩ : St)) (by kernel_rfl) ?_ ?_)
        · refine R.any (by decide +kernel) (by kernel_rfl) ?_
          refine R.anyF 0 (by kernel_rfl) (np_meetF _ _) ?_
          refine R.anyF 1 (by kernel_rfl) (np_meetF _ _) ?_
          refine R.anyF 2 (by kernel_rfl) (np_meetF _ _) ?_
          refine R.anyF 7 (by kernel_rfl) (np_meetF _ _) ?_
          refine R.anyF 8 (by kernel_rfl) (np_meetF _ _) ?_
          refine R.anyF 9 (by kernel_rfl) (np_meetF _ _) ?_
          refine R.any2 3 10 (by kernel_rfl) (by kernel_rfl) ?_ ?_
          · refine R.go 2 (R.any2 4 10 (by kernel_rfl) (by kernel_rfl) ?_ ?_)
            · refine R.callX (CallX.perm [1, 0] [1, 0] (CallX.box 1 34 [AI n_2, LI xs_3, LI vs_4] (belowX_c_r1 c 0 h_16 ((dsR n_2 xs_3 vs_4 l_5).length) 34 3 1 [AI n_2, LI xs_3, LI vs_4] hc) (by kernel_rfl) (by kernel_rfl) (by kernel_rfl) (by kernel_rfl) (by rintro _ _ ⟨_, _, _, _, rfl, rfl⟩; exact ⟨by kernel_rfl, by kernel_rfl, by kernel_rfl⟩)) (by kernel_rfl) (by kernel_rfl) (by kernel_rfl) (by rintro _ _ ⟨_, ⟨_, _, _, _, rfl, rfl⟩, rfl⟩; exact Nat.le_of_ble_eq_true (by kernel_rfl))) (by kernel_rfl) (by kernel_rfl) (by kernel_rfl) ?_
              rintro _ _ ⟨_, _, ⟨_, ⟨v_17, p1_18, h1_19, f20, rfl, rfl⟩, rfl⟩, rfl, rfl⟩
              refine R.go 1 (R.any2 5 10 (by kernel_rfl) (by kernel_rfl) ?_ ?_)
              · refine R.idx eI (dsR n_2 xs_3 vs_4 l_5) 0 ((v_17).toNat) v_17 (by kernel_rfl) (by omega) eI_len (by omega) (by kernel_rfl) ?_
                refine R.go 1 (R.any2 6 10 (by kernel_rfl) (by kernel_rfl) ?_ ?_)
                · refine R.go 2 (R.any1 10 (by kernel_rfl) (by kernel_rfl) ?_)
                  refine R.go 2 (R.any1 11 (by kernel_rfl) (by kernel_rfl) ?_)
                  refine R.callX (CallX.perm [1, 0] [1, 0] (CallX.box 1 34 [AI n_2, LI xs_3, LI vs_4] (belowX_c_r1 c p1_18 h1_19 ((dsR n_2 xs_3 vs_4 l_5).length) 34 3 1 [AI n_2, LI xs_3, LI vs_4] hc) (by kernel_rfl) (by kernel_rfl) (by kernel_rfl) (by kernel_rfl) (by rintro _ _ ⟨_, _, _, _, rfl, rfl⟩; exact ⟨by kernel_rfl, by kernel_rfl, by kernel_rfl⟩)) (by kernel_rfl) (by kernel_rfl) (by kernel_rfl) (by rintro _ _ ⟨_, ⟨_, _, _, _, rfl, rfl⟩, rfl⟩; exact Nat.le_of_ble_eq_true (by kernel_rfl))) (by kernel_rfl) (by kernel_rfl) (by kernel_rfl) ?_
                  rintro _ _ ⟨_, _, ⟨_, ⟨v_21, p1_22, h1_23, f24, rfl, rfl⟩, rfl⟩, rfl, rfl⟩
                  refine R.go 1 (R.any2 12 14 (by kernel_rfl) (by kernel_rfl) ?_ ?_)
                  · refine R.idx eI (dsR n_2 xs_3 vs_4 l_5) 0 ((v_21).toNat) v_21 (by kernel_rfl) (by omega) eI_len (by omega) (by kernel_rfl) ?_
                    refine R.go 1 (R.any2 13 14 (by kernel_rfl) (by kernel_rfl) ?_ ?_)
                    · refine R.go 2 (R.any1 14 (by kernel_rfl) (by kernel_rfl) ?_)
                      refine R.go 2 (R.any1 15 (by kernel_rfl) (by kernel_rfl) ?_)
                      refine R.go 2 (R.any0 (by kernel_rfl) ?_)
                      exact R.metF (v_17, p1_18, h1_19, v_21, p1_22, h1_23) (by kernel_rfl) ⟨by first | assumption | omega, by first | assumption | omega⟩ (by kernel_rfl)
                    · refine R.go 2 (R.any1 13 (by kernel_rfl) (by kernel_rfl) ?_)
                      refine R.go 2 (R.any1 15 (by kernel_rfl) (by kernel_rfl) ?_)
                      refine R.go 2 (R.any0 (by kernel_rfl) ?_)
                      exact R.metF (v_17, p1_18, h1_19, v_21, p1_22, h1_23) (by kernel_rfl) ⟨by first | assumption | omega, by first | assumption | omega⟩ (by kernel_rfl)
                  · refine R.go 2 (R.any1 12 (by kernel_rfl) (by kernel_rfl) ?_)
                    refine R.idx eI (dsR n_2 xs_3 vs_4 l_5) 0 ((v_21).toNat) v_21 (by kernel_rfl) (by omega) eI_len (by omega) (by kernel_rfl) ?_
                    refine R.go 1 (R.any1 13 (by kernel_rfl) (by kernel_rfl) ?_)
                    refine R.go 2 (R.any1 15 (by kernel_rfl) (by kernel_rfl) ?_)
                    refine R.go 2 (R.any0 (by kernel_rfl) ?_)
                    exact R.metF (v_17, p1_18, h1_19, v_21, p1_22, h1_23) (by kernel_rfl) ⟨by first | assumption | omega, by first | assumption | omega⟩ (by kernel_rfl)
                · refine R.go 2 (R.any2 6 11 (by kernel_rfl) (by kernel_rfl) ?_ ?_)
                  · refine R.go 2 (R.any1 11 (by kernel_rfl) (by kernel_rfl) ?_)
                    refine R.callX (CallX.perm [1, 0] [1, 0] (CallX.box 1 34 [AI n_2, LI xs_3, LI vs_4] (belowX_c_r1 c p1_18 h1_19 ((dsR n_2 xs_3 vs_4 l_5).length) 34 3 1 [AI n_2, LI xs_3, LI vs_4] hc) (by kernel_rfl) (by kernel_rfl) (by kernel_rfl) (by kernel_rfl) (by rintro _ _ ⟨_, _, _, _, rfl, rfl⟩; exact ⟨by kernel_rfl, by kernel_rfl, by kernel_rfl⟩)) (by kernel_rfl) (by kernel_rfl) (by kernel_rfl) (by rintro _ _ ⟨_, ⟨_, _, _, _, rfl, rfl⟩, rfl⟩; exact Nat.le_of_ble_eq_true (by kernel_rfl))) (by kernel_rfl) (by kernel_rfl) (by kernel_rfl) ?_
                    rintro _ _ ⟨_, _, ⟨_, ⟨v_25, p1_26, h1_27, f28, rfl, rfl⟩, rfl⟩, rfl, rfl⟩
                    refine R.go 1 (R.any2 12 14 (by kernel_rfl) (by kernel_rfl) ?_ ?_)
                    · refine R.idx eI (dsR n_2 xs_3 vs_4 l_5) 0 ((v_25).toNat) v_25 (by kernel_rfl) (by omega) eI_len (by omega) (by kernel_rfl) ?_
                      refine R.go 1 (R.any2 13 14 (by kernel_rfl) (by kernel_rfl) ?_ ?_)
                      · refine R.go 2 (R.any1 14 (by kernel_rfl) (by kernel_rfl) ?_)
                        refine R.go 2 (R.any1 15 (by kernel_rfl) (by kernel_rfl) ?_)
                        refine R.go 2 (R.any0 (by kernel_rfl) ?_)
                        exact R.metF (v_17, p1_18, h1_19, v_25, p1_26, h1_27) (by kernel_rfl) ⟨by first | assumption | omega, by first | assumption | omega⟩ (by kernel_rfl)
                      · refine R.go 2 (R.any1 13 (by kernel_rfl) (by kernel_rfl) ?_)
                        refine R.go 2 (R.any1 15 (by kernel_rfl) (by kernel_rfl) ?_)
                        refine R.go 2 (R.any0 (by kernel_rfl) ?_)
                        exact R.metF (v_17, p1_18, h1_19, v_25, p1_26, h1_27) (by kernel_rfl) ⟨by first | assumption | omega, by first | assumption | omega⟩ (by kernel_rfl)
                    · refine R.go 2 (R.any1 12 (by kernel_rfl) (by kernel_rfl) ?_)
                      refine R.idx eI (dsR n_2 xs_3 vs_4 l_5) 0 ((v_25).toNat) v_25 (by kernel_rfl) (by omega) eI_len (by omega) (by kernel_rfl) ?_
                      refine R.go 1 (R.any1 13 (by kernel_rfl) (by kernel_rfl) ?_)
                      refine R.go 2 (R.any1 15 (by kernel_rfl) (by kernel_rfl) ?_)
                      refine R.go 2 (R.any0 (by kernel_rfl) ?_)
                      exact R.metF (v_17, p1_18, h1_19, v_25, p1_26, h1_27) (by kernel_rfl) ⟨by first | assumption | omega, by first | assumption | omega⟩ (by kernel_rfl)
                  · refine R.callX (CallX.perm [1, 0] [1, 0] (CallX.box 1 34 [AI n_2, LI xs_3, LI vs_4] (belowX_c_r1 c p1_18 h1_19 ((dsR n_2 xs_3 vs_4 l_5).length) 34 3 1 [AI n_2, LI xs_3, LI vs_4] hc) (by kernel_rfl) (by kernel_rfl) (by kernel_rfl) (by kernel_rfl) (by rintro _ _ ⟨_, _, _, _, rfl, rfl⟩; exact ⟨by kernel_rfl, by kernel_rfl, by kernel_rfl⟩)) (by kernel_rfl) (by kernel_rfl) (by kernel_rfl) (by rintro _ _ ⟨_, ⟨_, _, _, _, rfl, rfl⟩, rfl⟩; exact Nat.le_of_ble_eq_true (by kernel_rfl))) (by kernel_rfl) (by kernel_rfl) (by kernel_rfl) ?_
                    rintro _ _ ⟨_, _, ⟨_, ⟨v_29, p1_30, h1_31, f32, rfl, rfl⟩, rfl⟩, rfl, rfl⟩
                    refine R.go 1 (R.any2 6 12 (by kernel_rfl) (by kernel_rfl) ?_ ?_)
                    · refine R.go 2 (R.any2 12 14 (by kernel_rfl) (by kernel_rfl) ?_ ?_)
                      · refine R.idx eI (dsR n_2 xs_3 vs_4 l_5) 0 ((v_29).toNat) v_29 (by kernel_rfl) (by omega) eI_len (by omega) (by kernel_rfl) ?_
                        refine R.go 1 (R.any2 13 14 (by kernel_rfl) (by kernel_rfl) ?_ ?_)
                        · refine R.go 2 (R.any1 14 (by kernel_rfl) (by kernel_rfl) ?_)
                          refine R.go 2 (R.any1 15 (by kernel_rfl) (by kernel_rfl) ?_)
                          refine R.go 2 (R.any0 (by kernel_rfl) ?_)
                          exact R.metF (v_17, p1_18, h1_19, v_29, p1_30, h1_31) (by kernel_rfl) ⟨by first | assumption | omega, by first | assumption | omega⟩ (by kernel_rfl)
                        · refine R.go 2 (R.any1 13 (by kernel_rfl) (by kernel_rfl) ?_)
                          refine R.go 2 (R.any1 15 (by kernel_rfl) (by kernel_rfl) ?_)
                          refine R.go 2 (R.any0 (by kernel_rfl) ?_)
                          exact R.metF (v_17, p1_18, h1_19, v_29, p1_30, h1_31) (by kernel_rfl) ⟨by first | assumption | omega, by first | assumption | omega⟩ (by kernel_rfl)
                      · refine R.go 2 (R.any1 12 (by kernel_rfl) (by kernel_rfl) ?_)
                        refine R.idx eI (dsR n_2 xs_3 vs_4 l_5) 0 ((v_29).toNat) v_29 (by kernel_rfl) (by omega) eI_len (by omega) (by kernel_rfl) ?_
                        refine R.go 1 (R.any1 13 (by kernel_rfl) (by kernel_rfl) ?_)
                        refine R.go 2 (R.any1 15 (by kernel_rfl) (by kernel_rfl) ?_)
                        refine R.go 2 (R.any0 (by kernel_rfl) ?_)
                        exact R.metF (v_17, p1_18, h1_19, v_29, p1_30, h1_31) (by kernel_rfl) ⟨by first | assumption | omega, by first | assumption | omega⟩ (by kernel_rfl)
                    · refine R.idx eI (dsR n_2 xs_3 vs_4 l_5) 0 ((v_29).toNat) v_29 (by kernel_rfl) (by omega) eI_len (by omega) (by kernel_rfl) ?_
                      refine R.go 1 (R.any2 6 13 (by kernel_rfl) (by kernel_rfl) ?_ ?_)
                      · refine R.go 2 (R.any2 13 14 (by kernel_rfl) (by kernel_rfl) ?_ ?_)
                        · refine R.go 2 (R.any1 14 (by kernel_rfl) (by kernel_rfl) ?_)
                          refine R.go 2 (R.any1 15 (by kernel_rfl) (by kernel_rfl) ?_)
                          refine R.go 2 (R.any0 (by kernel_rfl) ?_)
                          exact R.metF (v_17, p1_18, h1_19, v_29, p1_30, h1_31) (by kernel_rfl) ⟨by first | assumption | omega, by first | assumption | omega⟩ (by kernel_rfl)
                        · refine R.go 2 (R.any1 13 (by kernel_rfl) (by kernel_rfl) ?_)
                          refine R.go 2 (R.any1 15 (by kernel_rfl) (by kernel_rfl) ?_)
                          refine R.go 2 (R.any0 (by kernel_rfl) ?_)
                          exact R.metF (v_17, p1_18, h1_19, v_29, p1_30, h1_31) (by kernel_rfl) ⟨by first | assumption | omega, by first | assumption | omega⟩ (by kernel_rfl)
                      · refine R.go 2 (R.any1 6 (by kernel_rfl) (by kernel_rfl) ?_)
                        refine R.go 2 (R.any1 14 (by kernel_rfl) (by kernel_rfl) ?_)
                        refine R.go 2 (R.any1 15 (by kernel_rfl) (by kernel_rfl) ?_)
                        refine R.go 2 (R.any0 (by kernel_rfl) ?_)
                        exact R.metF (v_17, p1_18, h1_19, v_29, p1_30, h1_31) (by kernel_rfl) ⟨by first | assumption | omega, by first | assumption | omega⟩ (by kernel_rfl)
              · refine R.go 2 (R.any2 5 11 (by kernel_rfl) (by kernel_rfl) ?_ ?_)
                · refine R.idx eI (dsR n_2 xs_3 vs_4 l_5) 0 ((v_17).toNat) v_17 (by kernel_rfl) (by omega) eI_len (by omega) (by kernel_rfl) ?_
                  refine R.go 1 (R.any2 6 11 (by kernel_rfl) (by kernel_rfl) ?_ ?_)
                  · refine R.go 2 (R.any1 11 (by kernel_rfl) (by kernel_rfl) ?_)
                    refine R.callX (CallX.perm [1, 0] [1, 0] (CallX.box 1 34 [AI n_2, LI xs_3, LI vs_4] (belowX_c_r1 c p1_18 h1_19 ((dsR n_2 xs_3 vs_4 l_5).length) 34 3 1 [AI n_2, LI xs_3, LI vs_4] hc) (by kernel_rfl) (by kernel_rfl) (by kernel_rfl) (by kernel_rfl) (by rintro _ _ ⟨_, _, _, _, rfl, rfl⟩; exact ⟨by kernel_rfl, by kernel_rfl, by kernel_rfl⟩)) (by kernel_rfl) (by kernel_rfl) (by kernel_rfl) (by rintro _ _ ⟨_, ⟨_, _, _, _, rfl, rfl⟩, rfl⟩; exact Nat.le_of_ble_eq_true (by kernel_rfl))) (by kernel_rfl) (by kernel_rfl) (by kernel_rfl) ?_
                    rintro _ _ ⟨_, _, ⟨_, ⟨v_33, p1_34, h1_35, f36, rfl, rfl⟩, rfl⟩, rfl, rfl⟩
                    refine R.go 1 (R.any2 12 14 (by kernel_rfl) (by kernel_rfl) ?_ ?_)
                    · refine R.idx eI (dsR n_2 xs_3 vs_4 l_5) 0 ((v_33).toNat) v_33 (by kernel_rfl) (by omega) eI_len (by omega) (by kernel_rfl) ?_
                      refine R.go 1 (R.any2 13 14 (by kernel_rfl) (by kernel_rfl) ?_ ?_)
                      · refine R.go 2 (R.any1 14 (by kernel_rfl) (by kernel_rfl) ?_)
                        refine R.go 2 (R.any1 15 (by kernel_rfl) (by kernel_rfl) ?_)
                        refine R.go 2 (R.any0 (by kernel_rfl) ?_)
                        exact R.metF (v_17, p1_18, h1_19, v_33, p1_34, h1_35) (by kernel_rfl) ⟨by first | assumption | omega, by first | assumption | omega⟩ (by kernel_rfl)
                      · refine R.go 2 (R.any1 13 (by kernel_rfl) (by kernel_rfl) ?_)
                        refine R.go 2 (R.any1 15 (by kernel_rfl) (by kernel_rfl) ?_)
                        refine R.go 2 (R.any0 (by kernel_rfl) ?_)
                        exact R.metF (v_17, p1_18, h1_19, v_33, p1_34, h1_35) (by kernel_rfl) ⟨by first | assumption | omega, by first | assumption | omega⟩ (by kernel_rfl)
                    · refine R.go 2 (R.any1 12 (by kernel_rfl) (by kernel_rfl) ?_)
                      refine R.idx eI (dsR n_2 xs_3 vs_4 l_5) 0 ((v_33).toNat) v_33 (by kernel_rfl) (by omega) eI_len (by omega) (by kernel_rfl) ?_
                      refine R.go 1 (R.any1 13 (by kernel_rfl) (by kernel_rfl) ?_)
                      refine R.go 2 (R.any1 15 (by kernel_rfl) (by kernel_rfl) ?_)
                      refine R.go 2 (R.any0 (by kernel_rfl) ?_)
                      exact R.metF (v_17, p1_18, h1_19, v_33, p1_34, h1_35) (by kernel_rfl) ⟨by first | assumption | omega, by first | assumption | omega⟩ (by kernel_rfl)
                  · refine R.callX (CallX.perm [1, 0] [1, 0] (CallX.box 1 34 [AI n_2, LI xs_3, LI vs_4] (belowX_c_r1 c p1_18 h1_19 ((dsR n_2 xs_3 vs_4 l_5).length) 34 3 1 [AI n_2, LI xs_3, LI vs_4] hc) (by kernel_rfl) (by kernel_rfl) (by kernel_rfl) (by kernel_rfl) (by rintro _ _ ⟨_, _, _, _, rfl, rfl⟩; exact ⟨by kernel_rfl, by kernel_rfl, by kernel_rfl⟩)) (by kernel_rfl) (by kernel_rfl) (by kernel_rfl) (by rintro _ _ ⟨_, ⟨_, _, _, _, rfl, rfl⟩, rfl⟩; exact Nat.le_of_ble_eq_true (by kernel_rfl))) (by kernel_rfl) (by kernel_rfl) (by kernel_rfl) ?_
                    rintro _ _ ⟨_, _, ⟨_, ⟨v_37, p1_38, h1_39, f40, rfl, rfl⟩, rfl⟩, rfl, rfl⟩
                    refine R.go 1 (R.any2 6 12 (by kernel_rfl) (by kernel_rfl) ?_ ?_)
                    · refine R.go 2 (R.any2 12 14 (by kernel_rfl) (by kernel_rfl) ?_ ?_)
                      · refine R.idx eI (dsR n_2 xs_3 vs_4 l_5) 0 ((v_37).toNat) v_37 (by kernel_rfl) (by omega) eI_len (by omega) (by kernel_rfl) ?_
                        refine R.go 1 (R.any2 13 14 (by kernel_rfl) (by kernel_rfl) ?_ ?_)
                        · refine R.go 2 (R.any1 14 (by kernel_rfl) (by kernel_rfl) ?_)
                          refine R.go 2 (R.any1 15 (by kernel_rfl) (by kernel_rfl) ?_)
                          refine R.go 2 (R.any0 (by kernel_rfl) ?_)
                          exact R.metF (v_17, p1_18, h1_19, v_37, p1_38, h1_39) (by kernel_rfl) ⟨by first | assumption | omega, by first | assumption | omega⟩ (by kernel_rfl)
                        · refine R.go 2 (R.any1 13 (by kernel_rfl) (by kernel_rfl) ?_)
                          refine R.go 2 (R.any1 15 (by kernel_rfl) (by kernel_rfl) ?_)
                          refine R.go 2 (R.any0 (by kernel_rfl) ?_)
                          exact R.metF (v_17, p1_18, h1_19, v_37, p1_38, h1_39) (by kernel_rfl) ⟨by first | assumption | omega, by first | assumption | omega⟩ (by kernel_rfl)
                      · refine R.go 2 (R.any1 12 (by kernel_rfl) (by kernel_rfl) ?_)
                        refine R.idx eI (dsR n_2 xs_3 vs_4 l_5) 0 ((v_37).toNat) v_37 (by kernel_rfl) (by omega) eI_len (by omega) (by kernel_rfl) ?_
                        refine R.go 1 (R.any1 13 (by kernel_rfl) (by kernel_rfl) ?_)
                        refine R.go 2 (R.any1 15 (by kernel_rfl) (by kernel_rfl) ?_)
                        refine R.go 2 (R.any0 (by kernel_rfl) ?_)
                        exact R.metF (v_17, p1_18, h1_19, v_37, p1_38, h1_39) (by kernel_rfl) ⟨by first | assumption | omega, by first | assumption | omega⟩ (by kernel_rfl)
                    · refine R.idx eI (dsR n_2 xs_3 vs_4 l_5) 0 ((v_37).toNat) v_37 (by kernel_rfl) (by omega) eI_len (by omega) (by kernel_rfl) ?_
                      refine R.go 1 (R.any2 6 13 (by kernel_rfl) (by kernel_rfl) ?_ ?_)
                      · refine R.go 2 (R.any2 13 14 (by kernel_rfl) (by kernel_rfl) ?_ ?_)
                        · refine R.go 2 (R.any1 14 (by kernel_rfl) (by kernel_rfl) ?_)
                          refine R.go 2 (R.any1 15 (by kernel_rfl) (by kernel_rfl) ?_)
                          refine R.go 2 (R.any0 (by kernel_rfl) ?_)
                          exact R.metF (v_17, p1_18, h1_19, v_37, p1_38, h1_39) (by kernel_rfl) ⟨by first | assumption | omega, by first | assumption | omega⟩ (by kernel_rfl)
                        · refine R.go 2 (R.any1 13 (by kernel_rfl) (by kernel_rfl) ?_)
                          refine R.go 2 (R.any1 15 (by kernel_rfl) (by kernel_rfl) ?_)
                          refine R.go 2 (R.any0 (by kernel_rfl) ?_)
                          exact R.metF (v_17, p1_18, h1_19, v_37, p1_38, h1_39) (by kernel_rfl) ⟨by first | assumption | omega, by first | assumption | omega⟩ (by kernel_rfl)
                      · refine R.go 2 (R.any1 6 (by kernel_rfl) (by kernel_rfl) ?_)
                        refine R.go 2 (R.any1 14 (by kernel_rfl) (by kernel_rfl) ?_)
                        refine R.go 2 (R.any1 15 (by kernel_rfl) (by kernel_rfl) ?_)
                        refine R.go 2 (R.any0 (by kernel_rfl) ?_)
                        exact R.metF (v_17, p1_18, h1_19, v_37, p1_38, h1_39) (by kernel_rfl) ⟨by first | assumption | omega, by first | assumption | omega⟩ (by kernel_rfl)
                · refine R.callX (CallX.perm [1, 0] [1, 0] (CallX.box 1 34 [AI n_2, LI xs_3, LI vs_4] (belowX_c_r1 c p1_18 h1_19 ((dsR n_2 xs_3 vs_4 l_5).length) 34 3 1 [AI n_2, LI xs_3, LI vs_4] hc) (by kernel_rfl) (by kernel_rfl) (by kernel_rfl) (by kernel_rfl) (by rintro _ _ ⟨_, _, _, _, rfl, rfl⟩; exact ⟨by kernel_rfl, by kernel_rfl, by kernel_rfl⟩)) (by kernel_rfl) (by kernel_rfl) (by kernel_rfl) (by rintro _ _ ⟨_, ⟨_, _, _, _, rfl, rfl⟩, rfl⟩; exact Nat.le_of_ble_eq_true (by kernel_rfl))) (by kernel_rfl) (by kernel_rfl) (by kernel_rfl) ?_
                  rintro _ _ ⟨_, _, ⟨_, ⟨v_41, p1_42, h1_43, f44, rfl, rfl⟩, rfl⟩, rfl, rfl⟩
                  refine R.go 1 (R.any2 5 12 (by kernel_rfl) (by kernel_rfl) ?_ ?_)
                  · refine R.idx eI (dsR n_2 xs_3 vs_4 l_5) 0 ((v_17).toNat) v_17 (by kernel_rfl) (by omega) eI_len (by omega) (by kernel_rfl) ?_
                    refine R.go 1 (R.any2 6 12 (by kernel_rfl) (by kernel_rfl) ?_ ?_)
                    · refine R.go 2 (R.any2 12 14 (by kernel_rfl) (by kernel_rfl) ?_ ?_)
                      · refine R.idx eI (dsR n_2 xs_3 vs_4 l_5) 0 ((v_41).toNat) v_41 (by kernel_rfl) (by omega) eI_len (by omega) (by kernel_rfl) ?_
                        refine R.go 1 (R.any2 13 14 (by kernel_rfl) (by kernel_rfl) ?_ ?_)
                        · refine R.go 2 (R.any1 14 (by kernel_rfl) (by kernel_rfl) ?_)
                          refine R.go 2 (R.any1 15 (by kernel_rfl) (by kernel_rfl) ?_)
                          refine R.go 2 (R.any0 (by kernel_rfl) ?_)
                          exact R.metF (v_17, p1_18, h1_19, v_41, p1_42, h1_43) (by kernel_rfl) ⟨by first | assumption | omega, by first | assumption | omega⟩ (by kernel_rfl)
                        · refine R.go 2 (R.any1 13 (by kernel_rfl) (by kernel_rfl) ?_)
                          refine R.go 2 (R.any1 15 (by kernel_rfl) (by kernel_rfl) ?_)
                          refine R.go 2 (R.any0 (by kernel_rfl) ?_)
                          exact R.metF (v_17, p1_18, h1_19, v_41, p1_42, h1_43) (by kernel_rfl) ⟨by first | assumption | omega, by first | assumption | omega⟩ (by kernel_rfl)
                      · refine R.go 2 (R.any1 12 (by kernel_rfl) (by kernel_rfl) ?_)
                        refine R.idx eI (dsR n_2 xs_3 vs_4 l_5) 0 ((v_41).toNat) v_41 (by kernel_rfl) (by omega) eI_len (by omega) (by kernel_rfl) ?_
                        refine R.go 1 (R.any1 13 (by kernel_rfl) (by kernel_rfl) ?_)
                        refine R.go 2 (R.any1 15 (by kernel_rfl) (by kernel_rfl) ?_)
                        refine R.go 2 (R.any0 (by kernel_rfl) ?_)
                        exact R.metF (v_17, p1_18, h1_19, v_41, p1_42, h1_43) (by kernel_rfl) ⟨by first | assumption | omega, by first | assumption | omega⟩ (by kernel_rfl)
                    · refine R.idx eI (dsR n_2 xs_3 vs_4 l_5) 0 ((v_41).toNat) v_41 (by kernel_rfl) (by omega) eI_len (by omega) (by kernel_rfl) ?_
                      refine R.go 1 (R.any2 6 13 (by kernel_rfl) (by kernel_rfl) ?_ ?_)
                      · refine R.go 2 (R.any2 13 14 (by kernel_rfl) (by kernel_rfl) ?_ ?_)
                        · refine R.go 2 (R.any1 14 (by kernel_rfl) (by kernel_rfl) ?_)
                          refine R.go 2 (R.any1 15 (by kernel_rfl) (by kernel_rfl) ?_)
                          refine R.go 2 (R.any0 (by kernel_rfl) ?_)
                          exact R.metF (v_17, p1_18, h1_19, v_41, p1_42, h1_43) (by kernel_rfl) ⟨by first | assumption | omega, by first | assumption | omega⟩ (by kernel_rfl)
                        · refine R.go 2 (R.any1 13 (by kernel_rfl) (by kernel_rfl) ?_)
                          refine R.go 2 (R.any1 15 (by kernel_rfl) (by kernel_rfl) ?_)
                          refine R.go 2 (R.any0 (by kernel_rfl) ?_)
                          exact R.metF (v_17, p1_18, h1_19, v_41, p1_42, h1_43) (by kernel_rfl) ⟨by first | assumption | omega, by first | assumption | omega⟩ (by kernel_rfl)
                      · refine R.go 2 (R.any1 6 (by kernel_rfl) (by kernel_rfl) ?_)
                        refine R.go 2 (R.any1 14 (by kernel_rfl) (by kernel_rfl) ?_)
                        refine R.go 2 (R.any1 15 (by kernel_rfl) (by kernel_rfl) ?_)
                        refine R.go 2 (R.any0 (by kernel_rfl) ?_)
                        exact R.metF (v_17, p1_18, h1_19, v_41, p1_42, h1_43) (by kernel_rfl) ⟨by first | assumption | omega, by first | assumption | omega⟩ (by kernel_rfl)
                  · refine R.idx eI (dsR n_2 xs_3 vs_4 l_5) 0 ((v_41).toNat) v_41 (by kernel_rfl) (by omega) eI_len (by omega) (by kernel_rfl) ?_
                    refine R.go 1 (R.any2 5 13 (by kernel_rfl) (by kernel_rfl) ?_ ?_)
                    · refine R.idx eI (dsR n_2 xs_3 vs_4 l_5) 0 ((v_17).toNat) v_17 (by kernel_rfl) (by omega) eI_len (by omega) (by kernel_rfl) ?_
                      refine R.go 1 (R.any2 6 13 (by kernel_rfl) (by kernel_rfl) ?_ ?_)
                      · refine R.go 2 (R.any2 13 14 (by kernel_rfl) (by kernel_rfl) ?_ ?_)
                        · refine R.go 2 (R.any1 14 (by kernel_rfl) (by kernel_rfl) ?_)
                          refine R.go 2 (R.any1 15 (by kernel_rfl) (by kernel_rfl) ?_)
                          refine R.go 2 (R.any0 (by kernel_rfl) ?_)
                          exact R.metF (v_17, p1_18, h1_19, v_41, p1_42, h1_43) (by kernel_rfl) ⟨by first | assumption | omega, by first | assumption | omega⟩ (by kernel_rfl)
                        · refine R.go 2 (R.any1 13 (by kernel_rfl) (by kernel_rfl) ?_)
                          refine R.go 2 (R.any1 15 (by kernel_rfl) (by kernel_rfl) ?_)
                          refine R.go 2 (R.any0 (by kernel_rfl) ?_)
                          exact R.metF (v_17, p1_18, h1_19, v_41, p1_42, h1_43) (by kernel_rfl) ⟨by first | assumption | omega, by first | assumption | omega⟩ (by kernel_rfl)
                      · refine R.go 2 (R.any1 6 (by kernel_rfl) (by kernel_rfl) ?_)
                        refine R.go 2 (R.any1 14 (by kernel_rfl) (by kernel_rfl) ?_)
                        refine R.go 2 (R.any1 15 (by kernel_rfl) (by kernel_rfl) ?_)
                        refine R.go 2 (R.any0 (by kernel_rfl) ?_)
                        exact R.metF (v_17, p1_18, h1_19, v_41, p1_42, h1_43) (by kernel_rfl) ⟨by first | assumption | omega, by first | assumption | omega⟩ (by kernel_rfl)
                    · refine R.go 2 (R.any1 5 (by kernel_rfl) (by kernel_rfl) ?_)
                      refine R.idx eI (dsR n_2 xs_3 vs_4 l_5) 0 ((v_17).toNat) v_17 (by kernel_rfl) (by omega) eI_len (by omega) (by kernel_rfl) ?_
                      refine R.go 1 (R.any1 6 (by kernel_rfl) (by kernel_rfl) ?_)
                      refine R.go 2 (R.any1 14 (by kernel_rfl) (by kernel_rfl) ?_)
                      refine R.go 2 (R.any1 15 (by kernel_rfl) (by kernel_rfl) ?_)
                      refine R.go 2 (R.any0 (by kernel_rfl) ?_)
                      exact R.metF (v_17, p1_18, h1_19, v_41, p1_42, h1_43) (by kernel_rfl) ⟨by first | assumption | omega, by first | assumption | omega⟩ (by kernel_rfl)
            · refine R.go 2 (R.any1 4 (by kernel_rfl) (by kernel_rfl) ?_)
              refine R.callX (CallX.perm [1, 0] [1, 0] (CallX.box 1 34 [AI n_2, LI xs_3, LI vs_4] (belowX_c_r1 c 0 h_16 ((dsR n_2 xs_3 vs_4 l_5).length) 34 3 1 [AI n_2, LI xs_3, LI vs_4] hc) (by kernel_rfl) (by kernel_rfl) (by kernel_rfl) (by kernel_rfl) (by rintro _ _ ⟨_, _, _, _, rfl, rfl⟩; exact ⟨by kernel_rfl, by kernel_rfl, by kernel_rfl⟩)) (by kernel_rfl) (by kernel_rfl) (by kernel_rfl) (by rintro _ _ ⟨_, ⟨_, _, _, _, rfl, rfl⟩, rfl⟩; exact Nat.le_of_ble_eq_true (by kernel_rfl))) (by kernel_rfl) (by kernel_rfl) (by kernel_rfl) ?_
              rintro _ _ ⟨_, _, ⟨_, ⟨v_45, p1_46, h1_47, f48, rfl, rfl⟩, rfl⟩, rfl, rfl⟩
              refine R.go 1 (R.any2 5 11 (by kernel_rfl) (by kernel_rfl) ?_ ?_)
              · refine R.idx eI (dsR n_2 xs_3 vs_4 l_5) 0 ((v_45).toNat) v_45 (by kernel_rfl) (by omega) eI_len (by omega) (by kernel_rfl) ?_
                refine R.go 1 (R.any2 6 11 (by kernel_rfl) (by kernel_rfl) ?_ ?_)
                · refine R.go 2 (R.any1 11 (by kernel_rfl) (by kernel_rfl) ?_)
                  refine R.callX (CallX.perm [1, 0] [1, 0] (CallX.box 1 34 [AI n_2, LI xs_3, LI vs_4] (belowX_c_r1 c p1_46 h1_47 ((dsR n_2 xs_3 vs_4 l_5).length) 34 3 1 [AI n_2, LI xs_3, LI vs_4] hc) (by kernel_rfl) (by kernel_rfl) (by kernel_rfl) (by kernel_rfl) (by rintro _ _ ⟨_, _, _, _, rfl, rfl⟩; exact ⟨by kernel_rfl, by kernel_rfl, by kernel_rfl⟩)) (by kernel_rfl) (by kernel_rfl) (by kernel_rfl) (by rintro _ _ ⟨_, ⟨_, _, _, _, rfl, rfl⟩, rfl⟩; exact Nat.le_of_ble_eq_true (by kernel_rfl))) (by kernel_rfl) (by kernel_rfl) (by kernel_rfl) ?_
                  rintro _ _ ⟨_, _, ⟨_, ⟨v_49, p1_50, h1_51, f52, rfl, rfl⟩, rfl⟩, rfl, rfl⟩
                  refine R.go 1 (R.any2 12 14 (by kernel_rfl) (by kernel_rfl) ?_ ?_)
                  · refine R.idx eI (dsR n_2 xs_3 vs_4 l_5) 0 ((v_49).toNat) v_49 (by kernel_rfl) (by omega) eI_len (by omega) (by kernel_rfl) ?_
                    refine R.go 1 (R.any2 13 14 (by kernel_rfl) (by kernel_rfl) ?_ ?_)
                    · refine R.go 2 (R.any1 14 (by kernel_rfl) (by kernel_rfl) ?_)
                      refine R.go 2 (R.any1 15 (by kernel_rfl) (by kernel_rfl) ?_)
                      refine R.go 2 (R.any0 (by kernel_rfl) ?_)
                      exact R.metF (v_45, p1_46, h1_47, v_49, p1_50, h1_51) (by kernel_rfl) ⟨by first | assumption | omega, by first | assumption | omega⟩ (by kernel_rfl)
                    · refine R.go 2 (R.any1 13 (by kernel_rfl) (by kernel_rfl) ?_)
                      refine R.go 2 (R.any1 15 (by kernel_rfl) (by kernel_rfl) ?_)
                      refine R.go 2 (R.any0 (by kernel_rfl) ?_)
                      exact R.metF (v_45, p1_46, h1_47, v_49, p1_50, h1_51) (by kernel_rfl) ⟨by first | assumption | omega, by first | assumption | omega⟩ (by kernel_rfl)
                  · refine R.go 2 (R.any1 12 (by kernel_rfl) (by kernel_rfl) ?_)
                    refine R.idx eI (dsR n_2 xs_3 vs_4 l_5) 0 ((v_49).toNat) v_49 (by kernel_rfl) (by omega) eI_len (by omega) (by kernel_rfl) ?_
                    refine R.go 1 (R.any1 13 (by kernel_rfl) (by kernel_rfl) ?_)
                    refine R.go 2 (R.any1 15 (by kernel_rfl) (by kernel_rfl) ?_)
                    refine R.go 2 (R.any0 (by kernel_rfl) ?_)
                    exact R.metF (v_45, p1_46, h1_47, v_49, p1_50, h1_51) (by kernel_rfl) ⟨by first | assumption | omega, by first | assumption | omega⟩ (by kernel_rfl)
                · refine R.callX (CallX.perm [1, 0] [1, 0] (CallX.box 1 34 [AI n_2, LI xs_3, LI vs_4] (belowX_c_r1 c p1_46 h1_47 ((dsR n_2 xs_3 vs_4 l_5).length) 34 3 1 [AI n_2, LI xs_3, LI vs_4] hc) (by kernel_rfl) (by kernel_rfl) (by kernel_rfl) (by kernel_rfl) (by rintro _ _ ⟨_, _, _, _, rfl, rfl⟩; exact ⟨by kernel_rfl, by kernel_rfl, by kernel_rfl⟩)) (by kernel_rfl) (by kernel_rfl) (by kernel_rfl) (by rintro _ _ ⟨_, ⟨_, _, _, _, rfl, rfl⟩, rfl⟩; exact Nat.le_of_ble_eq_true (by kernel_rfl))) (by kernel_rfl) (by kernel_rfl) (by kernel_rfl) ?_
                  rintro _ _ ⟨_, _, ⟨_, ⟨v_53, p1_54, h1_55, f56, rfl, rfl⟩, rfl⟩, rfl, rfl⟩
                  refine R.go 1 (R.any2 6 12 (by kernel_rfl) (by kernel_rfl) ?_ ?_)
                  · refine R.go 2 (R.any2 12 14 (by kernel_rfl) (by kernel_rfl) ?_ ?_)
                    · refine R.idx eI (dsR n_2 xs_3 vs_4 l_5) 0 ((v_53).toNat) v_53 (by kernel_rfl) (by omega) eI_len (by omega) (by kernel_rfl) ?_
                      refine R.go 1 (R.any2 13 14 (by kernel_rfl) (by kernel_rfl) ?_ ?_)
                      · refine R.go 2 (R.any1 14 (by kernel_rfl) (by kernel_rfl) ?_)
                        refine R.go 2 (R.any1 15 (by kernel_rfl) (by kernel_rfl) ?_)
                        refine R.go 2 (R.any0 (by kernel_rfl) ?_)
                        exact R.metF (v_45, p1_46, h1_47, v_53, p1_54, h1_55) (by kernel_rfl) ⟨by first | assumption | omega, by first | assumption | omega⟩ (by kernel_rfl)
                      · refine R.go 2 (R.any1 13 (by kernel_rfl) (by kernel_rfl) ?_)
                        refine R.go 2 (R.any1 15 (by kernel_rfl) (by kernel_rfl) ?_)
                        refine R.go 2 (R.any0 (by kernel_rfl) ?_)
                        exact R.metF (v_45, p1_46, h1_47, v_53, p1_54, h1_55) (by kernel_rfl) ⟨by first | assumption | omega, by first | assumption | omega⟩ (by kernel_rfl)
                    · refine R.go 2 (R.any1 12 (by kernel_rfl) (by kernel_rfl) ?_)
                      refine R.idx eI (dsR n_2 xs_3 vs_4 l_5) 0 ((v_53).toNat) v_53 (by kernel_rfl) (by omega) eI_len (by omega) (by kernel_rfl) ?_
                      refine R.go 1 (R.any1 13 (by kernel_rfl) (by kernel_rfl) ?_)
                      refine R.go 2 (R.any1 15 (by kernel_rfl) (by kernel_rfl) ?_)
                      refine R.go 2 (R.any0 (by kernel_rfl) ?_)
                      exact R.metF (v_45, p1_46, h1_47, v_53, p1_54, h1_55) (by kernel_rfl) ⟨by first | assumption | omega, by first | assumption | omega⟩ (by kernel_rfl)
                  · refine R.idx eI (dsR n_2 xs_3 vs_4 l_5) 0 ((v_53).toNat) v_53 (by kernel_rfl) (by omega) eI_len (by omega) (by kernel_rfl) ?_
                    refine R.go 1 (R.any2 6 13 (by kernel_rfl) (by kernel_rfl) ?_ ?_)
                    · refine R.go 2 (R.any2 13 14 (by kernel_rfl) (by kernel_rfl) ?_ ?_)
                      · refine R.go 2 (R.any1 14 (by kernel_rfl) (by kernel_rfl) ?_)
                        refine R.go 2 (R.any1 15 (by kernel_rfl) (by kernel_rfl) ?_)
                        refine R.go 2 (R.any0 (by kernel_rfl) ?_)
                        exact R.metF (v_45, p1_46, h1_47, v_53, p1_54, h1_55) (by kernel_rfl) ⟨by first | assumption | omega, by first | assumption | omega⟩ (by kernel_rfl)
                      · refine R.go 2 (R.any1 13 (by kernel_rfl) (by kernel_rfl) ?_)
                        refine R.go 2 (R.any1 15 (by kernel_rfl) (by kernel_rfl) ?_)
                        refine R.go 2 (R.any0 (by kernel_rfl) ?_)
                        exact R.metF (v_45, p1_46, h1_47, v_53, p1_54, h1_55) (by kernel_rfl) ⟨by first | assumption | omega, by first | assumption | omega⟩ (by kernel_rfl)
                    · refine R.go 2 (R.any1 6 (by kernel_rfl) (by kernel_rfl) ?_)
                      refine R.go 2 (R.any1 14 (by kernel_rfl) (by kernel_rfl) ?_)
                      refine R.go 2 (R.any1 15 (by kernel_rfl) (by kernel_rfl) ?_)
                      refine R.go 2 (R.any0 (by kernel_rfl) ?_)
                      exact R.metF (v_45, p1_46, h1_47, v_53, p1_54, h1_55) (by kernel_rfl) ⟨by first | assumption | omega, by first | assumption | omega⟩ (by kernel_rfl)
              · refine R.callX (CallX.perm [1, 0] [1, 0] (CallX.box 1 34 [AI n_2, LI xs_3, LI vs_4] (belowX_c_r1 c p1_46 h1_47 ((dsR n_2 xs_3 vs_4 l_5).length) 34 3 1 [AI n_2, LI xs_3, LI vs_4] hc) (by kernel_rfl) (by kernel_rfl) (by kernel_rfl) (by kernel_rfl) (by rintro _ _ ⟨_, _, _, _, rfl, rfl⟩; exact ⟨by kernel_rfl, by kernel_rfl, by kernel_rfl⟩)) (by kernel_rfl) (by kernel_rfl) (by kernel_rfl) (by rintro _ _ ⟨_, ⟨_, _, _, _, rfl, rfl⟩, rfl⟩; exact Nat.le_of_ble_eq_true (by kernel_rfl))) (by kernel_rfl) (by kernel_rfl) (by kernel_rfl) ?_
                rintro _ _ ⟨_, _, ⟨_, ⟨v_57, p1_58, h1_59, f60, rfl, rfl⟩, rfl⟩, rfl, rfl⟩
                refine R.go 1 (R.any2 5 12 (by kernel_rfl) (by kernel_rfl) ?_ ?_)
                · refine R.idx eI (dsR n_2 xs_3 vs_4 l_5) 0 ((v_45).toNat) v_45 (by kernel_rfl) (by omega) eI_len (by omega) (by kernel_rfl) ?_
                  refine R.go 1 (R.any2 6 12 (by kernel_rfl) (by kernel_rfl) ?_ ?_)
                  · refine R.go 2 (R.any2 12 14 (by kernel_rfl) (by kernel_rfl) ?_ ?_)
                    · refine R.idx eI (dsR n_2 xs_3 vs_4 l_5) 0 ((v_57).toNat) v_57 (by kernel_rfl) (by omega) eI_len (by omega) (by kernel_rfl) ?_
                      refine R.go 1 (R.any2 13 14 (by kernel_rfl) (by kernel_rfl) ?_ ?_)
                      · refine R.go 2 (R.any1 14 (by kernel_rfl) (by kernel_rfl) ?_)
                        refine R.go 2 (R.any1 15 (by kernel_rfl) (by kernel_rfl) ?_)
                        refine R.go 2 (R.any0 (by kernel_rfl) ?_)
                        exact R.metF (v_45, p1_46, h1_47, v_57, p1_58, h1_59) (by kernel_rfl) ⟨by first | assumption | omega, by first | assumption | omega⟩ (by kernel_rfl)
                      · refine R.go 2 (R.any1 13 (by kernel_rfl) (by kernel_rfl) ?_)
                        refine R.go 2 (R.any1 15 (by kernel_rfl) (by kernel_rfl) ?_)
                        refine R.go 2 (R.any0 (by kernel_rfl) ?_)
                        exact R.metF (v_45, p1_46, h1_47, v_57, p1_58, h1_59) (by kernel_rfl) ⟨by first | assumption | omega, by first | assumption | omega⟩ (by kernel_rfl)
                    · refine R.go 2 (R.any1 12 (by kernel_rfl) (by kernel_rfl) ?_)
                      refine R.idx eI (dsR n_2 xs_3 vs_4 l_5) 0 ((v_57).toNat) v_57 (by kernel_rfl) (by omega) eI_len (by omega) (by kernel_rfl) ?_
                      refine R.go 1 (R.any1 13 (by kernel_rfl) (by kernel_rfl) ?_)
                      refine R.go 2 (R.any1 15 (by kernel_rfl) (by kernel_rfl) ?_)
                      refine R.go 2 (R.any0 (by kernel_rfl) ?_)
                      exact R.metF (v_45, p1_46, h1_47, v_57, p1_58, h1_59) (by kernel_rfl) ⟨by first | assumption | omega, by first | assumption | omega⟩ (by kernel_rfl)
                  · refine R.idx eI (dsR n_2 xs_3 vs_4 l_5) 0 ((v_57).toNat) v_57 (by kernel_rfl) (by omega) eI_len (by omega) (by kernel_rfl) ?_
                    refine R.go 1 (R.any2 6 13 (by kernel_rfl) (by kernel_rfl) ?_ ?_)
                    · refine R.go 2 (R.any2 13 14 (by kernel_rfl) (by kernel_rfl) ?_ ?_)
                      · refine R.go 2 (R.any1 14 (by kernel_rfl) (by kernel_rfl) ?_)
                        refine R.go 2 (R.any1 15 (by kernel_rfl) (by kernel_rfl) ?_)
                        refine R.go 2 (R.any0 (by kernel_rfl) ?_)
                        exact R.metF (v_45, p1_46, h1_47, v_57, p1_58, h1_59) (by kernel_rfl) ⟨by first | assumption | omega, by first | assumption | omega⟩ (by kernel_rfl)
                      · refine R.go 2 (R.any1 13 (by kernel_rfl) (by kernel_rfl) ?_)
                        refine R.go 2 (R.any1 15 (by kernel_rfl) (by kernel_rfl) ?_)
                        refine R.go 2 (R.any0 (by kernel_rfl) ?_)
                        exact R.metF (v_45, p1_46, h1_47, v_57, p1_58, h1_59) (by kernel_rfl) ⟨by first | assumption | omega, by first | assumption | omega⟩ (by kernel_rfl)
                    · refine R.go 2 (R.any1 6 (by kernel_rfl) (by kernel_rfl) ?_)
                      refine R.go 2 (R.any1 14 (by kernel_rfl) (by kernel_rfl) ?_)
                      refine R.go 2 (R.any1 15 (by kernel_rfl) (by kernel_rfl) ?_)
                      refine R.go 2 (R.any0 (by kernel_rfl) ?_)
                      exact R.metF (v_45, p1_46, h1_47, v_57, p1_58, h1_59) (by kernel_rfl) ⟨by first | assumption | omega, by first | assumption | omega⟩ (by kernel_rfl)
                · refine R.idx eI (dsR n_2 xs_3 vs_4 l_5) 0 ((v_57).toNat) v_57 (by kernel_rfl) (by omega) eI_len (by omega) (by kernel_rfl) ?_
                  refine R.go 1 (R.any2 5 13 (by kernel_rfl) (by kernel_rfl) ?_ ?_)
                  · refine R.idx eI (dsR n_2 xs_3 vs_4 l_5) 0 ((v_45).toNat) v_45 (by kernel_rfl) (by omega) eI_len (by omega) (by kernel_rfl) ?_
                    refine R.go 1 (R.any2 6 13 (by kernel_rfl) (by kernel_rfl) ?_ ?_)
                    · refine R.go 2 (R.any2 13 14 (by kernel_rfl) (by kernel_rfl) ?_ ?_)
                      · refine R.go 2 (R.any1 14 (by kernel_rfl) (by kernel_rfl) ?_)
                        refine R.go 2 (R.any1 15 (by kernel_rfl) (by kernel_rfl) ?_)
                        refine R.go 2 (R.any0 (by kernel_rfl) ?_)
                        exact R.metF (v_45, p1_46, h1_47, v_57, p1_58, h1_59) (by kernel_rfl) ⟨by first | assumption | omega, by first | assumption | omega⟩ (by kernel_rfl)
                      · refine R.go 2 (R.any1 13 (by kernel_rfl) (by kernel_rfl) ?_)
                        refine R.go 2 (R.any1 15 (by kernel_rfl) (by kernel_rfl) ?_)
                        refine R.go 2 (R.any0 (by kernel_rfl) ?_)
                        exact R.metF (v_45, p1_46, h1_47, v_57, p1_58, h1_59) (by kernel_rfl) ⟨by first | assumption | omega, by first | assumption | omega⟩ (by kernel_rfl)
                    · refine R.go 2 (R.any1 6 (by kernel_rfl) (by kernel_rfl) ?_)
                      refine R.go 2 (R.any1 14 (by kernel_rfl) (by kernel_rfl) ?_)
                      refine R.go 2 (R.any1 15 (by kernel_rfl) (by kernel_rfl) ?_)
                      refine R.go 2 (R.any0 (by kernel_rfl) ?_)
                      exact R.metF (v_45, p1_46, h1_47, v_57, p1_58, h1_59) (by kernel_rfl) ⟨by first | assumption | omega, by first | assumption | omega⟩ (by kernel_rfl)
                  · refine R.go 2 (R.any1 5 (by kernel_rfl) (by kernel_rfl) ?_)
                    refine R.idx eI (dsR n_2 xs_3 vs_4 l_5) 0 ((v_45).toNat) v_45 (by kernel_rfl) (by omega) eI_len (by omega) (by kernel_rfl) ?_
                    refine R.go 1 (R.any1 6 (by kernel_rfl) (by kernel_rfl) ?_)
                    refine R.go 2 (R.any1 14 (by kernel_rfl) (by kernel_rfl) ?_)
                    refine R.go 2 (R.any1 15 (by kernel_rfl) (by kernel_rfl) ?_)
                    refine R.go 2 (R.any0 (by kernel_rfl) ?_)
                    exact R.metF (v_45, p1_46, h1_47, v_57, p1_58, h1_59) (by kernel_rfl) ⟨by first | assumption | omega, by first | assumption | omega⟩ (by kernel_rfl)
          · refine R.go 2 (R.any1 3 (by kernel_rfl) (by kernel_rfl) ?_)
            refine R.go 2 (R.any1 4 (by kernel_rfl) (by kernel_rfl) ?_)
            refine R.callX (CallX.perm [1, 0] [1, 0] (CallX.box 1 34 [AI n_2, LI xs_3, LI vs_4] (belowX_c_r1 c 0 h_16 ((dsR n_2 xs_3 vs_4 l_5).length) 34 3 1 [AI n_2, LI xs_3, LI vs_4] hc) (by kernel_rfl) (by kernel_rfl) (by kernel_rfl) (by kernel_rfl) (by rintro _ _ ⟨_, _, _, _, rfl, rfl⟩; exact ⟨by kernel_rfl, by kernel_rfl, by kernel_rfl⟩)) (by kernel_rfl) (by kernel_rfl) (by kernel_rfl) (by rintro _ _ ⟨_, ⟨_, _, _, _, rfl, rfl⟩, rfl⟩; exact Nat.le_of_ble_eq_true (by kernel_rfl))) (by kernel_rfl) (by kernel_rfl) (by kernel_rfl) ?_
            rintro _ _ ⟨_, _, ⟨_, ⟨v_61, p1_62, h1_63, f64, rfl, rfl⟩, rfl⟩, rfl, rfl⟩
            refine R.go 1 (R.any2 5 11 (by kernel_rfl) (by kernel_rfl) ?_ ?_)
            · refine R.idx eI (dsR n_2 xs_3 vs_4 l_5) 0 ((v_61).toNat) v_61 (by kernel_rfl) (by omega) eI_len (by omega) (by kernel_rfl) ?_
              refine R.go 1 (R.any2 6 11 (by kernel_rfl) (by kernel_rfl) ?_ ?_)
              · refine R.go 2 (R.any1 11 (by kernel_rfl) (by kernel_rfl) ?_)
                refine R.callX (CallX.perm [1, 0] [1, 0] (CallX.box 1 34 [AI n_2, LI xs_3, LI vs_4] (belowX_c_r1 c p1_62 h1_63 ((dsR n_2 xs_3 vs_4 l_5).length) 34 3 1 [AI n_2, LI xs_3, LI vs_4] hc) (by kernel_rfl) (by kernel_rfl) (by kernel_rfl) (by kernel_rfl) (by rintro _ _ ⟨_, _, _, _, rfl, rfl⟩; exact ⟨by kernel_rfl, by kernel_rfl, by kernel_rfl⟩)) (by kernel_rfl) (by kernel_rfl) (by kernel_rfl) (by rintro _ _ ⟨_, ⟨_, _, _, _, rfl, rfl⟩, rfl⟩; exact Nat.le_of_ble_eq_true (by kernel_rfl))) (by kernel_rfl) (by kernel_rfl) (by kernel_rfl) ?_
                rintro _ _ ⟨_, _, ⟨_, ⟨v_65, p1_66, h1_67, f68, rfl, rfl⟩, rfl⟩, rfl, rfl⟩
                refine R.go 1 (R.any2 12 14 (by kernel_rfl) (by kernel_rfl) ?_ ?_)
                · refine R.idx eI (dsR n_2 xs_3 vs_4 l_5) 0 ((v_65).toNat) v_65 (by kernel_rfl) (by omega) eI_len (by omega) (by kernel_rfl) ?_
                  refine R.go 1 (R.any2 13 14 (by kernel_rfl) (by kernel_rfl) ?_ ?_)
                  · refine R.go 2 (R.any1 14 (by kernel_rfl) (by kernel_rfl) ?_)
                    refine R.go 2 (R.any1 15 (by kernel_rfl) (by kernel_rfl) ?_)
                    refine R.go 2 (R.any0 (by kernel_rfl) ?_)
                    exact R.metF (v_61, p1_62, h1_63, v_65, p1_66, h1_67) (by kernel_rfl) ⟨by first | assumption | omega, by first | assumption | omega⟩ (by kernel_rfl)
                  · refine R.go 2 (R.any1 13 (by kernel_rfl) (by kernel_rfl) ?_)
                    refine R.go 2 (R.any1 15 (by kernel_rfl) (by kernel_rfl) ?_)
                    refine R.go 2 (R.any0 (by kernel_rfl) ?_)
                    exact R.metF (v_61, p1_62, h1_63, v_65, p1_66, h1_67) (by kernel_rfl) ⟨by first | assumption | omega, by first | assumption | omega⟩ (by kernel_rfl)
                · refine R.go 2 (R.any1 12 (by kernel_rfl) (by kernel_rfl) ?_)
                  refine R.idx eI (dsR n_2 xs_3 vs_4 l_5) 0 ((v_65).toNat) v_65 (by kernel_rfl) (by omega) eI_len (by omega) (by kernel_rfl) ?_
                  refine R.go 1 (R.any1 13 (by kernel_rfl) (by kernel_rfl) ?_)
                  refine R.go 2 (R.any1 15 (by kernel_rfl) (by kernel_rfl) ?_)
                  refine R.go 2 (R.any0 (by kernel_rfl) ?_)
                  exact R.metF (v_61, p1_62, h1_63, v_65, p1_66, h1_67) (by kernel_rfl) ⟨by first | assumption | omega, by first | assumption | omega⟩ (by kernel_rfl)
              · refine R.callX (CallX.perm [1, 0] [1, 0] (CallX.box 1 34 [AI n_2, LI xs_3, LI vs_4] (belowX_c_r1 c p1_62 h1_63 ((dsR n_2 xs_3 vs_4 l_5).length) 34 3 1 [AI n_2, LI xs_3, LI vs_4] hc) (by kernel_rfl) (by kernel_rfl) (by kernel_rfl) (by kernel_rfl) (by rintro _ _ ⟨_, _, _, _, rfl, rfl⟩; exact ⟨by kernel_rfl, by kernel_rfl, by kernel_rfl⟩)) (by kernel_rfl) (by kernel_rfl) (by kernel_rfl) (by rintro _ _ ⟨_, ⟨_, _, _, _, rfl, rfl⟩, rfl⟩; exact Nat.le_of_ble_eq_true (by kernel_rfl))) (by kernel_rfl) (by kernel_rfl) (by kernel_rfl) ?_
                rintro _ _ ⟨_, _, ⟨_, ⟨v_69, p1_70, h1_71, f72, rfl, rfl⟩, rfl⟩, rfl, rfl⟩
                refine R.go 1 (R.any2 6 12 (by kernel_rfl) (by kernel_rfl) ?_ ?_)
                · refine R.go 2 (R.any2 12 14 (by kernel_rfl) (by kernel_rfl) ?_ ?_)
                  · refine R.idx eI (dsR n_2 xs_3 vs_4 l_5) 0 ((v_69).toNat) v_69 (by kernel_rfl) (by omega) eI_len (by omega) (by kernel_rfl) ?_
                    refine R.go 1 (R.any2 13 14 (by kernel_rfl) (by kernel_rfl) ?_ ?_)
                    · refine R.go 2 (R.any1 14 (by kernel_rfl) (by kernel_rfl) ?_)
                      refine R.go 2 (R.any1 15 (by kernel_rfl) (by kernel_rfl) ?_)
                      refine R.go 2 (R.any0 (by kernel_rfl) ?_)
                      exact R.metF (v_61, p1_62, h1_63, v_69, p1_70, h1_71) (by kernel_rfl) ⟨by first | assumption | omega, by first | assumption | omega⟩ (by kernel_rfl)
                    · refine R.go 2 (R.any1 13 (by kernel_rfl) (by kernel_rfl) ?_)
                      refine R.go 2 (R.any1 15 (by kernel_rfl) (by kernel_rfl) ?_)
                      refine R.go 2 (R.any0 (by kernel_rfl) ?_)
                      exact R.metF (v_61, p1_62, h1_63, v_69, p1_70, h1_71) (by kernel_rfl) ⟨by first | assumption | omega, by first | assumption | omega⟩ (by kernel_rfl)
                  · refine R.go 2 (R.any1 12 (by kernel_rfl) (by kernel_rfl) ?_)
                    refine R.idx eI (dsR n_2 xs_3 vs_4 l_5) 0 ((v_69).toNat) v_69 (by kernel_rfl) (by omega) eI_len (by omega) (by kernel_rfl) ?_
                    refine R.go 1 (R.any1 13 (by kernel_rfl) (by kernel_rfl) ?_)
                    refine R.go 2 (R.any1 15 (by kernel_rfl) (by kernel_rfl) ?_)
                    refine R.go 2 (R.any0 (by kernel_rfl) ?_)
                    exact R.metF (v_61, p1_62, h1_63, v_69, p1_70, h1_71) (by kernel_rfl) ⟨by first | assumption | omega, by first | assumption | omega⟩ (by kernel_rfl)
                · refine R.idx eI (dsR n_2 xs_3 vs_4 l_5) 0 ((v_69).toNat) v_69 (by kernel_rfl) (by omega) eI_len (by omega) (by kernel_rfl) ?_
                  refine R.go 1 (R.any2 6 13 (by kernel_rfl) (by kernel_rfl) ?_ ?_)
                  · refine R.go 2 (R.any2 13 14 (by kernel_rfl) (by kernel_rfl) ?_ ?_)
                    · refine R.go 2 (R.any1 14 (by kernel_rfl) (by kernel_rfl) ?_)
                      refine R.go 2 (R.any1 15 (by kernel_rfl) (by kernel_rfl) ?_)
                      refine R.go 2 (R.any0 (by kernel_rfl) ?_)
                      exact R.metF (v_61, p1_62, h1_63, v_69, p1_70, h1_71) (by kernel_rfl) ⟨by first | assumption | omega, by first | assumption | omega⟩ (by kernel_rfl)
                    · refine R.go 2 (R.any1 13 (by kernel_rfl) (by kernel_rfl) ?_)
                      refine R.go 2 (R.any1 15 (by kernel_rfl) (by kernel_rfl) ?_)
                      refine R.go 2 (R.any0 (by kernel_rfl) ?_)
                      exact R.metF (v_61, p1_62, h1_63, v_69, p1_70, h1_71) (by kernel_rfl) ⟨by first | assumption | omega, by first | assumption | omega⟩ (by kernel_rfl)
                  · refine R.go 2 (R.any1 6 (by kernel_rfl) (by kernel_rfl) ?_)
                    refine R.go 2 (R.any1 14 (by kernel_rfl) (by kernel_rfl) ?_)
                    refine R.go 2 (R.any1 15 (by kernel_rfl) (by kernel_rfl) ?_)
                    refine R.go 2 (R.any0 (by kernel_rfl) ?_)
                    exact R.metF (v_61, p1_62, h1_63, v_69, p1_70, h1_71) (by kernel_rfl) ⟨by first | assumption | omega, by first | assumption | omega⟩ (by kernel_rfl)
            · refine R.callX (CallX.perm [1, 0] [1, 0] (CallX.box 1 34 [AI n_2, LI xs_3, LI vs_4] (belowX_c_r1 c p1_62 h1_63 ((dsR n_2 xs_3 vs_4 l_5).length) 34 3 1 [AI n_2, LI xs_3, LI vs_4] hc) (by kernel_rfl) (by kernel_rfl) (by kernel_rfl) (by kernel_rfl) (by rintro _ _ ⟨_, _, _, _, rfl, rfl⟩; exact ⟨by kernel_rfl, by kernel_rfl, by kernel_rfl⟩)) (by kernel_rfl) (by kernel_rfl) (by kernel_rfl) (by rintro _ _ ⟨_, ⟨_, _, _, _, rfl, rfl⟩, rfl⟩; exact Nat.le_of_ble_eq_true (by kernel_rfl))) (by kernel_rfl) (by kernel_rfl) (by kernel_rfl) ?_
              rintro _ _ ⟨_, _, ⟨_, ⟨v_73, p1_74, h1_75, f76, rfl, rfl⟩, rfl⟩, rfl, rfl⟩
              refine R.go 1 (R.any2 5 12 (by kernel_rfl) (by kernel_rfl) ?_ ?_)
              · refine R.idx eI (dsR n_2 xs_3 vs_4 l_5) 0 ((v_61).toNat) v_61 (by kernel_rfl) (by omega) eI_len (by omega) (by kernel_rfl) ?_
                refine R.go 1 (R.any2 6 12 (by kernel_rfl) (by kernel_rfl) ?_ ?_)
                · refine R.go 2 (R.any2 12 14 (by kernel_rfl) (by kernel_rfl) ?_ ?_)
                  · refine R.idx eI (dsR n_2 xs_3 vs_4 l_5) 0 ((v_73).toNat) v_73 (by kernel_rfl) (by omega) eI_len (by omega) (by kernel_rfl) ?_
                    refine R.go 1 (R.any2 13 14 (by kernel_rfl) (by kernel_rfl) ?_ ?_)
                    · refine R.go 2 (R.any1 14 (by kernel_rfl) (by kernel_rfl) ?_)
                      refine R.go 2 (R.any1 15 (by kernel_rfl) (by kernel_rfl) ?_)
                      refine R.go 2 (R.any0 (by kernel_rfl) ?_)
                      exact R.metF (v_61, p1_62, h1_63, v_73, p1_74, h1_75) (by kernel_rfl) ⟨by first | assumption | omega, by first | assumption | omega⟩ (by kernel_rfl)
                    · refine R.go 2 (R.any1 13 (by kernel_rfl) (by kernel_rfl) ?_)
                      refine R.go 2 (R.any1 15 (by kernel_rfl) (by kernel_rfl) ?_)
                      refine R.go 2 (R.any0 (by kernel_rfl) ?_)
                      exact R.metF (v_61, p1_62, h1_63, v_73, p1_74, h1_75) (by kernel_rfl) ⟨by first | assumption | omega, by first | assumption | omega⟩ (by kernel_rfl)
                  · refine R.go 2 (R.any1 12 (by kernel_rfl) (by kernel_rfl) ?_)
                    refine R.idx eI (dsR n_2 xs_3 vs_4 l_5) 0 ((v_73).toNat) v_73 (by kernel_rfl) (by omega) eI_len (by omega) (by kernel_rfl) ?_
                    refine R.go 1 (R.any1 13 (by kernel_rfl) (by kernel_rfl) ?_)
                    refine R.go 2 (R.any1 15 (by kernel_rfl) (by kernel_rfl) ?_)
                    refine R.go 2 (R.any0 (by kernel_rfl) ?_)
                    exact R.metF (v_61, p1_62, h1_63, v_73, p1_74, h1_75) (by kernel_rfl) ⟨by first | assumption | omega, by first | assumption | omega⟩ (by kernel_rfl)
                · refine R.idx eI (dsR n_2 xs_3 vs_4 l_5) 0 ((v_73).toNat) v_73 (by kernel_rfl) (by omega) eI_len (by omega) (by kernel_rfl) ?_
                  refine R.go 1 (R.any2 6 13 (by kernel_rfl) (by kernel_rfl) ?_ ?_)
                  · refine R.go 2 (R.any2 13 14 (by kernel_rfl) (by kernel_rfl) ?_ ?_)
                    · refine R.go 2 (R.any1 14 (by kernel_rfl) (by kernel_rfl) ?_)
                      refine R.go 2 (R.any1 15 (by kernel_rfl) (by kernel_rfl) ?_)
                      refine R.go 2 (R.any0 (by kernel_rfl) ?_)
                      exact R.metF (v_61, p1_62, h1_63, v_73, p1_74, h1_75) (by kernel_rfl) ⟨by first | assumption | omega, by first | assumption | omega⟩ (by kernel_rfl)
                    · refine R.go 2 (R.any1 13 (by kernel_rfl) (by kernel_rfl) ?_)
                      refine R.go 2 (R.any1 15 (by kernel_rfl) (by kernel_rfl) ?_)
                      refine R.go 2 (R.any0 (by kernel_rfl) ?_)
                      exact R.metF (v_61, p1_62, h1_63, v_73, p1_74, h1_75) (by kernel_rfl) ⟨by first | assumption | omega, by first | assumption | omega⟩ (by kernel_rfl)
                  · refine R.go 2 (R.any1 6 (by kernel_rfl) (by kernel_rfl) ?_)
                    refine R.go 2 (R.any1 14 (by kernel_rfl) (by kernel_rfl) ?_)
                    refine R.go 2 (R.any1 15 (by kernel_rfl) (by kernel_rfl) ?_)
                    refine R.go 2 (R.any0 (by kernel_rfl) ?_)
                    exact R.metF (v_61, p1_62, h1_63, v_73, p1_74, h1_75) (by kernel_rfl) ⟨by first | assumption | omega, by first | assumption | omega⟩ (by kernel_rfl)
              · refine R.idx eI (dsR n_2 xs_3 vs_4 l_5) 0 ((v_73).toNat) v_73 (by kernel_rfl) (by omega) eI_len (by omega) (by kernel_rfl) ?_
                refine R.go 1 (R.any2 5 13 (by kernel_rfl) (by kernel_rfl) ?_ ?_)
                · refine R.idx eI (dsR n_2 xs_3 vs_4 l_5) 0 ((v_61).toNat) v_61 (by kernel_rfl) (by omega) eI_len (by omega) (by kernel_rfl) ?_
                  refine R.go 1 (R.any2 6 13 (by kernel_rfl) (by kernel_rfl) ?_ ?_)
                  · refine R.go 2 (R.any2 13 14 (by kernel_rfl) (by kernel_rfl) ?_ ?_)
                    · refine R.go 2 (R.any1 14 (by kernel_rfl) (by kernel_rfl) ?_)
                      refine R.go 2 (R.any1 15 (by kernel_rfl) (by kernel_rfl) ?_)
                      refine R.go 2 (R.any0 (by kernel_rfl) ?_)
                      exact R.metF (v_61, p1_62, h1_63, v_73, p1_74, h1_75) (by kernel_rfl) ⟨by first | assumption | omega, by first | assumption | omega⟩ (by kernel_rfl)
                    · refine R.go 2 (R.any1 13 (by kernel_rfl) (by kernel_rfl) ?_)
                      refine R.go 2 (R.any1 15 (by kernel_rfl) (by kernel_rfl) ?_)
                      refine R.go 2 (R.any0 (by kernel_rfl) ?_)
                      exact R.metF (v_61, p1_62, h1_63, v_73, p1_74, h1_75) (by kernel_rfl) ⟨by first | assumption | omega, by first | assumption | omega⟩ (by kernel_rfl)
                  · refine R.go 2 (R.any1 6 (by kernel_rfl) (by kernel_rfl) ?_)
                    refine R.go 2 (R.any1 14 (by kernel_rfl) (by kernel_rfl) ?_)
                    refine R.go 2 (R.any1 15 (by kernel_rfl) (by kernel_rfl) ?_)
                    refine R.go 2 (R.any0 (by kernel_rfl) ?_)
                    exact R.metF (v_61, p1_62, h1_63, v_73, p1_74, h1_75) (by kernel_rfl) ⟨by first | assumption | omega, by first | assumption | omega⟩ (by kernel_rfl)
                · refine R.go 2 (R.any1 5 (by kernel_rfl) (by kernel_rfl) ?_)
                  refine R.idx eI (dsR n_2 xs_3 vs_4 l_5) 0 ((v_61).toNat) v_61 (by kernel_rfl) (by omega) eI_len (by omega) (by kernel_rfl) ?_
                  refine R.go 1 (R.any1 6 (by kernel_rfl) (by kernel_rfl) ?_)
                  refine R.go 2 (R.any1 14 (by kernel_rfl) (by kernel_rfl) ?_)
                  refine R.go 2 (R.any1 15 (by kernel_rfl) (by kernel_rfl) ?_)
                  refine R.go 2 (R.any0 (by kernel_rfl) ?_)
                  exact R.metF (v_61, p1_62, h1_63, v_73, p1_74, h1_75) (by kernel_rfl) ⟨by first | assumption | omega, by first | assumption | omega⟩ (by kernel_rfl)
        · rintro ⟨v_17, p1_18, h1_19, v_21, p1_22, h1_23⟩ ⟨f20, f24⟩
          have hx : ((dsR n_2 xs_3 vs_4 l_5).getD ((v_17).toNat) 0) ∈ dsR n_2 xs_3 vs_4 l_5 := mem_ixD (by omega)
          have hy : ((dsR n_2 xs_3 vs_4 l_5).getD ((v_21).toNat) 0) ∈ dsR n_2 xs_3 vs_4 l_5 := mem_ixD (by omega)
          have hor := ds_or hz hx hy
          have hno := ds_not hz hx
          refine R.go 6 (R.call true (hasInt_c (dsR n_2 xs_3 vs_4 l_5) (bor ((dsR n_2 xs_3 vs_4 l_5).getD ((v_17).toNat) 0) ((dsR n_2 xs_3 vs_4 l_5).getD ((v_21).toNat) 0)) (by first | omega | (simp <;> omega))) (by kernel_rfl) rfl (by kernel_rfl) ?_)
          refine R.go 1 ?_
          by_cases c77 : (bor ((dsR n_2 xs_3 vs_4 l_5).getD ((v_17).toNat) 0) ((dsR n_2 xs_3 vs_4 l_5).getD ((v_21).toNat) 0)) ∈ (dsR n_2 xs_3 vs_4 l_5)
          · refine R.want (decide ((bor ((dsR n_2 xs_3 vs_4 l_5).getD ((v_17).toNat) 0) ((dsR n_2 xs_3 vs_4 l_5).getD ((v_21).toNat) 0)) ∈ (dsR n_2 xs_3 vs_4 l_5))) true (by kernel_rfl) (dT c77) ?_
            refine R.go 1 (R.want (decide ((bor ((dsR n_2 xs_3 vs_4 l_5).getD ((v_17).toNat) 0) ((dsR n_2 xs_3 vs_4 l_5).getD ((v_21).toNat) 0)) ∈ (dsR n_2 xs_3 vs_4 l_5))) true (by kernel_rfl) (dT c77) ?_)
            refine R.go 1 (R.want (decide ((bor ((dsR n_2 xs_3 vs_4 l_5).getD ((v_17).toNat) 0) ((dsR n_2 xs_3 vs_4 l_5).getD ((v_21).toNat) 0)) ∈ (dsR n_2 xs_3 vs_4 l_5))) true (by kernel_rfl) (dT c77) ?_)
            refine R.go 1 (R.want (decide ((bor ((dsR n_2 xs_3 vs_4 l_5).getD ((v_17).toNat) 0) ((dsR n_2 xs_3 vs_4 l_5).getD ((v_21).toNat) 0)) ∈ (dsR n_2 xs_3 vs_4 l_5))) true (by kernel_rfl) (dT c77) ?_)
            refine R.go 1 (R.want (decide ((bor ((dsR n_2 xs_3 vs_4 l_5).getD ((v_17).toNat) 0) ((dsR n_2 xs_3 vs_4 l_5).getD ((v_21).toNat) 0)) ∈ (dsR n_2 xs_3 vs_4 l_5))) true (by kernel_rfl) (dT c77) ?_)
            refine R.call true (full9_c n_2 (by omega) (by omega)) (by kernel_rfl) rfl (by kernel_rfl) ?_
            refine R.want (decide ((bor ((dsR n_2 xs_3 vs_4 l_5).getD ((v_17).toNat) 0) ((dsR n_2 xs_3 vs_4 l_5).getD ((v_21).toNat) 0)) ∈ (dsR n_2 xs_3 vs_4 l_5))) true (by kernel_rfl) (dT c77) ?_
            refine R.go 1 (R.want (decide ((bor ((dsR n_2 xs_3 vs_4 l_5).getD ((v_17).toNat) 0) ((dsR n_2 xs_3 vs_4 l_5).getD ((v_21).toNat) 0)) ∈ (dsR n_2 xs_3 vs_4 l_5))) true (by kernel_rfl) (dT c77) ?_)
            refine R.go 1 (R.want (decide ((bor ((dsR n_2 xs_3 vs_4 l_5).getD ((v_17).toNat) 0) ((dsR n_2 xs_3 vs_4 l_5).getD ((v_21).toNat) 0)) ∈ (dsR n_2 xs_3 vs_4 l_5))) true (by kernel_rfl) (dT c77) ?_)
            refine R.call true (hasInt_c (dsR n_2 xs_3 vs_4 l_5) (bnot ((shl64 1 n_2) - 1) ((dsR n_2 xs_3 vs_4 l_5).getD ((v_17).toNat) 0)) (by first | omega | (simp <;> omega))) (by kernel_rfl) rfl (by kernel_rfl) ?_
            refine R.pick (decide ((bor ((dsR n_2 xs_3 vs_4 l_5).getD ((v_17).toNat) 0) ((dsR n_2 xs_3 vs_4 l_5).getD ((v_21).toNat) 0)) ∈ (dsR n_2 xs_3 vs_4 l_5))) true (by kernel_rfl) (dT c77) (by kernel_rfl) ?_
            exact R.go 2 (R.retE (.bool (decide ((bnot ((shl64 1 n_2) - 1) ((dsR n_2 xs_3 vs_4 l_5).getD ((v_17).toNat) 0)) ∈ (dsR n_2 xs_3 vs_4 l_5)))) (by kernel_rfl) (by kernel_rfl) (by first | (first | rfl | exact absurd hor (by assumption) | exact absurd htm (by assumption) | exact congrArg AV.bool (decide_eq_true hno) | (exfalso; omega)) | (exfalso; omega)))
          · refine R.skp (decide ((bor ((dsR n_2 xs_3 vs_4 l_5).getD ((v_17).toNat) 0) ((dsR n_2 xs_3 vs_4 l_5).getD ((v_21).toNat) 0)) ∈ (dsR n_2 xs_3 vs_4 l_5))) true (by kernel_rfl) (dF c77) (by kernel_rfl) ?_
            refine R.skp (decide ((bor ((dsR n_2 xs_3 vs_4 l_5).getD ((v_17).toNat) 0) ((dsR n_2 xs_3 vs_4 l_5).getD ((v_21).toNat) 0)) ∈ (dsR n_2 xs_3 vs_4 l_5))) true (by kernel_rfl) (dF c77) (by kernel_rfl) ?_
            refine R.skp (decide ((bor ((dsR n_2 xs_3 vs_4 l_5).getD ((v_17).toNat) 0) ((dsR n_2 xs_3 vs_4 l_5).getD ((v_21).toNat) 0)) ∈ (dsR n_2 xs_3 vs_4 l_5))) true (by kernel_rfl) (dF c77) (by kernel_rfl) ?_
            refine R.skp (decide ((bor ((dsR n_2 xs_3 vs_4 l_5).getD ((v_17).toNat) 0) ((dsR n_2 xs_3 vs_4 l_5).getD ((v_21).toNat) 0)) ∈ (dsR n_2 xs_3 vs_4 l_5))) true (by kernel_rfl) (dF c77) (by kernel_rfl) ?_
            refine R.skp (decide ((bor ((dsR n_2 xs_3 vs_4 l_5).getD ((v_17).toNat) 0) ((dsR n_2 xs_3 vs_4 l_5).getD ((v_21).toNat) 0)) ∈ (dsR n_2 xs_3 vs_4 l_5))) true (by kernel_rfl) (dF c77) (by kernel_rfl) ?_
            refine R.skp (decide ((bor ((dsR n_2 xs_3 vs_4 l_5).getD ((v_17).toNat) 0) ((dsR n_2 xs_3 vs_4 l_5).getD ((v_21).toNat) 0)) ∈ (dsR n_2 xs_3 vs_4 l_5))) true (by kernel_rfl) (dF c77) (by kernel_rfl) ?_
            refine R.skp (decide ((bor ((dsR n_2 xs_3 vs_4 l_5).getD ((v_17).toNat) 0) ((dsR n_2 xs_3 vs_4 l_5).getD ((v_21).toNat) 0)) ∈ (dsR n_2 xs_3 vs_4 l_5))) true (by kernel_rfl) (dF c77) (by kernel_rfl) ?_
            refine R.skp (decide ((bor ((dsR n_2 xs_3 vs_4 l_5).getD ((v_17).toNat) 0) ((dsR n_2 xs_3 vs_4 l_5).getD ((v_21).toNat) 0)) ∈ (dsR n_2 xs_3 vs_4 l_5))) true (by kernel_rfl) (dF c77) (by kernel_rfl) ?_
            refine R.pick (decide ((bor ((dsR n_2 xs_3 vs_4 l_5).getD ((v_17).toNat) 0) ((dsR n_2 xs_3 vs_4 l_5).getD ((v_21).toNat) 0)) ∈ (dsR n_2 xs_3 vs_4 l_5))) false (by kernel_rfl) (dF c77) (by kernel_rfl) ?_
            exact R.go 2 (R.retE (.bool false) (by kernel_rfl) (by kernel_rfl) (by first | (first | rfl | exact absurd hor (by assumption) | exact absurd htm (by assumption) | exact congrArg AV.bool (decide_eq_true hno) | (exfalso; omega)) | (exfalso; omega)))

end Go.Proofs.Ytpalghbfhgimkaa
