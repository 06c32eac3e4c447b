/- Texts of the proof: MO2C. -/
import Derived.Test.YtgebepfdphmjcaaGreatPartL

/-! Draws of two frames and a map, second part. -/
namespace Go.Proofs.YtgebepfdphmjcaaGreat
open Go.RowKit Go.Abs

theorem twoX_c_r4 (c : List Int) (p : Nat) (h : Int) (eo1 : Nat) (so1 : Nat) (no1 : Nat) (co1 : List AV) (eo2 : Nat) (so2 : Nat) (no2 : Nat) (co2 : List AV) (eo3 : Nat) (so3 : Nat) (no3 : Nat) (co3 : List AV) (eo4 : Nat) (so4 : Nat) (no4 : Nat) (co4 : List AV) (hc : BY c) : CallX Tryz.prog 88 [.ptr 0 0] [.box 120 [LB c, AI (p : Int), .int .u64 h], .list eo1 so1 no1 co1, .list eo2 so2 no2 co2, .list eo3 so3 no3 co3, .list eo4 so4 no4 co4] (fun (resX : AV) (objX : List AObj) => ∃ n : Int, ∃ xs : List Int, ∃ m : Int, ∃ ys : List Int, ∃ p1 : Nat, ∃ h1 : Int, (xs.length ≤ 100) ∧ (ys.length ≤ 100) ∧ resX = .tup [.agg [AI n, LI xs], .agg [AI m, LI ys]] ∧ objX = [.box 120 [LB c, AI (p1 : Int), .int .u64 h1], .list eo1 so1 no1 co1, .list eo2 so2 no2 co2, .list eo3 so3 no3 co3, .list eo4 so4 no4 co4]) := by
  have hcl : c.length ≤ 4096 := hc.1
  have hcb := hc.2
  refine CallX.dropE (CallX.ofF Tryz.func88 rfl (by kernel_rfl) ?_)
  intro usC frC hfC
  refine R.go 9 (R.callX (CallX.inF 5 usC frC (CallX.box 6 26 [AI 0, .nil] (CallX.box 5 26 [AI 0, .nil] (nextX_c_r6 c p h 6 eo1 so1 no1 co1 eo2 so2 no2 co2 eo3 so3 no3 co3 eo4 so4 no4 co4 26 2 1 [AI 0, .nil] 26 2 1 [AI 0, .nil] hc) (by kernel_rfl) (by kernel_rfl) (by kernel_rfl) (by kernel_rfl) (by rintro _ _ ⟨_, _, _, _, rfl, rfl⟩; exact ⟨by kernel_rfl, by kernel_rfl, by kernel_rfl⟩)) (by kernel_rfl) (by kernel_rfl) (by kernel_rfl) (by kernel_rfl) (by rintro _ _ ⟨_, ⟨_, _, _, _, rfl, rfl⟩, rfl⟩; exact ⟨by kernel_rfl, by kernel_rfl, by kernel_rfl⟩)) (Nat.le_of_ble_eq_true (by kernel_rfl)) (by kernel_rfl) (by kernel_rfl) (by rintro _ _ ⟨_, ⟨_, ⟨_, _, _, _, rfl, rfl⟩, rfl⟩, rfl⟩; exact Nat.le_of_ble_eq_true (by kernel_rfl))) (by kernel_rfl) (by kernel_rfl) (by kernel_rfl) ?_)
  rintro _ _ ⟨_, _, ⟨_, ⟨_, ⟨v_1, p1_2, h1_3, f4, rfl, rfl⟩, rfl⟩, rfl⟩, rfl, rfl⟩
  refine R.ar (1 + v_1) (by kernel_rfl) (by omega) (by omega) (by kernel_rfl) ?_
  refine R.callX (CallX.inF 5 usC frC (CallX.box 6 26 [AI 0, .nil] (CallX.box 5 26 [AI 0, .nil] (frameX_c_r6 c p1_2 h1_3 (1 + v_1) eo1 so1 no1 co1 eo2 so2 no2 co2 eo3 so3 no3 co3 eo4 so4 no4 co4 26 2 1 [AI 0, .nil] 26 2 1 [AI 0, .nil] hc (by omega)) (by kernel_rfl) (by kernel_rfl) (by kernel_rfl) (by kernel_rfl) (by rintro _ _ ⟨_, _, _, _, _, rfl, rfl⟩; exact ⟨by kernel_rfl, by kernel_rfl, by kernel_rfl⟩)) (by kernel_rfl) (by kernel_rfl) (by kernel_rfl) (by kernel_rfl) (by rintro _ _ ⟨_, ⟨_, _, _, _, _, rfl, rfl⟩, rfl⟩; exact ⟨by kernel_rfl, by kernel_rfl, by kernel_rfl⟩)) (Nat.le_of_ble_eq_true (by kernel_rfl)) (by kernel_rfl) (by kernel_rfl) (by rintro _ _ ⟨_, ⟨_, ⟨_, _, _, _, _, rfl, rfl⟩, rfl⟩, rfl⟩; exact Nat.le_of_ble_eq_true (by kernel_rfl))) (by kernel_rfl) (by kernel_rfl) (by kernel_rfl) ?_
  rintro _ _ ⟨_, _, ⟨_, ⟨_, ⟨n_5, xs_6, p1_7, h1_8, f9, rfl, rfl⟩, rfl⟩, rfl⟩, rfl, rfl⟩
  refine R.go 7 (R.call true (l05Is_c n_5 xs_6 (by first | omega | (simp <;> omega))) (by kernel_rfl) rfl (by kernel_rfl) ?_)
  refine R.go 1 ?_
  refine (Bool.eq_false_or_eq_true (okFr n_5 xs_6)).elim (fun c10 => ?_) (fun c10 => ?_)
  · refine R.want (okFr n_5 xs_6) true (by kernel_rfl) c10 ?_
    refine R.go 1 (R.want (okFr n_5 xs_6) true (by kernel_rfl) c10 ?_)
    refine R.callX (CallX.inF 5 usC frC (CallX.box 7 26 [AI n_5, LI xs_6] (CallX.box 6 26 [AI 0, .nil] (CallX.box 5 26 [AI 0, .nil] (nextX_c_r7 c p1_7 h1_8 2 eo1 so1 no1 co1 eo2 so2 no2 co2 eo3 so3 no3 co3 eo4 so4 no4 co4 26 2 1 [AI 0, .nil] 26 2 1 [AI 0, .nil] 26 2 1 [AI n_5, LI xs_6] hc) (by kernel_rfl) (by kernel_rfl) (by kernel_rfl) (by kernel_rfl) (by rintro _ _ ⟨_, _, _, _, rfl, rfl⟩; exact ⟨by kernel_rfl, by kernel_rfl, by kernel_rfl⟩)) (by kernel_rfl) (by kernel_rfl) (by kernel_rfl) (by kernel_rfl) (by rintro _ _ ⟨_, ⟨_, _, _, _, rfl, rfl⟩, rfl⟩; exact ⟨by kernel_rfl, by kernel_rfl, by kernel_rfl⟩)) (by kernel_rfl) (by kernel_rfl) (by kernel_rfl) (by kernel_rfl) (by rintro _ _ ⟨_, ⟨_, ⟨_, _, _, _, rfl, rfl⟩, rfl⟩, rfl⟩; exact ⟨by kernel_rfl, by kernel_rfl, by kernel_rfl⟩)) (Nat.le_of_ble_eq_true (by kernel_rfl)) (by kernel_rfl) (by kernel_rfl) (by rintro _ _ ⟨_, ⟨_, ⟨_, ⟨_, _, _, _, rfl, rfl⟩, rfl⟩, rfl⟩, rfl⟩; exact Nat.le_of_ble_eq_true (by kernel_rfl))) (by kernel_rfl) (by kernel_rfl) (by kernel_rfl) ?_
    rintro _ _ ⟨_, _, ⟨_, ⟨_, ⟨_, ⟨v_11, p1_12, h1_13, f14, rfl, rfl⟩, rfl⟩, rfl⟩, rfl⟩, rfl, rfl⟩
    refine R.want (okFr n_5 xs_6) true (by kernel_rfl) c10 ?_
    refine R.go 1 (R.pick (okFr n_5 xs_6) true (by kernel_rfl) c10 (by kernel_rfl) ?_)
    refine R.go 1 (R.cond (v_11 = 0) (by kernel_rfl) (fun c15 => ?_) (fun c15 => ?_))
    · refine R.go 3 (R.callX0 (congX_c n_5 xs_6 (by assumption)) (by kernel_rfl) (by rintro _ _ ⟨_, _, _, rfl, rfl⟩; rfl) (by kernel_rfl) (by kernel_rfl) ?_)
      rintro _ ⟨L_16, f17, f18, rfl, _⟩
      have hgl := fun (k : Nat) (hk : k < (L_16).length) => (by assumption : GL _ L_16) k hk
      refine R.go 3 (R.meetF (α := Int × Nat × Int × Int × (List Int)) (fun | (v_19, p1_20, h1_21, m_23, ys_24) => ((L_16.length < 1 → v_19 = 0) ∧ (1 ≤ L_16.length → 0 ≤ v_19 ∧ v_19 < L_16.length)) ∧ ((ys_24.length : Int) = m_23 ∧ 0 ≤ m_23 ∧ m_23 ≤ 9)) (fun | (v_19, p1_20, h1_21, m_23, ys_24) => (⟨(frm 36 [(0, .ptr 0 0), (2, .ptr 6 0), (3, .ptr 7 0), (4, .ptr 8 0), (5, LLI L_16), (6, .ptr 0 0), (7, .ptr 0 0), (8, AI v_1), (9, AI (1 + v_1)), (10, .agg [AI n_5, LI xs_6]), (11, .agg [AI n_5, LI xs_6]), (12, .bool (okFr n_5 xs_6)), (13, .bool (okFr n_5 xs_6)), (14, .ptr 0 0), (15, AI v_11), (16, .bool (decide (v_11 = 0))), (17, .bool (decide (v_11 = 0))), (18, .agg [AI n_5, LI xs_6]), (19, LLI L_16), (20, .agg [AI n_5, LI xs_6]), (21, .agg [AI n_5, LI xs_6]), (22, LLI L_16), (23, .ptr 0 0), (24, LLI L_16), (25, AI L_16.length), (26, AI v_19), (27, .rptr [LI (L_16.getD ((v_19).toNat) [])]), (28, LI (L_16.getD ((v_19).toNat) [])), (29, .agg [AI m_23, LI ys_24])]), [.box 120 [LB c, AI (p1_20 : Int), .int .u64 h1_21], .list eo1 so1 no1 co1, .list eo2 so2 no2 co2, .list eo3 so3 no3 co3, .list eo4 so4 no4 co4, .frame usC frC, .box 26 [AI n_5, LI xs_6], .box 26 [AI m_23, LI ys_24], .box 26 [AI n_5, LI xs_6]]⟩ : St)) (by kernel_rfl) ?_ ?_)
      · refine R.any (by decide +kernel) (by kernel_rfl) ?_
        refine R.anyF 2 (by kernel_rfl) (np_meetF _ _) ?_
        refine R.anyF 3 (by kernel_rfl) (np_meetF _ _) ?_
        refine R.anyF 4 (by kernel_rfl) (np_meetF _ _) ?_
        refine R.any3 0 1 5 (by kernel_rfl) (by kernel_rfl) ?_ ?_ ?_
        · refine R.go 2 (R.any2 1 5 (by kernel_rfl) (by kernel_rfl) ?_ ?_)
          · refine R.go 2 (R.any1 5 (by kernel_rfl) (by kernel_rfl) ?_)
            refine R.go 2 (R.any1 6 (by kernel_rfl) (by kernel_rfl) ?_)
            refine R.callX (CallX.inF 5 usC frC (CallX.box 7 26 [AI n_5, LI xs_6] (CallX.box 6 26 [AI 0, .nil] (CallX.box 5 26 [AI 0, .nil] (nextX_c_r7 c p1_12 h1_13 L_16.length eo1 so1 no1 co1 eo2 so2 no2 co2 eo3 so3 no3 co3 eo4 so4 no4 co4 26 2 1 [AI 0, .nil] 26 2 1 [AI 0, .nil] 26 2 1 [AI n_5, LI xs_6] hc) (by kernel_rfl) (by kernel_rfl) (by kernel_rfl) (by kernel_rfl) (by rintro _ _ ⟨_, _, _, _, rfl, rfl⟩; exact ⟨by kernel_rfl, by kernel_rfl, by kernel_rfl⟩)) (by kernel_rfl) (by kernel_rfl) (by kernel_rfl) (by kernel_rfl) (by rintro _ _ ⟨_, ⟨_, _, _, _, rfl, rfl⟩, rfl⟩; exact ⟨by kernel_rfl, by kernel_rfl, by kernel_rfl⟩)) (by kernel_rfl) (by kernel_rfl) (by kernel_rfl) (by kernel_rfl) (by rintro _ _ ⟨_, ⟨_, ⟨_, _, _, _, rfl, rfl⟩, rfl⟩, rfl⟩; exact ⟨by kernel_rfl, by kernel_rfl, by kernel_rfl⟩)) (Nat.le_of_ble_eq_true (by kernel_rfl)) (by kernel_rfl) (by kernel_rfl) (by rintro _ _ ⟨_, ⟨_, ⟨_, ⟨_, _, _, _, rfl, rfl⟩, rfl⟩, rfl⟩, rfl⟩; exact Nat.le_of_ble_eq_true (by kernel_rfl))) (by kernel_rfl) (by kernel_rfl) (by kernel_rfl) ?_
            rintro _ _ ⟨_, _, ⟨_, ⟨_, ⟨_, ⟨v_19, p1_20, h1_21, f22, rfl, rfl⟩, rfl⟩, rfl⟩, rfl⟩, rfl, rfl⟩
            refine R.go 1 (R.any1 7 (by kernel_rfl) (by kernel_rfl) ?_)
            refine R.idx eLI L_16 [] ((v_19).toNat) v_19 (by kernel_rfl) (by omega) eLI_len (by omega) (by kernel_rfl) ?_
            refine R.go 1 (R.any1 8 (by kernel_rfl) (by kernel_rfl) ?_)
            refine R.go 2 (R.any1 9 (by kernel_rfl) (by kernel_rfl) ?_)
            refine R.callX0 (quoX_c n_5 xs_6 (L_16.getD ((v_19).toNat) []) (by assumption) (by first | assumption | exact (hgl _ (by omega)).1) (by first | assumption | exact (hgl _ (by omega)).2)) (by kernel_rfl) (by rintro _ _ ⟨_, _, _, rfl, rfl⟩; rfl) (by kernel_rfl) (by kernel_rfl) ?_
            rintro _ ⟨m_23, ys_24, f25, rfl, _⟩
            refine R.go 1 (R.any1 10 (by kernel_rfl) (by kernel_rfl) ?_)
            refine R.go 2 (R.any1 11 (by kernel_rfl) (by kernel_rfl) ?_)
            refine R.go 2 (R.any0 (by kernel_rfl) ?_)
            exact R.metF (v_19, p1_20, h1_21, m_23, ys_24) (by kernel_rfl) ⟨by first | assumption | omega, by first | assumption | omega⟩ (by kernel_rfl)
          · refine R.go 2 (R.any2 1 6 (by kernel_rfl) (by kernel_rfl) ?_ ?_)
            · refine R.go 2 (R.any1 6 (by kernel_rfl) (by kernel_rfl) ?_)
              refine R.callX (CallX.inF 5 usC frC (CallX.box 7 26 [AI n_5, LI xs_6] (CallX.box 6 26 [AI 0, .nil] (CallX.box 5 26 [AI 0, .nil] (nextX_c_r7 c p1_12 h1_13 L_16.length eo1 so1 no1 co1 eo2 so2 no2 co2 eo3 so3 no3 co3 eo4 so4 no4 co4 26 2 1 [AI 0, .nil] 26 2 1 [AI 0, .nil] 26 2 1 [AI n_5, LI xs_6] hc) (by kernel_rfl) (by kernel_rfl) (by kernel_rfl) (by kernel_rfl) (by rintro _ _ ⟨_, _, _, _, rfl, rfl⟩; exact ⟨by kernel_rfl, by kernel_rfl, by kernel_rfl⟩)) (by kernel_rfl) (by kernel_rfl) (by kernel_rfl) (by kernel_rfl) (by rintro _ _ ⟨_, ⟨_, _, _, _, rfl, rfl⟩, rfl⟩; exact ⟨by kernel_rfl, by kernel_rfl, by kernel_rfl⟩)) (by kernel_rfl) (by kernel_rfl) (by kernel_rfl) (by kernel_rfl) (by rintro _ _ ⟨_, ⟨_, ⟨_, _, _, _, rfl, rfl⟩, rfl⟩, rfl⟩; exact ⟨by kernel_rfl, by kernel_rfl, by kernel_rfl⟩)) (Nat.le_of_ble_eq_true (by kernel_rfl)) (by kernel_rfl) (by kernel_rfl) (by rintro _ _ ⟨_, ⟨_, ⟨_, ⟨_, _, _, _, rfl, rfl⟩, rfl⟩, rfl⟩, rfl⟩; exact Nat.le_of_ble_eq_true (by kernel_rfl))) (by kernel_rfl) (by kernel_rfl) (by kernel_rfl) ?_
              rintro _ _ ⟨_, _, ⟨_, ⟨_, ⟨_, ⟨v_26, p1_27, h1_28, f29, rfl, rfl⟩, rfl⟩, rfl⟩, rfl⟩, rfl, rfl⟩
              refine R.go 1 (R.any1 7 (by kernel_rfl) (by kernel_rfl) ?_)
              refine R.idx eLI L_16 [] ((v_26).toNat) v_26 (by kernel_rfl) (by omega) eLI_len (by omega) (by kernel_rfl) ?_
              refine R.go 1 (R.any1 8 (by kernel_rfl) (by kernel_rfl) ?_)
              refine R.go 2 (R.any1 9 (by kernel_rfl) (by kernel_rfl) ?_)
              refine R.callX0 (quoX_c n_5 xs_6 (L_16.getD ((v_26).toNat) []) (by assumption) (by first | assumption | exact (hgl _ (by omega)).1) (by first | assumption | exact (hgl _ (by omega)).2)) (by kernel_rfl) (by rintro _ _ ⟨_, _, _, rfl, rfl⟩; rfl) (by kernel_rfl) (by kernel_rfl) ?_
              rintro _ ⟨m_30, ys_31, f32, rfl, _⟩
              refine R.go 1 (R.any1 10 (by kernel_rfl) (by kernel_rfl) ?_)
              refine R.go 2 (R.any1 11 (by kernel_rfl) (by kernel_rfl) ?_)
              refine R.go 2 (R.any0 (by kernel_rfl) ?_)
              exact R.metF (v_26, p1_27, h1_28, m_30, ys_31) (by kernel_rfl) ⟨by first | assumption | omega, by first | assumption | omega⟩ (by kernel_rfl)
            · refine R.callX (CallX.inF 5 usC frC (CallX.box 7 26 [AI n_5, LI xs_6] (CallX.box 6 26 [AI 0, .nil] (CallX.box 5 26 [AI 0, .nil] (nextX_c_r7 c p1_12 h1_13 L_16.length eo1 so1 no1 co1 eo2 so2 no2 co2 eo3 so3 no3 co3 eo4 so4 no4 co4 26 2 1 [AI 0, .nil] 26 2 1 [AI 0, .nil] 26 2 1 [AI n_5, LI xs_6] hc) (by kernel_rfl) (by kernel_rfl) (by kernel_rfl) (by kernel_rfl) (by rintro _ _ ⟨_, _, _, _, rfl, rfl⟩; exact ⟨by kernel_rfl, by kernel_rfl, by kernel_rfl⟩)) (by kernel_rfl) (by kernel_rfl) (by kernel_rfl) (by kernel_rfl) (by rintro _ _ ⟨_, ⟨_, _, _, _, rfl, rfl⟩, rfl⟩; exact ⟨by kernel_rfl, by kernel_rfl, by kernel_rfl⟩)) (by kernel_rfl) (by kernel_rfl) (by kernel_rfl) (by kernel_rfl) (by rintro _ _ ⟨_, ⟨_, ⟨_, _, _, _, rfl, rfl⟩, rfl⟩, rfl⟩; exact ⟨by kernel_rfl, by kernel_rfl, by kernel_rfl⟩)) (Nat.le_of_ble_eq_true (by kernel_rfl)) (by kernel_rfl) (by kernel_rfl) (by rintro _ _ ⟨_, ⟨_, ⟨_, ⟨_, _, _, _, rfl, rfl⟩, rfl⟩, rfl⟩, rfl⟩; exact Nat.le_of_ble_eq_true (by kernel_rfl))) (by kernel_rfl) (by kernel_rfl) (by kernel_rfl) ?_
              rintro _ _ ⟨_, _, ⟨_, ⟨_, ⟨_, ⟨v_33, p1_34, h1_35, f36, rfl, rfl⟩, rfl⟩, rfl⟩, rfl⟩, rfl, rfl⟩
              refine R.go 1 (R.any2 1 7 (by kernel_rfl) (by kernel_rfl) ?_ ?_)
              · refine R.go 2 (R.any1 7 (by kernel_rfl) (by kernel_rfl) ?_)
                refine R.idx eLI L_16 [] ((v_33).toNat) v_33 (by kernel_rfl) (by omega) eLI_len (by omega) (by kernel_rfl) ?_
                refine R.go 1 (R.any1 8 (by kernel_rfl) (by kernel_rfl) ?_)
                refine R.go 2 (R.any1 9 (by kernel_rfl) (by kernel_rfl) ?_)
                refine R.callX0 (quoX_c n_5 xs_6 (L_16.getD ((v_33).toNat) []) (by assumption) (by first | assumption | exact (hgl _ (by omega)).1) (by first | assumption | exact (hgl _ (by omega)).2)) (by kernel_rfl) (by rintro _ _ ⟨_, _, _, rfl, rfl⟩; rfl) (by kernel_rfl) (by kernel_rfl) ?_
                rintro _ ⟨m_37, ys_38, f39, rfl, _⟩
                refine R.go 1 (R.any1 10 (by kernel_rfl) (by kernel_rfl) ?_)
                refine R.go 2 (R.any1 11 (by kernel_rfl) (by kernel_rfl) ?_)
                refine R.go 2 (R.any0 (by kernel_rfl) ?_)
                exact R.metF (v_33, p1_34, h1_35, m_37, ys_38) (by kernel_rfl) ⟨by first | assumption | omega, by first | assumption | omega⟩ (by kernel_rfl)
              · refine R.idx eLI L_16 [] ((v_33).toNat) v_33 (by kernel_rfl) (by omega) eLI_len (by omega) (by kernel_rfl) ?_
                refine R.go 1 (R.any2 1 8 (by kernel_rfl) (by kernel_rfl) ?_ ?_)
                · refine R.go 2 (R.any1 8 (by kernel_rfl) (by kernel_rfl) ?_)
                  refine R.go 2 (R.any1 9 (by kernel_rfl) (by kernel_rfl) ?_)
                  refine R.callX0 (quoX_c n_5 xs_6 (L_16.getD ((v_33).toNat) []) (by assumption) (by first | assumption | exact (hgl _ (by omega)).1) (by first | assumption | exact (hgl _ (by omega)).2)) (by kernel_rfl) (by rintro _ _ ⟨_, _, _, rfl, rfl⟩; rfl) (by kernel_rfl) (by kernel_rfl) ?_
                  rintro _ ⟨m_40, ys_41, f42, rfl, _⟩
                  refine R.go 1 (R.any1 10 (by kernel_rfl) (by kernel_rfl) ?_)
                  refine R.go 2 (R.any1 11 (by kernel_rfl) (by kernel_rfl) ?_)
                  refine R.go 2 (R.any0 (by kernel_rfl) ?_)
                  exact R.metF (v_33, p1_34, h1_35, m_40, ys_41) (by kernel_rfl) ⟨by first | assumption | omega, by first | assumption | omega⟩ (by kernel_rfl)
                · refine R.go 2 (R.any1 1 (by kernel_rfl) (by kernel_rfl) ?_)
                  refine R.go 2 (R.any1 9 (by kernel_rfl) (by kernel_rfl) ?_)
                  refine R.callX0 (quoX_c n_5 xs_6 (L_16.getD ((v_33).toNat) []) (by assumption) (by first | assumption | exact (hgl _ (by omega)).1) (by first | assumption | exact (hgl _ (by omega)).2)) (by kernel_rfl) (by rintro _ _ ⟨_, _, _, rfl, rfl⟩; rfl) (by kernel_rfl) (by kernel_rfl) ?_
                  rintro _ ⟨m_43, ys_44, f45, rfl, _⟩
                  refine R.go 1 (R.any1 10 (by kernel_rfl) (by kernel_rfl) ?_)
                  refine R.go 2 (R.any1 11 (by kernel_rfl) (by kernel_rfl) ?_)
                  refine R.go 2 (R.any0 (by kernel_rfl) ?_)
                  exact R.metF (v_33, p1_34, h1_35, m_43, ys_44) (by kernel_rfl) ⟨by first | assumption | omega, by first | assumption | omega⟩ (by kernel_rfl)
        · refine R.go 2 (R.any2 0 5 (by kernel_rfl) (by kernel_rfl) ?_ ?_)
          · refine R.go 2 (R.any1 5 (by kernel_rfl) (by kernel_rfl) ?_)
            refine R.go 2 (R.any1 6 (by kernel_rfl) (by kernel_rfl) ?_)
            refine R.callX (CallX.inF 5 usC frC (CallX.box 7 26 [AI n_5, LI xs_6] (CallX.box 6 26 [AI 0, .nil] (CallX.box 5 26 [AI 0, .nil] (nextX_c_r7 c p1_12 h1_13 L_16.length eo1 so1 no1 co1 eo2 so2 no2 co2 eo3 so3 no3 co3 eo4 so4 no4 co4 26 2 1 [AI 0, .nil] 26 2 1 [AI 0, .nil] 26 2 1 [AI n_5, LI xs_6] hc) (by kernel_rfl) (by kernel_rfl) (by kernel_rfl) (by kernel_rfl) (by rintro _ _ ⟨_, _, _, _, rfl, rfl⟩; exact ⟨by kernel_rfl, by kernel_rfl, by kernel_rfl⟩)) (by kernel_rfl) (by kernel_rfl) (by kernel_rfl) (by kernel_rfl) (by rintro _ _ ⟨_, ⟨_, _, _, _, rfl, rfl⟩, rfl⟩; exact ⟨by kernel_rfl, by kernel_rfl, by kernel_rfl⟩)) (by kernel_rfl) (by kernel_rfl) (by kernel_rfl) (by kernel_rfl) (by rintro _ _ ⟨_, ⟨_, ⟨_, _, _, _, rfl, rfl⟩, rfl⟩, rfl⟩; exact ⟨by kernel_rfl, by kernel_rfl, by kernel_rfl⟩)) (Nat.le_of_ble_eq_true (by kernel_rfl)) (by kernel_rfl) (by kernel_rfl) (by rintro _ _ ⟨_, ⟨_, ⟨_, ⟨_, _, _, _, rfl, rfl⟩, rfl⟩, rfl⟩, rfl⟩; exact Nat.le_of_ble_eq_true (by kernel_rfl))) (by kernel_rfl) (by kernel_rfl) (by kernel_rfl) ?_
            rintro _ _ ⟨_, _, ⟨_, ⟨_, ⟨_, ⟨v_46, p1_47, h1_48, f49, rfl, rfl⟩, rfl⟩, rfl⟩, rfl⟩, rfl, rfl⟩
            refine R.go 1 (R.any1 7 (by kernel_rfl) (by kernel_rfl) ?_)
            refine R.idx eLI L_16 [] ((v_46).toNat) v_46 (by kernel_rfl) (by omega) eLI_len (by omega) (by kernel_rfl) ?_
            refine R.go 1 (R.any1 8 (by kernel_rfl) (by kernel_rfl) ?_)
            refine R.go 2 (R.any1 9 (by kernel_rfl) (by kernel_rfl) ?_)
            refine R.callX0 (quoX_c n_5 xs_6 (L_16.getD ((v_46).toNat) []) (by assumption) (by first | assumption | exact (hgl _ (by omega)).1) (by first | assumption | exact (hgl _ (by omega)).2)) (by kernel_rfl) (by rintro _ _ ⟨_, _, _, rfl, rfl⟩; rfl) (by kernel_rfl) (by kernel_rfl) ?_
            rintro _ ⟨m_50, ys_51, f52, rfl, _⟩
            refine R.go 1 (R.any1 10 (by kernel_rfl) (by kernel_rfl) ?_)
            refine R.go 2 (R.any1 11 (by kernel_rfl) (by kernel_rfl) ?_)
            refine R.go 2 (R.any0 (by kernel_rfl) ?_)
            exact R.metF (v_46, p1_47, h1_48, m_50, ys_51) (by kernel_rfl) ⟨by first | assumption | omega, by first | assumption | omega⟩ (by kernel_rfl)
          · refine R.go 2 (R.any2 0 6 (by kernel_rfl) (by kernel_rfl) ?_ ?_)
            · refine R.go 2 (R.any1 6 (by kernel_rfl) (by kernel_rfl) ?_)
              refine R.callX (CallX.inF 5 usC frC (CallX.box 7 26 [AI n_5, LI xs_6] (CallX.box 6 26 [AI 0, .nil] (CallX.box 5 26 [AI 0, .nil] (nextX_c_r7 c p1_12 h1_13 L_16.length eo1 so1 no1 co1 eo2 so2 no2 co2 eo3 so3 no3 co3 eo4 so4 no4 co4 26 2 1 [AI 0, .nil] 26 2 1 [AI 0, .nil] 26 2 1 [AI n_5, LI xs_6] hc) (by kernel_rfl) (by kernel_rfl) (by kernel_rfl) (by kernel_rfl) (by rintro _ _ ⟨_, _, _, _, rfl, rfl⟩; exact ⟨by kernel_rfl, by kernel_rfl, by kernel_rfl⟩)) (by kernel_rfl) (by kernel_rfl) (by kernel_rfl) (by kernel_rfl) (by rintro _ _ ⟨_, ⟨_, _, _, _, rfl, rfl⟩, rfl⟩; exact ⟨by kernel_rfl, by kernel_rfl, by kernel_rfl⟩)) (by kernel_rfl) (by kernel_rfl) (by kernel_rfl) (by kernel_rfl) (by rintro _ _ ⟨_, ⟨_, ⟨_, _, _, _, rfl, rfl⟩, rfl⟩, rfl⟩; exact ⟨by kernel_rfl, by kernel_rfl, by kernel_rfl⟩)) (Nat.le_of_ble_eq_true (by kernel_rfl)) (by kernel_rfl) (by kernel_rfl) (by rintro _ _ ⟨_, ⟨_, ⟨_, ⟨_, _, _, _, rfl, rfl⟩, rfl⟩, rfl⟩, rfl⟩; exact Nat.le_of_ble_eq_true (by kernel_rfl))) (by kernel_rfl) (by kernel_rfl) (by kernel_rfl) ?_
              rintro _ _ ⟨_, _, ⟨_, ⟨_, ⟨_, ⟨v_53, p1_54, h1_55, f56, rfl, rfl⟩, rfl⟩, rfl⟩, rfl⟩, rfl, rfl⟩
              refine R.go 1 (R.any1 7 (by kernel_rfl) (by kernel_rfl) ?_)
              refine R.idx eLI L_16 [] ((v_53).toNat) v_53 (by kernel_rfl) (by omega) eLI_len (by omega) (by kernel_rfl) ?_
              refine R.go 1 (R.any1 8 (by kernel_rfl) (by kernel_rfl) ?_)
              refine R.go 2 (R.any1 9 (by kernel_rfl) (by kernel_rfl) ?_)
              refine R.callX0 (quoX_c n_5 xs_6 (L_16.getD ((v_53).toNat) []) (by assumption) (by first | assumption | exact (hgl _ (by omega)).1) (by first | assumption | exact (hgl _ (by omega)).2)) (by kernel_rfl) (by rintro _ _ ⟨_, _, _, rfl, rfl⟩; rfl) (by kernel_rfl) (by kernel_rfl) ?_
              rintro _ ⟨m_57, ys_58, f59, rfl, _⟩
              refine R.go 1 (R.any1 10 (by kernel_rfl) (by kernel_rfl) ?_)
              refine R.go 2 (R.any1 11 (by kernel_rfl) (by kernel_rfl) ?_)
              refine R.go 2 (R.any0 (by kernel_rfl) ?_)
              exact R.metF (v_53, p1_54, h1_55, m_57, ys_58) (by kernel_rfl) ⟨by first | assumption | omega, by first | assumption | omega⟩ (by kernel_rfl)
            · refine R.callX (CallX.inF 5 usC frC (CallX.box 7 26 [AI n_5, LI xs_6] (CallX.box 6 26 [AI 0, .nil] (CallX.box 5 26 [AI 0, .nil] (nextX_c_r7 c p1_12 h1_13 L_16.length eo1 so1 no1 co1 eo2 so2 no2 co2 eo3 so3 no3 co3 eo4 so4 no4 co4 26 2 1 [AI 0, .nil] 26 2 1 [AI 0, .nil] 26 2 1 [AI n_5, LI xs_6] hc) (by kernel_rfl) (by kernel_rfl) (by kernel_rfl) (by kernel_rfl) (by rintro _ _ ⟨_, _, _, _, rfl, rfl⟩; exact ⟨by kernel_rfl, by kernel_rfl, by kernel_rfl⟩)) (by kernel_rfl) (by kernel_rfl) (by kernel_rfl) (by kernel_rfl) (by rintro _ _ ⟨_, ⟨_, _, _, _, rfl, rfl⟩, rfl⟩; exact ⟨by kernel_rfl, by kernel_rfl, by kernel_rfl⟩)) (by kernel_rfl) (by kernel_rfl) (by kernel_rfl) (by kernel_rfl) (by rintro _ _ ⟨_, ⟨_, ⟨_, _, _, _, rfl, rfl⟩, rfl⟩, rfl⟩; exact ⟨by kernel_rfl, by kernel_rfl, by kernel_rfl⟩)) (Nat.le_of_ble_eq_true (by kernel_rfl)) (by kernel_rfl) (by kernel_rfl) (by rintro _ _ ⟨_, ⟨_, ⟨_, ⟨_, _, _, _, rfl, rfl⟩, rfl⟩, rfl⟩, rfl⟩; exact Nat.le_of_ble_eq_true (by kernel_rfl))) (by kernel_rfl) (by kernel_rfl) (by kernel_rfl) ?_
              rintro _ _ ⟨_, _, ⟨_, ⟨_, ⟨_, ⟨v_60, p1_61, h1_62, f63, rfl, rfl⟩, rfl⟩, rfl⟩, rfl⟩, rfl, rfl⟩
              refine R.go 1 (R.any2 0 7 (by kernel_rfl) (by kernel_rfl) ?_ ?_)
              · refine R.go 2 (R.any1 7 (by kernel_rfl) (by kernel_rfl) ?_)
                refine R.idx eLI L_16 [] ((v_60).toNat) v_60 (by kernel_rfl) (by omega) eLI_len (by omega) (by kernel_rfl) ?_
                refine R.go 1 (R.any1 8 (by kernel_rfl) (by kernel_rfl) ?_)
                refine R.go 2 (R.any1 9 (by kernel_rfl) (by kernel_rfl) ?_)
                refine R.callX0 (quoX_c n_5 xs_6 (L_16.getD ((v_60).toNat) []) (by assumption) (by first | assumption | exact (hgl _ (by omega)).1) (by first | assumption | exact (hgl _ (by omega)).2)) (by kernel_rfl) (by rintro _ _ ⟨_, _, _, rfl, rfl⟩; rfl) (by kernel_rfl) (by kernel_rfl) ?_
                rintro _ ⟨m_64, ys_65, f66, rfl, _⟩
                refine R.go 1 (R.any1 10 (by kernel_rfl) (by kernel_rfl) ?_)
                refine R.go 2 (R.any1 11 (by kernel_rfl) (by kernel_rfl) ?_)
                refine R.go 2 (R.any0 (by kernel_rfl) ?_)
                exact R.metF (v_60, p1_61, h1_62, m_64, ys_65) (by kernel_rfl) ⟨by first | assumption | omega, by first | assumption | omega⟩ (by kernel_rfl)
              · refine R.idx eLI L_16 [] ((v_60).toNat) v_60 (by kernel_rfl) (by omega) eLI_len (by omega) (by kernel_rfl) ?_
                refine R.go 1 (R.any2 0 8 (by kernel_rfl) (by kernel_rfl) ?_ ?_)
                · refine R.go 2 (R.any1 8 (by kernel_rfl) (by kernel_rfl) ?_)
                  refine R.go 2 (R.any1 9 (by kernel_rfl) (by kernel_rfl) ?_)
                  refine R.callX0 (quoX_c n_5 xs_6 (L_16.getD ((v_60).toNat) []) (by assumption) (by first | assumption | exact (hgl _ (by omega)).1) (by first | assumption | exact (hgl _ (by omega)).2)) (by kernel_rfl) (by rintro _ _ ⟨_, _, _, rfl, rfl⟩; rfl) (by kernel_rfl) (by kernel_rfl) ?_
                  rintro _ ⟨m_67, ys_68, f69, rfl, _⟩
                  refine R.go 1 (R.any1 10 (by kernel_rfl) (by kernel_rfl) ?_)
                  refine R.go 2 (R.any1 11 (by kernel_rfl) (by kernel_rfl) ?_)
                  refine R.go 2 (R.any0 (by kernel_rfl) ?_)
                  exact R.metF (v_60, p1_61, h1_62, m_67, ys_68) (by kernel_rfl) ⟨by first | assumption | omega, by first | assumption | omega⟩ (by kernel_rfl)
                · refine R.go 2 (R.any2 0 9 (by kernel_rfl) (by kernel_rfl) ?_ ?_)
                  · refine R.go 2 (R.any1 9 (by kernel_rfl) (by kernel_rfl) ?_)
                    refine R.callX0 (quoX_c n_5 xs_6 (L_16.getD ((v_60).toNat) []) (by assumption) (by first | assumption | exact (hgl _ (by omega)).1) (by first | assumption | exact (hgl _ (by omega)).2)) (by kernel_rfl) (by rintro _ _ ⟨_, _, _, rfl, rfl⟩; rfl) (by kernel_rfl) (by kernel_rfl) ?_
                    rintro _ ⟨m_70, ys_71, f72, rfl, _⟩
                    refine R.go 1 (R.any1 10 (by kernel_rfl) (by kernel_rfl) ?_)
                    refine R.go 2 (R.any1 11 (by kernel_rfl) (by kernel_rfl) ?_)
                    refine R.go 2 (R.any0 (by kernel_rfl) ?_)
                    exact R.metF (v_60, p1_61, h1_62, m_70, ys_71) (by kernel_rfl) ⟨by first | assumption | omega, by first | assumption | omega⟩ (by kernel_rfl)
                  · refine R.callX0 (quoX_c n_5 xs_6 (L_16.getD ((v_60).toNat) []) (by assumption) (by first | assumption | exact (hgl _ (by omega)).1) (by first | assumption | exact (hgl _ (by omega)).2)) (by kernel_rfl) (by rintro _ _ ⟨_, _, _, rfl, rfl⟩; rfl) (by kernel_rfl) (by kernel_rfl) ?_
                    rintro _ ⟨m_73, ys_74, f75, rfl, _⟩
                    refine R.go 1 (R.any1 0 (by kernel_rfl) (by kernel_rfl) ?_)
                    refine R.go 2 (R.any1 10 (by kernel_rfl) (by kernel_rfl) ?_)
                    refine R.go 2 (R.any1 11 (by kernel_rfl) (by kernel_rfl) ?_)
                    refine R.go 2 (R.any0 (by kernel_rfl) ?_)
                    exact R.metF (v_60, p1_61, h1_62, m_73, ys_74) (by kernel_rfl) ⟨by first | assumption | omega, by first | assumption | omega⟩ (by kernel_rfl)
        · refine R.go 2 (R.any3 0 1 6 (by kernel_rfl) (by kernel_rfl) ?_ ?_ ?_)
          · refine R.go 2 (R.any2 1 6 (by kernel_rfl) (by kernel_rfl) ?_ ?_)
            · refine R.go 2 (R.any1 6 (by kernel_rfl) (by kernel_rfl) ?_)
              refine R.callX (CallX.inF 5 usC frC (CallX.box 7 26 [AI n_5, LI xs_6] (CallX.box 6 26 [AI 0, .nil] (CallX.box 5 26 [AI 0, .nil] (nextX_c_r7 c p1_12 h1_13 L_16.length eo1 so1 no1 co1 eo2 so2 no2 co2 eo3 so3 no3 co3 eo4 so4 no4 co4 26 2 1 [AI 0, .nil] 26 2 1 [AI 0, .nil] 26 2 1 [AI n_5, LI xs_6] hc) (by kernel_rfl) (by kernel_rfl) (by kernel_rfl) (by kernel_rfl) (by rintro _ _ ⟨_, _, _, _, rfl, rfl⟩; exact ⟨by kernel_rfl, by kernel_rfl, by kernel_rfl⟩)) (by kernel_rfl) (by kernel_rfl) (by kernel_rfl) (by kernel_rfl) (by rintro _ _ ⟨_, ⟨_, _, _, _, rfl, rfl⟩, rfl⟩; exact ⟨by kernel_rfl, by kernel_rfl, by kernel_rfl⟩)) (by kernel_rfl) (by kernel_rfl) (by kernel_rfl) (by kernel_rfl) (by rintro _ _ ⟨_, ⟨_, ⟨_, _, _, _, rfl, rfl⟩, rfl⟩, rfl⟩; exact ⟨by kernel_rfl, by kernel_rfl, by kernel_rfl⟩)) (Nat.le_of_ble_eq_true (by kernel_rfl)) (by kernel_rfl) (by kernel_rfl) (by rintro _ _ ⟨_, ⟨_, ⟨_, ⟨_, _, _, _, rfl, rfl⟩, rfl⟩, rfl⟩, rfl⟩; exact Nat.le_of_ble_eq_true (by kernel_rfl))) (by kernel_rfl) (by kernel_rfl) (by kernel_rfl) ?_
              rintro _ _ ⟨_, _, ⟨_, ⟨_, ⟨_, ⟨v_76, p1_77, h1_78, f79, rfl, rfl⟩, rfl⟩, rfl⟩, rfl⟩, rfl, rfl⟩
              refine R.go 1 (R.any1 7 (by kernel_rfl) (by kernel_rfl) ?_)
              refine R.idx eLI L_16 [] ((v_76).toNat) v_76 (by kernel_rfl) (by omega) eLI_len (by omega) (by kernel_rfl) ?_
              refine R.go 1 (R.any1 8 (by kernel_rfl) (by kernel_rfl) ?_)
              refine R.go 2 (R.any1 9 (by kernel_rfl) (by kernel_rfl) ?_)
              refine R.callX0 (quoX_c n_5 xs_6 (L_16.getD ((v_76).toNat) []) (by assumption) (by first | assumption | exact (hgl _ (by omega)).1) (by first | assumption | exact (hgl _ (by omega)).2)) (by kernel_rfl) (by rintro _ _ ⟨_, _, _, rfl, rfl⟩; rfl) (by kernel_rfl) (by kernel_rfl) ?_
              rintro _ ⟨m_80, ys_81, f82, rfl, _⟩
              refine R.go 1 (R.any1 10 (by kernel_rfl) (by kernel_rfl) ?_)
              refine R.go 2 (R.any1 11 (by kernel_rfl) (by kernel_rfl) ?_)
              refine R.go 2 (R.any0 (by kernel_rfl) ?_)
              exact R.metF (v_76, p1_77, h1_78, m_80, ys_81) (by kernel_rfl) ⟨by first | assumption | omega, by first | assumption | omega⟩ (by kernel_rfl)
            · refine R.callX (CallX.inF 5 usC frC (CallX.box 7 26 [AI n_5, LI xs_6] (CallX.box 6 26 [AI 0, .nil] (CallX.box 5 26 [AI 0, .nil] (nextX_c_r7 c p1_12 h1_13 L_16.length eo1 so1 no1 co1 eo2 so2 no2 co2 eo3 so3 no3 co3 eo4 so4 no4 co4 26 2 1 [AI 0, .nil] 26 2 1 [AI 0, .nil] 26 2 1 [AI n_5, LI xs_6] hc) (by kernel_rfl) (by kernel_rfl) (by kernel_rfl) (by kernel_rfl) (by rintro _ _ ⟨_, _, _, _, rfl, rfl⟩; exact ⟨by kernel_rfl, by kernel_rfl, by kernel_rfl⟩)) (by kernel_rfl) (by kernel_rfl) (by kernel_rfl) (by kernel_rfl) (by rintro _ _ ⟨_, ⟨_, _, _, _, rfl, rfl⟩, rfl⟩; exact ⟨by kernel_rfl, by kernel_rfl, by kernel_rfl⟩)) (by kernel_rfl) (by kernel_rfl) (by kernel_rfl) (by kernel_rfl) (by rintro _ _ ⟨_, ⟨_, ⟨_, _, _, _, rfl, rfl⟩, rfl⟩, rfl⟩; exact ⟨by kernel_rfl, by kernel_rfl, by kernel_rfl⟩)) (Nat.le_of_ble_eq_true (by kernel_rfl)) (by kernel_rfl) (by kernel_rfl) (by rintro _ _ ⟨_, ⟨_, ⟨_, ⟨_, _, _, _, rfl, rfl⟩, rfl⟩, rfl⟩, rfl⟩; exact Nat.le_of_ble_eq_true (by kernel_rfl))) (by kernel_rfl) (by kernel_rfl) (by kernel_rfl) ?_
              rintro _ _ ⟨_, _, ⟨_, ⟨_, ⟨_, ⟨v_83, p1_84, h1_85, f86, rfl, rfl⟩, rfl⟩, rfl⟩, rfl⟩, rfl, rfl⟩
              refine R.go 1 (R.any2 1 7 (by kernel_rfl) (by kernel_rfl) ?_ ?_)
              · refine R.go 2 (R.any1 7 (by kernel_rfl) (by kernel_rfl) ?_)
                refine R.idx eLI L_16 [] ((v_83).toNat) v_83 (by kernel_rfl) (by omega) eLI_len (by omega) (by kernel_rfl) ?_
                refine R.go 1 (R.any1 8 (by kernel_rfl) (by kernel_rfl) ?_)
                refine R.go 2 (R.any1 9 (by kernel_rfl) (by kernel_rfl) ?_)
                refine R.callX0 (quoX_c n_5 xs_6 (L_16.getD ((v_83).toNat) []) (by assumption) (by first | assumption | exact (hgl _ (by omega)).1) (by first | assumption | exact (hgl _ (by omega)).2)) (by kernel_rfl) (by rintro _ _ ⟨_, _, _, rfl, rfl⟩; rfl) (by kernel_rfl) (by kernel_rfl) ?_
                rintro _ ⟨m_87, ys_88, f89, rfl, _⟩
                refine R.go 1 (R.any1 10 (by kernel_rfl) (by kernel_rfl) ?_)
                refine R.go 2 (R.any1 11 (by kernel_rfl) (by kernel_rfl) ?_)
                refine R.go 2 (R.any0 (by kernel_rfl) ?_)
                exact R.metF (v_83, p1_84, h1_85, m_87, ys_88) (by kernel_rfl) ⟨by first | assumption | omega, by first | assumption | omega⟩ (by kernel_rfl)
              · refine R.idx eLI L_16 [] ((v_83).toNat) v_83 (by kernel_rfl) (by omega) eLI_len (by omega) (by kernel_rfl) ?_
                refine R.go 1 (R.any2 1 8 (by kernel_rfl) (by kernel_rfl) ?_ ?_)
                · refine R.go 2 (R.any1 8 (by kernel_rfl) (by kernel_rfl) ?_)
                  refine R.go 2 (R.any1 9 (by kernel_rfl) (by kernel_rfl) ?_)
                  refine R.callX0 (quoX_c n_5 xs_6 (L_16.getD ((v_83).toNat) []) (by assumption) (by first | assumption | exact (hgl _ (by omega)).1) (by first | assumption | exact (hgl _ (by omega)).2)) (by kernel_rfl) (by rintro _ _ ⟨_, _, _, rfl, rfl⟩; rfl) (by kernel_rfl) (by kernel_rfl) ?_
                  rintro _ ⟨m_90, ys_91, f92, rfl, _⟩
                  refine R.go 1 (R.any1 10 (by kernel_rfl) (by kernel_rfl) ?_)
                  refine R.go 2 (R.any1 11 (by kernel_rfl) (by kernel_rfl) ?_)
                  refine R.go 2 (R.any0 (by kernel_rfl) ?_)
                  exact R.metF (v_83, p1_84, h1_85, m_90, ys_91) (by kernel_rfl) ⟨by first | assumption | omega, by first | assumption | omega⟩ (by kernel_rfl)
                · refine R.go 2 (R.any1 1 (by kernel_rfl) (by kernel_rfl) ?_)
                  refine R.go 2 (R.any1 9 (by kernel_rfl) (by kernel_rfl) ?_)
                  refine R.callX0 (quoX_c n_5 xs_6 (L_16.getD ((v_83).toNat) []) (by assumption) (by first | assumption | exact (hgl _ (by omega)).1) (by first | assumption | exact (hgl _ (by omega)).2)) (by kernel_rfl) (by rintro _ _ ⟨_, _, _, rfl, rfl⟩; rfl) (by kernel_rfl) (by kernel_rfl) ?_
                  rintro _ ⟨m_93, ys_94, f95, rfl, _⟩
                  refine R.go 1 (R.any1 10 (by kernel_rfl) (by kernel_rfl) ?_)
                  refine R.go 2 (R.any1 11 (by kernel_rfl) (by kernel_rfl) ?_)
                  refine R.go 2 (R.any0 (by kernel_rfl) ?_)
                  exact R.metF (v_83, p1_84, h1_85, m_93, ys_94) (by kernel_rfl) ⟨by first | assumption | omega, by first | assumption | omega⟩ (by kernel_rfl)
          · refine R.go 2 (R.any2 0 6 (by kernel_rfl) (by kernel_rfl) ?_ ?_)
            · refine R.go 2 (R.any1 6 (by kernel_rfl) (by kernel_rfl) ?_)
              refine R.callX (CallX.inF 5 usC frC (CallX.box 7 26 [AI n_5, LI xs_6] (CallX.box 6 26 [AI 0, .nil] (CallX.box 5 26 [AI 0, .nil] (nextX_c_r7 c p1_12 h1_13 L_16.length eo1 so1 no1 co1 eo2 so2 no2 co2 eo3 so3 no3 co3 eo4 so4 no4 co4 26 2 1 [AI 0, .nil] 26 2 1 [AI 0, .nil] 26 2 1 [AI n_5, LI xs_6] hc) (by kernel_rfl) (by kernel_rfl) (by kernel_rfl) (by kernel_rfl) (by rintro _ _ ⟨_, _, _, _, rfl, rfl⟩; exact ⟨by kernel_rfl, by kernel_rfl, by kernel_rfl⟩)) (by kernel_rfl) (by kernel_rfl) (by kernel_rfl) (by kernel_rfl) (by rintro _ _ ⟨_, ⟨_, _, _, _, rfl, rfl⟩, rfl⟩; exact ⟨by kernel_rfl, by kernel_rfl, by kernel_rfl⟩)) (by kernel_rfl) (by kernel_rfl) (by kernel_rfl) (by kernel_rfl) (by rintro _ _ ⟨_, ⟨_, ⟨_, _, _, _, rfl, rfl⟩, rfl⟩, rfl⟩; exact ⟨by kernel_rfl, by kernel_rfl, by kernel_rfl⟩)) (Nat.le_of_ble_eq_true (by kernel_rfl)) (by kernel_rfl) (by kernel_rfl) (by rintro _ _ ⟨_, ⟨_, ⟨_, ⟨_, _, _, _, rfl, rfl⟩, rfl⟩, rfl⟩, rfl⟩; exact Nat.le_of_ble_eq_true (by kernel_rfl))) (by kernel_rfl) (by kernel_rfl) (by kernel_rfl) ?_
              rintro _ _ ⟨_, _, ⟨_, ⟨_, ⟨_, ⟨v_96, p1_97, h1_98, f99, rfl, rfl⟩, rfl⟩, rfl⟩, rfl⟩, rfl, rfl⟩
              refine R.go 1 (R.any1 7 (by kernel_rfl) (by kernel_rfl) ?_)
              refine R.idx eLI L_16 [] ((v_96).toNat) v_96 (by kernel_rfl) (by omega) eLI_len (by omega) (by kernel_rfl) ?_
              refine R.go 1 (R.any1 8 (by kernel_rfl) (by kernel_rfl) ?_)
              refine R.go 2 (R.any1 9 (by kernel_rfl) (by kernel_rfl) ?_)
              refine R.callX0 (quoX_c n_5 xs_6 (L_16.getD ((v_96).toNat) []) (by assumption) (by first | assumption | exact (hgl _ (by omega)).1) (by first | assumption | exact (hgl _ (by omega)).2)) (by kernel_rfl) (by rintro _ _ ⟨_, _, _, rfl, rfl⟩; rfl) (by kernel_rfl) (by kernel_rfl) ?_
              rintro _ ⟨m_100, ys_101, f102, rfl, _⟩
              refine R.go 1 (R.any1 10 (by kernel_rfl) (by kernel_rfl) ?_)
              refine R.go 2 (R.any1 11 (by kernel_rfl) (by kernel_rfl) ?_)
              refine R.go 2 (R.any0 (by kernel_rfl) ?_)
              exact R.metF (v_96, p1_97, h1_98, m_100, ys_101) (by kernel_rfl) ⟨by first | assumption | omega, by first | assumption | omega⟩ (by kernel_rfl)
            · refine R.callX (CallX.inF 5 usC frC (CallX.box 7 26 [AI n_5, LI xs_6] (CallX.box 6 26 [AI 0, .nil] (CallX.box 5 26 [AI 0, .nil] (nextX_c_r7 c p1_12 h1_13 L_16.length eo1 so1 no1 co1 eo2 so2 no2 co2 eo3 so3 no3 co3 eo4 so4 no4 co4 26 2 1 [AI 0, .nil] 26 2 1 [AI 0, .nil] 26 2 1 [AI n_5, LI xs_6] hc) (by kernel_rfl) (by kernel_rfl) (by kernel_rfl) (by kernel_rfl) (by rintro _ _ ⟨_, _, _, _, rfl, rfl⟩; exact ⟨by kernel_rfl, by kernel_rfl, by kernel_rfl⟩)) (by kernel_rfl) (by kernel_rfl) (by kernel_rfl) (by kernel_rfl) (by rintro _ _ ⟨_, ⟨_, _, _, _, rfl, rfl⟩, rfl⟩; exact ⟨by kernel_rfl, by kernel_rfl, by kernel_rfl⟩)) (by kernel_rfl) (by kernel_rfl) (by kernel_rfl) (by kernel_rfl) (by rintro _ _ ⟨_, ⟨_, ⟨_, _, _, _, rfl, rfl⟩, rfl⟩, rfl⟩; exact ⟨by kernel_rfl, by kernel_rfl, by kernel_rfl⟩)) (Nat.le_of_ble_eq_true (by kernel_rfl)) (by kernel_rfl) (by kernel_rfl) (by rintro _ _ ⟨_, ⟨_, ⟨_, ⟨_, _, _, _, rfl, rfl⟩, rfl⟩, rfl⟩, rfl⟩; exact Nat.le_of_ble_eq_true (by kernel_rfl))) (by kernel_rfl) (by kernel_rfl) (by kernel_rfl) ?_
              rintro _ _ ⟨_, _, ⟨_, ⟨_, ⟨_, ⟨v_103, p1_104, h1_105, f106, rfl, rfl⟩, rfl⟩, rfl⟩, rfl⟩, rfl, rfl⟩
              refine R.go 1 (R.any2 0 7 (by kernel_rfl) (by kernel_rfl) ?_ ?_)
              · refine R.go 2 (R.any1 7 (by kernel_rfl) (by kernel_rfl) ?_)
                refine R.idx eLI L_16 [] ((v_103).toNat) v_103 (by kernel_rfl) (by omega) eLI_len (by omega) (by kernel_rfl) ?_
                refine R.go 1 (R.any1 8 (by kernel_rfl) (by kernel_rfl) ?_)
                refine R.go 2 (R.any1 9 (by kernel_rfl) (by kernel_rfl) ?_)
                refine R.callX0 (quoX_c n_5 xs_6 (L_16.getD ((v_103).toNat) []) (by assumption) (by first | assumption | exact (hgl _ (by omega)).1) (by first | assumption | exact (hgl _ (by omega)).2)) (by kernel_rfl) (by rintro _ _ ⟨_, _, _, rfl, rfl⟩; rfl) (by kernel_rfl) (by kernel_rfl) ?_
                rintro _ ⟨m_107, ys_108, f109, rfl, _⟩
                refine R.go 1 (R.any1 10 (by kernel_rfl) (by kernel_rfl) ?_)
                refine R.go 2 (R.any1 11 (by kernel_rfl) (by kernel_rfl) ?_)
                refine R.go 2 (R.any0 (by kernel_rfl) ?_)
                exact R.metF (v_103, p1_104, h1_105, m_107, ys_108) (by kernel_rfl) ⟨by first | assumption | omega, by first | assumption | omega⟩ (by kernel_rfl)
              · refine R.idx eLI L_16 [] ((v_103).toNat) v_103 (by kernel_rfl) (by omega) eLI_len (by omega) (by kernel_rfl) ?_
                refine R.go 1 (R.any2 0 8 (by kernel_rfl) (by kernel_rfl) ?_ ?_)
                · refine R.go 2 (R.any1 8 (by kernel_rfl) (by kernel_rfl) ?_)
                  refine R.go 2 (R.any1 9 (by kernel_rfl) (by kernel_rfl) ?_)
                  refine R.callX0 (quoX_c n_5 xs_6 (L_16.getD ((v_103).toNat) []) (by assumption) (by first | assumption | exact (hgl _ (by omega)).1) (by first | assumption | exact (hgl _ (by omega)).2)) (by kernel_rfl) (by rintro _ _ ⟨_, _, _, rfl, rfl⟩; rfl) (by kernel_rfl) (by kernel_rfl) ?_
                  rintro _ ⟨m_110, ys_111, f112, rfl, _⟩
                  refine R.go 1 (R.any1 10 (by kernel_rfl) (by kernel_rfl) ?_)
                  refine R.go 2 (R.any1 11 (by kernel_rfl) (by kernel_rfl) ?_)
                  refine R.go 2 (R.any0 (by kernel_rfl) ?_)
                  exact R.metF (v_103, p1_104, h1_105, m_110, ys_111) (by kernel_rfl) ⟨by first | assumption | omega, by first | assumption | omega⟩ (by kernel_rfl)
                · refine R.go 2 (R.any2 0 9 (by kernel_rfl) (by kernel_rfl) ?_ ?_)
                  · refine R.go 2 (R.any1 9 (by kernel_rfl) (by kernel_rfl) ?_)
                    refine R.callX0 (quoX_c n_5 xs_6 (L_16.getD ((v_103).toNat) []) (by assumption) (by first | assumption | exact (hgl _ (by omega)).1) (by first | assumption | exact (hgl _ (by omega)).2)) (by kernel_rfl) (by rintro _ _ ⟨_, _, _, rfl, rfl⟩; rfl) (by kernel_rfl) (by kernel_rfl) ?_
                    rintro _ ⟨m_113, ys_114, f115, rfl, _⟩
                    refine R.go 1 (R.any1 10 (by kernel_rfl) (by kernel_rfl) ?_)
                    refine R.go 2 (R.any1 11 (by kernel_rfl) (by kernel_rfl) ?_)
                    refine R.go 2 (R.any0 (by kernel_rfl) ?_)
                    exact R.metF (v_103, p1_104, h1_105, m_113, ys_114) (by kernel_rfl) ⟨by first | assumption | omega, by first | assumption | omega⟩ (by kernel_rfl)
                  · refine R.callX0 (quoX_c n_5 xs_6 (L_16.getD ((v_103).toNat) []) (by assumption) (by first | assumption | exact (hgl _ (by omega)).1) (by first | assumption | exact (hgl _ (by omega)).2)) (by kernel_rfl) (by rintro _ _ ⟨_, _, _, rfl, rfl⟩; rfl) (by kernel_rfl) (by kernel_rfl) ?_
                    rintro _ ⟨m_116, ys_117, f118, rfl, _⟩
                    refine R.go 1 (R.any1 0 (by kernel_rfl) (by kernel_rfl) ?_)
                    refine R.go 2 (R.any1 10 (by kernel_rfl) (by kernel_rfl) ?_)
                    refine R.go 2 (R.any1 11 (by kernel_rfl) (by kernel_rfl) ?_)
                    refine R.go 2 (R.any0 (by kernel_rfl) ?_)
                    exact R.metF (v_103, p1_104, h1_105, m_116, ys_117) (by kernel_rfl) ⟨by first | assumption | omega, by first | assumption | omega⟩ (by kernel_rfl)
          · refine R.callX (CallX.inF 5 usC frC (CallX.box 7 26 [AI n_5, LI xs_6] (CallX.box 6 26 [AI 0, .nil] (CallX.box 5 26 [AI 0, .nil] (nextX_c_r7 c p1_12 h1_13 L_16.length eo1 so1 no1 co1 eo2 so2 no2 co2 eo3 so3 no3 co3 eo4 so4 no4 co4 26 2 1 [AI 0, .nil] 26 2 1 [AI 0, .nil] 26 2 1 [AI n_5, LI xs_6] hc) (by kernel_rfl) (by kernel_rfl) (by kernel_rfl) (by kernel_rfl) (by rintro _ _ ⟨_, _, _, _, rfl, rfl⟩; exact ⟨by kernel_rfl, by kernel_rfl, by kernel_rfl⟩)) (by kernel_rfl) (by kernel_rfl) (by kernel_rfl) (by kernel_rfl) (by rintro _ _ ⟨_, ⟨_, _, _, _, rfl, rfl⟩, rfl⟩; exact ⟨by kernel_rfl, by kernel_rfl, by kernel_rfl⟩)) (by kernel_rfl) (by kernel_rfl) (by kernel_rfl) (by kernel_rfl) (by rintro _ _ ⟨_, ⟨_, ⟨_, _, _, _, rfl, rfl⟩, rfl⟩, rfl⟩; exact ⟨by kernel_rfl, by kernel_rfl, by kernel_rfl⟩)) (Nat.le_of_ble_eq_true (by kernel_rfl)) (by kernel_rfl) (by kernel_rfl) (by rintro _ _ ⟨_, ⟨_, ⟨_, ⟨_, _, _, _, rfl, rfl⟩, rfl⟩, rfl⟩, rfl⟩; exact Nat.le_of_ble_eq_true (by kernel_rfl))) (by kernel_rfl) (by kernel_rfl) (by kernel_rfl) ?_
            rintro _ _ ⟨_, _, ⟨_, ⟨_, ⟨_, ⟨v_119, p1_120, h1_121, f122, rfl, rfl⟩, rfl⟩, rfl⟩, rfl⟩, rfl, rfl⟩
            refine R.go 1 (R.any3 0 1 7 (by kernel_rfl) (by kernel_rfl) ?_ ?_ ?_)
            · refine R.go 2 (R.any2 1 7 (by kernel_rfl) (by kernel_rfl) ?_ ?_)
              · refine R.go 2 (R.any1 7 (by kernel_rfl) (by kernel_rfl) ?_)
                refine R.idx eLI L_16 [] ((v_119).toNat) v_119 (by kernel_rfl) (by omega) eLI_len (by omega) (by kernel_rfl) ?_
                refine R.go 1 (R.any1 8 (by kernel_rfl) (by kernel_rfl) ?_)
                refine R.go 2 (R.any1 9 (by kernel_rfl) (by kernel_rfl) ?_)
                refine R.callX0 (quoX_c n_5 xs_6 (L_16.getD ((v_119).toNat) []) (by assumption) (by first | assumption | exact (hgl _ (by omega)).1) (by first | assumption | exact (hgl _ (by omega)).2)) (by kernel_rfl) (by rintro _ _ ⟨_, _, _, rfl, rfl⟩; rfl) (by kernel_rfl) (by kernel_rfl) ?_
                rintro _ ⟨m_123, ys_124, f125, rfl, _⟩
                refine R.go 1 (R.any1 10 (by kernel_rfl) (by kernel_rfl) ?_)
                refine R.go 2 (R.any1 11 (by kernel_rfl) (by kernel_rfl) ?_)
                refine R.go 2 (R.any0 (by kernel_rfl) ?_)
                exact R.metF (v_119, p1_120, h1_121, m_123, ys_124) (by kernel_rfl) ⟨by first | assumption | omega, by first | assumption | omega⟩ (by kernel_rfl)
              · refine R.idx eLI L_16 [] ((v_119).toNat) v_119 (by kernel_rfl) (by omega) eLI_len (by omega) (by kernel_rfl) ?_
                refine R.go 1 (R.any2 1 8 (by kernel_rfl) (by kernel_rfl) ?_ ?_)
                · refine R.go 2 (R.any1 8 (by kernel_rfl) (by kernel_rfl) ?_)
                  refine R.go 2 (R.any1 9 (by kernel_rfl) (by kernel_rfl) ?_)
                  refine R.callX0 (quoX_c n_5 xs_6 (L_16.getD ((v_119).toNat) []) (by assumption) (by first | assumption | exact (hgl _ (by omega)).1) (by first | assumption | exact (hgl _ (by omega)).2)) (by kernel_rfl) (by rintro _ _ ⟨_, _, _, rfl, rfl⟩; rfl) (by kernel_rfl) (by kernel_rfl) ?_
                  rintro _ ⟨m_126, ys_127, f128, rfl, _⟩
                  refine R.go 1 (R.any1 10 (by kernel_rfl) (by kernel_rfl) ?_)
                  refine R.go 2 (R.any1 11 (by kernel_rfl) (by kernel_rfl) ?_)
                  refine R.go 2 (R.any0 (by kernel_rfl) ?_)
                  exact R.metF (v_119, p1_120, h1_121, m_126, ys_127) (by kernel_rfl) ⟨by first | assumption | omega, by first | assumption | omega⟩ (by kernel_rfl)
                · refine R.go 2 (R.any1 1 (by kernel_rfl) (by kernel_rfl) ?_)
                  refine R.go 2 (R.any1 9 (by kernel_rfl) (by kernel_rfl) ?_)
                  refine R.callX0 (quoX_c n_5 xs_6 (L_16.getD ((v_119).toNat) []) (by assumption) (by first | assumption | exact (hgl _ (by omega)).1) (by first | assumption | exact (hgl _ (by omega)).2)) (by kernel_rfl) (by rintro _ _ ⟨_, _, _, rfl, rfl⟩; rfl) (by kernel_rfl) (by kernel_rfl) ?_
                  rintro _ ⟨m_129, ys_130, f131, rfl, _⟩
                  refine R.go 1 (R.any1 10 (by kernel_rfl) (by kernel_rfl) ?_)
                  refine R.go 2 (R.any1 11 (by kernel_rfl) (by kernel_rfl) ?_)
                  refine R.go 2 (R.any0 (by kernel_rfl) ?_)
                  exact R.metF (v_119, p1_120, h1_121, m_129, ys_130) (by kernel_rfl) ⟨by first | assumption | omega, by first | assumption | omega⟩ (by kernel_rfl)
            · refine R.go 2 (R.any2 0 7 (by kernel_rfl) (by kernel_rfl) ?_ ?_)
              · refine R.go 2 (R.any1 7 (by kernel_rfl) (by kernel_rfl) ?_)
                refine R.idx eLI L_16 [] ((v_119).toNat) v_119 (by kernel_rfl) (by omega) eLI_len (by omega) (by kernel_rfl) ?_
                refine R.go 1 (R.any1 8 (by kernel_rfl) (by kernel_rfl) ?_)
                refine R.go 2 (R.any1 9 (by kernel_rfl) (by kernel_rfl) ?_)
                refine R.callX0 (quoX_c n_5 xs_6 (L_16.getD ((v_119).toNat) []) (by assumption) (by first | assumption | exact (hgl _ (by omega)).1) (by first | assumption | exact (hgl _ (by omega)).2)) (by kernel_rfl) (by rintro _ _ ⟨_, _, _, rfl, rfl⟩; rfl) (by kernel_rfl) (by kernel_rfl) ?_
                rintro _ ⟨m_132, ys_133, f134, rfl, _⟩
                refine R.go 1 (R.any1 10 (by kernel_rfl) (by kernel_rfl) ?_)
                refine R.go 2 (R.any1 11 (by kernel_rfl) (by kernel_rfl) ?_)
                refine R.go 2 (R.any0 (by kernel_rfl) ?_)
                exact R.metF (v_119, p1_120, h1_121, m_132, ys_133) (by kernel_rfl) ⟨by first | assumption | omega, by first | assumption | omega⟩ (by kernel_rfl)
              · refine R.idx eLI L_16 [] ((v_119).toNat) v_119 (by kernel_rfl) (by omega) eLI_len (by omega) (by kernel_rfl) ?_
                refine R.go 1 (R.any2 0 8 (by kernel_rfl) (by kernel_rfl) ?_ ?_)
                · refine R.go 2 (R.any1 8 (by kernel_rfl) (by kernel_rfl) ?_)
                  refine R.go 2 (R.any1 9 (by kernel_rfl) (by kernel_rfl) ?_)
                  refine R.callX0 (quoX_c n_5 xs_6 (L_16.getD ((v_119).toNat) []) (by assumption) (by first | assumption | exact (hgl _ (by omega)).1) (by first | assumption | exact (hgl _ (by omega)).2)) (by kernel_rfl) (by rintro _ _ ⟨_, _, _, rfl, rfl⟩; rfl) (by kernel_rfl) (by kernel_rfl) ?_
                  rintro _ ⟨m_135, ys_136, f137, rfl, _⟩
                  refine R.go 1 (R.any1 10 (by kernel_rfl) (by kernel_rfl) ?_)
                  refine R.go 2 (R.any1 11 (by kernel_rfl) (by kernel_rfl) ?_)
                  refine R.go 2 (R.any0 (by kernel_rfl) ?_)
                  exact R.metF (v_119, p1_120, h1_121, m_135, ys_136) (by kernel_rfl) ⟨by first | assumption | omega, by first | assumption | omega⟩ (by kernel_rfl)
                · refine R.go 2 (R.any2 0 9 (by kernel_rfl) (by kernel_rfl) ?_ ?_)
                  · refine R.go 2 (R.any1 9 (by kernel_rfl) (by kernel_rfl) ?_)
                    refine R.callX0 (quoX_c n_5 xs_6 (L_16.getD ((v_119).toNat) []) (by assumption) (by first | assumption | exact (hgl _ (by omega)).1) (by first | assumption | exact (hgl _ (by omega)).2)) (by kernel_rfl) (by rintro _ _ ⟨_, _, _, rfl, rfl⟩; rfl) (by kernel_rfl) (by kernel_rfl) ?_
                    rintro _ ⟨m_138, ys_139, f140, rfl, _⟩
                    refine R.go 1 (R.any1 10 (by kernel_rfl) (by kernel_rfl) ?_)
                    refine R.go 2 (R.any1 11 (by kernel_rfl) (by kernel_rfl) ?_)
                    refine R.go 2 (R.any0 (by kernel_rfl) ?_)
                    exact R.metF (v_119, p1_120, h1_121, m_138, ys_139) (by kernel_rfl) ⟨by first | assumption | omega, by first | assumption | omega⟩ (by kernel_rfl)
                  · refine R.callX0 (quoX_c n_5 xs_6 (L_16.getD ((v_119).toNat) []) (by assumption) (by first | assumption | exact (hgl _ (by omega)).1) (by first | assumption | exact (hgl _ (by omega)).2)) (by kernel_rfl) (by rintro _ _ ⟨_, _, _, rfl, rfl⟩; rfl) (by kernel_rfl) (by kernel_rfl) ?_
                    rintro _ ⟨m_141, ys_142, f143, rfl, _⟩
                    refine R.go 1 (R.any1 0 (by kernel_rfl) (by kernel_rfl) ?_)
                    refine R.go 2 (R.any1 10 (by kernel_rfl) (by kernel_rfl) ?_)
                    refine R.go 2 (R.any1 11 (by kernel_rfl) (by kernel_rfl) ?_)
                    refine R.go 2 (R.any0 (by kernel_rfl) ?_)
                    exact R.metF (v_119, p1_120, h1_121, m_141, ys_142) (by kernel_rfl) ⟨by first | assumption | omega, by first | assumption | omega⟩ (by kernel_rfl)
            · refine R.idx eLI L_16 [] ((v_119).toNat) v_119 (by kernel_rfl) (by omega) eLI_len (by omega) (by kernel_rfl) ?_
              refine R.go 1 (R.any3 0 1 8 (by kernel_rfl) (by kernel_rfl) ?_ ?_ ?_)
              · refine R.go 2 (R.any2 1 8 (by kernel_rfl) (by kernel_rfl) ?_ ?_)
                · refine R.go 2 (R.any1 8 (by kernel_rfl) (by kernel_rfl) ?_)
                  refine R.go 2 (R.any1 9 (by kernel_rfl) (by kernel_rfl) ?_)
                  refine R.callX0 (quoX_c n_5 xs_6 (L_16.getD ((v_119).toNat) []) (by assumption) (by first | assumption | exact (hgl _ (by omega)).1) (by first | assumption | exact (hgl _ (by omega)).2)) (by kernel_rfl) (by rintro _ _ ⟨_, _, _, rfl, rfl⟩; rfl) (by kernel_rfl) (by kernel_rfl) ?_
                  rintro _ ⟨m_144, ys_145, f146, rfl, _⟩
                  refine R.go 1 (R.any1 10 (by kernel_rfl) (by kernel_rfl) ?_)
                  refine R.go 2 (R.any1 11 (by kernel_rfl) (by kernel_rfl) ?_)
                  refine R.go 2 (R.any0 (by kernel_rfl) ?_)
                  exact R.metF (v_119, p1_120, h1_121, m_144, ys_145) (by kernel_rfl) ⟨by first | assumption | omega, by first | assumption | omega⟩ (by kernel_rfl)
                · refine R.go 2 (R.any1 1 (by kernel_rfl) (by kernel_rfl) ?_)
                  refine R.go 2 (R.any1 9 (by kernel_rfl) (by kernel_rfl) ?_)
                  refine R.callX0 (quoX_c n_5 xs_6 (L_16.getD ((v_119).toNat) []) (by assumption) (by first | assumption | exact (hgl _ (by omega)).1) (by first | assumption | exact (hgl _ (by omega)).2)) (by kernel_rfl) (by rintro _ _ ⟨_, _, _, rfl, rfl⟩; rfl) (by kernel_rfl) (by kernel_rfl) ?_
                  rintro _ ⟨m_147, ys_148, f149, rfl, _⟩
                  refine R.go 1 (R.any1 10 (by kernel_rfl) (by kernel_rfl) ?_)
                  refine R.go 2 (R.any1 11 (by kernel_rfl) (by kernel_rfl) ?_)
                  refine R.go 2 (R.any0 (by kernel_rfl) ?_)
                  exact R.metF (v_119, p1_120, h1_121, m_147, ys_148) (by kernel_rfl) ⟨by first | assumption | omega, by first | assumption | omega⟩ (by kernel_rfl)
              · refine R.go 2 (R.any2 0 8 (by kernel_rfl) (by kernel_rfl) ?_ ?_)
                · refine R.go 2 (R.any1 8 (by kernel_rfl) (by kernel_rfl) ?_)
                  refine R.go 2 (R.any1 9 (by kernel_rfl) (by kernel_rfl) ?_)
                  refine R.callX0 (quoX_c n_5 xs_6 (L_16.getD ((v_119).toNat) []) (by assumption) (by first | assumption | exact (hgl _ (by omega)).1) (by first | assumption | exact (hgl _ (by omega)).2)) (by kernel_rfl) (by rintro _ _ ⟨_, _, _, rfl, rfl⟩; rfl) (by kernel_rfl) (by kernel_rfl) ?_
                  rintro _ ⟨m_150, ys_151, f152, rfl, _⟩
                  refine R.go 1 (R.any1 10 (by kernel_rfl) (by kernel_rfl) ?_)
                  refine R.go 2 (R.any1 11 (by kernel_rfl) (by kernel_rfl) ?_)
                  refine R.go 2 (R.any0 (by kernel_rfl) ?_)
                  exact R.metF (v_119, p1_120, h1_121, m_150, ys_151) (by kernel_rfl) ⟨by first | assumption | omega, by first | assumption | omega⟩ (by kernel_rfl)
                · refine R.go 2 (R.any2 0 9 (by kernel_rfl) (by kernel_rfl) ?_ ?_)
                  · refine R.go 2 (R.any1 9 (by kernel_rfl) (by kernel_rfl) ?_)
                    refine R.callX0 (quoX_c n_5 xs_6 (L_16.getD ((v_119).toNat) []) (by assumption) (by first | assumption | exact (hgl _ (by omega)).1) (by first | assumption | exact (hgl _ (by omega)).2)) (by kernel_rfl) (by rintro _ _ ⟨_, _, _, rfl, rfl⟩; rfl) (by kernel_rfl) (by kernel_rfl) ?_
                    rintro _ ⟨m_153, ys_154, f155, rfl, _⟩
                    refine R.go 1 (R.any1 10 (by kernel_rfl) (by kernel_rfl) ?_)
                    refine R.go 2 (R.any1 11 (by kernel_rfl) (by kernel_rfl) ?_)
                    refine R.go 2 (R.any0 (by kernel_rfl) ?_)
                    exact R.metF (v_119, p1_120, h1_121, m_153, ys_154) (by kernel_rfl) ⟨by first | assumption | omega, by first | assumption | omega⟩ (by kernel_rfl)
                  · refine R.callX0 (quoX_c n_5 xs_6 (L_16.getD ((v_119).toNat) []) (by assumption) (by first | assumption | exact (hgl _ (by omega)).1) (by first | assumption | exact (hgl _ (by omega)).2)) (by kernel_rfl) (by rintro _ _ ⟨_, _, _, rfl, rfl⟩; rfl) (by kernel_rfl) (by kernel_rfl) ?_
                    rintro _ ⟨m_156, ys_157, f158, rfl, _⟩
                    refine R.go 1 (R.any1 0 (by kernel_rfl) (by kernel_rfl) ?_)
                    refine R.go 2 (R.any1 10 (by kernel_rfl) (by kernel_rfl) ?_)
                    refine R.go 2 (R.any1 11 (by kernel_rfl) (by kernel_rfl) ?_)
                    refine R.go 2 (R.any0 (by kernel_rfl) ?_)
                    exact R.metF (v_119, p1_120, h1_121, m_156, ys_157) (by kernel_rfl) ⟨by first | assumption | omega, by first | assumption | omega⟩ (by kernel_rfl)
              · refine R.go 2 (R.any2 0 1 (by kernel_rfl) (by kernel_rfl) ?_ ?_)
                · refine R.go 2 (R.any1 1 (by kernel_rfl) (by kernel_rfl) ?_)
                  refine R.go 2 (R.any1 9 (by kernel_rfl) (by kernel_rfl) ?_)
                  refine R.callX0 (quoX_c n_5 xs_6 (L_16.getD ((v_119).toNat) []) (by assumption) (by first | assumption | exact (hgl _ (by omega)).1) (by first | assumption | exact (hgl _ (by omega)).2)) (by kernel_rfl) (by rintro _ _ ⟨_, _, _, rfl, rfl⟩; rfl) (by kernel_rfl) (by kernel_rfl) ?_
                  rintro _ ⟨m_159, ys_160, f161, rfl, _⟩
                  refine R.go 1 (R.any1 10 (by kernel_rfl) (by kernel_rfl) ?_)
                  refine R.go 2 (R.any1 11 (by kernel_rfl) (by kernel_rfl) ?_)
                  refine R.go 2 (R.any0 (by kernel_rfl) ?_)
                  exact R.metF (v_119, p1_120, h1_121, m_159, ys_160) (by kernel_rfl) ⟨by first | assumption | omega, by first | assumption | omega⟩ (by kernel_rfl)
                · refine R.go 2 (R.any2 0 9 (by kernel_rfl) (by kernel_rfl) ?_ ?_)
                  · refine R.go 2 (R.any1 9 (by kernel_rfl) (by kernel_rfl) ?_)
                    refine R.callX0 (quoX_c n_5 xs_6 (L_16.getD ((v_119).toNat) []) (by assumption) (by first | assumption | exact (hgl _ (by omega)).1) (by first | assumption | exact (hgl _ (by omega)).2)) (by kernel_rfl) (by rintro _ _ ⟨_, _, _, rfl, rfl⟩; rfl) (by kernel_rfl) (by kernel_rfl) ?_
                    rintro _ ⟨m_162, ys_163, f164, rfl, _⟩
                    refine R.go 1 (R.any1 10 (by kernel_rfl) (by kernel_rfl) ?_)
                    refine R.go 2 (R.any1 11 (by kernel_rfl) (by kernel_rfl) ?_)
                    refine R.go 2 (R.any0 (by kernel_rfl) ?_)
                    exact R.metF (v_119, p1_120, h1_121, m_162, ys_163) (by kernel_rfl) ⟨by first | assumption | omega, by first | assumption | omega⟩ (by kernel_rfl)
                  · refine R.callX0 (quoX_c n_5 xs_6 (L_16.getD ((v_119).toNat) []) (by assumption) (by first | assumption | exact (hgl _ (by omega)).1) (by first | assumption | exact (hgl _ (by omega)).2)) (by kernel_rfl) (by rintro _ _ ⟨_, _, _, rfl, rfl⟩; rfl) (by kernel_rfl) (by kernel_rfl) ?_
                    rintro _ ⟨m_165, ys_166, f167, rfl, _⟩
                    refine R.go 1 (R.any1 0 (by kernel_rfl) (by kernel_rfl) ?_)
                    refine R.go 2 (R.any1 10 (by kernel_rfl) (by kernel_rfl) ?_)
                    refine R.go 2 (R.any1 11 (by kernel_rfl) (by kernel_rfl) ?_)
                    refine R.go 2 (R.any0 (by kernel_rfl) ?_)
                    exact R.metF (v_119, p1_120, h1_121, m_165, ys_166) (by kernel_rfl) ⟨by first | assumption | omega, by first | assumption | omega⟩ (by kernel_rfl)
      · rintro ⟨v_19, p1_20, h1_21, m_23, ys_24⟩ ⟨f22, f25⟩
        exact R.retX (res := .tup [.agg [AI n_5, LI xs_6], .agg [AI m_23, LI ys_24]]) (hp' := [.box 120 [LB c, AI (p1_20 : Int), .int .u64 h1_21], .list eo1 so1 no1 co1, .list eo2 so2 no2 co2, .list eo3 so3 no3 co3, .list eo4 so4 no4 co4, .dead, .box 26 [AI n_5, LI xs_6], .box 26 [AI m_23, LI ys_24], .box 26 [AI n_5, LI xs_6]]) (by kernel_rfl) (by kernel_rfl) (by kernel_rfl) (by kernel_rfl) ⟨[0, 1, 2, 3, 4], by kernel_rfl, by decide, n_5, xs_6, m_23, ys_24, p1_20, h1_21, by first | assumption | omega, by first | assumption | omega, by kernel_rfl, by kernel_rfl⟩
    · refine R.go 2 (R.meetF (α := Int × Nat × Int × Int × (List Int) × Nat × Int) (fun | (v_168, p1_169, h1_170, n_172, xs_173, p1_174, h1_175) => ((4 < 1 → v_168 = 0) ∧ (1 ≤ 4 → 0 ≤ v_168 ∧ v_168 < 4)) ∧ ((xs_173.length : Int) ≤ (1 + v_168) + 1)) (fun | (v_168, p1_169, h1_170, n_172, xs_173, p1_174, h1_175) => (⟨(frm 36 [(0, .ptr 0 0), (2, .ptr 6 0), (3, .ptr 7 0), (4, .ptr 8 0), (6, .ptr 0 0), (7, .ptr 0 0), (8, AI v_1), (9, AI (1 + v_1)), (10, .agg [AI n_5, LI xs_6]), (11, .agg [AI n_5, LI xs_6]), (12, .bool (okFr n_5 xs_6)), (13, .bool (okFr n_5 xs_6)), (14, .ptr 0 0), (15, AI v_11), (16, .bool (decide (v_11 = 0))), (17, .bool (decide (v_11 = 0))), (30, .agg [AI n_5, LI xs_6]), (31, .ptr 0 0), (32, .ptr 0 0), (33, AI v_168), (34, AI (1 + v_168)), (35, .agg [AI n_172, LI xs_173])]), [.box 120 [LB c, AI (p1_174 : Int), .int .u64 h1_175], .list eo1 so1 no1 co1, .list eo2 so2 no2 co2, .list eo3 so3 no3 co3, .list eo4 so4 no4 co4, .frame usC frC, .box 26 [AI n_5, LI xs_6], .box 26 [AI n_172, LI xs_173], .box 26 [AI n_5, LI xs_6]]⟩ : St)) (by kernel_rfl) ?_ ?_)
      · refine R.any (by decide +kernel) (by kernel_rfl) ?_
        refine R.anyF 1 (by kernel_rfl) (np_meetF _ _) ?_
        refine R.anyF 2 (by kernel_rfl) (np_meetF _ _) ?_
        refine R.any2 0 3 (by kernel_rfl) (by kernel_rfl) ?_ ?_
        · refine R.go 2 (R.any1 3 (by kernel_rfl) (by kernel_rfl) ?_)
          refine R.callX (CallX.inF 5 usC frC (CallX.box 7 26 [AI n_5, LI xs_6] (CallX.box 6 26 [AI 0, .nil] (CallX.box 5 26 [AI 0, .nil] (nextX_c_r7 c p1_12 h1_13 4 eo1 so1 no1 co1 eo2 so2 no2 co2 eo3 so3 no3 co3 eo4 so4 no4 co4 26 2 1 [AI 0, .nil] 26 2 1 [AI 0, .nil] 26 2 1 [AI n_5, LI xs_6] hc) (by kernel_rfl) (by kernel_rfl) (by kernel_rfl) (by kernel_rfl) (by rintro _ _ ⟨_, _, _, _, rfl, rfl⟩; exact ⟨by kernel_rfl, by kernel_rfl, by kernel_rfl⟩)) (by kernel_rfl) (by kernel_rfl) (by kernel_rfl) (by kernel_rfl) (by rintro _ _ ⟨_, ⟨_, _, _, _, rfl, rfl⟩, rfl⟩; exact ⟨by kernel_rfl, by kernel_rfl, by kernel_rfl⟩)) (by kernel_rfl) (by kernel_rfl) (by kernel_rfl) (by kernel_rfl) (by rintro _ _ ⟨_, ⟨_, ⟨_, _, _, _, rfl, rfl⟩, rfl⟩, rfl⟩; exact ⟨by kernel_rfl, by kernel_rfl, by kernel_rfl⟩)) (Nat.le_of_ble_eq_true (by kernel_rfl)) (by kernel_rfl) (by kernel_rfl) (by rintro _ _ ⟨_, ⟨_, ⟨_, ⟨_, _, _, _, rfl, rfl⟩, rfl⟩, rfl⟩, rfl⟩; exact Nat.le_of_ble_eq_true (by kernel_rfl))) (by kernel_rfl) (by kernel_rfl) (by kernel_rfl) ?_
          rintro _ _ ⟨_, _, ⟨_, ⟨_, ⟨_, ⟨v_168, p1_169, h1_170, f171, rfl, rfl⟩, rfl⟩, rfl⟩, rfl⟩, rfl, rfl⟩
          refine R.go 1 (R.any1 4 (by kernel_rfl) (by kernel_rfl) ?_)
          refine R.ar (1 + v_168) (by kernel_rfl) (by omega) (by omega) (by kernel_rfl) ?_
          refine R.go 1 (R.any1 5 (by kernel_rfl) (by kernel_rfl) ?_)
          refine R.callX (CallX.inF 5 usC frC (CallX.box 7 26 [AI n_5, LI xs_6] (CallX.box 6 26 [AI 0, .nil] (CallX.box 5 26 [AI 0, .nil] (frameX_c_r7 c p1_169 h1_170 (1 + v_168) eo1 so1 no1 co1 eo2 so2 no2 co2 eo3 so3 no3 co3 eo4 so4 no4 co4 26 2 1 [AI 0, .nil] 26 2 1 [AI 0, .nil] 26 2 1 [AI n_5, LI xs_6] hc (by omega)) (by kernel_rfl) (by kernel_rfl) (by kernel_rfl) (by kernel_rfl) (by rintro _ _ ⟨_, _, _, _, _, rfl, rfl⟩; exact ⟨by kernel_rfl, by kernel_rfl, by kernel_rfl⟩)) (by kernel_rfl) (by kernel_rfl) (by kernel_rfl) (by kernel_rfl) (by rintro _ _ ⟨_, ⟨_, _, _, _, _, rfl, rfl⟩, rfl⟩; exact ⟨by kernel_rfl, by kernel_rfl, by kernel_rfl⟩)) (by kernel_rfl) (by kernel_rfl) (by kernel_rfl) (by kernel_rfl) (by rintro _ _ ⟨_, ⟨_, ⟨_, _, _, _, _, rfl, rfl⟩, rfl⟩, rfl⟩; exact ⟨by kernel_rfl, by kernel_rfl, by kernel_rfl⟩)) (Nat.le_of_ble_eq_true (by kernel_rfl)) (by kernel_rfl) (by kernel_rfl) (by rintro _ _ ⟨_, ⟨_, ⟨_, ⟨_, _, _, _, _, rfl, rfl⟩, rfl⟩, rfl⟩, rfl⟩; exact Nat.le_of_ble_eq_true (by kernel_rfl))) (by kernel_rfl) (by kernel_rfl) (by kernel_rfl) ?_
          rintro _ _ ⟨_, _, ⟨_, ⟨_, ⟨_, ⟨n_172, xs_173, p1_174, h1_175, f176, rfl, rfl⟩, rfl⟩, rfl⟩, rfl⟩, rfl, rfl⟩
          refine R.go 1 (R.any1 6 (by kernel_rfl) (by kernel_rfl) ?_)
          refine R.go 2 (R.any1 7 (by kernel_rfl) (by kernel_rfl) ?_)
          refine R.go 2 (R.any0 (by kernel_rfl) ?_)
          exact R.metF (v_168, p1_169, h1_170, n_172, xs_173, p1_174, h1_175) (by kernel_rfl) ⟨by first | assumption | omega, by first | assumption | omega⟩ (by kernel_rfl)
        · refine R.callX (CallX.inF 5 usC frC (CallX.box 7 26 [AI n_5, LI xs_6] (CallX.box 6 26 [AI 0, .nil] (CallX.box 5 26 [AI 0, .nil] (nextX_c_r7 c p1_12 h1_13 4 eo1 so1 no1 co1 eo2 so2 no2 co2 eo3 so3 no3 co3 eo4 so4 no4 co4 26 2 1 [AI 0, .nil] 26 2 1 [AI 0, .nil] 26 2 1 [AI n_5, LI xs_6] hc) (by kernel_rfl) (by kernel_rfl) (by kernel_rfl) (by kernel_rfl) (by rintro _ _ ⟨_, _, _, _, rfl, rfl⟩; exact ⟨by kernel_rfl, by kernel_rfl, by kernel_rfl⟩)) (by kernel_rfl) (by kernel_rfl) (by kernel_rfl) (by kernel_rfl) (by rintro _ _ ⟨_, ⟨_, _, _, _, rfl, rfl⟩, rfl⟩; exact ⟨by kernel_rfl, by kernel_rfl, by kernel_rfl⟩)) (by kernel_rfl) (by kernel_rfl) (by kernel_rfl) (by kernel_rfl) (by rintro _ _ ⟨_, ⟨_, ⟨_, _, _, _, rfl, rfl⟩, rfl⟩, rfl⟩; exact ⟨by kernel_rfl, by kernel_rfl, by kernel_rfl⟩)) (Nat.le_of_ble_eq_true (by kernel_rfl)) (by kernel_rfl) (by kernel_rfl) (by rintro _ _ ⟨_, ⟨_, ⟨_, ⟨_, _, _, _, rfl, rfl⟩, rfl⟩, rfl⟩, rfl⟩; exact Nat.le_of_ble_eq_true (by kernel_rfl))) (by kernel_rfl) (by kernel_rfl) (by kernel_rfl) ?_
          rintro _ _ ⟨_, _, ⟨_, ⟨_, ⟨_, ⟨v_177, p1_178, h1_179, f180, rfl, rfl⟩, rfl⟩, rfl⟩, rfl⟩, rfl, rfl⟩
          refine R.go 1 (R.any2 0 4 (by kernel_rfl) (by kernel_rfl) ?_ ?_)
          · refine R.go 2 (R.any1 4 (by kernel_rfl) (by kernel_rfl) ?_)
            refine R.ar (1 + v_177) (by kernel_rfl) (by omega) (by omega) (by kernel_rfl) ?_
            refine R.go 1 (R.any1 5 (by kernel_rfl) (by kernel_rfl) ?_)
            refine R.callX (CallX.inF 5 usC frC (CallX.box 7 26 [AI n_5, LI xs_6] (CallX.box 6 26 [AI 0, .nil] (CallX.box 5 26 [AI 0, .nil] (frameX_c_r7 c p1_178 h1_179 (1 + v_177) eo1 so1 no1 co1 eo2 so2 no2 co2 eo3 so3 no3 co3 eo4 so4 no4 co4 26 2 1 [AI 0, .nil] 26 2 1 [AI 0, .nil] 26 2 1 [AI n_5, LI xs_6] hc (by omega)) (by kernel_rfl) (by kernel_rfl) (by kernel_rfl) (by kernel_rfl) (by rintro _ _ ⟨_, _, _, _, _, rfl, rfl⟩; exact ⟨by kernel_rfl, by kernel_rfl, by kernel_rfl⟩)) (by kernel_rfl) (by kernel_rfl) (by kernel_rfl) (by kernel_rfl) (by rintro _ _ ⟨_, ⟨_, _, _, _, _, rfl, rfl⟩, rfl⟩; exact ⟨by kernel_rfl, by kernel_rfl, by kernel_rfl⟩)) (by kernel_rfl) (by kernel_rfl) (by kernel_rfl) (by kernel_rfl) (by rintro _ _ ⟨_, ⟨_, ⟨_, _, _, _, _, rfl, rfl⟩, rfl⟩, rfl⟩; exact ⟨by kernel_rfl, by kernel_rfl, by kernel_rfl⟩)) (Nat.le_of_ble_eq_true (by kernel_rfl)) (by kernel_rfl) (by kernel_rfl) (by rintro _ _ ⟨_, ⟨_, ⟨_, ⟨_, _, _, _, _, rfl, rfl⟩, rfl⟩, rfl⟩, rfl⟩; exact Nat.le_of_ble_eq_true (by kernel_rfl))) (by kernel_rfl) (by kernel_rfl) (by kernel_rfl) ?_
            rintro _ _ ⟨_, _, ⟨_, ⟨_, ⟨_, ⟨n_181, xs_182, p1_183, h1_184, f185, rfl, rfl⟩, rfl⟩, rfl⟩, rfl⟩, rfl, rfl⟩
            refine R.go 1 (R.any1 6 (by kernel_rfl) (by kernel_rfl) ?_)
            refine R.go 2 (R.any1 7 (by kernel_rfl) (by kernel_rfl) ?_)
            refine R.go 2 (R.any0 (by kernel_rfl) ?_)
            exact R.metF (v_177, p1_178, h1_179, n_181, xs_182, p1_183, h1_184) (by kernel_rfl) ⟨by first | assumption | omega, by first | assumption | omega⟩ (by kernel_rfl)
          · refine R.ar (1 + v_177) (by kernel_rfl) (by omega) (by omega) (by kernel_rfl) ?_
            refine R.go 1 (R.any2 0 5 (by kernel_rfl) (by kernel_rfl) ?_ ?_)
            · refine R.go 2 (R.any1 5 (by kernel_rfl) (by kernel_rfl) ?_)
              refine R.callX (CallX.inF 5 usC frC (CallX.box 7 26 [AI n_5, LI xs_6] (CallX.box 6 26 [AI 0, .nil] (CallX.box 5 26 [AI 0, .nil] (frameX_c_r7 c p1_178 h1_179 (1 + v_177) eo1 so1 no1 co1 eo2 so2 no2 co2 eo3 so3 no3 co3 eo4 so4 no4 co4 26 2 1 [AI 0, .nil] 26 2 1 [AI 0, .nil] 26 2 1 [AI n_5, LI xs_6] hc (by omega)) (by kernel_rfl) (by kernel_rfl) (by kernel_rfl) (by kernel_rfl) (by rintro _ _ ⟨_, _, _, _, _, rfl, rfl⟩; exact ⟨by kernel_rfl, by kernel_rfl, by kernel_rfl⟩)) (by kernel_rfl) (by kernel_rfl) (by kernel_rfl) (by kernel_rfl) (by rintro _ _ ⟨_, ⟨_, _, _, _, _, rfl, rfl⟩, rfl⟩; exact ⟨by kernel_rfl, by kernel_rfl, by kernel_rfl⟩)) (by kernel_rfl) (by kernel_rfl) (by kernel_rfl) (by kernel_rfl) (by rintro _ _ ⟨_, ⟨_, ⟨_, _, _, _, _, rfl, rfl⟩, rfl⟩, rfl⟩; exact ⟨by kernel_rfl, by kernel_rfl, by kernel_rfl⟩)) (Nat.le_of_ble_eq_true (by kernel_rfl)) (by kernel_rfl) (by kernel_rfl) (by rintro _ _ ⟨_, ⟨_, ⟨_, ⟨_, _, _, _, _, rfl, rfl⟩, rfl⟩, rfl⟩, rfl⟩; exact Nat.le_of_ble_eq_true (by kernel_rfl))) (by kernel_rfl) (by kernel_rfl) (by kernel_rfl) ?_
              rintro _ _ ⟨_, _, ⟨_, ⟨_, ⟨_, ⟨n_186, xs_187, p1_188, h1_189, f190, rfl, rfl⟩, rfl⟩, rfl⟩, rfl⟩, rfl, rfl⟩
              refine R.go 1 (R.any1 6 (by kernel_rfl) (by kernel_rfl) ?_)
              refine R.go 2 (R.any1 7 (by kernel_rfl) (by kernel_rfl) ?_)
              refine R.go 2 (R.any0 (by kernel_rfl) ?_)
              exact R.metF (v_177, p1_178, h1_179, n_186, xs_187, p1_188, h1_189) (by kernel_rfl) ⟨by first | assumption | omega, by first | assumption | omega⟩ (by kernel_rfl)
            · refine R.callX (CallX.inF 5 usC frC (CallX.box 7 26 [AI n_5, LI xs_6] (CallX.box 6 26 [AI 0, .nil] (CallX.box 5 26 [AI 0, .nil] (frameX_c_r7 c p1_178 h1_179 (1 + v_177) eo1 so1 no1 co1 eo2 so2 no2 co2 eo3 so3 no3 co3 eo4 so4 no4 co4 26 2 1 [AI 0, .nil] 26 2 1 [AI 0, .nil] 26 2 1 [AI n_5, LI xs_6] hc (by omega)) (by kernel_rfl) (by kernel_rfl) (by kernel_rfl) (by kernel_rfl) (by rintro _ _ ⟨_, _, _, _, _, rfl, rfl⟩; exact ⟨by kernel_rfl, by kernel_rfl, by kernel_rfl⟩)) (by kernel_rfl) (by kernel_rfl) (by kernel_rfl) (by kernel_rfl) (by rintro _ _ ⟨_, ⟨_, _, _, _, _, rfl, rfl⟩, rfl⟩; exact ⟨by kernel_rfl, by kernel_rfl, by kernel_rfl⟩)) (by kernel_rfl) (by kernel_rfl) (by kernel_rfl) (by kernel_rfl) (by rintro _ _ ⟨_, ⟨_, ⟨_, _, _, _, _, rfl, rfl⟩, rfl⟩, rfl⟩; exact ⟨by kernel_rfl, by kernel_rfl, by kernel_rfl⟩)) (Nat.le_of_ble_eq_true (by kernel_rfl)) (by kernel_rfl) (by kernel_rfl) (by rintro _ _ ⟨_, ⟨_, ⟨_, ⟨_, _, _, _, _, rfl, rfl⟩, rfl⟩, rfl⟩, rfl⟩; exact Nat.le_of_ble_eq_true (by kernel_rfl))) (by kernel_rfl) (by kernel_rfl) (by kernel_rfl) ?_
              rintro _ _ ⟨_, _, ⟨_, ⟨_, ⟨_, ⟨n_191, xs_192, p1_193, h1_194, f195, rfl, rfl⟩, rfl⟩, rfl⟩, rfl⟩, rfl, rfl⟩
              refine R.go 1 (R.any1 0 (by kernel_rfl) (by kernel_rfl) ?_)
              refine R.go 2 (R.any1 6 (by kernel_rfl) (by kernel_rfl) ?_)
              refine R.go 2 (R.any1 7 (by kernel_rfl) (by kernel_rfl) ?_)
              refine R.go 2 (R.any0 (by kernel_rfl) ?_)
              exact R.metF (v_177, p1_178, h1_179, n_191, xs_192, p1_193, h1_194) (by kernel_rfl) ⟨by first | assumption | omega, by first | assumption | omega⟩ (by kernel_rfl)
      · rintro ⟨v_168, p1_169, h1_170, n_172, xs_173, p1_174, h1_175⟩ ⟨f171, f176⟩
        exact R.retX (res := .tup [.agg [AI n_5, LI xs_6], .agg [AI n_172, LI xs_173]]) (hp' := [.box 120 [LB c, AI (p1_174 : Int), .int .u64 h1_175], .list eo1 so1 no1 co1, .list eo2 so2 no2 co2, .list eo3 so3 no3 co3, .list eo4 so4 no4 co4, .dead, .box 26 [AI n_5, LI xs_6], .box 26 [AI n_172, LI xs_173], .box 26 [AI n_5, LI xs_6]]) (by kernel_rfl) (by kernel_rfl) (by kernel_rfl) (by kernel_rfl) ⟨[0, 1, 2, 3, 4], by kernel_rfl, by decide, n_5, xs_6, n_172, xs_173, p1_174, h1_175, by first | assumption | omega, by first | assumption | omega, by kernel_rfl, by kernel_rfl⟩
  · refine R.skp (okFr n_5 xs_6) true (by kernel_rfl) c10 (by kernel_rfl) ?_
    refine R.skp (okFr n_5 xs_6) true (by kernel_rfl) c10 (by kernel_rfl) ?_
    refine R.skp (okFr n_5 xs_6) true (by kernel_rfl) c10 (by kernel_rfl) ?_
    refine R.pick (okFr n_5 xs_6) false (by kernel_rfl) c10 (by kernel_rfl) ?_
    refine R.go 4 (R.meetF (α := Int × Nat × Int × Int × (List Int) × Nat × Int) (fun | (v_196, p1_197, h1_198, n_200, xs_201, p1_202, h1_203) => ((4 < 1 → v_196 = 0) ∧ (1 ≤ 4 → 0 ≤ v_196 ∧ v_196 < 4)) ∧ ((xs_201.length : Int) ≤ (1 + v_196) + 1)) (fun | (v_196, p1_197, h1_198, n_200, xs_201, p1_202, h1_203) => (⟨(frm 36 [(0, .ptr 0 0), (2, .ptr 6 0), (3, .ptr 7 0), (4, .ptr 8 0), (6, .ptr 0 0), (7, .ptr 0 0), (8, AI v_1), (9, AI (1 + v_1)), (10, .agg [AI n_5, LI xs_6]), (11, .agg [AI n_5, LI xs_6]), (12, .bool (okFr n_5 xs_6)), (13, .bool (okFr n_5 xs_6)), (14, .tup []), (15, .tup []), (16, .tup []), (17, .bool false), (30, .agg [AI n_5, LI xs_6]), (31, .ptr 0 0), (32, .ptr 0 0), (33, AI v_196), (34, AI (1 + v_196)), (35, .agg [AI n_200, LI xs_201])]), [.box 120 [LB c, AI (p1_202 : Int), .int .u64 h1_203], .list eo1 so1 no1 co1, .list eo2 so2 no2 co2, .list eo3 so3 no3 co3, .list eo4 so4 no4 co4, .frame usC frC, .box 26 [AI n_5, LI xs_6], .box 26 [AI n_200, LI xs_201], .box 26 [AI n_5, LI xs_6]]⟩ : St)) (by kernel_rfl) ?_ ?_)
    · refine R.any (by decide +kernel) (by kernel_rfl) ?_
      refine R.anyF 1 (by kernel_rfl) (np_meetF _ _) ?_
      refine R.anyF 2 (by kernel_rfl) (np_meetF _ _) ?_
      refine R.any2 0 3 (by kernel_rfl) (by kernel_rfl) ?_ ?_
      · refine R.go 2 (R.any1 3 (by kernel_rfl) (by kernel_rfl) ?_)
        refine R.callX (CallX.inF 5 usC frC (CallX.box 7 26 [AI n_5, LI xs_6] (CallX.box 6 26 [AI 0, .nil] (CallX.box 5 26 [AI 0, .nil] (nextX_c_r7 c p1_7 h1_8 4 eo1 so1 no1 co1 eo2 so2 no2 co2 eo3 so3 no3 co3 eo4 so4 no4 co4 26 2 1 [AI 0, .nil] 26 2 1 [AI 0, .nil] 26 2 1 [AI n_5, LI xs_6] hc) (by kernel_rfl) (by kernel_rfl) (by kernel_rfl) (by kernel_rfl) (by rintro _ _ ⟨_, _, _, _, rfl, rfl⟩; exact ⟨by kernel_rfl, by kernel_rfl, by kernel_rfl⟩)) (by kernel_rfl) (by kernel_rfl) (by kernel_rfl) (by kernel_rfl) (by rintro _ _ ⟨_, ⟨_, _, _, _, rfl, rfl⟩, rfl⟩; exact ⟨by kernel_rfl, by kernel_rfl, by kernel_rfl⟩)) (by kernel_rfl) (by kernel_rfl) (by kernel_rfl) (by kernel_rfl) (by rintro _ _ ⟨_, ⟨_, ⟨_, _, _, _, rfl, rfl⟩, rfl⟩, rfl⟩; exact ⟨by kernel_rfl, by kernel_rfl, by kernel_rfl⟩)) (Nat.le_of_ble_eq_true (by kernel_rfl)) (by kernel_rfl) (by kernel_rfl) (by rintro _ _ ⟨_, ⟨_, ⟨_, ⟨_, _, _, _, rfl, rfl⟩, rfl⟩, rfl⟩, rfl⟩; exact Nat.le_of_ble_eq_true (by kernel_rfl))) (by kernel_rfl) (by kernel_rfl) (by kernel_rfl) ?_
        rintro _ _ ⟨_, _, ⟨_, ⟨_, ⟨_, ⟨v_196, p1_197, h1_198, f199, rfl, rfl⟩, rfl⟩, rfl⟩, rfl⟩, rfl, rfl⟩
        refine R.go 1 (R.any1 4 (by kernel_rfl) (by kernel_rfl) ?_)
        refine R.ar (1 + v_196) (by kernel_rfl) (by omega) (by omega) (by kernel_rfl) ?_
        refine R.go 1 (R.any1 5 (by kernel_rfl) (by kernel_rfl) ?_)
        refine R.callX (CallX.inF 5 usC frC (CallX.box 7 26 [AI n_5, LI xs_6] (CallX.box 6 26 [AI 0, .nil] (CallX.box 5 26 [AI 0, .nil] (frameX_c_r7 c p1_197 h1_198 (1 + v_196) eo1 so1 no1 co1 eo2 so2 no2 co2 eo3 so3 no3 co3 eo4 so4 no4 co4 26 2 1 [AI 0, .nil] 26 2 1 [AI 0, .nil] 26 2 1 [AI n_5, LI xs_6] hc (by omega)) (by kernel_rfl) (by kernel_rfl) (by kernel_rfl) (by kernel_rfl) (by rintro _ _ ⟨_, _, _, _, _, rfl, rfl⟩; exact ⟨by kernel_rfl, by kernel_rfl, by kernel_rfl⟩)) (by kernel_rfl) (by kernel_rfl) (by kernel_rfl) (by kernel_rfl) (by rintro _ _ ⟨_, ⟨_, _, _, _, _, rfl, rfl⟩, rfl⟩; exact ⟨by kernel_rfl, by kernel_rfl, by kernel_rfl⟩)) (by kernel_rfl) (by kernel_rfl) (by kernel_rfl) (by kernel_rfl) (by rintro _ _ ⟨_, ⟨_, ⟨_, _, _, _, _, rfl, rfl⟩, rfl⟩, rfl⟩; exact ⟨by kernel_rfl, by kernel_rfl, by kernel_rfl⟩)) (Nat.le_of_ble_eq_true (by kernel_rfl)) (by kernel_rfl) (by kernel_rfl) (by rintro _ _ ⟨_, ⟨_, ⟨_, ⟨_, _, _, _, _, rfl, rfl⟩, rfl⟩, rfl⟩, rfl⟩; exact Nat.le_of_ble_eq_true (by kernel_rfl))) (by kernel_rfl) (by kernel_rfl) (by kernel_rfl) ?_
        rintro _ _ ⟨_, _, ⟨_, ⟨_, ⟨_, ⟨n_200, xs_201, p1_202, h1_203, f204, rfl, rfl⟩, rfl⟩, rfl⟩, rfl⟩, rfl, rfl⟩
        refine R.go 1 (R.any1 6 (by kernel_rfl) (by kernel_rfl) ?_)
        refine R.go 2 (R.any1 7 (by kernel_rfl) (by kernel_rfl) ?_)
        refine R.go 2 (R.any0 (by kernel_rfl) ?_)
        exact R.metF (v_196, p1_197, h1_198, n_200, xs_201, p1_202, h1_203) (by kernel_rfl) ⟨by first | assumption | omega, by first | assumption | omega⟩ (by kernel_rfl)
      · refine R.callX (CallX.inF 5 usC frC (CallX.box 7 26 [AI n_5, LI xs_6] (CallX.box 6 26 [AI 0, .nil] (CallX.box 5 26 [AI 0, .nil] (nextX_c_r7 c p1_7 h1_8 4 eo1 so1 no1 co1 eo2 so2 no2 co2 eo3 so3 no3 co3 eo4 so4 no4 co4 26 2 1 [AI 0, .nil] 26 2 1 [AI 0, .nil] 26 2 1 [AI n_5, LI xs_6] hc) (by kernel_rfl) (by kernel_rfl) (by kernel_rfl) (by kernel_rfl) (by rintro _ _ ⟨_, _, _, _, rfl, rfl⟩; exact ⟨by kernel_rfl, by kernel_rfl, by kernel_rfl⟩)) (by kernel_rfl) (by kernel_rfl) (by kernel_rfl) (by kernel_rfl) (by rintro _ _ ⟨_, ⟨_, _, _, _, rfl, rfl⟩, rfl⟩; exact ⟨by kernel_rfl, by kernel_rfl, by kernel_rfl⟩)) (by kernel_rfl) (by kernel_rfl) (by kernel_rfl) (by kernel_rfl) (by rintro _ _ ⟨_, ⟨_, ⟨_, _, _, _, rfl, rfl⟩, rfl⟩, rfl⟩; exact ⟨by kernel_rfl, by kernel_rfl, by kernel_rfl⟩)) (Nat.le_of_ble_eq_true (by kernel_rfl)) (by kernel_rfl) (by kernel_rfl) (by rintro _ _ ⟨_, ⟨_, ⟨_, ⟨_, _, _, _, rfl, rfl⟩, rfl⟩, rfl⟩, rfl⟩; exact Nat.le_of_ble_eq_true (by kernel_rfl))) (by kernel_rfl) (by kernel_rfl) (by kernel_rfl) ?_
        rintro _ _ ⟨_, _, ⟨_, ⟨_, ⟨_, ⟨v_205, p1_206, h1_207, f208, rfl, rfl⟩, rfl⟩, rfl⟩, rfl⟩, rfl, rfl⟩
        refine R.go 1 (R.any2 0 4 (by kernel_rfl) (by kernel_rfl) ?_ ?_)
        · refine R.go 2 (R.any1 4 (by kernel_rfl) (by kernel_rfl) ?_)
          refine R.ar (1 + v_205) (by kernel_rfl) (by omega) (by omega) (by kernel_rfl) ?_
          refine R.go 1 (R.any1 5 (by kernel_rfl) (by kernel_rfl) ?_)
          refine R.callX (CallX.inF 5 usC frC (CallX.box 7 26 [AI n_5, LI xs_6] (CallX.box 6 26 [AI 0, .nil] (CallX.box 5 26 [AI 0, .nil] (frameX_c_r7 c p1_206 h1_207 (1 + v_205) eo1 so1 no1 co1 eo2 so2 no2 co2 eo3 so3 no3 co3 eo4 so4 no4 co4 26 2 1 [AI 0, .nil] 26 2 1 [AI 0, .nil] 26 2 1 [AI n_5, LI xs_6] hc (by omega)) (by kernel_rfl) (by kernel_rfl) (by kernel_rfl) (by kernel_rfl) (by rintro _ _ ⟨_, _, _, _, _, rfl, rfl⟩; exact ⟨by kernel_rfl, by kernel_rfl, by kernel_rfl⟩)) (by kernel_rfl) (by kernel_rfl) (by kernel_rfl) (by kernel_rfl) (by rintro _ _ ⟨_, ⟨_, _, _, _, _, rfl, rfl⟩, rfl⟩; exact ⟨by kernel_rfl, by kernel_rfl, by kernel_rfl⟩)) (by kernel_rfl) (by kernel_rfl) (by kernel_rfl) (by kernel_rfl) (by rintro _ _ ⟨_, ⟨_, ⟨_, _, _, _, _, rfl, rfl⟩, rfl⟩, rfl⟩; exact ⟨by kernel_rfl, by kernel_rfl, by kernel_rfl⟩)) (Nat.le_of_ble_eq_true (by kernel_rfl)) (by kernel_rfl) (by kernel_rfl) (by rintro _ _ ⟨_, ⟨_, ⟨_, ⟨_, _, _, _, _, rfl, rfl⟩, rfl⟩, rfl⟩, rfl⟩; exact Nat.le_of_ble_eq_true (by kernel_rfl))) (by kernel_rfl) (by kernel_rfl) (by kernel_rfl) ?_
          rintro _ _ ⟨_, _, ⟨_, ⟨_, ⟨_, ⟨n_209, xs_210, p1_211, h1_212, f213, rfl, rfl⟩, rfl⟩, rfl⟩, rfl⟩, rfl, rfl⟩
          refine R.go 1 (R.any1 6 (by kernel_rfl) (by kernel_rfl) ?_)
          refine R.go 2 (R.any1 7 (by kernel_rfl) (by kernel_rfl) ?_)
          refine R.go 2 (R.any0 (by kernel_rfl) ?_)
          exact R.metF (v_205, p1_206, h1_207, n_209, xs_210, p1_211, h1_212) (by kernel_rfl) ⟨by first | assumption | omega, by first | assumption | omega⟩ (by kernel_rfl)
        · refine R.ar (1 + v_205) (by kernel_rfl) (by omega) (by omega) (by kernel_rfl) ?_
          refine R.go 1 (R.any2 0 5 (by kernel_rfl) (by kernel_rfl) ?_ ?_)
          · refine R.go 2 (R.any1 5 (by kernel_rfl) (by kernel_rfl) ?_)
            refine R.callX (CallX.inF 5 usC frC (CallX.box 7 26 [AI n_5, LI xs_6] (CallX.box 6 26 [AI 0, .nil] (CallX.box 5 26 [AI 0, .nil] (frameX_c_r7 c p1_206 h1_207 (1 + v_205) eo1 so1 no1 co1 eo2 so2 no2 co2 eo3 so3 no3 co3 eo4 so4 no4 co4 26 2 1 [AI 0, .nil] 26 2 1 [AI 0, .nil] 26 2 1 [AI n_5, LI xs_6] hc (by omega)) (by kernel_rfl) (by kernel_rfl) (by kernel_rfl) (by kernel_rfl) (by rintro _ _ ⟨_, _, _, _, _, rfl, rfl⟩; exact ⟨by kernel_rfl, by kernel_rfl, by kernel_rfl⟩)) (by kernel_rfl) (by kernel_rfl) (by kernel_rfl) (by kernel_rfl) (by rintro _ _ ⟨_, ⟨_, _, _, _, _, rfl, rfl⟩, rfl⟩; exact ⟨by kernel_rfl, by kernel_rfl, by kernel_rfl⟩)) (by kernel_rfl) (by kernel_rfl) (by kernel_rfl) (by kernel_rfl) (by rintro _ _ ⟨_, ⟨_, ⟨_, _, _, _, _, rfl, rfl⟩, rfl⟩, rfl⟩; exact ⟨by kernel_rfl, by kernel_rfl, by kernel_rfl⟩)) (Nat.le_of_ble_eq_true (by kernel_rfl)) (by kernel_rfl) (by kernel_rfl) (by rintro _ _ ⟨_, ⟨_, ⟨_, ⟨_, _, _, _, _, rfl, rfl⟩, rfl⟩, rfl⟩, rfl⟩; exact Nat.le_of_ble_eq_true (by kernel_rfl))) (by kernel_rfl) (by kernel_rfl) (by kernel_rfl) ?_
            rintro _ _ ⟨_, _, ⟨_, ⟨_, ⟨_, ⟨n_214, xs_215, p1_216, h1_217, f218, rfl, rfl⟩, rfl⟩, rfl⟩, rfl⟩, rfl, rfl⟩
            refine R.go 1 (R.any1 6 (by kernel_rfl) (by kernel_rfl) ?_)
            refine R.go 2 (R.any1 7 (by kernel_rfl) (by kernel_rfl) ?_)
            refine R.go 2 (R.any0 (by kernel_rfl) ?_)
            exact R.metF (v_205, p1_206, h1_207, n_214, xs_215, p1_216, h1_217) (by kernel_rfl) ⟨by first | assumption | omega, by first | assumption | omega⟩ (by kernel_rfl)
          · refine R.callX (CallX.inF 5 usC frC (CallX.box 7 26 [AI n_5, LI xs_6] (CallX.box 6 26 [AI 0, .nil] (CallX.box 5 26 [AI 0, .nil] (frameX_c_r7 c p1_206 h1_207 (1 + v_205) eo1 so1 no1 co1 eo2 so2 no2 co2 eo3 so3 no3 co3 eo4 so4 no4 co4 26 2 1 [AI 0, .nil] 26 2 1 [AI 0, .nil] 26 2 1 [AI n_5, LI xs_6] hc (by omega)) (by kernel_rfl) (by kernel_rfl) (by kernel_rfl) (by kernel_rfl) (by rintro _ _ ⟨_, _, _, _, _, rfl, rfl⟩; exact ⟨by kernel_rfl, by kernel_rfl, by kernel_rfl⟩)) (by kernel_rfl) (by kernel_rfl) (by kernel_rfl) (by kernel_rfl) (by rintro _ _ ⟨_, ⟨_, _, _, _, _, rfl, rfl⟩, rfl⟩; exact ⟨by kernel_rfl, by kernel_rfl, by kernel_rfl⟩)) (by kernel_rfl) (by kernel_rfl) (by kernel_rfl) (by kernel_rfl) (by rintro _ _ ⟨_, ⟨_, ⟨_, _, _, _, _, rfl, rfl⟩, rfl⟩, rfl⟩; exact ⟨by kernel_rfl, by kernel_rfl, by kernel_rfl⟩)) (Nat.le_of_ble_eq_true (by kernel_rfl)) (by kernel_rfl) (by kernel_rfl) (by rintro _ _ ⟨_, ⟨_, ⟨_, ⟨_, _, _, _, _, rfl, rfl⟩, rfl⟩, rfl⟩, rfl⟩; exact Nat.le_of_ble_eq_true (by kernel_rfl))) (by kernel_rfl) (by kernel_rfl) (by kernel_rfl) ?_
            rintro _ _ ⟨_, _, ⟨_, ⟨_, ⟨_, ⟨n_219, xs_220, p1_221, h1_222, f223, rfl, rfl⟩, rfl⟩, rfl⟩, rfl⟩, rfl, rfl⟩
            refine R.go 1 (R.any1 0 (by kernel_rfl) (by kernel_rfl) ?_)
            refine R.go 2 (R.any1 6 (by kernel_rfl) (by kernel_rfl) ?_)
            refine R.go 2 (R.any1 7 (by kernel_rfl) (by kernel_rfl) ?_)
            refine R.go 2 (R.any0 (by kernel_rfl) ?_)
            exact R.metF (v_205, p1_206, h1_207, n_219, xs_220, p1_221, h1_222) (by kernel_rfl) ⟨by first | assumption | omega, by first | assumption | omega⟩ (by kernel_rfl)
    · rintro ⟨v_196, p1_197, h1_198, n_200, xs_201, p1_202, h1_203⟩ ⟨f199, f204⟩
      exact R.retX (res := .tup [.agg [AI n_5, LI xs_6], .agg [AI n_200, LI xs_201]]) (hp' := [.box 120 [LB c, AI (p1_202 : Int), .int .u64 h1_203], .list eo1 so1 no1 co1, .list eo2 so2 no2 co2, .list eo3 so3 no3 co3, .list eo4 so4 no4 co4, .dead, .box 26 [AI n_5, LI xs_6], .box 26 [AI n_200, LI xs_201], .box 26 [AI n_5, LI xs_6]]) (by kernel_rfl) (by kernel_rfl) (by kernel_rfl) (by kernel_rfl) ⟨[0, 1, 2, 3, 4], by kernel_rfl, by decide, n_5, xs_6, n_200, xs_201, p1_202, h1_203, by first | assumption | omega, by first | assumption | omega, by kernel_rfl, by kernel_rfl⟩

theorem drawnX_c_r2 (c : List Int) (p : Nat) (h : Int) (eo1 : Nat) (so1 : Nat) (no1 : Nat) (co1 : List AV) (eo2 : Nat) (so2 : Nat) (no2 : Nat) (co2 : List AV) (hc : BY c) : CallX Tryz.prog 35 [.ptr 0 0] [.box 120 [LB c, AI (p : Int), .int .u64 h], .list eo1 so1 no1 co1, .list eo2 so2 no2 co2] (fun (resX : AV) (objX : List AObj) => ∃ n : Int, ∃ xs : List Int, ∃ m : Int, ∃ ys : List Int, ∃ im : List Int, ∃ p1 : Nat, ∃ h1 : Int, (xs.length ≤ 100) ∧ (ys.length ≤ 100) ∧ (im.length ≤ 100) ∧ resX = .tup [.agg [AI n, LI xs], .agg [AI m, LI ys], LI im] ∧ objX = [.box 120 [LB c, AI (p1 : Int), .int .u64 h1], .list eo1 so1 no1 co1, .list eo2 so2 no2 co2]) := by
  have hcl : c.length ≤ 4096 := hc.1
  have hcb := hc.2
  refine CallX.dropE (CallX.ofF Tryz.func35 rfl (by kernel_rfl) ?_)
  intro usC frC hfC
  refine R.go 9 (R.callX (CallX.inF 3 usC frC (CallX.box 4 26 [AI 0, .nil] (CallX.box 3 26 [AI 0, .nil] (twoX_c_r4 c p h eo1 so1 no1 co1 eo2 so2 no2 co2 26 2 1 [AI 0, .nil] 26 2 1 [AI 0, .nil] hc) (by kernel_rfl) (by kernel_rfl) (by kernel_rfl) (by kernel_rfl) (by rintro _ _ ⟨_, _, _, _, _, _, _, _, rfl, rfl⟩; exact ⟨by kernel_rfl, by kernel_rfl, by kernel_rfl⟩)) (by kernel_rfl) (by kernel_rfl) (by kernel_rfl) (by kernel_rfl) (by rintro _ _ ⟨_, ⟨_, _, _, _, _, _, _, _, rfl, rfl⟩, rfl⟩; exact ⟨by kernel_rfl, by kernel_rfl, by kernel_rfl⟩)) (Nat.le_of_ble_eq_true (by kernel_rfl)) (by kernel_rfl) (by kernel_rfl) (by rintro _ _ ⟨_, ⟨_, ⟨_, _, _, _, _, _, _, _, rfl, rfl⟩, rfl⟩, rfl⟩; exact Nat.le_of_ble_eq_true (by kernel_rfl))) (by kernel_rfl) (by kernel_rfl) (by kernel_rfl) ?_)
  rintro _ _ ⟨_, _, ⟨_, ⟨_, ⟨n_1, xs_2, m_3, ys_4, p1_5, h1_6, f7, f8, rfl, rfl⟩, rfl⟩, rfl⟩, rfl, rfl⟩
  refine R.go 17 (R.call true (l05Is_c n_1 xs_2 (by first | omega | (simp <;> omega))) (by kernel_rfl) rfl (by kernel_rfl) ?_)
  refine R.go 1 ?_
  refine (Bool.eq_false_or_eq_true (okFr n_1 xs_2)).elim (fun c9 => ?_) (fun c9 => ?_)
  · refine R.want (okFr n_1 xs_2) true (by kernel_rfl) c9 ?_
    refine R.go 1 (R.want (okFr n_1 xs_2) true (by kernel_rfl) c9 ?_)
    refine R.call true (l05Is_c m_3 ys_4 (by first | omega | (simp <;> omega))) (by kernel_rfl) rfl (by kernel_rfl) ?_
    refine R.pick (okFr n_1 xs_2) true (by kernel_rfl) c9 (by kernel_rfl) ?_
    refine R.go 1 (R.condB (okFr m_3 ys_4) (by kernel_rfl) (fun c10 => ?_) (fun c10 => ?_))
    · have hfr1 := okFr_rel (by assumption : okFr n_1 xs_2 = true)
      refine R.go 4 (R.callX0 (findX_c n_1 xs_2 m_3 ys_4 (by assumption) (by assumption)) (by kernel_rfl) (by rintro _ _ ⟨_, _, _, rfl, rfl⟩; rfl) (by kernel_rfl) (by kernel_rfl) ?_)
      rintro _ ⟨L_11, f12, f13, rfl, _⟩
      refine R.go 8 (R.cond ((L_11.length : Int) > 0) (by kernel_rfl) (fun c14 => ?_) (fun c14 => ?_))
      · have hgm := fun (k : Nat) (hk : k < (L_11).length) => (by assumption : GM _ _ L_11) k hk
        refine R.go 5 (R.callX (CallX.inF 3 usC frC (CallX.box 6 26 [AI m_3, LI ys_4] (CallX.box 5 26 [AI n_1, LI xs_2] (CallX.box 4 26 [AI 0, .nil] (CallX.box 3 26 [AI 0, .nil] (nextX_c_r7 c p1_5 h1_6 L_11.length eo1 so1 no1 co1 eo2 so2 no2 co2 26 2 1 [AI 0, .nil] 26 2 1 [AI 0, .nil] 26 2 1 [AI n_1, LI xs_2] 26 2 1 [AI m_3, LI ys_4] 2 1 0 (rows eI []) hc) (by kernel_rfl) (by kernel_rfl) (by kernel_rfl) (by kernel_rfl) (by rintro _ _ ⟨_, _, _, _, rfl, rfl⟩; exact ⟨by kernel_rfl, by kernel_rfl, by kernel_rfl⟩)) (by kernel_rfl) (by kernel_rfl) (by kernel_rfl) (by kernel_rfl) (by rintro _ _ ⟨_, ⟨_, _, _, _, rfl, rfl⟩, rfl⟩; exact ⟨by kernel_rfl, by kernel_rfl, by kernel_rfl⟩)) (by kernel_rfl) (by kernel_rfl) (by kernel_rfl) (by kernel_rfl) (by rintro _ _ ⟨_, ⟨_, ⟨_, _, _, _, rfl, rfl⟩, rfl⟩, rfl⟩; exact ⟨by kernel_rfl, by kernel_rfl, by kernel_rfl⟩)) (by kernel_rfl) (by kernel_rfl) (by kernel_rfl) (by kernel_rfl) (by rintro _ _ ⟨_, ⟨_, ⟨_, ⟨_, _, _, _, rfl, rfl⟩, rfl⟩, rfl⟩, rfl⟩; exact ⟨by kernel_rfl, by kernel_rfl, by kernel_rfl⟩)) (Nat.le_of_ble_eq_true (by kernel_rfl)) (by kernel_rfl) (by kernel_rfl) (by rintro _ _ ⟨_, ⟨_, ⟨_, ⟨_, ⟨_, _, _, _, rfl, rfl⟩, rfl⟩, rfl⟩, rfl⟩, rfl⟩; exact Nat.le_of_ble_eq_true (by kernel_rfl))) (by kernel_rfl) (by kernel_rfl) (by kernel_rfl) ?_)
        rintro _ _ ⟨_, _, ⟨_, ⟨_, ⟨_, ⟨_, ⟨v_15, p1_16, h1_17, f18, rfl, rfl⟩, rfl⟩, rfl⟩, rfl⟩, rfl⟩, rfl, rfl⟩
        refine R.idx eLI L_11 [] ((v_15).toNat) v_15 (by kernel_rfl) (by omega) eLI_len (by omega) (by kernel_rfl) ?_
        have hql : ((((L_11.getD ((v_15).toNat) [])).length : Nat) : Int) = _ := (hgm _ (by omega)).1
        refine R.go 1 (R.call true (l01Own_c (L_11.getD ((v_15).toNat) []) (by first | omega | (simp <;> omega))) (by kernel_rfl) rfl (by kernel_rfl) ?_)
        have hil : ((L_11.getD ((v_15).toNat) []) : List Int).length ≤ 50 := by first | omega | (simp; done) | (have hq : ((((L_11.getD ((v_15).toNat) [])).length : Nat) : Int) = _ := (hgm _ (by omega)).1; omega)
        refine R.go 5 (R.frz 8 (by kernel_rfl) ?_)
        refine R.kfix 3 (us := usC) (by kernel_rfl) (hfC.frz 8 (LI []) (Nat.le_of_ble_eq_true (by kernel_rfl))) ?_
        refine R.go 1 (R.deadF 8 (by kernel_rfl) (by kernel_rfl) ?_)
        refine R.callX (CallX.inF 3 usC frC (CallX.inF 7 [] [] (CallX.box 6 26 [AI m_3, LI ys_4] (CallX.box 5 26 [AI n_1, LI xs_2] (CallX.box 4 26 [AI 0, .nil] (CallX.box 3 26 [AI 0, .nil] (nextX_c_r7 c p1_16 h1_17 8 eo1 so1 no1 co1 eo2 so2 no2 co2 26 2 1 [AI 0, .nil] 26 2 1 [AI 0, .nil] 26 2 1 [AI n_1, LI xs_2] 26 2 1 [AI m_3, LI ys_4] 2 1 ((L_11.getD ((v_15).toNat) []).length) (rows eI (L_11.getD ((v_15).toNat) [])) hc) (by kernel_rfl) (by kernel_rfl) (by kernel_rfl) (by kernel_rfl) (by rintro _ _ ⟨_, _, _, _, rfl, rfl⟩; exact ⟨by kernel_rfl, by kernel_rfl, by kernel_rfl⟩)) (by kernel_rfl) (by kernel_rfl) (by kernel_rfl) (by kernel_rfl) (by rintro _ _ ⟨_, ⟨_, _, _, _, rfl, rfl⟩, rfl⟩; exact ⟨by kernel_rfl, by kernel_rfl, by kernel_rfl⟩)) (by kernel_rfl) (by kernel_rfl) (by kernel_rfl) (by kernel_rfl) (by rintro _ _ ⟨_, ⟨_, ⟨_, _, _, _, rfl, rfl⟩, rfl⟩, rfl⟩; exact ⟨by kernel_rfl, by kernel_rfl, by kernel_rfl⟩)) (by kernel_rfl) (by kernel_rfl) (by kernel_rfl) (by kernel_rfl) (by rintro _ _ ⟨_, ⟨_, ⟨_, ⟨_, _, _, _, rfl, rfl⟩, rfl⟩, rfl⟩, rfl⟩; exact ⟨by kernel_rfl, by kernel_rfl, by kernel_rfl⟩)) (Nat.le_of_ble_eq_true (by kernel_rfl)) (by kernel_rfl) (by kernel_rfl) (by rintro _ _ ⟨_, ⟨_, ⟨_, ⟨_, ⟨_, _, _, _, rfl, rfl⟩, rfl⟩, rfl⟩, rfl⟩, rfl⟩; exact Nat.le_of_ble_eq_true (by kernel_rfl))) (Nat.le_of_ble_eq_true (by kernel_rfl)) (by kernel_rfl) (by kernel_rfl) (by rintro _ _ ⟨_, _, ⟨_, ⟨_, ⟨_, ⟨_, ⟨_, _, _, _, rfl, rfl⟩, rfl⟩, rfl⟩, rfl⟩, rfl⟩, rfl, rfl⟩; exact Nat.le_of_ble_eq_true (by kernel_rfl))) (by kernel_rfl) (by kernel_rfl) (by kernel_rfl) ?_
        rintro _ _ ⟨_, _, ⟨_, _, ⟨_, ⟨_, ⟨_, ⟨_, ⟨v_19, p1_20, h1_21, f22, rfl, rfl⟩, rfl⟩, rfl⟩, rfl⟩, rfl⟩, rfl, rfl⟩, rfl, rfl⟩
        refine R.go 7 (R.cond (v_19 = 0) (by kernel_rfl) (fun c23 => ?_) (fun c23 => ?_))
        · refine R.go 6 (R.cond (((L_11.getD ((v_15).toNat) []).length : Int) > 0) (by kernel_rfl) (fun c24 => ?_) (fun c24 => ?_))
          · refine R.meetF (α := Int × Nat × Int × Int × Nat × Int) (fun | (v_25, p1_26, h1_27, v_29, p1_30, h1_31) => ((((L_11.getD ((v_15).toNat) []).length) < 1 → v_25 = 0) ∧ (1 ≤ ((L_11.getD ((v_15).toNat) []).length) → 0 ≤ v_25 ∧ v_25 < ((L_11.getD ((v_15).toNat) []).length)))) (fun | (v_25, p1_26, h1_27, v_29, p1_30, h1_31) => (⟨(frm 78 [(0, .ptr 0 0), (2, .ptr 4 0), (3, .ptr 5 0), (4, .nil), (5, .ptr 6 0), (6, .ptr 7 0), (7, .ref 9), (8, LLI L_11), (10, .tup [.agg [AI n_1, LI xs_2], .agg [AI m_3, LI ys_4]]), (11, .ptr 0 0), (12, .tup [.agg [AI n_1, LI xs_2], .agg [AI m_3, LI ys_4]]), (13, .agg [AI n_1, LI xs_2]), (14, .agg [AI m_3, LI ys_4]), (15, LI []), (16, .agg [AI n_1, LI xs_2]), (17, .bool (okFr n_1 xs_2)), (18, .bool (okFr n_1 xs_2)), (19, .agg [AI m_3, LI ys_4]), (20, .bool (okFr m_3 ys_4)), (21, .bool (okFr m_3 ys_4)), (22, .agg [AI n_1, LI xs_2]), (23, .agg [AI m_3, LI ys_4]), (24, LLI L_11), (25, LLI L_11), (26, AI L_11.length), (27, .bool (decide ((L_11.length : Int) > 0))), (28, LLI L_11), (29, .ptr 0 0), (30, LLI L_11), (31, AI L_11.length), (32, AI v_15), (33, .rptr [LI (L_11.getD ((v_15).toNat) [])]), (34, LI (L_11.getD ((v_15).toNat) [])), (35, .ref 9), (50, .ptr 0 0), (51, AI v_19), (52, .bool (decide (v_19 = 0))), (53, .bool (decide (v_19 = 0))), (54, .ref 9), (55, AI ((L_11.getD ((v_15).toNat) []).length)), (56, .bool (decide (((L_11.getD ((v_15).toNat) []).length : Int) > 0))), (57, .ref 9), (58, .ptr 0 0), (59, .ref 9), (60, AI ((L_11.getD ((v_15).toNat) []).length)), (61, AI v_25), (62, .ptr 0 0), (63, .ptr 7 0), (64, AI m_3), (65, AI v_29), (66, .ptr 9 (((v_25).toNat) * 1))]), [.box 120 [LB c, AI (p1_30 : Int), .int .u64 h1_31], .list eo1 so1 no1 co1, .list eo2 so2 no2 co2, .frame usC frC, .box 26 [AI 0, .nil], .box 26 [AI 0, .nil], .box 26 [AI n_1, LI xs_2], .box 26 [AI m_3, LI ys_4], .frame [] [], rowA eI 2 1 ((L_11.getD ((v_15).toNat) []).set ((v_25).toNat) v_29)]⟩ : St)) (by kernel_rfl) ?_ ?_
            · refine R.any (by decide +kernel) (by kernel_rfl) ?_
              refine R.anyF 0 (by kernel_rfl) (np_meetF _ _) ?_
              refine R.anyF 1 (by kernel_rfl) (np_meetF _ _) ?_
              refine R.anyF 2 (by kernel_rfl) (np_meetF _ _) ?_
              refine R.anyF 5 (by kernel_rfl) (np_meetF _ _) ?_
              refine R.anyA 6 (.ptr 7 0) (by kernel_rfl) (np_meetF _ _) ?_
              refine R.any2 3 7 (by kernel_rfl) (by kernel_rfl) ?_ ?_
              · refine R.go 2 (R.any2 4 7 (by kernel_rfl) (by kernel_rfl) ?_ ?_)
                · refine R.callX (CallX.inF 3 usC frC (CallX.inF 7 [] [] (CallX.box 6 26 [AI m_3, LI ys_4] (CallX.box 5 26 [AI n_1, LI xs_2] (CallX.box 4 26 [AI 0, .nil] (CallX.box 3 26 [AI 0, .nil] (nextX_c_r7 c p1_20 h1_21 ((L_11.getD ((v_15).toNat) []).length) eo1 so1 no1 co1 eo2 so2 no2 co2 26 2 1 [AI 0, .nil] 26 2 1 [AI 0, .nil] 26 2 1 [AI n_1, LI xs_2] 26 2 1 [AI m_3, LI ys_4] 2 1 ((L_11.getD ((v_15).toNat) []).length) (rows eI (L_11.getD ((v_15).toNat) [])) hc) (by kernel_rfl) (by kernel_rfl) (by kernel_rfl) (by kernel_rfl) (by rintro _ _ ⟨_, _, _, _, rfl, rfl⟩; exact ⟨by kernel_rfl, by kernel_rfl, by kernel_rfl⟩)) (by kernel_rfl) (by kernel_rfl) (by kernel_rfl) (by kernel_rfl) (by rintro _ _ ⟨_, ⟨_, _, _, _, rfl, rfl⟩, rfl⟩; exact ⟨by kernel_rfl, by kernel_rfl, by kernel_rfl⟩)) (by kernel_rfl) (by kernel_rfl) (by kernel_rfl) (by kernel_rfl) (by rintro _ _ ⟨_, ⟨_, ⟨_, _, _, _, rfl, rfl⟩, rfl⟩, rfl⟩; exact ⟨by kernel_rfl, by kernel_rfl, by kernel_rfl⟩)) (by kernel_rfl) (by kernel_rfl) (by kernel_rfl) (by kernel_rfl) (by rintro _ _ ⟨_, ⟨_, ⟨_, ⟨_, _, _, _, rfl, rfl⟩, rfl⟩, rfl⟩, rfl⟩; exact ⟨by kernel_rfl, by kernel_rfl, by kernel_rfl⟩)) (Nat.le_of_ble_eq_true (by kernel_rfl)) (by kernel_rfl) (by kernel_rfl) (by rintro _ _ ⟨_, ⟨_, ⟨_, ⟨_, ⟨_, _, _, _, rfl, rfl⟩, rfl⟩, rfl⟩, rfl⟩, rfl⟩; exact Nat.le_of_ble_eq_true (by kernel_rfl))) (Nat.le_of_ble_eq_true (by kernel_rfl)) (by kernel_rfl) (by kernel_rfl) (by rintro _ _ ⟨_, _, ⟨_, ⟨_, ⟨_, ⟨_, ⟨_, _, _, _, rfl, rfl⟩, rfl⟩, rfl⟩, rfl⟩, rfl⟩, rfl, rfl⟩; exact Nat.le_of_ble_eq_true (by kernel_rfl))) (by kernel_rfl) (by kernel_rfl) (by kernel_rfl) ?_
                  rintro _ _ ⟨_, _, ⟨_, _, ⟨_, ⟨_, ⟨_, ⟨_, ⟨v_25, p1_26, h1_27, f28, rfl, rfl⟩, rfl⟩, rfl⟩, rfl⟩, rfl⟩, rfl, rfl⟩, rfl, rfl⟩
                  refine R.go 1 (R.any1 7 (by kernel_rfl) (by kernel_rfl) ?_)
                  refine R.go 2 (R.any1 8 (by kernel_rfl) (by kernel_rfl) ?_)
                  refine R.callX (CallX.inF 3 usC frC (CallX.inF 7 [] [] (CallX.box 6 26 [AI m_3, LI ys_4] (CallX.box 5 26 [AI n_1, LI xs_2] (CallX.box 4 26 [AI 0, .nil] (CallX.box 3 26 [AI 0, .nil] (numX_c_r7 c p1_26 h1_27 m_3 eo1 so1 no1 co1 eo2 so2 no2 co2 26 2 1 [AI 0, .nil] 26 2 1 [AI 0, .nil] 26 2 1 [AI n_1, LI xs_2] 26 2 1 [AI m_3, LI ys_4] 2 1 ((L_11.getD ((v_15).toNat) []).length) (rows eI (L_11.getD ((v_15).toNat) [])) hc) (by kernel_rfl) (by kernel_rfl) (by kernel_rfl) (by kernel_rfl) (by rintro _ _ ⟨_, _, _, rfl, rfl⟩; exact ⟨by kernel_rfl, by kernel_rfl, by kernel_rfl⟩)) (by kernel_rfl) (by kernel_rfl) (by kernel_rfl) (by kernel_rfl) (by rintro _ _ ⟨_, ⟨_, _, _, rfl, rfl⟩, rfl⟩; exact ⟨by kernel_rfl, by kernel_rfl, by kernel_rfl⟩)) (by kernel_rfl) (by kernel_rfl) (by kernel_rfl) (by kernel_rfl) (by rintro _ _ ⟨_, ⟨_, ⟨_, _, _, rfl, rfl⟩, rfl⟩, rfl⟩; exact ⟨by kernel_rfl, by kernel_rfl, by kernel_rfl⟩)) (by kernel_rfl) (by kernel_rfl) (by kernel_rfl) (by kernel_rfl) (by rintro _ _ ⟨_, ⟨_, ⟨_, ⟨_, _, _, rfl, rfl⟩, rfl⟩, rfl⟩, rfl⟩; exact ⟨by kernel_rfl, by kernel_rfl, by kernel_rfl⟩)) (Nat.le_of_ble_eq_true (by kernel_rfl)) (by kernel_rfl) (by kernel_rfl) (by rintro _ _ ⟨_, ⟨_, ⟨_, ⟨_, ⟨_, _, _, rfl, rfl⟩, rfl⟩, rfl⟩, rfl⟩, rfl⟩; exact Nat.le_of_ble_eq_true (by kernel_rfl))) (Nat.le_of_ble_eq_true (by kernel_rfl)) (by kernel_rfl) (by kernel_rfl) (by rintro _ _ ⟨_, _, ⟨_, ⟨_, ⟨_, ⟨_, ⟨_, _, _, rfl, rfl⟩, rfl⟩, rfl⟩, rfl⟩, rfl⟩, rfl, rfl⟩; exact Nat.le_of_ble_eq_true (by kernel_rfl))) (by kernel_rfl) (by kernel_rfl) (by kernel_rfl) ?_
                  rintro _ _ ⟨_, _, ⟨_, _, ⟨_, ⟨_, ⟨_, ⟨_, ⟨v_29, p1_30, h1_31, rfl, rfl⟩, rfl⟩, rfl⟩, rfl⟩, rfl⟩, rfl, rfl⟩, rfl, rfl⟩
                  refine R.go 1 (R.any1 9 (by kernel_rfl) (by kernel_rfl) ?_)
                  refine R.idxO 9 1 (L_11.getD ((v_15).toNat) []).length ((v_25).toNat) v_25 (by kernel_rfl) (by omega) (by first | omega | (simp <;> omega)) (by kernel_rfl) ?_
                  refine R.go 1 (R.any1 10 (by kernel_rfl) (by kernel_rfl) ?_)
                  refine R.stI 9 2 (L_11.getD ((v_15).toNat) []) ((v_25).toNat) v_29 (by kernel_rfl) (by first | omega | (simp <;> omega)) (by kernel_rfl) ?_
                  refine R.go 1 (R.any0 (by kernel_rfl) ?_)
                  exact R.metF (v_25, p1_26, h1_27, v_29, p1_30, h1_31) (by kernel_rfl) (by first | assumption | omega) (by kernel_rfl)
                · refine R.go 2 (R.any1 4 (by kernel_rfl) (by kernel_rfl) ?_)
                  refine R.callX (CallX.inF 3 usC frC (CallX.inF 7 [] [] (CallX.box 6 26 [AI m_3, LI ys_4] (CallX.box 5 26 [AI n_1, LI xs_2] (CallX.box 4 26 [AI 0, .nil] (CallX.box 3 26 [AI 0, .nil] (nextX_c_r7 c p1_20 h1_21 ((L_11.getD ((v_15).toNat) []).length) eo1 so1 no1 co1 eo2 so2 no2 co2 26 2 1 [AI 0, .nil] 26 2 1 [AI 0, .nil] 26 2 1 [AI n_1, LI xs_2] 26 2 1 [AI m_3, LI ys_4] 2 1 ((L_11.getD ((v_15).toNat) []).length) (rows eI (L_11.getD ((v_15).toNat) [])) hc) (by kernel_rfl) (by kernel_rfl) (by kernel_rfl) (by kernel_rfl) (by rintro _ _ ⟨_, _, _, _, rfl, rfl⟩; exact ⟨by kernel_rfl, by kernel_rfl, by kernel_rfl⟩)) (by kernel_rfl) (by kernel_rfl) (by kernel_rfl) (by kernel_rfl) (by rintro _ _ ⟨_, ⟨_, _, _, _, rfl, rfl⟩, rfl⟩; exact ⟨by kernel_rfl, by kernel_rfl, by kernel_rfl⟩)) (by kernel_rfl) (by kernel_rfl) (by kernel_rfl) (by kernel_rfl) (by rintro _ _ ⟨_, ⟨_, ⟨_, _, _, _, rfl, rfl⟩, rfl⟩, rfl⟩; exact ⟨by kernel_rfl, by kernel_rfl, by kernel_rfl⟩)) (by kernel_rfl) (by kernel_rfl) (by kernel_rfl) (by kernel_rfl) (by rintro _ _ ⟨_, ⟨_, ⟨_, ⟨_, _, _, _, rfl, rfl⟩, rfl⟩, rfl⟩, rfl⟩; exact ⟨by kernel_rfl, by kernel_rfl, by kernel_rfl⟩)) (Nat.le_of_ble_eq_true (by kernel_rfl)) (by kernel_rfl) (by kernel_rfl) (by rintro _ _ ⟨_, ⟨_, ⟨_, ⟨_, ⟨_, _, _, _, rfl, rfl⟩, rfl⟩, rfl⟩, rfl⟩, rfl⟩; exact Nat.le_of_ble_eq_true (by kernel_rfl))) (Nat.le_of_ble_eq_true (by kernel_rfl)) (by kernel_rfl) (by kernel_rfl) (by rintro _ _ ⟨_, _, ⟨_, ⟨_, ⟨_, ⟨_, ⟨_, _, _, _, rfl, rfl⟩, rfl⟩, rfl⟩, rfl⟩, rfl⟩, rfl, rfl⟩; exact Nat.le_of_ble_eq_true (by kernel_rfl))) (by kernel_rfl) (by kernel_rfl) (by kernel_rfl) ?_
                  rintro _ _ ⟨_, _, ⟨_, _, ⟨_, ⟨_, ⟨_, ⟨_, ⟨v_32, p1_33, h1_34, f35, rfl, rfl⟩, rfl⟩, rfl⟩, rfl⟩, rfl⟩, rfl, rfl⟩, rfl, rfl⟩
                  refine R.go 1 (R.any1 8 (by kernel_rfl) (by kernel_rfl) ?_)
                  refine R.callX (CallX.inF 3 usC frC (CallX.inF 7 [] [] (CallX.box 6 26 [AI m_3, LI ys_4] (CallX.box 5 26 [AI n_1, LI xs_2] (CallX.box 4 26 [AI 0, .nil] (CallX.box 3 26 [AI 0, .nil] (numX_c_r7 c p1_33 h1_34 m_3 eo1 so1 no1 co1 eo2 so2 no2 co2 26 2 1 [AI 0, .nil] 26 2 1 [AI 0, .nil] 26 2 1 [AI n_1, LI xs_2] 26 2 1 [AI m_3, LI ys_4] 2 1 ((L_11.getD ((v_15).toNat) []).length) (rows eI (L_11.getD ((v_15).toNat) [])) hc) (by kernel_rfl) (by kernel_rfl) (by kernel_rfl) (by kernel_rfl) (by rintro _ _ ⟨_, _, _, rfl, rfl⟩; exact ⟨by kernel_rfl, by kernel_rfl, by kernel_rfl⟩)) (by kernel_rfl) (by kernel_rfl) (by kernel_rfl) (by kernel_rfl) (by rintro _ _ ⟨_, ⟨_, _, _, rfl, rfl⟩, rfl⟩; exact ⟨by kernel_rfl, by kernel_rfl, by kernel_rfl⟩)) (by kernel_rfl) (by kernel_rfl) (by kernel_rfl) (by kernel_rfl) (by rintro _ _ ⟨_, ⟨_, ⟨_, _, _, rfl, rfl⟩, rfl⟩, rfl⟩; exact ⟨by kernel_rfl, by kernel_rfl, by kernel_rfl⟩)) (by kernel_rfl) (by kernel_rfl) (by kernel_rfl) (by kernel_rfl) (by rintro _ _ ⟨_, ⟨_, ⟨_, ⟨_, _, _, rfl, rfl⟩, rfl⟩, rfl⟩, rfl⟩; exact ⟨by kernel_rfl, by kernel_rfl, by kernel_rfl⟩)) (Nat.le_of_ble_eq_true (by kernel_rfl)) (by kernel_rfl) (by kernel_rfl) (by rintro _ _ ⟨_, ⟨_, ⟨_, ⟨_, ⟨_, _, _, rfl, rfl⟩, rfl⟩, rfl⟩, rfl⟩, rfl⟩; exact Nat.le_of_ble_eq_true (by kernel_rfl))) (Nat.le_of_ble_eq_true (by kernel_rfl)) (by kernel_rfl) (by kernel_rfl) (by rintro _ _ ⟨_, _, ⟨_, ⟨_, ⟨_, ⟨_, ⟨_, _, _, rfl, rfl⟩, rfl⟩, rfl⟩, rfl⟩, rfl⟩, rfl, rfl⟩; exact Nat.le_of_ble_eq_true (by kernel_rfl))) (by kernel_rfl) (by kernel_rfl) (by kernel_rfl) ?_
                  rintro _ _ ⟨_, _, ⟨_, _, ⟨_, ⟨_, ⟨_, ⟨_, ⟨v_36, p1_37, h1_38, rfl, rfl⟩, rfl⟩, rfl⟩, rfl⟩, rfl⟩, rfl, rfl⟩, rfl, rfl⟩
                  refine R.go 1 (R.any1 9 (by kernel_rfl) (by kernel_rfl) ?_)
                  refine R.idxO 9 1 (L_11.getD ((v_15).toNat) []).length ((v_32).toNat) v_32 (by kernel_rfl) (by omega) (by first | omega | (simp <;> omega)) (by kernel_rfl) ?_
                  refine R.go 1 (R.any1 10 (by kernel_rfl) (by kernel_rfl) ?_)
                  refine R.stI 9 2 (L_11.getD ((v_15).toNat) []) ((v_32).toNat) v_36 (by kernel_rfl) (by first | omega | (simp <;> omega)) (by kernel_rfl) ?_
                  refine R.go 1 (R.any0 (by kernel_rfl) ?_)
                  exact R.metF (v_32, p1_33, h1_34, v_36, p1_37, h1_38) (by kernel_rfl) (by first | assumption | omega) (by kernel_rfl)
              · refine R.go 2 (R.any1 3 (by kernel_rfl) (by kernel_rfl) ?_)
                refine R.go 2 (R.any1 4 (by kernel_rfl) (by kernel_rfl) ?_)
                refine R.callX (CallX.inF 3 usC frC (CallX.inF 7 [] [] (CallX.box 6 26 [AI m_3, LI ys_4] (CallX.box 5 26 [AI n_1, LI xs_2] (CallX.box 4 26 [AI 0, .nil] (CallX.box 3 26 [AI 0, .nil] (nextX_c_r7 c p1_20 h1_21 ((L_11.getD ((v_15).toNat) []).length) eo1 so1 no1 co1 eo2 so2 no2 co2 26 2 1 [AI 0, .nil] 26 2 1 [AI 0, .nil] 26 2 1 [AI n_1, LI xs_2] 26 2 1 [AI m_3, LI ys_4] 2 1 ((L_11.getD ((v_15).toNat) []).length) (rows eI (L_11.getD ((v_15).toNat) [])) hc) (by kernel_rfl) (by kernel_rfl) (by kernel_rfl) (by kernel_rfl) (by rintro _ _ ⟨_, _, _, _, rfl, rfl⟩; exact ⟨by kernel_rfl, by kernel_rfl, by kernel_rfl⟩)) (by kernel_rfl) (by kernel_rfl) (by kernel_rfl) (by kernel_rfl) (by rintro _ _ ⟨_, ⟨_, _, _, _, rfl, rfl⟩, rfl⟩; exact ⟨by kernel_rfl, by kernel_rfl, by kernel_rfl⟩)) (by kernel_rfl) (by kernel_rfl) (by kernel_rfl) (by kernel_rfl) (by rintro _ _ ⟨_, ⟨_, ⟨_, _, _, _, rfl, rfl⟩, rfl⟩, rfl⟩; exact ⟨by kernel_rfl, by kernel_rfl, by kernel_rfl⟩)) (by kernel_rfl) (by kernel_rfl) (by kernel_rfl) (by kernel_rfl) (by rintro _ _ ⟨_, ⟨_, ⟨_, ⟨_, _, _, _, rfl, rfl⟩, rfl⟩, rfl⟩, rfl⟩; exact ⟨by kernel_rfl, by kernel_rfl, by kernel_rfl⟩)) (Nat.le_of_ble_eq_true (by kernel_rfl)) (by kernel_rfl) (by kernel_rfl) (by rintro _ _ ⟨_, ⟨_, ⟨_, ⟨_, ⟨_, _, _, _, rfl, rfl⟩, rfl⟩, rfl⟩, rfl⟩, rfl⟩; exact Nat.le_of_ble_eq_true (by kernel_rfl))) (Nat.le_of_ble_eq_true (by kernel_rfl)) (by kernel_rfl) (by kernel_rfl) (by rintro _ _ ⟨_, _, ⟨_, ⟨_, ⟨_, ⟨_, ⟨_, _, _, _, rfl, rfl⟩, rfl⟩, rfl⟩, rfl⟩, rfl⟩, rfl, rfl⟩; exact Nat.le_of_ble_eq_true (by kernel_rfl))) (by kernel_rfl) (by kernel_rfl) (by kernel_rfl) ?_
                rintro _ _ ⟨_, _, ⟨_, _, ⟨_, ⟨_, ⟨_, ⟨_, ⟨v_39, p1_40, h1_41, f42, rfl, rfl⟩, rfl⟩, rfl⟩, rfl⟩, rfl⟩, rfl, rfl⟩, rfl, rfl⟩
                refine R.go 1 (R.any1 8 (by kernel_rfl) (by kernel_rfl) ?_)
                refine R.callX (CallX.inF 3 usC frC (CallX.inF 7 [] [] (CallX.box 6 26 [AI m_3, LI ys_4] (CallX.box 5 26 [AI n_1, LI xs_2] (CallX.box 4 26 [AI 0, .nil] (CallX.box 3 26 [AI 0, .nil] (numX_c_r7 c p1_40 h1_41 m_3 eo1 so1 no1 co1 eo2 so2 no2 co2 26 2 1 [AI 0, .nil] 26 2 1 [AI 0, .nil] 26 2 1 [AI n_1, LI xs_2] 26 2 1 [AI m_3, LI ys_4] 2 1 ((L_11.getD ((v_15).toNat) []).length) (rows eI (L_11.getD ((v_15).toNat) [])) hc) (by kernel_rfl) (by kernel_rfl) (by kernel_rfl) (by kernel_rfl) (by rintro _ _ ⟨_, _, _, rfl, rfl⟩; exact ⟨by kernel_rfl, by kernel_rfl, by kernel_rfl⟩)) (by kernel_rfl) (by kernel_rfl) (by kernel_rfl) (by kernel_rfl) (by rintro _ _ ⟨_, ⟨_, _, _, rfl, rfl⟩, rfl⟩; exact ⟨by kernel_rfl, by kernel_rfl, by kernel_rfl⟩)) (by kernel_rfl) (by kernel_rfl) (by kernel_rfl) (by kernel_rfl) (by rintro _ _ ⟨_, ⟨_, ⟨_, _, _, rfl, rfl⟩, rfl⟩, rfl⟩; exact ⟨by kernel_rfl, by kernel_rfl, by kernel_rfl⟩)) (by kernel_rfl) (by kernel_rfl) (by kernel_rfl) (by kernel_rfl) (by rintro _ _ ⟨_, ⟨_, ⟨_, ⟨_, _, _, rfl, rfl⟩, rfl⟩, rfl⟩, rfl⟩; exact ⟨by kernel_rfl, by kernel_rfl, by kernel_rfl⟩)) (Nat.le_of_ble_eq_true (by kernel_rfl)) (by kernel_rfl) (by kernel_rfl) (by rintro _ _ ⟨_, ⟨_, ⟨_, ⟨_, ⟨_, _, _, rfl, rfl⟩, rfl⟩, rfl⟩, rfl⟩, rfl⟩; exact Nat.le_of_ble_eq_true (by kernel_rfl))) (Nat.le_of_ble_eq_true (by kernel_rfl)) (by kernel_rfl) (by kernel_rfl) (by rintro _ _ ⟨_, _, ⟨_, ⟨_, ⟨_, ⟨_, ⟨_, _, _, rfl, rfl⟩, rfl⟩, rfl⟩, rfl⟩, rfl⟩, rfl, rfl⟩; exact Nat.le_of_ble_eq_true (by kernel_rfl))) (by kernel_rfl) (by kernel_rfl) (by kernel_rfl) ?_
                rintro _ _ ⟨_, _, ⟨_, _, ⟨_, ⟨_, ⟨_, ⟨_, ⟨v_43, p1_44, h1_45, rfl, rfl⟩, rfl⟩, rfl⟩, rfl⟩, rfl⟩, rfl, rfl⟩, rfl, rfl⟩
                refine R.go 1 (R.any1 9 (by kernel_rfl) (by kernel_rfl) ?_)
                refine R.idxO 9 1 (L_11.getD ((v_15).toNat) []).length ((v_39).toNat) v_39 (by kernel_rfl) (by omega) (by first | omega | (simp <;> omega)) (by kernel_rfl) ?_
                refine R.go 1 (R.any1 10 (by kernel_rfl) (by kernel_rfl) ?_)
                refine R.stI 9 2 (L_11.getD ((v_15).toNat) []) ((v_39).toNat) v_43 (by kernel_rfl) (by first | omega | (simp <;> omega)) (by kernel_rfl) ?_
                refine R.go 1 (R.any0 (by kernel_rfl) ?_)
                exact R.metF (v_39, p1_40, h1_41, v_43, p1_44, h1_45) (by kernel_rfl) (by first | assumption | omega) (by kernel_rfl)
            · rintro ⟨v_25, p1_26, h1_27, v_29, p1_30, h1_31⟩ f28
              refine R.go 2 (R.meet (⟨(frm 78 [(0, .ptr 0 0), (2, .ptr 4 0), (3, .ptr 5 0), (4, .ref 9), (5, .ptr 6 0), (6, .ptr 7 0), (7, .ref 9), (8, LLI L_11), (10, .tup [.agg [AI n_1, LI xs_2], .agg [AI m_3, LI ys_4]]), (11, .ptr 0 0), (12, .tup [.agg [AI n_1, LI xs_2], .agg [AI m_3, LI ys_4]]), (13, .agg [AI n_1, LI xs_2]), (14, .agg [AI m_3, LI ys_4]), (15, LI []), (16, .agg [AI n_1, LI xs_2]), (17, .bool (okFr n_1 xs_2)), (18, .bool (okFr n_1 xs_2)), (19, .agg [AI m_3, LI ys_4]), (20, .bool (okFr m_3 ys_4)), (21, .bool (okFr m_3 ys_4)), (22, .agg [AI n_1, LI xs_2]), (23, .agg [AI m_3, LI ys_4]), (24, LLI L_11), (25, LLI L_11), (26, AI L_11.length), (27, .bool (decide ((L_11.length : Int) > 0))), (28, LLI L_11), (29, .ptr 0 0), (30, LLI L_11), (31, AI L_11.length), (32, AI v_15), (33, .rptr [LI (L_11.getD ((v_15).toNat) [])]), (34, LI (L_11.getD ((v_15).toNat) [])), (35, .ref 9), (50, .ptr 0 0), (51, AI v_19), (52, .bool (decide (v_19 = 0))), (53, .bool (decide (v_19 = 0))), (54, .ref 9), (55, AI ((L_11.getD ((v_15).toNat) []).length)), (56, .bool (decide (((L_11.getD ((v_15).toNat) []).length : Int) > 0))), (57, .ref 9), (58, .ptr 0 0), (59, .ref 9), (60, AI ((L_11.getD ((v_15).toNat) []).length)), (61, AI v_25), (62, .ptr 0 0), (63, .ptr 7 0), (64, AI m_3), (65, AI v_29), (66, .ptr 9 (((v_25).toNat) * 1)), (75, .agg [AI n_1, LI xs_2]), (76, .agg [AI m_3, LI ys_4]), (77, .ref 9)]), [.box 120 [LB c, AI (p1_30 : Int), .int .u64 h1_31], .list eo1 so1 no1 co1, .list eo2 so2 no2 co2, .frame usC frC, .box 26 [AI n_1, LI xs_2], .box 26 [AI m_3, LI ys_4], .box 26 [AI n_1, LI xs_2], .box 26 [AI m_3, LI ys_4], .frame [] [], rowA eI 2 1 ((L_11.getD ((v_15).toNat) []).set ((v_25).toNat) v_29)]⟩ : St) (by kernel_rfl) ?_ ?_)
              · refine R.any (by decide +kernel) (by kernel_rfl) ?_
                refine R.anyF 2 (by kernel_rfl) (np_meet _) ?_
                refine R.any2 0 1 (by kernel_rfl) (by kernel_rfl) ?_ ?_
                · refine R.go 2 (R.any2 1 3 (by kernel_rfl) (by kernel_rfl) ?_ ?_)
                  · refine R.go 2 (R.any1 3 (by kernel_rfl) (by kernel_rfl) ?_)
                    refine R.go 2 (R.any1 4 (by kernel_rfl) (by kernel_rfl) ?_)
                    refine R.go 2 (R.any1 5 (by kernel_rfl) (by kernel_rfl) ?_)
                    refine R.go 2 (R.any0 (by kernel_rfl) ?_)
                    exact R.met (by kernel_rfl) (by kernel_rfl)
                  · refine R.go 2 (R.any1 1 (by kernel_rfl) (by kernel_rfl) ?_)
                    refine R.go 2 (R.any1 4 (by kernel_rfl) (by kernel_rfl) ?_)
                    refine R.go 2 (R.any1 5 (by kernel_rfl) (by kernel_rfl) ?_)
                    refine R.go 2 (R.any0 (by kernel_rfl) ?_)
                    exact R.met (by kernel_rfl) (by kernel_rfl)
                · refine R.go 2 (R.any1 0 (by kernel_rfl) (by kernel_rfl) ?_)
                  refine R.go 2 (R.any1 3 (by kernel_rfl) (by kernel_rfl) ?_)
                  refine R.go 2 (R.any1 4 (by kernel_rfl) (by kernel_rfl) ?_)
                  refine R.go 2 (R.any1 5 (by kernel_rfl) (by kernel_rfl) ?_)
                  refine R.go 2 (R.any0 (by kernel_rfl) ?_)
                  exact R.met (by kernel_rfl) (by kernel_rfl)
              · refine R.frz 9 (by kernel_rfl) ?_
                refine R.kfix 3 (us := usC) (by kernel_rfl) (hfC.frz 9 (LI ((L_11.getD ((v_15).toNat) []).set ((v_25).toNat) v_29)) (Nat.le_of_ble_eq_true (by kernel_rfl))) ?_
                exact R.retX (res := .tup [.agg [AI n_1, LI xs_2], .agg [AI m_3, LI ys_4], LI ((L_11.getD ((v_15).toNat) []).set ((v_25).toNat) v_29)]) (hp' := [.box 120 [LB c, AI (p1_30 : Int), .int .u64 h1_31], .list eo1 so1 no1 co1, .list eo2 so2 no2 co2, .dead, .box 26 [AI n_1, LI xs_2], .box 26 [AI m_3, LI ys_4], .box 26 [AI n_1, LI xs_2], .box 26 [AI m_3, LI ys_4], .frame [] [], .dead]) (by kernel_rfl) (by kernel_rfl) (by kernel_rfl) (by kernel_rfl) ⟨[0, 1, 2], by kernel_rfl, by decide, n_1, xs_2, m_3, ys_4, (L_11.getD ((v_15).toNat) []).set ((v_25).toNat) v_29, p1_30, h1_31, by first | assumption | omega | (simp only [List.length_set, List.length_append, List.length_singleton]; omega), by first | assumption | omega | (simp only [List.length_set, List.length_append, List.length_singleton]; omega), by first | assumption | omega | (simp only [List.length_set, List.length_append, List.length_singleton]; omega), by kernel_rfl, by kernel_rfl⟩
          · refine R.go 3 (R.meet (⟨(frm 78 [(0, .ptr 0 0), (2, .ptr 4 0), (3, .ptr 5 0), (4, .ref 9), (5, .ptr 6 0), (6, .ptr 7 0), (7, .ref 9), (8, LLI L_11), (10, .tup [.agg [AI n_1, LI xs_2], .agg [AI m_3, LI ys_4]]), (11, .ptr 0 0), (12, .tup [.agg [AI n_1, LI xs_2], .agg [AI m_3, LI ys_4]]), (13, .agg [AI n_1, LI xs_2]), (14, .agg [AI m_3, LI ys_4]), (15, LI []), (16, .agg [AI n_1, LI xs_2]), (17, .bool (okFr n_1 xs_2)), (18, .bool (okFr n_1 xs_2)), (19, .agg [AI m_3, LI ys_4]), (20, .bool (okFr m_3 ys_4)), (21, .bool (okFr m_3 ys_4)), (22, .agg [AI n_1, LI xs_2]), (23, .agg [AI m_3, LI ys_4]), (24, LLI L_11), (25, LLI L_11), (26, AI L_11.length), (27, .bool (decide ((L_11.length : Int) > 0))), (28, LLI L_11), (29, .ptr 0 0), (30, LLI L_11), (31, AI L_11.length), (32, AI v_15), (33, .rptr [LI (L_11.getD ((v_15).toNat) [])]), (34, LI (L_11.getD ((v_15).toNat) [])), (35, .ref 9), (50, .ptr 0 0), (51, AI v_19), (52, .bool (decide (v_19 = 0))), (53, .bool (decide (v_19 = 0))), (54, .ref 9), (55, AI ((L_11.getD ((v_15).toNat) []).length)), (56, .bool (decide (((L_11.getD ((v_15).toNat) []).length : Int) > 0))), (75, .agg [AI n_1, LI xs_2]), (76, .agg [AI m_3, LI ys_4]), (77, .ref 9)]), [.box 120 [LB c, AI (p1_20 : Int), .int .u64 h1_21], .list eo1 so1 no1 co1, .list eo2 so2 no2 co2, .frame usC frC, .box 26 [AI n_1, LI xs_2], .box 26 [AI m_3, LI ys_4], .box 26 [AI n_1, LI xs_2], .box 26 [AI m_3, LI ys_4], .frame [] [], rowA eI 2 1 (L_11.getD ((v_15).toNat) [])]⟩ : St) (by kernel_rfl) ?_ ?_)
            · refine R.any (by decide +kernel) (by kernel_rfl) ?_
              refine R.anyF 2 (by kernel_rfl) (np_meet _) ?_
              refine R.any2 0 1 (by kernel_rfl) (by kernel_rfl) ?_ ?_
              · refine R.go 2 (R.any2 1 3 (by kernel_rfl) (by kernel_rfl) ?_ ?_)
                · refine R.go 2 (R.any1 3 (by kernel_rfl) (by kernel_rfl) ?_)
                  refine R.go 2 (R.any1 4 (by kernel_rfl) (by kernel_rfl) ?_)
                  refine R.go 2 (R.any1 5 (by kernel_rfl) (by kernel_rfl) ?_)
                  refine R.go 2 (R.any0 (by kernel_rfl) ?_)
                  exact R.met (by kernel_rfl) (by kernel_rfl)
                · refine R.go 2 (R.any1 1 (by kernel_rfl) (by kernel_rfl) ?_)
                  refine R.go 2 (R.any1 4 (by kernel_rfl) (by kernel_rfl) ?_)
                  refine R.go 2 (R.any1 5 (by kernel_rfl) (by kernel_rfl) ?_)
                  refine R.go 2 (R.any0 (by kernel_rfl) ?_)
                  exact R.met (by kernel_rfl) (by kernel_rfl)
              · refine R.go 2 (R.any1 0 (by kernel_rfl) (by kernel_rfl) ?_)
                refine R.go 2 (R.any1 3 (by kernel_rfl) (by kernel_rfl) ?_)
                refine R.go 2 (R.any1 4 (by kernel_rfl) (by kernel_rfl) ?_)
                refine R.go 2 (R.any1 5 (by kernel_rfl) (by kernel_rfl) ?_)
                refine R.go 2 (R.any0 (by kernel_rfl) ?_)
                exact R.met (by kernel_rfl) (by kernel_rfl)
            · refine R.frz 9 (by kernel_rfl) ?_
              refine R.kfix 3 (us := usC) (by kernel_rfl) (hfC.frz 9 (LI (L_11.getD ((v_15).toNat) [])) (Nat.le_of_ble_eq_true (by kernel_rfl))) ?_
              exact R.retX (res := .tup [.agg [AI n_1, LI xs_2], .agg [AI m_3, LI ys_4], LI (L_11.getD ((v_15).toNat) [])]) (hp' := [.box 120 [LB c, AI (p1_20 : Int), .int .u64 h1_21], .list eo1 so1 no1 co1, .list eo2 so2 no2 co2, .dead, .box 26 [AI n_1, LI xs_2], .box 26 [AI m_3, LI ys_4], .box 26 [AI n_1, LI xs_2], .box 26 [AI m_3, LI ys_4], .frame [] [], .dead]) (by kernel_rfl) (by kernel_rfl) (by kernel_rfl) (by kernel_rfl) ⟨[0, 1, 2], by kernel_rfl, by decide, n_1, xs_2, m_3, ys_4, L_11.getD ((v_15).toNat) [], p1_20, h1_21, by first | assumption | omega | (simp only [List.length_set, List.length_append, List.length_singleton]; omega), by first | assumption | omega | (simp only [List.length_set, List.length_append, List.length_singleton]; omega), by first | assumption | omega | (simp only [List.length_set, List.length_append, List.length_singleton]; omega), by kernel_rfl, by kernel_rfl⟩
        · refine R.go 5 (R.cond (v_19 = 1) (by kernel_rfl) (fun c46 => ?_) (fun c46 => ?_))
          · refine R.go 3 (R.callX (CallX.inF 3 usC frC (CallX.inF 7 [] [] (CallX.box 6 26 [AI m_3, LI ys_4] (CallX.box 5 26 [AI n_1, LI xs_2] (CallX.box 4 26 [AI 0, .nil] (CallX.box 3 26 [AI 0, .nil] (nextX_c_r7 c p1_20 h1_21 4 eo1 so1 no1 co1 eo2 so2 no2 co2 26 2 1 [AI 0, .nil] 26 2 1 [AI 0, .nil] 26 2 1 [AI n_1, LI xs_2] 26 2 1 [AI m_3, LI ys_4] 2 1 ((L_11.getD ((v_15).toNat) []).length) (rows eI (L_11.getD ((v_15).toNat) [])) hc) (by kernel_rfl) (by kernel_rfl) (by kernel_rfl) (by kernel_rfl) (by rintro _ _ ⟨_, _, _, _, rfl, rfl⟩; exact ⟨by kernel_rfl, by kernel_rfl, by kernel_rfl⟩)) (by kernel_rfl) (by kernel_rfl) (by kernel_rfl) (by kernel_rfl) (by rintro _ _ ⟨_, ⟨_, _, _, _, rfl, rfl⟩, rfl⟩; exact ⟨by kernel_rfl, by kernel_rfl, by kernel_rfl⟩)) (by kernel_rfl) (by kernel_rfl) (by kernel_rfl) (by kernel_rfl) (by rintro _ _ ⟨_, ⟨_, ⟨_, _, _, _, rfl, rfl⟩, rfl⟩, rfl⟩; exact ⟨by kernel_rfl, by kernel_rfl, by kernel_rfl⟩)) (by kernel_rfl) (by kernel_rfl) (by kernel_rfl) (by kernel_rfl) (by rintro _ _ ⟨_, ⟨_, ⟨_, ⟨_, _, _, _, rfl, rfl⟩, rfl⟩, rfl⟩, rfl⟩; exact ⟨by kernel_rfl, by kernel_rfl, by kernel_rfl⟩)) (Nat.le_of_ble_eq_true (by kernel_rfl)) (by kernel_rfl) (by kernel_rfl) (by rintro _ _ ⟨_, ⟨_, ⟨_, ⟨_, ⟨_, _, _, _, rfl, rfl⟩, rfl⟩, rfl⟩, rfl⟩, rfl⟩; exact Nat.le_of_ble_eq_true (by kernel_rfl))) (Nat.le_of_ble_eq_true (by kernel_rfl)) (by kernel_rfl) (by kernel_rfl) (by rintro _ _ ⟨_, _, ⟨_, ⟨_, ⟨_, ⟨_, ⟨_, _, _, _, rfl, rfl⟩, rfl⟩, rfl⟩, rfl⟩, rfl⟩, rfl, rfl⟩; exact Nat.le_of_ble_eq_true (by kernel_rfl))) (by kernel_rfl) (by kernel_rfl) (by kernel_rfl) ?_)
            rintro _ _ ⟨_, _, ⟨_, _, ⟨_, ⟨_, ⟨_, ⟨_, ⟨v_47, p1_48, h1_49, f50, rfl, rfl⟩, rfl⟩, rfl⟩, rfl⟩, rfl⟩, rfl, rfl⟩, rfl, rfl⟩
            refine R.go 2 (R.cond (v_47 = 0) (by kernel_rfl) (fun c51 => ?_) (fun c51 => ?_))
            · refine R.go 3 (R.app eI (L_11.getD ((v_15).toNat) []) [0] 9 2 1 8 (by kernel_rfl) eI_one (by decide) (by first | omega | (simp only [List.length_append, List.length_cons, List.length_nil]; omega)) (by kernel_rfl) ?_)
              refine R.kfix 3 (us := usC) (by kernel_rfl) (hfC.kill 9 (Nat.le_of_ble_eq_true (by kernel_rfl))) ?_
              refine R.go 4 (R.meet (⟨(frm 78 [(0, .ptr 0 0), (2, .ptr 4 0), (3, .ptr 5 0), (4, .ref 9), (5, .ptr 6 0), (6, .ptr 7 0), (7, .ref 9), (8, LLI L_11), (10, .tup [.agg [AI n_1, LI xs_2], .agg [AI m_3, LI ys_4]]), (11, .ptr 0 0), (12, .tup [.agg [AI n_1, LI xs_2], .agg [AI m_3, LI ys_4]]), (13, .agg [AI n_1, LI xs_2]), (14, .agg [AI m_3, LI ys_4]), (15, LI []), (16, .agg [AI n_1, LI xs_2]), (17, .bool (okFr n_1 xs_2)), (18, .bool (okFr n_1 xs_2)), (19, .agg [AI m_3, LI ys_4]), (20, .bool (okFr m_3 ys_4)), (21, .bool (okFr m_3 ys_4)), (22, .agg [AI n_1, LI xs_2]), (23, .agg [AI m_3, LI ys_4]), (24, LLI L_11), (25, LLI L_11), (26, AI L_11.length), (27, .bool (decide ((L_11.length : Int) > 0))), (28, LLI L_11), (29, .ptr 0 0), (30, LLI L_11), (31, AI L_11.length), (32, AI v_15), (33, .rptr [LI (L_11.getD ((v_15).toNat) [])]), (34, LI (L_11.getD ((v_15).toNat) [])), (50, .ptr 0 0), (51, AI v_19), (52, .bool (decide (v_19 = 0))), (53, .bool (decide (v_19 = 0))), (67, .bool (decide (v_19 = 1))), (68, .bool (decide (v_19 = 1))), (69, .ptr 0 0), (70, AI v_47), (71, .bool (decide (v_47 = 0))), (73, .ref 10), (74, .ref 9), (75, .agg [AI n_1, LI xs_2]), (76, .agg [AI m_3, LI ys_4]), (77, .ref 9)]), [.box 120 [LB c, AI (p1_48 : Int), .int .u64 h1_49], .list eo1 so1 no1 co1, .list eo2 so2 no2 co2, .frame usC frC, .box 26 [AI n_1, LI xs_2], .box 26 [AI m_3, LI ys_4], .box 26 [AI n_1, LI xs_2], .box 26 [AI m_3, LI ys_4], .frame [] [], rowA eI 2 1 ((L_11.getD ((v_15).toNat) []) ++ [0]), rowA eI 2 1 [0]]⟩ : St) (by kernel_rfl) ?_ ?_)
              · refine R.any (by decide +kernel) (by kernel_rfl) ?_
                refine R.anyF 2 (by kernel_rfl) (np_meet _) ?_
                refine R.any2 0 1 (by kernel_rfl) (by kernel_rfl) ?_ ?_
                · refine R.go 2 (R.any2 1 3 (by kernel_rfl) (by kernel_rfl) ?_ ?_)
                  · refine R.go 2 (R.any1 3 (by kernel_rfl) (by kernel_rfl) ?_)
                    refine R.go 2 (R.any1 4 (by kernel_rfl) (by kernel_rfl) ?_)
                    refine R.go 2 (R.any1 5 (by kernel_rfl) (by kernel_rfl) ?_)
                    refine R.go 2 (R.any0 (by kernel_rfl) ?_)
                    exact R.met (by kernel_rfl) (by kernel_rfl)
                  · refine R.go 2 (R.any1 1 (by kernel_rfl) (by kernel_rfl) ?_)
                    refine R.go 2 (R.any1 4 (by kernel_rfl) (by kernel_rfl) ?_)
                    refine R.go 2 (R.any1 5 (by kernel_rfl) (by kernel_rfl) ?_)
                    refine R.go 2 (R.any0 (by kernel_rfl) ?_)
                    exact R.met (by kernel_rfl) (by kernel_rfl)
                · refine R.go 2 (R.any1 0 (by kernel_rfl) (by kernel_rfl) ?_)
                  refine R.go 2 (R.any1 3 (by kernel_rfl) (by kernel_rfl) ?_)
                  refine R.go 2 (R.any1 4 (by kernel_rfl) (by kernel_rfl) ?_)
                  refine R.go 2 (R.any1 5 (by kernel_rfl) (by kernel_rfl) ?_)
                  refine R.go 2 (R.any0 (by kernel_rfl) ?_)
                  exact R.met (by kernel_rfl) (by kernel_rfl)
              · refine R.frz 9 (by kernel_rfl) ?_
                refine R.kfix 3 (us := usC) (by kernel_rfl) (hfC.frz 9 (LI ((L_11.getD ((v_15).toNat) []) ++ [0])) (Nat.le_of_ble_eq_true (by kernel_rfl))) ?_
                exact R.retX (res := .tup [.agg [AI n_1, LI xs_2], .agg [AI m_3, LI ys_4], LI ((L_11.getD ((v_15).toNat) []) ++ [0])]) (hp' := [.box 120 [LB c, AI (p1_48 : Int), .int .u64 h1_49], .list eo1 so1 no1 co1, .list eo2 so2 no2 co2, .dead, .box 26 [AI n_1, LI xs_2], .box 26 [AI m_3, LI ys_4], .box 26 [AI n_1, LI xs_2], .box 26 [AI m_3, LI ys_4], .frame [] [], .dead, rowA eI 2 1 [0]]) (by kernel_rfl) (by kernel_rfl) (by kernel_rfl) (by kernel_rfl) ⟨[0, 1, 2], by kernel_rfl, by decide, n_1, xs_2, m_3, ys_4, (L_11.getD ((v_15).toNat) []) ++ [0], p1_48, h1_49, by first | assumption | omega | (simp only [List.length_set, List.length_append, List.length_singleton]; omega), by first | assumption | omega | (simp only [List.length_set, List.length_append, List.length_singleton]; omega), by first | assumption | omega | (simp only [List.length_set, List.length_append, List.length_singleton]; omega), by kernel_rfl, by kernel_rfl⟩
            · refine R.go 3 (R.meet (⟨(frm 78 [(0, .ptr 0 0), (2, .ptr 4 0), (3, .ptr 5 0), (4, .ref 9), (5, .ptr 6 0), (6, .ptr 7 0), (7, .ref 9), (8, LLI L_11), (10, .tup [.agg [AI n_1, LI xs_2], .agg [AI m_3, LI ys_4]]), (11, .ptr 0 0), (12, .tup [.agg [AI n_1, LI xs_2], .agg [AI m_3, LI ys_4]]), (13, .agg [AI n_1, LI xs_2]), (14, .agg [AI m_3, LI ys_4]), (15, LI []), (16, .agg [AI n_1, LI xs_2]), (17, .bool (okFr n_1 xs_2)), (18, .bool (okFr n_1 xs_2)), (19, .agg [AI m_3, LI ys_4]), (20, .bool (okFr m_3 ys_4)), (21, .bool (okFr m_3 ys_4)), (22, .agg [AI n_1, LI xs_2]), (23, .agg [AI m_3, LI ys_4]), (24, LLI L_11), (25, LLI L_11), (26, AI L_11.length), (27, .bool (decide ((L_11.length : Int) > 0))), (28, LLI L_11), (29, .ptr 0 0), (30, LLI L_11), (31, AI L_11.length), (32, AI v_15), (33, .rptr [LI (L_11.getD ((v_15).toNat) [])]), (34, LI (L_11.getD ((v_15).toNat) [])), (35, .ref 9), (50, .ptr 0 0), (51, AI v_19), (52, .bool (decide (v_19 = 0))), (53, .bool (decide (v_19 = 0))), (67, .bool (decide (v_19 = 1))), (68, .bool (decide (v_19 = 1))), (69, .ptr 0 0), (70, AI v_47), (71, .bool (decide (v_47 = 0))), (75, .agg [AI n_1, LI xs_2]), (76, .agg [AI m_3, LI ys_4]), (77, .ref 9)]), [.box 120 [LB c, AI (p1_48 : Int), .int .u64 h1_49], .list eo1 so1 no1 co1, .list eo2 so2 no2 co2, .frame usC frC, .box 26 [AI n_1, LI xs_2], .box 26 [AI m_3, LI ys_4], .box 26 [AI n_1, LI xs_2], .box 26 [AI m_3, LI ys_4], .frame [] [], rowA eI 2 1 (L_11.getD ((v_15).toNat) [])]⟩ : St) (by kernel_rfl) ?_ ?_)
              · refine R.any (by decide +kernel) (by kernel_rfl) ?_
                refine R.anyF 2 (by kernel_rfl) (np_meet _) ?_
                refine R.any2 0 1 (by kernel_rfl) (by kernel_rfl) ?_ ?_
                · refine R.go 2 (R.any2 1 3 (by kernel_rfl) (by kernel_rfl) ?_ ?_)
                  · refine R.go 2 (R.any1 3 (by kernel_rfl) (by kernel_rfl) ?_)
                    refine R.go 2 (R.any1 4 (by kernel_rfl) (by kernel_rfl) ?_)
                    refine R.go 2 (R.any1 5 (by kernel_rfl) (by kernel_rfl) ?_)
                    refine R.go 2 (R.any0 (by kernel_rfl) ?_)
                    exact R.met (by kernel_rfl) (by kernel_rfl)
                  · refine R.go 2 (R.any1 1 (by kernel_rfl) (by kernel_rfl) ?_)
                    refine R.go 2 (R.any1 4 (by kernel_rfl) (by kernel_rfl) ?_)
                    refine R.go 2 (R.any1 5 (by kernel_rfl) (by kernel_rfl) ?_)
                    refine R.go 2 (R.any0 (by kernel_rfl) ?_)
                    exact R.met (by kernel_rfl) (by kernel_rfl)
                · refine R.go 2 (R.any1 0 (by kernel_rfl) (by kernel_rfl) ?_)
                  refine R.go 2 (R.any1 3 (by kernel_rfl) (by kernel_rfl) ?_)
                  refine R.go 2 (R.any1 4 (by kernel_rfl) (by kernel_rfl) ?_)
                  refine R.go 2 (R.any1 5 (by kernel_rfl) (by kernel_rfl) ?_)
                  refine R.go 2 (R.any0 (by kernel_rfl) ?_)
                  exact R.met (by kernel_rfl) (by kernel_rfl)
              · refine R.frz 9 (by kernel_rfl) ?_
                refine R.kfix 3 (us := usC) (by kernel_rfl) (hfC.frz 9 (LI (L_11.getD ((v_15).toNat) [])) (Nat.le_of_ble_eq_true (by kernel_rfl))) ?_
                exact R.retX (res := .tup [.agg [AI n_1, LI xs_2], .agg [AI m_3, LI ys_4], LI (L_11.getD ((v_15).toNat) [])]) (hp' := [.box 120 [LB c, AI (p1_48 : Int), .int .u64 h1_49], .list eo1 so1 no1 co1, .list eo2 so2 no2 co2, .dead, .box 26 [AI n_1, LI xs_2], .box 26 [AI m_3, LI ys_4], .box 26 [AI n_1, LI xs_2], .box 26 [AI m_3, LI ys_4], .frame [] [], .dead]) (by kernel_rfl) (by kernel_rfl) (by kernel_rfl) (by kernel_rfl) ⟨[0, 1, 2], by kernel_rfl, by decide, n_1, xs_2, m_3, ys_4, L_11.getD ((v_15).toNat) [], p1_48, h1_49, by first | assumption | omega | (simp only [List.length_set, List.length_append, List.length_singleton]; omega), by first | assumption | omega | (simp only [List.length_set, List.length_append, List.length_singleton]; omega), by first | assumption | omega | (simp only [List.length_set, List.length_append, List.length_singleton]; omega), by kernel_rfl, by kernel_rfl⟩
          · refine R.go 3 (R.meet (⟨(frm 78 [(0, .ptr 0 0), (2, .ptr 4 0), (3, .ptr 5 0), (4, .ref 9), (5, .ptr 6 0), (6, .ptr 7 0), (7, .ref 9), (8, LLI L_11), (10, .tup [.agg [AI n_1, LI xs_2], .agg [AI m_3, LI ys_4]]), (11, .ptr 0 0), (12, .tup [.agg [AI n_1, LI xs_2], .agg [AI m_3, LI ys_4]]), (13, .agg [AI n_1, LI xs_2]), (14, .agg [AI m_3, LI ys_4]), (15, LI []), (16, .agg [AI n_1, LI xs_2]), (17, .bool (okFr n_1 xs_2)), (18, .bool (okFr n_1 xs_2)), (19, .agg [AI m_3, LI ys_4]), (20, .bool (okFr m_3 ys_4)), (21, .bool (okFr m_3 ys_4)), (22, .agg [AI n_1, LI xs_2]), (23, .agg [AI m_3, LI ys_4]), (24, LLI L_11), (25, LLI L_11), (26, AI L_11.length), (27, .bool (decide ((L_11.length : Int) > 0))), (28, LLI L_11), (29, .ptr 0 0), (30, LLI L_11), (31, AI L_11.length), (32, AI v_15), (33, .rptr [LI (L_11.getD ((v_15).toNat) [])]), (34, LI (L_11.getD ((v_15).toNat) [])), (35, .ref 9), (50, .ptr 0 0), (51, AI v_19), (52, .bool (decide (v_19 = 0))), (53, .bool (decide (v_19 = 0))), (67, .bool (decide (v_19 = 1))), (68, .bool (decide (v_19 = 1))), (75, .agg [AI n_1, LI xs_2]), (76, .agg [AI m_3, LI ys_4]), (77, .ref 9)]), [.box 120 [LB c, AI (p1_20 : Int), .int .u64 h1_21], .list eo1 so1 no1 co1, .list eo2 so2 no2 co2, .frame usC frC, .box 26 [AI n_1, LI xs_2], .box 26 [AI m_3, LI ys_4], .box 26 [AI n_1, LI xs_2], .box 26 [AI m_3, LI ys_4], .frame [] [], rowA eI 2 1 (L_11.getD ((v_15).toNat) [])]⟩ : St) (by kernel_rfl) ?_ ?_)
            · refine R.any (by decide +kernel) (by kernel_rfl) ?_
              refine R.anyF 2 (by kernel_rfl) (np_meet _) ?_
              refine R.any2 0 1 (by kernel_rfl) (by kernel_rfl) ?_ ?_
              · refine R.go 2 (R.any2 1 3 (by kernel_rfl) (by kernel_rfl) ?_ ?_)
                · refine R.go 2 (R.any1 3 (by kernel_rfl) (by kernel_rfl) ?_)
                  refine R.go 2 (R.any1 4 (by kernel_rfl) (by kernel_rfl) ?_)
                  refine R.go 2 (R.any1 5 (by kernel_rfl) (by kernel_rfl) ?_)
                  refine R.go 2 (R.any0 (by kernel_rfl) ?_)
                  exact R.met (by kernel_rfl) (by kernel_rfl)
                · refine R.go 2 (R.any1 1 (by kernel_rfl) (by kernel_rfl) ?_)
                  refine R.go 2 (R.any1 4 (by kernel_rfl) (by kernel_rfl) ?_)
                  refine R.go 2 (R.any1 5 (by kernel_rfl) (by kernel_rfl) ?_)
                  refine R.go 2 (R.any0 (by kernel_rfl) ?_)
                  exact R.met (by kernel_rfl) (by kernel_rfl)
              · refine R.go 2 (R.any1 0 (by kernel_rfl) (by kernel_rfl) ?_)
                refine R.go 2 (R.any1 3 (by kernel_rfl) (by kernel_rfl) ?_)
                refine R.go 2 (R.any1 4 (by kernel_rfl) (by kernel_rfl) ?_)
                refine R.go 2 (R.any1 5 (by kernel_rfl) (by kernel_rfl) ?_)
                refine R.go 2 (R.any0 (by kernel_rfl) ?_)
                exact R.met (by kernel_rfl) (by kernel_rfl)
            · refine R.frz 9 (by kernel_rfl) ?_
              refine R.kfix 3 (us := usC) (by kernel_rfl) (hfC.frz 9 (LI (L_11.getD ((v_15).toNat) [])) (Nat.le_of_ble_eq_true (by kernel_rfl))) ?_
              exact R.retX (res := .tup [.agg [AI n_1, LI xs_2], .agg [AI m_3, LI ys_4], LI (L_11.getD ((v_15).toNat) [])]) (hp' := [.box 120 [LB c, AI (p1_20 : Int), .int .u64 h1_21], .list eo1 so1 no1 co1, .list eo2 so2 no2 co2, .dead, .box 26 [AI n_1, LI xs_2], .box 26 [AI m_3, LI ys_4], .box 26 [AI n_1, LI xs_2], .box 26 [AI m_3, LI ys_4], .frame [] [], .dead]) (by kernel_rfl) (by kernel_rfl) (by kernel_rfl) (by kernel_rfl) ⟨[0, 1, 2], by kernel_rfl, by decide, n_1, xs_2, m_3, ys_4, L_11.getD ((v_15).toNat) [], p1_20, h1_21, by first | assumption | omega | (simp only [List.length_set, List.length_append, List.length_singleton]; omega), by first | assumption | omega | (simp only [List.length_set, List.length_append, List.length_singleton]; omega), by first | assumption | omega | (simp only [List.length_set, List.length_append, List.length_singleton]; omega), by kernel_rfl, by kernel_rfl⟩
      · refine R.go 5 (R.loop ((fun | (x, W, q, hq) => (⟨(frm 78 [(0, .ptr 0 0), (2, .ptr 4 0), (3, .ptr 5 0), (5, .ptr 6 0), (6, .ptr 7 0), (7, .ref 8), (9, AI (x : Int))]), [.box 120 [LB c, AI (q : Int), .int .u64 hq], .list eo1 so1 no1 co1, .list eo2 so2 no2 co2, .frame usC frC, .box 26 [AI 0, .nil], .box 26 [AI 0, .nil], .box 26 [AI n_1, LI xs_2], .box 26 [AI m_3, LI ys_4], rowA eI 2 1 W]⟩ : St) : Nat × (List Int) × Nat × Int → St)) (fun | (x, W, q, hq) => ((x : Int) ≤ n_1) ∧ (W.length = x)) (fun | (x, W, q, hq) => (n_1 - x).toNat) (0, [], p1_5, h1_6) [0, 2, 3, 5, 6, 7, 9] none (by kernel_rfl) (by kernel_rfl) (by kernel_rfl) ⟨(by omega), (by rfl)⟩ ?_)
        rintro ⟨x, W, q, hq⟩ ⟨h55_1, h55_2⟩ R52 N53
        refine R.go 8 (R.cond ((x : Int) < n_1) (by kernel_rfl) (fun c56 => ?_) (fun c56 => ?_))
        · refine R.go 9 (R.callX (CallX.inF 3 usC frC (CallX.box 6 26 [AI m_3, LI ys_4] (CallX.box 5 26 [AI n_1, LI xs_2] (CallX.box 4 26 [AI 0, .nil] (CallX.box 3 26 [AI 0, .nil] (nextX_c_r7 c q hq (if m_3 > 1 then m_3 else 1) eo1 so1 no1 co1 eo2 so2 no2 co2 26 2 1 [AI 0, .nil] 26 2 1 [AI 0, .nil] 26 2 1 [AI n_1, LI xs_2] 26 2 1 [AI m_3, LI ys_4] 2 1 W.length (rows eI W) hc) (by kernel_rfl) (by kernel_rfl) (by kernel_rfl) (by kernel_rfl) (by rintro _ _ ⟨_, _, _, _, rfl, rfl⟩; exact ⟨by kernel_rfl, by kernel_rfl, by kernel_rfl⟩)) (by kernel_rfl) (by kernel_rfl) (by kernel_rfl) (by kernel_rfl) (by rintro _ _ ⟨_, ⟨_, _, _, _, rfl, rfl⟩, rfl⟩; exact ⟨by kernel_rfl, by kernel_rfl, by kernel_rfl⟩)) (by kernel_rfl) (by kernel_rfl) (by kernel_rfl) (by kernel_rfl) (by rintro _ _ ⟨_, ⟨_, ⟨_, _, _, _, rfl, rfl⟩, rfl⟩, rfl⟩; exact ⟨by kernel_rfl, by kernel_rfl, by kernel_rfl⟩)) (by kernel_rfl) (by kernel_rfl) (by kernel_rfl) (by kernel_rfl) (by rintro _ _ ⟨_, ⟨_, ⟨_, ⟨_, _, _, _, rfl, rfl⟩, rfl⟩, rfl⟩, rfl⟩; exact ⟨by kernel_rfl, by kernel_rfl, by kernel_rfl⟩)) (Nat.le_of_ble_eq_true (by kernel_rfl)) (by kernel_rfl) (by kernel_rfl) (by rintro _ _ ⟨_, ⟨_, ⟨_, ⟨_, ⟨_, _, _, _, rfl, rfl⟩, rfl⟩, rfl⟩, rfl⟩, rfl⟩; exact Nat.le_of_ble_eq_true (by kernel_rfl))) (by kernel_rfl) (by kernel_rfl) (by kernel_rfl) ?_)
          rintro _ _ ⟨_, _, ⟨_, ⟨_, ⟨_, ⟨_, ⟨v_57, p1_58, h1_59, f60, rfl, rfl⟩, rfl⟩, rfl⟩, rfl⟩, rfl⟩, rfl, rfl⟩
          refine R.go 1 (R.app eI W [v_57] 8 2 1 8 (by kernel_rfl) eI_one (by decide) (by first | omega | (simp only [List.length_append, List.length_cons, List.length_nil]; omega)) (by kernel_rfl) ?_)
          refine R.kfix 3 (us := usC) (by kernel_rfl) (hfC.kill 8 (Nat.le_of_ble_eq_true (by kernel_rfl))) ?_
          refine R.go 5 (R.ar ((x : Int) + 1) (by kernel_rfl) (by omega) (by omega) (by kernel_rfl) ?_)
          exact R.go 2 (R.stop R52 (by kernel_rfl) (N53 (x + 1, W ++ [v_57], p1_58, h1_59) [0, 2, 3, 5, 6, 7, 9] (some [0, 1, 2, 3, 4, 5, 6, 7, 8]) _ (by kernel_rfl) (canonF (fr := frC) (fun (frX : List AV) => (⟨(frm 78 [(0, .ptr 0 0), (2, .ptr 4 0), (3, .ptr 5 0), (5, .ptr 6 0), (6, .ptr 7 0), (7, .ref 8), (9, AI ((x : Int) + 1))]), [.box 120 [LB c, AI (p1_58 : Int), .int .u64 h1_59], .list eo1 so1 no1 co1, .list eo2 so2 no2 co2, .frame usC frX, .box 26 [AI 0, .nil], .box 26 [AI 0, .nil], .box 26 [AI n_1, LI xs_2], .box 26 [AI m_3, LI ys_4], rowA eI 2 1 (W ++ [v_57])]⟩ : St)) (hfC.ren _ (by kernel_rfl)) (by kernel_rfl) (by kernel_rfl)) ⟨(by omega), (by (simp <;> omega))⟩ (by show ((n_1 - (x + 1)).toNat) < ((n_1 - x).toNat); omega)))
        · have hil : (W : List Int).length ≤ 50 := by first | omega | (simp; done) | (have hq : (((W).length : Nat) : Int) = _ := (hgm _ (by omega)).1; omega)
          refine R.go 5 (R.callX (CallX.inF 3 usC frC (CallX.box 6 26 [AI m_3, LI ys_4] (CallX.box 5 26 [AI n_1, LI xs_2] (CallX.box 4 26 [AI 0, .nil] (CallX.box 3 26 [AI 0, .nil] (nextX_c_r7 c q hq 8 eo1 so1 no1 co1 eo2 so2 no2 co2 26 2 1 [AI 0, .nil] 26 2 1 [AI 0, .nil] 26 2 1 [AI n_1, LI xs_2] 26 2 1 [AI m_3, LI ys_4] 2 1 W.length (rows eI W) hc) (by kernel_rfl) (by kernel_rfl) (by kernel_rfl) (by kernel_rfl) (by rintro _ _ ⟨_, _, _, _, rfl, rfl⟩; exact ⟨by kernel_rfl, by kernel_rfl, by kernel_rfl⟩)) (by kernel_rfl) (by kernel_rfl) (by kernel_rfl) (by kernel_rfl) (by rintro _ _ ⟨_, ⟨_, _, _, _, rfl, rfl⟩, rfl⟩; exact ⟨by kernel_rfl, by kernel_rfl, by kernel_rfl⟩)) (by kernel_rfl) (by kernel_rfl) (by kernel_rfl) (by kernel_rfl) (by rintro _ _ ⟨_, ⟨_, ⟨_, _, _, _, rfl, rfl⟩, rfl⟩, rfl⟩; exact ⟨by kernel_rfl, by kernel_rfl, by kernel_rfl⟩)) (by kernel_rfl) (by kernel_rfl) (by kernel_rfl) (by kernel_rfl) (by rintro _ _ ⟨_, ⟨_, ⟨_, ⟨_, _, _, _, rfl, rfl⟩, rfl⟩, rfl⟩, rfl⟩; exact ⟨by kernel_rfl, by kernel_rfl, by kernel_rfl⟩)) (Nat.le_of_ble_eq_true (by kernel_rfl)) (by kernel_rfl) (by kernel_rfl) (by rintro _ _ ⟨_, ⟨_, ⟨_, ⟨_, ⟨_, _, _, _, rfl, rfl⟩, rfl⟩, rfl⟩, rfl⟩, rfl⟩; exact Nat.le_of_ble_eq_true (by kernel_rfl))) (by kernel_rfl) (by kernel_rfl) (by kernel_rfl) ?_)
          rintro _ _ ⟨_, _, ⟨_, ⟨_, ⟨_, ⟨_, ⟨v_61, p1_62, h1_63, f64, rfl, rfl⟩, rfl⟩, rfl⟩, rfl⟩, rfl⟩, rfl, rfl⟩
          refine R.go 7 (R.cond (v_61 = 0) (by kernel_rfl) (fun c65 => ?_) (fun c65 => ?_))
          · refine R.go 6 (R.cond ((W.length : Int) > 0) (by kernel_rfl) (fun c66 => ?_) (fun c66 => ?_))
            · refine R.meetF (α := Int × Nat × Int × Int × Nat × Int) (fun | (v_67, p1_68, h1_69, v_71, p1_72, h1_73) => ((W.length < 1 → v_67 = 0) ∧ (1 ≤ W.length → 0 ≤ v_67 ∧ v_67 < W.length))) (fun | (v_67, p1_68, h1_69, v_71, p1_72, h1_73) => (⟨(frm 78 [(0, .ptr 0 0), (2, .ptr 4 0), (3, .ptr 5 0), (5, .ptr 6 0), (6, .ptr 7 0), (7, .ref 8), (9, AI (x : Int)), (36, AI (x : Int)), (37, .ptr 6 0), (38, AI n_1), (39, .bool (decide ((x : Int) < n_1))), (50, .ptr 0 0), (51, AI v_61), (52, .bool (decide (v_61 = 0))), (53, .bool (decide (v_61 = 0))), (54, .ref 8), (55, AI W.length), (56, .bool (decide ((W.length : Int) > 0))), (57, .ref 8), (58, .ptr 0 0), (59, .ref 8), (60, AI W.length), (61, AI v_67), (62, .ptr 0 0), (63, .ptr 7 0), (64, AI m_3), (65, AI v_71), (66, .ptr 8 (((v_67).toNat) * 1))]), [.box 120 [LB c, AI (p1_72 : Int), .int .u64 h1_73], .list eo1 so1 no1 co1, .list eo2 so2 no2 co2, .frame usC frC, .box 26 [AI 0, .nil], .box 26 [AI 0, .nil], .box 26 [AI n_1, LI xs_2], .box 26 [AI m_3, LI ys_4], rowA eI 2 1 (W.set ((v_67).toNat) v_71)]⟩ : St)) (by kernel_rfl) ?_ ?_
              · refine R.any (by decide +kernel) (by kernel_rfl) ?_
                refine R.anyF 0 (by kernel_rfl) (np_meetF _ _) ?_
                refine R.anyF 1 (by kernel_rfl) (np_meetF _ _) ?_
                refine R.anyF 2 (by kernel_rfl) (np_meetF _ _) ?_
                refine R.anyF 5 (by kernel_rfl) (np_meetF _ _) ?_
                refine R.anyA 6 (.ptr 7 0) (by kernel_rfl) (np_meetF _ _) ?_
                refine R.any2 3 7 (by kernel_rfl) (by kernel_rfl) ?_ ?_
                · refine R.go 2 (R.any2 4 7 (by kernel_rfl) (by kernel_rfl) ?_ ?_)
                  · refine R.callX (CallX.inF 3 usC frC (CallX.box 6 26 [AI m_3, LI ys_4] (CallX.box 5 26 [AI n_1, LI xs_2] (CallX.box 4 26 [AI 0, .nil] (CallX.box 3 26 [AI 0, .nil] (nextX_c_r7 c p1_62 h1_63 W.length eo1 so1 no1 co1 eo2 so2 no2 co2 26 2 1 [AI 0, .nil] 26 2 1 [AI 0, .nil] 26 2 1 [AI n_1, LI xs_2] 26 2 1 [AI m_3, LI ys_4] 2 1 W.length (rows eI W) hc) (by kernel_rfl) (by kernel_rfl) (by kernel_rfl) (by kernel_rfl) (by rintro _ _ ⟨_, _, _, _, rfl, rfl⟩; exact ⟨by kernel_rfl, by kernel_rfl, by kernel_rfl⟩)) (by kernel_rfl) (by kernel_rfl) (by kernel_rfl) (by kernel_rfl) (by rintro _ _ ⟨_, ⟨_, _, _, _, rfl, rfl⟩, rfl⟩; exact ⟨by kernel_rfl, by kernel_rfl, by kernel_rfl⟩)) (by kernel_rfl) (by kernel_rfl) (by kernel_rfl) (by kernel_rfl) (by rintro _ _ ⟨_, ⟨_, ⟨_, _, _, _, rfl, rfl⟩, rfl⟩, rfl⟩; exact ⟨by kernel_rfl, by kernel_rfl, by kernel_rfl⟩)) (by kernel_rfl) (by kernel_rfl) (by kernel_rfl) (by kernel_rfl) (by rintro _ _ ⟨_, ⟨_, ⟨_, ⟨_, _, _, _, rfl, rfl⟩, rfl⟩, rfl⟩, rfl⟩; exact ⟨by kernel_rfl, by kernel_rfl, by kernel_rfl⟩)) (Nat.le_of_ble_eq_true (by kernel_rfl)) (by kernel_rfl) (by kernel_rfl) (by rintro _ _ ⟨_, ⟨_, ⟨_, ⟨_, ⟨_, _, _, _, rfl, rfl⟩, rfl⟩, rfl⟩, rfl⟩, rfl⟩; exact Nat.le_of_ble_eq_true (by kernel_rfl))) (by kernel_rfl) (by kernel_rfl) (by kernel_rfl) ?_
                    rintro _ _ ⟨_, _, ⟨_, ⟨_, ⟨_, ⟨_, ⟨v_67, p1_68, h1_69, f70, rfl, rfl⟩, rfl⟩, rfl⟩, rfl⟩, rfl⟩, rfl, rfl⟩
                    refine R.go 1 (R.any1 7 (by kernel_rfl) (by kernel_rfl) ?_)
                    refine R.go 2 (R.any1 8 (by kernel_rfl) (by kernel_rfl) ?_)
                    refine R.callX (CallX.inF 3 usC frC (CallX.box 6 26 [AI m_3, LI ys_4] (CallX.box 5 26 [AI n_1, LI xs_2] (CallX.box 4 26 [AI 0, .nil] (CallX.box 3 26 [AI 0, .nil] (numX_c_r7 c p1_68 h1_69 m_3 eo1 so1 no1 co1 eo2 so2 no2 co2 26 2 1 [AI 0, .nil] 26 2 1 [AI 0, .nil] 26 2 1 [AI n_1, LI xs_2] 26 2 1 [AI m_3, LI ys_4] 2 1 W.length (rows eI W) hc) (by kernel_rfl) (by kernel_rfl) (by kernel_rfl) (by kernel_rfl) (by rintro _ _ ⟨_, _, _, rfl, rfl⟩; exact ⟨by kernel_rfl, by kernel_rfl, by kernel_rfl⟩)) (by kernel_rfl) (by kernel_rfl) (by kernel_rfl) (by kernel_rfl) (by rintro _ _ ⟨_, ⟨_, _, _, rfl, rfl⟩, rfl⟩; exact ⟨by kernel_rfl, by kernel_rfl, by kernel_rfl⟩)) (by kernel_rfl) (by kernel_rfl) (by kernel_rfl) (by kernel_rfl) (by rintro _ _ ⟨_, ⟨_, ⟨_, _, _, rfl, rfl⟩, rfl⟩, rfl⟩; exact ⟨by kernel_rfl, by kernel_rfl, by kernel_rfl⟩)) (by kernel_rfl) (by kernel_rfl) (by kernel_rfl) (by kernel_rfl) (by rintro _ _ ⟨_, ⟨_, ⟨_, ⟨_, _, _, rfl, rfl⟩, rfl⟩, rfl⟩, rfl⟩; exact ⟨by kernel_rfl, by kernel_rfl, by kernel_rfl⟩)) (Nat.le_of_ble_eq_true (by kernel_rfl)) (by kernel_rfl) (by kernel_rfl) (by rintro _ _ ⟨_, ⟨_, ⟨_, ⟨_, ⟨_, _, _, rfl, rfl⟩, rfl⟩, rfl⟩, rfl⟩, rfl⟩; exact Nat.le_of_ble_eq_true (by kernel_rfl))) (by kernel_rfl) (by kernel_rfl) (by kernel_rfl) ?_
                    rintro _ _ ⟨_, _, ⟨_, ⟨_, ⟨_, ⟨_, ⟨v_71, p1_72, h1_73, rfl, rfl⟩, rfl⟩, rfl⟩, rfl⟩, rfl⟩, rfl, rfl⟩
                    refine R.go 1 (R.any1 9 (by kernel_rfl) (by kernel_rfl) ?_)
                    refine R.idxO 8 1 W.length ((v_67).toNat) v_67 (by kernel_rfl) (by omega) (by omega) (by kernel_rfl) ?_
                    refine R.go 1 (R.any1 10 (by kernel_rfl) (by kernel_rfl) ?_)
                    refine R.stI 8 2 W ((v_67).toNat) v_71 (by kernel_rfl) (by omega) (by kernel_rfl) ?_
                    refine R.go 1 (R.any0 (by kernel_rfl) ?_)
                    exact R.metF (v_67, p1_68, h1_69, v_71, p1_72, h1_73) (by kernel_rfl) (by first | assumption | omega) (by kernel_rfl)
                  · refine R.go 2 (R.any1 4 (by kernel_rfl) (by kernel_rfl) ?_)
                    refine R.callX (CallX.inF 3 usC frC (CallX.box 6 26 [AI m_3, LI ys_4] (CallX.box 5 26 [AI n_1, LI xs_2] (CallX.box 4 26 [AI 0, .nil] (CallX.box 3 26 [AI 0, .nil] (nextX_c_r7 c p1_62 h1_63 W.length eo1 so1 no1 co1 eo2 so2 no2 co2 26 2 1 [AI 0, .nil] 26 2 1 [AI 0, .nil] 26 2 1 [AI n_1, LI xs_2] 26 2 1 [AI m_3, LI ys_4] 2 1 W.length (rows eI W) hc) (by kernel_rfl) (by kernel_rfl) (by kernel_rfl) (by kernel_rfl) (by rintro _ _ ⟨_, _, _, _, rfl, rfl⟩; exact ⟨by kernel_rfl, by kernel_rfl, by kernel_rfl⟩)) (by kernel_rfl) (by kernel_rfl) (by kernel_rfl) (by kernel_rfl) (by rintro _ _ ⟨_, ⟨_, _, _, _, rfl, rfl⟩, rfl⟩; exact ⟨by kernel_rfl, by kernel_rfl, by kernel_rfl⟩)) (by kernel_rfl) (by kernel_rfl) (by kernel_rfl) (by kernel_rfl) (by rintro _ _ ⟨_, ⟨_, ⟨_, _, _, _, rfl, rfl⟩, rfl⟩, rfl⟩; exact ⟨by kernel_rfl, by kernel_rfl, by kernel_rfl⟩)) (by kernel_rfl) (by kernel_rfl) (by kernel_rfl) (by kernel_rfl) (by rintro _ _ ⟨_, ⟨_, ⟨_, ⟨_, _, _, _, rfl, rfl⟩, rfl⟩, rfl⟩, rfl⟩; exact ⟨by kernel_rfl, by kernel_rfl, by kernel_rfl⟩)) (Nat.le_of_ble_eq_true (by kernel_rfl)) (by kernel_rfl) (by kernel_rfl) (by rintro _ _ ⟨_, ⟨_, ⟨_, ⟨_, ⟨_, _, _, _, rfl, rfl⟩, rfl⟩, rfl⟩, rfl⟩, rfl⟩; exact Nat.le_of_ble_eq_true (by kernel_rfl))) (by kernel_rfl) (by kernel_rfl) (by kernel_rfl) ?_
                    rintro _ _ ⟨_, _, ⟨_, ⟨_, ⟨_, ⟨_, ⟨v_74, p1_75, h1_76, f77, rfl, rfl⟩, rfl⟩, rfl⟩, rfl⟩, rfl⟩, rfl, rfl⟩
                    refine R.go 1 (R.any1 8 (by kernel_rfl) (by kernel_rfl) ?_)
                    refine R.callX (CallX.inF 3 usC frC (CallX.box 6 26 [AI m_3, LI ys_4] (CallX.box 5 26 [AI n_1, LI xs_2] (CallX.box 4 26 [AI 0, .nil] (CallX.box 3 26 [AI 0, .nil] (numX_c_r7 c p1_75 h1_76 m_3 eo1 so1 no1 co1 eo2 so2 no2 co2 26 2 1 [AI 0, .nil] 26 2 1 [AI 0, .nil] 26 2 1 [AI n_1, LI xs_2] 26 2 1 [AI m_3, LI ys_4] 2 1 W.length (rows eI W) hc) (by kernel_rfl) (by kernel_rfl) (by kernel_rfl) (by kernel_rfl) (by rintro _ _ ⟨_, _, _, rfl, rfl⟩; exact ⟨by kernel_rfl, by kernel_rfl, by kernel_rfl⟩)) (by kernel_rfl) (by kernel_rfl) (by kernel_rfl) (by kernel_rfl) (by rintro _ _ ⟨_, ⟨_, _, _, rfl, rfl⟩, rfl⟩; exact ⟨by kernel_rfl, by kernel_rfl, by kernel_rfl⟩)) (by kernel_rfl) (by kernel_rfl) (by kernel_rfl) (by kernel_rfl) (by rintro _ _ ⟨_, ⟨_, ⟨_, _, _, rfl, rfl⟩, rfl⟩, rfl⟩; exact ⟨by kernel_rfl, by kernel_rfl, by kernel_rfl⟩)) (by kernel_rfl) (by kernel_rfl) (by kernel_rfl) (by kernel_rfl) (by rintro _ _ ⟨_, ⟨_, ⟨_, ⟨_, _, _, rfl, rfl⟩, rfl⟩, rfl⟩, rfl⟩; exact ⟨by kernel_rfl, by kernel_rfl, by kernel_rfl⟩)) (Nat.le_of_ble_eq_true (by kernel_rfl)) (by kernel_rfl) (by kernel_rfl) (by rintro _ _ ⟨_, ⟨_, ⟨_, ⟨_, ⟨_, _, _, rfl, rfl⟩, rfl⟩, rfl⟩, rfl⟩, rfl⟩; exact Nat.le_of_ble_eq_true (by kernel_rfl))) (by kernel_rfl) (by kernel_rfl) (by kernel_rfl) ?_
                    rintro _ _ ⟨_, _, ⟨_, ⟨_, ⟨_, ⟨_, ⟨v_78, p1_79, h1_80, rfl, rfl⟩, rfl⟩, rfl⟩, rfl⟩, rfl⟩, rfl, rfl⟩
                    refine R.go 1 (R.any1 9 (by kernel_rfl) (by kernel_rfl) ?_)
                    refine R.idxO 8 1 W.length ((v_74).toNat) v_74 (by kernel_rfl) (by omega) (by omega) (by kernel_rfl) ?_
                    refine R.go 1 (R.any1 10 (by kernel_rfl) (by kernel_rfl) ?_)
                    refine R.stI 8 2 W ((v_74).toNat) v_78 (by kernel_rfl) (by omega) (by kernel_rfl) ?_
                    refine R.go 1 (R.any0 (by kernel_rfl) ?_)
                    exact R.metF (v_74, p1_75, h1_76, v_78, p1_79, h1_80) (by kernel_rfl) (by first | assumption | omega) (by kernel_rfl)
                · refine R.go 2 (R.any1 3 (by kernel_rfl) (by kernel_rfl) ?_)
                  refine R.go 2 (R.any1 4 (by kernel_rfl) (by kernel_rfl) ?_)
                  refine R.callX (CallX.inF 3 usC frC (CallX.box 6 26 [AI m_3, LI ys_4] (CallX.box 5 26 [AI n_1, LI xs_2] (CallX.box 4 26 [AI 0, .nil] (CallX.box 3 26 [AI 0, .nil] (nextX_c_r7 c p1_62 h1_63 W.length eo1 so1 no1 co1 eo2 so2 no2 co2 26 2 1 [AI 0, .nil] 26 2 1 [AI 0, .nil] 26 2 1 [AI n_1, LI xs_2] 26 2 1 [AI m_3, LI ys_4] 2 1 W.length (rows eI W) hc) (by kernel_rfl) (by kernel_rfl) (by kernel_rfl) (by kernel_rfl) (by rintro _ _ ⟨_, _, _, _, rfl, rfl⟩; exact ⟨by kernel_rfl, by kernel_rfl, by kernel_rfl⟩)) (by kernel_rfl) (by kernel_rfl) (by kernel_rfl) (by kernel_rfl) (by rintro _ _ ⟨_, ⟨_, _, _, _, rfl, rfl⟩, rfl⟩; exact ⟨by kernel_rfl, by kernel_rfl, by kernel_rfl⟩)) (by kernel_rfl) (by kernel_rfl) (by kernel_rfl) (by kernel_rfl) (by rintro _ _ ⟨_, ⟨_, ⟨_, _, _, _, rfl, rfl⟩, rfl⟩, rfl⟩; exact ⟨by kernel_rfl, by kernel_rfl, by kernel_rfl⟩)) (by kernel_rfl) (by kernel_rfl) (by kernel_rfl) (by kernel_rfl) (by rintro _ _ ⟨_, ⟨_, ⟨_, ⟨_, _, _, _, rfl, rfl⟩, rfl⟩, rfl⟩, rfl⟩; exact ⟨by kernel_rfl, by kernel_rfl, by kernel_rfl⟩)) (Nat.le_of_ble_eq_true (by kernel_rfl)) (by kernel_rfl) (by kernel_rfl) (by rintro _ _ ⟨_, ⟨_, ⟨_, ⟨_, ⟨_, _, _, _, rfl, rfl⟩, rfl⟩, rfl⟩, rfl⟩, rfl⟩; exact Nat.le_of_ble_eq_true (by kernel_rfl))) (by kernel_rfl) (by kernel_rfl) (by kernel_rfl) ?_
                  rintro _ _ ⟨_, _, ⟨_, ⟨_, ⟨_, ⟨_, ⟨v_81, p1_82, h1_83, f84, rfl, rfl⟩, rfl⟩, rfl⟩, rfl⟩, rfl⟩, rfl, rfl⟩
                  refine R.go 1 (R.any1 8 (by kernel_rfl) (by kernel_rfl) ?_)
                  refine R.callX (CallX.inF 3 usC frC (CallX.box 6 26 [AI m_3, LI ys_4] (CallX.box 5 26 [AI n_1, LI xs_2] (CallX.box 4 26 [AI 0, .nil] (CallX.box 3 26 [AI 0, .nil] (numX_c_r7 c p1_82 h1_83 m_3 eo1 so1 no1 co1 eo2 so2 no2 co2 26 2 1 [AI 0, .nil] 26 2 1 [AI 0, .nil] 26 2 1 [AI n_1, LI xs_2] 26 2 1 [AI m_3, LI ys_4] 2 1 W.length (rows eI W) hc) (by kernel_rfl) (by kernel_rfl) (by kernel_rfl) (by kernel_rfl) (by rintro _ _ ⟨_, _, _, rfl, rfl⟩; exact ⟨by kernel_rfl, by kernel_rfl, by kernel_rfl⟩)) (by kernel_rfl) (by kernel_rfl) (by kernel_rfl) (by kernel_rfl) (by rintro _ _ ⟨_, ⟨_, _, _, rfl, rfl⟩, rfl⟩; exact ⟨by kernel_rfl, by kernel_rfl, by kernel_rfl⟩)) (by kernel_rfl) (by kernel_rfl) (by kernel_rfl) (by kernel_rfl) (by rintro _ _ ⟨_, ⟨_, ⟨_, _, _, rfl, rfl⟩, rfl⟩, rfl⟩; exact ⟨by kernel_rfl, by kernel_rfl, by kernel_rfl⟩)) (by kernel_rfl) (by kernel_rfl) (by kernel_rfl) (by kernel_rfl) (by rintro _ _ ⟨_, ⟨_, ⟨_, ⟨_, _, _, rfl, rfl⟩, rfl⟩, rfl⟩, rfl⟩; exact ⟨by kernel_rfl, by kernel_rfl, by kernel_rfl⟩)) (Nat.le_of_ble_eq_true (by kernel_rfl)) (by kernel_rfl) (by kernel_rfl) (by rintro _ _ ⟨_, ⟨_, ⟨_, ⟨_, ⟨_, _, _, rfl, rfl⟩, rfl⟩, rfl⟩, rfl⟩, rfl⟩; exact Nat.le_of_ble_eq_true (by kernel_rfl))) (by kernel_rfl) (by kernel_rfl) (by kernel_rfl) ?_
                  rintro _ _ ⟨_, _, ⟨_, ⟨_, ⟨_, ⟨_, ⟨v_85, p1_86, h1_87, rfl, rfl⟩, rfl⟩, rfl⟩, rfl⟩, rfl⟩, rfl, rfl⟩
                  refine R.go 1 (R.any1 9 (by kernel_rfl) (by kernel_rfl) ?_)
                  refine R.idxO 8 1 W.length ((v_81).toNat) v_81 (by kernel_rfl) (by omega) (by omega) (by kernel_rfl) ?_
                  refine R.go 1 (R.any1 10 (by kernel_rfl) (by kernel_rfl) ?_)
                  refine R.stI 8 2 W ((v_81).toNat) v_85 (by kernel_rfl) (by omega) (by kernel_rfl) ?_
                  refine R.go 1 (R.any0 (by kernel_rfl) ?_)
                  exact R.metF (v_81, p1_82, h1_83, v_85, p1_86, h1_87) (by kernel_rfl) (by first | assumption | omega) (by kernel_rfl)
              · rintro ⟨v_67, p1_68, h1_69, v_71, p1_72, h1_73⟩ f70
                refine R.go 2 (R.meet (⟨(frm 78 [(0, .ptr 0 0), (2, .ptr 4 0), (3, .ptr 5 0), (4, .ref 8), (5, .ptr 6 0), (6, .ptr 7 0), (7, .ref 8), (9, AI (x : Int)), (36, AI (x : Int)), (37, .ptr 6 0), (38, AI n_1), (39, .bool (decide ((x : Int) < n_1))), (50, .ptr 0 0), (51, AI v_61), (52, .bool (decide (v_61 = 0))), (53, .bool (decide (v_61 = 0))), (54, .ref 8), (55, AI W.length), (56, .bool (decide ((W.length : Int) > 0))), (57, .ref 8), (58, .ptr 0 0), (59, .ref 8), (60, AI W.length), (61, AI v_67), (62, .ptr 0 0), (63, .ptr 7 0), (64, AI m_3), (65, AI v_71), (66, .ptr 8 (((v_67).toNat) * 1)), (75, .agg [AI n_1, LI xs_2]), (76, .agg [AI m_3, LI ys_4]), (77, .ref 8)]), [.box 120 [LB c, AI (p1_72 : Int), .int .u64 h1_73], .list eo1 so1 no1 co1, .list eo2 so2 no2 co2, .frame usC frC, .box 26 [AI n_1, LI xs_2], .box 26 [AI m_3, LI ys_4], .box 26 [AI n_1, LI xs_2], .box 26 [AI m_3, LI ys_4], rowA eI 2 1 (W.set ((v_67).toNat) v_71)]⟩ : St) (by kernel_rfl) ?_ ?_)
                · refine R.any (by decide +kernel) (by kernel_rfl) ?_
                  refine R.anyF 2 (by kernel_rfl) (np_meet _) ?_
                  refine R.any2 0 1 (by kernel_rfl) (by kernel_rfl) ?_ ?_
                  · refine R.go 2 (R.any2 1 3 (by kernel_rfl) (by kernel_rfl) ?_ ?_)
                    · refine R.go 2 (R.any1 3 (by kernel_rfl) (by kernel_rfl) ?_)
                      refine R.go 2 (R.any1 4 (by kernel_rfl) (by kernel_rfl) ?_)
                      refine R.go 2 (R.any1 5 (by kernel_rfl) (by kernel_rfl) ?_)
                      refine R.go 2 (R.any0 (by kernel_rfl) ?_)
                      exact R.met (by kernel_rfl) (by kernel_rfl)
                    · refine R.go 2 (R.any1 1 (by kernel_rfl) (by kernel_rfl) ?_)
                      refine R.go 2 (R.any1 4 (by kernel_rfl) (by kernel_rfl) ?_)
                      refine R.go 2 (R.any1 5 (by kernel_rfl) (by kernel_rfl) ?_)
                      refine R.go 2 (R.any0 (by kernel_rfl) ?_)
                      exact R.met (by kernel_rfl) (by kernel_rfl)
                  · refine R.go 2 (R.any1 0 (by kernel_rfl) (by kernel_rfl) ?_)
                    refine R.go 2 (R.any1 3 (by kernel_rfl) (by kernel_rfl) ?_)
                    refine R.go 2 (R.any1 4 (by kernel_rfl) (by kernel_rfl) ?_)
                    refine R.go 2 (R.any1 5 (by kernel_rfl) (by kernel_rfl) ?_)
                    refine R.go 2 (R.any0 (by kernel_rfl) ?_)
                    exact R.met (by kernel_rfl) (by kernel_rfl)
                · refine R.frz 8 (by kernel_rfl) ?_
                  refine R.kfix 3 (us := usC) (by kernel_rfl) (hfC.frz 8 (LI (W.set ((v_67).toNat) v_71)) (Nat.le_of_ble_eq_true (by kernel_rfl))) ?_
                  exact R.retX (res := .tup [.agg [AI n_1, LI xs_2], .agg [AI m_3, LI ys_4], LI (W.set ((v_67).toNat) v_71)]) (hp' := [.box 120 [LB c, AI (p1_72 : Int), .int .u64 h1_73], .list eo1 so1 no1 co1, .list eo2 so2 no2 co2, .dead, .box 26 [AI n_1, LI xs_2], .box 26 [AI m_3, LI ys_4], .box 26 [AI n_1, LI xs_2], .box 26 [AI m_3, LI ys_4], .dead]) (by kernel_rfl) (by kernel_rfl) (by kernel_rfl) (by kernel_rfl) ⟨[0, 1, 2], by kernel_rfl, by decide, n_1, xs_2, m_3, ys_4, W.set ((v_67).toNat) v_71, p1_72, h1_73, by first | assumption | omega | (simp only [List.length_set, List.length_append, List.length_singleton]; omega), by first | assumption | omega | (simp only [List.length_set, List.length_append, List.length_singleton]; omega), by first | assumption | omega | (simp only [List.length_set, List.length_append, List.length_singleton]; omega), by kernel_rfl, by kernel_rfl⟩
            · refine R.go 3 (R.meet (⟨(frm 78 [(0, .ptr 0 0), (2, .ptr 4 0), (3, .ptr 5 0), (4, .ref 8), (5, .ptr 6 0), (6, .ptr 7 0), (7, .ref 8), (9, AI (x : Int)), (36, AI (x : Int)), (37, .ptr 6 0), (38, AI n_1), (39, .bool (decide ((x : Int) < n_1))), (50, .ptr 0 0), (51, AI v_61), (52, .bool (decide (v_61 = 0))), (53, .bool (decide (v_61 = 0))), (54, .ref 8), (55, AI W.length), (56, .bool (decide ((W.length : Int) > 0))), (75, .agg [AI n_1, LI xs_2]), (76, .agg [AI m_3, LI ys_4]), (77, .ref 8)]), [.box 120 [LB c, AI (p1_62 : Int), .int .u64 h1_63], .list eo1 so1 no1 co1, .list eo2 so2 no2 co2, .frame usC frC, .box 26 [AI n_1, LI xs_2], .box 26 [AI m_3, LI ys_4], .box 26 [AI n_1, LI xs_2], .box 26 [AI m_3, LI ys_4], rowA eI 2 1 W]⟩ : St) (by kernel_rfl) ?_ ?_)
              · refine R.any (by decide +kernel) (by kernel_rfl) ?_
                refine R.anyF 2 (by kernel_rfl) (np_meet _) ?_
                refine R.any2 0 1 (by kernel_rfl) (by kernel_rfl) ?_ ?_
                · refine R.go 2 (R.any2 1 3 (by kernel_rfl) (by kernel_rfl) ?_ ?_)
                  · refine R.go 2 (R.any1 3 (by kernel_rfl) (by kernel_rfl) ?_)
                    refine R.go 2 (R.any1 4 (by kernel_rfl) (by kernel_rfl) ?_)
                    refine R.go 2 (R.any1 5 (by kernel_rfl) (by kernel_rfl) ?_)
                    refine R.go 2 (R.any0 (by kernel_rfl) ?_)
                    exact R.met (by kernel_rfl) (by kernel_rfl)
                  · refine R.go 2 (R.any1 1 (by kernel_rfl) (by kernel_rfl) ?_)
                    refine R.go 2 (R.any1 4 (by kernel_rfl) (by kernel_rfl) ?_)
                    refine R.go 2 (R.any1 5 (by kernel_rfl) (by kernel_rfl) ?_)
                    refine R.go 2 (R.any0 (by kernel_rfl) ?_)
                    exact R.met (by kernel_rfl) (by kernel_rfl)
                · refine R.go 2 (R.any1 0 (by kernel_rfl) (by kernel_rfl) ?_)
                  refine R.go 2 (R.any1 3 (by kernel_rfl) (by kernel_rfl) ?_)
                  refine R.go 2 (R.any1 4 (by kernel_rfl) (by kernel_rfl) ?_)
                  refine R.go 2 (R.any1 5 (by kernel_rfl) (by kernel_rfl) ?_)
                  refine R.go 2 (R.any0 (by kernel_rfl) ?_)
                  exact R.met (by kernel_rfl) (by kernel_rfl)
              · refine R.frz 8 (by kernel_rfl) ?_
                refine R.kfix 3 (us := usC) (by kernel_rfl) (hfC.frz 8 (LI W) (Nat.le_of_ble_eq_true (by kernel_rfl))) ?_
                exact R.retX (res := .tup [.agg [AI n_1, LI xs_2], .agg [AI m_3, LI ys_4], LI W]) (hp' := [.box 120 [LB c, AI (p1_62 : Int), .int .u64 h1_63], .list eo1 so1 no1 co1, .list eo2 so2 no2 co2, .dead, .box 26 [AI n_1, LI xs_2], .box 26 [AI m_3, LI ys_4], .box 26 [AI n_1, LI xs_2], .box 26 [AI m_3, LI ys_4], .dead]) (by kernel_rfl) (by kernel_rfl) (by kernel_rfl) (by kernel_rfl) ⟨[0, 1, 2], by kernel_rfl, by decide, n_1, xs_2, m_3, ys_4, W, p1_62, h1_63, by first | assumption | omega | (simp only [List.length_set, List.length_append, List.length_singleton]; omega), by first | assumption | omega | (simp only [List.length_set, List.length_append, List.length_singleton]; omega), by first | assumption | omega | (simp only [List.length_set, List.length_append, List.length_singleton]; omega), by kernel_rfl, by kernel_rfl⟩
          · refine R.go 5 (R.cond (v_61 = 1) (by kernel_rfl) (fun c88 => ?_) (fun c88 => ?_))
            · refine R.go 3 (R.callX (CallX.inF 3 usC frC (CallX.box 6 26 [AI m_3, LI ys_4] (CallX.box 5 26 [AI n_1, LI xs_2] (CallX.box 4 26 [AI 0, .nil] (CallX.box 3 26 [AI 0, .nil] (nextX_c_r7 c p1_62 h1_63 4 eo1 so1 no1 co1 eo2 so2 no2 co2 26 2 1 [AI 0, .nil] 26 2 1 [AI 0, .nil] 26 2 1 [AI n_1, LI xs_2] 26 2 1 [AI m_3, LI ys_4] 2 1 W.length (rows eI W) hc) (by kernel_rfl) (by kernel_rfl) (by kernel_rfl) (by kernel_rfl) (by rintro _ _ ⟨_, _, _, _, rfl, rfl⟩; exact ⟨by kernel_rfl, by kernel_rfl, by kernel_rfl⟩)) (by kernel_rfl) (by kernel_rfl) (by kernel_rfl) (by kernel_rfl) (by rintro _ _ ⟨_, ⟨_, _, _, _, rfl, rfl⟩, rfl⟩; exact ⟨by kernel_rfl, by kernel_rfl, by kernel_rfl⟩)) (by kernel_rfl) (by kernel_rfl) (by kernel_rfl) (by kernel_rfl) (by rintro _ _ ⟨_, ⟨_, ⟨_, _, _, _, rfl, rfl⟩, rfl⟩, rfl⟩; exact ⟨by kernel_rfl, by kernel_rfl, by kernel_rfl⟩)) (by kernel_rfl) (by kernel_rfl) (by kernel_rfl) (by kernel_rfl) (by rintro _ _ ⟨_, ⟨_, ⟨_, ⟨_, _, _, _, rfl, rfl⟩, rfl⟩, rfl⟩, rfl⟩; exact ⟨by kernel_rfl, by kernel_rfl, by kernel_rfl⟩)) (Nat.le_of_ble_eq_true (by kernel_rfl)) (by kernel_rfl) (by kernel_rfl) (by rintro _ _ ⟨_, ⟨_, ⟨_, ⟨_, ⟨_, _, _, _, rfl, rfl⟩, rfl⟩, rfl⟩, rfl⟩, rfl⟩; exact Nat.le_of_ble_eq_true (by kernel_rfl))) (by kernel_rfl) (by kernel_rfl) (by kernel_rfl) ?_)
              rintro _ _ ⟨_, _, ⟨_, ⟨_, ⟨_, ⟨_, ⟨v_89, p1_90, h1_91, f92, rfl, rfl⟩, rfl⟩, rfl⟩, rfl⟩, rfl⟩, rfl, rfl⟩
              refine R.go 2 (R.cond (v_89 = 0) (by kernel_rfl) (fun c93 => ?_) (fun c93 => ?_))
              · refine R.go 3 (R.app eI W [0] 8 2 1 8 (by kernel_rfl) eI_one (by decide) (by first | omega | (simp only [List.length_append, List.length_cons, List.length_nil]; omega)) (by kernel_rfl) ?_)
                refine R.kfix 3 (us := usC) (by kernel_rfl) (hfC.kill 8 (Nat.le_of_ble_eq_true (by kernel_rfl))) ?_
                refine R.go 4 (R.meet (⟨(frm 78 [(0, .ptr 0 0), (2, .ptr 4 0), (3, .ptr 5 0), (4, .ref 8), (5, .ptr 6 0), (6, .ptr 7 0), (7, .ref 8), (9, AI (x : Int)), (36, AI (x : Int)), (37, .ptr 6 0), (38, AI n_1), (39, .bool (decide ((x : Int) < n_1))), (50, .ptr 0 0), (51, AI v_61), (52, .bool (decide (v_61 = 0))), (53, .bool (decide (v_61 = 0))), (67, .bool (decide (v_61 = 1))), (68, .bool (decide (v_61 = 1))), (69, .ptr 0 0), (70, AI v_89), (71, .bool (decide (v_89 = 0))), (73, .ref 9), (74, .ref 8), (75, .agg [AI n_1, LI xs_2]), (76, .agg [AI m_3, LI ys_4]), (77, .ref 8)]), [.box 120 [LB c, AI (p1_90 : Int), .int .u64 h1_91], .list eo1 so1 no1 co1, .list eo2 so2 no2 co2, .frame usC frC, .box 26 [AI n_1, LI xs_2], .box 26 [AI m_3, LI ys_4], .box 26 [AI n_1, LI xs_2], .box 26 [AI m_3, LI ys_4], rowA eI 2 1 (W ++ [0]), rowA eI 2 1 [0]]⟩ : St) (by kernel_rfl) ?_ ?_)
                · refine R.any (by decide +kernel) (by kernel_rfl) ?_
                  refine R.anyF 2 (by kernel_rfl) (np_meet _) ?_
                  refine R.any2 0 1 (by kernel_rfl) (by kernel_rfl) ?_ ?_
                  · refine R.go 2 (R.any2 1 3 (by kernel_rfl) (by kernel_rfl) ?_ ?_)
                    · refine R.go 2 (R.any1 3 (by kernel_rfl) (by kernel_rfl) ?_)
                      refine R.go 2 (R.any1 4 (by kernel_rfl) (by kernel_rfl) ?_)
                      refine R.go 2 (R.any1 5 (by kernel_rfl) (by kernel_rfl) ?_)
                      refine R.go 2 (R.any0 (by kernel_rfl) ?_)
                      exact R.met (by kernel_rfl) (by kernel_rfl)
                    · refine R.go 2 (R.any1 1 (by kernel_rfl) (by kernel_rfl) ?_)
                      refine R.go 2 (R.any1 4 (by kernel_rfl) (by kernel_rfl) ?_)
                      refine R.go 2 (R.any1 5 (by kernel_rfl) (by kernel_rfl) ?_)
                      refine R.go 2 (R.any0 (by kernel_rfl) ?_)
                      exact R.met (by kernel_rfl) (by kernel_rfl)
                  · refine R.go 2 (R.any1 0 (by kernel_rfl) (by kernel_rfl) ?_)
                    refine R.go 2 (R.any1 3 (by kernel_rfl) (by kernel_rfl) ?_)
                    refine R.go 2 (R.any1 4 (by kernel_rfl) (by kernel_rfl) ?_)
                    refine R.go 2 (R.any1 5 (by kernel_rfl) (by kernel_rfl) ?_)
                    refine R.go 2 (R.any0 (by kernel_rfl) ?_)
                    exact R.met (by kernel_rfl) (by kernel_rfl)
                · refine R.frz 8 (by kernel_rfl) ?_
                  refine R.kfix 3 (us := usC) (by kernel_rfl) (hfC.frz 8 (LI (W ++ [0])) (Nat.le_of_ble_eq_true (by kernel_rfl))) ?_
                  exact R.retX (res := .tup [.agg [AI n_1, LI xs_2], .agg [AI m_3, LI ys_4], LI (W ++ [0])]) (hp' := [.box 120 [LB c, AI (p1_90 : Int), .int .u64 h1_91], .list eo1 so1 no1 co1, .list eo2 so2 no2 co2, .dead, .box 26 [AI n_1, LI xs_2], .box 26 [AI m_3, LI ys_4], .box 26 [AI n_1, LI xs_2], .box 26 [AI m_3, LI ys_4], .dead, rowA eI 2 1 [0]]) (by kernel_rfl) (by kernel_rfl) (by kernel_rfl) (by kernel_rfl) ⟨[0, 1, 2], by kernel_rfl, by decide, n_1, xs_2, m_3, ys_4, W ++ [0], p1_90, h1_91, by first | assumption | omega | (simp only [List.length_set, List.length_append, List.length_singleton]; omega), by first | assumption | omega | (simp only [List.length_set, List.length_append, List.length_singleton]; omega), by first | assumption | omega | (simp only [List.length_set, List.length_append, List.length_singleton]; omega), by kernel_rfl, by kernel_rfl⟩
              · refine R.go 3 (R.meet (⟨(frm 78 [(0, .ptr 0 0), (2, .ptr 4 0), (3, .ptr 5 0), (4, .ref 8), (5, .ptr 6 0), (6, .ptr 7 0), (7, .ref 8), (9, AI (x : Int)), (36, AI (x : Int)), (37, .ptr 6 0), (38, AI n_1), (39, .bool (decide ((x : Int) < n_1))), (50, .ptr 0 0), (51, AI v_61), (52, .bool (decide (v_61 = 0))), (53, .bool (decide (v_61 = 0))), (67, .bool (decide (v_61 = 1))), (68, .bool (decide (v_61 = 1))), (69, .ptr 0 0), (70, AI v_89), (71, .bool (decide (v_89 = 0))), (75, .agg [AI n_1, LI xs_2]), (76, .agg [AI m_3, LI ys_4]), (77, .ref 8)]), [.box 120 [LB c, AI (p1_90 : Int), .int .u64 h1_91], .list eo1 so1 no1 co1, .list eo2 so2 no2 co2, .frame usC frC, .box 26 [AI n_1, LI xs_2], .box 26 [AI m_3, LI ys_4], .box 26 [AI n_1, LI xs_2], .box 26 [AI m_3, LI ys_4], rowA eI 2 1 W]⟩ : St) (by kernel_rfl) ?_ ?_)
                · refine R.any (by decide +kernel) (by kernel_rfl) ?_
                  refine R.anyF 2 (by kernel_rfl) (np_meet _) ?_
                  refine R.any2 0 1 (by kernel_rfl) (by kernel_rfl) ?_ ?_
                  · refine R.go 2 (R.any2 1 3 (by kernel_rfl) (by kernel_rfl) ?_ ?_)
                    · refine R.go 2 (R.any1 3 (by kernel_rfl) (by kernel_rfl) ?_)
                      refine R.go 2 (R.any1 4 (by kernel_rfl) (by kernel_rfl) ?_)
                      refine R.go 2 (R.any1 5 (by kernel_rfl) (by kernel_rfl) ?_)
                      refine R.go 2 (R.any0 (by kernel_rfl) ?_)
                      exact R.met (by kernel_rfl) (by kernel_rfl)
                    · refine R.go 2 (R.any1 1 (by kernel_rfl) (by kernel_rfl) ?_)
                      refine R.go 2 (R.any1 4 (by kernel_rfl) (by kernel_rfl) ?_)
                      refine R.go 2 (R.any1 5 (by kernel_rfl) (by kernel_rfl) ?_)
                      refine R.go 2 (R.any0 (by kernel_rfl) ?_)
                      exact R.met (by kernel_rfl) (by kernel_rfl)
                  · refine R.go 2 (R.any1 0 (by kernel_rfl) (by kernel_rfl) ?_)
                    refine R.go 2 (R.any1 3 (by kernel_rfl) (by kernel_rfl) ?_)
                    refine R.go 2 (R.any1 4 (by kernel_rfl) (by kernel_rfl) ?_)
                    refine R.go 2 (R.any1 5 (by kernel_rfl) (by kernel_rfl) ?_)
                    refine R.go 2 (R.any0 (by kernel_rfl) ?_)
                    exact R.met (by kernel_rfl) (by kernel_rfl)
                · refine R.frz 8 (by kernel_rfl) ?_
                  refine R.kfix 3 (us := usC) (by kernel_rfl) (hfC.frz 8 (LI W) (Nat.le_of_ble_eq_true (by kernel_rfl))) ?_
                  exact R.retX (res := .tup [.agg [AI n_1, LI xs_2], .agg [AI m_3, LI ys_4], LI W]) (hp' := [.box 120 [LB c, AI (p1_90 : Int), .int .u64 h1_91], .list eo1 so1 no1 co1, .list eo2 so2 no2 co2, .dead, .box 26 [AI n_1, LI xs_2], .box 26 [AI m_3, LI ys_4], .box 26 [AI n_1, LI xs_2], .box 26 [AI m_3, LI ys_4], .dead]) (by kernel_rfl) (by kernel_rfl) (by kernel_rfl) (by kernel_rfl) ⟨[0, 1, 2], by kernel_rfl, by decide, n_1, xs_2, m_3, ys_4, W, p1_90, h1_91, by first | assumption | omega | (simp only [List.length_set, List.length_append, List.length_singleton]; omega), by first | assumption | omega | (simp only [List.length_set, List.length_append, List.length_singleton]; omega), by first | assumption | omega | (simp only [List.length_set, List.length_append, List.length_singleton]; omega), by kernel_rfl, by kernel_rfl⟩
            · refine R.go 3 (R.meet (⟨(frm 78 [(0, .ptr 0 0), (2, .ptr 4 0), (3, .ptr 5 0), (4, .ref 8), (5, .ptr 6 0), (6, .ptr 7 0), (7, .ref 8), (9, AI (x : Int)), (36, AI (x : Int)), (37, .ptr 6 0), (38, AI n_1), (39, .bool (decide ((x : Int) < n_1))), (50, .ptr 0 0), (51, AI v_61), (52, .bool (decide (v_61 = 0))), (53, .bool (decide (v_61 = 0))), (67, .bool (decide (v_61 = 1))), (68, .bool (decide (v_61 = 1))), (75, .agg [AI n_1, LI xs_2]), (76, .agg [AI m_3, LI ys_4]), (77, .ref 8)]), [.box 120 [LB c, AI (p1_62 : Int), .int .u64 h1_63], .list eo1 so1 no1 co1, .list eo2 so2 no2 co2, .frame usC frC, .box 26 [AI n_1, LI xs_2], .box 26 [AI m_3, LI ys_4], .box 26 [AI n_1, LI xs_2], .box 26 [AI m_3, LI ys_4], rowA eI 2 1 W]⟩ : St) (by kernel_rfl) ?_ ?_)
              · refine R.any (by decide +kernel) (by kernel_rfl) ?_
                refine R.anyF 2 (by kernel_rfl) (np_meet _) ?_
                refine R.any2 0 1 (by kernel_rfl) (by kernel_rfl) ?_ ?_
                · refine R.go 2 (R.any2 1 3 (by kernel_rfl) (by kernel_rfl) ?_ ?_)
                  · refine R.go 2 (R.any1 3 (by kernel_rfl) (by kernel_rfl) ?_)
                    refine R.go 2 (R.any1 4 (by kernel_rfl) (by kernel_rfl) ?_)
                    refine R.go 2 (R.any1 5 (by kernel_rfl) (by kernel_rfl) ?_)
                    refine R.go 2 (R.any0 (by kernel_rfl) ?_)
                    exact R.met (by kernel_rfl) (by kernel_rfl)
                  · refine R.go 2 (R.any1 1 (by kernel_rfl) (by kernel_rfl) ?_)
                    refine R.go 2 (R.any1 4 (by kernel_rfl) (by kernel_rfl) ?_)
                    refine R.go 2 (R.any1 5 (by kernel_rfl) (by kernel_rfl) ?_)
                    refine R.go 2 (R.any0 (by kernel_rfl) ?_)
                    exact R.met (by kernel_rfl) (by kernel_rfl)
                · refine R.go 2 (R.any1 0 (by kernel_rfl) (by kernel_rfl) ?_)
                  refine R.go 2 (R.any1 3 (by kernel_rfl) (by kernel_rfl) ?_)
                  refine R.go 2 (R.any1 4 (by kernel_rfl) (by kernel_rfl) ?_)
                  refine R.go 2 (R.any1 5 (by kernel_rfl) (by kernel_rfl) ?_)
                  refine R.go 2 (R.any0 (by kernel_rfl) ?_)
                  exact R.met (by kernel_rfl) (by kernel_rfl)
              · refine R.frz 8 (by kernel_rfl) ?_
                refine R.kfix 3 (us := usC) (by kernel_rfl) (hfC.frz 8 (LI W) (Nat.le_of_ble_eq_true (by kernel_rfl))) ?_
                exact R.retX (res := .tup [.agg [AI n_1, LI xs_2], .agg [AI m_3, LI ys_4], LI W]) (hp' := [.box 120 [LB c, AI (p1_62 : Int), .int .u64 h1_63], .list eo1 so1 no1 co1, .list eo2 so2 no2 co2, .dead, .box 26 [AI n_1, LI xs_2], .box 26 [AI m_3, LI ys_4], .box 26 [AI n_1, LI xs_2], .box 26 [AI m_3, LI ys_4], .dead]) (by kernel_rfl) (by kernel_rfl) (by kernel_rfl) (by kernel_rfl) ⟨[0, 1, 2], by kernel_rfl, by decide, n_1, xs_2, m_3, ys_4, W, p1_62, h1_63, by first | assumption | omega | (simp only [List.length_set, List.length_append, List.length_singleton]; omega), by first | assumption | omega | (simp only [List.length_set, List.length_append, List.length_singleton]; omega), by first | assumption | omega | (simp only [List.length_set, List.length_append, List.length_singleton]; omega), by kernel_rfl, by kernel_rfl⟩
    · have hil : ([] : List Int).length ≤ 50 := by first | omega | (simp; done) | (have hq : ((([]).length : Nat) : Int) = _ := (hgm _ (by omega)).1; omega)
      refine R.go 5 (R.callX (CallX.inF 3 usC frC (CallX.box 6 26 [AI m_3, LI ys_4] (CallX.box 5 26 [AI n_1, LI xs_2] (CallX.box 4 26 [AI 0, .nil] (CallX.box 3 26 [AI 0, .nil] (nextX_c_r7 c p1_5 h1_6 8 eo1 so1 no1 co1 eo2 so2 no2 co2 26 2 1 [AI 0, .nil] 26 2 1 [AI 0, .nil] 26 2 1 [AI n_1, LI xs_2] 26 2 1 [AI m_3, LI ys_4] 2 1 0 (rows eI []) hc) (by kernel_rfl) (by kernel_rfl) (by kernel_rfl) (by kernel_rfl) (by rintro _ _ ⟨_, _, _, _, rfl, rfl⟩; exact ⟨by kernel_rfl, by kernel_rfl, by kernel_rfl⟩)) (by kernel_rfl) (by kernel_rfl) (by kernel_rfl) (by kernel_rfl) (by rintro _ _ ⟨_, ⟨_, _, _, _, rfl, rfl⟩, rfl⟩; exact ⟨by kernel_rfl, by kernel_rfl, by kernel_rfl⟩)) (by kernel_rfl) (by kernel_rfl) (by kernel_rfl) (by kernel_rfl) (by rintro _ _ ⟨_, ⟨_, ⟨_, _, _, _, rfl, rfl⟩, rfl⟩, rfl⟩; exact ⟨by kernel_rfl, by kernel_rfl, by kernel_rfl⟩)) (by kernel_rfl) (by kernel_rfl) (by kernel_rfl) (by kernel_rfl) (by rintro _ _ ⟨_, ⟨_, ⟨_, ⟨_, _, _, _, rfl, rfl⟩, rfl⟩, rfl⟩, rfl⟩; exact ⟨by kernel_rfl, by kernel_rfl, by kernel_rfl⟩)) (Nat.le_of_ble_eq_true (by kernel_rfl)) (by kernel_rfl) (by kernel_rfl) (by rintro _ _ ⟨_, ⟨_, ⟨_, ⟨_, ⟨_, _, _, _, rfl, rfl⟩, rfl⟩, rfl⟩, rfl⟩, rfl⟩; exact Nat.le_of_ble_eq_true (by kernel_rfl))) (by kernel_rfl) (by kernel_rfl) (by kernel_rfl) ?_)
      rintro _ _ ⟨_, _, ⟨_, ⟨_, ⟨_, ⟨_, ⟨v_94, p1_95, h1_96, f97, rfl, rfl⟩, rfl⟩, rfl⟩, rfl⟩, rfl⟩, rfl, rfl⟩
      refine R.go 7 (R.cond (v_94 = 0) (by kernel_rfl) (fun c98 => ?_) (fun c98 => ?_))
      · refine R.go 10 (R.meet (⟨(frm 78 [(0, .ptr 0 0), (2, .ptr 4 0), (3, .ptr 5 0), (4, .ref 8), (5, .ptr 6 0), (6, .ptr 7 0), (7, .ref 8), (10, .tup [.agg [AI n_1, LI xs_2], .agg [AI m_3, LI ys_4]]), (11, .ptr 0 0), (12, .tup [.agg [AI n_1, LI xs_2], .agg [AI m_3, LI ys_4]]), (13, .agg [AI n_1, LI xs_2]), (14, .agg [AI m_3, LI ys_4]), (15, .ref 8), (16, .agg [AI n_1, LI xs_2]), (17, .bool (okFr n_1 xs_2)), (18, .bool (okFr n_1 xs_2)), (19, .agg [AI m_3, LI ys_4]), (20, .bool (okFr m_3 ys_4)), (21, .bool (okFr m_3 ys_4)), (50, .ptr 0 0), (51, AI v_94), (52, .bool (decide (v_94 = 0))), (53, .bool (decide (v_94 = 0))), (54, .ref 8), (55, AI 0), (56, .bool false), (75, .agg [AI n_1, LI xs_2]), (76, .agg [AI m_3, LI ys_4]), (77, .ref 8)]), [.box 120 [LB c, AI (p1_95 : Int), .int .u64 h1_96], .list eo1 so1 no1 co1, .list eo2 so2 no2 co2, .frame usC frC, .box 26 [AI n_1, LI xs_2], .box 26 [AI m_3, LI ys_4], .box 26 [AI n_1, LI xs_2], .box 26 [AI m_3, LI ys_4], rowA eI 2 1 []]⟩ : St) (by kernel_rfl) ?_ ?_)
        · refine R.any (by decide +kernel) (by kernel_rfl) ?_
          refine R.anyF 2 (by kernel_rfl) (np_meet _) ?_
          refine R.any2 0 1 (by kernel_rfl) (by kernel_rfl) ?_ ?_
          · refine R.go 2 (R.any2 1 3 (by kernel_rfl) (by kernel_rfl) ?_ ?_)
            · refine R.go 2 (R.any1 3 (by kernel_rfl) (by kernel_rfl) ?_)
              refine R.go 2 (R.any1 4 (by kernel_rfl) (by kernel_rfl) ?_)
              refine R.go 2 (R.any1 5 (by kernel_rfl) (by kernel_rfl) ?_)
              refine R.go 2 (R.any0 (by kernel_rfl) ?_)
              exact R.met (by kernel_rfl) (by kernel_rfl)
            · refine R.go 2 (R.any1 1 (by kernel_rfl) (by kernel_rfl) ?_)
              refine R.go 2 (R.any1 4 (by kernel_rfl) (by kernel_rfl) ?_)
              refine R.go 2 (R.any1 5 (by kernel_rfl) (by kernel_rfl) ?_)
              refine R.go 2 (R.any0 (by kernel_rfl) ?_)
              exact R.met (by kernel_rfl) (by kernel_rfl)
          · refine R.go 2 (R.any1 0 (by kernel_rfl) (by kernel_rfl) ?_)
            refine R.go 2 (R.any1 3 (by kernel_rfl) (by kernel_rfl) ?_)
            refine R.go 2 (R.any1 4 (by kernel_rfl) (by kernel_rfl) ?_)
            refine R.go 2 (R.any1 5 (by kernel_rfl) (by kernel_rfl) ?_)
            refine R.go 2 (R.any0 (by kernel_rfl) ?_)
            exact R.met (by kernel_rfl) (by kernel_rfl)
        · refine R.frz 8 (by kernel_rfl) ?_
          refine R.kfix 3 (us := usC) (by kernel_rfl) (hfC.frz 8 (LI []) (Nat.le_of_ble_eq_true (by kernel_rfl))) ?_
          exact R.retX (res := .tup [.agg [AI n_1, LI xs_2], .agg [AI m_3, LI ys_4], LI []]) (hp' := [.box 120 [LB c, AI (p1_95 : Int), .int .u64 h1_96], .list eo1 so1 no1 co1, .list eo2 so2 no2 co2, .dead, .box 26 [AI n_1, LI xs_2], .box 26 [AI m_3, LI ys_4], .box 26 [AI n_1, LI xs_2], .box 26 [AI m_3, LI ys_4], .dead]) (by kernel_rfl) (by kernel_rfl) (by kernel_rfl) (by kernel_rfl) ⟨[0, 1, 2], by kernel_rfl, by decide, n_1, xs_2, m_3, ys_4, [], p1_95, h1_96, by first | assumption | omega | (simp only [List.length_set, List.length_append, List.length_singleton]; omega), by first | assumption | omega | (simp only [List.length_set, List.length_append, List.length_singleton]; omega), by first | assumption | omega | (simp only [List.length_set, List.length_append, List.length_singleton]; omega), by kernel_rfl, by kernel_rfl⟩
      · refine R.go 5 (R.cond (v_94 = 1) (by kernel_rfl) (fun c99 => ?_) (fun c99 => ?_))
        · refine R.go 3 (R.callX (CallX.inF 3 usC frC (CallX.box 6 26 [AI m_3, LI ys_4] (CallX.box 5 26 [AI n_1, LI xs_2] (CallX.box 4 26 [AI 0, .nil] (CallX.box 3 26 [AI 0, .nil] (nextX_c_r7 c p1_95 h1_96 4 eo1 so1 no1 co1 eo2 so2 no2 co2 26 2 1 [AI 0, .nil] 26 2 1 [AI 0, .nil] 26 2 1 [AI n_1, LI xs_2] 26 2 1 [AI m_3, LI ys_4] 2 1 0 (rows eI []) hc) (by kernel_rfl) (by kernel_rfl) (by kernel_rfl) (by kernel_rfl) (by rintro _ _ ⟨_, _, _, _, rfl, rfl⟩; exact ⟨by kernel_rfl, by kernel_rfl, by kernel_rfl⟩)) (by kernel_rfl) (by kernel_rfl) (by kernel_rfl) (by kernel_rfl) (by rintro _ _ ⟨_, ⟨_, _, _, _, rfl, rfl⟩, rfl⟩; exact ⟨by kernel_rfl, by kernel_rfl, by kernel_rfl⟩)) (by kernel_rfl) (by kernel_rfl) (by kernel_rfl) (by kernel_rfl) (by rintro _ _ ⟨_, ⟨_, ⟨_, _, _, _, rfl, rfl⟩, rfl⟩, rfl⟩; exact ⟨by kernel_rfl, by kernel_rfl, by kernel_rfl⟩)) (by kernel_rfl) (by kernel_rfl) (by kernel_rfl) (by kernel_rfl) (by rintro _ _ ⟨_, ⟨_, ⟨_, ⟨_, _, _, _, rfl, rfl⟩, rfl⟩, rfl⟩, rfl⟩; exact ⟨by kernel_rfl, by kernel_rfl, by kernel_rfl⟩)) (Nat.le_of_ble_eq_true (by kernel_rfl)) (by kernel_rfl) (by kernel_rfl) (by rintro _ _ ⟨_, ⟨_, ⟨_, ⟨_, ⟨_, _, _, _, rfl, rfl⟩, rfl⟩, rfl⟩, rfl⟩, rfl⟩; exact Nat.le_of_ble_eq_true (by kernel_rfl))) (by kernel_rfl) (by kernel_rfl) (by kernel_rfl) ?_)
          rintro _ _ ⟨_, _, ⟨_, ⟨_, ⟨_, ⟨_, ⟨v_100, p1_101, h1_102, f103, rfl, rfl⟩, rfl⟩, rfl⟩, rfl⟩, rfl⟩, rfl, rfl⟩
          refine R.go 2 (R.cond (v_100 = 0) (by kernel_rfl) (fun c104 => ?_) (fun c104 => ?_))
          · refine R.go 3 (R.app eI [] [0] 8 2 1 8 (by kernel_rfl) eI_one (by decide) (by first | omega | (simp only [List.length_append, List.length_cons, List.length_nil]; omega)) (by kernel_rfl) ?_)
            refine R.kfix 3 (us := usC) (by kernel_rfl) (hfC.kill 8 (Nat.le_of_ble_eq_true (by kernel_rfl))) ?_
            refine R.go 4 (R.meet (⟨(frm 78 [(0, .ptr 0 0), (2, .ptr 4 0), (3, .ptr 5 0), (4, .ref 8), (5, .ptr 6 0), (6, .ptr 7 0), (7, .ref 8), (10, .tup [.agg [AI n_1, LI xs_2], .agg [AI m_3, LI ys_4]]), (11, .ptr 0 0), (12, .tup [.agg [AI n_1, LI xs_2], .agg [AI m_3, LI ys_4]]), (13, .agg [AI n_1, LI xs_2]), (14, .agg [AI m_3, LI ys_4]), (16, .agg [AI n_1, LI xs_2]), (17, .bool (okFr n_1 xs_2)), (18, .bool (okFr n_1 xs_2)), (19, .agg [AI m_3, LI ys_4]), (20, .bool (okFr m_3 ys_4)), (21, .bool (okFr m_3 ys_4)), (50, .ptr 0 0), (51, AI v_94), (52, .bool (decide (v_94 = 0))), (53, .bool (decide (v_94 = 0))), (67, .bool (decide (v_94 = 1))), (68, .bool (decide (v_94 = 1))), (69, .ptr 0 0), (70, AI v_100), (71, .bool (decide (v_100 = 0))), (73, .ref 9), (74, .ref 8), (75, .agg [AI n_1, LI xs_2]), (76, .agg [AI m_3, LI ys_4]), (77, .ref 8)]), [.box 120 [LB c, AI (p1_101 : Int), .int .u64 h1_102], .list eo1 so1 no1 co1, .list eo2 so2 no2 co2, .frame usC frC, .box 26 [AI n_1, LI xs_2], .box 26 [AI m_3, LI ys_4], .box 26 [AI n_1, LI xs_2], .box 26 [AI m_3, LI ys_4], rowA eI 2 1 [0], rowA eI 2 1 [0]]⟩ : St) (by kernel_rfl) ?_ ?_)
            · refine R.any (by decide +kernel) (by kernel_rfl) ?_
              refine R.anyF 2 (by kernel_rfl) (np_meet _) ?_
              refine R.any2 0 1 (by kernel_rfl) (by kernel_rfl) ?_ ?_
              · refine R.go 2 (R.any2 1 3 (by kernel_rfl) (by kernel_rfl) ?_ ?_)
                · refine R.go 2 (R.any1 3 (by kernel_rfl) (by kernel_rfl) ?_)
                  refine R.go 2 (R.any1 4 (by kernel_rfl) (by kernel_rfl) ?_)
                  refine R.go 2 (R.any1 5 (by kernel_rfl) (by kernel_rfl) ?_)
                  refine R.go 2 (R.any0 (by kernel_rfl) ?_)
                  exact R.met (by kernel_rfl) (by kernel_rfl)
                · refine R.go 2 (R.any1 1 (by kernel_rfl) (by kernel_rfl) ?_)
                  refine R.go 2 (R.any1 4 (by kernel_rfl) (by kernel_rfl) ?_)
                  refine R.go 2 (R.any1 5 (by kernel_rfl) (by kernel_rfl) ?_)
                  refine R.go 2 (R.any0 (by kernel_rfl) ?_)
                  exact R.met (by kernel_rfl) (by kernel_rfl)
              · refine R.go 2 (R.any1 0 (by kernel_rfl) (by kernel_rfl) ?_)
                refine R.go 2 (R.any1 3 (by kernel_rfl) (by kernel_rfl) ?_)
                refine R.go 2 (R.any1 4 (by kernel_rfl) (by kernel_rfl) ?_)
                refine R.go 2 (R.any1 5 (by kernel_rfl) (by kernel_rfl) ?_)
                refine R.go 2 (R.any0 (by kernel_rfl) ?_)
                exact R.met (by kernel_rfl) (by kernel_rfl)
            · refine R.frz 8 (by kernel_rfl) ?_
              refine R.kfix 3 (us := usC) (by kernel_rfl) (hfC.frz 8 (LI [0]) (Nat.le_of_ble_eq_true (by kernel_rfl))) ?_
              exact R.retX (res := .tup [.agg [AI n_1, LI xs_2], .agg [AI m_3, LI ys_4], LI [0]]) (hp' := [.box 120 [LB c, AI (p1_101 : Int), .int .u64 h1_102], .list eo1 so1 no1 co1, .list eo2 so2 no2 co2, .dead, .box 26 [AI n_1, LI xs_2], .box 26 [AI m_3, LI ys_4], .box 26 [AI n_1, LI xs_2], .box 26 [AI m_3, LI ys_4], .dead, rowA eI 2 1 [0]]) (by kernel_rfl) (by kernel_rfl) (by kernel_rfl) (by kernel_rfl) ⟨[0, 1, 2], by kernel_rfl, by decide, n_1, xs_2, m_3, ys_4, [0], p1_101, h1_102, by first | assumption | omega | (simp only [List.length_set, List.length_append, List.length_singleton]; omega), by first | assumption | omega | (simp only [List.length_set, List.length_append, List.length_singleton]; omega), by first | assumption | omega | (simp only [List.length_set, List.length_append, List.length_singleton]; omega), by kernel_rfl, by kernel_rfl⟩
          · refine R.go 3 (R.meet (⟨(frm 78 [(0, .ptr 0 0), (2, .ptr 4 0), (3, .ptr 5 0), (4, .ref 8), (5, .ptr 6 0), (6, .ptr 7 0), (7, .ref 8), (10, .tup [.agg [AI n_1, LI xs_2], .agg [AI m_3, LI ys_4]]), (11, .ptr 0 0), (12, .tup [.agg [AI n_1, LI xs_2], .agg [AI m_3, LI ys_4]]), (13, .agg [AI n_1, LI xs_2]), (14, .agg [AI m_3, LI ys_4]), (15, .ref 8), (16, .agg [AI n_1, LI xs_2]), (17, .bool (okFr n_1 xs_2)), (18, .bool (okFr n_1 xs_2)), (19, .agg [AI m_3, LI ys_4]), (20, .bool (okFr m_3 ys_4)), (21, .bool (okFr m_3 ys_4)), (50, .ptr 0 0), (51, AI v_94), (52, .bool (decide (v_94 = 0))), (53, .bool (decide (v_94 = 0))), (67, .bool (decide (v_94 = 1))), (68, .bool (decide (v_94 = 1))), (69, .ptr 0 0), (70, AI v_100), (71, .bool (decide (v_100 = 0))), (75, .agg [AI n_1, LI xs_2]), (76, .agg [AI m_3, LI ys_4]), (77, .ref 8)]), [.box 120 [LB c, AI (p1_101 : Int), .int .u64 h1_102], .list eo1 so1 no1 co1, .list eo2 so2 no2 co2, .frame usC frC, .box 26 [AI n_1, LI xs_2], .box 26 [AI m_3, LI ys_4], .box 26 [AI n_1, LI xs_2], .box 26 [AI m_3, LI ys_4], rowA eI 2 1 []]⟩ : St) (by kernel_rfl) ?_ ?_)
            · refine R.any (by decide +kernel) (by kernel_rfl) ?_
              refine R.anyF 2 (by kernel_rfl) (np_meet _) ?_
              refine R.any2 0 1 (by kernel_rfl) (by kernel_rfl) ?_ ?_
              · refine R.go 2 (R.any2 1 3 (by kernel_rfl) (by kernel_rfl) ?_ ?_)
                · refine R.go 2 (R.any1 3 (by kernel_rfl) (by kernel_rfl) ?_)
                  refine R.go 2 (R.any1 4 (by kernel_rfl) (by kernel_rfl) ?_)
                  refine R.go 2 (R.any1 5 (by kernel_rfl) (by kernel_rfl) ?_)
                  refine R.go 2 (R.any0 (by kernel_rfl) ?_)
                  exact R.met (by kernel_rfl) (by kernel_rfl)
                · refine R.go 2 (R.any1 1 (by kernel_rfl) (by kernel_rfl) ?_)
                  refine R.go 2 (R.any1 4 (by kernel_rfl) (by kernel_rfl) ?_)
                  refine R.go 2 (R.any1 5 (by kernel_rfl) (by kernel_rfl) ?_)
                  refine R.go 2 (R.any0 (by kernel_rfl) ?_)
                  exact R.met (by kernel_rfl) (by kernel_rfl)
              · refine R.go 2 (R.any1 0 (by kernel_rfl) (by kernel_rfl) ?_)
                refine R.go 2 (R.any1 3 (by kernel_rfl) (by kernel_rfl) ?_)
                refine R.go 2 (R.any1 4 (by kernel_rfl) (by kernel_rfl) ?_)
                refine R.go 2 (R.any1 5 (by kernel_rfl) (by kernel_rfl) ?_)
                refine R.go 2 (R.any0 (by kernel_rfl) ?_)
                exact R.met (by kernel_rfl) (by kernel_rfl)
            · refine R.frz 8 (by kernel_rfl) ?_
              refine R.kfix 3 (us := usC) (by kernel_rfl) (hfC.frz 8 (LI []) (Nat.le_of_ble_eq_true (by kernel_rfl))) ?_
              exact R.retX (res := .tup [.agg [AI n_1, LI xs_2], .agg [AI m_3, LI ys_4], LI []]) (hp' := [.box 120 [LB c, AI (p1_101 : Int), .int .u64 h1_102], .list eo1 so1 no1 co1, .list eo2 so2 no2 co2, .dead, .box 26 [AI n_1, LI xs_2], .box 26 [AI m_3, LI ys_4], .box 26 [AI n_1, LI xs_2], .box 26 [AI m_3, LI ys_4], .dead]) (by kernel_rfl) (by kernel_rfl) (by kernel_rfl) (by kernel_rfl) ⟨[0, 1, 2], by kernel_rfl, by decide, n_1, xs_2, m_3, ys_4, [], p1_101, h1_102, by first | assumption | omega | (simp only [List.length_set, List.length_append, List.length_singleton]; omega), by first | assumption | omega | (simp only [List.length_set, List.length_append, List.length_singleton]; omega), by first | assumption | omega | (simp only [List.length_set, List.length_append, List.length_singleton]; omega), by kernel_rfl, by kernel_rfl⟩
        · refine R.go 3 (R.meet (⟨(frm 78 [(0, .ptr 0 0), (2, .ptr 4 0), (3, .ptr 5 0), (4, .ref 8), (5, .ptr 6 0), (6, .ptr 7 0), (7, .ref 8), (10, .tup [.agg [AI n_1, LI xs_2], .agg [AI m_3, LI ys_4]]), (11, .ptr 0 0), (12, .tup [.agg [AI n_1, LI xs_2], .agg [AI m_3, LI ys_4]]), (13, .agg [AI n_1, LI xs_2]), (14, .agg [AI m_3, LI ys_4]), (15, .ref 8), (16, .agg [AI n_1, LI xs_2]), (17, .bool (okFr n_1 xs_2)), (18, .bool (okFr n_1 xs_2)), (19, .agg [AI m_3, LI ys_4]), (20, .bool (okFr m_3 ys_4)), (21, .bool (okFr m_3 ys_4)), (50, .ptr 0 0), (51, AI v_94), (52, .bool (decide (v_94 = 0))), (53, .bool (decide (v_94 = 0))), (67, .bool (decide (v_94 = 1))), (68, .bool (decide (v_94 = 1))), (75, .agg [AI n_1, LI xs_2]), (76, .agg [AI m_3, LI ys_4]), (77, .ref 8)]), [.box 120 [LB c, AI (p1_95 : Int), .int .u64 h1_96], .list eo1 so1 no1 co1, .list eo2 so2 no2 co2, .frame usC frC, .box 26 [AI n_1, LI xs_2], .box 26 [AI m_3, LI ys_4], .box 26 [AI n_1, LI xs_2], .box 26 [AI m_3, LI ys_4], rowA eI 2 1 []]⟩ : St) (by kernel_rfl) ?_ ?_)
          · refine R.any (by decide +kernel) (by kernel_rfl) ?_
            refine R.anyF 2 (by kernel_rfl) (np_meet _) ?_
            refine R.any2 0 1 (by kernel_rfl) (by kernel_rfl) ?_ ?_
            · refine R.go 2 (R.any2 1 3 (by kernel_rfl) (by kernel_rfl) ?_ ?_)
              · refine R.go 2 (R.any1 3 (by kernel_rfl) (by kernel_rfl) ?_)
                refine R.go 2 (R.any1 4 (by kernel_rfl) (by kernel_rfl) ?_)
                refine R.go 2 (R.any1 5 (by kernel_rfl) (by kernel_rfl) ?_)
                refine R.go 2 (R.any0 (by kernel_rfl) ?_)
                exact R.met (by kernel_rfl) (by kernel_rfl)
              · refine R.go 2 (R.any1 1 (by kernel_rfl) (by kernel_rfl) ?_)
                refine R.go 2 (R.any1 4 (by kernel_rfl) (by kernel_rfl) ?_)
                refine R.go 2 (R.any1 5 (by kernel_rfl) (by kernel_rfl) ?_)
                refine R.go 2 (R.any0 (by kernel_rfl) ?_)
                exact R.met (by kernel_rfl) (by kernel_rfl)
            · refine R.go 2 (R.any1 0 (by kernel_rfl) (by kernel_rfl) ?_)
              refine R.go 2 (R.any1 3 (by kernel_rfl) (by kernel_rfl) ?_)
              refine R.go 2 (R.any1 4 (by kernel_rfl) (by kernel_rfl) ?_)
              refine R.go 2 (R.any1 5 (by kernel_rfl) (by kernel_rfl) ?_)
              refine R.go 2 (R.any0 (by kernel_rfl) ?_)
              exact R.met (by kernel_rfl) (by kernel_rfl)
          · refine R.frz 8 (by kernel_rfl) ?_
            refine R.kfix 3 (us := usC) (by kernel_rfl) (hfC.frz 8 (LI []) (Nat.le_of_ble_eq_true (by kernel_rfl))) ?_
            exact R.retX (res := .tup [.agg [AI n_1, LI xs_2], .agg [AI m_3, LI ys_4], LI []]) (hp' := [.box 120 [LB c, AI (p1_95 : Int), .int .u64 h1_96], .list eo1 so1 no1 co1, .list eo2 so2 no2 co2, .dead, .box 26 [AI n_1, LI xs_2], .box 26 [AI m_3, LI ys_4], .box 26 [AI n_1, LI xs_2], .box 26 [AI m_3, LI ys_4], .dead]) (by kernel_rfl) (by kernel_rfl) (by kernel_rfl) (by kernel_rfl) ⟨[0, 1, 2], by kernel_rfl, by decide, n_1, xs_2, m_3, ys_4, [], p1_95, h1_96, by first | assumption | omega | (simp only [List.length_set, List.length_append, List.length_singleton]; omega), by first | assumption | omega | (simp only [List.length_set, List.length_append, List.length_singleton]; omega), by first | assumption | omega | (simp only [List.length_set, List.length_append, List.length_singleton]; omega), by kernel_rfl, by kernel_rfl⟩
  · refine R.skp (okFr n_1 xs_2) true (by kernel_rfl) c9 (by kernel_rfl) ?_
    refine R.skp (okFr n_1 xs_2) true (by kernel_rfl) c9 (by kernel_rfl) ?_
    refine R.pick (okFr n_1 xs_2) false (by kernel_rfl) c9 (by kernel_rfl) ?_
    have hil : ([] : List Int).length ≤ 50 := by first | omega | (simp; done) | (have hq : ((([]).length : Nat) : Int) = _ := (hgm _ (by omega)).1; omega)
    refine R.go 7 (R.callX (CallX.inF 3 usC frC (CallX.box 6 26 [AI m_3, LI ys_4] (CallX.box 5 26 [AI n_1, LI xs_2] (CallX.box 4 26 [AI 0, .nil] (CallX.box 3 26 [AI 0, .nil] (nextX_c_r7 c p1_5 h1_6 8 eo1 so1 no1 co1 eo2 so2 no2 co2 26 2 1 [AI 0, .nil] 26 2 1 [AI 0, .nil] 26 2 1 [AI n_1, LI xs_2] 26 2 1 [AI m_3, LI ys_4] 2 1 0 (rows eI []) hc) (by kernel_rfl) (by kernel_rfl) (by kernel_rfl) (by kernel_rfl) (by rintro _ _ ⟨_, _, _, _, rfl, rfl⟩; exact ⟨by kernel_rfl, by kernel_rfl, by kernel_rfl⟩)) (by kernel_rfl) (by kernel_rfl) (by kernel_rfl) (by kernel_rfl) (by rintro _ _ ⟨_, ⟨_, _, _, _, rfl, rfl⟩, rfl⟩; exact ⟨by kernel_rfl, by kernel_rfl, by kernel_rfl⟩)) (by kernel_rfl) (by kernel_rfl) (by kernel_rfl) (by kernel_rfl) (by rintro _ _ ⟨_, ⟨_, ⟨_, _, _, _, rfl, rfl⟩, rfl⟩, rfl⟩; exact ⟨by kernel_rfl, by kernel_rfl, by kernel_rfl⟩)) (by kernel_rfl) (by kernel_rfl) (by kernel_rfl) (by kernel_rfl) (by rintro _ _ ⟨_, ⟨_, ⟨_, ⟨_, _, _, _, rfl, rfl⟩, rfl⟩, rfl⟩, rfl⟩; exact ⟨by kernel_rfl, by kernel_rfl, by kernel_rfl⟩)) (Nat.le_of_ble_eq_true (by kernel_rfl)) (by kernel_rfl) (by kernel_rfl) (by rintro _ _ ⟨_, ⟨_, ⟨_, ⟨_, ⟨_, _, _, _, rfl, rfl⟩, rfl⟩, rfl⟩, rfl⟩, rfl⟩; exact Nat.le_of_ble_eq_true (by kernel_rfl))) (by kernel_rfl) (by kernel_rfl) (by kernel_rfl) ?_)
    rintro _ _ ⟨_, _, ⟨_, ⟨_, ⟨_, ⟨_, ⟨v_105, p1_106, h1_107, f108, rfl, rfl⟩, rfl⟩, rfl⟩, rfl⟩, rfl⟩, rfl, rfl⟩
    refine R.go 7 (R.cond (v_105 = 0) (by kernel_rfl) (fun c109 => ?_) (fun c109 => ?_))
    · refine R.go 10 (R.meet (⟨(frm 78 [(0, .ptr 0 0), (2, .ptr 4 0), (3, .ptr 5 0), (4, .ref 8), (5, .ptr 6 0), (6, .ptr 7 0), (7, .ref 8), (10, .tup [.agg [AI n_1, LI xs_2], .agg [AI m_3, LI ys_4]]), (11, .ptr 0 0), (12, .tup [.agg [AI n_1, LI xs_2], .agg [AI m_3, LI ys_4]]), (13, .agg [AI n_1, LI xs_2]), (14, .agg [AI m_3, LI ys_4]), (15, .ref 8), (16, .agg [AI n_1, LI xs_2]), (17, .bool (okFr n_1 xs_2)), (18, .bool (okFr n_1 xs_2)), (19, .tup []), (20, .tup []), (21, .bool false), (50, .ptr 0 0), (51, AI v_105), (52, .bool (decide (v_105 = 0))), (53, .bool (decide (v_105 = 0))), (54, .ref 8), (55, AI 0), (56, .bool false), (75, .agg [AI n_1, LI xs_2]), (76, .agg [AI m_3, LI ys_4]), (77, .ref 8)]), [.box 120 [LB c, AI (p1_106 : Int), .int .u64 h1_107], .list eo1 so1 no1 co1, .list eo2 so2 no2 co2, .frame usC frC, .box 26 [AI n_1, LI xs_2], .box 26 [AI m_3, LI ys_4], .box 26 [AI n_1, LI xs_2], .box 26 [AI m_3, LI ys_4], rowA eI 2 1 []]⟩ : St) (by kernel_rfl) ?_ ?_)
      · refine R.any (by decide +kernel) (by kernel_rfl) ?_
        refine R.anyF 2 (by kernel_rfl) (np_meet _) ?_
        refine R.any2 0 1 (by kernel_rfl) (by kernel_rfl) ?_ ?_
        · refine R.go 2 (R.any2 1 3 (by kernel_rfl) (by kernel_rfl) ?_ ?_)
          · refine R.go 2 (R.any1 3 (by kernel_rfl) (by kernel_rfl) ?_)
            refine R.go 2 (R.any1 4 (by kernel_rfl) (by kernel_rfl) ?_)
            refine R.go 2 (R.any1 5 (by kernel_rfl) (by kernel_rfl) ?_)
            refine R.go 2 (R.any0 (by kernel_rfl) ?_)
            exact R.met (by kernel_rfl) (by kernel_rfl)
          · refine R.go 2 (R.any1 1 (by kernel_rfl) (by kernel_rfl) ?_)
            refine R.go 2 (R.any1 4 (by kernel_rfl) (by kernel_rfl) ?_)
            refine R.go 2 (R.any1 5 (by kernel_rfl) (by kernel_rfl) ?_)
            refine R.go 2 (R.any0 (by kernel_rfl) ?_)
            exact R.met (by kernel_rfl) (by kernel_rfl)
        · refine R.go 2 (R.any1 0 (by kernel_rfl) (by kernel_rfl) ?_)
          refine R.go 2 (R.any1 3 (by kernel_rfl) (by kernel_rfl) ?_)
          refine R.go 2 (R.any1 4 (by kernel_rfl) (by kernel_rfl) ?_)
          refine R.go 2 (R.any1 5 (by kernel_rfl) (by kernel_rfl) ?_)
          refine R.go 2 (R.any0 (by kernel_rfl) ?_)
          exact R.met (by kernel_rfl) (by kernel_rfl)
      · refine R.frz 8 (by kernel_rfl) ?_
        refine R.kfix 3 (us := usC) (by kernel_rfl) (hfC.frz 8 (LI []) (Nat.le_of_ble_eq_true (by kernel_rfl))) ?_
        exact R.retX (res := .tup [.agg [AI n_1, LI xs_2], .agg [AI m_3, LI ys_4], LI []]) (hp' := [.box 120 [LB c, AI (p1_106 : Int), .int .u64 h1_107], .list eo1 so1 no1 co1, .list eo2 so2 no2 co2, .dead, .box 26 [AI n_1, LI xs_2], .box 26 [AI m_3, LI ys_4], .box 26 [AI n_1, LI xs_2], .box 26 [AI m_3, LI ys_4], .dead]) (by kernel_rfl) (by kernel_rfl) (by kernel_rfl) (by kernel_rfl) ⟨[0, 1, 2], by kernel_rfl, by decide, n_1, xs_2, m_3, ys_4, [], p1_106, h1_107, by first | assumption | omega | (simp only [List.length_set, List.length_append, List.length_singleton]; omega), by first | assumption | omega | (simp only [List.length_set, List.length_append, List.length_singleton]; omega), by first | assumption | omega | (simp only [List.length_set, List.length_append, List.length_singleton]; omega), by kernel_rfl, by kernel_rfl⟩
    · refine R.go 5 (R.cond (v_105 = 1) (by kernel_rfl) (fun c110 => ?_) (fun c110 => ?_))
      · refine R.go 3 (R.callX (CallX.inF 3 usC frC (CallX.box 6 26 [AI m_3, LI ys_4] (CallX.box 5 26 [AI n_1, LI xs_2] (CallX.box 4 26 [AI 0, .nil] (CallX.box 3 26 [AI 0, .nil] (nextX_c_r7 c p1_106 h1_107 4 eo1 so1 no1 co1 eo2 so2 no2 co2 26 2 1 [AI 0, .nil] 26 2 1 [AI 0, .nil] 26 2 1 [AI n_1, LI xs_2] 26 2 1 [AI m_3, LI ys_4] 2 1 0 (rows eI []) hc) (by kernel_rfl) (by kernel_rfl) (by kernel_rfl) (by kernel_rfl) (by rintro _ _ ⟨_, _, _, _, rfl, rfl⟩; exact ⟨by kernel_rfl, by kernel_rfl, by kernel_rfl⟩)) (by kernel_rfl) (by kernel_rfl) (by kernel_rfl) (by kernel_rfl) (by rintro _ _ ⟨_, ⟨_, _, _, _, rfl, rfl⟩, rfl⟩; exact ⟨by kernel_rfl, by kernel_rfl, by kernel_rfl⟩)) (by kernel_rfl) (by kernel_rfl) (by kernel_rfl) (by kernel_rfl) (by rintro _ _ ⟨_, ⟨_, ⟨_, _, _, _, rfl, rfl⟩, rfl⟩, rfl⟩; exact ⟨by kernel_rfl, by kernel_rfl, by kernel_rfl⟩)) (by kernel_rfl) (by kernel_rfl) (by kernel_rfl) (by kernel_rfl) (by rintro _ _ ⟨_, ⟨_, ⟨_, ⟨_, _, _, _, rfl, rfl⟩, rfl⟩, rfl⟩, rfl⟩; exact ⟨by kernel_rfl, by kernel_rfl, by kernel_rfl⟩)) (Nat.le_of_ble_eq_true (by kernel_rfl)) (by kernel_rfl) (by kernel_rfl) (by rintro _ _ ⟨_, ⟨_, ⟨_, ⟨_, ⟨_, _, _, _, rfl, rfl⟩, rfl⟩, rfl⟩, rfl⟩, rfl⟩; exact Nat.le_of_ble_eq_true (by kernel_rfl))) (by kernel_rfl) (by kernel_rfl) (by kernel_rfl) ?_)
        rintro _ _ ⟨_, _, ⟨_, ⟨_, ⟨_, ⟨_, ⟨v_111, p1_112, h1_113, f114, rfl, rfl⟩, rfl⟩, rfl⟩, rfl⟩, rfl⟩, rfl, rfl⟩
        refine R.go 2 (R.cond (v_111 = 0) (by kernel_rfl) (fun c115 => ?_) (fun c115 => ?_))
        · refine R.go 3 (R.app eI [] [0] 8 2 1 8 (by kernel_rfl) eI_one (by decide) (by first | omega | (simp only [List.length_append, List.length_cons, List.length_nil]; omega)) (by kernel_rfl) ?_)
          refine R.kfix 3 (us := usC) (by kernel_rfl) (hfC.kill 8 (Nat.le_of_ble_eq_true (by kernel_rfl))) ?_
          refine R.go 4 (R.meet (⟨(frm 78 [(0, .ptr 0 0), (2, .ptr 4 0), (3, .ptr 5 0), (4, .ref 8), (5, .ptr 6 0), (6, .ptr 7 0), (7, .ref 8), (10, .tup [.agg [AI n_1, LI xs_2], .agg [AI m_3, LI ys_4]]), (11, .ptr 0 0), (12, .tup [.agg [AI n_1, LI xs_2], .agg [AI m_3, LI ys_4]]), (13, .agg [AI n_1, LI xs_2]), (14, .agg [AI m_3, LI ys_4]), (16, .agg [AI n_1, LI xs_2]), (17, .bool (okFr n_1 xs_2)), (18, .bool (okFr n_1 xs_2)), (19, .tup []), (20, .tup []), (21, .bool false), (50, .ptr 0 0), (51, AI v_105), (52, .bool (decide (v_105 = 0))), (53, .bool (decide (v_105 = 0))), (67, .bool (decide (v_105 = 1))), (68, .bool (decide (v_105 = 1))), (69, .ptr 0 0), (70, AI v_111), (71, .bool (decide (v_111 = 0))), (73, .ref 9), (74, .ref 8), (75, .agg [AI n_1, LI xs_2]), (76, .agg [AI m_3, LI ys_4]), (77, .ref 8)]), [.box 120 [LB c, AI (p1_112 : Int), .int .u64 h1_113], .list eo1 so1 no1 co1, .list eo2 so2 no2 co2, .frame usC frC, .box 26 [AI n_1, LI xs_2], .box 26 [AI m_3, LI ys_4], .box 26 [AI n_1, LI xs_2], .box 26 [AI m_3, LI ys_4], rowA eI 2 1 [0], rowA eI 2 1 [0]]⟩ : St) (by kernel_rfl) ?_ ?_)
          · refine R.any (by decide +kernel) (by kernel_rfl) ?_
            refine R.anyF 2 (by kernel_rfl) (np_meet _) ?_
            refine R.any2 0 1 (by kernel_rfl) (by kernel_rfl) ?_ ?_
            · refine R.go 2 (R.any2 1 3 (by kernel_rfl) (by kernel_rfl) ?_ ?_)
              · refine R.go 2 (R.any1 3 (by kernel_rfl) (by kernel_rfl) ?_)
                refine R.go 2 (R.any1 4 (by kernel_rfl) (by kernel_rfl) ?_)
                refine R.go 2 (R.any1 5 (by kernel_rfl) (by kernel_rfl) ?_)
                refine R.go 2 (R.any0 (by kernel_rfl) ?_)
                exact R.met (by kernel_rfl) (by kernel_rfl)
              · refine R.go 2 (R.any1 1 (by kernel_rfl) (by kernel_rfl) ?_)
                refine R.go 2 (R.any1 4 (by kernel_rfl) (by kernel_rfl) ?_)
                refine R.go 2 (R.any1 5 (by kernel_rfl) (by kernel_rfl) ?_)
                refine R.go 2 (R.any0 (by kernel_rfl) ?_)
                exact R.met (by kernel_rfl) (by kernel_rfl)
            · refine R.go 2 (R.any1 0 (by kernel_rfl) (by kernel_rfl) ?_)
              refine R.go 2 (R.any1 3 (by kernel_rfl) (by kernel_rfl) ?_)
              refine R.go 2 (R.any1 4 (by kernel_rfl) (by kernel_rfl) ?_)
              refine R.go 2 (R.any1 5 (by kernel_rfl) (by kernel_rfl) ?_)
              refine R.go 2 (R.any0 (by kernel_rfl) ?_)
              exact R.met (by kernel_rfl) (by kernel_rfl)
          · refine R.frz 8 (by kernel_rfl) ?_
            refine R.kfix 3 (us := usC) (by kernel_rfl) (hfC.frz 8 (LI [0]) (Nat.le_of_ble_eq_true (by kernel_rfl))) ?_
            exact R.retX (res := .tup [.agg [AI n_1, LI xs_2], .agg [AI m_3, LI ys_4], LI [0]]) (hp' := [.box 120 [LB c, AI (p1_112 : Int), .int .u64 h1_113], .list eo1 so1 no1 co1, .list eo2 so2 no2 co2, .dead, .box 26 [AI n_1, LI xs_2], .box 26 [AI m_3, LI ys_4], .box 26 [AI n_1, LI xs_2], .box 26 [AI m_3, LI ys_4], .dead, rowA eI 2 1 [0]]) (by kernel_rfl) (by kernel_rfl) (by kernel_rfl) (by kernel_rfl) ⟨[0, 1, 2], by kernel_rfl, by decide, n_1, xs_2, m_3, ys_4, [0], p1_112, h1_113, by first | assumption | omega | (simp only [List.length_set, List.length_append, List.length_singleton]; omega), by first | assumption | omega | (simp only [List.length_set, List.length_append, List.length_singleton]; omega), by first | assumption | omega | (simp only [List.length_set, List.length_append, List.length_singleton]; omega), by kernel_rfl, by kernel_rfl⟩
        · refine R.go 3 (R.meet (⟨(frm 78 [(0, .ptr 0 0), (2, .ptr 4 0), (3, .ptr 5 0), (4, .ref 8), (5, .ptr 6 0), (6, .ptr 7 0), (7, .ref 8), (10, .tup [.agg [AI n_1, LI xs_2], .agg [AI m_3, LI ys_4]]), (11, .ptr 0 0), (12, .tup [.agg [AI n_1, LI xs_2], .agg [AI m_3, LI ys_4]]), (13, .agg [AI n_1, LI xs_2]), (14, .agg [AI m_3, LI ys_4]), (15, .ref 8), (16, .agg [AI n_1, LI xs_2]), (17, .bool (okFr n_1 xs_2)), (18, .bool (okFr n_1 xs_2)), (19, .tup []), (20, .tup []), (21, .bool false), (50, .ptr 0 0), (51, AI v_105), (52, .bool (decide (v_105 = 0))), (53, .bool (decide (v_105 = 0))), (67, .bool (decide (v_105 = 1))), (68, .bool (decide (v_105 = 1))), (69, .ptr 0 0), (70, AI v_111), (71, .bool (decide (v_111 = 0))), (75, .agg [AI n_1, LI xs_2]), (76, .agg [AI m_3, LI ys_4]), (77, .ref 8)]), [.box 120 [LB c, AI (p1_112 : Int), .int .u64 h1_113], .list eo1 so1 no1 co1, .list eo2 so2 no2 co2, .frame usC frC, .box 26 [AI n_1, LI xs_2], .box 26 [AI m_3, LI ys_4], .box 26 [AI n_1, LI xs_2], .box 26 [AI m_3, LI ys_4], rowA eI 2 1 []]⟩ : St) (by kernel_rfl) ?_ ?_)
          · refine R.any (by decide +kernel) (by kernel_rfl) ?_
            refine R.anyF 2 (by kernel_rfl) (np_meet _) ?_
            refine R.any2 0 1 (by kernel_rfl) (by kernel_rfl) ?_ ?_
            · refine R.go 2 (R.any2 1 3 (by kernel_rfl) (by kernel_rfl) ?_ ?_)
              · refine R.go 2 (R.any1 3 (by kernel_rfl) (by kernel_rfl) ?_)
                refine R.go 2 (R.any1 4 (by kernel_rfl) (by kernel_rfl) ?_)
                refine R.go 2 (R.any1 5 (by kernel_rfl) (by kernel_rfl) ?_)
                refine R.go 2 (R.any0 (by kernel_rfl) ?_)
                exact R.met (by kernel_rfl) (by kernel_rfl)
              · refine R.go 2 (R.any1 1 (by kernel_rfl) (by kernel_rfl) ?_)
                refine R.go 2 (R.any1 4 (by kernel_rfl) (by kernel_rfl) ?_)
                refine R.go 2 (R.any1 5 (by kernel_rfl) (by kernel_rfl) ?_)
                refine R.go 2 (R.any0 (by kernel_rfl) ?_)
                exact R.met (by kernel_rfl) (by kernel_rfl)
            · refine R.go 2 (R.any1 0 (by kernel_rfl) (by kernel_rfl) ?_)
              refine R.go 2 (R.any1 3 (by kernel_rfl) (by kernel_rfl) ?_)
              refine R.go 2 (R.any1 4 (by kernel_rfl) (by kernel_rfl) ?_)
              refine R.go 2 (R.any1 5 (by kernel_rfl) (by kernel_rfl) ?_)
              refine R.go 2 (R.any0 (by kernel_rfl) ?_)
              exact R.met (by kernel_rfl) (by kernel_rfl)
          · refine R.frz 8 (by kernel_rfl) ?_
            refine R.kfix 3 (us := usC) (by kernel_rfl) (hfC.frz 8 (LI []) (Nat.le_of_ble_eq_true (by kernel_rfl))) ?_
            exact R.retX (res := .tup [.agg [AI n_1, LI xs_2], .agg [AI m_3, LI ys_4], LI []]) (hp' := [.box 120 [LB c, AI (p1_112 : Int), .int .u64 h1_113], .list eo1 so1 no1 co1, .list eo2 so2 no2 co2, .dead, .box 26 [AI n_1, LI xs_2], .box 26 [AI m_3, LI ys_4], .box 26 [AI n_1, LI xs_2], .box 26 [AI m_3, LI ys_4], .dead]) (by kernel_rfl) (by kernel_rfl) (by kernel_rfl) (by kernel_rfl) ⟨[0, 1, 2], by kernel_rfl, by decide, n_1, xs_2, m_3, ys_4, [], p1_112, h1_113, by first | assumption | omega | (simp only [List.length_set, List.length_append, List.length_singleton]; omega), by first | assumption | omega | (simp only [List.length_set, List.length_append, List.length_singleton]; omega), by first | assumption | omega | (simp only [List.length_set, List.length_append, List.length_singleton]; omega), by kernel_rfl, by kernel_rfl⟩
      · refine R.go 3 (R.meet (⟨(frm 78 [(0, .ptr 0 0), (2, .ptr 4 0), (3, .ptr 5 0), (4, .ref 8), (5, .ptr 6 0), (6, .ptr 7 0), (7, .ref 8), (10, .tup [.agg [AI n_1, LI xs_2], .agg [AI m_3, LI ys_4]]), (11, .ptr 0 0), (12, .tup [.agg [AI n_1, LI xs_2], .agg [AI m_3, LI ys_4]]), (13, .agg [AI n_1, LI xs_2]), (14, .agg [AI m_3, LI ys_4]), (15, .ref 8), (16, .agg [AI n_1, LI xs_2]), (17, .bool (okFr n_1 xs_2)), (18, .bool (okFr n_1 xs_2)), (19, .tup []), (20, .tup []), (21, .bool false), (50, .ptr 0 0), (51, AI v_105), (52, .bool (decide (v_105 = 0))), (53, .bool (decide (v_105 = 0))), (67, .bool (decide (v_105 = 1))), (68, .bool (decide (v_105 = 1))), (75, .agg [AI n_1, LI xs_2]), (76, .agg [AI m_3, LI ys_4]), (77, .ref 8)]), [.box 120 [LB c, AI (p1_106 : Int), .int .u64 h1_107], .list eo1 so1 no1 co1, .list eo2 so2 no2 co2, .frame usC frC, .box 26 [AI n_1, LI xs_2], .box 26 [AI m_3, LI ys_4], .box 26 [AI n_1, LI xs_2], .box 26 [AI m_3, LI ys_4], rowA eI 2 1 []]⟩ : St) (by kernel_rfl) ?_ ?_)
        · refine R.any (by decide +kernel) (by kernel_rfl) ?_
          refine R.anyF 2 (by kernel_rfl) (np_meet _) ?_
          refine R.any2 0 1 (by kernel_rfl) (by kernel_rfl) ?_ ?_
          · refine R.go 2 (R.any2 1 3 (by kernel_rfl) (by kernel_rfl) ?_ ?_)
            · refine R.go 2 (R.any1 3 (by kernel_rfl) (by kernel_rfl) ?_)
              refine R.go 2 (R.any1 4 (by kernel_rfl) (by kernel_rfl) ?_)
              refine R.go 2 (R.any1 5 (by kernel_rfl) (by kernel_rfl) ?_)
              refine R.go 2 (R.any0 (by kernel_rfl) ?_)
              exact R.met (by kernel_rfl) (by kernel_rfl)
            · refine R.go 2 (R.any1 1 (by kernel_rfl) (by kernel_rfl) ?_)
              refine R.go 2 (R.any1 4 (by kernel_rfl) (by kernel_rfl) ?_)
              refine R.go 2 (R.any1 5 (by kernel_rfl) (by kernel_rfl) ?_)
              refine R.go 2 (R.any0 (by kernel_rfl) ?_)
              exact R.met (by kernel_rfl) (by kernel_rfl)
          · refine R.go 2 (R.any1 0 (by kernel_rfl) (by kernel_rfl) ?_)
            refine R.go 2 (R.any1 3 (by kernel_rfl) (by kernel_rfl) ?_)
            refine R.go 2 (R.any1 4 (by kernel_rfl) (by kernel_rfl) ?_)
            refine R.go 2 (R.any1 5 (by kernel_rfl) (by kernel_rfl) ?_)
            refine R.go 2 (R.any0 (by kernel_rfl) ?_)
            exact R.met (by kernel_rfl) (by kernel_rfl)
        · refine R.frz 8 (by kernel_rfl) ?_
          refine R.kfix 3 (us := usC) (by kernel_rfl) (hfC.frz 8 (LI []) (Nat.le_of_ble_eq_true (by kernel_rfl))) ?_
          exact R.retX (res := .tup [.agg [AI n_1, LI xs_2], .agg [AI m_3, LI ys_4], LI []]) (hp' := [.box 120 [LB c, AI (p1_106 : Int), .int .u64 h1_107], .list eo1 so1 no1 co1, .list eo2 so2 no2 co2, .dead, .box 26 [AI n_1, LI xs_2], .box 26 [AI m_3, LI ys_4], .box 26 [AI n_1, LI xs_2], .box 26 [AI m_3, LI ys_4], .dead]) (by kernel_rfl) (by kernel_rfl) (by kernel_rfl) (by kernel_rfl) ⟨[0, 1, 2], by kernel_rfl, by decide, n_1, xs_2, m_3, ys_4, [], p1_106, h1_107, by first | assumption | omega | (simp only [List.length_set, List.length_append, List.length_singleton]; omega), by first | assumption | omega | (simp only [List.length_set, List.length_append, List.length_singleton]; omega), by first | assumption | omega | (simp only [List.length_set, List.length_append, List.length_singleton]; omega), by kernel_rfl, by kernel_rfl⟩

theorem drMor_c (c : List Int) (hc : BY c) : CallX Tryz.prog 7 [LB c] [] (fun (resX : AV) (objX : List AObj) => ∃ n : Int, ∃ xs : List Int, ∃ m : Int, ∃ ys : List Int, ∃ im : List Int, (xs.length ≤ 100) ∧ (ys.length ≤ 100) ∧ (im.length ≤ 100) ∧ resX = .tup [.agg [AI n, LI xs], .agg [AI m, LI ys], LI im] ∧ objX = []) := by
  have hcl : c.length ≤ 4096 := hc.1
  have hcb := hc.2
  refine CallX.dropE (CallX.ofF Tryz.func7 rfl (by kernel_rfl) ?_)
  intro usC frC hfC
  refine R.go 9 (R.enter (avs := [LB c]) Tryz.func36 rfl (by kernel_rfl) (by kernel_rfl) (by kernel_rfl) ?_)
  intro us1
  refine R.go 9 (R.cv .u64 (c.length : Int) (by kernel_rfl) (u64_id (by omega) (by omega)) (by kernel_rfl) ?_)
  refine R.go 11 (R.loop ((fun | (i, hh) => (⟨(frm 38 [(0, LB c), (3, .ptr 4 0), (4, AI (i : Int))]), [.frame usC frC, .box 26 [AI 0, .nil], .box 26 [AI 0, .nil], .frame us1 (frm 11 [(0, LB c), (2, .ptr 1 0), (3, .ptr 2 0), (4, .nil), (5, LB c)]), .box 120 [LB c, AI 0, .int .u64 hh]]⟩ : St) : Nat × Int → St)) (fun | (i, hh) => i ≤ c.length) (fun | (i, hh) => c.length - i) (0, (IntKind.u64.wrap (7129 + (c.length : Int)))) [0, 3, 4] none (by kernel_rfl) (by kernel_rfl) (by kernel_rfl) (by omega) ?_)
  rintro ⟨i, hh⟩ h5_1 R2 N3
  refine R.go 8 ?_
  by_cases c6 : (i : Int) < (c.length : Int)
  · refine R.want (decide ((i : Int) < (c.length : Int))) true (by kernel_rfl) (dT c6) ?_
    refine R.go 1 (R.want (decide ((i : Int) < (c.length : Int))) true (by kernel_rfl) (dT c6) ?_)
    refine R.go 1 (R.pick (decide ((i : Int) < (c.length : Int))) true (by kernel_rfl) (dT c6) (by kernel_rfl) ?_)
    refine R.go 1 (R.cond ((i : Int) < 4096) (by kernel_rfl) (fun c7 => ?_) (fun c7 => ?_))
    · have hbi := hcb i (by omega)
      refine R.go 12 (R.idx eB c 0 i (i : Int) (by kernel_rfl) rfl eB_len (by omega) (by kernel_rfl) ?_)
      refine R.go 1 (R.cv .u64 (c.getD i 0) (by kernel_rfl) (u64_id (by omega) (by omega)) (by kernel_rfl) ?_)
      refine R.go 9 (R.ar ((i : Int) + 1) (by kernel_rfl) (by omega) (by omega) (by kernel_rfl) ?_)
      exact R.go 2 (R.stop R2 (by kernel_rfl) (N3 (i + 1, IntKind.u64.wrap ((IntKind.u64.wrap ((IntKind.u64.wrap (hh * 1099511628211)) + (c.getD i 0))) + 11)) [0, 3, 4] none _ (by kernel_rfl) (by kernel_rfl) (by omega) (by show (c.length - (i + 1)) < (c.length - i); omega)))
    · refine R.go 6 (R.back (.ptr 4 0) (frm 11 [(0, LB c), (2, .ptr 1 0), (3, .ptr 2 0), (4, .nil), (5, LB c)]) (by kernel_rfl) (by kernel_rfl) (by kernel_rfl) ?_)
      refine R.deadF 3 (by kernel_rfl) (by kernel_rfl) ?_
      refine R.callX (CallX.inF 0 usC frC (CallX.inF 2 [] [] (CallX.perm [1, 2, 0] [2, 0, 1] (CallX.box 2 26 [AI 0, .nil] (CallX.box 1 26 [AI 0, .nil] (drawnX_c_r2 c 0 hh 26 2 1 [AI 0, .nil] 26 2 1 [AI 0, .nil] hc) (by kernel_rfl) (by kernel_rfl) (by kernel_rfl) (by kernel_rfl) (by rintro _ _ ⟨_, _, _, _, _, _, _, _, _, _, rfl, rfl⟩; exact ⟨by kernel_rfl, by kernel_rfl, by kernel_rfl⟩)) (by kernel_rfl) (by kernel_rfl) (by kernel_rfl) (by kernel_rfl) (by rintro _ _ ⟨_, ⟨_, _, _, _, _, _, _, _, _, _, rfl, rfl⟩, rfl⟩; exact ⟨by kernel_rfl, by kernel_rfl, by kernel_rfl⟩)) (by kernel_rfl) (by kernel_rfl) (by kernel_rfl) (by rintro _ _ ⟨_, ⟨_, ⟨_, _, _, _, _, _, _, _, _, _, rfl, rfl⟩, rfl⟩, rfl⟩; exact Nat.le_of_ble_eq_true (by kernel_rfl))) (Nat.le_of_ble_eq_true (by kernel_rfl)) (by kernel_rfl) (by kernel_rfl) (by rintro _ _ ⟨_, _, ⟨_, ⟨_, ⟨_, _, _, _, _, _, _, _, _, _, rfl, rfl⟩, rfl⟩, rfl⟩, rfl, rfl⟩; exact Nat.le_of_ble_eq_true (by kernel_rfl))) (Nat.le_of_ble_eq_true (by kernel_rfl)) (by kernel_rfl) (by kernel_rfl) (by rintro _ _ ⟨_, _, ⟨_, _, ⟨_, ⟨_, ⟨_, _, _, _, _, _, _, _, _, _, rfl, rfl⟩, rfl⟩, rfl⟩, rfl, rfl⟩, rfl, rfl⟩; exact Nat.le_of_ble_eq_true (by kernel_rfl))) (by kernel_rfl) (by kernel_rfl) (by kernel_rfl) ?_
      rintro _ _ ⟨_, _, ⟨_, _, ⟨_, _, ⟨_, ⟨_, ⟨n_8, xs_9, m_10, ys_11, im_12, p1_13, h1_14, f15, f16, f17, rfl, rfl⟩, rfl⟩, rfl⟩, rfl, rfl⟩, rfl, rfl⟩, rfl, rfl⟩
      exact R.go 7 (R.retX (res := .tup [.agg [AI n_8, LI xs_9], .agg [AI m_10, LI ys_11], LI im_12]) (hp' := [.dead, .box 26 [AI n_8, LI xs_9], .box 26 [AI m_10, LI ys_11], .frame [] [], .box 120 [LB c, AI (p1_13 : Int), .int .u64 h1_14]]) (by kernel_rfl) (by kernel_rfl) (by kernel_rfl) (by kernel_rfl) ⟨[], by kernel_rfl, by decide, n_8, xs_9, m_10, ys_11, im_12, by first | assumption | omega, by first | assumption | omega, by first | assumption | omega, by kernel_rfl, by kernel_rfl⟩)
  · refine R.skp (decide ((i : Int) < (c.length : Int))) true (by kernel_rfl) (dF c6) (by kernel_rfl) ?_
    refine R.skp (decide ((i : Int) < (c.length : Int))) true (by kernel_rfl) (dF c6) (by kernel_rfl) ?_
    refine R.pick (decide ((i : Int) < (c.length : Int))) false (by kernel_rfl) (dF c6) (by kernel_rfl) ?_
    refine R.go 8 (R.back (.ptr 4 0) (frm 11 [(0, LB c), (2, .ptr 1 0), (3, .ptr 2 0), (4, .nil), (5, LB c)]) (by kernel_rfl) (by kernel_rfl) (by kernel_rfl) ?_)
    refine R.deadF 3 (by kernel_rfl) (by kernel_rfl) ?_
    refine R.callX (CallX.inF 0 usC frC (CallX.inF 2 [] [] (CallX.perm [1, 2, 0] [2, 0, 1] (CallX.box 2 26 [AI 0, .nil] (CallX.box 1 26 [AI 0, .nil] (drawnX_c_r2 c 0 hh 26 2 1 [AI 0, .nil] 26 2 1 [AI 0, .nil] hc) (by kernel_rfl) (by kernel_rfl) (by kernel_rfl) (by kernel_rfl) (by rintro _ _ ⟨_, _, _, _, _, _, _, _, _, _, rfl, rfl⟩; exact ⟨by kernel_rfl, by kernel_rfl, by kernel_rfl⟩)) (by kernel_rfl) (by kernel_rfl) (by kernel_rfl) (by kernel_rfl) (by rintro _ _ ⟨_, ⟨_, _, _, _, _, _, _, _, _, _, rfl, rfl⟩, rfl⟩; exact ⟨by kernel_rfl, by kernel_rfl, by kernel_rfl⟩)) (by kernel_rfl) (by kernel_rfl) (by kernel_rfl) (by rintro _ _ ⟨_, ⟨_, ⟨_, _, _, _, _, _, _, _, _, _, rfl, rfl⟩, rfl⟩, rfl⟩; exact Nat.le_of_ble_eq_true (by kernel_rfl))) (Nat.le_of_ble_eq_true (by kernel_rfl)) (by kernel_rfl) (by kernel_rfl) (by rintro _ _ ⟨_, _, ⟨_, ⟨_, ⟨_, _, _, _, _, _, _, _, _, _, rfl, rfl⟩, rfl⟩, rfl⟩, rfl, rfl⟩; exact Nat.le_of_ble_eq_true (by kernel_rfl))) (Nat.le_of_ble_eq_true (by kernel_rfl)) (by kernel_rfl) (by kernel_rfl) (by rintro _ _ ⟨_, _, ⟨_, _, ⟨_, ⟨_, ⟨_, _, _, _, _, _, _, _, _, _, rfl, rfl⟩, rfl⟩, rfl⟩, rfl, rfl⟩, rfl, rfl⟩; exact Nat.le_of_ble_eq_true (by kernel_rfl))) (by kernel_rfl) (by kernel_rfl) (by kernel_rfl) ?_
    rintro _ _ ⟨_, _, ⟨_, _, ⟨_, _, ⟨_, ⟨_, ⟨n_18, xs_19, m_20, ys_21, im_22, p1_23, h1_24, f25, f26, f27, rfl, rfl⟩, rfl⟩, rfl⟩, rfl, rfl⟩, rfl, rfl⟩, rfl, rfl⟩
    exact R.go 7 (R.retX (res := .tup [.agg [AI n_18, LI xs_19], .agg [AI m_20, LI ys_21], LI im_22]) (hp' := [.dead, .box 26 [AI n_18, LI xs_19], .box 26 [AI m_20, LI ys_21], .frame [] [], .box 120 [LB c, AI (p1_23 : Int), .int .u64 h1_24]]) (by kernel_rfl) (by kernel_rfl) (by kernel_rfl) (by kernel_rfl) ⟨[], by kernel_rfl, by decide, n_18, xs_19, m_20, ys_21, im_22, by first | assumption | omega, by first | assumption | omega, by first | assumption | omega, by kernel_rfl, by kernel_rfl⟩)

end Go.Proofs.YtgebepfdphmjcaaGreat
