/- Texts of the proof: SHE. -/
import Derived.Test.YtogehjciaamcfaaPartL

/-! Draws of two posets. -/
namespace Go.Proofs.Ytogehjciaamcfaa
open Go.RowKit Go.Abs

theorem shufX_c_r5 (c : List Int) (p : Nat) (h : Int) (n : Int) (eo1 : Nat) (so1 : Nat) (no1 : Nat) (co1 : List AV) (eo2 : Nat) (so2 : Nat) (no2 : Nat) (co2 : List AV) (eo3 : Nat) (so3 : Nat) (no3 : Nat) (co3 : List AV) (eo4 : Nat) (so4 : Nat) (no4 : Nat) (co4 : List AV) (eo5 : Nat) (so5 : Nat) (no5 : Nat) (co5 : List AV) (hc : BY c) (hn : 0 ≤ n ∧ n ≤ 20) : CallX Try.prog 82 [.ptr 0 0, AI n] [.box 70 [LB c, AI (p : Int), .int .u64 h], .list eo1 so1 no1 co1, .list eo2 so2 no2 co2, .list eo3 so3 no3 co3, .list eo4 so4 no4 co4, .list eo5 so5 no5 co5] (fun (resX : AV) (objX : List AObj) => ∃ r : List Int, ∃ p1 : Nat, ∃ h1 : Int, ((r.length : Int) = n ∧ RNG n r) ∧ resX = LI r ∧ objX = [.box 70 [LB c, AI (p1 : Int), .int .u64 h1], .list eo1 so1 no1 co1, .list eo2 so2 no2 co2, .list eo3 so3 no3 co3, .list eo4 so4 no4 co4, .list eo5 so5 no5 co5]) := by
  have hcl : c.length ≤ 4096 := hc.1
  have hcb := hc.2
  refine CallX.dropE (CallX.ofF Try.func82 rfl (by kernel_rfl) ?_)
  intro usC frC hfC
  refine R.go 15 (R.loop ((fun | (i, o) => (⟨(frm 46 [(0, .ptr 0 0), (1, AI n), (5, .ref 7), (6, AI (i : Int))]), [.box 70 [LB c, AI (p : Int), .int .u64 h], .list eo1 so1 no1 co1, .list eo2 so2 no2 co2, .list eo3 so3 no3 co3, .list eo4 so4 no4 co4, .list eo5 so5 no5 co5, .frame usC frC, rowA eI 2 1 o]⟩ : St) : Nat × (List Int) → St)) (fun | (i, o) => ((i : Int) ≤ n) ∧ (o.length = i) ∧ (RNG n o)) (fun | (i, o) => (n - i).toNat) (0, []) [0, 1, 5, 6] none (by kernel_rfl) (by kernel_rfl) (by kernel_rfl) ⟨(by omega), (by rfl), (by exact fun j hj => absurd hj (by simp))⟩ ?_)
  rintro ⟨i, o⟩ ⟨h4_1, h4_2, h4_3⟩ R1 N2
  refine R.go 7 (R.cond ((i : Int) < n) (by kernel_rfl) (fun c5 => ?_) (fun c5 => ?_))
  · refine R.go 7 (R.app eI o [(i : Int)] 7 2 1 8 (by kernel_rfl) eI_one (by decide) (by first | omega | (simp <;> omega)) (by kernel_rfl) ?_)
    refine R.kfix 6 (us := usC) (by kernel_rfl) (hfC.kill 7 (Nat.le_of_ble_eq_true (by kernel_rfl))) ?_
    refine R.go 5 (R.ar ((i : Int) + 1) (by kernel_rfl) (by omega) (by omega) (by kernel_rfl) ?_)
    exact R.go 2 (R.stop R1 (by kernel_rfl) (N2 (i + 1, o ++ [(i : Int)]) [0, 1, 5, 6] (some [0, 1, 2, 3, 4, 5, 6, 7]) _ (by kernel_rfl) (canonF (fr := frC) (fun (frX : List AV) => (⟨(frm 46 [(0, .ptr 0 0), (1, AI n), (5, .ref 7), (6, AI ((i : Int) + 1))]), [.box 70 [LB c, AI (p : Int), .int .u64 h], .list eo1 so1 no1 co1, .list eo2 so2 no2 co2, .list eo3 so3 no3 co3, .list eo4 so4 no4 co4, .list eo5 so5 no5 co5, .frame usC frX, rowA eI 2 1 (o ++ [(i : Int)])]⟩ : St)) (hfC.ren _ (by kernel_rfl)) (by kernel_rfl) (by kernel_rfl)) ⟨(by omega), (by (simp <;> omega)), (by exact rng_snoc (by assumption) (by omega) (by omega))⟩ (by show ((n - (i + 1)).toNat) < ((n - i).toNat); omega)))
  · refine R.go 5 (R.ar (n - 1) (by kernel_rfl) (by omega) (by omega) (by kernel_rfl) ?_)
    refine R.go 3 (R.loop ((fun | (k, o, q, hq) => (⟨(frm 46 [(0, .ptr 0 0), (5, .ref 7), (7, AI k)]), [.box 70 [LB c, AI (q : Int), .int .u64 hq], .list eo1 so1 no1 co1, .list eo2 so2 no2 co2, .list eo3 so3 no3 co3, .list eo4 so4 no4 co4, .list eo5 so5 no5 co5, .frame usC frC, rowA eI 2 1 o]⟩ : St) : Int × (List Int) × Nat × Int → St)) (fun | (k, o, q, hq) => (-1 ≤ k ∧ k < n) ∧ ((o.length : Int) = n) ∧ (RNG n o)) (fun | (k, o, q, hq) => (k + 1).toNat) ((n - 1), o, p, h) [0, 5, 7] none (by kernel_rfl) (by kernel_rfl) (by kernel_rfl) ⟨(by omega), (by omega), (by assumption)⟩ ?_)
    rintro ⟨k, o, q, hq⟩ ⟨h9_1, h9_2, h9_3⟩ R6 N7
    have hRG := fun (j : Nat) (hj : j < o.length) => (by assumption : RNG n o) j hj
    have hgk := fun h : 0 < k => hRG k.toNat (by omega)
    refine R.go 6 (R.cond (k > 0) (by kernel_rfl) (fun c10 => ?_) (fun c10 => ?_))
    · refine R.go 7 (R.ar (k + 1) (by kernel_rfl) (by omega) (by omega) (by kernel_rfl) ?_)
      refine R.callX (CallX.inF 6 usC frC (nextX_c_r6 c q hq (k + 1) eo1 so1 no1 co1 eo2 so2 no2 co2 eo3 so3 no3 co3 eo4 so4 no4 co4 eo5 so5 no5 co5 2 1 o.length (rows eI o) hc) (Nat.le_of_ble_eq_true (by kernel_rfl)) (by kernel_rfl) (by kernel_rfl) (by rintro _ _ ⟨_, _, _, _, rfl, rfl⟩; exact Nat.le_of_ble_eq_true (by kernel_rfl))) (by kernel_rfl) (by kernel_rfl) (by kernel_rfl) ?_
      rintro _ _ ⟨_, _, ⟨v_11, p1_12, h1_13, f14, rfl, rfl⟩, rfl, rfl⟩
      refine R.go 6 (R.idxO 7 1 o.length ((k).toNat) k (by kernel_rfl) (by omega) (by omega) (by kernel_rfl) ?_)
      refine R.ldI o ((k).toNat) (by kernel_rfl) (by omega) (by kernel_rfl) ?_
      have hg7 := hgk (by omega)
      have hg8 := hRG (v_11).toNat (by omega)
      refine R.go 8 (R.idxO 7 1 o.length ((v_11).toNat) v_11 (by kernel_rfl) (by omega) (by omega) (by kernel_rfl) ?_)
      refine R.ldI o ((v_11).toNat) (by kernel_rfl) (by omega) (by kernel_rfl) ?_
      refine R.idxO 7 1 o.length ((k).toNat) k (by kernel_rfl) (by omega) (by omega) (by kernel_rfl) ?_
      refine R.stI 7 2 o ((k).toNat) (o.getD ((v_11).toNat) 0) (by kernel_rfl) (by omega) (by kernel_rfl) ?_
      refine R.go 5 (R.idxO 7 1 (o.set ((k).toNat) (o.getD ((v_11).toNat) 0)).length ((v_11).toNat) v_11 (by kernel_rfl) (by omega) (by first | omega | (simp <;> omega)) (by kernel_rfl) ?_)
      refine R.stI 7 2 (o.set ((k).toNat) (o.getD ((v_11).toNat) 0)) ((v_11).toNat) (o.getD ((k).toNat) 0) (by kernel_rfl) (by first | omega | (simp <;> omega)) (by kernel_rfl) ?_
      refine R.go 4 (R.ar (k - 1) (by kernel_rfl) (by omega) (by omega) (by kernel_rfl) ?_)
      exact R.go 2 (R.stop R6 (by kernel_rfl) (N7 (k - 1, (o.set ((k).toNat) (o.getD ((v_11).toNat) 0)).set ((v_11).toNat) (o.getD ((k).toNat) 0), p1_12, h1_13) [0, 5, 7] none _ (by kernel_rfl) (by kernel_rfl) ⟨(by omega), (by (rw [swp_len]; omega)), (by exact rng_set (rng_set (by assumption) (by omega) (by omega)) (by omega) (by omega))⟩ (by show (((k - 1) + 1).toNat) < ((k + 1).toNat); omega)))
    · refine R.go 6 (R.frz 7 (by kernel_rfl) ?_)
      refine R.kfix 6 (us := usC) (by kernel_rfl) (hfC.frz 7 (LI o) (Nat.le_of_ble_eq_true (by kernel_rfl))) ?_
      exact R.retX (res := LI o) (hp' := [.box 70 [LB c, AI (q : Int), .int .u64 hq], .list eo1 so1 no1 co1, .list eo2 so2 no2 co2, .list eo3 so3 no3 co3, .list eo4 so4 no4 co4, .list eo5 so5 no5 co5, .dead, .dead]) (by kernel_rfl) (by kernel_rfl) (by kernel_rfl) (by kernel_rfl) ⟨[0, 1, 2, 3, 4, 5], by kernel_rfl, by decide, o, q, hq, by exact ⟨by omega, by assumption⟩, by kernel_rfl, by kernel_rfl⟩

theorem shufX_c_r7 (c : List Int) (p : Nat) (h : Int) (n : Int) (eo1 : Nat) (so1 : Nat) (no1 : Nat) (co1 : List AV) (eo2 : Nat) (so2 : Nat) (no2 : Nat) (co2 : List AV) (eo3 : Nat) (so3 : Nat) (no3 : Nat) (co3 : List AV) (eo4 : Nat) (so4 : Nat) (no4 : Nat) (co4 : List AV) (eo5 : Nat) (so5 : Nat) (no5 : Nat) (co5 : List AV) (eo6 : Nat) (so6 : Nat) (no6 : Nat) (co6 : List AV) (eo7 : Nat) (so7 : Nat) (no7 : Nat) (co7 : List AV) (hc : BY c) (hn : 0 ≤ n ∧ n ≤ 20) : CallX Try.prog 82 [.ptr 0 0, AI n] [.box 70 [LB c, AI (p : Int), .int .u64 h], .list eo1 so1 no1 co1, .list eo2 so2 no2 co2, .list eo3 so3 no3 co3, .list eo4 so4 no4 co4, .list eo5 so5 no5 co5, .list eo6 so6 no6 co6, .list eo7 so7 no7 co7] (fun (resX : AV) (objX : List AObj) => ∃ r : List Int, ∃ p1 : Nat, ∃ h1 : Int, ((r.length : Int) = n ∧ RNG n r) ∧ resX = LI r ∧ objX = [.box 70 [LB c, AI (p1 : Int), .int .u64 h1], .list eo1 so1 no1 co1, .list eo2 so2 no2 co2, .list eo3 so3 no3 co3, .list eo4 so4 no4 co4, .list eo5 so5 no5 co5, .list eo6 so6 no6 co6, .list eo7 so7 no7 co7]) := by
  have hcl : c.length ≤ 4096 := hc.1
  have hcb := hc.2
  refine CallX.dropE (CallX.ofF Try.func82 rfl (by kernel_rfl) ?_)
  intro usC frC hfC
  refine R.go 15 (R.loop ((fun | (i, o) => (⟨(frm 46 [(0, .ptr 0 0), (1, AI n), (5, .ref 9), (6, AI (i : Int))]), [.box 70 [LB c, AI (p : Int), .int .u64 h], .list eo1 so1 no1 co1, .list eo2 so2 no2 co2, .list eo3 so3 no3 co3, .list eo4 so4 no4 co4, .list eo5 so5 no5 co5, .list eo6 so6 no6 co6, .list eo7 so7 no7 co7, .frame usC frC, rowA eI 2 1 o]⟩ : St) : Nat × (List Int) → St)) (fun | (i, o) => ((i : Int) ≤ n) ∧ (o.length = i) ∧ (RNG n o)) (fun | (i, o) => (n - i).toNat) (0, []) [0, 1, 5, 6] none (by kernel_rfl) (by kernel_rfl) (by kernel_rfl) ⟨(by omega), (by rfl), (by exact fun j hj => absurd hj (by simp))⟩ ?_)
  rintro ⟨i, o⟩ ⟨h4_1, h4_2, h4_3⟩ R1 N2
  refine R.go 7 (R.cond ((i : Int) < n) (by kernel_rfl) (fun c5 => ?_) (fun c5 => ?_))
  · refine R.go 7 (R.app eI o [(i : Int)] 9 2 1 8 (by kernel_rfl) eI_one (by decide) (by first | omega | (simp <;> omega)) (by kernel_rfl) ?_)
    refine R.kfix 8 (us := usC) (by kernel_rfl) (hfC.kill 9 (Nat.le_of_ble_eq_true (by kernel_rfl))) ?_
    refine R.go 5 (R.ar ((i : Int) + 1) (by kernel_rfl) (by omega) (by omega) (by kernel_rfl) ?_)
    exact R.go 2 (R.stop R1 (by kernel_rfl) (N2 (i + 1, o ++ [(i : Int)]) [0, 1, 5, 6] (some [0, 1, 2, 3, 4, 5, 6, 7, 8, 9]) _ (by kernel_rfl) (canonF (fr := frC) (fun (frX : List AV) => (⟨(frm 46 [(0, .ptr 0 0), (1, AI n), (5, .ref 9), (6, AI ((i : Int) + 1))]), [.box 70 [LB c, AI (p : Int), .int .u64 h], .list eo1 so1 no1 co1, .list eo2 so2 no2 co2, .list eo3 so3 no3 co3, .list eo4 so4 no4 co4, .list eo5 so5 no5 co5, .list eo6 so6 no6 co6, .list eo7 so7 no7 co7, .frame usC frX, rowA eI 2 1 (o ++ [(i : Int)])]⟩ : St)) (hfC.ren _ (by kernel_rfl)) (by kernel_rfl) (by kernel_rfl)) ⟨(by omega), (by (simp <;> omega)), (by exact rng_snoc (by assumption) (by omega) (by omega))⟩ (by show ((n - (i + 1)).toNat) < ((n - i).toNat); omega)))
  · refine R.go 5 (R.ar (n - 1) (by kernel_rfl) (by omega) (by omega) (by kernel_rfl) ?_)
    refine R.go 3 (R.loop ((fun | (k, o, q, hq) => (⟨(frm 46 [(0, .ptr 0 0), (5, .ref 9), (7, AI k)]), [.box 70 [LB c, AI (q : Int), .int .u64 hq], .list eo1 so1 no1 co1, .list eo2 so2 no2 co2, .list eo3 so3 no3 co3, .list eo4 so4 no4 co4, .list eo5 so5 no5 co5, .list eo6 so6 no6 co6, .list eo7 so7 no7 co7, .frame usC frC, rowA eI 2 1 o]⟩ : St) : Int × (List Int) × Nat × Int → St)) (fun | (k, o, q, hq) => (-1 ≤ k ∧ k < n) ∧ ((o.length : Int) = n) ∧ (RNG n o)) (fun | (k, o, q, hq) => (k + 1).toNat) ((n - 1), o, p, h) [0, 5, 7] none (by kernel_rfl) (by kernel_rfl) (by kernel_rfl) ⟨(by omega), (by omega), (by assumption)⟩ ?_)
    rintro ⟨k, o, q, hq⟩ ⟨h9_1, h9_2, h9_3⟩ R6 N7
    have hRG := fun (j : Nat) (hj : j < o.length) => (by assumption : RNG n o) j hj
    have hgk := fun h : 0 < k => hRG k.toNat (by omega)
    refine R.go 6 (R.cond (k > 0) (by kernel_rfl) (fun c10 => ?_) (fun c10 => ?_))
    · refine R.go 7 (R.ar (k + 1) (by kernel_rfl) (by omega) (by omega) (by kernel_rfl) ?_)
      refine R.callX (CallX.inF 8 usC frC (nextX_c_r8 c q hq (k + 1) eo1 so1 no1 co1 eo2 so2 no2 co2 eo3 so3 no3 co3 eo4 so4 no4 co4 eo5 so5 no5 co5 eo6 so6 no6 co6 eo7 so7 no7 co7 2 1 o.length (rows eI o) hc) (Nat.le_of_ble_eq_true (by kernel_rfl)) (by kernel_rfl) (by kernel_rfl) (by rintro _ _ ⟨_, _, _, _, rfl, rfl⟩; exact Nat.le_of_ble_eq_true (by kernel_rfl))) (by kernel_rfl) (by kernel_rfl) (by kernel_rfl) ?_
      rintro _ _ ⟨_, _, ⟨v_11, p1_12, h1_13, f14, rfl, rfl⟩, rfl, rfl⟩
      refine R.go 6 (R.idxO 9 1 o.length ((k).toNat) k (by kernel_rfl) (by omega) (by omega) (by kernel_rfl) ?_)
      refine R.ldI o ((k).toNat) (by kernel_rfl) (by omega) (by kernel_rfl) ?_
      have hg7 := hgk (by omega)
      have hg8 := hRG (v_11).toNat (by omega)
      refine R.go 8 (R.idxO 9 1 o.length ((v_11).toNat) v_11 (by kernel_rfl) (by omega) (by omega) (by kernel_rfl) ?_)
      refine R.ldI o ((v_11).toNat) (by kernel_rfl) (by omega) (by kernel_rfl) ?_
      refine R.idxO 9 1 o.length ((k).toNat) k (by kernel_rfl) (by omega) (by omega) (by kernel_rfl) ?_
      refine R.stI 9 2 o ((k).toNat) (o.getD ((v_11).toNat) 0) (by kernel_rfl) (by omega) (by kernel_rfl) ?_
      refine R.go 5 (R.idxO 9 1 (o.set ((k).toNat) (o.getD ((v_11).toNat) 0)).length ((v_11).toNat) v_11 (by kernel_rfl) (by omega) (by first | omega | (simp <;> omega)) (by kernel_rfl) ?_)
      refine R.stI 9 2 (o.set ((k).toNat) (o.getD ((v_11).toNat) 0)) ((v_11).toNat) (o.getD ((k).toNat) 0) (by kernel_rfl) (by first | omega | (simp <;> omega)) (by kernel_rfl) ?_
      refine R.go 4 (R.ar (k - 1) (by kernel_rfl) (by omega) (by omega) (by kernel_rfl) ?_)
      exact R.go 2 (R.stop R6 (by kernel_rfl) (N7 (k - 1, (o.set ((k).toNat) (o.getD ((v_11).toNat) 0)).set ((v_11).toNat) (o.getD ((k).toNat) 0), p1_12, h1_13) [0, 5, 7] none _ (by kernel_rfl) (by kernel_rfl) ⟨(by omega), (by (rw [swp_len]; omega)), (by exact rng_set (rng_set (by assumption) (by omega) (by omega)) (by omega) (by omega))⟩ (by show (((k - 1) + 1).toNat) < ((k + 1).toNat); omega)))
    · refine R.go 6 (R.frz 9 (by kernel_rfl) ?_)
      refine R.kfix 8 (us := usC) (by kernel_rfl) (hfC.frz 9 (LI o) (Nat.le_of_ble_eq_true (by kernel_rfl))) ?_
      exact R.retX (res := LI o) (hp' := [.box 70 [LB c, AI (q : Int), .int .u64 hq], .list eo1 so1 no1 co1, .list eo2 so2 no2 co2, .list eo3 so3 no3 co3, .list eo4 so4 no4 co4, .list eo5 so5 no5 co5, .list eo6 so6 no6 co6, .list eo7 so7 no7 co7, .dead, .dead]) (by kernel_rfl) (by kernel_rfl) (by kernel_rfl) (by kernel_rfl) ⟨[0, 1, 2, 3, 4, 5, 6, 7], by kernel_rfl, by decide, o, q, hq, by exact ⟨by omega, by assumption⟩, by kernel_rfl, by kernel_rfl⟩

theorem someP_c_r4 (c : List Int) (p : Nat) (h : Int) (size : Int) (eo1 : Nat) (so1 : Nat) (no1 : Nat) (co1 : List AV) (eo2 : Nat) (so2 : Nat) (no2 : Nat) (co2 : List AV) (eo3 : Nat) (so3 : Nat) (no3 : Nat) (co3 : List AV) (eo4 : Nat) (so4 : Nat) (no4 : Nat) (co4 : List AV) (hc : BY c) (hs : 0 ≤ size ∧ size ≤ 20) : CallX Try.prog 51 [.ptr 0 0, AI size] [.box 70 [LB c, AI (p : Int), .int .u64 h], .list eo1 so1 no1 co1, .list eo2 so2 no2 co2, .list eo3 so3 no3 co3, .list eo4 so4 no4 co4] (fun (resX : AV) (objX : List AObj) => ∃ n : Int, ∃ xs : List Int, ∃ p1 : Nat, ∃ h1 : Int, (0 ≤ n ∧ n ≤ size) ∧ ((xs.length : Int) = n) ∧ resX = .agg [AI n, .ref 5] ∧ objX = [.box 70 [LB c, AI (p1 : Int), .int .u64 h1], .list eo1 so1 no1 co1, .list eo2 so2 no2 co2, .list eo3 so3 no3 co3, .list eo4 so4 no4 co4, rowA eI 2 1 xs]) := by
  have hcl : c.length ≤ 4096 := hc.1
  have hcb := hc.2
  refine CallX.dropE (CallX.ofF Try.func51 rfl (by kernel_rfl) ?_)
  intro usC frC hfC
  refine R.go 8 (R.ar (size + 1) (by kernel_rfl) (by omega) (by omega) (by kernel_rfl) ?_)
  refine R.callX (CallX.inF 5 usC frC (CallX.box 5 26 [AI 0, .nil] (nextX_c_r5 c p h (size + 1) eo1 so1 no1 co1 eo2 so2 no2 co2 eo3 so3 no3 co3 eo4 so4 no4 co4 26 2 1 [AI 0, .nil] hc) (by kernel_rfl) (by kernel_rfl) (by kernel_rfl) (by kernel_rfl) (by rintro _ _ ⟨_, _, _, _, rfl, rfl⟩; exact ⟨by kernel_rfl, by kernel_rfl, by kernel_rfl⟩)) (Nat.le_of_ble_eq_true (by kernel_rfl)) (by kernel_rfl) (by kernel_rfl) (by rintro _ _ ⟨_, ⟨_, _, _, _, rfl, rfl⟩, rfl⟩; exact Nat.le_of_ble_eq_true (by kernel_rfl))) (by kernel_rfl) (by kernel_rfl) (by kernel_rfl) ?_
  rintro _ _ ⟨_, _, ⟨_, ⟨v_1, p1_2, h1_3, f4, rfl, rfl⟩, rfl⟩, rfl, rfl⟩
  have hb : 1 ≤ shl64 1 v_1 ∧ shl64 1 v_1 ≤ 4611686018427387904 := shl_rng v_1 (by omega) (by omega)
  refine R.go 10 (R.callX (CallX.inF 5 usC frC (CallX.box 5 26 [AI 0, .nil] (nextX_c_r6 c p1_2 h1_3 3 eo1 so1 no1 co1 eo2 so2 no2 co2 eo3 so3 no3 co3 eo4 so4 no4 co4 26 2 1 [AI 0, .nil] 2 1 0 (rows eI []) hc) (by kernel_rfl) (by kernel_rfl) (by kernel_rfl) (by kernel_rfl) (by rintro _ _ ⟨_, _, _, _, rfl, rfl⟩; exact ⟨by kernel_rfl, by kernel_rfl, by kernel_rfl⟩)) (Nat.le_of_ble_eq_true (by kernel_rfl)) (by kernel_rfl) (by kernel_rfl) (by rintro _ _ ⟨_, ⟨_, _, _, _, rfl, rfl⟩, rfl⟩; exact Nat.le_of_ble_eq_true (by kernel_rfl))) (by kernel_rfl) (by kernel_rfl) (by kernel_rfl) ?_)
  rintro _ _ ⟨_, _, ⟨_, ⟨v_5, p1_6, h1_7, f8, rfl, rfl⟩, rfl⟩, rfl, rfl⟩
  refine R.go 8 (R.loop ((fun | (x, ys, q, k) => (⟨(frm 63 [(0, .ptr 0 0), (4, .ptr 6 0), (5, AI v_1), (6, .ref 7), (7, AI v_5), (8, AI (x : Int))]), [.box 70 [LB c, AI (q : Int), .int .u64 k], .list eo1 so1 no1 co1, .list eo2 so2 no2 co2, .list eo3 so3 no3 co3, .list eo4 so4 no4 co4, .frame usC frC, .box 26 [AI 0, .nil], rowA eI 2 1 ys]⟩ : St) : Nat × (List Int) × Nat × Int → St)) (fun | (x, ys, q, k) => ((x : Int) ≤ v_1) ∧ (ys.length = x)) (fun | (x, ys, q, k) => (v_1 - x).toNat) (0, [], p1_6, h1_7) [0, 4, 5, 6, 7, 8] none (by kernel_rfl) (by kernel_rfl) (by kernel_rfl) ⟨(by omega), (by rfl)⟩ ?_)
  rintro ⟨x, ys, q, k⟩ ⟨h12_1, h12_2⟩ R9 N10
  refine R.go 7 (R.cond ((x : Int) < v_1) (by kernel_rfl) (fun c13 => ?_) (fun c13 => ?_))
  · refine R.go 7 (R.call true (l01Full_c v_1 (by first | omega | (simp only [refI_len, wout_len]; omega) | (simp <;> omega)) (by first | omega | (simp only [refI_len, wout_len]; omega) | (simp <;> omega))) (by kernel_rfl) rfl (by kernel_rfl) ?_)
    refine R.ar (((shl64 1 v_1) - 1) + 1) (by kernel_rfl) (by omega) (by omega) (by kernel_rfl) ?_
    refine R.callX (CallX.inF 5 usC frC (CallX.box 5 26 [AI 0, .nil] (nextX_c_r6 c q k (((shl64 1 v_1) - 1) + 1) eo1 so1 no1 co1 eo2 so2 no2 co2 eo3 so3 no3 co3 eo4 so4 no4 co4 26 2 1 [AI 0, .nil] 2 1 ys.length (rows eI ys) hc) (by kernel_rfl) (by kernel_rfl) (by kernel_rfl) (by kernel_rfl) (by rintro _ _ ⟨_, _, _, _, rfl, rfl⟩; exact ⟨by kernel_rfl, by kernel_rfl, by kernel_rfl⟩)) (Nat.le_of_ble_eq_true (by kernel_rfl)) (by kernel_rfl) (by kernel_rfl) (by rintro _ _ ⟨_, ⟨_, _, _, _, rfl, rfl⟩, rfl⟩; exact Nat.le_of_ble_eq_true (by kernel_rfl))) (by kernel_rfl) (by kernel_rfl) (by kernel_rfl) ?_
    rintro _ _ ⟨_, _, ⟨_, ⟨v_14, p1_15, h1_16, f17, rfl, rfl⟩, rfl⟩, rfl, rfl⟩
    refine R.go 1 (R.ar ((x : Int) + 1) (by kernel_rfl) (by omega) (by omega) (by kernel_rfl) ?_)
    refine R.call true (l01Full_c ((x : Int) + 1) (by first | omega | (simp only [refI_len, wout_len]; omega) | (simp <;> omega)) (by first | omega | (simp only [refI_len, wout_len]; omega) | (simp <;> omega))) (by kernel_rfl) rfl (by kernel_rfl) ?_
    refine R.go 9 (R.loop ((fun | (j, m, q2, k2) => (⟨(frm 63 [(0, .ptr 0 0), (4, .ptr 6 0), (5, AI v_1), (6, .ref 7), (7, AI v_5), (8, AI (x : Int)), (9, AI m), (10, AI (j : Int))]), [.box 70 [LB c, AI (q2 : Int), .int .u64 k2], .list eo1 so1 no1 co1, .list eo2 so2 no2 co2, .list eo3 so3 no3 co3, .list eo4 so4 no4 co4, .frame usC frC, .box 26 [AI 0, .nil], rowA eI 2 1 ys]⟩ : St) : Nat × Int × Nat × Int → St)) (fun | (j, m, q2, k2) => True) (fun | (j, m, q2, k2) => (v_5 - j).toNat) (0, (bnot v_14 ((shl64 1 ((x : Int) + 1)) - 1)), p1_15, h1_16) [0, 4, 5, 6, 7, 8, 9, 10] none (by kernel_rfl) (by kernel_rfl) (by kernel_rfl) trivial ?_)
    rintro ⟨j, m, q2, k2⟩ _ R18 N19
    refine R.go 7 (R.cond ((j : Int) < v_5) (by kernel_rfl) (fun c22 => ?_) (fun c22 => ?_))
    · refine R.go 7 (R.call true (l01Full_c v_1 (by first | omega | (simp only [refI_len, wout_len]; omega) | (simp <;> omega)) (by first | omega | (simp only [refI_len, wout_len]; omega) | (simp <;> omega))) (by kernel_rfl) rfl (by kernel_rfl) ?_)
      refine R.ar (((shl64 1 v_1) - 1) + 1) (by kernel_rfl) (by omega) (by omega) (by kernel_rfl) ?_
      refine R.callX (CallX.inF 5 usC frC (CallX.box 5 26 [AI 0, .nil] (nextX_c_r6 c q2 k2 (((shl64 1 v_1) - 1) + 1) eo1 so1 no1 co1 eo2 so2 no2 co2 eo3 so3 no3 co3 eo4 so4 no4 co4 26 2 1 [AI 0, .nil] 2 1 ys.length (rows eI ys) hc) (by kernel_rfl) (by kernel_rfl) (by kernel_rfl) (by kernel_rfl) (by rintro _ _ ⟨_, _, _, _, rfl, rfl⟩; exact ⟨by kernel_rfl, by kernel_rfl, by kernel_rfl⟩)) (Nat.le_of_ble_eq_true (by kernel_rfl)) (by kernel_rfl) (by kernel_rfl) (by rintro _ _ ⟨_, ⟨_, _, _, _, rfl, rfl⟩, rfl⟩; exact Nat.le_of_ble_eq_true (by kernel_rfl))) (by kernel_rfl) (by kernel_rfl) (by kernel_rfl) ?_
      rintro _ _ ⟨_, _, ⟨_, ⟨v_23, p1_24, h1_25, f26, rfl, rfl⟩, rfl⟩, rfl, rfl⟩
      refine R.go 6 (R.ar ((j : Int) + 1) (by kernel_rfl) (by omega) (by omega) (by kernel_rfl) ?_)
      exact R.go 2 (R.stop R18 (by kernel_rfl) (N19 (j + 1, band m v_23, p1_24, h1_25) [0, 4, 5, 6, 7, 8, 9, 10] none _ (by kernel_rfl) (by kernel_rfl) trivial (by show ((v_5 - (j + 1)).toNat) < ((v_5 - j).toNat); omega)))
    · refine R.go 5 (R.app eI ys [m] 7 2 1 8 (by kernel_rfl) eI_one (by decide) (by first | omega | (simp <;> omega)) (by kernel_rfl) ?_)
      refine R.kfix 5 (us := usC) (by kernel_rfl) (hfC.kill 7 (Nat.le_of_ble_eq_true (by kernel_rfl))) ?_
      refine R.go 5 (R.ar ((x : Int) + 1) (by kernel_rfl) (by omega) (by omega) (by kernel_rfl) ?_)
      exact R.go 2 (R.stop R9 (by kernel_rfl) (N10 (x + 1, ys ++ [m], q2, k2) [0, 4, 5, 6, 7, 8] (some [0, 1, 2, 3, 4, 5, 6, 7]) _ (by kernel_rfl) (canonF (fr := frC) (fun (frX : List AV) => (⟨(frm 63 [(0, .ptr 0 0), (4, .ptr 6 0), (5, AI v_1), (6, .ref 7), (7, AI v_5), (8, AI ((x : Int) + 1))]), [.box 70 [LB c, AI (q2 : Int), .int .u64 k2], .list eo1 so1 no1 co1, .list eo2 so2 no2 co2, .list eo3 so3 no3 co3, .list eo4 so4 no4 co4, .frame usC frX, .box 26 [AI 0, .nil], rowA eI 2 1 (ys ++ [m])]⟩ : St)) (hfC.ren _ (by kernel_rfl)) (by kernel_rfl) (by kernel_rfl)) ⟨(by omega), (by (simp <;> omega))⟩ (by show ((v_1 - (x + 1)).toNat) < ((v_1 - x).toNat); omega)))
  · refine R.go 4 (R.frz 7 (by kernel_rfl) ?_)
    refine R.kfix 5 (us := usC) (by kernel_rfl) (hfC.frz 7 (LI ys) (Nat.le_of_ble_eq_true (by kernel_rfl))) ?_
    refine R.call true (l01Refl_c ys (by first | omega | (simp only [refI_len, wout_len]; omega) | (simp <;> omega))).frz (by kernel_rfl) rfl (by kernel_rfl) ?_
    refine R.call true (l01Clos_c (refI ys ys.length) (by first | omega | (simp only [refI_len, wout_len]; omega) | (simp <;> omega))).frz (by kernel_rfl) rfl (by kernel_rfl) ?_
    refine R.go 6 (R.deadF 7 (by kernel_rfl) (by kernel_rfl) ?_)
    refine R.callX (CallX.inF 5 usC frC (CallX.inF 6 [] [] (CallX.box 5 26 [AI 0, .nil] (nextX_c_r5 c q k 2 eo1 so1 no1 co1 eo2 so2 no2 co2 eo3 so3 no3 co3 eo4 so4 no4 co4 26 2 1 [AI 0, .nil] hc) (by kernel_rfl) (by kernel_rfl) (by kernel_rfl) (by kernel_rfl) (by rintro _ _ ⟨_, _, _, _, rfl, rfl⟩; exact ⟨by kernel_rfl, by kernel_rfl, by kernel_rfl⟩)) (Nat.le_of_ble_eq_true (by kernel_rfl)) (by kernel_rfl) (by kernel_rfl) (by rintro _ _ ⟨_, ⟨_, _, _, _, rfl, rfl⟩, rfl⟩; exact Nat.le_of_ble_eq_true (by kernel_rfl))) (Nat.le_of_ble_eq_true (by kernel_rfl)) (by kernel_rfl) (by kernel_rfl) (by rintro _ _ ⟨_, _, ⟨_, ⟨_, _, _, _, rfl, rfl⟩, rfl⟩, rfl, rfl⟩; exact Nat.le_of_ble_eq_true (by kernel_rfl))) (by kernel_rfl) (by kernel_rfl) (by kernel_rfl) ?_
    rintro _ _ ⟨_, _, ⟨_, _, ⟨_, ⟨v_27, p1_28, h1_29, f30, rfl, rfl⟩, rfl⟩, rfl, rfl⟩, rfl, rfl⟩
    refine R.go 2 (R.cond (v_27 = 0) (by kernel_rfl) (fun c31 => ?_) (fun c31 => ?_))
    · refine R.go 3 (R.call true (l16Make_c (wout (refI ys ys.length) (refI ys ys.length).length) (by first | omega | (simp only [refI_len, wout_len]; omega) | (simp <;> omega))) (by kernel_rfl) rfl (by kernel_rfl) ?_)
      exact R.go 2 (R.retX (res := .agg [AI ((wout (refI ys ys.length) (refI ys ys.length).length).length), .ref 8]) (hp' := [.box 70 [LB c, AI (p1_28 : Int), .int .u64 h1_29], .list eo1 so1 no1 co1, .list eo2 so2 no2 co2, .list eo3 so3 no3 co3, .list eo4 so4 no4 co4, .dead, .box 26 [AI ((wout (refI ys ys.length) (refI ys ys.length).length).length), .ref 8], .frame [] [], rowA eI 2 1 (wout (refI ys ys.length) (refI ys ys.length).length)]) (by kernel_rfl) (by kernel_rfl) (by kernel_rfl) (by kernel_rfl) ⟨[0, 1, 2, 3, 4, 8], by kernel_rfl, by decide, (wout (refI ys ys.length) (refI ys ys.length).length).length, wout (refI ys ys.length) (refI ys ys.length).length, p1_28, h1_29, by first | omega | (simp only [refI_len, wout_len]; done) | (simp only [refI_len, wout_len]; omega), by first | omega | (simp only [refI_len, wout_len]; done) | (simp only [refI_len, wout_len]; omega), by kernel_rfl, by kernel_rfl⟩)
    · refine R.go 6 (R.callX (CallX.inF 5 usC frC (CallX.inF 6 [] [] (CallX.box 5 26 [AI 0, .nil] (shufX_c_r5 c p1_28 h1_29 v_1 eo1 so1 no1 co1 eo2 so2 no2 co2 eo3 so3 no3 co3 eo4 so4 no4 co4 26 2 1 [AI 0, .nil] hc (by first | omega | (simp only [refI_len, wout_len]; omega) | (simp <;> omega))) (by kernel_rfl) (by kernel_rfl) (by kernel_rfl) (by kernel_rfl) (by rintro _ _ ⟨_, _, _, _, rfl, rfl⟩; exact ⟨by kernel_rfl, by kernel_rfl, by kernel_rfl⟩)) (Nat.le_of_ble_eq_true (by kernel_rfl)) (by kernel_rfl) (by kernel_rfl) (by rintro _ _ ⟨_, ⟨_, _, _, _, rfl, rfl⟩, rfl⟩; exact Nat.le_of_ble_eq_true (by kernel_rfl))) (Nat.le_of_ble_eq_true (by kernel_rfl)) (by kernel_rfl) (by kernel_rfl) (by rintro _ _ ⟨_, _, ⟨_, ⟨_, _, _, _, rfl, rfl⟩, rfl⟩, rfl, rfl⟩; exact Nat.le_of_ble_eq_true (by kernel_rfl))) (by kernel_rfl) (by kernel_rfl) (by kernel_rfl) ?_)
      rintro _ _ ⟨_, _, ⟨_, _, ⟨_, ⟨r_32, p1_33, h1_34, f35, rfl, rfl⟩, rfl⟩, rfl, rfl⟩, rfl, rfl⟩
      have hsf := (by assumption : ((r_32).length : Int) = v_1 ∧ RNG v_1 r_32)
      have hsl := hsf.1
      have hwl : (((wout (refI ys ys.length) (refI ys ys.length).length)).length : Int) = v_1 := by (simp only [refI_len, wout_len]; omega)
      have hsr : ∀ j : Nat, j < (r_32).length → 0 ≤ (r_32).getD j 0 ∧ (r_32).getD j 0 < ((((wout (refI ys ys.length) (refI ys ys.length).length)).length : Nat) : Int) := fun j hj => by have := hsf.2 j hj; omega
      refine R.callX0 (renX_c (wout (refI ys ys.length) (refI ys ys.length).length) r_32 (by assumption) (by first | omega | (simp only [refI_len, wout_len]; omega) | (simp <;> omega))) (by kernel_rfl) (by rintro _ _ ⟨_, _, rfl, rfl⟩; rfl) (by kernel_rfl) (by kernel_rfl) ?_
      rintro _ ⟨r_36, f37, rfl, _⟩
      refine R.call true (l16Make_c r_36 (by first | omega | (simp only [refI_len, wout_len]; omega) | (simp <;> omega))) (by kernel_rfl) rfl (by kernel_rfl) ?_
      exact R.go 2 (R.retX (res := .agg [AI r_36.length, .ref 8]) (hp' := [.box 70 [LB c, AI (p1_33 : Int), .int .u64 h1_34], .list eo1 so1 no1 co1, .list eo2 so2 no2 co2, .list eo3 so3 no3 co3, .list eo4 so4 no4 co4, .dead, .box 26 [AI r_36.length, .ref 8], .frame [] [], rowA eI 2 1 r_36]) (by kernel_rfl) (by kernel_rfl) (by kernel_rfl) (by kernel_rfl) ⟨[0, 1, 2, 3, 4, 8], by kernel_rfl, by decide, r_36.length, r_36, p1_33, h1_34, by first | omega | (simp only [refI_len, wout_len]; done) | (simp only [refI_len, wout_len]; omega), by first | omega | (simp only [refI_len, wout_len]; done) | (simp only [refI_len, wout_len]; omega), by kernel_rfl, by kernel_rfl⟩)

theorem someP_c_r6 (c : List Int) (p : Nat) (h : Int) (size : Int) (eo1 : Nat) (so1 : Nat) (no1 : Nat) (co1 : List AV) (eo2 : Nat) (so2 : Nat) (no2 : Nat) (co2 : List AV) (eo3 : Nat) (so3 : Nat) (no3 : Nat) (co3 : List AV) (eo4 : Nat) (so4 : Nat) (no4 : Nat) (co4 : List AV) (eo5 : Nat) (so5 : Nat) (no5 : Nat) (co5 : List AV) (eo6 : Nat) (so6 : Nat) (no6 : Nat) (co6 : List AV) (hc : BY c) (hs : 0 ≤ size ∧ size ≤ 20) : CallX Try.prog 51 [.ptr 0 0, AI size] [.box 70 [LB c, AI (p : Int), .int .u64 h], .list eo1 so1 no1 co1, .list eo2 so2 no2 co2, .list eo3 so3 no3 co3, .list eo4 so4 no4 co4, .list eo5 so5 no5 co5, .list eo6 so6 no6 co6] (fun (resX : AV) (objX : List AObj) => ∃ n : Int, ∃ xs : List Int, ∃ p1 : Nat, ∃ h1 : Int, (0 ≤ n ∧ n ≤ size) ∧ ((xs.length : Int) = n) ∧ resX = .agg [AI n, .ref 7] ∧ objX = [.box 70 [LB c, AI (p1 : Int), .int .u64 h1], .list eo1 so1 no1 co1, .list eo2 so2 no2 co2, .list eo3 so3 no3 co3, .list eo4 so4 no4 co4, .list eo5 so5 no5 co5, .list eo6 so6 no6 co6, rowA eI 2 1 xs]) := by
  have hcl : c.length ≤ 4096 := hc.1
  have hcb := hc.2
  refine CallX.dropE (CallX.ofF Try.func51 rfl (by kernel_rfl) ?_)
  intro usC frC hfC
  refine R.go 8 (R.ar (size + 1) (by kernel_rfl) (by omega) (by omega) (by kernel_rfl) ?_)
  refine R.callX (CallX.inF 7 usC frC (CallX.box 7 26 [AI 0, .nil] (nextX_c_r7 c p h (size + 1) eo1 so1 no1 co1 eo2 so2 no2 co2 eo3 so3 no3 co3 eo4 so4 no4 co4 eo5 so5 no5 co5 eo6 so6 no6 co6 26 2 1 [AI 0, .nil] hc) (by kernel_rfl) (by kernel_rfl) (by kernel_rfl) (by kernel_rfl) (by rintro _ _ ⟨_, _, _, _, rfl, rfl⟩; exact ⟨by kernel_rfl, by kernel_rfl, by kernel_rfl⟩)) (Nat.le_of_ble_eq_true (by kernel_rfl)) (by kernel_rfl) (by kernel_rfl) (by rintro _ _ ⟨_, ⟨_, _, _, _, rfl, rfl⟩, rfl⟩; exact Nat.le_of_ble_eq_true (by kernel_rfl))) (by kernel_rfl) (by kernel_rfl) (by kernel_rfl) ?_
  rintro _ _ ⟨_, _, ⟨_, ⟨v_1, p1_2, h1_3, f4, rfl, rfl⟩, rfl⟩, rfl, rfl⟩
  have hb : 1 ≤ shl64 1 v_1 ∧ shl64 1 v_1 ≤ 4611686018427387904 := shl_rng v_1 (by omega) (by omega)
  refine R.go 10 (R.callX (CallX.inF 7 usC frC (CallX.box 7 26 [AI 0, .nil] (nextX_c_r8 c p1_2 h1_3 3 eo1 so1 no1 co1 eo2 so2 no2 co2 eo3 so3 no3 co3 eo4 so4 no4 co4 eo5 so5 no5 co5 eo6 so6 no6 co6 26 2 1 [AI 0, .nil] 2 1 0 (rows eI []) hc) (by kernel_rfl) (by kernel_rfl) (by kernel_rfl) (by kernel_rfl) (by rintro _ _ ⟨_, _, _, _, rfl, rfl⟩; exact ⟨by kernel_rfl, by kernel_rfl, by kernel_rfl⟩)) (Nat.le_of_ble_eq_true (by kernel_rfl)) (by kernel_rfl) (by kernel_rfl) (by rintro _ _ ⟨_, ⟨_, _, _, _, rfl, rfl⟩, rfl⟩; exact Nat.le_of_ble_eq_true (by kernel_rfl))) (by kernel_rfl) (by kernel_rfl) (by kernel_rfl) ?_)
  rintro _ _ ⟨_, _, ⟨_, ⟨v_5, p1_6, h1_7, f8, rfl, rfl⟩, rfl⟩, rfl, rfl⟩
  refine R.go 8 (R.loop ((fun | (x, ys, q, k) => (⟨(frm 63 [(0, .ptr 0 0), (4, .ptr 8 0), (5, AI v_1), (6, .ref 9), (7, AI v_5), (8, AI (x : Int))]), [.box 70 [LB c, AI (q : Int), .int .u64 k], .list eo1 so1 no1 co1, .list eo2 so2 no2 co2, .list eo3 so3 no3 co3, .list eo4 so4 no4 co4, .list eo5 so5 no5 co5, .list eo6 so6 no6 co6, .frame usC frC, .box 26 [AI 0, .nil], rowA eI 2 1 ys]⟩ : St) : Nat × (List Int) × Nat × Int → St)) (fun | (x, ys, q, k) => ((x : Int) ≤ v_1) ∧ (ys.length = x)) (fun | (x, ys, q, k) => (v_1 - x).toNat) (0, [], p1_6, h1_7) [0, 4, 5, 6, 7, 8] none (by kernel_rfl) (by kernel_rfl) (by kernel_rfl) ⟨(by omega), (by rfl)⟩ ?_)
  rintro ⟨x, ys, q, k⟩ ⟨h12_1, h12_2⟩ R9 N10
  refine R.go 7 (R.cond ((x : Int) < v_1) (by kernel_rfl) (fun c13 => ?_) (fun c13 => ?_))
  · refine R.go 7 (R.call true (l01Full_c v_1 (by first | omega | (simp only [refI_len, wout_len]; omega) | (simp <;> omega)) (by first | omega | (simp only [refI_len, wout_len]; omega) | (simp <;> omega))) (by kernel_rfl) rfl (by kernel_rfl) ?_)
    refine R.ar (((shl64 1 v_1) - 1) + 1) (by kernel_rfl) (by omega) (by omega) (by kernel_rfl) ?_
    refine R.callX (CallX.inF 7 usC frC (CallX.box 7 26 [AI 0, .nil] (nextX_c_r8 c q k (((shl64 1 v_1) - 1) + 1) eo1 so1 no1 co1 eo2 so2 no2 co2 eo3 so3 no3 co3 eo4 so4 no4 co4 eo5 so5 no5 co5 eo6 so6 no6 co6 26 2 1 [AI 0, .nil] 2 1 ys.length (rows eI ys) hc) (by kernel_rfl) (by kernel_rfl) (by kernel_rfl) (by kernel_rfl) (by rintro _ _ ⟨_, _, _, _, rfl, rfl⟩; exact ⟨by kernel_rfl, by kernel_rfl, by kernel_rfl⟩)) (Nat.le_of_ble_eq_true (by kernel_rfl)) (by kernel_rfl) (by kernel_rfl) (by rintro _ _ ⟨_, ⟨_, _, _, _, rfl, rfl⟩, rfl⟩; exact Nat.le_of_ble_eq_true (by kernel_rfl))) (by kernel_rfl) (by kernel_rfl) (by kernel_rfl) ?_
    rintro _ _ ⟨_, _, ⟨_, ⟨v_14, p1_15, h1_16, f17, rfl, rfl⟩, rfl⟩, rfl, rfl⟩
    refine R.go 1 (R.ar ((x : Int) + 1) (by kernel_rfl) (by omega) (by omega) (by kernel_rfl) ?_)
    refine R.call true (l01Full_c ((x : Int) + 1) (by first | omega | (simp only [refI_len, wout_len]; omega) | (simp <;> omega)) (by first | omega | (simp only [refI_len, wout_len]; omega) | (simp <;> omega))) (by kernel_rfl) rfl (by kernel_rfl) ?_
    refine R.go 9 (R.loop ((fun | (j, m, q2, k2) => (⟨(frm 63 [(0, .ptr 0 0), (4, .ptr 8 0), (5, AI v_1), (6, .ref 9), (7, AI v_5), (8, AI (x : Int)), (9, AI m), (10, AI (j : Int))]), [.box 70 [LB c, AI (q2 : Int), .int .u64 k2], .list eo1 so1 no1 co1, .list eo2 so2 no2 co2, .list eo3 so3 no3 co3, .list eo4 so4 no4 co4, .list eo5 so5 no5 co5, .list eo6 so6 no6 co6, .frame usC frC, .box 26 [AI 0, .nil], rowA eI 2 1 ys]⟩ : St) : Nat × Int × Nat × Int → St)) (fun | (j, m, q2, k2) => True) (fun | (j, m, q2, k2) => (v_5 - j).toNat) (0, (bnot v_14 ((shl64 1 ((x : Int) + 1)) - 1)), p1_15, h1_16) [0, 4, 5, 6, 7, 8, 9, 10] none (by kernel_rfl) (by kernel_rfl) (by kernel_rfl) trivial ?_)
    rintro ⟨j, m, q2, k2⟩ _ R18 N19
    refine R.go 7 (R.cond ((j : Int) < v_5) (by kernel_rfl) (fun c22 => ?_) (fun c22 => ?_))
    · refine R.go 7 (R.call true (l01Full_c v_1 (by first | omega | (simp only [refI_len, wout_len]; omega) | (simp <;> omega)) (by first | omega | (simp only [refI_len, wout_len]; omega) | (simp <;> omega))) (by kernel_rfl) rfl (by kernel_rfl) ?_)
      refine R.ar (((shl64 1 v_1) - 1) + 1) (by kernel_rfl) (by omega) (by omega) (by kernel_rfl) ?_
      refine R.callX (CallX.inF 7 usC frC (CallX.box 7 26 [AI 0, .nil] (nextX_c_r8 c q2 k2 (((shl64 1 v_1) - 1) + 1) eo1 so1 no1 co1 eo2 so2 no2 co2 eo3 so3 no3 co3 eo4 so4 no4 co4 eo5 so5 no5 co5 eo6 so6 no6 co6 26 2 1 [AI 0, .nil] 2 1 ys.length (rows eI ys) hc) (by kernel_rfl) (by kernel_rfl) (by kernel_rfl) (by kernel_rfl) (by rintro _ _ ⟨_, _, _, _, rfl, rfl⟩; exact ⟨by kernel_rfl, by kernel_rfl, by kernel_rfl⟩)) (Nat.le_of_ble_eq_true (by kernel_rfl)) (by kernel_rfl) (by kernel_rfl) (by rintro _ _ ⟨_, ⟨_, _, _, _, rfl, rfl⟩, rfl⟩; exact Nat.le_of_ble_eq_true (by kernel_rfl))) (by kernel_rfl) (by kernel_rfl) (by kernel_rfl) ?_
      rintro _ _ ⟨_, _, ⟨_, ⟨v_23, p1_24, h1_25, f26, rfl, rfl⟩, rfl⟩, rfl, rfl⟩
      refine R.go 6 (R.ar ((j : Int) + 1) (by kernel_rfl) (by omega) (by omega) (by kernel_rfl) ?_)
      exact R.go 2 (R.stop R18 (by kernel_rfl) (N19 (j + 1, band m v_23, p1_24, h1_25) [0, 4, 5, 6, 7, 8, 9, 10] none _ (by kernel_rfl) (by kernel_rfl) trivial (by show ((v_5 - (j + 1)).toNat) < ((v_5 - j).toNat); omega)))
    · refine R.go 5 (R.app eI ys [m] 9 2 1 8 (by kernel_rfl) eI_one (by decide) (by first | omega | (simp <;> omega)) (by kernel_rfl) ?_)
      refine R.kfix 7 (us := usC) (by kernel_rfl) (hfC.kill 9 (Nat.le_of_ble_eq_true (by kernel_rfl))) ?_
      refine R.go 5 (R.ar ((x : Int) + 1) (by kernel_rfl) (by omega) (by omega) (by kernel_rfl) ?_)
      exact R.go 2 (R.stop R9 (by kernel_rfl) (N10 (x + 1, ys ++ [m], q2, k2) [0, 4, 5, 6, 7, 8] (some [0, 1, 2, 3, 4, 5, 6, 7, 8, 9]) _ (by kernel_rfl) (canonF (fr := frC) (fun (frX : List AV) => (⟨(frm 63 [(0, .ptr 0 0), (4, .ptr 8 0), (5, AI v_1), (6, .ref 9), (7, AI v_5), (8, AI ((x : Int) + 1))]), [.box 70 [LB c, AI (q2 : Int), .int .u64 k2], .list eo1 so1 no1 co1, .list eo2 so2 no2 co2, .list eo3 so3 no3 co3, .list eo4 so4 no4 co4, .list eo5 so5 no5 co5, .list eo6 so6 no6 co6, .frame usC frX, .box 26 [AI 0, .nil], rowA eI 2 1 (ys ++ [m])]⟩ : St)) (hfC.ren _ (by kernel_rfl)) (by kernel_rfl) (by kernel_rfl)) ⟨(by omega), (by (simp <;> omega))⟩ (by show ((v_1 - (x + 1)).toNat) < ((v_1 - x).toNat); omega)))
  · refine R.go 4 (R.frz 9 (by kernel_rfl) ?_)
    refine R.kfix 7 (us := usC) (by kernel_rfl) (hfC.frz 9 (LI ys) (Nat.le_of_ble_eq_true (by kernel_rfl))) ?_
    refine R.call true (l01Refl_c ys (by first | omega | (simp only [refI_len, wout_len]; omega) | (simp <;> omega))).frz (by kernel_rfl) rfl (by kernel_rfl) ?_
    refine R.call true (l01Clos_c (refI ys ys.length) (by first | omega | (simp only [refI_len, wout_len]; omega) | (simp <;> omega))).frz (by kernel_rfl) rfl (by kernel_rfl) ?_
    refine R.go 6 (R.deadF 9 (by kernel_rfl) (by kernel_rfl) ?_)
    refine R.callX (CallX.inF 7 usC frC (CallX.inF 8 [] [] (CallX.box 7 26 [AI 0, .nil] (nextX_c_r7 c q k 2 eo1 so1 no1 co1 eo2 so2 no2 co2 eo3 so3 no3 co3 eo4 so4 no4 co4 eo5 so5 no5 co5 eo6 so6 no6 co6 26 2 1 [AI 0, .nil] hc) (by kernel_rfl) (by kernel_rfl) (by kernel_rfl) (by kernel_rfl) (by rintro _ _ ⟨_, _, _, _, rfl, rfl⟩; exact ⟨by kernel_rfl, by kernel_rfl, by kernel_rfl⟩)) (Nat.le_of_ble_eq_true (by kernel_rfl)) (by kernel_rfl) (by kernel_rfl) (by rintro _ _ ⟨_, ⟨_, _, _, _, rfl, rfl⟩, rfl⟩; exact Nat.le_of_ble_eq_true (by kernel_rfl))) (Nat.le_of_ble_eq_true (by kernel_rfl)) (by kernel_rfl) (by kernel_rfl) (by rintro _ _ ⟨_, _, ⟨_, ⟨_, _, _, _, rfl, rfl⟩, rfl⟩, rfl, rfl⟩; exact Nat.le_of_ble_eq_true (by kernel_rfl))) (by kernel_rfl) (by kernel_rfl) (by kernel_rfl) ?_
    rintro _ _ ⟨_, _, ⟨_, _, ⟨_, ⟨v_27, p1_28, h1_29, f30, rfl, rfl⟩, rfl⟩, rfl, rfl⟩, rfl, rfl⟩
    refine R.go 2 (R.cond (v_27 = 0) (by kernel_rfl) (fun c31 => ?_) (fun c31 => ?_))
    · refine R.go 3 (R.call true (l16Make_c (wout (refI ys ys.length) (refI ys ys.length).length) (by first | omega | (simp only [refI_len, wout_len]; omega) | (simp <;> omega))) (by kernel_rfl) rfl (by kernel_rfl) ?_)
      exact R.go 2 (R.retX (res := .agg [AI ((wout (refI ys ys.length) (refI ys ys.length).length).length), .ref 10]) (hp' := [.box 70 [LB c, AI (p1_28 : Int), .int .u64 h1_29], .list eo1 so1 no1 co1, .list eo2 so2 no2 co2, .list eo3 so3 no3 co3, .list eo4 so4 no4 co4, .list eo5 so5 no5 co5, .list eo6 so6 no6 co6, .dead, .box 26 [AI ((wout (refI ys ys.length) (refI ys ys.length).length).length), .ref 10], .frame [] [], rowA eI 2 1 (wout (refI ys ys.length) (refI ys ys.length).length)]) (by kernel_rfl) (by kernel_rfl) (by kernel_rfl) (by kernel_rfl) ⟨[0, 1, 2, 3, 4, 5, 6, 10], by kernel_rfl, by decide, (wout (refI ys ys.length) (refI ys ys.length).length).length, wout (refI ys ys.length) (refI ys ys.length).length, p1_28, h1_29, by first | omega | (simp only [refI_len, wout_len]; done) | (simp only [refI_len, wout_len]; omega), by first | omega | (simp only [refI_len, wout_len]; done) | (simp only [refI_len, wout_len]; omega), by kernel_rfl, by kernel_rfl⟩)
    · refine R.go 6 (R.callX (CallX.inF 7 usC frC (CallX.inF 8 [] [] (CallX.box 7 26 [AI 0, .nil] (shufX_c_r7 c p1_28 h1_29 v_1 eo1 so1 no1 co1 eo2 so2 no2 co2 eo3 so3 no3 co3 eo4 so4 no4 co4 eo5 so5 no5 co5 eo6 so6 no6 co6 26 2 1 [AI 0, .nil] hc (by first | omega | (simp only [refI_len, wout_len]; omega) | (simp <;> omega))) (by kernel_rfl) (by kernel_rfl) (by kernel_rfl) (by kernel_rfl) (by rintro _ _ ⟨_, _, _, _, rfl, rfl⟩; exact ⟨by kernel_rfl, by kernel_rfl, by kernel_rfl⟩)) (Nat.le_of_ble_eq_true (by kernel_rfl)) (by kernel_rfl) (by kernel_rfl) (by rintro _ _ ⟨_, ⟨_, _, _, _, rfl, rfl⟩, rfl⟩; exact Nat.le_of_ble_eq_true (by kernel_rfl))) (Nat.le_of_ble_eq_true (by kernel_rfl)) (by kernel_rfl) (by kernel_rfl) (by rintro _ _ ⟨_, _, ⟨_, ⟨_, _, _, _, rfl, rfl⟩, rfl⟩, rfl, rfl⟩; exact Nat.le_of_ble_eq_true (by kernel_rfl))) (by kernel_rfl) (by kernel_rfl) (by kernel_rfl) ?_)
      rintro _ _ ⟨_, _, ⟨_, _, ⟨_, ⟨r_32, p1_33, h1_34, f35, rfl, rfl⟩, rfl⟩, rfl, rfl⟩, rfl, rfl⟩
      have hsf := (by assumption : ((r_32).length : Int) = v_1 ∧ RNG v_1 r_32)
      have hsl := hsf.1
      have hwl : (((wout (refI ys ys.length) (refI ys ys.length).length)).length : Int) = v_1 := by (simp only [refI_len, wout_len]; omega)
      have hsr : ∀ j : Nat, j < (r_32).length → 0 ≤ (r_32).getD j 0 ∧ (r_32).getD j 0 < ((((wout (refI ys ys.length) (refI ys ys.length).length)).length : Nat) : Int) := fun j hj => by have := hsf.2 j hj; omega
      refine R.callX0 (renX_c (wout (refI ys ys.length) (refI ys ys.length).length) r_32 (by assumption) (by first | omega | (simp only [refI_len, wout_len]; omega) | (simp <;> omega))) (by kernel_rfl) (by rintro _ _ ⟨_, _, rfl, rfl⟩; rfl) (by kernel_rfl) (by kernel_rfl) ?_
      rintro _ ⟨r_36, f37, rfl, _⟩
      refine R.call true (l16Make_c r_36 (by first | omega | (simp only [refI_len, wout_len]; omega) | (simp <;> omega))) (by kernel_rfl) rfl (by kernel_rfl) ?_
      exact R.go 2 (R.retX (res := .agg [AI r_36.length, .ref 10]) (hp' := [.box 70 [LB c, AI (p1_33 : Int), .int .u64 h1_34], .list eo1 so1 no1 co1, .list eo2 so2 no2 co2, .list eo3 so3 no3 co3, .list eo4 so4 no4 co4, .list eo5 so5 no5 co5, .list eo6 so6 no6 co6, .dead, .box 26 [AI r_36.length, .ref 10], .frame [] [], rowA eI 2 1 r_36]) (by kernel_rfl) (by kernel_rfl) (by kernel_rfl) (by kernel_rfl) ⟨[0, 1, 2, 3, 4, 5, 6, 10], by kernel_rfl, by decide, r_36.length, r_36, p1_33, h1_34, by first | omega | (simp only [refI_len, wout_len]; done) | (simp only [refI_len, wout_len]; omega), by first | omega | (simp only [refI_len, wout_len]; done) | (simp only [refI_len, wout_len]; omega), by kernel_rfl, by kernel_rfl⟩)

theorem rootP_c_r5 (c : List Int) (p : Nat) (h : Int) (size : Int) (eo1 : Nat) (so1 : Nat) (no1 : Nat) (co1 : List AV) (eo2 : Nat) (so2 : Nat) (no2 : Nat) (co2 : List AV) (eo3 : Nat) (so3 : Nat) (no3 : Nat) (co3 : List AV) (eo4 : Nat) (so4 : Nat) (no4 : Nat) (co4 : List AV) (eo5 : Nat) (so5 : Nat) (no5 : Nat) (co5 : List AV) (hc : BY c) (hs : 1 ≤ size ∧ size ≤ 20) : CallX Try.prog 52 [.ptr 0 0, AI size] [.box 70 [LB c, AI (p : Int), .int .u64 h], .list eo1 so1 no1 co1, .list eo2 so2 no2 co2, .list eo3 so3 no3 co3, .list eo4 so4 no4 co4, .list eo5 so5 no5 co5] (fun (resX : AV) (objX : List AObj) => ∃ n : Int, ∃ xs : List Int, ∃ p1 : Nat, ∃ h1 : Int, (0 ≤ n ∧ n ≤ size) ∧ ((xs.length : Int) = n) ∧ resX = .agg [AI n, .ref 6] ∧ objX = [.box 70 [LB c, AI (p1 : Int), .int .u64 h1], .list eo1 so1 no1 co1, .list eo2 so2 no2 co2, .list eo3 so3 no3 co3, .list eo4 so4 no4 co4, .list eo5 so5 no5 co5, rowA eI 2 1 xs]) := by
  have hcl : c.length ≤ 4096 := hc.1
  have hcb := hc.2
  refine CallX.dropE (CallX.ofF Try.func52 rfl (by kernel_rfl) ?_)
  intro usC frC hfC
  refine R.go 6 (R.lit (s := 1) (n := 1) (cs := rows eI [1]) (by kernel_rfl) (by kernel_rfl) ?_)
  refine R.call true (l16Make_c [1] (by first | omega | (simp; omega) | (simp <;> omega))).frz (by kernel_rfl) rfl (by kernel_rfl) ?_
  refine R.go 2 (R.ar (size - 1) (by kernel_rfl) (by omega) (by omega) (by kernel_rfl) ?_)
  refine R.callX (CallX.inF 6 usC frC (CallX.box 6 26 [AI 0, .nil] (someP_c_r6 c p h (size - 1) eo1 so1 no1 co1 eo2 so2 no2 co2 eo3 so3 no3 co3 eo4 so4 no4 co4 eo5 so5 no5 co5 26 2 1 [AI 0, .nil] hc (by first | omega | (simp; omega) | (simp <;> omega))) (by kernel_rfl) (by kernel_rfl) (by kernel_rfl) (by kernel_rfl) (by rintro _ _ ⟨_, _, _, _, _, _, rfl, rfl⟩; exact ⟨by kernel_rfl, by kernel_rfl, by kernel_rfl⟩)) (Nat.le_of_ble_eq_true (by kernel_rfl)) (by kernel_rfl) (by kernel_rfl) (by rintro _ _ ⟨_, ⟨_, _, _, _, _, _, rfl, rfl⟩, rfl⟩; exact Nat.le_of_ble_eq_true (by kernel_rfl))) (by kernel_rfl) (by kernel_rfl) (by kernel_rfl) ?_
  rintro _ _ ⟨_, _, ⟨_, ⟨n_1, xs_2, p1_3, h1_4, f5, f6, rfl, rfl⟩, rfl⟩, rfl, rfl⟩
  refine R.call false (joinD_c ([1].length) [1] n_1 xs_2 (by first | omega | (simp; omega))) (by kernel_rfl) (by simp [AV.closed, closedL, AI, ownA_closed eI_closed]) (by kernel_rfl) ?_
  exact R.go 2 (R.retX (res := .agg [AI ((stL ([1].length) [1] n_1 xs_2).length), .ref 9]) (hp' := [.box 70 [LB c, AI (p1_3 : Int), .int .u64 h1_4], .list eo1 so1 no1 co1, .list eo2 so2 no2 co2, .list eo3 so3 no3 co3, .list eo4 so4 no4 co4, .list eo5 so5 no5 co5, .dead, .box 26 [AI ((stL ([1].length) [1] n_1 xs_2).length), .ref 9], rowA eI 2 1 xs_2, rowA eI 2 1 (stL ([1].length) [1] n_1 xs_2)]) (by kernel_rfl) (by kernel_rfl) (by kernel_rfl) (by kernel_rfl) ⟨[0, 1, 2, 3, 4, 5, 9], by kernel_rfl, by decide, (stL ([1].length) [1] n_1 xs_2).length, stL ([1].length) [1] n_1 xs_2, p1_3, h1_4, by first | omega | (rw [stL_len]; simp; omega) | (rw [stL_len]; done), by first | omega | (rw [stL_len]; simp; omega) | (rw [stL_len]; done), by kernel_rfl, by kernel_rfl⟩)

theorem drawP_c_r3 (c : List Int) (p : Nat) (h : Int) (size : Int) (eo1 : Nat) (so1 : Nat) (no1 : Nat) (co1 : List AV) (eo2 : Nat) (so2 : Nat) (no2 : Nat) (co2 : List AV) (eo3 : Nat) (so3 : Nat) (no3 : Nat) (co3 : List AV) (hc : BY c) (hs : 1 ≤ size ∧ size ≤ 19) : CallX Try.prog 27 [.ptr 0 0, AI size] [.box 70 [LB c, AI (p : Int), .int .u64 h], .list eo1 so1 no1 co1, .list eo2 so2 no2 co2, .list eo3 so3 no3 co3] (fun (resX : AV) (objX : List AObj) => ∃ n : Int, ∃ xs : List Int, ∃ p1 : Nat, ∃ h1 : Int, ((xs.length : Int) ≤ size + 1) ∧ resX = .agg [AI n, LI xs] ∧ objX = [.box 70 [LB c, AI (p1 : Int), .int .u64 h1], .list eo1 so1 no1 co1, .list eo2 so2 no2 co2, .list eo3 so3 no3 co3]) := by
  have hcl : c.length ≤ 4096 := hc.1
  have hcb := hc.2
  refine CallX.dropE (CallX.ofF Try.func27 rfl (by kernel_rfl) ?_)
  intro usC frC hfC
  refine R.go 8 (R.callX (CallX.inF 4 usC frC (CallX.box 4 26 [AI 0, .nil] (someP_c_r4 c p h size eo1 so1 no1 co1 eo2 so2 no2 co2 eo3 so3 no3 co3 26 2 1 [AI 0, .nil] hc (by omega)) (by kernel_rfl) (by kernel_rfl) (by kernel_rfl) (by kernel_rfl) (by rintro _ _ ⟨_, _, _, _, _, _, rfl, rfl⟩; exact ⟨by kernel_rfl, by kernel_rfl, by kernel_rfl⟩)) (Nat.le_of_ble_eq_true (by kernel_rfl)) (by kernel_rfl) (by kernel_rfl) (by rintro _ _ ⟨_, ⟨_, _, _, _, _, _, rfl, rfl⟩, rfl⟩; exact Nat.le_of_ble_eq_true (by kernel_rfl))) (by kernel_rfl) (by kernel_rfl) (by kernel_rfl) ?_)
  rintro _ _ ⟨_, _, ⟨_, ⟨n_1, xs_2, p1_3, h1_4, f5, f6, rfl, rfl⟩, rfl⟩, rfl, rfl⟩
  refine R.go 7 (R.callX (CallX.inF 4 usC frC (CallX.box 4 26 [AI 0, .nil] (nextX_c_r5b c p1_3 h1_4 3 eo1 so1 no1 co1 eo2 so2 no2 co2 eo3 so3 no3 co3 26 2 1 [AI 0, .nil] 2 1 xs_2.length (rows eI xs_2) 26 n_1 hc) (by kernel_rfl) (by kernel_rfl) (by kernel_rfl) (by kernel_rfl) (by rintro _ _ ⟨_, _, _, _, rfl, rfl⟩; exact ⟨by kernel_rfl, by kernel_rfl, by kernel_rfl⟩)) (Nat.le_of_ble_eq_true (by kernel_rfl)) (by kernel_rfl) (by kernel_rfl) (by rintro _ _ ⟨_, ⟨_, _, _, _, rfl, rfl⟩, rfl⟩; exact Nat.le_of_ble_eq_true (by kernel_rfl))) (by kernel_rfl) (by kernel_rfl) (by kernel_rfl) ?_)
  rintro _ _ ⟨_, _, ⟨_, ⟨v_7, p1_8, h1_9, f10, rfl, rfl⟩, rfl⟩, rfl, rfl⟩
  refine R.go 2 (R.cond (v_7 = 0) (by kernel_rfl) (fun c11 => ?_) (fun c11 => ?_))
  · refine R.go 1 (R.frz 6 (by kernel_rfl) ?_)
    refine R.kfix 4 (us := usC) (by kernel_rfl) (hfC.frz 6 (LI xs_2) (Nat.le_of_ble_eq_true (by kernel_rfl))) ?_
    refine R.go 2 (R.deadF 6 (by kernel_rfl) (by kernel_rfl) ?_)
    refine R.callX (CallX.inF 4 usC frC (CallX.inF 5 [] [] (CallX.box 5 26 [AI n_1, LI xs_2] (CallX.box 4 26 [AI 0, .nil] (rootP_c_r5 c p1_8 h1_9 size eo1 so1 no1 co1 eo2 so2 no2 co2 eo3 so3 no3 co3 26 2 1 [AI 0, .nil] 26 2 1 [AI n_1, LI xs_2] hc (by omega)) (by kernel_rfl) (by kernel_rfl) (by kernel_rfl) (by kernel_rfl) (by rintro _ _ ⟨_, _, _, _, _, _, rfl, rfl⟩; exact ⟨by kernel_rfl, by kernel_rfl, by kernel_rfl⟩)) (by kernel_rfl) (by kernel_rfl) (by kernel_rfl) (by kernel_rfl) (by rintro _ _ ⟨_, ⟨_, _, _, _, _, _, rfl, rfl⟩, rfl⟩; exact ⟨by kernel_rfl, by kernel_rfl, by kernel_rfl⟩)) (Nat.le_of_ble_eq_true (by kernel_rfl)) (by kernel_rfl) (by kernel_rfl) (by rintro _ _ ⟨_, ⟨_, ⟨_, _, _, _, _, _, rfl, rfl⟩, rfl⟩, rfl⟩; exact Nat.le_of_ble_eq_true (by kernel_rfl))) (Nat.le_of_ble_eq_true (by kernel_rfl)) (by kernel_rfl) (by kernel_rfl) (by rintro _ _ ⟨_, _, ⟨_, ⟨_, ⟨_, _, _, _, _, _, rfl, rfl⟩, rfl⟩, rfl⟩, rfl, rfl⟩; exact Nat.le_of_ble_eq_true (by kernel_rfl))) (by kernel_rfl) (by kernel_rfl) (by kernel_rfl) ?_
    rintro _ _ ⟨_, _, ⟨_, _, ⟨_, ⟨_, ⟨n_12, xs_13, p1_14, h1_15, f16, f17, rfl, rfl⟩, rfl⟩, rfl⟩, rfl, rfl⟩, rfl, rfl⟩
    have hbp : 1 ≤ shl64 1 n_12 ∧ shl64 1 n_12 ≤ 4611686018427387904 := shl_rng n_12 (by omega) (by omega)
    refine R.go 6 (R.callX (CallX.inF 4 usC frC (CallX.inF 5 [] [] (CallX.box 4 26 [AI 0, .nil] (nextX_c_rooooBo c p1_14 h1_15 40 eo1 so1 no1 co1 eo2 so2 no2 co2 eo3 so3 no3 co3 26 2 1 [AI 0, .nil] 26 n_12 2 1 xs_13.length (rows eI xs_13) hc) (by kernel_rfl) (by kernel_rfl) (by kernel_rfl) (by kernel_rfl) (by rintro _ _ ⟨_, _, _, _, rfl, rfl⟩; exact ⟨by kernel_rfl, by kernel_rfl, by kernel_rfl⟩)) (Nat.le_of_ble_eq_true (by kernel_rfl)) (by kernel_rfl) (by kernel_rfl) (by rintro _ _ ⟨_, ⟨_, _, _, _, rfl, rfl⟩, rfl⟩; exact Nat.le_of_ble_eq_true (by kernel_rfl))) (Nat.le_of_ble_eq_true (by kernel_rfl)) (by kernel_rfl) (by kernel_rfl) (by rintro _ _ ⟨_, _, ⟨_, ⟨_, _, _, _, rfl, rfl⟩, rfl⟩, rfl, rfl⟩; exact Nat.le_of_ble_eq_true (by kernel_rfl))) (by kernel_rfl) (by kernel_rfl) (by kernel_rfl) ?_)
    rintro _ _ ⟨_, _, ⟨_, _, ⟨_, ⟨v_18, p1_19, h1_20, f21, rfl, rfl⟩, rfl⟩, rfl, rfl⟩, rfl, rfl⟩
    refine R.go 7 (R.cond (v_18 = 0) (by kernel_rfl) (fun c22 => ?_) (fun c22 => ?_))
    · refine R.go 4 (R.ar (n_12 + 1) (by kernel_rfl) (by omega) (by omega) (by kernel_rfl) ?_)
      refine R.lit (s := 1) (n := 3) (cs := rows eI [(-1), 9, n_12 + 1]) (by kernel_rfl) (by kernel_rfl) ?_
      refine R.callX (CallX.inF 4 usC frC (CallX.inF 5 [] [] (CallX.box 4 26 [AI 0, .nil] (pickX_c_rooooBo c p1_19 h1_20 [(-1), 9, n_12 + 1] eo1 so1 no1 co1 eo2 so2 no2 co2 eo3 so3 no3 co3 26 2 1 [AI 0, .nil] 26 n_12 2 1 xs_13.length (rows eI xs_13) hc (by simp)) (by kernel_rfl) (by kernel_rfl) (by kernel_rfl) (by kernel_rfl) (by rintro _ _ ⟨_, _, _, rfl, rfl⟩; exact ⟨by kernel_rfl, by kernel_rfl, by kernel_rfl⟩)) (Nat.le_of_ble_eq_true (by kernel_rfl)) (by kernel_rfl) (by kernel_rfl) (by rintro _ _ ⟨_, ⟨_, _, _, rfl, rfl⟩, rfl⟩; exact Nat.le_of_ble_eq_true (by kernel_rfl))) (Nat.le_of_ble_eq_true (by kernel_rfl)) (by kernel_rfl) (by kernel_rfl) (by rintro _ _ ⟨_, _, ⟨_, ⟨_, _, _, rfl, rfl⟩, rfl⟩, rfl, rfl⟩; exact Nat.le_of_ble_eq_true (by kernel_rfl))) (by kernel_rfl) (by kernel_rfl) (by kernel_rfl) ?_
      rintro _ _ ⟨_, _, ⟨_, _, ⟨_, ⟨v_23, p1_24, h1_25, rfl, rfl⟩, rfl⟩, rfl, rfl⟩, rfl, rfl⟩
      refine R.go 9 (R.frz 8 (by kernel_rfl) ?_)
      refine R.kfix 4 (us := usC) (by kernel_rfl) (hfC.frz 8 (LI xs_13) (Nat.le_of_ble_eq_true (by kernel_rfl))) ?_
      exact R.retX (res := .agg [AI v_23, LI xs_13]) (hp' := [.box 70 [LB c, AI (p1_24 : Int), .int .u64 h1_25], .list eo1 so1 no1 co1, .list eo2 so2 no2 co2, .list eo3 so3 no3 co3, .dead, .box 26 [AI v_23, LI xs_13], .frame [] [], .box 26 [AI v_23, LI xs_13], .dead]) (by kernel_rfl) (by kernel_rfl) (by kernel_rfl) (by kernel_rfl) ⟨[0, 1, 2, 3], by kernel_rfl, by decide, v_23, xs_13, p1_24, h1_25, by first | omega | (simp; done) | (simp only [List.length_append, List.length_cons, List.length_nil, List.length_set]; omega), by kernel_rfl, by kernel_rfl⟩
    · refine R.go 5 (R.cond (v_18 = 1) (by kernel_rfl) (fun c26 => ?_) (fun c26 => ?_))
      · refine R.go 3 (R.call false (l01Own_c xs_13 (by first | omega | (simp <;> omega))) (by kernel_rfl) (ownA_closed eI_closed 2 1 xs_13) (by kernel_rfl) ?_)
        refine R.go 1 (R.app eI xs_13 [0] 9 2 1 8 (by kernel_rfl) eI_one (by decide) (by first | omega | (simp <;> omega)) (by kernel_rfl) ?_)
        refine R.kfix 4 (us := usC) (by kernel_rfl) (hfC.kill 9 (Nat.le_of_ble_eq_true (by kernel_rfl))) ?_
        refine R.go 9 (R.frz 9 (by kernel_rfl) ?_)
        refine R.kfix 4 (us := usC) (by kernel_rfl) (hfC.frz 9 (LI (xs_13 ++ [0])) (Nat.le_of_ble_eq_true (by kernel_rfl))) ?_
        exact R.retX (res := .agg [AI n_12, LI (xs_13 ++ [0])]) (hp' := [.box 70 [LB c, AI (p1_19 : Int), .int .u64 h1_20], .list eo1 so1 no1 co1, .list eo2 so2 no2 co2, .list eo3 so3 no3 co3, .dead, .box 26 [AI n_12, LI (xs_13 ++ [0])], .frame [] [], .box 26 [AI n_12, LI (xs_13 ++ [0])], rowA eI 2 1 xs_13, .dead, rowA eI 2 1 [0]]) (by kernel_rfl) (by kernel_rfl) (by kernel_rfl) (by kernel_rfl) ⟨[0, 1, 2, 3], by kernel_rfl, by decide, n_12, xs_13 ++ [0], p1_19, h1_20, by first | omega | (simp; done) | (simp only [List.length_append, List.length_cons, List.length_nil, List.length_set]; omega), by kernel_rfl, by kernel_rfl⟩
      · refine R.go 5 (R.cond (v_18 = 2) (by kernel_rfl) (fun c27 => ?_) (fun c27 => ?_))
        · refine R.go 6 (R.cond (n_12 > 0) (by kernel_rfl) (fun c28 => ?_) (fun c28 => ?_))
          · refine R.meetF (α := Int × Nat × Int × Int × Nat × Int) (fun | (v_29, p1_30, h1_31, v_33, p1_34, h1_35) => ((n_12 < 1 → v_29 = 0) ∧ (1 ≤ n_12 → 0 ≤ v_29 ∧ v_29 < n_12)) ∧ (((((shl64 1 n_12) - 1) + 2) < 1 → v_33 = 0) ∧ (1 ≤ (((shl64 1 n_12) - 1) + 2) → 0 ≤ v_33 ∧ v_33 < (((shl64 1 n_12) - 1) + 2)))) (fun | (v_29, p1_30, h1_31, v_33, p1_34, h1_35) => (⟨(frm 54 [(0, .ptr 0 0), (1, AI size), (4, .ptr 5 0), (5, .ptr 7 0), (6, .ptr 0 0), (7, AI size), (8, .agg [AI n_1, LI xs_2]), (9, .ptr 0 0), (10, AI v_7), (11, .bool (decide (v_7 = 0))), (12, .ptr 0 0), (13, AI size), (14, .agg [AI n_12, .ref 8]), (15, .ptr 0 0), (16, AI v_18), (17, .bool (decide (v_18 = 0))), (18, .bool (decide (v_18 = 0))), (26, .bool (decide (v_18 = 1))), (27, .bool (decide (v_18 = 1))), (34, .bool (decide (v_18 = 2))), (35, .bool (decide (v_18 = 2))), (36, .ptr 7 0), (37, AI n_12), (38, .bool (decide (n_12 > 0))), (39, .ptr 7 1), (40, .ref 8), (41, .ptr 0 0), (42, .ptr 7 0), (43, AI n_12), (44, AI v_29), (45, .ptr 0 0), (46, .ptr 7 0), (47, AI n_12), (48, AI ((shl64 1 n_12) - 1)), (49, AI (((shl64 1 n_12) - 1) + 2)), (50, AI v_33), (51, AI (v_33 - 1)), (52, .ptr 8 (((v_29).toNat) * 1))]), [.box 70 [LB c, AI (p1_34 : Int), .int .u64 h1_35], .list eo1 so1 no1 co1, .list eo2 so2 no2 co2, .list eo3 so3 no3 co3, .frame usC frC, .box 26 [AI 0, .nil], .frame [] [], .box 26 [AI n_12, .ref 8], rowA eI 2 1 (xs_13.set ((v_29).toNat) (v_33 - 1))]⟩ : St)) (by kernel_rfl) ?_ ?_
            · refine R.any (by decide +kernel) (by kernel_rfl) ?_
              refine R.anyF 2 (by kernel_rfl) (np_meetF _ _) ?_
              refine R.anyF 6 (by kernel_rfl) (np_meetF _ _) ?_
              refine R.anyA 0 (.ptr 7 1) (by kernel_rfl) (np_meetF _ _) ?_
              refine R.anyA 3 (.ptr 7 0) (by kernel_rfl) (np_meetF _ _) ?_
              refine R.anyA 7 (.ptr 7 0) (by kernel_rfl) (np_meetF _ _) ?_
              refine R.any3 1 4 8 (by kernel_rfl) (by kernel_rfl) ?_ ?_ ?_
              · refine R.go 2 (R.any2 4 8 (by kernel_rfl) (by kernel_rfl) ?_ ?_)
                · refine R.go 2 (R.any2 5 8 (by kernel_rfl) (by kernel_rfl) ?_ ?_)
                  · refine R.callX (CallX.inF 4 usC frC (CallX.inF 5 [] [] (CallX.box 4 26 [AI 0, .nil] (nextX_c_rooooBo c p1_19 h1_20 n_12 eo1 so1 no1 co1 eo2 so2 no2 co2 eo3 so3 no3 co3 26 2 1 [AI 0, .nil] 26 n_12 2 1 xs_13.length (rows eI xs_13) hc) (by kernel_rfl) (by kernel_rfl) (by kernel_rfl) (by kernel_rfl) (by rintro _ _ ⟨_, _, _, _, rfl, rfl⟩; exact ⟨by kernel_rfl, by kernel_rfl, by kernel_rfl⟩)) (Nat.le_of_ble_eq_true (by kernel_rfl)) (by kernel_rfl) (by kernel_rfl) (by rintro _ _ ⟨_, ⟨_, _, _, _, rfl, rfl⟩, rfl⟩; exact Nat.le_of_ble_eq_true (by kernel_rfl))) (Nat.le_of_ble_eq_true (by kernel_rfl)) (by kernel_rfl) (by kernel_rfl) (by rintro _ _ ⟨_, _, ⟨_, ⟨_, _, _, _, rfl, rfl⟩, rfl⟩, rfl, rfl⟩; exact Nat.le_of_ble_eq_true (by kernel_rfl))) (by kernel_rfl) (by kernel_rfl) (by kernel_rfl) ?_
                    rintro _ _ ⟨_, _, ⟨_, _, ⟨_, ⟨v_29, p1_30, h1_31, f32, rfl, rfl⟩, rfl⟩, rfl, rfl⟩, rfl, rfl⟩
                    refine R.go 1 (R.any1 8 (by kernel_rfl) (by kernel_rfl) ?_)
                    refine R.go 2 (R.any1 9 (by kernel_rfl) (by kernel_rfl) ?_)
                    refine R.call true (l01Full_c n_12 (by omega) (by omega)) (by kernel_rfl) rfl (by kernel_rfl) ?_
                    refine R.go 1 (R.any1 10 (by kernel_rfl) (by kernel_rfl) ?_)
                    refine R.ar (((shl64 1 n_12) - 1) + 2) (by kernel_rfl) (by omega) (by omega) (by kernel_rfl) ?_
                    refine R.go 1 (R.any1 11 (by kernel_rfl) (by kernel_rfl) ?_)
                    refine R.callX (CallX.inF 4 usC frC (CallX.inF 5 [] [] (CallX.box 4 26 [AI 0, .nil] (nextX_c_rooooBo c p1_30 h1_31 (((shl64 1 n_12) - 1) + 2) eo1 so1 no1 co1 eo2 so2 no2 co2 eo3 so3 no3 co3 26 2 1 [AI 0, .nil] 26 n_12 2 1 xs_13.length (rows eI xs_13) hc) (by kernel_rfl) (by kernel_rfl) (by kernel_rfl) (by kernel_rfl) (by rintro _ _ ⟨_, _, _, _, rfl, rfl⟩; exact ⟨by kernel_rfl, by kernel_rfl, by kernel_rfl⟩)) (Nat.le_of_ble_eq_true (by kernel_rfl)) (by kernel_rfl) (by kernel_rfl) (by rintro _ _ ⟨_, ⟨_, _, _, _, rfl, rfl⟩, rfl⟩; exact Nat.le_of_ble_eq_true (by kernel_rfl))) (Nat.le_of_ble_eq_true (by kernel_rfl)) (by kernel_rfl) (by kernel_rfl) (by rintro _ _ ⟨_, _, ⟨_, ⟨_, _, _, _, rfl, rfl⟩, rfl⟩, rfl, rfl⟩; exact Nat.le_of_ble_eq_true (by kernel_rfl))) (by kernel_rfl) (by kernel_rfl) (by kernel_rfl) ?_
                    rintro _ _ ⟨_, _, ⟨_, _, ⟨_, ⟨v_33, p1_34, h1_35, f36, rfl, rfl⟩, rfl⟩, rfl, rfl⟩, rfl, rfl⟩
                    refine R.go 1 (R.any1 12 (by kernel_rfl) (by kernel_rfl) ?_)
                    refine R.ar (v_33 - 1) (by kernel_rfl) (by omega) (by omega) (by kernel_rfl) ?_
                    refine R.go 1 (R.any1 13 (by kernel_rfl) (by kernel_rfl) ?_)
                    refine R.idxO 8 1 xs_13.length ((v_29).toNat) v_29 (by kernel_rfl) (by omega) (by omega) (by kernel_rfl) ?_
                    refine R.go 1 (R.any1 14 (by kernel_rfl) (by kernel_rfl) ?_)
                    refine R.stI 8 2 xs_13 ((v_29).toNat) (v_33 - 1) (by kernel_rfl) (by omega) (by kernel_rfl) ?_
                    refine R.go 1 (R.any0 (by kernel_rfl) ?_)
                    exact R.metF (v_29, p1_30, h1_31, v_33, p1_34, h1_35) (by kernel_rfl) ⟨by first | assumption | omega, by first | assumption | omega⟩ (by kernel_rfl)
                  · refine R.go 2 (R.any1 5 (by kernel_rfl) (by kernel_rfl) ?_)
                    refine R.callX (CallX.inF 4 usC frC (CallX.inF 5 [] [] (CallX.box 4 26 [AI 0, .nil] (nextX_c_rooooBo c p1_19 h1_20 n_12 eo1 so1 no1 co1 eo2 so2 no2 co2 eo3 so3 no3 co3 26 2 1 [AI 0, .nil] 26 n_12 2 1 xs_13.length (rows eI xs_13) hc) (by kernel_rfl) (by kernel_rfl) (by kernel_rfl) (by kernel_rfl) (by rintro _ _ ⟨_, _, _, _, rfl, rfl⟩; exact ⟨by kernel_rfl, by kernel_rfl, by kernel_rfl⟩)) (Nat.le_of_ble_eq_true (by kernel_rfl)) (by kernel_rfl) (by kernel_rfl) (by rintro _ _ ⟨_, ⟨_, _, _, _, rfl, rfl⟩, rfl⟩; exact Nat.le_of_ble_eq_true (by kernel_rfl))) (Nat.le_of_ble_eq_true (by kernel_rfl)) (by kernel_rfl) (by kernel_rfl) (by rintro _ _ ⟨_, _, ⟨_, ⟨_, _, _, _, rfl, rfl⟩, rfl⟩, rfl, rfl⟩; exact Nat.le_of_ble_eq_true (by kernel_rfl))) (by kernel_rfl) (by kernel_rfl) (by kernel_rfl) ?_
                    rintro _ _ ⟨_, _, ⟨_, _, ⟨_, ⟨v_37, p1_38, h1_39, f40, rfl, rfl⟩, rfl⟩, rfl, rfl⟩, rfl, rfl⟩
                    refine R.go 1 (R.any1 9 (by kernel_rfl) (by kernel_rfl) ?_)
                    refine R.call true (l01Full_c n_12 (by omega) (by omega)) (by kernel_rfl) rfl (by kernel_rfl) ?_
                    refine R.go 1 (R.any1 10 (by kernel_rfl) (by kernel_rfl) ?_)
                    refine R.ar (((shl64 1 n_12) - 1) + 2) (by kernel_rfl) (by omega) (by omega) (by kernel_rfl) ?_
                    refine R.go 1 (R.any1 11 (by kernel_rfl) (by kernel_rfl) ?_)
                    refine R.callX (CallX.inF 4 usC frC (CallX.inF 5 [] [] (CallX.box 4 26 [AI 0, .nil] (nextX_c_rooooBo c p1_38 h1_39 (((shl64 1 n_12) - 1) + 2) eo1 so1 no1 co1 eo2 so2 no2 co2 eo3 so3 no3 co3 26 2 1 [AI 0, .nil] 26 n_12 2 1 xs_13.length (rows eI xs_13) hc) (by kernel_rfl) (by kernel_rfl) (by kernel_rfl) (by kernel_rfl) (by rintro _ _ ⟨_, _, _, _, rfl, rfl⟩; exact ⟨by kernel_rfl, by kernel_rfl, by kernel_rfl⟩)) (Nat.le_of_ble_eq_true (by kernel_rfl)) (by kernel_rfl) (by kernel_rfl) (by rintro _ _ ⟨_, ⟨_, _, _, _, rfl, rfl⟩, rfl⟩; exact Nat.le_of_ble_eq_true (by kernel_rfl))) (Nat.le_of_ble_eq_true (by kernel_rfl)) (by kernel_rfl) (by kernel_rfl) (by rintro _ _ ⟨_, _, ⟨_, ⟨_, _, _, _, rfl, rfl⟩, rfl⟩, rfl, rfl⟩; exact Nat.le_of_ble_eq_true (by kernel_rfl))) (by kernel_rfl) (by kernel_rfl) (by kernel_rfl) ?_
                    rintro _ _ ⟨_, _, ⟨_, _, ⟨_, ⟨v_41, p1_42, h1_43, f44, rfl, rfl⟩, rfl⟩, rfl, rfl⟩, rfl, rfl⟩
                    refine R.go 1 (R.any1 12 (by kernel_rfl) (by kernel_rfl) ?_)
                    refine R.ar (v_41 - 1) (by kernel_rfl) (by omega) (by omega) (by kernel_rfl) ?_
                    refine R.go 1 (R.any1 13 (by kernel_rfl) (by kernel_rfl) ?_)
                    refine R.idxO 8 1 xs_13.length ((v_37).toNat) v_37 (by kernel_rfl) (by omega) (by omega) (by kernel_rfl) ?_
                    refine R.go 1 (R.any1 14 (by kernel_rfl) (by kernel_rfl) ?_)
                    refine R.stI 8 2 xs_13 ((v_37).toNat) (v_41 - 1) (by kernel_rfl) (by omega) (by kernel_rfl) ?_
                    refine R.go 1 (R.any0 (by kernel_rfl) ?_)
                    exact R.metF (v_37, p1_38, h1_39, v_41, p1_42, h1_43) (by kernel_rfl) ⟨by first | assumption | omega, by first | assumption | omega⟩ (by kernel_rfl)
                · refine R.go 2 (R.any1 4 (by kernel_rfl) (by kernel_rfl) ?_)
                  refine R.go 2 (R.any1 5 (by kernel_rfl) (by kernel_rfl) ?_)
                  refine R.callX (CallX.inF 4 usC frC (CallX.inF 5 [] [] (CallX.box 4 26 [AI 0, .nil] (nextX_c_rooooBo c p1_19 h1_20 n_12 eo1 so1 no1 co1 eo2 so2 no2 co2 eo3 so3 no3 co3 26 2 1 [AI 0, .nil] 26 n_12 2 1 xs_13.length (rows eI xs_13) hc) (by kernel_rfl) (by kernel_rfl) (by kernel_rfl) (by kernel_rfl) (by rintro _ _ ⟨_, _, _, _, rfl, rfl⟩; exact ⟨by kernel_rfl, by kernel_rfl, by kernel_rfl⟩)) (Nat.le_of_ble_eq_true (by kernel_rfl)) (by kernel_rfl) (by kernel_rfl) (by rintro _ _ ⟨_, ⟨_, _, _, _, rfl, rfl⟩, rfl⟩; exact Nat.le_of_ble_eq_true (by kernel_rfl))) (Nat.le_of_ble_eq_true (by kernel_rfl)) (by kernel_rfl) (by kernel_rfl) (by rintro _ _ ⟨_, _, ⟨_, ⟨_, _, _, _, rfl, rfl⟩, rfl⟩, rfl, rfl⟩; exact Nat.le_of_ble_eq_true (by kernel_rfl))) (by kernel_rfl) (by kernel_rfl) (by kernel_rfl) ?_
                  rintro _ _ ⟨_, _, ⟨_, _, ⟨_, ⟨v_45, p1_46, h1_47, f48, rfl, rfl⟩, rfl⟩, rfl, rfl⟩, rfl, rfl⟩
                  refine R.go 1 (R.any1 9 (by kernel_rfl) (by kernel_rfl) ?_)
                  refine R.call true (l01Full_c n_12 (by omega) (by omega)) (by kernel_rfl) rfl (by kernel_rfl) ?_
                  refine R.go 1 (R.any1 10 (by kernel_rfl) (by kernel_rfl) ?_)
                  refine R.ar (((shl64 1 n_12) - 1) + 2) (by kernel_rfl) (by omega) (by omega) (by kernel_rfl) ?_
                  refine R.go 1 (R.any1 11 (by kernel_rfl) (by kernel_rfl) ?_)
                  refine R.callX (CallX.inF 4 usC frC (CallX.inF 5 [] [] (CallX.box 4 26 [AI 0, .nil] (nextX_c_rooooBo c p1_46 h1_47 (((shl64 1 n_12) - 1) + 2) eo1 so1 no1 co1 eo2 so2 no2 co2 eo3 so3 no3 co3 26 2 1 [AI 0, .nil] 26 n_12 2 1 xs_13.length (rows eI xs_13) hc) (by kernel_rfl) (by kernel_rfl) (by kernel_rfl) (by kernel_rfl) (by rintro _ _ ⟨_, _, _, _, rfl, rfl⟩; exact ⟨by kernel_rfl, by kernel_rfl, by kernel_rfl⟩)) (Nat.le_of_ble_eq_true (by kernel_rfl)) (by kernel_rfl) (by kernel_rfl) (by rintro _ _ ⟨_, ⟨_, _, _, _, rfl, rfl⟩, rfl⟩; exact Nat.le_of_ble_eq_true (by kernel_rfl))) (Nat.le_of_ble_eq_true (by kernel_rfl)) (by kernel_rfl) (by kernel_rfl) (by rintro _ _ ⟨_, _, ⟨_, ⟨_, _, _, _, rfl, rfl⟩, rfl⟩, rfl, rfl⟩; exact Nat.le_of_ble_eq_true (by kernel_rfl))) (by kernel_rfl) (by kernel_rfl) (by kernel_rfl) ?_
                  rintro _ _ ⟨_, _, ⟨_, _, ⟨_, ⟨v_49, p1_50, h1_51, f52, rfl, rfl⟩, rfl⟩, rfl, rfl⟩, rfl, rfl⟩
                  refine R.go 1 (R.any1 12 (by kernel_rfl) (by kernel_rfl) ?_)
                  refine R.ar (v_49 - 1) (by kernel_rfl) (by omega) (by omega) (by kernel_rfl) ?_
                  refine R.go 1 (R.any1 13 (by kernel_rfl) (by kernel_rfl) ?_)
                  refine R.idxO 8 1 xs_13.length ((v_45).toNat) v_45 (by kernel_rfl) (by omega) (by omega) (by kernel_rfl) ?_
                  refine R.go 1 (R.any1 14 (by kernel_rfl) (by kernel_rfl) ?_)
                  refine R.stI 8 2 xs_13 ((v_45).toNat) (v_49 - 1) (by kernel_rfl) (by omega) (by kernel_rfl) ?_
                  refine R.go 1 (R.any0 (by kernel_rfl) ?_)
                  exact R.metF (v_45, p1_46, h1_47, v_49, p1_50, h1_51) (by kernel_rfl) ⟨by first | assumption | omega, by first | assumption | omega⟩ (by kernel_rfl)
              · refine R.go 2 (R.any3 1 5 8 (by kernel_rfl) (by kernel_rfl) ?_ ?_ ?_)
                · refine R.go 2 (R.any2 5 8 (by kernel_rfl) (by kernel_rfl) ?_ ?_)
                  · refine R.callX (CallX.inF 4 usC frC (CallX.inF 5 [] [] (CallX.box 4 26 [AI 0, .nil] (nextX_c_rooooBo c p1_19 h1_20 n_12 eo1 so1 no1 co1 eo2 so2 no2 co2 eo3 so3 no3 co3 26 2 1 [AI 0, .nil] 26 n_12 2 1 xs_13.length (rows eI xs_13) hc) (by kernel_rfl) (by kernel_rfl) (by kernel_rfl) (by kernel_rfl) (by rintro _ _ ⟨_, _, _, _, rfl, rfl⟩; exact ⟨by kernel_rfl, by kernel_rfl, by kernel_rfl⟩)) (Nat.le_of_ble_eq_true (by kernel_rfl)) (by kernel_rfl) (by kernel_rfl) (by rintro _ _ ⟨_, ⟨_, _, _, _, rfl, rfl⟩, rfl⟩; exact Nat.le_of_ble_eq_true (by kernel_rfl))) (Nat.le_of_ble_eq_true (by kernel_rfl)) (by kernel_rfl) (by kernel_rfl) (by rintro _ _ ⟨_, _, ⟨_, ⟨_, _, _, _, rfl, rfl⟩, rfl⟩, rfl, rfl⟩; exact Nat.le_of_ble_eq_true (by kernel_rfl))) (by kernel_rfl) (by kernel_rfl) (by kernel_rfl) ?_
                    rintro _ _ ⟨_, _, ⟨_, _, ⟨_, ⟨v_53, p1_54, h1_55, f56, rfl, rfl⟩, rfl⟩, rfl, rfl⟩, rfl, rfl⟩
                    refine R.go 1 (R.any1 8 (by kernel_rfl) (by kernel_rfl) ?_)
                    refine R.go 2 (R.any1 9 (by kernel_rfl) (by kernel_rfl) ?_)
                    refine R.call true (l01Full_c n_12 (by omega) (by omega)) (by kernel_rfl) rfl (by kernel_rfl) ?_
                    refine R.go 1 (R.any1 10 (by kernel_rfl) (by kernel_rfl) ?_)
                    refine R.ar (((shl64 1 n_12) - 1) + 2) (by kernel_rfl) (by omega) (by omega) (by kernel_rfl) ?_
                    refine R.go 1 (R.any1 11 (by kernel_rfl) (by kernel_rfl) ?_)
                    refine R.callX (CallX.inF 4 usC frC (CallX.inF 5 [] [] (CallX.box 4 26 [AI 0, .nil] (nextX_c_rooooBo c p1_54 h1_55 (((shl64 1 n_12) - 1) + 2) eo1 so1 no1 co1 eo2 so2 no2 co2 eo3 so3 no3 co3 26 2 1 [AI 0, .nil] 26 n_12 2 1 xs_13.length (rows eI xs_13) hc) (by kernel_rfl) (by kernel_rfl) (by kernel_rfl) (by kernel_rfl) (by rintro _ _ ⟨_, _, _, _, rfl, rfl⟩; exact ⟨by kernel_rfl, by kernel_rfl, by kernel_rfl⟩)) (Nat.le_of_ble_eq_true (by kernel_rfl)) (by kernel_rfl) (by kernel_rfl) (by rintro _ _ ⟨_, ⟨_, _, _, _, rfl, rfl⟩, rfl⟩; exact Nat.le_of_ble_eq_true (by kernel_rfl))) (Nat.le_of_ble_eq_true (by kernel_rfl)) (by kernel_rfl) (by kernel_rfl) (by rintro _ _ ⟨_, _, ⟨_, ⟨_, _, _, _, rfl, rfl⟩, rfl⟩, rfl, rfl⟩; exact Nat.le_of_ble_eq_true (by kernel_rfl))) (by kernel_rfl) (by kernel_rfl) (by kernel_rfl) ?_
                    rintro _ _ ⟨_, _, ⟨_, _, ⟨_, ⟨v_57, p1_58, h1_59, f60, rfl, rfl⟩, rfl⟩, rfl, rfl⟩, rfl, rfl⟩
                    refine R.go 1 (R.any1 12 (by kernel_rfl) (by kernel_rfl) ?_)
                    refine R.ar (v_57 - 1) (by kernel_rfl) (by omega) (by omega) (by kernel_rfl) ?_
                    refine R.go 1 (R.any1 13 (by kernel_rfl) (by kernel_rfl) ?_)
                    refine R.idxO 8 1 xs_13.length ((v_53).toNat) v_53 (by kernel_rfl) (by omega) (by omega) (by kernel_rfl) ?_
                    refine R.go 1 (R.any1 14 (by kernel_rfl) (by kernel_rfl) ?_)
                    refine R.stI 8 2 xs_13 ((v_53).toNat) (v_57 - 1) (by kernel_rfl) (by omega) (by kernel_rfl) ?_
                    refine R.go 1 (R.any0 (by kernel_rfl) ?_)
                    exact R.metF (v_53, p1_54, h1_55, v_57, p1_58, h1_59) (by kernel_rfl) ⟨by first | assumption | omega, by first | assumption | omega⟩ (by kernel_rfl)
                  · refine R.go 2 (R.any1 5 (by kernel_rfl) (by kernel_rfl) ?_)
                    refine R.callX (CallX.inF 4 usC frC (CallX.inF 5 [] [] (CallX.box 4 26 [AI 0, .nil] (nextX_c_rooooBo c p1_19 h1_20 n_12 eo1 so1 no1 co1 eo2 so2 no2 co2 eo3 so3 no3 co3 26 2 1 [AI 0, .nil] 26 n_12 2 1 xs_13.length (rows eI xs_13) hc) (by kernel_rfl) (by kernel_rfl) (by kernel_rfl) (by kernel_rfl) (by rintro _ _ ⟨_, _, _, _, rfl, rfl⟩; exact ⟨by kernel_rfl, by kernel_rfl, by kernel_rfl⟩)) (Nat.le_of_ble_eq_true (by kernel_rfl)) (by kernel_rfl) (by kernel_rfl) (by rintro _ _ ⟨_, ⟨_, _, _, _, rfl, rfl⟩, rfl⟩; exact Nat.le_of_ble_eq_true (by kernel_rfl))) (Nat.le_of_ble_eq_true (by kernel_rfl)) (by kernel_rfl) (by kernel_rfl) (by rintro _ _ ⟨_, _, ⟨_, ⟨_, _, _, _, rfl, rfl⟩, rfl⟩, rfl, rfl⟩; exact Nat.le_of_ble_eq_true (by kernel_rfl))) (by kernel_rfl) (by kernel_rfl) (by kernel_rfl) ?_
                    rintro _ _ ⟨_, _, ⟨_, _, ⟨_, ⟨v_61, p1_62, h1_63, f64, rfl, rfl⟩, rfl⟩, rfl, rfl⟩, rfl, rfl⟩
                    refine R.go 1 (R.any1 9 (by kernel_rfl) (by kernel_rfl) ?_)
                    refine R.call true (l01Full_c n_12 (by omega) (by omega)) (by kernel_rfl) rfl (by kernel_rfl) ?_
                    refine R.go 1 (R.any1 10 (by kernel_rfl) (by kernel_rfl) ?_)
                    refine R.ar (((shl64 1 n_12) - 1) + 2) (by kernel_rfl) (by omega) (by omega) (by kernel_rfl) ?_
                    refine R.go 1 (R.any1 11 (by kernel_rfl) (by kernel_rfl) ?_)
                    refine R.callX (CallX.inF 4 usC frC (CallX.inF 5 [] [] (CallX.box 4 26 [AI 0, .nil] (nextX_c_rooooBo c p1_62 h1_63 (((shl64 1 n_12) - 1) + 2) eo1 so1 no1 co1 eo2 so2 no2 co2 eo3 so3 no3 co3 26 2 1 [AI 0, .nil] 26 n_12 2 1 xs_13.length (rows eI xs_13) hc) (by kernel_rfl) (by kernel_rfl) (by kernel_rfl) (by kernel_rfl) (by rintro _ _ ⟨_, _, _, _, rfl, rfl⟩; exact ⟨by kernel_rfl, by kernel_rfl, by kernel_rfl⟩)) (Nat.le_of_ble_eq_true (by kernel_rfl)) (by kernel_rfl) (by kernel_rfl) (by rintro _ _ ⟨_, ⟨_, _, _, _, rfl, rfl⟩, rfl⟩; exact Nat.le_of_ble_eq_true (by kernel_rfl))) (Nat.le_of_ble_eq_true (by kernel_rfl)) (by kernel_rfl) (by kernel_rfl) (by rintro _ _ ⟨_, _, ⟨_, ⟨_, _, _, _, rfl, rfl⟩, rfl⟩, rfl, rfl⟩; exact Nat.le_of_ble_eq_true (by kernel_rfl))) (by kernel_rfl) (by kernel_rfl) (by kernel_rfl) ?_
                    rintro _ _ ⟨_, _, ⟨_, _, ⟨_, ⟨v_65, p1_66, h1_67, f68, rfl, rfl⟩, rfl⟩, rfl, rfl⟩, rfl, rfl⟩
                    refine R.go 1 (R.any1 12 (by kernel_rfl) (by kernel_rfl) ?_)
                    refine R.ar (v_65 - 1) (by kernel_rfl) (by omega) (by omega) (by kernel_rfl) ?_
                    refine R.go 1 (R.any1 13 (by kernel_rfl) (by kernel_rfl) ?_)
                    refine R.idxO 8 1 xs_13.length ((v_61).toNat) v_61 (by kernel_rfl) (by omega) (by omega) (by kernel_rfl) ?_
                    refine R.go 1 (R.any1 14 (by kernel_rfl) (by kernel_rfl) ?_)
                    refine R.stI 8 2 xs_13 ((v_61).toNat) (v_65 - 1) (by kernel_rfl) (by omega) (by kernel_rfl) ?_
                    refine R.go 1 (R.any0 (by kernel_rfl) ?_)
                    exact R.metF (v_61, p1_62, h1_63, v_65, p1_66, h1_67) (by kernel_rfl) ⟨by first | assumption | omega, by first | assumption | omega⟩ (by kernel_rfl)
                · refine R.callX (CallX.inF 4 usC frC (CallX.inF 5 [] [] (CallX.box 4 26 [AI 0, .nil] (nextX_c_rooooBo c p1_19 h1_20 n_12 eo1 so1 no1 co1 eo2 so2 no2 co2 eo3 so3 no3 co3 26 2 1 [AI 0, .nil] 26 n_12 2 1 xs_13.length (rows eI xs_13) hc) (by kernel_rfl) (by kernel_rfl) (by kernel_rfl) (by kernel_rfl) (by rintro _ _ ⟨_, _, _, _, rfl, rfl⟩; exact ⟨by kernel_rfl, by kernel_rfl, by kernel_rfl⟩)) (Nat.le_of_ble_eq_true (by kernel_rfl)) (by kernel_rfl) (by kernel_rfl) (by rintro _ _ ⟨_, ⟨_, _, _, _, rfl, rfl⟩, rfl⟩; exact Nat.le_of_ble_eq_true (by kernel_rfl))) (Nat.le_of_ble_eq_true (by kernel_rfl)) (by kernel_rfl) (by kernel_rfl) (by rintro _ _ ⟨_, _, ⟨_, ⟨_, _, _, _, rfl, rfl⟩, rfl⟩, rfl, rfl⟩; exact Nat.le_of_ble_eq_true (by kernel_rfl))) (by kernel_rfl) (by kernel_rfl) (by kernel_rfl) ?_
                  rintro _ _ ⟨_, _, ⟨_, _, ⟨_, ⟨v_69, p1_70, h1_71, f72, rfl, rfl⟩, rfl⟩, rfl, rfl⟩, rfl, rfl⟩
                  refine R.go 1 (R.any2 1 8 (by kernel_rfl) (by kernel_rfl) ?_ ?_)
                  · refine R.go 2 (R.any1 8 (by kernel_rfl) (by kernel_rfl) ?_)
                    refine R.go 2 (R.any1 9 (by kernel_rfl) (by kernel_rfl) ?_)
                    refine R.call true (l01Full_c n_12 (by omega) (by omega)) (by kernel_rfl) rfl (by kernel_rfl) ?_
                    refine R.go 1 (R.any1 10 (by kernel_rfl) (by kernel_rfl) ?_)
                    refine R.ar (((shl64 1 n_12) - 1) + 2) (by kernel_rfl) (by omega) (by omega) (by kernel_rfl) ?_
                    refine R.go 1 (R.any1 11 (by kernel_rfl) (by kernel_rfl) ?_)
                    refine R.callX (CallX.inF 4 usC frC (CallX.inF 5 [] [] (CallX.box 4 26 [AI 0, .nil] (nextX_c_rooooBo c p1_70 h1_71 (((shl64 1 n_12) - 1) + 2) eo1 so1 no1 co1 eo2 so2 no2 co2 eo3 so3 no3 co3 26 2 1 [AI 0, .nil] 26 n_12 2 1 xs_13.length (rows eI xs_13) hc) (by kernel_rfl) (by kernel_rfl) (by kernel_rfl) (by kernel_rfl) (by rintro _ _ ⟨_, _, _, _, rfl, rfl⟩; exact ⟨by kernel_rfl, by kernel_rfl, by kernel_rfl⟩)) (Nat.le_of_ble_eq_true (by kernel_rfl)) (by kernel_rfl) (by kernel_rfl) (by rintro _ _ ⟨_, ⟨_, _, _, _, rfl, rfl⟩, rfl⟩; exact Nat.le_of_ble_eq_true (by kernel_rfl))) (Nat.le_of_ble_eq_true (by kernel_rfl)) (by kernel_rfl) (by kernel_rfl) (by rintro _ _ ⟨_, _, ⟨_, ⟨_, _, _, _, rfl, rfl⟩, rfl⟩, rfl, rfl⟩; exact Nat.le_of_ble_eq_true (by kernel_rfl))) (by kernel_rfl) (by kernel_rfl) (by kernel_rfl) ?_
                    rintro _ _ ⟨_, _, ⟨_, _, ⟨_, ⟨v_73, p1_74, h1_75, f76, rfl, rfl⟩, rfl⟩, rfl, rfl⟩, rfl, rfl⟩
                    refine R.go 1 (R.any1 12 (by kernel_rfl) (by kernel_rfl) ?_)
                    refine R.ar (v_73 - 1) (by kernel_rfl) (by omega) (by omega) (by kernel_rfl) ?_
                    refine R.go 1 (R.any1 13 (by kernel_rfl) (by kernel_rfl) ?_)
                    refine R.idxO 8 1 xs_13.length ((v_69).toNat) v_69 (by kernel_rfl) (by omega) (by omega) (by kernel_rfl) ?_
                    refine R.go 1 (R.any1 14 (by kernel_rfl) (by kernel_rfl) ?_)
                    refine R.stI 8 2 xs_13 ((v_69).toNat) (v_73 - 1) (by kernel_rfl) (by omega) (by kernel_rfl) ?_
                    refine R.go 1 (R.any0 (by kernel_rfl) ?_)
                    exact R.metF (v_69, p1_70, h1_71, v_73, p1_74, h1_75) (by kernel_rfl) ⟨by first | assumption | omega, by first | assumption | omega⟩ (by kernel_rfl)
                  · refine R.go 2 (R.any2 1 9 (by kernel_rfl) (by kernel_rfl) ?_ ?_)
                    · refine R.go 2 (R.any1 9 (by kernel_rfl) (by kernel_rfl) ?_)
                      refine R.call true (l01Full_c n_12 (by omega) (by omega)) (by kernel_rfl) rfl (by kernel_rfl) ?_
                      refine R.go 1 (R.any1 10 (by kernel_rfl) (by kernel_rfl) ?_)
                      refine R.ar (((shl64 1 n_12) - 1) + 2) (by kernel_rfl) (by omega) (by omega) (by kernel_rfl) ?_
                      refine R.go 1 (R.any1 11 (by kernel_rfl) (by kernel_rfl) ?_)
                      refine R.callX (CallX.inF 4 usC frC (CallX.inF 5 [] [] (CallX.box 4 26 [AI 0, .nil] (nextX_c_rooooBo c p1_70 h1_71 (((shl64 1 n_12) - 1) + 2) eo1 so1 no1 co1 eo2 so2 no2 co2 eo3 so3 no3 co3 26 2 1 [AI 0, .nil] 26 n_12 2 1 xs_13.length (rows eI xs_13) hc) (by kernel_rfl) (by kernel_rfl) (by kernel_rfl) (by kernel_rfl) (by rintro _ _ ⟨_, _, _, _, rfl, rfl⟩; exact ⟨by kernel_rfl, by kernel_rfl, by kernel_rfl⟩)) (Nat.le_of_ble_eq_true (by kernel_rfl)) (by kernel_rfl) (by kernel_rfl) (by rintro _ _ ⟨_, ⟨_, _, _, _, rfl, rfl⟩, rfl⟩; exact Nat.le_of_ble_eq_true (by kernel_rfl))) (Nat.le_of_ble_eq_true (by kernel_rfl)) (by kernel_rfl) (by kernel_rfl) (by rintro _ _ ⟨_, _, ⟨_, ⟨_, _, _, _, rfl, rfl⟩, rfl⟩, rfl, rfl⟩; exact Nat.le_of_ble_eq_true (by kernel_rfl))) (by kernel_rfl) (by kernel_rfl) (by kernel_rfl) ?_
                      rintro _ _ ⟨_, _, ⟨_, _, ⟨_, ⟨v_77, p1_78, h1_79, f80, rfl, rfl⟩, rfl⟩, rfl, rfl⟩, rfl, rfl⟩
                      refine R.go 1 (R.any1 12 (by kernel_rfl) (by kernel_rfl) ?_)
                      refine R.ar (v_77 - 1) (by kernel_rfl) (by omega) (by omega) (by kernel_rfl) ?_
                      refine R.go 1 (R.any1 13 (by kernel_rfl) (by kernel_rfl) ?_)
                      refine R.idxO 8 1 xs_13.length ((v_69).toNat) v_69 (by kernel_rfl) (by omega) (by omega) (by kernel_rfl) ?_
                      refine R.go 1 (R.any1 14 (by kernel_rfl) (by kernel_rfl) ?_)
                      refine R.stI 8 2 xs_13 ((v_69).toNat) (v_77 - 1) (by kernel_rfl) (by omega) (by kernel_rfl) ?_
                      refine R.go 1 (R.any0 (by kernel_rfl) ?_)
                      exact R.metF (v_69, p1_70, h1_71, v_77, p1_78, h1_79) (by kernel_rfl) ⟨by first | assumption | omega, by first | assumption | omega⟩ (by kernel_rfl)
                    · refine R.call true (l01Full_c n_12 (by omega) (by omega)) (by kernel_rfl) rfl (by kernel_rfl) ?_
                      refine R.go 1 (R.any2 1 10 (by kernel_rfl) (by kernel_rfl) ?_ ?_)
                      · refine R.go 2 (R.any1 10 (by kernel_rfl) (by kernel_rfl) ?_)
                        refine R.ar (((shl64 1 n_12) - 1) + 2) (by kernel_rfl) (by omega) (by omega) (by kernel_rfl) ?_
                        refine R.go 1 (R.any1 11 (by kernel_rfl) (by kernel_rfl) ?_)
                        refine R.callX (CallX.inF 4 usC frC (CallX.inF 5 [] [] (CallX.box 4 26 [AI 0, .nil] (nextX_c_rooooBo c p1_70 h1_71 (((shl64 1 n_12) - 1) + 2) eo1 so1 no1 co1 eo2 so2 no2 co2 eo3 so3 no3 co3 26 2 1 [AI 0, .nil] 26 n_12 2 1 xs_13.length (rows eI xs_13) hc) (by kernel_rfl) (by kernel_rfl) (by kernel_rfl) (by kernel_rfl) (by rintro _ _ ⟨_, _, _, _, rfl, rfl⟩; exact ⟨by kernel_rfl, by kernel_rfl, by kernel_rfl⟩)) (Nat.le_of_ble_eq_true (by kernel_rfl)) (by kernel_rfl) (by kernel_rfl) (by rintro _ _ ⟨_, ⟨_, _, _, _, rfl, rfl⟩, rfl⟩; exact Nat.le_of_ble_eq_true (by kernel_rfl))) (Nat.le_of_ble_eq_true (by kernel_rfl)) (by kernel_rfl) (by kernel_rfl) (by rintro _ _ ⟨_, _, ⟨_, ⟨_, _, _, _, rfl, rfl⟩, rfl⟩, rfl, rfl⟩; exact Nat.le_of_ble_eq_true (by kernel_rfl))) (by kernel_rfl) (by kernel_rfl) (by kernel_rfl) ?_
                        rintro _ _ ⟨_, _, ⟨_, _, ⟨_, ⟨v_81, p1_82, h1_83, f84, rfl, rfl⟩, rfl⟩, rfl, rfl⟩, rfl, rfl⟩
                        refine R.go 1 (R.any1 12 (by kernel_rfl) (by kernel_rfl) ?_)
                        refine R.ar (v_81 - 1) (by kernel_rfl) (by omega) (by omega) (by kernel_rfl) ?_
                        refine R.go 1 (R.any1 13 (by kernel_rfl) (by kernel_rfl) ?_)
                        refine R.idxO 8 1 xs_13.length ((v_69).toNat) v_69 (by kernel_rfl) (by omega) (by omega) (by kernel_rfl) ?_
                        refine R.go 1 (R.any1 14 (by kernel_rfl) (by kernel_rfl) ?_)
                        refine R.stI 8 2 xs_13 ((v_69).toNat) (v_81 - 1) (by kernel_rfl) (by omega) (by kernel_rfl) ?_
                        refine R.go 1 (R.any0 (by kernel_rfl) ?_)
                        exact R.metF (v_69, p1_70, h1_71, v_81, p1_82, h1_83) (by kernel_rfl) ⟨by first | assumption | omega, by first | assumption | omega⟩ (by kernel_rfl)
                      · refine R.ar (((shl64 1 n_12) - 1) + 2) (by kernel_rfl) (by omega) (by omega) (by kernel_rfl) ?_
                        refine R.go 1 (R.any2 1 11 (by kernel_rfl) (by kernel_rfl) ?_ ?_)
                        · refine R.go 2 (R.any1 11 (by kernel_rfl) (by kernel_rfl) ?_)
                          refine R.callX (CallX.inF 4 usC frC (CallX.inF 5 [] [] (CallX.box 4 26 [AI 0, .nil] (nextX_c_rooooBo c p1_70 h1_71 (((shl64 1 n_12) - 1) + 2) eo1 so1 no1 co1 eo2 so2 no2 co2 eo3 so3 no3 co3 26 2 1 [AI 0, .nil] 26 n_12 2 1 xs_13.length (rows eI xs_13) hc) (by kernel_rfl) (by kernel_rfl) (by kernel_rfl) (by kernel_rfl) (by rintro _ _ ⟨_, _, _, _, rfl, rfl⟩; exact ⟨by kernel_rfl, by kernel_rfl, by kernel_rfl⟩)) (Nat.le_of_ble_eq_true (by kernel_rfl)) (by kernel_rfl) (by kernel_rfl) (by rintro _ _ ⟨_, ⟨_, _, _, _, rfl, rfl⟩, rfl⟩; exact Nat.le_of_ble_eq_true (by kernel_rfl))) (Nat.le_of_ble_eq_true (by kernel_rfl)) (by kernel_rfl) (by kernel_rfl) (by rintro _ _ ⟨_, _, ⟨_, ⟨_, _, _, _, rfl, rfl⟩, rfl⟩, rfl, rfl⟩; exact Nat.le_of_ble_eq_true (by kernel_rfl))) (by kernel_rfl) (by kernel_rfl) (by kernel_rfl) ?_
                          rintro _ _ ⟨_, _, ⟨_, _, ⟨_, ⟨v_85, p1_86, h1_87, f88, rfl, rfl⟩, rfl⟩, rfl, rfl⟩, rfl, rfl⟩
                          refine R.go 1 (R.any1 12 (by kernel_rfl) (by kernel_rfl) ?_)
                          refine R.ar (v_85 - 1) (by kernel_rfl) (by omega) (by omega) (by kernel_rfl) ?_
                          refine R.go 1 (R.any1 13 (by kernel_rfl) (by kernel_rfl) ?_)
                          refine R.idxO 8 1 xs_13.length ((v_69).toNat) v_69 (by kernel_rfl) (by omega) (by omega) (by kernel_rfl) ?_
                          refine R.go 1 (R.any1 14 (by kernel_rfl) (by kernel_rfl) ?_)
                          refine R.stI 8 2 xs_13 ((v_69).toNat) (v_85 - 1) (by kernel_rfl) (by omega) (by kernel_rfl) ?_
                          refine R.go 1 (R.any0 (by kernel_rfl) ?_)
                          exact R.metF (v_69, p1_70, h1_71, v_85, p1_86, h1_87) (by kernel_rfl) ⟨by first | assumption | omega, by first | assumption | omega⟩ (by kernel_rfl)
                        · refine R.callX (CallX.inF 4 usC frC (CallX.inF 5 [] [] (CallX.box 4 26 [AI 0, .nil] (nextX_c_rooooBo c p1_70 h1_71 (((shl64 1 n_12) - 1) + 2) eo1 so1 no1 co1 eo2 so2 no2 co2 eo3 so3 no3 co3 26 2 1 [AI 0, .nil] 26 n_12 2 1 xs_13.length (rows eI xs_13) hc) (by kernel_rfl) (by kernel_rfl) (by kernel_rfl) (by kernel_rfl) (by rintro _ _ ⟨_, _, _, _, rfl, rfl⟩; exact ⟨by kernel_rfl, by kernel_rfl, by kernel_rfl⟩)) (Nat.le_of_ble_eq_true (by kernel_rfl)) (by kernel_rfl) (by kernel_rfl) (by rintro _ _ ⟨_, ⟨_, _, _, _, rfl, rfl⟩, rfl⟩; exact Nat.le_of_ble_eq_true (by kernel_rfl))) (Nat.le_of_ble_eq_true (by kernel_rfl)) (by kernel_rfl) (by kernel_rfl) (by rintro _ _ ⟨_, _, ⟨_, ⟨_, _, _, _, rfl, rfl⟩, rfl⟩, rfl, rfl⟩; exact Nat.le_of_ble_eq_true (by kernel_rfl))) (by kernel_rfl) (by kernel_rfl) (by kernel_rfl) ?_
                          rintro _ _ ⟨_, _, ⟨_, _, ⟨_, ⟨v_89, p1_90, h1_91, f92, rfl, rfl⟩, rfl⟩, rfl, rfl⟩, rfl, rfl⟩
                          refine R.go 1 (R.any2 1 12 (by kernel_rfl) (by kernel_rfl) ?_ ?_)
                          · refine R.go 2 (R.any1 12 (by kernel_rfl) (by kernel_rfl) ?_)
                            refine R.ar (v_89 - 1) (by kernel_rfl) (by omega) (by omega) (by kernel_rfl) ?_
                            refine R.go 1 (R.any1 13 (by kernel_rfl) (by kernel_rfl) ?_)
                            refine R.idxO 8 1 xs_13.length ((v_69).toNat) v_69 (by kernel_rfl) (by omega) (by omega) (by kernel_rfl) ?_
                            refine R.go 1 (R.any1 14 (by kernel_rfl) (by kernel_rfl) ?_)
                            refine R.stI 8 2 xs_13 ((v_69).toNat) (v_89 - 1) (by kernel_rfl) (by omega) (by kernel_rfl) ?_
                            refine R.go 1 (R.any0 (by kernel_rfl) ?_)
                            exact R.metF (v_69, p1_70, h1_71, v_89, p1_90, h1_91) (by kernel_rfl) ⟨by first | assumption | omega, by first | assumption | omega⟩ (by kernel_rfl)
                          · refine R.ar (v_89 - 1) (by kernel_rfl) (by omega) (by omega) (by kernel_rfl) ?_
                            refine R.go 1 (R.any1 1 (by kernel_rfl) (by kernel_rfl) ?_)
                            refine R.go 2 (R.any1 13 (by kernel_rfl) (by kernel_rfl) ?_)
                            refine R.idxO 8 1 xs_13.length ((v_69).toNat) v_69 (by kernel_rfl) (by omega) (by omega) (by kernel_rfl) ?_
                            refine R.go 1 (R.any1 14 (by kernel_rfl) (by kernel_rfl) ?_)
                            refine R.stI 8 2 xs_13 ((v_69).toNat) (v_89 - 1) (by kernel_rfl) (by omega) (by kernel_rfl) ?_
                            refine R.go 1 (R.any0 (by kernel_rfl) ?_)
                            exact R.metF (v_69, p1_70, h1_71, v_89, p1_90, h1_91) (by kernel_rfl) ⟨by first | assumption | omega, by first | assumption | omega⟩ (by kernel_rfl)
                · refine R.go 2 (R.any2 1 5 (by kernel_rfl) (by kernel_rfl) ?_ ?_)
                  · refine R.go 2 (R.any1 5 (by kernel_rfl) (by kernel_rfl) ?_)
                    refine R.callX (CallX.inF 4 usC frC (CallX.inF 5 [] [] (CallX.box 4 26 [AI 0, .nil] (nextX_c_rooooBo c p1_19 h1_20 n_12 eo1 so1 no1 co1 eo2 so2 no2 co2 eo3 so3 no3 co3 26 2 1 [AI 0, .nil] 26 n_12 2 1 xs_13.length (rows eI xs_13) hc) (by kernel_rfl) (by kernel_rfl) (by kernel_rfl) (by kernel_rfl) (by rintro _ _ ⟨_, _, _, _, rfl, rfl⟩; exact ⟨by kernel_rfl, by kernel_rfl, by kernel_rfl⟩)) (Nat.le_of_ble_eq_true (by kernel_rfl)) (by kernel_rfl) (by kernel_rfl) (by rintro _ _ ⟨_, ⟨_, _, _, _, rfl, rfl⟩, rfl⟩; exact Nat.le_of_ble_eq_true (by kernel_rfl))) (Nat.le_of_ble_eq_true (by kernel_rfl)) (by kernel_rfl) (by kernel_rfl) (by rintro _ _ ⟨_, _, ⟨_, ⟨_, _, _, _, rfl, rfl⟩, rfl⟩, rfl, rfl⟩; exact Nat.le_of_ble_eq_true (by kernel_rfl))) (by kernel_rfl) (by kernel_rfl) (by kernel_rfl) ?_
                    rintro _ _ ⟨_, _, ⟨_, _, ⟨_, ⟨v_93, p1_94, h1_95, f96, rfl, rfl⟩, rfl⟩, rfl, rfl⟩, rfl, rfl⟩
                    refine R.go 1 (R.any1 9 (by kernel_rfl) (by kernel_rfl) ?_)
                    refine R.call true (l01Full_c n_12 (by omega) (by omega)) (by kernel_rfl) rfl (by kernel_rfl) ?_
                    refine R.go 1 (R.any1 10 (by kernel_rfl) (by kernel_rfl) ?_)
                    refine R.ar (((shl64 1 n_12) - 1) + 2) (by kernel_rfl) (by omega) (by omega) (by kernel_rfl) ?_
                    refine R.go 1 (R.any1 11 (by kernel_rfl) (by kernel_rfl) ?_)
                    refine R.callX (CallX.inF 4 usC frC (CallX.inF 5 [] [] (CallX.box 4 26 [AI 0, .nil] (nextX_c_rooooBo c p1_94 h1_95 (((shl64 1 n_12) - 1) + 2) eo1 so1 no1 co1 eo2 so2 no2 co2 eo3 so3 no3 co3 26 2 1 [AI 0, .nil] 26 n_12 2 1 xs_13.length (rows eI xs_13) hc) (by kernel_rfl) (by kernel_rfl) (by kernel_rfl) (by kernel_rfl) (by rintro _ _ ⟨_, _, _, _, rfl, rfl⟩; exact ⟨by kernel_rfl, by kernel_rfl, by kernel_rfl⟩)) (Nat.le_of_ble_eq_true (by kernel_rfl)) (by kernel_rfl) (by kernel_rfl) (by rintro _ _ ⟨_, ⟨_, _, _, _, rfl, rfl⟩, rfl⟩; exact Nat.le_of_ble_eq_true (by kernel_rfl))) (Nat.le_of_ble_eq_true (by kernel_rfl)) (by kernel_rfl) (by kernel_rfl) (by rintro _ _ ⟨_, _, ⟨_, ⟨_, _, _, _, rfl, rfl⟩, rfl⟩, rfl, rfl⟩; exact Nat.le_of_ble_eq_true (by kernel_rfl))) (by kernel_rfl) (by kernel_rfl) (by kernel_rfl) ?_
                    rintro _ _ ⟨_, _, ⟨_, _, ⟨_, ⟨v_97, p1_98, h1_99, f100, rfl, rfl⟩, rfl⟩, rfl, rfl⟩, rfl, rfl⟩
                    refine R.go 1 (R.any1 12 (by kernel_rfl) (by kernel_rfl) ?_)
                    refine R.ar (v_97 - 1) (by kernel_rfl) (by omega) (by omega) (by kernel_rfl) ?_
                    refine R.go 1 (R.any1 13 (by kernel_rfl) (by kernel_rfl) ?_)
                    refine R.idxO 8 1 xs_13.length ((v_93).toNat) v_93 (by kernel_rfl) (by omega) (by omega) (by kernel_rfl) ?_
                    refine R.go 1 (R.any1 14 (by kernel_rfl) (by kernel_rfl) ?_)
                    refine R.stI 8 2 xs_13 ((v_93).toNat) (v_97 - 1) (by kernel_rfl) (by omega) (by kernel_rfl) ?_
                    refine R.go 1 (R.any0 (by kernel_rfl) ?_)
                    exact R.metF (v_93, p1_94, h1_95, v_97, p1_98, h1_99) (by kernel_rfl) ⟨by first | assumption | omega, by first | assumption | omega⟩ (by kernel_rfl)
                  · refine R.callX (CallX.inF 4 usC frC (CallX.inF 5 [] [] (CallX.box 4 26 [AI 0, .nil] (nextX_c_rooooBo c p1_19 h1_20 n_12 eo1 so1 no1 co1 eo2 so2 no2 co2 eo3 so3 no3 co3 26 2 1 [AI 0, .nil] 26 n_12 2 1 xs_13.length (rows eI xs_13) hc) (by kernel_rfl) (by kernel_rfl) (by kernel_rfl) (by kernel_rfl) (by rintro _ _ ⟨_, _, _, _, rfl, rfl⟩; exact ⟨by kernel_rfl, by kernel_rfl, by kernel_rfl⟩)) (Nat.le_of_ble_eq_true (by kernel_rfl)) (by kernel_rfl) (by kernel_rfl) (by rintro _ _ ⟨_, ⟨_, _, _, _, rfl, rfl⟩, rfl⟩; exact Nat.le_of_ble_eq_true (by kernel_rfl))) (Nat.le_of_ble_eq_true (by kernel_rfl)) (by kernel_rfl) (by kernel_rfl) (by rintro _ _ ⟨_, _, ⟨_, ⟨_, _, _, _, rfl, rfl⟩, rfl⟩, rfl, rfl⟩; exact Nat.le_of_ble_eq_true (by kernel_rfl))) (by kernel_rfl) (by kernel_rfl) (by kernel_rfl) ?_
                    rintro _ _ ⟨_, _, ⟨_, _, ⟨_, ⟨v_101, p1_102, h1_103, f104, rfl, rfl⟩, rfl⟩, rfl, rfl⟩, rfl, rfl⟩
                    refine R.go 1 (R.any2 1 9 (by kernel_rfl) (by kernel_rfl) ?_ ?_)
                    · refine R.go 2 (R.any1 9 (by kernel_rfl) (by kernel_rfl) ?_)
                      refine R.call true (l01Full_c n_12 (by omega) (by omega)) (by kernel_rfl) rfl (by kernel_rfl) ?_
                      refine R.go 1 (R.any1 10 (by kernel_rfl) (by kernel_rfl) ?_)
                      refine R.ar (((shl64 1 n_12) - 1) + 2) (by kernel_rfl) (by omega) (by omega) (by kernel_rfl) ?_
                      refine R.go 1 (R.any1 11 (by kernel_rfl) (by kernel_rfl) ?_)
                      refine R.callX (CallX.inF 4 usC frC (CallX.inF 5 [] [] (CallX.box 4 26 [AI 0, .nil] (nextX_c_rooooBo c p1_102 h1_103 (((shl64 1 n_12) - 1) + 2) eo1 so1 no1 co1 eo2 so2 no2 co2 eo3 so3 no3 co3 26 2 1 [AI 0, .nil] 26 n_12 2 1 xs_13.length (rows eI xs_13) hc) (by kernel_rfl) (by kernel_rfl) (by kernel_rfl) (by kernel_rfl) (by rintro _ _ ⟨_, _, _, _, rfl, rfl⟩; exact ⟨by kernel_rfl, by kernel_rfl, by kernel_rfl⟩)) (Nat.le_of_ble_eq_true (by kernel_rfl)) (by kernel_rfl) (by kernel_rfl) (by rintro _ _ ⟨_, ⟨_, _, _, _, rfl, rfl⟩, rfl⟩; exact Nat.le_of_ble_eq_true (by kernel_rfl))) (Nat.le_of_ble_eq_true (by kernel_rfl)) (by kernel_rfl) (by kernel_rfl) (by rintro _ _ ⟨_, _, ⟨_, ⟨_, _, _, _, rfl, rfl⟩, rfl⟩, rfl, rfl⟩; exact Nat.le_of_ble_eq_true (by kernel_rfl))) (by kernel_rfl) (by kernel_rfl) (by kernel_rfl) ?_
                      rintro _ _ ⟨_, _, ⟨_, _, ⟨_, ⟨v_105, p1_106, h1_107, f108, rfl, rfl⟩, rfl⟩, rfl, rfl⟩, rfl, rfl⟩
                      refine R.go 1 (R.any1 12 (by kernel_rfl) (by kernel_rfl) ?_)
                      refine R.ar (v_105 - 1) (by kernel_rfl) (by omega) (by omega) (by kernel_rfl) ?_
                      refine R.go 1 (R.any1 13 (by kernel_rfl) (by kernel_rfl) ?_)
                      refine R.idxO 8 1 xs_13.length ((v_101).toNat) v_101 (by kernel_rfl) (by omega) (by omega) (by kernel_rfl) ?_
                      refine R.go 1 (R.any1 14 (by kernel_rfl) (by kernel_rfl) ?_)
                      refine R.stI 8 2 xs_13 ((v_101).toNat) (v_105 - 1) (by kernel_rfl) (by omega) (by kernel_rfl) ?_
                      refine R.go 1 (R.any0 (by kernel_rfl) ?_)
                      exact R.metF (v_101, p1_102, h1_103, v_105, p1_106, h1_107) (by kernel_rfl) ⟨by first | assumption | omega, by first | assumption | omega⟩ (by kernel_rfl)
                    · refine R.call true (l01Full_c n_12 (by omega) (by omega)) (by kernel_rfl) rfl (by kernel_rfl) ?_
                      refine R.go 1 (R.any2 1 10 (by kernel_rfl) (by kernel_rfl) ?_ ?_)
                      · refine R.go 2 (R.any1 10 (by kernel_rfl) (by kernel_rfl) ?_)
                        refine R.ar (((shl64 1 n_12) - 1) + 2) (by kernel_rfl) (by omega) (by omega) (by kernel_rfl) ?_
                        refine R.go 1 (R.any1 11 (by kernel_rfl) (by kernel_rfl) ?_)
                        refine R.callX (CallX.inF 4 usC frC (CallX.inF 5 [] [] (CallX.box 4 26 [AI 0, .nil] (nextX_c_rooooBo c p1_102 h1_103 (((shl64 1 n_12) - 1) + 2) eo1 so1 no1 co1 eo2 so2 no2 co2 eo3 so3 no3 co3 26 2 1 [AI 0, .nil] 26 n_12 2 1 xs_13.length (rows eI xs_13) hc) (by kernel_rfl) (by kernel_rfl) (by kernel_rfl) (by kernel_rfl) (by rintro _ _ ⟨_, _, _, _, rfl, rfl⟩; exact ⟨by kernel_rfl, by kernel_rfl, by kernel_rfl⟩)) (Nat.le_of_ble_eq_true (by kernel_rfl)) (by kernel_rfl) (by kernel_rfl) (by rintro _ _ ⟨_, ⟨_, _, _, _, rfl, rfl⟩, rfl⟩; exact Nat.le_of_ble_eq_true (by kernel_rfl))) (Nat.le_of_ble_eq_true (by kernel_rfl)) (by kernel_rfl) (by kernel_rfl) (by rintro _ _ ⟨_, _, ⟨_, ⟨_, _, _, _, rfl, rfl⟩, rfl⟩, rfl, rfl⟩; exact Nat.le_of_ble_eq_true (by kernel_rfl))) (by kernel_rfl) (by kernel_rfl) (by kernel_rfl) ?_
                        rintro _ _ ⟨_, _, ⟨_, _, ⟨_, ⟨v_109, p1_110, h1_111, f112, rfl, rfl⟩, rfl⟩, rfl, rfl⟩, rfl, rfl⟩
                        refine R.go 1 (R.any1 12 (by kernel_rfl) (by kernel_rfl) ?_)
                        refine R.ar (v_109 - 1) (by kernel_rfl) (by omega) (by omega) (by kernel_rfl) ?_
                        refine R.go 1 (R.any1 13 (by kernel_rfl) (by kernel_rfl) ?_)
                        refine R.idxO 8 1 xs_13.length ((v_101).toNat) v_101 (by kernel_rfl) (by omega) (by omega) (by kernel_rfl) ?_
                        refine R.go 1 (R.any1 14 (by kernel_rfl) (by kernel_rfl) ?_)
                        refine R.stI 8 2 xs_13 ((v_101).toNat) (v_109 - 1) (by kernel_rfl) (by omega) (by kernel_rfl) ?_
                        refine R.go 1 (R.any0 (by kernel_rfl) ?_)
                        exact R.metF (v_101, p1_102, h1_103, v_109, p1_110, h1_111) (by kernel_rfl) ⟨by first | assumption | omega, by first | assumption | omega⟩ (by kernel_rfl)
                      · refine R.ar (((shl64 1 n_12) - 1) + 2) (by kernel_rfl) (by omega) (by omega) (by kernel_rfl) ?_
                        refine R.go 1 (R.any2 1 11 (by kernel_rfl) (by kernel_rfl) ?_ ?_)
                        · refine R.go 2 (R.any1 11 (by kernel_rfl) (by kernel_rfl) ?_)
                          refine R.callX (CallX.inF 4 usC frC (CallX.inF 5 [] [] (CallX.box 4 26 [AI 0, .nil] (nextX_c_rooooBo c p1_102 h1_103 (((shl64 1 n_12) - 1) + 2) eo1 so1 no1 co1 eo2 so2 no2 co2 eo3 so3 no3 co3 26 2 1 [AI 0, .nil] 26 n_12 2 1 xs_13.length (rows eI xs_13) hc) (by kernel_rfl) (by kernel_rfl) (by kernel_rfl) (by kernel_rfl) (by rintro _ _ ⟨_, _, _, _, rfl, rfl⟩; exact ⟨by kernel_rfl, by kernel_rfl, by kernel_rfl⟩)) (Nat.le_of_ble_eq_true (by kernel_rfl)) (by kernel_rfl) (by kernel_rfl) (by rintro _ _ ⟨_, ⟨_, _, _, _, rfl, rfl⟩, rfl⟩; exact Nat.le_of_ble_eq_true (by kernel_rfl))) (Nat.le_of_ble_eq_true (by kernel_rfl)) (by kernel_rfl) (by kernel_rfl) (by rintro _ _ ⟨_, _, ⟨_, ⟨_, _, _, _, rfl, rfl⟩, rfl⟩, rfl, rfl⟩; exact Nat.le_of_ble_eq_true (by kernel_rfl))) (by kernel_rfl) (by kernel_rfl) (by kernel_rfl) ?_
                          rintro _ _ ⟨_, _, ⟨_, _, ⟨_, ⟨v_113, p1_114, h1_115, f116, rfl, rfl⟩, rfl⟩, rfl, rfl⟩, rfl, rfl⟩
                          refine R.go 1 (R.any1 12 (by kernel_rfl) (by kernel_rfl) ?_)
                          refine R.ar (v_113 - 1) (by kernel_rfl) (by omega) (by omega) (by kernel_rfl) ?_
                          refine R.go 1 (R.any1 13 (by kernel_rfl) (by kernel_rfl) ?_)
                          refine R.idxO 8 1 xs_13.length ((v_101).toNat) v_101 (by kernel_rfl) (by omega) (by omega) (by kernel_rfl) ?_
                          refine R.go 1 (R.any1 14 (by kernel_rfl) (by kernel_rfl) ?_)
                          refine R.stI 8 2 xs_13 ((v_101).toNat) (v_113 - 1) (by kernel_rfl) (by omega) (by kernel_rfl) ?_
                          refine R.go 1 (R.any0 (by kernel_rfl) ?_)
                          exact R.metF (v_101, p1_102, h1_103, v_113, p1_114, h1_115) (by kernel_rfl) ⟨by first | assumption | omega, by first | assumption | omega⟩ (by kernel_rfl)
                        · refine R.callX (CallX.inF 4 usC frC (CallX.inF 5 [] [] (CallX.box 4 26 [AI 0, .nil] (nextX_c_rooooBo c p1_102 h1_103 (((shl64 1 n_12) - 1) + 2) eo1 so1 no1 co1 eo2 so2 no2 co2 eo3 so3 no3 co3 26 2 1 [AI 0, .nil] 26 n_12 2 1 xs_13.length (rows eI xs_13) hc) (by kernel_rfl) (by kernel_rfl) (by kernel_rfl) (by kernel_rfl) (by rintro _ _ ⟨_, _, _, _, rfl, rfl⟩; exact ⟨by kernel_rfl, by kernel_rfl, by kernel_rfl⟩)) (Nat.le_of_ble_eq_true (by kernel_rfl)) (by kernel_rfl) (by kernel_rfl) (by rintro _ _ ⟨_, ⟨_, _, _, _, rfl, rfl⟩, rfl⟩; exact Nat.le_of_ble_eq_true (by kernel_rfl))) (Nat.le_of_ble_eq_true (by kernel_rfl)) (by kernel_rfl) (by kernel_rfl) (by rintro _ _ ⟨_, _, ⟨_, ⟨_, _, _, _, rfl, rfl⟩, rfl⟩, rfl, rfl⟩; exact Nat.le_of_ble_eq_true (by kernel_rfl))) (by kernel_rfl) (by kernel_rfl) (by kernel_rfl) ?_
                          rintro _ _ ⟨_, _, ⟨_, _, ⟨_, ⟨v_117, p1_118, h1_119, f120, rfl, rfl⟩, rfl⟩, rfl, rfl⟩, rfl, rfl⟩
                          refine R.go 1 (R.any2 1 12 (by kernel_rfl) (by kernel_rfl) ?_ ?_)
                          · refine R.go 2 (R.any1 12 (by kernel_rfl) (by kernel_rfl) ?_)
                            refine R.ar (v_117 - 1) (by kernel_rfl) (by omega) (by omega) (by kernel_rfl) ?_
                            refine R.go 1 (R.any1 13 (by kernel_rfl) (by kernel_rfl) ?_)
                            refine R.idxO 8 1 xs_13.length ((v_101).toNat) v_101 (by kernel_rfl) (by omega) (by omega) (by kernel_rfl) ?_
                            refine R.go 1 (R.any1 14 (by kernel_rfl) (by kernel_rfl) ?_)
                            refine R.stI 8 2 xs_13 ((v_101).toNat) (v_117 - 1) (by kernel_rfl) (by omega) (by kernel_rfl) ?_
                            refine R.go 1 (R.any0 (by kernel_rfl) ?_)
                            exact R.metF (v_101, p1_102, h1_103, v_117, p1_118, h1_119) (by kernel_rfl) ⟨by first | assumption | omega, by first | assumption | omega⟩ (by kernel_rfl)
                          · refine R.ar (v_117 - 1) (by kernel_rfl) (by omega) (by omega) (by kernel_rfl) ?_
                            refine R.go 1 (R.any1 1 (by kernel_rfl) (by kernel_rfl) ?_)
                            refine R.go 2 (R.any1 13 (by kernel_rfl) (by kernel_rfl) ?_)
                            refine R.idxO 8 1 xs_13.length ((v_101).toNat) v_101 (by kernel_rfl) (by omega) (by omega) (by kernel_rfl) ?_
                            refine R.go 1 (R.any1 14 (by kernel_rfl) (by kernel_rfl) ?_)
                            refine R.stI 8 2 xs_13 ((v_101).toNat) (v_117 - 1) (by kernel_rfl) (by omega) (by kernel_rfl) ?_
                            refine R.go 1 (R.any0 (by kernel_rfl) ?_)
                            exact R.metF (v_101, p1_102, h1_103, v_117, p1_118, h1_119) (by kernel_rfl) ⟨by first | assumption | omega, by first | assumption | omega⟩ (by kernel_rfl)
              · refine R.go 2 (R.any2 1 4 (by kernel_rfl) (by kernel_rfl) ?_ ?_)
                · refine R.go 2 (R.any1 4 (by kernel_rfl) (by kernel_rfl) ?_)
                  refine R.go 2 (R.any1 5 (by kernel_rfl) (by kernel_rfl) ?_)
                  refine R.callX (CallX.inF 4 usC frC (CallX.inF 5 [] [] (CallX.box 4 26 [AI 0, .nil] (nextX_c_rooooBo c p1_19 h1_20 n_12 eo1 so1 no1 co1 eo2 so2 no2 co2 eo3 so3 no3 co3 26 2 1 [AI 0, .nil] 26 n_12 2 1 xs_13.length (rows eI xs_13) hc) (by kernel_rfl) (by kernel_rfl) (by kernel_rfl) (by kernel_rfl) (by rintro _ _ ⟨_, _, _, _, rfl, rfl⟩; exact ⟨by kernel_rfl, by kernel_rfl, by kernel_rfl⟩)) (Nat.le_of_ble_eq_true (by kernel_rfl)) (by kernel_rfl) (by kernel_rfl) (by rintro _ _ ⟨_, ⟨_, _, _, _, rfl, rfl⟩, rfl⟩; exact Nat.le_of_ble_eq_true (by kernel_rfl))) (Nat.le_of_ble_eq_true (by kernel_rfl)) (by kernel_rfl) (by kernel_rfl) (by rintro _ _ ⟨_, _, ⟨_, ⟨_, _, _, _, rfl, rfl⟩, rfl⟩, rfl, rfl⟩; exact Nat.le_of_ble_eq_true (by kernel_rfl))) (by kernel_rfl) (by kernel_rfl) (by kernel_rfl) ?_
                  rintro _ _ ⟨_, _, ⟨_, _, ⟨_, ⟨v_121, p1_122, h1_123, f124, rfl, rfl⟩, rfl⟩, rfl, rfl⟩, rfl, rfl⟩
                  refine R.go 1 (R.any1 9 (by kernel_rfl) (by kernel_rfl) ?_)
                  refine R.call true (l01Full_c n_12 (by omega) (by omega)) (by kernel_rfl) rfl (by kernel_rfl) ?_
                  refine R.go 1 (R.any1 10 (by kernel_rfl) (by kernel_rfl) ?_)
                  refine R.ar (((shl64 1 n_12) - 1) + 2) (by kernel_rfl) (by omega) (by omega) (by kernel_rfl) ?_
                  refine R.go 1 (R.any1 11 (by kernel_rfl) (by kernel_rfl) ?_)
                  refine R.callX (CallX.inF 4 usC frC (CallX.inF 5 [] [] (CallX.box 4 26 [AI 0, .nil] (nextX_c_rooooBo c p1_122 h1_123 (((shl64 1 n_12) - 1) + 2) eo1 so1 no1 co1 eo2 so2 no2 co2 eo3 so3 no3 co3 26 2 1 [AI 0, .nil] 26 n_12 2 1 xs_13.length (rows eI xs_13) hc) (by kernel_rfl) (by kernel_rfl) (by kernel_rfl) (by kernel_rfl) (by rintro _ _ ⟨_, _, _, _, rfl, rfl⟩; exact ⟨by kernel_rfl, by kernel_rfl, by kernel_rfl⟩)) (Nat.le_of_ble_eq_true (by kernel_rfl)) (by kernel_rfl) (by kernel_rfl) (by rintro _ _ ⟨_, ⟨_, _, _, _, rfl, rfl⟩, rfl⟩; exact Nat.le_of_ble_eq_true (by kernel_rfl))) (Nat.le_of_ble_eq_true (by kernel_rfl)) (by kernel_rfl) (by kernel_rfl) (by rintro _ _ ⟨_, _, ⟨_, ⟨_, _, _, _, rfl, rfl⟩, rfl⟩, rfl, rfl⟩; exact Nat.le_of_ble_eq_true (by kernel_rfl))) (by kernel_rfl) (by kernel_rfl) (by kernel_rfl) ?_
                  rintro _ _ ⟨_, _, ⟨_, _, ⟨_, ⟨v_125, p1_126, h1_127, f128, rfl, rfl⟩, rfl⟩, rfl, rfl⟩, rfl, rfl⟩
                  refine R.go 1 (R.any1 12 (by kernel_rfl) (by kernel_rfl) ?_)
                  refine R.ar (v_125 - 1) (by kernel_rfl) (by omega) (by omega) (by kernel_rfl) ?_
                  refine R.go 1 (R.any1 13 (by kernel_rfl) (by kernel_rfl) ?_)
                  refine R.idxO 8 1 xs_13.length ((v_121).toNat) v_121 (by kernel_rfl) (by omega) (by omega) (by kernel_rfl) ?_
                  refine R.go 1 (R.any1 14 (by kernel_rfl) (by kernel_rfl) ?_)
                  refine R.stI 8 2 xs_13 ((v_121).toNat) (v_125 - 1) (by kernel_rfl) (by omega) (by kernel_rfl) ?_
                  refine R.go 1 (R.any0 (by kernel_rfl) ?_)
                  exact R.metF (v_121, p1_122, h1_123, v_125, p1_126, h1_127) (by kernel_rfl) ⟨by first | assumption | omega, by first | assumption | omega⟩ (by kernel_rfl)
                · refine R.go 2 (R.any2 1 5 (by kernel_rfl) (by kernel_rfl) ?_ ?_)
                  · refine R.go 2 (R.any1 5 (by kernel_rfl) (by kernel_rfl) ?_)
                    refine R.callX (CallX.inF 4 usC frC (CallX.inF 5 [] [] (CallX.box 4 26 [AI 0, .nil] (nextX_c_rooooBo c p1_19 h1_20 n_12 eo1 so1 no1 co1 eo2 so2 no2 co2 eo3 so3 no3 co3 26 2 1 [AI 0, .nil] 26 n_12 2 1 xs_13.length (rows eI xs_13) hc) (by kernel_rfl) (by kernel_rfl) (by kernel_rfl) (by kernel_rfl) (by rintro _ _ ⟨_, _, _, _, rfl, rfl⟩; exact ⟨by kernel_rfl, by kernel_rfl, by kernel_rfl⟩)) (Nat.le_of_ble_eq_true (by kernel_rfl)) (by kernel_rfl) (by kernel_rfl) (by rintro _ _ ⟨_, ⟨_, _, _, _, rfl, rfl⟩, rfl⟩; exact Nat.le_of_ble_eq_true (by kernel_rfl))) (Nat.le_of_ble_eq_true (by kernel_rfl)) (by kernel_rfl) (by kernel_rfl) (by rintro _ _ ⟨_, _, ⟨_, ⟨_, _, _, _, rfl, rfl⟩, rfl⟩, rfl, rfl⟩; exact Nat.le_of_ble_eq_true (by kernel_rfl))) (by kernel_rfl) (by kernel_rfl) (by kernel_rfl) ?_
                    rintro _ _ ⟨_, _, ⟨_, _, ⟨_, ⟨v_129, p1_130, h1_131, f132, rfl, rfl⟩, rfl⟩, rfl, rfl⟩, rfl, rfl⟩
                    refine R.go 1 (R.any1 9 (by kernel_rfl) (by kernel_rfl) ?_)
                    refine R.call true (l01Full_c n_12 (by omega) (by omega)) (by kernel_rfl) rfl (by kernel_rfl) ?_
                    refine R.go 1 (R.any1 10 (by kernel_rfl) (by kernel_rfl) ?_)
                    refine R.ar (((shl64 1 n_12) - 1) + 2) (by kernel_rfl) (by omega) (by omega) (by kernel_rfl) ?_
                    refine R.go 1 (R.any1 11 (by kernel_rfl) (by kernel_rfl) ?_)
                    refine R.callX (CallX.inF 4 usC frC (CallX.inF 5 [] [] (CallX.box 4 26 [AI 0, .nil] (nextX_c_rooooBo c p1_130 h1_131 (((shl64 1 n_12) - 1) + 2) eo1 so1 no1 co1 eo2 so2 no2 co2 eo3 so3 no3 co3 26 2 1 [AI 0, .nil] 26 n_12 2 1 xs_13.length (rows eI xs_13) hc) (by kernel_rfl) (by kernel_rfl) (by kernel_rfl) (by kernel_rfl) (by rintro _ _ ⟨_, _, _, _, rfl, rfl⟩; exact ⟨by kernel_rfl, by kernel_rfl, by kernel_rfl⟩)) (Nat.le_of_ble_eq_true (by kernel_rfl)) (by kernel_rfl) (by kernel_rfl) (by rintro _ _ ⟨_, ⟨_, _, _, _, rfl, rfl⟩, rfl⟩; exact Nat.le_of_ble_eq_true (by kernel_rfl))) (Nat.le_of_ble_eq_true (by kernel_rfl)) (by kernel_rfl) (by kernel_rfl) (by rintro _ _ ⟨_, _, ⟨_, ⟨_, _, _, _, rfl, rfl⟩, rfl⟩, rfl, rfl⟩; exact Nat.le_of_ble_eq_true (by kernel_rfl))) (by kernel_rfl) (by kernel_rfl) (by kernel_rfl) ?_
                    rintro _ _ ⟨_, _, ⟨_, _, ⟨_, ⟨v_133, p1_134, h1_135, f136, rfl, rfl⟩, rfl⟩, rfl, rfl⟩, rfl, rfl⟩
                    refine R.go 1 (R.any1 12 (by kernel_rfl) (by kernel_rfl) ?_)
                    refine R.ar (v_133 - 1) (by kernel_rfl) (by omega) (by omega) (by kernel_rfl) ?_
                    refine R.go 1 (R.any1 13 (by kernel_rfl) (by kernel_rfl) ?_)
                    refine R.idxO 8 1 xs_13.length ((v_129).toNat) v_129 (by kernel_rfl) (by omega) (by omega) (by kernel_rfl) ?_
                    refine R.go 1 (R.any1 14 (by kernel_rfl) (by kernel_rfl) ?_)
                    refine R.stI 8 2 xs_13 ((v_129).toNat) (v_133 - 1) (by kernel_rfl) (by omega) (by kernel_rfl) ?_
                    refine R.go 1 (R.any0 (by kernel_rfl) ?_)
                    exact R.metF (v_129, p1_130, h1_131, v_133, p1_134, h1_135) (by kernel_rfl) ⟨by first | assumption | omega, by first | assumption | omega⟩ (by kernel_rfl)
                  · refine R.callX (CallX.inF 4 usC frC (CallX.inF 5 [] [] (CallX.box 4 26 [AI 0, .nil] (nextX_c_rooooBo c p1_19 h1_20 n_12 eo1 so1 no1 co1 eo2 so2 no2 co2 eo3 so3 no3 co3 26 2 1 [AI 0, .nil] 26 n_12 2 1 xs_13.length (rows eI xs_13) hc) (by kernel_rfl) (by kernel_rfl) (by kernel_rfl) (by kernel_rfl) (by rintro _ _ ⟨_, _, _, _, rfl, rfl⟩; exact ⟨by kernel_rfl, by kernel_rfl, by kernel_rfl⟩)) (Nat.le_of_ble_eq_true (by kernel_rfl)) (by kernel_rfl) (by kernel_rfl) (by rintro _ _ ⟨_, ⟨_, _, _, _, rfl, rfl⟩, rfl⟩; exact Nat.le_of_ble_eq_true (by kernel_rfl))) (Nat.le_of_ble_eq_true (by kernel_rfl)) (by kernel_rfl) (by kernel_rfl) (by rintro _ _ ⟨_, _, ⟨_, ⟨_, _, _, _, rfl, rfl⟩, rfl⟩, rfl, rfl⟩; exact Nat.le_of_ble_eq_true (by kernel_rfl))) (by kernel_rfl) (by kernel_rfl) (by kernel_rfl) ?_
                    rintro _ _ ⟨_, _, ⟨_, _, ⟨_, ⟨v_137, p1_138, h1_139, f140, rfl, rfl⟩, rfl⟩, rfl, rfl⟩, rfl, rfl⟩
                    refine R.go 1 (R.any2 1 9 (by kernel_rfl) (by kernel_rfl) ?_ ?_)
                    · refine R.go 2 (R.any1 9 (by kernel_rfl) (by kernel_rfl) ?_)
                      refine R.call true (l01Full_c n_12 (by omega) (by omega)) (by kernel_rfl) rfl (by kernel_rfl) ?_
                      refine R.go 1 (R.any1 10 (by kernel_rfl) (by kernel_rfl) ?_)
                      refine R.ar (((shl64 1 n_12) - 1) + 2) (by kernel_rfl) (by omega) (by omega) (by kernel_rfl) ?_
                      refine R.go 1 (R.any1 11 (by kernel_rfl) (by kernel_rfl) ?_)
                      refine R.callX (CallX.inF 4 usC frC (CallX.inF 5 [] [] (CallX.box 4 26 [AI 0, .nil] (nextX_c_rooooBo c p1_138 h1_139 (((shl64 1 n_12) - 1) + 2) eo1 so1 no1 co1 eo2 so2 no2 co2 eo3 so3 no3 co3 26 2 1 [AI 0, .nil] 26 n_12 2 1 xs_13.length (rows eI xs_13) hc) (by kernel_rfl) (by kernel_rfl) (by kernel_rfl) (by kernel_rfl) (by rintro _ _ ⟨_, _, _, _, rfl, rfl⟩; exact ⟨by kernel_rfl, by kernel_rfl, by kernel_rfl⟩)) (Nat.le_of_ble_eq_true (by kernel_rfl)) (by kernel_rfl) (by kernel_rfl) (by rintro _ _ ⟨_, ⟨_, _, _, _, rfl, rfl⟩, rfl⟩; exact Nat.le_of_ble_eq_true (by kernel_rfl))) (Nat.le_of_ble_eq_true (by kernel_rfl)) (by kernel_rfl) (by kernel_rfl) (by rintro _ _ ⟨_, _, ⟨_, ⟨_, _, _, _, rfl, rfl⟩, rfl⟩, rfl, rfl⟩; exact Nat.le_of_ble_eq_true (by kernel_rfl))) (by kernel_rfl) (by kernel_rfl) (by kernel_rfl) ?_
                      rintro _ _ ⟨_, _, ⟨_, _, ⟨_, ⟨v_141, p1_142, h1_143, f144, rfl, rfl⟩, rfl⟩, rfl, rfl⟩, rfl, rfl⟩
                      refine R.go 1 (R.any1 12 (by kernel_rfl) (by kernel_rfl) ?_)
                      refine R.ar (v_141 - 1) (by kernel_rfl) (by omega) (by omega) (by kernel_rfl) ?_
                      refine R.go 1 (R.any1 13 (by kernel_rfl) (by kernel_rfl) ?_)
                      refine R.idxO 8 1 xs_13.length ((v_137).toNat) v_137 (by kernel_rfl) (by omega) (by omega) (by kernel_rfl) ?_
                      refine R.go 1 (R.any1 14 (by kernel_rfl) (by kernel_rfl) ?_)
                      refine R.stI 8 2 xs_13 ((v_137).toNat) (v_141 - 1) (by kernel_rfl) (by omega) (by kernel_rfl) ?_
                      refine R.go 1 (R.any0 (by kernel_rfl) ?_)
                      exact R.metF (v_137, p1_138, h1_139, v_141, p1_142, h1_143) (by kernel_rfl) ⟨by first | assumption | omega, by first | assumption | omega⟩ (by kernel_rfl)
                    · refine R.call true (l01Full_c n_12 (by omega) (by omega)) (by kernel_rfl) rfl (by kernel_rfl) ?_
                      refine R.go 1 (R.any2 1 10 (by kernel_rfl) (by kernel_rfl) ?_ ?_)
                      · refine R.go 2 (R.any1 10 (by kernel_rfl) (by kernel_rfl) ?_)
                        refine R.ar (((shl64 1 n_12) - 1) + 2) (by kernel_rfl) (by omega) (by omega) (by kernel_rfl) ?_
                        refine R.go 1 (R.any1 11 (by kernel_rfl) (by kernel_rfl) ?_)
                        refine R.callX (CallX.inF 4 usC frC (CallX.inF 5 [] [] (CallX.box 4 26 [AI 0, .nil] (nextX_c_rooooBo c p1_138 h1_139 (((shl64 1 n_12) - 1) + 2) eo1 so1 no1 co1 eo2 so2 no2 co2 eo3 so3 no3 co3 26 2 1 [AI 0, .nil] 26 n_12 2 1 xs_13.length (rows eI xs_13) hc) (by kernel_rfl) (by kernel_rfl) (by kernel_rfl) (by kernel_rfl) (by rintro _ _ ⟨_, _, _, _, rfl, rfl⟩; exact ⟨by kernel_rfl, by kernel_rfl, by kernel_rfl⟩)) (Nat.le_of_ble_eq_true (by kernel_rfl)) (by kernel_rfl) (by kernel_rfl) (by rintro _ _ ⟨_, ⟨_, _, _, _, rfl, rfl⟩, rfl⟩; exact Nat.le_of_ble_eq_true (by kernel_rfl))) (Nat.le_of_ble_eq_true (by kernel_rfl)) (by kernel_rfl) (by kernel_rfl) (by rintro _ _ ⟨_, _, ⟨_, ⟨_, _, _, _, rfl, rfl⟩, rfl⟩, rfl, rfl⟩; exact Nat.le_of_ble_eq_true (by kernel_rfl))) (by kernel_rfl) (by kernel_rfl) (by kernel_rfl) ?_
                        rintro _ _ ⟨_, _, ⟨_, _, ⟨_, ⟨v_145, p1_146, h1_147, f148, rfl, rfl⟩, rfl⟩, rfl, rfl⟩, rfl, rfl⟩
                        refine R.go 1 (R.any1 12 (by kernel_rfl) (by kernel_rfl) ?_)
                        refine R.ar (v_145 - 1) (by kernel_rfl) (by omega) (by omega) (by kernel_rfl) ?_
                        refine R.go 1 (R.any1 13 (by kernel_rfl) (by kernel_rfl) ?_)
                        refine R.idxO 8 1 xs_13.length ((v_137).toNat) v_137 (by kernel_rfl) (by omega) (by omega) (by kernel_rfl) ?_
                        refine R.go 1 (R.any1 14 (by kernel_rfl) (by kernel_rfl) ?_)
                        refine R.stI 8 2 xs_13 ((v_137).toNat) (v_145 - 1) (by kernel_rfl) (by omega) (by kernel_rfl) ?_
                        refine R.go 1 (R.any0 (by kernel_rfl) ?_)
                        exact R.metF (v_137, p1_138, h1_139, v_145, p1_146, h1_147) (by kernel_rfl) ⟨by first | assumption | omega, by first | assumption | omega⟩ (by kernel_rfl)
                      · refine R.ar (((shl64 1 n_12) - 1) + 2) (by kernel_rfl) (by omega) (by omega) (by kernel_rfl) ?_
                        refine R.go 1 (R.any2 1 11 (by kernel_rfl) (by kernel_rfl) ?_ ?_)
                        · refine R.go 2 (R.any1 11 (by kernel_rfl) (by kernel_rfl) ?_)
                          refine R.callX (CallX.inF 4 usC frC (CallX.inF 5 [] [] (CallX.box 4 26 [AI 0, .nil] (nextX_c_rooooBo c p1_138 h1_139 (((shl64 1 n_12) - 1) + 2) eo1 so1 no1 co1 eo2 so2 no2 co2 eo3 so3 no3 co3 26 2 1 [AI 0, .nil] 26 n_12 2 1 xs_13.length (rows eI xs_13) hc) (by kernel_rfl) (by kernel_rfl) (by kernel_rfl) (by kernel_rfl) (by rintro _ _ ⟨_, _, _, _, rfl, rfl⟩; exact ⟨by kernel_rfl, by kernel_rfl, by kernel_rfl⟩)) (Nat.le_of_ble_eq_true (by kernel_rfl)) (by kernel_rfl) (by kernel_rfl) (by rintro _ _ ⟨_, ⟨_, _, _, _, rfl, rfl⟩, rfl⟩; exact Nat.le_of_ble_eq_true (by kernel_rfl))) (Nat.le_of_ble_eq_true (by kernel_rfl)) (by kernel_rfl) (by kernel_rfl) (by rintro _ _ ⟨_, _, ⟨_, ⟨_, _, _, _, rfl, rfl⟩, rfl⟩, rfl, rfl⟩; exact Nat.le_of_ble_eq_true (by kernel_rfl))) (by kernel_rfl) (by kernel_rfl) (by kernel_rfl) ?_
                          rintro _ _ ⟨_, _, ⟨_, _, ⟨_, ⟨v_149, p1_150, h1_151, f152, rfl, rfl⟩, rfl⟩, rfl, rfl⟩, rfl, rfl⟩
                          refine R.go 1 (R.any1 12 (by kernel_rfl) (by kernel_rfl) ?_)
                          refine R.ar (v_149 - 1) (by kernel_rfl) (by omega) (by omega) (by kernel_rfl) ?_
                          refine R.go 1 (R.any1 13 (by kernel_rfl) (by kernel_rfl) ?_)
                          refine R.idxO 8 1 xs_13.length ((v_137).toNat) v_137 (by kernel_rfl) (by omega) (by omega) (by kernel_rfl) ?_
                          refine R.go 1 (R.any1 14 (by kernel_rfl) (by kernel_rfl) ?_)
                          refine R.stI 8 2 xs_13 ((v_137).toNat) (v_149 - 1) (by kernel_rfl) (by omega) (by kernel_rfl) ?_
                          refine R.go 1 (R.any0 (by kernel_rfl) ?_)
                          exact R.metF (v_137, p1_138, h1_139, v_149, p1_150, h1_151) (by kernel_rfl) ⟨by first | assumption | omega, by first | assumption | omega⟩ (by kernel_rfl)
                        · refine R.callX (CallX.inF 4 usC frC (CallX.inF 5 [] [] (CallX.box 4 26 [AI 0, .nil] (nextX_c_rooooBo c p1_138 h1_139 (((shl64 1 n_12) - 1) + 2) eo1 so1 no1 co1 eo2 so2 no2 co2 eo3 so3 no3 co3 26 2 1 [AI 0, .nil] 26 n_12 2 1 xs_13.length (rows eI xs_13) hc) (by kernel_rfl) (by kernel_rfl) (by kernel_rfl) (by kernel_rfl) (by rintro _ _ ⟨_, _, _, _, rfl, rfl⟩; exact ⟨by kernel_rfl, by kernel_rfl, by kernel_rfl⟩)) (Nat.le_of_ble_eq_true (by kernel_rfl)) (by kernel_rfl) (by kernel_rfl) (by rintro _ _ ⟨_, ⟨_, _, _, _, rfl, rfl⟩, rfl⟩; exact Nat.le_of_ble_eq_true (by kernel_rfl))) (Nat.le_of_ble_eq_true (by kernel_rfl)) (by kernel_rfl) (by kernel_rfl) (by rintro _ _ ⟨_, _, ⟨_, ⟨_, _, _, _, rfl, rfl⟩, rfl⟩, rfl, rfl⟩; exact Nat.le_of_ble_eq_true (by kernel_rfl))) (by kernel_rfl) (by kernel_rfl) (by kernel_rfl) ?_
                          rintro _ _ ⟨_, _, ⟨_, _, ⟨_, ⟨v_153, p1_154, h1_155, f156, rfl, rfl⟩, rfl⟩, rfl, rfl⟩, rfl, rfl⟩
                          refine R.go 1 (R.any2 1 12 (by kernel_rfl) (by kernel_rfl) ?_ ?_)
                          · refine R.go 2 (R.any1 12 (by kernel_rfl) (by kernel_rfl) ?_)
                            refine R.ar (v_153 - 1) (by kernel_rfl) (by omega) (by omega) (by kernel_rfl) ?_
                            refine R.go 1 (R.any1 13 (by kernel_rfl) (by kernel_rfl) ?_)
                            refine R.idxO 8 1 xs_13.length ((v_137).toNat) v_137 (by kernel_rfl) (by omega) (by omega) (by kernel_rfl) ?_
                            refine R.go 1 (R.any1 14 (by kernel_rfl) (by kernel_rfl) ?_)
                            refine R.stI 8 2 xs_13 ((v_137).toNat) (v_153 - 1) (by kernel_rfl) (by omega) (by kernel_rfl) ?_
                            refine R.go 1 (R.any0 (by kernel_rfl) ?_)
                            exact R.metF (v_137, p1_138, h1_139, v_153, p1_154, h1_155) (by kernel_rfl) ⟨by first | assumption | omega, by first | assumption | omega⟩ (by kernel_rfl)
                          · refine R.ar (v_153 - 1) (by kernel_rfl) (by omega) (by omega) (by kernel_rfl) ?_
                            refine R.go 1 (R.any1 1 (by kernel_rfl) (by kernel_rfl) ?_)
                            refine R.go 2 (R.any1 13 (by kernel_rfl) (by kernel_rfl) ?_)
                            refine R.idxO 8 1 xs_13.length ((v_137).toNat) v_137 (by kernel_rfl) (by omega) (by omega) (by kernel_rfl) ?_
                            refine R.go 1 (R.any1 14 (by kernel_rfl) (by kernel_rfl) ?_)
                            refine R.stI 8 2 xs_13 ((v_137).toNat) (v_153 - 1) (by kernel_rfl) (by omega) (by kernel_rfl) ?_
                            refine R.go 1 (R.any0 (by kernel_rfl) ?_)
                            exact R.metF (v_137, p1_138, h1_139, v_153, p1_154, h1_155) (by kernel_rfl) ⟨by first | assumption | omega, by first | assumption | omega⟩ (by kernel_rfl)
            · rintro ⟨v_29, p1_30, h1_31, v_33, p1_34, h1_35⟩ ⟨f32, f36⟩
              refine R.go 6 (R.frz 8 (by kernel_rfl) ?_)
              refine R.kfix 4 (us := usC) (by kernel_rfl) (hfC.frz 8 (LI (xs_13.set ((v_29).toNat) (v_33 - 1))) (Nat.le_of_ble_eq_true (by kernel_rfl))) ?_
              exact R.retX (res := .agg [AI n_12, LI (xs_13.set ((v_29).toNat) (v_33 - 1))]) (hp' := [.box 70 [LB c, AI (p1_34 : Int), .int .u64 h1_35], .list eo1 so1 no1 co1, .list eo2 so2 no2 co2, .list eo3 so3 no3 co3, .dead, .box 26 [AI n_12, LI (xs_13.set ((v_29).toNat) (v_33 - 1))], .frame [] [], .box 26 [AI n_12, LI (xs_13.set ((v_29).toNat) (v_33 - 1))], .dead]) (by kernel_rfl) (by kernel_rfl) (by kernel_rfl) (by kernel_rfl) ⟨[0, 1, 2, 3], by kernel_rfl, by decide, n_12, xs_13.set ((v_29).toNat) (v_33 - 1), p1_34, h1_35, by first | omega | (simp; done) | (simp only [List.length_append, List.length_cons, List.length_nil, List.length_set]; omega), by kernel_rfl, by kernel_rfl⟩
          · refine R.go 7 (R.frz 8 (by kernel_rfl) ?_)
            refine R.kfix 4 (us := usC) (by kernel_rfl) (hfC.frz 8 (LI xs_13) (Nat.le_of_ble_eq_true (by kernel_rfl))) ?_
            exact R.retX (res := .agg [AI n_12, LI xs_13]) (hp' := [.box 70 [LB c, AI (p1_19 : Int), .int .u64 h1_20], .list eo1 so1 no1 co1, .list eo2 so2 no2 co2, .list eo3 so3 no3 co3, .dead, .box 26 [AI n_12, LI xs_13], .frame [] [], .box 26 [AI n_12, LI xs_13], .dead]) (by kernel_rfl) (by kernel_rfl) (by kernel_rfl) (by kernel_rfl) ⟨[0, 1, 2, 3], by kernel_rfl, by decide, n_12, xs_13, p1_19, h1_20, by first | omega | (simp; done) | (simp only [List.length_append, List.length_cons, List.length_nil, List.length_set]; omega), by kernel_rfl, by kernel_rfl⟩
        · refine R.go 7 (R.frz 8 (by kernel_rfl) ?_)
          refine R.kfix 4 (us := usC) (by kernel_rfl) (hfC.frz 8 (LI xs_13) (Nat.le_of_ble_eq_true (by kernel_rfl))) ?_
          exact R.retX (res := .agg [AI n_12, LI xs_13]) (hp' := [.box 70 [LB c, AI (p1_19 : Int), .int .u64 h1_20], .list eo1 so1 no1 co1, .list eo2 so2 no2 co2, .list eo3 so3 no3 co3, .dead, .box 26 [AI n_12, LI xs_13], .frame [] [], .box 26 [AI n_12, LI xs_13], .dead]) (by kernel_rfl) (by kernel_rfl) (by kernel_rfl) (by kernel_rfl) ⟨[0, 1, 2, 3], by kernel_rfl, by decide, n_12, xs_13, p1_19, h1_20, by first | omega | (simp; done) | (simp only [List.length_append, List.length_cons, List.length_nil, List.length_set]; omega), by kernel_rfl, by kernel_rfl⟩
  · have hbp : 1 ≤ shl64 1 n_1 ∧ shl64 1 n_1 ≤ 4611686018427387904 := shl_rng n_1 (by omega) (by omega)
    refine R.go 5 (R.callX (CallX.inF 4 usC frC (CallX.box 4 26 [AI 0, .nil] (nextX_c_r5b c p1_8 h1_9 40 eo1 so1 no1 co1 eo2 so2 no2 co2 eo3 so3 no3 co3 26 2 1 [AI 0, .nil] 2 1 xs_2.length (rows eI xs_2) 26 n_1 hc) (by kernel_rfl) (by kernel_rfl) (by kernel_rfl) (by kernel_rfl) (by rintro _ _ ⟨_, _, _, _, rfl, rfl⟩; exact ⟨by kernel_rfl, by kernel_rfl, by kernel_rfl⟩)) (Nat.le_of_ble_eq_true (by kernel_rfl)) (by kernel_rfl) (by kernel_rfl) (by rintro _ _ ⟨_, ⟨_, _, _, _, rfl, rfl⟩, rfl⟩; exact Nat.le_of_ble_eq_true (by kernel_rfl))) (by kernel_rfl) (by kernel_rfl) (by kernel_rfl) ?_)
    rintro _ _ ⟨_, _, ⟨_, ⟨v_157, p1_158, h1_159, f160, rfl, rfl⟩, rfl⟩, rfl, rfl⟩
    refine R.go 7 (R.cond (v_157 = 0) (by kernel_rfl) (fun c161 => ?_) (fun c161 => ?_))
    · refine R.go 4 (R.ar (n_1 + 1) (by kernel_rfl) (by omega) (by omega) (by kernel_rfl) ?_)
      refine R.lit (s := 1) (n := 3) (cs := rows eI [(-1), 9, n_1 + 1]) (by kernel_rfl) (by kernel_rfl) ?_
      refine R.callX (CallX.inF 4 usC frC (CallX.box 4 26 [AI 0, .nil] (pickX_c_r5b c p1_158 h1_159 [(-1), 9, n_1 + 1] eo1 so1 no1 co1 eo2 so2 no2 co2 eo3 so3 no3 co3 26 2 1 [AI 0, .nil] 2 1 xs_2.length (rows eI xs_2) 26 n_1 hc (by simp)) (by kernel_rfl) (by kernel_rfl) (by kernel_rfl) (by kernel_rfl) (by rintro _ _ ⟨_, _, _, rfl, rfl⟩; exact ⟨by kernel_rfl, by kernel_rfl, by kernel_rfl⟩)) (Nat.le_of_ble_eq_true (by kernel_rfl)) (by kernel_rfl) (by kernel_rfl) (by rintro _ _ ⟨_, ⟨_, _, _, rfl, rfl⟩, rfl⟩; exact Nat.le_of_ble_eq_true (by kernel_rfl))) (by kernel_rfl) (by kernel_rfl) (by kernel_rfl) ?_
      rintro _ _ ⟨_, _, ⟨_, ⟨v_162, p1_163, h1_164, rfl, rfl⟩, rfl⟩, rfl, rfl⟩
      refine R.go 9 (R.frz 6 (by kernel_rfl) ?_)
      refine R.kfix 4 (us := usC) (by kernel_rfl) (hfC.frz 6 (LI xs_2) (Nat.le_of_ble_eq_true (by kernel_rfl))) ?_
      exact R.retX (res := .agg [AI v_162, LI xs_2]) (hp' := [.box 70 [LB c, AI (p1_163 : Int), .int .u64 h1_164], .list eo1 so1 no1 co1, .list eo2 so2 no2 co2, .list eo3 so3 no3 co3, .dead, .box 26 [AI v_162, LI xs_2], .dead, .box 26 [AI v_162, LI xs_2]]) (by kernel_rfl) (by kernel_rfl) (by kernel_rfl) (by kernel_rfl) ⟨[0, 1, 2, 3], by kernel_rfl, by decide, v_162, xs_2, p1_163, h1_164, by first | omega | (simp; done) | (simp only [List.length_append, List.length_cons, List.length_nil, List.length_set]; omega), by kernel_rfl, by kernel_rfl⟩
    · refine R.go 5 (R.cond (v_157 = 1) (by kernel_rfl) (fun c165 => ?_) (fun c165 => ?_))
      · refine R.go 3 (R.call false (l01Own_c xs_2 (by first | omega | (simp <;> omega))) (by kernel_rfl) (ownA_closed eI_closed 2 1 xs_2) (by kernel_rfl) ?_)
        refine R.go 1 (R.app eI xs_2 [0] 8 2 1 8 (by kernel_rfl) eI_one (by decide) (by first | omega | (simp <;> omega)) (by kernel_rfl) ?_)
        refine R.kfix 4 (us := usC) (by kernel_rfl) (hfC.kill 8 (Nat.le_of_ble_eq_true (by kernel_rfl))) ?_
        refine R.go 9 (R.frz 8 (by kernel_rfl) ?_)
        refine R.kfix 4 (us := usC) (by kernel_rfl) (hfC.frz 8 (LI (xs_2 ++ [0])) (Nat.le_of_ble_eq_true (by kernel_rfl))) ?_
        exact R.retX (res := .agg [AI n_1, LI (xs_2 ++ [0])]) (hp' := [.box 70 [LB c, AI (p1_158 : Int), .int .u64 h1_159], .list eo1 so1 no1 co1, .list eo2 so2 no2 co2, .list eo3 so3 no3 co3, .dead, .box 26 [AI n_1, LI (xs_2 ++ [0])], rowA eI 2 1 xs_2, .box 26 [AI n_1, LI (xs_2 ++ [0])], .dead, rowA eI 2 1 [0]]) (by kernel_rfl) (by kernel_rfl) (by kernel_rfl) (by kernel_rfl) ⟨[0, 1, 2, 3], by kernel_rfl, by decide, n_1, xs_2 ++ [0], p1_158, h1_159, by first | omega | (simp; done) | (simp only [List.length_append, List.length_cons, List.length_nil, List.length_set]; omega), by kernel_rfl, by kernel_rfl⟩
      · refine R.go 5 (R.cond (v_157 = 2) (by kernel_rfl) (fun c166 => ?_) (fun c166 => ?_))
        · refine R.go 6 (R.cond (n_1 > 0) (by kernel_rfl) (fun c167 => ?_) (fun c167 => ?_))
          · refine R.meetF (α := Int × Nat × Int × Int × Nat × Int) (fun | (v_168, p1_169, h1_170, v_172, p1_173, h1_174) => ((n_1 < 1 → v_168 = 0) ∧ (1 ≤ n_1 → 0 ≤ v_168 ∧ v_168 < n_1)) ∧ (((((shl64 1 n_1) - 1) + 2) < 1 → v_172 = 0) ∧ (1 ≤ (((shl64 1 n_1) - 1) + 2) → 0 ≤ v_172 ∧ v_172 < (((shl64 1 n_1) - 1) + 2)))) (fun | (v_168, p1_169, h1_170, v_172, p1_173, h1_174) => (⟨(frm 54 [(0, .ptr 0 0), (1, AI size), (4, .ptr 5 0), (5, .ptr 7 0), (6, .ptr 0 0), (7, AI size), (8, .agg [AI n_1, .ref 6]), (9, .ptr 0 0), (10, AI v_7), (11, .bool (decide (v_7 = 0))), (15, .ptr 0 0), (16, AI v_157), (17, .bool (decide (v_157 = 0))), (18, .bool (decide (v_157 = 0))), (26, .bool (decide (v_157 = 1))), (27, .bool (decide (v_157 = 1))), (34, .bool (decide (v_157 = 2))), (35, .bool (decide (v_157 = 2))), (36, .ptr 7 0), (37, AI n_1), (38, .bool (decide (n_1 > 0))), (39, .ptr 7 1), (40, .ref 6), (41, .ptr 0 0), (42, .ptr 7 0), (43, AI n_1), (44, AI v_168), (45, .ptr 0 0), (46, .ptr 7 0), (47, AI n_1), (48, AI ((shl64 1 n_1) - 1)), (49, AI (((shl64 1 n_1) - 1) + 2)), (50, AI v_172), (51, AI (v_172 - 1)), (52, .ptr 6 (((v_168).toNat) * 1))]), [.box 70 [LB c, AI (p1_173 : Int), .int .u64 h1_174], .list eo1 so1 no1 co1, .list eo2 so2 no2 co2, .list eo3 so3 no3 co3, .frame usC frC, .box 26 [AI 0, .nil], rowA eI 2 1 (xs_2.set ((v_168).toNat) (v_172 - 1)), .box 26 [AI n_1, .ref 6]]⟩ : St)) (by kernel_rfl) ?_ ?_
            · refine R.any (by decide +kernel) (by kernel_rfl) ?_
              refine R.anyF 2 (by kernel_rfl) (np_meetF _ _) ?_
              refine R.anyF 6 (by kernel_rfl) (np_meetF _ _) ?_
              refine R.anyA 0 (.ptr 7 1) (by kernel_rfl) (np_meetF _ _) ?_
              refine R.anyA 3 (.ptr 7 0) (by kernel_rfl) (np_meetF _ _) ?_
              refine R.anyA 7 (.ptr 7 0) (by kernel_rfl) (np_meetF _ _) ?_
              refine R.any3 1 4 8 (by kernel_rfl) (by kernel_rfl) ?_ ?_ ?_
              · refine R.go 2 (R.any2 4 8 (by kernel_rfl) (by kernel_rfl) ?_ ?_)
                · refine R.go 2 (R.any2 5 8 (by kernel_rfl) (by kernel_rfl) ?_ ?_)
                  · refine R.callX (CallX.inF 4 usC frC (CallX.box 4 26 [AI 0, .nil] (nextX_c_r5b c p1_158 h1_159 n_1 eo1 so1 no1 co1 eo2 so2 no2 co2 eo3 so3 no3 co3 26 2 1 [AI 0, .nil] 2 1 xs_2.length (rows eI xs_2) 26 n_1 hc) (by kernel_rfl) (by kernel_rfl) (by kernel_rfl) (by kernel_rfl) (by rintro _ _ ⟨_, _, _, _, rfl, rfl⟩; exact ⟨by kernel_rfl, by kernel_rfl, by kernel_rfl⟩)) (Nat.le_of_ble_eq_true (by kernel_rfl)) (by kernel_rfl) (by kernel_rfl) (by rintro _ _ ⟨_, ⟨_, _, _, _, rfl, rfl⟩, rfl⟩; exact Nat.le_of_ble_eq_true (by kernel_rfl))) (by kernel_rfl) (by kernel_rfl) (by kernel_rfl) ?_
                    rintro _ _ ⟨_, _, ⟨_, ⟨v_168, p1_169, h1_170, f171, rfl, rfl⟩, rfl⟩, rfl, rfl⟩
                    refine R.go 1 (R.any1 8 (by kernel_rfl) (by kernel_rfl) ?_)
                    refine R.go 2 (R.any1 9 (by kernel_rfl) (by kernel_rfl) ?_)
                    refine R.call true (l01Full_c n_1 (by omega) (by omega)) (by kernel_rfl) rfl (by kernel_rfl) ?_
                    refine R.go 1 (R.any1 10 (by kernel_rfl) (by kernel_rfl) ?_)
                    refine R.ar (((shl64 1 n_1) - 1) + 2) (by kernel_rfl) (by omega) (by omega) (by kernel_rfl) ?_
                    refine R.go 1 (R.any1 11 (by kernel_rfl) (by kernel_rfl) ?_)
                    refine R.callX (CallX.inF 4 usC frC (CallX.box 4 26 [AI 0, .nil] (nextX_c_r5b c p1_169 h1_170 (((shl64 1 n_1) - 1) + 2) eo1 so1 no1 co1 eo2 so2 no2 co2 eo3 so3 no3 co3 26 2 1 [AI 0, .nil] 2 1 xs_2.length (rows eI xs_2) 26 n_1 hc) (by kernel_rfl) (by kernel_rfl) (by kernel_rfl) (by kernel_rfl) (by rintro _ _ ⟨_, _, _, _, rfl, rfl⟩; exact ⟨by kernel_rfl, by kernel_rfl, by kernel_rfl⟩)) (Nat.le_of_ble_eq_true (by kernel_rfl)) (by kernel_rfl) (by kernel_rfl) (by rintro _ _ ⟨_, ⟨_, _, _, _, rfl, rfl⟩, rfl⟩; exact Nat.le_of_ble_eq_true (by kernel_rfl))) (by kernel_rfl) (by kernel_rfl) (by kernel_rfl) ?_
                    rintro _ _ ⟨_, _, ⟨_, ⟨v_172, p1_173, h1_174, f175, rfl, rfl⟩, rfl⟩, rfl, rfl⟩
                    refine R.go 1 (R.any1 12 (by kernel_rfl) (by kernel_rfl) ?_)
                    refine R.ar (v_172 - 1) (by kernel_rfl) (by omega) (by omega) (by kernel_rfl) ?_
                    refine R.go 1 (R.any1 13 (by kernel_rfl) (by kernel_rfl) ?_)
                    refine R.idxO 6 1 xs_2.length ((v_168).toNat) v_168 (by kernel_rfl) (by omega) (by omega) (by kernel_rfl) ?_
                    refine R.go 1 (R.any1 14 (by kernel_rfl) (by kernel_rfl) ?_)
                    refine R.stI 6 2 xs_2 ((v_168).toNat) (v_172 - 1) (by kernel_rfl) (by omega) (by kernel_rfl) ?_
                    refine R.go 1 (R.any0 (by kernel_rfl) ?_)
                    exact R.metF (v_168, p1_169, h1_170, v_172, p1_173, h1_174) (by kernel_rfl) ⟨by first | assumption | omega, by first | assumption | omega⟩ (by kernel_rfl)
                  · refine R.go 2 (R.any1 5 (by kernel_rfl) (by kernel_rfl) ?_)
                    refine R.callX (CallX.inF 4 usC frC (CallX.box 4 26 [AI 0, .nil] (nextX_c_r5b c p1_158 h1_159 n_1 eo1 so1 no1 co1 eo2 so2 no2 co2 eo3 so3 no3 co3 26 2 1 [AI 0, .nil] 2 1 xs_2.length (rows eI xs_2) 26 n_1 hc) (by kernel_rfl) (by kernel_rfl) (by kernel_rfl) (by kernel_rfl) (by rintro _ _ ⟨_, _, _, _, rfl, rfl⟩; exact ⟨by kernel_rfl, by kernel_rfl, by kernel_rfl⟩)) (Nat.le_of_ble_eq_true (by kernel_rfl)) (by kernel_rfl) (by kernel_rfl) (by rintro _ _ ⟨_, ⟨_, _, _, _, rfl, rfl⟩, rfl⟩; exact Nat.le_of_ble_eq_true (by kernel_rfl))) (by kernel_rfl) (by kernel_rfl) (by kernel_rfl) ?_
                    rintro _ _ ⟨_, _, ⟨_, ⟨v_176, p1_177, h1_178, f179, rfl, rfl⟩, rfl⟩, rfl, rfl⟩
                    refine R.go 1 (R.any1 9 (by kernel_rfl) (by kernel_rfl) ?_)
                    refine R.call true (l01Full_c n_1 (by omega) (by omega)) (by kernel_rfl) rfl (by kernel_rfl) ?_
                    refine R.go 1 (R.any1 10 (by kernel_rfl) (by kernel_rfl) ?_)
                    refine R.ar (((shl64 1 n_1) - 1) + 2) (by kernel_rfl) (by omega) (by omega) (by kernel_rfl) ?_
                    refine R.go 1 (R.any1 11 (by kernel_rfl) (by kernel_rfl) ?_)
                    refine R.callX (CallX.inF 4 usC frC (CallX.box 4 26 [AI 0, .nil] (nextX_c_r5b c p1_177 h1_178 (((shl64 1 n_1) - 1) + 2) eo1 so1 no1 co1 eo2 so2 no2 co2 eo3 so3 no3 co3 26 2 1 [AI 0, .nil] 2 1 xs_2.length (rows eI xs_2) 26 n_1 hc) (by kernel_rfl) (by kernel_rfl) (by kernel_rfl) (by kernel_rfl) (by rintro _ _ ⟨_, _, _, _, rfl, rfl⟩; exact ⟨by kernel_rfl, by kernel_rfl, by kernel_rfl⟩)) (Nat.le_of_ble_eq_true (by kernel_rfl)) (by kernel_rfl) (by kernel_rfl) (by rintro _ _ ⟨_, ⟨_, _, _, _, rfl, rfl⟩, rfl⟩; exact Nat.le_of_ble_eq_true (by kernel_rfl))) (by kernel_rfl) (by kernel_rfl) (by kernel_rfl) ?_
                    rintro _ _ ⟨_, _, ⟨_, ⟨v_180, p1_181, h1_182, f183, rfl, rfl⟩, rfl⟩, rfl, rfl⟩
                    refine R.go 1 (R.any1 12 (by kernel_rfl) (by kernel_rfl) ?_)
                    refine R.ar (v_180 - 1) (by kernel_rfl) (by omega) (by omega) (by kernel_rfl) ?_
                    refine R.go 1 (R.any1 13 (by kernel_rfl) (by kernel_rfl) ?_)
                    refine R.idxO 6 1 xs_2.length ((v_176).toNat) v_176 (by kernel_rfl) (by omega) (by omega) (by kernel_rfl) ?_
                    refine R.go 1 (R.any1 14 (by kernel_rfl) (by kernel_rfl) ?_)
                    refine R.stI 6 2 xs_2 ((v_176).toNat) (v_180 - 1) (by kernel_rfl) (by omega) (by kernel_rfl) ?_
                    refine R.go 1 (R.any0 (by kernel_rfl) ?_)
                    exact R.metF (v_176, p1_177, h1_178, v_180, p1_181, h1_182) (by kernel_rfl) ⟨by first | assumption | omega, by first | assumption | omega⟩ (by kernel_rfl)
                · refine R.go 2 (R.any1 4 (by kernel_rfl) (by kernel_rfl) ?_)
                  refine R.go 2 (R.any1 5 (by kernel_rfl) (by kernel_rfl) ?_)
                  refine R.callX (CallX.inF 4 usC frC (CallX.box 4 26 [AI 0, .nil] (nextX_c_r5b c p1_158 h1_159 n_1 eo1 so1 no1 co1 eo2 so2 no2 co2 eo3 so3 no3 co3 26 2 1 [AI 0, .nil] 2 1 xs_2.length (rows eI xs_2) 26 n_1 hc) (by kernel_rfl) (by kernel_rfl) (by kernel_rfl) (by kernel_rfl) (by rintro _ _ ⟨_, _, _, _, rfl, rfl⟩; exact ⟨by kernel_rfl, by kernel_rfl, by kernel_rfl⟩)) (Nat.le_of_ble_eq_true (by kernel_rfl)) (by kernel_rfl) (by kernel_rfl) (by rintro _ _ ⟨_, ⟨_, _, _, _, rfl, rfl⟩, rfl⟩; exact Nat.le_of_ble_eq_true (by kernel_rfl))) (by kernel_rfl) (by kernel_rfl) (by kernel_rfl) ?_
                  rintro _ _ ⟨_, _, ⟨_, ⟨v_184, p1_185, h1_186, f187, rfl, rfl⟩, rfl⟩, rfl, rfl⟩
                  refine R.go 1 (R.any1 9 (by kernel_rfl) (by kernel_rfl) ?_)
                  refine R.call true (l01Full_c n_1 (by omega) (by omega)) (by kernel_rfl) rfl (by kernel_rfl) ?_
                  refine R.go 1 (R.any1 10 (by kernel_rfl) (by kernel_rfl) ?_)
                  refine R.ar (((shl64 1 n_1) - 1) + 2) (by kernel_rfl) (by omega) (by omega) (by kernel_rfl) ?_
                  refine R.go 1 (R.any1 11 (by kernel_rfl) (by kernel_rfl) ?_)
                  refine R.callX (CallX.inF 4 usC frC (CallX.box 4 26 [AI 0, .nil] (nextX_c_r5b c p1_185 h1_186 (((shl64 1 n_1) - 1) + 2) eo1 so1 no1 co1 eo2 so2 no2 co2 eo3 so3 no3 co3 26 2 1 [AI 0, .nil] 2 1 xs_2.length (rows eI xs_2) 26 n_1 hc) (by kernel_rfl) (by kernel_rfl) (by kernel_rfl) (by kernel_rfl) (by rintro _ _ ⟨_, _, _, _, rfl, rfl⟩; exact ⟨by kernel_rfl, by kernel_rfl, by kernel_rfl⟩)) (Nat.le_of_ble_eq_true (by kernel_rfl)) (by kernel_rfl) (by kernel_rfl) (by rintro _ _ ⟨_, ⟨_, _, _, _, rfl, rfl⟩, rfl⟩; exact Nat.le_of_ble_eq_true (by kernel_rfl))) (by kernel_rfl) (by kernel_rfl) (by kernel_rfl) ?_
                  rintro _ _ ⟨_, _, ⟨_, ⟨v_188, p1_189, h1_190, f191, rfl, rfl⟩, rfl⟩, rfl, rfl⟩
                  refine R.go 1 (R.any1 12 (by kernel_rfl) (by kernel_rfl) ?_)
                  refine R.ar (v_188 - 1) (by kernel_rfl) (by omega) (by omega) (by kernel_rfl) ?_
                  refine R.go 1 (R.any1 13 (by kernel_rfl) (by kernel_rfl) ?_)
                  refine R.idxO 6 1 xs_2.length ((v_184).toNat) v_184 (by kernel_rfl) (by omega) (by omega) (by kernel_rfl) ?_
                  refine R.go 1 (R.any1 14 (by kernel_rfl) (by kernel_rfl) ?_)
                  refine R.stI 6 2 xs_2 ((v_184).toNat) (v_188 - 1) (by kernel_rfl) (by omega) (by kernel_rfl) ?_
                  refine R.go 1 (R.any0 (by kernel_rfl) ?_)
                  exact R.metF (v_184, p1_185, h1_186, v_188, p1_189, h1_190) (by kernel_rfl) ⟨by first | assumption | omega, by first | assumption | omega⟩ (by kernel_rfl)
              · refine R.go 2 (R.any3 1 5 8 (by kernel_rfl) (by kernel_rfl) ?_ ?_ ?_)
                · refine R.go 2 (R.any2 5 8 (by kernel_rfl) (by kernel_rfl) ?_ ?_)
                  · refine R.callX (CallX.inF 4 usC frC (CallX.box 4 26 [AI 0, .nil] (nextX_c_r5b c p1_158 h1_159 n_1 eo1 so1 no1 co1 eo2 so2 no2 co2 eo3 so3 no3 co3 26 2 1 [AI 0, .nil] 2 1 xs_2.length (rows eI xs_2) 26 n_1 hc) (by kernel_rfl) (by kernel_rfl) (by kernel_rfl) (by kernel_rfl) (by rintro _ _ ⟨_, _, _, _, rfl, rfl⟩; exact ⟨by kernel_rfl, by kernel_rfl, by kernel_rfl⟩)) (Nat.le_of_ble_eq_true (by kernel_rfl)) (by kernel_rfl) (by kernel_rfl) (by rintro _ _ ⟨_, ⟨_, _, _, _, rfl, rfl⟩, rfl⟩; exact Nat.le_of_ble_eq_true (by kernel_rfl))) (by kernel_rfl) (by kernel_rfl) (by kernel_rfl) ?_
                    rintro _ _ ⟨_, _, ⟨_, ⟨v_192, p1_193, h1_194, f195, rfl, rfl⟩, rfl⟩, rfl, rfl⟩
                    refine R.go 1 (R.any1 8 (by kernel_rfl) (by kernel_rfl) ?_)
                    refine R.go 2 (R.any1 9 (by kernel_rfl) (by kernel_rfl) ?_)
                    refine R.call true (l01Full_c n_1 (by omega) (by omega)) (by kernel_rfl) rfl (by kernel_rfl) ?_
                    refine R.go 1 (R.any1 10 (by kernel_rfl) (by kernel_rfl) ?_)
                    refine R.ar (((shl64 1 n_1) - 1) + 2) (by kernel_rfl) (by omega) (by omega) (by kernel_rfl) ?_
                    refine R.go 1 (R.any1 11 (by kernel_rfl) (by kernel_rfl) ?_)
                    refine R.callX (CallX.inF 4 usC frC (CallX.box 4 26 [AI 0, .nil] (nextX_c_r5b c p1_193 h1_194 (((shl64 1 n_1) - 1) + 2) eo1 so1 no1 co1 eo2 so2 no2 co2 eo3 so3 no3 co3 26 2 1 [AI 0, .nil] 2 1 xs_2.length (rows eI xs_2) 26 n_1 hc) (by kernel_rfl) (by kernel_rfl) (by kernel_rfl) (by kernel_rfl) (by rintro _ _ ⟨_, _, _, _, rfl, rfl⟩; exact ⟨by kernel_rfl, by kernel_rfl, by kernel_rfl⟩)) (Nat.le_of_ble_eq_true (by kernel_rfl)) (by kernel_rfl) (by kernel_rfl) (by rintro _ _ ⟨_, ⟨_, _, _, _, rfl, rfl⟩, rfl⟩; exact Nat.le_of_ble_eq_true (by kernel_rfl))) (by kernel_rfl) (by kernel_rfl) (by kernel_rfl) ?_
                    rintro _ _ ⟨_, _, ⟨_, ⟨v_196, p1_197, h1_198, f199, rfl, rfl⟩, rfl⟩, rfl, rfl⟩
                    refine R.go 1 (R.any1 12 (by kernel_rfl) (by kernel_rfl) ?_)
                    refine R.ar (v_196 - 1) (by kernel_rfl) (by omega) (by omega) (by kernel_rfl) ?_
                    refine R.go 1 (R.any1 13 (by kernel_rfl) (by kernel_rfl) ?_)
                    refine R.idxO 6 1 xs_2.length ((v_192).toNat) v_192 (by kernel_rfl) (by omega) (by omega) (by kernel_rfl) ?_
                    refine R.go 1 (R.any1 14 (by kernel_rfl) (by kernel_rfl) ?_)
                    refine R.stI 6 2 xs_2 ((v_192).toNat) (v_196 - 1) (by kernel_rfl) (by omega) (by kernel_rfl) ?_
                    refine R.go 1 (R.any0 (by kernel_rfl) ?_)
                    exact R.metF (v_192, p1_193, h1_194, v_196, p1_197, h1_198) (by kernel_rfl) ⟨by first | assumption | omega, by first | assumption | omega⟩ (by kernel_rfl)
                  · refine R.go 2 (R.any1 5 (by kernel_rfl) (by kernel_rfl) ?_)
                    refine R.callX (CallX.inF 4 usC frC (CallX.box 4 26 [AI 0, .nil] (nextX_c_r5b c p1_158 h1_159 n_1 eo1 so1 no1 co1 eo2 so2 no2 co2 eo3 so3 no3 co3 26 2 1 [AI 0, .nil] 2 1 xs_2.length (rows eI xs_2) 26 n_1 hc) (by kernel_rfl) (by kernel_rfl) (by kernel_rfl) (by kernel_rfl) (by rintro _ _ ⟨_, _, _, _, rfl, rfl⟩; exact ⟨by kernel_rfl, by kernel_rfl, by kernel_rfl⟩)) (Nat.le_of_ble_eq_true (by kernel_rfl)) (by kernel_rfl) (by kernel_rfl) (by rintro _ _ ⟨_, ⟨_, _, _, _, rfl, rfl⟩, rfl⟩; exact Nat.le_of_ble_eq_true (by kernel_rfl))) (by kernel_rfl) (by kernel_rfl) (by kernel_rfl) ?_
                    rintro _ _ ⟨_, _, ⟨_, ⟨v_200, p1_201, h1_202, f203, rfl, rfl⟩, rfl⟩, rfl, rfl⟩
                    refine R.go 1 (R.any1 9 (by kernel_rfl) (by kernel_rfl) ?_)
                    refine R.call true (l01Full_c n_1 (by omega) (by omega)) (by kernel_rfl) rfl (by kernel_rfl) ?_
                    refine R.go 1 (R.any1 10 (by kernel_rfl) (by kernel_rfl) ?_)
                    refine R.ar (((shl64 1 n_1) - 1) + 2) (by kernel_rfl) (by omega) (by omega) (by kernel_rfl) ?_
                    refine R.go 1 (R.any1 11 (by kernel_rfl) (by kernel_rfl) ?_)
                    refine R.callX (CallX.inF 4 usC frC (CallX.box 4 26 [AI 0, .nil] (nextX_c_r5b c p1_201 h1_202 (((shl64 1 n_1) - 1) + 2) eo1 so1 no1 co1 eo2 so2 no2 co2 eo3 so3 no3 co3 26 2 1 [AI 0, .nil] 2 1 xs_2.length (rows eI xs_2) 26 n_1 hc) (by kernel_rfl) (by kernel_rfl) (by kernel_rfl) (by kernel_rfl) (by rintro _ _ ⟨_, _, _, _, rfl, rfl⟩; exact ⟨by kernel_rfl, by kernel_rfl, by kernel_rfl⟩)) (Nat.le_of_ble_eq_true (by kernel_rfl)) (by kernel_rfl) (by kernel_rfl) (by rintro _ _ ⟨_, ⟨_, _, _, _, rfl, rfl⟩, rfl⟩; exact Nat.le_of_ble_eq_true (by kernel_rfl))) (by kernel_rfl) (by kernel_rfl) (by kernel_rfl) ?_
                    rintro _ _ ⟨_, _, ⟨_, ⟨v_204, p1_205, h1_206, f207, rfl, rfl⟩, rfl⟩, rfl, rfl⟩
                    refine R.go 1 (R.any1 12 (by kernel_rfl) (by kernel_rfl) ?_)
                    refine R.ar (v_204 - 1) (by kernel_rfl) (by omega) (by omega) (by kernel_rfl) ?_
                    refine R.go 1 (R.any1 13 (by kernel_rfl) (by kernel_rfl) ?_)
                    refine R.idxO 6 1 xs_2.length ((v_200).toNat) v_200 (by kernel_rfl) (by omega) (by omega) (by kernel_rfl) ?_
                    refine R.go 1 (R.any1 14 (by kernel_rfl) (by kernel_rfl) ?_)
                    refine R.stI 6 2 xs_2 ((v_200).toNat) (v_204 - 1) (by kernel_rfl) (by omega) (by kernel_rfl) ?_
                    refine R.go 1 (R.any0 (by kernel_rfl) ?_)
                    exact R.metF (v_200, p1_201, h1_202, v_204, p1_205, h1_206) (by kernel_rfl) ⟨by first | assumption | omega, by first | assumption | omega⟩ (by kernel_rfl)
                · refine R.callX (CallX.inF 4 usC frC (CallX.box 4 26 [AI 0, .nil] (nextX_c_r5b c p1_158 h1_159 n_1 eo1 so1 no1 co1 eo2 so2 no2 co2 eo3 so3 no3 co3 26 2 1 [AI 0, .nil] 2 1 xs_2.length (rows eI xs_2) 26 n_1 hc) (by kernel_rfl) (by kernel_rfl) (by kernel_rfl) (by kernel_rfl) (by rintro _ _ ⟨_, _, _, _, rfl, rfl⟩; exact ⟨by kernel_rfl, by kernel_rfl, by kernel_rfl⟩)) (Nat.le_of_ble_eq_true (by kernel_rfl)) (by kernel_rfl) (by kernel_rfl) (by rintro _ _ ⟨_, ⟨_, _, _, _, rfl, rfl⟩, rfl⟩; exact Nat.le_of_ble_eq_true (by kernel_rfl))) (by kernel_rfl) (by kernel_rfl) (by kernel_rfl) ?_
                  rintro _ _ ⟨_, _, ⟨_, ⟨v_208, p1_209, h1_210, f211, rfl, rfl⟩, rfl⟩, rfl, rfl⟩
                  refine R.go 1 (R.any2 1 8 (by kernel_rfl) (by kernel_rfl) ?_ ?_)
                  · refine R.go 2 (R.any1 8 (by kernel_rfl) (by kernel_rfl) ?_)
                    refine R.go 2 (R.any1 9 (by kernel_rfl) (by kernel_rfl) ?_)
                    refine R.call true (l01Full_c n_1 (by omega) (by omega)) (by kernel_rfl) rfl (by kernel_rfl) ?_
                    refine R.go 1 (R.any1 10 (by kernel_rfl) (by kernel_rfl) ?_)
                    refine R.ar (((shl64 1 n_1) - 1) + 2) (by kernel_rfl) (by omega) (by omega) (by kernel_rfl) ?_
                    refine R.go 1 (R.any1 11 (by kernel_rfl) (by kernel_rfl) ?_)
                    refine R.callX (CallX.inF 4 usC frC (CallX.box 4 26 [AI 0, .nil] (nextX_c_r5b c p1_209 h1_210 (((shl64 1 n_1) - 1) + 2) eo1 so1 no1 co1 eo2 so2 no2 co2 eo3 so3 no3 co3 26 2 1 [AI 0, .nil] 2 1 xs_2.length (rows eI xs_2) 26 n_1 hc) (by kernel_rfl) (by kernel_rfl) (by kernel_rfl) (by kernel_rfl) (by rintro _ _ ⟨_, _, _, _, rfl, rfl⟩; exact ⟨by kernel_rfl, by kernel_rfl, by kernel_rfl⟩)) (Nat.le_of_ble_eq_true (by kernel_rfl)) (by kernel_rfl) (by kernel_rfl) (by rintro _ _ ⟨_, ⟨_, _, _, _, rfl, rfl⟩, rfl⟩; exact Nat.le_of_ble_eq_true (by kernel_rfl))) (by kernel_rfl) (by kernel_rfl) (by kernel_rfl) ?_
                    rintro _ _ ⟨_, _, ⟨_, ⟨v_212, p1_213, h1_214, f215, rfl, rfl⟩, rfl⟩, rfl, rfl⟩
                    refine R.go 1 (R.any1 12 (by kernel_rfl) (by kernel_rfl) ?_)
                    refine R.ar (v_212 - 1) (by kernel_rfl) (by omega) (by omega) (by kernel_rfl) ?_
                    refine R.go 1 (R.any1 13 (by kernel_rfl) (by kernel_rfl) ?_)
                    refine R.idxO 6 1 xs_2.length ((v_208).toNat) v_208 (by kernel_rfl) (by omega) (by omega) (by kernel_rfl) ?_
                    refine R.go 1 (R.any1 14 (by kernel_rfl) (by kernel_rfl) ?_)
                    refine R.stI 6 2 xs_2 ((v_208).toNat) (v_212 - 1) (by kernel_rfl) (by omega) (by kernel_rfl) ?_
                    refine R.go 1 (R.any0 (by kernel_rfl) ?_)
                    exact R.metF (v_208, p1_209, h1_210, v_212, p1_213, h1_214) (by kernel_rfl) ⟨by first | assumption | omega, by first | assumption | omega⟩ (by kernel_rfl)
                  · refine R.go 2 (R.any2 1 9 (by kernel_rfl) (by kernel_rfl) ?_ ?_)
                    · refine R.go 2 (R.any1 9 (by kernel_rfl) (by kernel_rfl) ?_)
                      refine R.call true (l01Full_c n_1 (by omega) (by omega)) (by kernel_rfl) rfl (by kernel_rfl) ?_
                      refine R.go 1 (R.any1 10 (by kernel_rfl) (by kernel_rfl) ?_)
                      refine R.ar (((shl64 1 n_1) - 1) + 2) (by kernel_rfl) (by omega) (by omega) (by kernel_rfl) ?_
                      refine R.go 1 (R.any1 11 (by kernel_rfl) (by kernel_rfl) ?_)
                      refine R.callX (CallX.inF 4 usC frC (CallX.box 4 26 [AI 0, .nil] (nextX_c_r5b c p1_209 h1_210 (((shl64 1 n_1) - 1) + 2) eo1 so1 no1 co1 eo2 so2 no2 co2 eo3 so3 no3 co3 26 2 1 [AI 0, .nil] 2 1 xs_2.length (rows eI xs_2) 26 n_1 hc) (by kernel_rfl) (by kernel_rfl) (by kernel_rfl) (by kernel_rfl) (by rintro _ _ ⟨_, _, _, _, rfl, rfl⟩; exact ⟨by kernel_rfl, by kernel_rfl, by kernel_rfl⟩)) (Nat.le_of_ble_eq_true (by kernel_rfl)) (by kernel_rfl) (by kernel_rfl) (by rintro _ _ ⟨_, ⟨_, _, _, _, rfl, rfl⟩, rfl⟩; exact Nat.le_of_ble_eq_true (by kernel_rfl))) (by kernel_rfl) (by kernel_rfl) (by kernel_rfl) ?_
                      rintro _ _ ⟨_, _, ⟨_, ⟨v_216, p1_217, h1_218, f219, rfl, rfl⟩, rfl⟩, rfl, rfl⟩
                      refine R.go 1 (R.any1 12 (by kernel_rfl) (by kernel_rfl) ?_)
                      refine R.ar (v_216 - 1) (by kernel_rfl) (by omega) (by omega) (by kernel_rfl) ?_
                      refine R.go 1 (R.any1 13 (by kernel_rfl) (by kernel_rfl) ?_)
                      refine R.idxO 6 1 xs_2.length ((v_208).toNat) v_208 (by kernel_rfl) (by omega) (by omega) (by kernel_rfl) ?_
                      refine R.go 1 (R.any1 14 (by kernel_rfl) (by kernel_rfl) ?_)
                      refine R.stI 6 2 xs_2 ((v_208).toNat) (v_216 - 1) (by kernel_rfl) (by omega) (by kernel_rfl) ?_
                      refine R.go 1 (R.any0 (by kernel_rfl) ?_)
                      exact R.metF (v_208, p1_209, h1_210, v_216, p1_217, h1_218) (by kernel_rfl) ⟨by first | assumption | omega, by first | assumption | omega⟩ (by kernel_rfl)
                    · refine R.call true (l01Full_c n_1 (by omega) (by omega)) (by kernel_rfl) rfl (by kernel_rfl) ?_
                      refine R.go 1 (R.any2 1 10 (by kernel_rfl) (by kernel_rfl) ?_ ?_)
                      · refine R.go 2 (R.any1 10 (by kernel_rfl) (by kernel_rfl) ?_)
                        refine R.ar (((shl64 1 n_1) - 1) + 2) (by kernel_rfl) (by omega) (by omega) (by kernel_rfl) ?_
                        refine R.go 1 (R.any1 11 (by kernel_rfl) (by kernel_rfl) ?_)
                        refine R.callX (CallX.inF 4 usC frC (CallX.box 4 26 [AI 0, .nil] (nextX_c_r5b c p1_209 h1_210 (((shl64 1 n_1) - 1) + 2) eo1 so1 no1 co1 eo2 so2 no2 co2 eo3 so3 no3 co3 26 2 1 [AI 0, .nil] 2 1 xs_2.length (rows eI xs_2) 26 n_1 hc) (by kernel_rfl) (by kernel_rfl) (by kernel_rfl) (by kernel_rfl) (by rintro _ _ ⟨_, _, _, _, rfl, rfl⟩; exact ⟨by kernel_rfl, by kernel_rfl, by kernel_rfl⟩)) (Nat.le_of_ble_eq_true (by kernel_rfl)) (by kernel_rfl) (by kernel_rfl) (by rintro _ _ ⟨_, ⟨_, _, _, _, rfl, rfl⟩, rfl⟩; exact Nat.le_of_ble_eq_true (by kernel_rfl))) (by kernel_rfl) (by kernel_rfl) (by kernel_rfl) ?_
                        rintro _ _ ⟨_, _, ⟨_, ⟨v_220, p1_221, h1_222, f223, rfl, rfl⟩, rfl⟩, rfl, rfl⟩
                        refine R.go 1 (R.any1 12 (by kernel_rfl) (by kernel_rfl) ?_)
                        refine R.ar (v_220 - 1) (by kernel_rfl) (by omega) (by omega) (by kernel_rfl) ?_
                        refine R.go 1 (R.any1 13 (by kernel_rfl) (by kernel_rfl) ?_)
                        refine R.idxO 6 1 xs_2.length ((v_208).toNat) v_208 (by kernel_rfl) (by omega) (by omega) (by kernel_rfl) ?_
                        refine R.go 1 (R.any1 14 (by kernel_rfl) (by kernel_rfl) ?_)
                        refine R.stI 6 2 xs_2 ((v_208).toNat) (v_220 - 1) (by kernel_rfl) (by omega) (by kernel_rfl) ?_
                        refine R.go 1 (R.any0 (by kernel_rfl) ?_)
                        exact R.metF (v_208, p1_209, h1_210, v_220, p1_221, h1_222) (by kernel_rfl) ⟨by first | assumption | omega, by first | assumption | omega⟩ (by kernel_rfl)
                      · refine R.ar (((shl64 1 n_1) - 1) + 2) (by kernel_rfl) (by omega) (by omega) (by kernel_rfl) ?_
                        refine R.go 1 (R.any2 1 11 (by kernel_rfl) (by kernel_rfl) ?_ ?_)
                        · refine R.go 2 (R.any1 11 (by kernel_rfl) (by kernel_rfl) ?_)
                          refine R.callX (CallX.inF 4 usC frC (CallX.box 4 26 [AI 0, .nil] (nextX_c_r5b c p1_209 h1_210 (((shl64 1 n_1) - 1) + 2) eo1 so1 no1 co1 eo2 so2 no2 co2 eo3 so3 no3 co3 26 2 1 [AI 0, .nil] 2 1 xs_2.length (rows eI xs_2) 26 n_1 hc) (by kernel_rfl) (by kernel_rfl) (by kernel_rfl) (by kernel_rfl) (by rintro _ _ ⟨_, _, _, _, rfl, rfl⟩; exact ⟨by kernel_rfl, by kernel_rfl, by kernel_rfl⟩)) (Nat.le_of_ble_eq_true (by kernel_rfl)) (by kernel_rfl) (by kernel_rfl) (by rintro _ _ ⟨_, ⟨_, _, _, _, rfl, rfl⟩, rfl⟩; exact Nat.le_of_ble_eq_true (by kernel_rfl))) (by kernel_rfl) (by kernel_rfl) (by kernel_rfl) ?_
                          rintro _ _ ⟨_, _, ⟨_, ⟨v_224, p1_225, h1_226, f227, rfl, rfl⟩, rfl⟩, rfl, rfl⟩
                          refine R.go 1 (R.any1 12 (by kernel_rfl) (by kernel_rfl) ?_)
                          refine R.ar (v_224 - 1) (by kernel_rfl) (by omega) (by omega) (by kernel_rfl) ?_
                          refine R.go 1 (R.any1 13 (by kernel_rfl) (by kernel_rfl) ?_)
                          refine R.idxO 6 1 xs_2.length ((v_208).toNat) v_208 (by kernel_rfl) (by omega) (by omega) (by kernel_rfl) ?_
                          refine R.go 1 (R.any1 14 (by kernel_rfl) (by kernel_rfl) ?_)
                          refine R.stI 6 2 xs_2 ((v_208).toNat) (v_224 - 1) (by kernel_rfl) (by omega) (by kernel_rfl) ?_
                          refine R.go 1 (R.any0 (by kernel_rfl) ?_)
                          exact R.metF (v_208, p1_209, h1_210, v_224, p1_225, h1_226) (by kernel_rfl) ⟨by first | assumption | omega, by first | assumption | omega⟩ (by kernel_rfl)
                        · refine R.callX (CallX.inF 4 usC frC (CallX.box 4 26 [AI 0, .nil] (nextX_c_r5b c p1_209 h1_210 (((shl64 1 n_1) - 1) + 2) eo1 so1 no1 co1 eo2 so2 no2 co2 eo3 so3 no3 co3 26 2 1 [AI 0, .nil] 2 1 xs_2.length (rows eI xs_2) 26 n_1 hc) (by kernel_rfl) (by kernel_rfl) (by kernel_rfl) (by kernel_rfl) (by rintro _ _ ⟨_, _, _, _, rfl, rfl⟩; exact ⟨by kernel_rfl, by kernel_rfl, by kernel_rfl⟩)) (Nat.le_of_ble_eq_true (by kernel_rfl)) (by kernel_rfl) (by kernel_rfl) (by rintro _ _ ⟨_, ⟨_, _, _, _, rfl, rfl⟩, rfl⟩; exact Nat.le_of_ble_eq_true (by kernel_rfl))) (by kernel_rfl) (by kernel_rfl) (by kernel_rfl) ?_
                          rintro _ _ ⟨_, _, ⟨_, ⟨v_228, p1_229, h1_230, f231, rfl, rfl⟩, rfl⟩, rfl, rfl⟩
                          refine R.go 1 (R.any2 1 12 (by kernel_rfl) (by kernel_rfl) ?_ ?_)
                          · refine R.go 2 (R.any1 12 (by kernel_rfl) (by kernel_rfl) ?_)
                            refine R.ar (v_228 - 1) (by kernel_rfl) (by omega) (by omega) (by kernel_rfl) ?_
                            refine R.go 1 (R.any1 13 (by kernel_rfl) (by kernel_rfl) ?_)
                            refine R.idxO 6 1 xs_2.length ((v_208).toNat) v_208 (by kernel_rfl) (by omega) (by omega) (by kernel_rfl) ?_
                            refine R.go 1 (R.any1 14 (by kernel_rfl) (by kernel_rfl) ?_)
                            refine R.stI 6 2 xs_2 ((v_208).toNat) (v_228 - 1) (by kernel_rfl) (by omega) (by kernel_rfl) ?_
                            refine R.go 1 (R.any0 (by kernel_rfl) ?_)
                            exact R.metF (v_208, p1_209, h1_210, v_228, p1_229, h1_230) (by kernel_rfl) ⟨by first | assumption | omega, by first | assumption | omega⟩ (by kernel_rfl)
                          · refine R.ar (v_228 - 1) (by kernel_rfl) (by omega) (by omega) (by kernel_rfl) ?_
                            refine R.go 1 (R.any1 1 (by kernel_rfl) (by kernel_rfl) ?_)
                            refine R.go 2 (R.any1 13 (by kernel_rfl) (by kernel_rfl) ?_)
                            refine R.idxO 6 1 xs_2.length ((v_208).toNat) v_208 (by kernel_rfl) (by omega) (by omega) (by kernel_rfl) ?_
                            refine R.go 1 (R.any1 14 (by kernel_rfl) (by kernel_rfl) ?_)
                            refine R.stI 6 2 xs_2 ((v_208).toNat) (v_228 - 1) (by kernel_rfl) (by omega) (by kernel_rfl) ?_
                            refine R.go 1 (R.any0 (by kernel_rfl) ?_)
                            exact R.metF (v_208, p1_209, h1_210, v_228, p1_229, h1_230) (by kernel_rfl) ⟨by first | assumption | omega, by first | assumption | omega⟩ (by kernel_rfl)
                · refine R.go 2 (R.any2 1 5 (by kernel_rfl) (by kernel_rfl) ?_ ?_)
                  · refine R.go 2 (R.any1 5 (by kernel_rfl) (by kernel_rfl) ?_)
                    refine R.callX (CallX.inF 4 usC frC (CallX.box 4 26 [AI 0, .nil] (nextX_c_r5b c p1_158 h1_159 n_1 eo1 so1 no1 co1 eo2 so2 no2 co2 eo3 so3 no3 co3 26 2 1 [AI 0, .nil] 2 1 xs_2.length (rows eI xs_2) 26 n_1 hc) (by kernel_rfl) (by kernel_rfl) (by kernel_rfl) (by kernel_rfl) (by rintro _ _ ⟨_, _, _, _, rfl, rfl⟩; exact ⟨by kernel_rfl, by kernel_rfl, by kernel_rfl⟩)) (Nat.le_of_ble_eq_true (by kernel_rfl)) (by kernel_rfl) (by kernel_rfl) (by rintro _ _ ⟨_, ⟨_, _, _, _, rfl, rfl⟩, rfl⟩; exact Nat.le_of_ble_eq_true (by kernel_rfl))) (by kernel_rfl) (by kernel_rfl) (by kernel_rfl) ?_
                    rintro _ _ ⟨_, _, ⟨_, ⟨v_232, p1_233, h1_234, f235, rfl, rfl⟩, rfl⟩, rfl, rfl⟩
                    refine R.go 1 (R.any1 9 (by kernel_rfl) (by kernel_rfl) ?_)
                    refine R.call true (l01Full_c n_1 (by omega) (by omega)) (by kernel_rfl) rfl (by kernel_rfl) ?_
                    refine R.go 1 (R.any1 10 (by kernel_rfl) (by kernel_rfl) ?_)
                    refine R.ar (((shl64 1 n_1) - 1) + 2) (by kernel_rfl) (by omega) (by omega) (by kernel_rfl) ?_
                    refine R.go 1 (R.any1 11 (by kernel_rfl) (by kernel_rfl) ?_)
                    refine R.callX (CallX.inF 4 usC frC (CallX.box 4 26 [AI 0, .nil] (nextX_c_r5b c p1_233 h1_234 (((shl64 1 n_1) - 1) + 2) eo1 so1 no1 co1 eo2 so2 no2 co2 eo3 so3 no3 co3 26 2 1 [AI 0, .nil] 2 1 xs_2.length (rows eI xs_2) 26 n_1 hc) (by kernel_rfl) (by kernel_rfl) (by kernel_rfl) (by kernel_rfl) (by rintro _ _ ⟨_, _, _, _, rfl, rfl⟩; exact ⟨by kernel_rfl, by kernel_rfl, by kernel_rfl⟩)) (Nat.le_of_ble_eq_true (by kernel_rfl)) (by kernel_rfl) (by kernel_rfl) (by rintro _ _ ⟨_, ⟨_, _, _, _, rfl, rfl⟩, rfl⟩; exact Nat.le_of_ble_eq_true (by kernel_rfl))) (by kernel_rfl) (by kernel_rfl) (by kernel_rfl) ?_
                    rintro _ _ ⟨_, _, ⟨_, ⟨v_236, p1_237, h1_238, f239, rfl, rfl⟩, rfl⟩, rfl, rfl⟩
                    refine R.go 1 (R.any1 12 (by kernel_rfl) (by kernel_rfl) ?_)
                    refine R.ar (v_236 - 1) (by kernel_rfl) (by omega) (by omega) (by kernel_rfl) ?_
                    refine R.go 1 (R.any1 13 (by kernel_rfl) (by kernel_rfl) ?_)
                    refine R.idxO 6 1 xs_2.length ((v_232).toNat) v_232 (by kernel_rfl) (by omega) (by omega) (by kernel_rfl) ?_
                    refine R.go 1 (R.any1 14 (by kernel_rfl) (by kernel_rfl) ?_)
                    refine R.stI 6 2 xs_2 ((v_232).toNat) (v_236 - 1) (by kernel_rfl) (by omega) (by kernel_rfl) ?_
                    refine R.go 1 (R.any0 (by kernel_rfl) ?_)
                    exact R.metF (v_232, p1_233, h1_234, v_236, p1_237, h1_238) (by kernel_rfl) ⟨by first | assumption | omega, by first | assumption | omega⟩ (by kernel_rfl)
                  · refine R.callX (CallX.inF 4 usC frC (CallX.box 4 26 [AI 0, .nil] (nextX_c_r5b c p1_158 h1_159 n_1 eo1 so1 no1 co1 eo2 so2 no2 co2 eo3 so3 no3 co3 26 2 1 [AI 0, .nil] 2 1 xs_2.length (rows eI xs_2) 26 n_1 hc) (by kernel_rfl) (by kernel_rfl) (by kernel_rfl) (by kernel_rfl) (by rintro _ _ ⟨_, _, _, _, rfl, rfl⟩; exact ⟨by kernel_rfl, by kernel_rfl, by kernel_rfl⟩)) (Nat.le_of_ble_eq_true (by kernel_rfl)) (by kernel_rfl) (by kernel_rfl) (by rintro _ _ ⟨_, ⟨_, _, _, _, rfl, rfl⟩, rfl⟩; exact Nat.le_of_ble_eq_true (by kernel_rfl))) (by kernel_rfl) (by kernel_rfl) (by kernel_rfl) ?_
                    rintro _ _ ⟨_, _, ⟨_, ⟨v_240, p1_241, h1_242, f243, rfl, rfl⟩, rfl⟩, rfl, rfl⟩
                    refine R.go 1 (R.any2 1 9 (by kernel_rfl) (by kernel_rfl) ?_ ?_)
                    · refine R.go 2 (R.any1 9 (by kernel_rfl) (by kernel_rfl) ?_)
                      refine R.call true (l01Full_c n_1 (by omega) (by omega)) (by kernel_rfl) rfl (by kernel_rfl) ?_
                      refine R.go 1 (R.any1 10 (by kernel_rfl) (by kernel_rfl) ?_)
                      refine R.ar (((shl64 1 n_1) - 1) + 2) (by kernel_rfl) (by omega) (by omega) (by kernel_rfl) ?_
                      refine R.go 1 (R.any1 11 (by kernel_rfl) (by kernel_rfl) ?_)
                      refine R.callX (CallX.inF 4 usC frC (CallX.box 4 26 [AI 0, .nil] (nextX_c_r5b c p1_241 h1_242 (((shl64 1 n_1) - 1) + 2) eo1 so1 no1 co1 eo2 so2 no2 co2 eo3 so3 no3 co3 26 2 1 [AI 0, .nil] 2 1 xs_2.length (rows eI xs_2) 26 n_1 hc) (by kernel_rfl) (by kernel_rfl) (by kernel_rfl) (by kernel_rfl) (by rintro _ _ ⟨_, _, _, _, rfl, rfl⟩; exact ⟨by kernel_rfl, by kernel_rfl, by kernel_rfl⟩)) (Nat.le_of_ble_eq_true (by kernel_rfl)) (by kernel_rfl) (by kernel_rfl) (by rintro _ _ ⟨_, ⟨_, _, _, _, rfl, rfl⟩, rfl⟩; exact Nat.le_of_ble_eq_true (by kernel_rfl))) (by kernel_rfl) (by kernel_rfl) (by kernel_rfl) ?_
                      rintro _ _ ⟨_, _, ⟨_, ⟨v_244, p1_245, h1_246, f247, rfl, rfl⟩, rfl⟩, rfl, rfl⟩
                      refine R.go 1 (R.any1 12 (by kernel_rfl) (by kernel_rfl) ?_)
                      refine R.ar (v_244 - 1) (by kernel_rfl) (by omega) (by omega) (by kernel_rfl) ?_
                      refine R.go 1 (R.any1 13 (by kernel_rfl) (by kernel_rfl) ?_)
                      refine R.idxO 6 1 xs_2.length ((v_240).toNat) v_240 (by kernel_rfl) (by omega) (by omega) (by kernel_rfl) ?_
                      refine R.go 1 (R.any1 14 (by kernel_rfl) (by kernel_rfl) ?_)
                      refine R.stI 6 2 xs_2 ((v_240).toNat) (v_244 - 1) (by kernel_rfl) (by omega) (by kernel_rfl) ?_
                      refine R.go 1 (R.any0 (by kernel_rfl) ?_)
                      exact R.metF (v_240, p1_241, h1_242, v_244, p1_245, h1_246) (by kernel_rfl) ⟨by first | assumption | omega, by first | assumption | omega⟩ (by kernel_rfl)
                    · refine R.call true (l01Full_c n_1 (by omega) (by omega)) (by kernel_rfl) rfl (by kernel_rfl) ?_
                      refine R.go 1 (R.any2 1 10 (by kernel_rfl) (by kernel_rfl) ?_ ?_)
                      · refine R.go 2 (R.any1 10 (by kernel_rfl) (by kernel_rfl) ?_)
                        refine R.ar (((shl64 1 n_1) - 1) + 2) (by kernel_rfl) (by omega) (by omega) (by kernel_rfl) ?_
                        refine R.go 1 (R.any1 11 (by kernel_rfl) (by kernel_rfl) ?_)
                        refine R.callX (CallX.inF 4 usC frC (CallX.box 4 26 [AI 0, .nil] (nextX_c_r5b c p1_241 h1_242 (((shl64 1 n_1) - 1) + 2) eo1 so1 no1 co1 eo2 so2 no2 co2 eo3 so3 no3 co3 26 2 1 [AI 0, .nil] 2 1 xs_2.length (rows eI xs_2) 26 n_1 hc) (by kernel_rfl) (by kernel_rfl) (by kernel_rfl) (by kernel_rfl) (by rintro _ _ ⟨_, _, _, _, rfl, rfl⟩; exact ⟨by kernel_rfl, by kernel_rfl, by kernel_rfl⟩)) (Nat.le_of_ble_eq_true (by kernel_rfl)) (by kernel_rfl) (by kernel_rfl) (by rintro _ _ ⟨_, ⟨_, _, _, _, rfl, rfl⟩, rfl⟩; exact Nat.le_of_ble_eq_true (by kernel_rfl))) (by kernel_rfl) (by kernel_rfl) (by kernel_rfl) ?_
                        rintro _ _ ⟨_, _, ⟨_, ⟨v_248, p1_249, h1_250, f251, rfl, rfl⟩, rfl⟩, rfl, rfl⟩
                        refine R.go 1 (R.any1 12 (by kernel_rfl) (by kernel_rfl) ?_)
                        refine R.ar (v_248 - 1) (by kernel_rfl) (by omega) (by omega) (by kernel_rfl) ?_
                        refine R.go 1 (R.any1 13 (by kernel_rfl) (by kernel_rfl) ?_)
                        refine R.idxO 6 1 xs_2.length ((v_240).toNat) v_240 (by kernel_rfl) (by omega) (by omega) (by kernel_rfl) ?_
                        refine R.go 1 (R.any1 14 (by kernel_rfl) (by kernel_rfl) ?_)
                        refine R.stI 6 2 xs_2 ((v_240).toNat) (v_248 - 1) (by kernel_rfl) (by omega) (by kernel_rfl) ?_
                        refine R.go 1 (R.any0 (by kernel_rfl) ?_)
                        exact R.metF (v_240, p1_241, h1_242, v_248, p1_249, h1_250) (by kernel_rfl) ⟨by first | assumption | omega, by first | assumption | omega⟩ (by kernel_rfl)
                      · refine R.ar (((shl64 1 n_1) - 1) + 2) (by kernel_rfl) (by omega) (by omega) (by kernel_rfl) ?_
                        refine R.go 1 (R.any2 1 11 (by kernel_rfl) (by kernel_rfl) ?_ ?_)
                        · refine R.go 2 (R.any1 11 (by kernel_rfl) (by kernel_rfl) ?_)
                          refine R.callX (CallX.inF 4 usC frC (CallX.box 4 26 [AI 0, .nil] (nextX_c_r5b c p1_241 h1_242 (((shl64 1 n_1) - 1) + 2) eo1 so1 no1 co1 eo2 so2 no2 co2 eo3 so3 no3 co3 26 2 1 [AI 0, .nil] 2 1 xs_2.length (rows eI xs_2) 26 n_1 hc) (by kernel_rfl) (by kernel_rfl) (by kernel_rfl) (by kernel_rfl) (by rintro _ _ ⟨_, _, _, _, rfl, rfl⟩; exact ⟨by kernel_rfl, by kernel_rfl, by kernel_rfl⟩)) (Nat.le_of_ble_eq_true (by kernel_rfl)) (by kernel_rfl) (by kernel_rfl) (by rintro _ _ ⟨_, ⟨_, _, _, _, rfl, rfl⟩, rfl⟩; exact Nat.le_of_ble_eq_true (by kernel_rfl))) (by kernel_rfl) (by kernel_rfl) (by kernel_rfl) ?_
                          rintro _ _ ⟨_, _, ⟨_, ⟨v_252, p1_253, h1_254, f255, rfl, rfl⟩, rfl⟩, rfl, rfl⟩
                          refine R.go 1 (R.any1 12 (by kernel_rfl) (by kernel_rfl) ?_)
                          refine R.ar (v_252 - 1) (by kernel_rfl) (by omega) (by omega) (by kernel_rfl) ?_
                          refine R.go 1 (R.any1 13 (by kernel_rfl) (by kernel_rfl) ?_)
                          refine R.idxO 6 1 xs_2.length ((v_240).toNat) v_240 (by kernel_rfl) (by omega) (by omega) (by kernel_rfl) ?_
                          refine R.go 1 (R.any1 14 (by kernel_rfl) (by kernel_rfl) ?_)
                          refine R.stI 6 2 xs_2 ((v_240).toNat) (v_252 - 1) (by kernel_rfl) (by omega) (by kernel_rfl) ?_
                          refine R.go 1 (R.any0 (by kernel_rfl) ?_)
                          exact R.metF (v_240, p1_241, h1_242, v_252, p1_253, h1_254) (by kernel_rfl) ⟨by first | assumption | omega, by first | assumption | omega⟩ (by kernel_rfl)
                        · refine R.callX (CallX.inF 4 usC frC (CallX.box 4 26 [AI 0, .nil] (nextX_c_r5b c p1_241 h1_242 (((shl64 1 n_1) - 1) + 2) eo1 so1 no1 co1 eo2 so2 no2 co2 eo3 so3 no3 co3 26 2 1 [AI 0, .nil] 2 1 xs_2.length (rows eI xs_2) 26 n_1 hc) (by kernel_rfl) (by kernel_rfl) (by kernel_rfl) (by kernel_rfl) (by rintro _ _ ⟨_, _, _, _, rfl, rfl⟩; exact ⟨by kernel_rfl, by kernel_rfl, by kernel_rfl⟩)) (Nat.le_of_ble_eq_true (by kernel_rfl)) (by kernel_rfl) (by kernel_rfl) (by rintro _ _ ⟨_, ⟨_, _, _, _, rfl, rfl⟩, rfl⟩; exact Nat.le_of_ble_eq_true (by kernel_rfl))) (by kernel_rfl) (by kernel_rfl) (by kernel_rfl) ?_
                          rintro _ _ ⟨_, _, ⟨_, ⟨v_256, p1_257, h1_258, f259, rfl, rfl⟩, rfl⟩, rfl, rfl⟩
                          refine R.go 1 (R.any2 1 12 (by kernel_rfl) (by kernel_rfl) ?_ ?_)
                          · refine R.go 2 (R.any1 12 (by kernel_rfl) (by kernel_rfl) ?_)
                            refine R.ar (v_256 - 1) (by kernel_rfl) (by omega) (by omega) (by kernel_rfl) ?_
                            refine R.go 1 (R.any1 13 (by kernel_rfl) (by kernel_rfl) ?_)
                            refine R.idxO 6 1 xs_2.length ((v_240).toNat) v_240 (by kernel_rfl) (by omega) (by omega) (by kernel_rfl) ?_
                            refine R.go 1 (R.any1 14 (by kernel_rfl) (by kernel_rfl) ?_)
                            refine R.stI 6 2 xs_2 ((v_240).toNat) (v_256 - 1) (by kernel_rfl) (by omega) (by kernel_rfl) ?_
                            refine R.go 1 (R.any0 (by kernel_rfl) ?_)
                            exact R.metF (v_240, p1_241, h1_242, v_256, p1_257, h1_258) (by kernel_rfl) ⟨by first | assumption | omega, by first | assumption | omega⟩ (by kernel_rfl)
                          · refine R.ar (v_256 - 1) (by kernel_rfl) (by omega) (by omega) (by kernel_rfl) ?_
                            refine R.go 1 (R.any1 1 (by kernel_rfl) (by kernel_rfl) ?_)
                            refine R.go 2 (R.any1 13 (by kernel_rfl) (by kernel_rfl) ?_)
                            refine R.idxO 6 1 xs_2.length ((v_240).toNat) v_240 (by kernel_rfl) (by omega) (by omega) (by kernel_rfl) ?_
                            refine R.go 1 (R.any1 14 (by kernel_rfl) (by kernel_rfl) ?_)
                            refine R.stI 6 2 xs_2 ((v_240).toNat) (v_256 - 1) (by kernel_rfl) (by omega) (by kernel_rfl) ?_
                            refine R.go 1 (R.any0 (by kernel_rfl) ?_)
                            exact R.metF (v_240, p1_241, h1_242, v_256, p1_257, h1_258) (by kernel_rfl) ⟨by first | assumption | omega, by first | assumption | omega⟩ (by kernel_rfl)
              · refine R.go 2 (R.any2 1 4 (by kernel_rfl) (by kernel_rfl) ?_ ?_)
                · refine R.go 2 (R.any1 4 (by kernel_rfl) (by kernel_rfl) ?_)
                  refine R.go 2 (R.any1 5 (by kernel_rfl) (by kernel_rfl) ?_)
                  refine R.callX (CallX.inF 4 usC frC (CallX.box 4 26 [AI 0, .nil] (nextX_c_r5b c p1_158 h1_159 n_1 eo1 so1 no1 co1 eo2 so2 no2 co2 eo3 so3 no3 co3 26 2 1 [AI 0, .nil] 2 1 xs_2.length (rows eI xs_2) 26 n_1 hc) (by kernel_rfl) (by kernel_rfl) (by kernel_rfl) (by kernel_rfl) (by rintro _ _ ⟨_, _, _, _, rfl, rfl⟩; exact ⟨by kernel_rfl, by kernel_rfl, by kernel_rfl⟩)) (Nat.le_of_ble_eq_true (by kernel_rfl)) (by kernel_rfl) (by kernel_rfl) (by rintro _ _ ⟨_, ⟨_, _, _, _, rfl, rfl⟩, rfl⟩; exact Nat.le_of_ble_eq_true (by kernel_rfl))) (by kernel_rfl) (by kernel_rfl) (by kernel_rfl) ?_
                  rintro _ _ ⟨_, _, ⟨_, ⟨v_260, p1_261, h1_262, f263, rfl, rfl⟩, rfl⟩, rfl, rfl⟩
                  refine R.go 1 (R.any1 9 (by kernel_rfl) (by kernel_rfl) ?_)
                  refine R.call true (l01Full_c n_1 (by omega) (by omega)) (by kernel_rfl) rfl (by kernel_rfl) ?_
                  refine R.go 1 (R.any1 10 (by kernel_rfl) (by kernel_rfl) ?_)
                  refine R.ar (((shl64 1 n_1) - 1) + 2) (by kernel_rfl) (by omega) (by omega) (by kernel_rfl) ?_
                  refine R.go 1 (R.any1 11 (by kernel_rfl) (by kernel_rfl) ?_)
                  refine R.callX (CallX.inF 4 usC frC (CallX.box 4 26 [AI 0, .nil] (nextX_c_r5b c p1_261 h1_262 (((shl64 1 n_1) - 1) + 2) eo1 so1 no1 co1 eo2 so2 no2 co2 eo3 so3 no3 co3 26 2 1 [AI 0, .nil] 2 1 xs_2.length (rows eI xs_2) 26 n_1 hc) (by kernel_rfl) (by kernel_rfl) (by kernel_rfl) (by kernel_rfl) (by rintro _ _ ⟨_, _, _, _, rfl, rfl⟩; exact ⟨by kernel_rfl, by kernel_rfl, by kernel_rfl⟩)) (Nat.le_of_ble_eq_true (by kernel_rfl)) (by kernel_rfl) (by kernel_rfl) (by rintro _ _ ⟨_, ⟨_, _, _, _, rfl, rfl⟩, rfl⟩; exact Nat.le_of_ble_eq_true (by kernel_rfl))) (by kernel_rfl) (by kernel_rfl) (by kernel_rfl) ?_
                  rintro _ _ ⟨_, _, ⟨_, ⟨v_264, p1_265, h1_266, f267, rfl, rfl⟩, rfl⟩, rfl, rfl⟩
                  refine R.go 1 (R.any1 12 (by kernel_rfl) (by kernel_rfl) ?_)
                  refine R.ar (v_264 - 1) (by kernel_rfl) (by omega) (by omega) (by kernel_rfl) ?_
                  refine R.go 1 (R.any1 13 (by kernel_rfl) (by kernel_rfl) ?_)
                  refine R.idxO 6 1 xs_2.length ((v_260).toNat) v_260 (by kernel_rfl) (by omega) (by omega) (by kernel_rfl) ?_
                  refine R.go 1 (R.any1 14 (by kernel_rfl) (by kernel_rfl) ?_)
                  refine R.stI 6 2 xs_2 ((v_260).toNat) (v_264 - 1) (by kernel_rfl) (by omega) (by kernel_rfl) ?_
                  refine R.go 1 (R.any0 (by kernel_rfl) ?_)
                  exact R.metF (v_260, p1_261, h1_262, v_264, p1_265, h1_266) (by kernel_rfl) ⟨by first | assumption | omega, by first | assumption | omega⟩ (by kernel_rfl)
                · refine R.go 2 (R.any2 1 5 (by kernel_rfl) (by kernel_rfl) ?_ ?_)
                  · refine R.go 2 (R.any1 5 (by kernel_rfl) (by kernel_rfl) ?_)
                    refine R.callX (CallX.inF 4 usC frC (CallX.box 4 26 [AI 0, .nil] (nextX_c_r5b c p1_158 h1_159 n_1 eo1 so1 no1 co1 eo2 so2 no2 co2 eo3 so3 no3 co3 26 2 1 [AI 0, .nil] 2 1 xs_2.length (rows eI xs_2) 26 n_1 hc) (by kernel_rfl) (by kernel_rfl) (by kernel_rfl) (by kernel_rfl) (by rintro _ _ ⟨_, _, _, _, rfl, rfl⟩; exact ⟨by kernel_rfl, by kernel_rfl, by kernel_rfl⟩)) (Nat.le_of_ble_eq_true (by kernel_rfl)) (by kernel_rfl) (by kernel_rfl) (by rintro _ _ ⟨_, ⟨_, _, _, _, rfl, rfl⟩, rfl⟩; exact Nat.le_of_ble_eq_true (by kernel_rfl))) (by kernel_rfl) (by kernel_rfl) (by kernel_rfl) ?_
                    rintro _ _ ⟨_, _, ⟨_, ⟨v_268, p1_269, h1_270, f271, rfl, rfl⟩, rfl⟩, rfl, rfl⟩
                    refine R.go 1 (R.any1 9 (by kernel_rfl) (by kernel_rfl) ?_)
                    refine R.call true (l01Full_c n_1 (by omega) (by omega)) (by kernel_rfl) rfl (by kernel_rfl) ?_
                    refine R.go 1 (R.any1 10 (by kernel_rfl) (by kernel_rfl) ?_)
                    refine R.ar (((shl64 1 n_1) - 1) + 2) (by kernel_rfl) (by omega) (by omega) (by kernel_rfl) ?_
                    refine R.go 1 (R.any1 11 (by kernel_rfl) (by kernel_rfl) ?_)
                    refine R.callX (CallX.inF 4 usC frC (CallX.box 4 26 [AI 0, .nil] (nextX_c_r5b c p1_269 h1_270 (((shl64 1 n_1) - 1) + 2) eo1 so1 no1 co1 eo2 so2 no2 co2 eo3 so3 no3 co3 26 2 1 [AI 0, .nil] 2 1 xs_2.length (rows eI xs_2) 26 n_1 hc) (by kernel_rfl) (by kernel_rfl) (by kernel_rfl) (by kernel_rfl) (by rintro _ _ ⟨_, _, _, _, rfl, rfl⟩; exact ⟨by kernel_rfl, by kernel_rfl, by kernel_rfl⟩)) (Nat.le_of_ble_eq_true (by kernel_rfl)) (by kernel_rfl) (by kernel_rfl) (by rintro _ _ ⟨_, ⟨_, _, _, _, rfl, rfl⟩, rfl⟩; exact Nat.le_of_ble_eq_true (by kernel_rfl))) (by kernel_rfl) (by kernel_rfl) (by kernel_rfl) ?_
                    rintro _ _ ⟨_, _, ⟨_, ⟨v_272, p1_273, h1_274, f275, rfl, rfl⟩, rfl⟩, rfl, rfl⟩
                    refine R.go 1 (R.any1 12 (by kernel_rfl) (by kernel_rfl) ?_)
                    refine R.ar (v_272 - 1) (by kernel_rfl) (by omega) (by omega) (by kernel_rfl) ?_
                    refine R.go 1 (R.any1 13 (by kernel_rfl) (by kernel_rfl) ?_)
                    refine R.idxO 6 1 xs_2.length ((v_268).toNat) v_268 (by kernel_rfl) (by omega) (by omega) (by kernel_rfl) ?_
                    refine R.go 1 (R.any1 14 (by kernel_rfl) (by kernel_rfl) ?_)
                    refine R.stI 6 2 xs_2 ((v_268).toNat) (v_272 - 1) (by kernel_rfl) (by omega) (by kernel_rfl) ?_
                    refine R.go 1 (R.any0 (by kernel_rfl) ?_)
                    exact R.metF (v_268, p1_269, h1_270, v_272, p1_273, h1_274) (by kernel_rfl) ⟨by first | assumption | omega, by first | assumption | omega⟩ (by kernel_rfl)
                  · refine R.callX (CallX.inF 4 usC frC (CallX.box 4 26 [AI 0, .nil] (nextX_c_r5b c p1_158 h1_159 n_1 eo1 so1 no1 co1 eo2 so2 no2 co2 eo3 so3 no3 co3 26 2 1 [AI 0, .nil] 2 1 xs_2.length (rows eI xs_2) 26 n_1 hc) (by kernel_rfl) (by kernel_rfl) (by kernel_rfl) (by kernel_rfl) (by rintro _ _ ⟨_, _, _, _, rfl, rfl⟩; exact ⟨by kernel_rfl, by kernel_rfl, by kernel_rfl⟩)) (Nat.le_of_ble_eq_true (by kernel_rfl)) (by kernel_rfl) (by kernel_rfl) (by rintro _ _ ⟨_, ⟨_, _, _, _, rfl, rfl⟩, rfl⟩; exact Nat.le_of_ble_eq_true (by kernel_rfl))) (by kernel_rfl) (by kernel_rfl) (by kernel_rfl) ?_
                    rintro _ _ ⟨_, _, ⟨_, ⟨v_276, p1_277, h1_278, f279, rfl, rfl⟩, rfl⟩, rfl, rfl⟩
                    refine R.go 1 (R.any2 1 9 (by kernel_rfl) (by kernel_rfl) ?_ ?_)
                    · refine R.go 2 (R.any1 9 (by kernel_rfl) (by kernel_rfl) ?_)
                      refine R.call true (l01Full_c n_1 (by omega) (by omega)) (by kernel_rfl) rfl (by kernel_rfl) ?_
                      refine R.go 1 (R.any1 10 (by kernel_rfl) (by kernel_rfl) ?_)
                      refine R.ar (((shl64 1 n_1) - 1) + 2) (by kernel_rfl) (by omega) (by omega) (by kernel_rfl) ?_
                      refine R.go 1 (R.any1 11 (by kernel_rfl) (by kernel_rfl) ?_)
                      refine R.callX (CallX.inF 4 usC frC (CallX.box 4 26 [AI 0, .nil] (nextX_c_r5b c p1_277 h1_278 (((shl64 1 n_1) - 1) + 2) eo1 so1 no1 co1 eo2 so2 no2 co2 eo3 so3 no3 co3 26 2 1 [AI 0, .nil] 2 1 xs_2.length (rows eI xs_2) 26 n_1 hc) (by kernel_rfl) (by kernel_rfl) (by kernel_rfl) (by kernel_rfl) (by rintro _ _ ⟨_, _, _, _, rfl, rfl⟩; exact ⟨by kernel_rfl, by kernel_rfl, by kernel_rfl⟩)) (Nat.le_of_ble_eq_true (by kernel_rfl)) (by kernel_rfl) (by kernel_rfl) (by rintro _ _ ⟨_, ⟨_, _, _, _, rfl, rfl⟩, rfl⟩; exact Nat.le_of_ble_eq_true (by kernel_rfl))) (by kernel_rfl) (by kernel_rfl) (by kernel_rfl) ?_
                      rintro _ _ ⟨_, _, ⟨_, ⟨v_280, p1_281, h1_282, f283, rfl, rfl⟩, rfl⟩, rfl, rfl⟩
                      refine R.go 1 (R.any1 12 (by kernel_rfl) (by kernel_rfl) ?_)
                      refine R.ar (v_280 - 1) (by kernel_rfl) (by omega) (by omega) (by kernel_rfl) ?_
                      refine R.go 1 (R.any1 13 (by kernel_rfl) (by kernel_rfl) ?_)
                      refine R.idxO 6 1 xs_2.length ((v_276).toNat) v_276 (by kernel_rfl) (by omega) (by omega) (by kernel_rfl) ?_
                      refine R.go 1 (R.any1 14 (by kernel_rfl) (by kernel_rfl) ?_)
                      refine R.stI 6 2 xs_2 ((v_276).toNat) (v_280 - 1) (by kernel_rfl) (by omega) (by kernel_rfl) ?_
                      refine R.go 1 (R.any0 (by kernel_rfl) ?_)
                      exact R.metF (v_276, p1_277, h1_278, v_280, p1_281, h1_282) (by kernel_rfl) ⟨by first | assumption | omega, by first | assumption | omega⟩ (by kernel_rfl)
                    · refine R.call true (l01Full_c n_1 (by omega) (by omega)) (by kernel_rfl) rfl (by kernel_rfl) ?_
                      refine R.go 1 (R.any2 1 10 (by kernel_rfl) (by kernel_rfl) ?_ ?_)
                      · refine R.go 2 (R.any1 10 (by kernel_rfl) (by kernel_rfl) ?_)
                        refine R.ar (((shl64 1 n_1) - 1) + 2) (by kernel_rfl) (by omega) (by omega) (by kernel_rfl) ?_
                        refine R.go 1 (R.any1 11 (by kernel_rfl) (by kernel_rfl) ?_)
                        refine R.callX (CallX.inF 4 usC frC (CallX.box 4 26 [AI 0, .nil] (nextX_c_r5b c p1_277 h1_278 (((shl64 1 n_1) - 1) + 2) eo1 so1 no1 co1 eo2 so2 no2 co2 eo3 so3 no3 co3 26 2 1 [AI 0, .nil] 2 1 xs_2.length (rows eI xs_2) 26 n_1 hc) (by kernel_rfl) (by kernel_rfl) (by kernel_rfl) (by kernel_rfl) (by rintro _ _ ⟨_, _, _, _, rfl, rfl⟩; exact ⟨by kernel_rfl, by kernel_rfl, by kernel_rfl⟩)) (Nat.le_of_ble_eq_true (by kernel_rfl)) (by kernel_rfl) (by kernel_rfl) (by rintro _ _ ⟨_, ⟨_, _, _, _, rfl, rfl⟩, rfl⟩; exact Nat.le_of_ble_eq_true (by kernel_rfl))) (by kernel_rfl) (by kernel_rfl) (by kernel_rfl) ?_
                        rintro _ _ ⟨_, _, ⟨_, ⟨v_284, p1_285, h1_286, f287, rfl, rfl⟩, rfl⟩, rfl, rfl⟩
                        refine R.go 1 (R.any1 12 (by kernel_rfl) (by kernel_rfl) ?_)
                        refine R.ar (v_284 - 1) (by kernel_rfl) (by omega) (by omega) (by kernel_rfl) ?_
                        refine R.go 1 (R.any1 13 (by kernel_rfl) (by kernel_rfl) ?_)
                        refine R.idxO 6 1 xs_2.length ((v_276).toNat) v_276 (by kernel_rfl) (by omega) (by omega) (by kernel_rfl) ?_
                        refine R.go 1 (R.any1 14 (by kernel_rfl) (by kernel_rfl) ?_)
                        refine R.stI 6 2 xs_2 ((v_276).toNat) (v_284 - 1) (by kernel_rfl) (by omega) (by kernel_rfl) ?_
                        refine R.go 1 (R.any0 (by kernel_rfl) ?_)
                        exact R.metF (v_276, p1_277, h1_278, v_284, p1_285, h1_286) (by kernel_rfl) ⟨by first | assumption | omega, by first | assumption | omega⟩ (by kernel_rfl)
                      · refine R.ar (((shl64 1 n_1) - 1) + 2) (by kernel_rfl) (by omega) (by omega) (by kernel_rfl) ?_
                        refine R.go 1 (R.any2 1 11 (by kernel_rfl) (by kernel_rfl) ?_ ?_)
                        · refine R.go 2 (R.any1 11 (by kernel_rfl) (by kernel_rfl) ?_)
                          refine R.callX (CallX.inF 4 usC frC (CallX.box 4 26 [AI 0, .nil] (nextX_c_r5b c p1_277 h1_278 (((shl64 1 n_1) - 1) + 2) eo1 so1 no1 co1 eo2 so2 no2 co2 eo3 so3 no3 co3 26 2 1 [AI 0, .nil] 2 1 xs_2.length (rows eI xs_2) 26 n_1 hc) (by kernel_rfl) (by kernel_rfl) (by kernel_rfl) (by kernel_rfl) (by rintro _ _ ⟨_, _, _, _, rfl, rfl⟩; exact ⟨by kernel_rfl, by kernel_rfl, by kernel_rfl⟩)) (Nat.le_of_ble_eq_true (by kernel_rfl)) (by kernel_rfl) (by kernel_rfl) (by rintro _ _ ⟨_, ⟨_, _, _, _, rfl, rfl⟩, rfl⟩; exact Nat.le_of_ble_eq_true (by kernel_rfl))) (by kernel_rfl) (by kernel_rfl) (by kernel_rfl) ?_
                          rintro _ _ ⟨_, _, ⟨_, ⟨v_288, p1_289, h1_290, f291, rfl, rfl⟩, rfl⟩, rfl, rfl⟩
                          refine R.go 1 (R.any1 12 (by kernel_rfl) (by kernel_rfl) ?_)
                          refine R.ar (v_288 - 1) (by kernel_rfl) (by omega) (by omega) (by kernel_rfl) ?_
                          refine R.go 1 (R.any1 13 (by kernel_rfl) (by kernel_rfl) ?_)
                          refine R.idxO 6 1 xs_2.length ((v_276).toNat) v_276 (by kernel_rfl) (by omega) (by omega) (by kernel_rfl) ?_
                          refine R.go 1 (R.any1 14 (by kernel_rfl) (by kernel_rfl) ?_)
                          refine R.stI 6 2 xs_2 ((v_276).toNat) (v_288 - 1) (by kernel_rfl) (by omega) (by kernel_rfl) ?_
                          refine R.go 1 (R.any0 (by kernel_rfl) ?_)
                          exact R.metF (v_276, p1_277, h1_278, v_288, p1_289, h1_290) (by kernel_rfl) ⟨by first | assumption | omega, by first | assumption | omega⟩ (by kernel_rfl)
                        · refine R.callX (CallX.inF 4 usC frC (CallX.box 4 26 [AI 0, .nil] (nextX_c_r5b c p1_277 h1_278 (((shl64 1 n_1) - 1) + 2) eo1 so1 no1 co1 eo2 so2 no2 co2 eo3 so3 no3 co3 26 2 1 [AI 0, .nil] 2 1 xs_2.length (rows eI xs_2) 26 n_1 hc) (by kernel_rfl) (by kernel_rfl) (by kernel_rfl) (by kernel_rfl) (by rintro _ _ ⟨_, _, _, _, rfl, rfl⟩; exact ⟨by kernel_rfl, by kernel_rfl, by kernel_rfl⟩)) (Nat.le_of_ble_eq_true (by kernel_rfl)) (by kernel_rfl) (by kernel_rfl) (by rintro _ _ ⟨_, ⟨_, _, _, _, rfl, rfl⟩, rfl⟩; exact Nat.le_of_ble_eq_true (by kernel_rfl))) (by kernel_rfl) (by kernel_rfl) (by kernel_rfl) ?_
                          rintro _ _ ⟨_, _, ⟨_, ⟨v_292, p1_293, h1_294, f295, rfl, rfl⟩, rfl⟩, rfl, rfl⟩
                          refine R.go 1 (R.any2 1 12 (by kernel_rfl) (by kernel_rfl) ?_ ?_)
                          · refine R.go 2 (R.any1 12 (by kernel_rfl) (by kernel_rfl) ?_)
                            refine R.ar (v_292 - 1) (by kernel_rfl) (by omega) (by omega) (by kernel_rfl) ?_
                            refine R.go 1 (R.any1 13 (by kernel_rfl) (by kernel_rfl) ?_)
                            refine R.idxO 6 1 xs_2.length ((v_276).toNat) v_276 (by kernel_rfl) (by omega) (by omega) (by kernel_rfl) ?_
                            refine R.go 1 (R.any1 14 (by kernel_rfl) (by kernel_rfl) ?_)
                            refine R.stI 6 2 xs_2 ((v_276).toNat) (v_292 - 1) (by kernel_rfl) (by omega) (by kernel_rfl) ?_
                            refine R.go 1 (R.any0 (by kernel_rfl) ?_)
                            exact R.metF (v_276, p1_277, h1_278, v_292, p1_293, h1_294) (by kernel_rfl) ⟨by first | assumption | omega, by first | assumption | omega⟩ (by kernel_rfl)
                          · refine R.ar (v_292 - 1) (by kernel_rfl) (by omega) (by omega) (by kernel_rfl) ?_
                            refine R.go 1 (R.any1 1 (by kernel_rfl) (by kernel_rfl) ?_)
                            refine R.go 2 (R.any1 13 (by kernel_rfl) (by kernel_rfl) ?_)
                            refine R.idxO 6 1 xs_2.length ((v_276).toNat) v_276 (by kernel_rfl) (by omega) (by omega) (by kernel_rfl) ?_
                            refine R.go 1 (R.any1 14 (by kernel_rfl) (by kernel_rfl) ?_)
                            refine R.stI 6 2 xs_2 ((v_276).toNat) (v_292 - 1) (by kernel_rfl) (by omega) (by kernel_rfl) ?_
                            refine R.go 1 (R.any0 (by kernel_rfl) ?_)
                            exact R.metF (v_276, p1_277, h1_278, v_292, p1_293, h1_294) (by kernel_rfl) ⟨by first | assumption | omega, by first | assumption | omega⟩ (by kernel_rfl)
            · rintro ⟨v_168, p1_169, h1_170, v_172, p1_173, h1_174⟩ ⟨f171, f175⟩
              refine R.go 6 (R.frz 6 (by kernel_rfl) ?_)
              refine R.kfix 4 (us := usC) (by kernel_rfl) (hfC.frz 6 (LI (xs_2.set ((v_168).toNat) (v_172 - 1))) (Nat.le_of_ble_eq_true (by kernel_rfl))) ?_
              exact R.retX (res := .agg [AI n_1, LI (xs_2.set ((v_168).toNat) (v_172 - 1))]) (hp' := [.box 70 [LB c, AI (p1_173 : Int), .int .u64 h1_174], .list eo1 so1 no1 co1, .list eo2 so2 no2 co2, .list eo3 so3 no3 co3, .dead, .box 26 [AI n_1, LI (xs_2.set ((v_168).toNat) (v_172 - 1))], .dead, .box 26 [AI n_1, LI (xs_2.set ((v_168).toNat) (v_172 - 1))]]) (by kernel_rfl) (by kernel_rfl) (by kernel_rfl) (by kernel_rfl) ⟨[0, 1, 2, 3], by kernel_rfl, by decide, n_1, xs_2.set ((v_168).toNat) (v_172 - 1), p1_173, h1_174, by first | omega | (simp; done) | (simp only [List.length_append, List.length_cons, List.length_nil, List.length_set]; omega), by kernel_rfl, by kernel_rfl⟩
          · refine R.go 7 (R.frz 6 (by kernel_rfl) ?_)
            refine R.kfix 4 (us := usC) (by kernel_rfl) (hfC.frz 6 (LI xs_2) (Nat.le_of_ble_eq_true (by kernel_rfl))) ?_
            exact R.retX (res := .agg [AI n_1, LI xs_2]) (hp' := [.box 70 [LB c, AI (p1_158 : Int), .int .u64 h1_159], .list eo1 so1 no1 co1, .list eo2 so2 no2 co2, .list eo3 so3 no3 co3, .dead, .box 26 [AI n_1, LI xs_2], .dead, .box 26 [AI n_1, LI xs_2]]) (by kernel_rfl) (by kernel_rfl) (by kernel_rfl) (by kernel_rfl) ⟨[0, 1, 2, 3], by kernel_rfl, by decide, n_1, xs_2, p1_158, h1_159, by first | omega | (simp; done) | (simp only [List.length_append, List.length_cons, List.length_nil, List.length_set]; omega), by kernel_rfl, by kernel_rfl⟩
        · refine R.go 7 (R.frz 6 (by kernel_rfl) ?_)
          refine R.kfix 4 (us := usC) (by kernel_rfl) (hfC.frz 6 (LI xs_2) (Nat.le_of_ble_eq_true (by kernel_rfl))) ?_
          exact R.retX (res := .agg [AI n_1, LI xs_2]) (hp' := [.box 70 [LB c, AI (p1_158 : Int), .int .u64 h1_159], .list eo1 so1 no1 co1, .list eo2 so2 no2 co2, .list eo3 so3 no3 co3, .dead, .box 26 [AI n_1, LI xs_2], .dead, .box 26 [AI n_1, LI xs_2]]) (by kernel_rfl) (by kernel_rfl) (by kernel_rfl) (by kernel_rfl) ⟨[0, 1, 2, 3], by kernel_rfl, by decide, n_1, xs_2, p1_158, h1_159, by first | omega | (simp; done) | (simp only [List.length_append, List.length_cons, List.length_nil, List.length_set]; omega), by kernel_rfl, by kernel_rfl⟩

theorem drTwo_c (c : List Int) (hc : BY c) : CallX Try.prog 18 [LB c] [] (fun (resX : AV) (objX : List AObj) => ∃ n : Int, ∃ xs : List Int, ∃ m : Int, ∃ ys : List Int, (xs.length ≤ 20) ∧ (ys.length ≤ 20) ∧ resX = .tup [.agg [AI n, LI xs], .agg [AI m, LI ys]] ∧ objX = []) := by
  have hcl : c.length ≤ 4096 := hc.1
  have hcb := hc.2
  refine CallX.dropE (CallX.ofF Try.func18 rfl (by kernel_rfl) ?_)
  intro usC frC hfC
  refine R.go 8 (R.enter (avs := [LB c]) Try.func28 rfl (by kernel_rfl) (by kernel_rfl) (by kernel_rfl) ?_)
  intro us1
  refine R.go 9 (R.cv .u64 (c.length : Int) (by kernel_rfl) (u64_id (by omega) (by omega)) (by kernel_rfl) ?_)
  refine R.go 11 (R.loop ((fun | (i, hh) => (⟨(frm 38 [(0, LB c), (3, .ptr 4 0), (4, AI (i : Int))]), [.frame usC frC, .box 26 [AI 0, .nil], .box 26 [AI 0, .nil], .frame us1 (frm 19 [(0, LB c), (2, .ptr 1 0), (3, .ptr 2 0), (6, LB c)]), .box 70 [LB c, AI 0, .int .u64 hh]]⟩ : St) : Nat × Int → St)) (fun | (i, hh) => i ≤ c.length) (fun | (i, hh) => c.length - i) (0, (IntKind.u64.wrap (7129 + (c.length : Int)))) [0, 3, 4] none (by kernel_rfl) (by kernel_rfl) (by kernel_rfl) (by omega) ?_)
  rintro ⟨i, hh⟩ h5_1 R2 N3
  refine R.go 8 ?_
  by_cases c6 : (i : Int) < (c.length : Int)
  · refine R.want (decide ((i : Int) < (c.length : Int))) true (by kernel_rfl) (dT c6) ?_
    refine R.go 1 (R.want (decide ((i : Int) < (c.length : Int))) true (by kernel_rfl) (dT c6) ?_)
    refine R.go 1 (R.pick (decide ((i : Int) < (c.length : Int))) true (by kernel_rfl) (dT c6) (by kernel_rfl) ?_)
    refine R.go 1 (R.cond ((i : Int) < 4096) (by kernel_rfl) (fun c7 => ?_) (fun c7 => ?_))
    · have hbi := hcb i (by omega)
      refine R.go 12 (R.idx eB c 0 i (i : Int) (by kernel_rfl) rfl eB_len (by omega) (by kernel_rfl) ?_)
      refine R.go 1 (R.cv .u64 (c.getD i 0) (by kernel_rfl) (u64_id (by omega) (by omega)) (by kernel_rfl) ?_)
      refine R.go 9 (R.ar ((i : Int) + 1) (by kernel_rfl) (by omega) (by omega) (by kernel_rfl) ?_)
      exact R.go 2 (R.stop R2 (by kernel_rfl) (N3 (i + 1, IntKind.u64.wrap ((IntKind.u64.wrap ((IntKind.u64.wrap (hh * 1099511628211)) + (c.getD i 0))) + 11)) [0, 3, 4] none _ (by kernel_rfl) (by kernel_rfl) (by omega) (by show (c.length - (i + 1)) < (c.length - i); omega)))
    · refine R.go 6 (R.back (.ptr 4 0) (frm 19 [(0, LB c), (2, .ptr 1 0), (3, .ptr 2 0), (6, LB c)]) (by kernel_rfl) (by kernel_rfl) (by kernel_rfl) ?_)
      refine R.go 5 (R.deadF 3 (by kernel_rfl) (by kernel_rfl) ?_)
      refine R.callX (CallX.inF 0 usC frC (CallX.inF 2 [] [] (CallX.perm [1, 2, 0] [2, 0, 1] (CallX.box 2 26 [AI 0, .nil] (CallX.box 1 26 [AI 0, .nil] (drawP_c_r2 c 0 hh 4 26 2 1 [AI 0, .nil] 26 2 1 [AI 0, .nil] hc (by omega)) (by kernel_rfl) (by kernel_rfl) (by kernel_rfl) (by kernel_rfl) (by rintro _ _ ⟨_, _, _, _, _, rfl, rfl⟩; exact ⟨by kernel_rfl, by kernel_rfl, by kernel_rfl⟩)) (by kernel_rfl) (by kernel_rfl) (by kernel_rfl) (by kernel_rfl) (by rintro _ _ ⟨_, ⟨_, _, _, _, _, rfl, rfl⟩, rfl⟩; exact ⟨by kernel_rfl, by kernel_rfl, by kernel_rfl⟩)) (by kernel_rfl) (by kernel_rfl) (by kernel_rfl) (by rintro _ _ ⟨_, ⟨_, ⟨_, _, _, _, _, rfl, rfl⟩, rfl⟩, rfl⟩; exact Nat.le_of_ble_eq_true (by kernel_rfl))) (Nat.le_of_ble_eq_true (by kernel_rfl)) (by kernel_rfl) (by kernel_rfl) (by rintro _ _ ⟨_, _, ⟨_, ⟨_, ⟨_, _, _, _, _, rfl, rfl⟩, rfl⟩, rfl⟩, rfl, rfl⟩; exact Nat.le_of_ble_eq_true (by kernel_rfl))) (Nat.le_of_ble_eq_true (by kernel_rfl)) (by kernel_rfl) (by kernel_rfl) (by rintro _ _ ⟨_, _, ⟨_, _, ⟨_, ⟨_, ⟨_, _, _, _, _, rfl, rfl⟩, rfl⟩, rfl⟩, rfl, rfl⟩, rfl, rfl⟩; exact Nat.le_of_ble_eq_true (by kernel_rfl))) (by kernel_rfl) (by kernel_rfl) (by kernel_rfl) ?_
      rintro _ _ ⟨_, _, ⟨_, _, ⟨_, _, ⟨_, ⟨_, ⟨n_8, xs_9, p1_10, h1_11, f12, rfl, rfl⟩, rfl⟩, rfl⟩, rfl, rfl⟩, rfl, rfl⟩, rfl, rfl⟩
      refine R.go 7 (R.callX (CallX.inF 0 usC frC (CallX.inF 2 [] [] (CallX.perm [1, 2, 0, 3] [2, 0, 1, 3] (CallX.box 3 26 [AI n_8, LI xs_9] (CallX.box 2 26 [AI 0, .nil] (CallX.box 1 26 [AI 0, .nil] (nextX_c_r3 c p1_10 h1_11 10 26 2 1 [AI 0, .nil] 26 2 1 [AI 0, .nil] 26 2 1 [AI n_8, LI xs_9] hc) (by kernel_rfl) (by kernel_rfl) (by kernel_rfl) (by kernel_rfl) (by rintro _ _ ⟨_, _, _, _, rfl, rfl⟩; exact ⟨by kernel_rfl, by kernel_rfl, by kernel_rfl⟩)) (by kernel_rfl) (by kernel_rfl) (by kernel_rfl) (by kernel_rfl) (by rintro _ _ ⟨_, ⟨_, _, _, _, rfl, rfl⟩, rfl⟩; exact ⟨by kernel_rfl, by kernel_rfl, by kernel_rfl⟩)) (by kernel_rfl) (by kernel_rfl) (by kernel_rfl) (by kernel_rfl) (by rintro _ _ ⟨_, ⟨_, ⟨_, _, _, _, rfl, rfl⟩, rfl⟩, rfl⟩; exact ⟨by kernel_rfl, by kernel_rfl, by kernel_rfl⟩)) (by kernel_rfl) (by kernel_rfl) (by kernel_rfl) (by rintro _ _ ⟨_, ⟨_, ⟨_, ⟨_, _, _, _, rfl, rfl⟩, rfl⟩, rfl⟩, rfl⟩; exact Nat.le_of_ble_eq_true (by kernel_rfl))) (Nat.le_of_ble_eq_true (by kernel_rfl)) (by kernel_rfl) (by kernel_rfl) (by rintro _ _ ⟨_, _, ⟨_, ⟨_, ⟨_, ⟨_, _, _, _, rfl, rfl⟩, rfl⟩, rfl⟩, rfl⟩, rfl, rfl⟩; exact Nat.le_of_ble_eq_true (by kernel_rfl))) (Nat.le_of_ble_eq_true (by kernel_rfl)) (by kernel_rfl) (by kernel_rfl) (by rintro _ _ ⟨_, _, ⟨_, _, ⟨_, ⟨_, ⟨_, ⟨_, _, _, _, rfl, rfl⟩, rfl⟩, rfl⟩, rfl⟩, rfl, rfl⟩, rfl, rfl⟩; exact Nat.le_of_ble_eq_true (by kernel_rfl))) (by kernel_rfl) (by kernel_rfl) (by kernel_rfl) ?_)
      rintro _ _ ⟨_, _, ⟨_, _, ⟨_, _, ⟨_, ⟨_, ⟨_, ⟨v_13, p1_14, h1_15, f16, rfl, rfl⟩, rfl⟩, rfl⟩, rfl⟩, rfl, rfl⟩, rfl, rfl⟩, rfl, rfl⟩
      refine R.go 2 (R.cond (v_13 = 0) (by kernel_rfl) (fun c17 => ?_) (fun c17 => ?_))
      · refine R.go 1 (R.any (by decide +kernel) (by kernel_rfl) ?_)
        refine R.anyF 1 (by kernel_rfl) (np_retX _ _ _ _ _ _) ?_
        refine R.any2 0 2 (by kernel_rfl) (by kernel_rfl) ?_ ?_
        · refine R.go 2 (R.any1 2 (by kernel_rfl) (by kernel_rfl) ?_)
          refine R.callX (CallX.inF 0 usC frC (CallX.inF 2 [] [] (CallX.perm [1, 2, 0, 3] [2, 0, 1, 3] (CallX.box 3 26 [AI n_8, LI xs_9] (CallX.box 2 26 [AI 0, .nil] (CallX.box 1 26 [AI 0, .nil] (drawP_c_r3 c p1_14 h1_15 8 26 2 1 [AI 0, .nil] 26 2 1 [AI 0, .nil] 26 2 1 [AI n_8, LI xs_9] hc (by omega)) (by kernel_rfl) (by kernel_rfl) (by kernel_rfl) (by kernel_rfl) (by rintro _ _ ⟨_, _, _, _, _, rfl, rfl⟩; exact ⟨by kernel_rfl, by kernel_rfl, by kernel_rfl⟩)) (by kernel_rfl) (by kernel_rfl) (by kernel_rfl) (by kernel_rfl) (by rintro _ _ ⟨_, ⟨_, _, _, _, _, rfl, rfl⟩, rfl⟩; exact ⟨by kernel_rfl, by kernel_rfl, by kernel_rfl⟩)) (by kernel_rfl) (by kernel_rfl) (by kernel_rfl) (by kernel_rfl) (by rintro _ _ ⟨_, ⟨_, ⟨_, _, _, _, _, rfl, rfl⟩, rfl⟩, rfl⟩; exact ⟨by kernel_rfl, by kernel_rfl, by kernel_rfl⟩)) (by kernel_rfl) (by kernel_rfl) (by kernel_rfl) (by rintro _ _ ⟨_, ⟨_, ⟨_, ⟨_, _, _, _, _, rfl, rfl⟩, rfl⟩, rfl⟩, rfl⟩; exact Nat.le_of_ble_eq_true (by kernel_rfl))) (Nat.le_of_ble_eq_true (by kernel_rfl)) (by kernel_rfl) (by kernel_rfl) (by rintro _ _ ⟨_, _, ⟨_, ⟨_, ⟨_, ⟨_, _, _, _, _, rfl, rfl⟩, rfl⟩, rfl⟩, rfl⟩, rfl, rfl⟩; exact Nat.le_of_ble_eq_true (by kernel_rfl))) (Nat.le_of_ble_eq_true (by kernel_rfl)) (by kernel_rfl) (by kernel_rfl) (by rintro _ _ ⟨_, _, ⟨_, _, ⟨_, ⟨_, ⟨_, ⟨_, _, _, _, _, rfl, rfl⟩, rfl⟩, rfl⟩, rfl⟩, rfl, rfl⟩, rfl, rfl⟩; exact Nat.le_of_ble_eq_true (by kernel_rfl))) (by kernel_rfl) (by kernel_rfl) (by kernel_rfl) ?_
          rintro _ _ ⟨_, _, ⟨_, _, ⟨_, _, ⟨_, ⟨_, ⟨_, ⟨n_18, xs_19, p1_20, h1_21, f22, rfl, rfl⟩, rfl⟩, rfl⟩, rfl⟩, rfl, rfl⟩, rfl, rfl⟩, rfl, rfl⟩
          refine R.go 1 (R.any1 3 (by kernel_rfl) (by kernel_rfl) ?_)
          refine R.go 2 (R.any1 4 (by kernel_rfl) (by kernel_rfl) ?_)
          refine R.go 2 (R.any0 (by kernel_rfl) ?_)
          exact R.retX (res := .tup [.agg [AI n_8, LI xs_9], .agg [AI n_18, LI xs_19]]) (hp' := [.dead, .box 26 [AI n_8, LI xs_9], .box 26 [AI n_18, LI xs_19], .frame [] [], .box 70 [LB c, AI (p1_20 : Int), .int .u64 h1_21], .box 26 [AI n_8, LI xs_9]]) (by kernel_rfl) (by kernel_rfl) (by kernel_rfl) (by kernel_rfl) ⟨[], by kernel_rfl, by decide, n_8, xs_9, n_18, xs_19, by first | assumption | omega, by first | assumption | omega, by kernel_rfl, by kernel_rfl⟩
        · refine R.callX (CallX.inF 0 usC frC (CallX.inF 2 [] [] (CallX.perm [1, 2, 0, 3] [2, 0, 1, 3] (CallX.box 3 26 [AI n_8, LI xs_9] (CallX.box 2 26 [AI 0, .nil] (CallX.box 1 26 [AI 0, .nil] (drawP_c_r3 c p1_14 h1_15 8 26 2 1 [AI 0, .nil] 26 2 1 [AI 0, .nil] 26 2 1 [AI n_8, LI xs_9] hc (by omega)) (by kernel_rfl) (by kernel_rfl) (by kernel_rfl) (by kernel_rfl) (by rintro _ _ ⟨_, _, _, _, _, rfl, rfl⟩; exact ⟨by kernel_rfl, by kernel_rfl, by kernel_rfl⟩)) (by kernel_rfl) (by kernel_rfl) (by kernel_rfl) (by kernel_rfl) (by rintro _ _ ⟨_, ⟨_, _, _, _, _, rfl, rfl⟩, rfl⟩; exact ⟨by kernel_rfl, by kernel_rfl, by kernel_rfl⟩)) (by kernel_rfl) (by kernel_rfl) (by kernel_rfl) (by kernel_rfl) (by rintro _ _ ⟨_, ⟨_, ⟨_, _, _, _, _, rfl, rfl⟩, rfl⟩, rfl⟩; exact ⟨by kernel_rfl, by kernel_rfl, by kernel_rfl⟩)) (by kernel_rfl) (by kernel_rfl) (by kernel_rfl) (by rintro _ _ ⟨_, ⟨_, ⟨_, ⟨_, _, _, _, _, rfl, rfl⟩, rfl⟩, rfl⟩, rfl⟩; exact Nat.le_of_ble_eq_true (by kernel_rfl))) (Nat.le_of_ble_eq_true (by kernel_rfl)) (by kernel_rfl) (by kernel_rfl) (by rintro _ _ ⟨_, _, ⟨_, ⟨_, ⟨_, ⟨_, _, _, _, _, rfl, rfl⟩, rfl⟩, rfl⟩, rfl⟩, rfl, rfl⟩; exact Nat.le_of_ble_eq_true (by kernel_rfl))) (Nat.le_of_ble_eq_true (by kernel_rfl)) (by kernel_rfl) (by kernel_rfl) (by rintro _ _ ⟨_, _, ⟨_, _, ⟨_, ⟨_, ⟨_, ⟨_, _, _, _, _, rfl, rfl⟩, rfl⟩, rfl⟩, rfl⟩, rfl, rfl⟩, rfl, rfl⟩; exact Nat.le_of_ble_eq_true (by kernel_rfl))) (by kernel_rfl) (by kernel_rfl) (by kernel_rfl) ?_
          rintro _ _ ⟨_, _, ⟨_, _, ⟨_, _, ⟨_, ⟨_, ⟨_, ⟨n_23, xs_24, p1_25, h1_26, f27, rfl, rfl⟩, rfl⟩, rfl⟩, rfl⟩, rfl, rfl⟩, rfl, rfl⟩, rfl, rfl⟩
          refine R.go 1 (R.any1 0 (by kernel_rfl) (by kernel_rfl) ?_)
          refine R.go 2 (R.any1 3 (by kernel_rfl) (by kernel_rfl) ?_)
          refine R.go 2 (R.any1 4 (by kernel_rfl) (by kernel_rfl) ?_)
          refine R.go 2 (R.any0 (by kernel_rfl) ?_)
          exact R.retX (res := .tup [.agg [AI n_8, LI xs_9], .agg [AI n_23, LI xs_24]]) (hp' := [.dead, .box 26 [AI n_8, LI xs_9], .box 26 [AI n_23, LI xs_24], .frame [] [], .box 70 [LB c, AI (p1_25 : Int), .int .u64 h1_26], .box 26 [AI n_8, LI xs_9]]) (by kernel_rfl) (by kernel_rfl) (by kernel_rfl) (by kernel_rfl) ⟨[], by kernel_rfl, by decide, n_8, xs_9, n_23, xs_24, by first | assumption | omega, by first | assumption | omega, by kernel_rfl, by kernel_rfl⟩
      · refine R.go 2 (R.any (by decide +kernel) (by kernel_rfl) ?_)
        refine R.anyF 1 (by kernel_rfl) (np_retX _ _ _ _ _ _) ?_
        refine R.any2 0 2 (by kernel_rfl) (by kernel_rfl) ?_ ?_
        · refine R.go 2 (R.any1 2 (by kernel_rfl) (by kernel_rfl) ?_)
          refine R.callX (CallX.inF 0 usC frC (CallX.inF 2 [] [] (CallX.perm [1, 2, 0, 3] [2, 0, 1, 3] (CallX.box 3 26 [AI n_8, LI xs_9] (CallX.box 2 26 [AI 0, .nil] (CallX.box 1 26 [AI 0, .nil] (drawP_c_r3 c p1_14 h1_15 4 26 2 1 [AI 0, .nil] 26 2 1 [AI 0, .nil] 26 2 1 [AI n_8, LI xs_9] hc (by omega)) (by kernel_rfl) (by kernel_rfl) (by kernel_rfl) (by kernel_rfl) (by rintro _ _ ⟨_, _, _, _, _, rfl, rfl⟩; exact ⟨by kernel_rfl, by kernel_rfl, by kernel_rfl⟩)) (by kernel_rfl) (by kernel_rfl) (by kernel_rfl) (by kernel_rfl) (by rintro _ _ ⟨_, ⟨_, _, _, _, _, rfl, rfl⟩, rfl⟩; exact ⟨by kernel_rfl, by kernel_rfl, by kernel_rfl⟩)) (by kernel_rfl) (by kernel_rfl) (by kernel_rfl) (by kernel_rfl) (by rintro _ _ ⟨_, ⟨_, ⟨_, _, _, _, _, rfl, rfl⟩, rfl⟩, rfl⟩; exact ⟨by kernel_rfl, by kernel_rfl, by kernel_rfl⟩)) (by kernel_rfl) (by kernel_rfl) (by kernel_rfl) (by rintro _ _ ⟨_, ⟨_, ⟨_, ⟨_, _, _, _, _, rfl, rfl⟩, rfl⟩, rfl⟩, rfl⟩; exact Nat.le_of_ble_eq_true (by kernel_rfl))) (Nat.le_of_ble_eq_true (by kernel_rfl)) (by kernel_rfl) (by kernel_rfl) (by rintro _ _ ⟨_, _, ⟨_, ⟨_, ⟨_, ⟨_, _, _, _, _, rfl, rfl⟩, rfl⟩, rfl⟩, rfl⟩, rfl, rfl⟩; exact Nat.le_of_ble_eq_true (by kernel_rfl))) (Nat.le_of_ble_eq_true (by kernel_rfl)) (by kernel_rfl) (by kernel_rfl) (by rintro _ _ ⟨_, _, ⟨_, _, ⟨_, ⟨_, ⟨_, ⟨_, _, _, _, _, rfl, rfl⟩, rfl⟩, rfl⟩, rfl⟩, rfl, rfl⟩, rfl, rfl⟩; exact Nat.le_of_ble_eq_true (by kernel_rfl))) (by kernel_rfl) (by kernel_rfl) (by kernel_rfl) ?_
          rintro _ _ ⟨_, _, ⟨_, _, ⟨_, _, ⟨_, ⟨_, ⟨_, ⟨n_28, xs_29, p1_30, h1_31, f32, rfl, rfl⟩, rfl⟩, rfl⟩, rfl⟩, rfl, rfl⟩, rfl, rfl⟩, rfl, rfl⟩
          refine R.go 1 (R.any1 3 (by kernel_rfl) (by kernel_rfl) ?_)
          refine R.go 2 (R.any1 4 (by kernel_rfl) (by kernel_rfl) ?_)
          refine R.go 2 (R.any0 (by kernel_rfl) ?_)
          exact R.retX (res := .tup [.agg [AI n_8, LI xs_9], .agg [AI n_28, LI xs_29]]) (hp' := [.dead, .box 26 [AI n_8, LI xs_9], .box 26 [AI n_28, LI xs_29], .frame [] [], .box 70 [LB c, AI (p1_30 : Int), .int .u64 h1_31], .box 26 [AI n_8, LI xs_9]]) (by kernel_rfl) (by kernel_rfl) (by kernel_rfl) (by kernel_rfl) ⟨[], by kernel_rfl, by decide, n_8, xs_9, n_28, xs_29, by first | assumption | omega, by first | assumption | omega, by kernel_rfl, by kernel_rfl⟩
        · refine R.callX (CallX.inF 0 usC frC (CallX.inF 2 [] [] (CallX.perm [1, 2, 0, 3] [2, 0, 1, 3] (CallX.box 3 26 [AI n_8, LI xs_9] (CallX.box 2 26 [AI 0, .nil] (CallX.box 1 26 [AI 0, .nil] (drawP_c_r3 c p1_14 h1_15 4 26 2 1 [AI 0, .nil] 26 2 1 [AI 0, .nil] 26 2 1 [AI n_8, LI xs_9] hc (by omega)) (by kernel_rfl) (by kernel_rfl) (by kernel_rfl) (by kernel_rfl) (by rintro _ _ ⟨_, _, _, _, _, rfl, rfl⟩; exact ⟨by kernel_rfl, by kernel_rfl, by kernel_rfl⟩)) (by kernel_rfl) (by kernel_rfl) (by kernel_rfl) (by kernel_rfl) (by rintro _ _ ⟨_, ⟨_, _, _, _, _, rfl, rfl⟩, rfl⟩; exact ⟨by kernel_rfl, by kernel_rfl, by kernel_rfl⟩)) (by kernel_rfl) (by kernel_rfl) (by kernel_rfl) (by kernel_rfl) (by rintro _ _ ⟨_, ⟨_, ⟨_, _, _, _, _, rfl, rfl⟩, rfl⟩, rfl⟩; exact ⟨by kernel_rfl, by kernel_rfl, by kernel_rfl⟩)) (by kernel_rfl) (by kernel_rfl) (by kernel_rfl) (by rintro _ _ ⟨_, ⟨_, ⟨_, ⟨_, _, _, _, _, rfl, rfl⟩, rfl⟩, rfl⟩, rfl⟩; exact Nat.le_of_ble_eq_true (by kernel_rfl))) (Nat.le_of_ble_eq_true (by kernel_rfl)) (by kernel_rfl) (by kernel_rfl) (by rintro _ _ ⟨_, _, ⟨_, ⟨_, ⟨_, ⟨_, _, _, _, _, rfl, rfl⟩, rfl⟩, rfl⟩, rfl⟩, rfl, rfl⟩; exact Nat.le_of_ble_eq_true (by kernel_rfl))) (Nat.le_of_ble_eq_true (by kernel_rfl)) (by kernel_rfl) (by kernel_rfl) (by rintro _ _ ⟨_, _, ⟨_, _, ⟨_, ⟨_, ⟨_, ⟨_, _, _, _, _, rfl, rfl⟩, rfl⟩, rfl⟩, rfl⟩, rfl, rfl⟩, rfl, rfl⟩; exact Nat.le_of_ble_eq_true (by kernel_rfl))) (by kernel_rfl) (by kernel_rfl) (by kernel_rfl) ?_
          rintro _ _ ⟨_, _, ⟨_, _, ⟨_, _, ⟨_, ⟨_, ⟨_, ⟨n_33, xs_34, p1_35, h1_36, f37, rfl, rfl⟩, rfl⟩, rfl⟩, rfl⟩, rfl, rfl⟩, rfl, rfl⟩, rfl, rfl⟩
          refine R.go 1 (R.any1 0 (by kernel_rfl) (by kernel_rfl) ?_)
          refine R.go 2 (R.any1 3 (by kernel_rfl) (by kernel_rfl) ?_)
          refine R.go 2 (R.any1 4 (by kernel_rfl) (by kernel_rfl) ?_)
          refine R.go 2 (R.any0 (by kernel_rfl) ?_)
          exact R.retX (res := .tup [.agg [AI n_8, LI xs_9], .agg [AI n_33, LI xs_34]]) (hp' := [.dead, .box 26 [AI n_8, LI xs_9], .box 26 [AI n_33, LI xs_34], .frame [] [], .box 70 [LB c, AI (p1_35 : Int), .int .u64 h1_36], .box 26 [AI n_8, LI xs_9]]) (by kernel_rfl) (by kernel_rfl) (by kernel_rfl) (by kernel_rfl) ⟨[], by kernel_rfl, by decide, n_8, xs_9, n_33, xs_34, by first | assumption | omega, by first | assumption | omega, by kernel_rfl, by kernel_rfl⟩
  · refine R.skp (decide ((i : Int) < (c.length : Int))) true (by kernel_rfl) (dF c6) (by kernel_rfl) ?_
    refine R.skp (decide ((i : Int) < (c.length : Int))) true (by kernel_rfl) (dF c6) (by kernel_rfl) ?_
    refine R.pick (decide ((i : Int) < (c.length : Int))) false (by kernel_rfl) (dF c6) (by kernel_rfl) ?_
    refine R.go 8 (R.back (.ptr 4 0) (frm 19 [(0, LB c), (2, .ptr 1 0), (3, .ptr 2 0), (6, LB c)]) (by kernel_rfl) (by kernel_rfl) (by kernel_rfl) ?_)
    refine R.go 5 (R.deadF 3 (by kernel_rfl) (by kernel_rfl) ?_)
    refine R.callX (CallX.inF 0 usC frC (CallX.inF 2 [] [] (CallX.perm [1, 2, 0] [2, 0, 1] (CallX.box 2 26 [AI 0, .nil] (CallX.box 1 26 [AI 0, .nil] (drawP_c_r2 c 0 hh 4 26 2 1 [AI 0, .nil] 26 2 1 [AI 0, .nil] hc (by omega)) (by kernel_rfl) (by kernel_rfl) (by kernel_rfl) (by kernel_rfl) (by rintro _ _ ⟨_, _, _, _, _, rfl, rfl⟩; exact ⟨by kernel_rfl, by kernel_rfl, by kernel_rfl⟩)) (by kernel_rfl) (by kernel_rfl) (by kernel_rfl) (by kernel_rfl) (by rintro _ _ ⟨_, ⟨_, _, _, _, _, rfl, rfl⟩, rfl⟩; exact ⟨by kernel_rfl, by kernel_rfl, by kernel_rfl⟩)) (by kernel_rfl) (by kernel_rfl) (by kernel_rfl) (by rintro _ _ ⟨_, ⟨_, ⟨_, _, _, _, _, rfl, rfl⟩, rfl⟩, rfl⟩; exact Nat.le_of_ble_eq_true (by kernel_rfl))) (Nat.le_of_ble_eq_true (by kernel_rfl)) (by kernel_rfl) (by kernel_rfl) (by rintro _ _ ⟨_, _, ⟨_, ⟨_, ⟨_, _, _, _, _, rfl, rfl⟩, rfl⟩, rfl⟩, rfl, rfl⟩; exact Nat.le_of_ble_eq_true (by kernel_rfl))) (Nat.le_of_ble_eq_true (by kernel_rfl)) (by kernel_rfl) (by kernel_rfl) (by rintro _ _ ⟨_, _, ⟨_, _, ⟨_, ⟨_, ⟨_, _, _, _, _, rfl, rfl⟩, rfl⟩, rfl⟩, rfl, rfl⟩, rfl, rfl⟩; exact Nat.le_of_ble_eq_true (by kernel_rfl))) (by kernel_rfl) (by kernel_rfl) (by kernel_rfl) ?_
    rintro _ _ ⟨_, _, ⟨_, _, ⟨_, _, ⟨_, ⟨_, ⟨n_38, xs_39, p1_40, h1_41, f42, rfl, rfl⟩, rfl⟩, rfl⟩, rfl, rfl⟩, rfl, rfl⟩, rfl, rfl⟩
    refine R.go 7 (R.callX (CallX.inF 0 usC frC (CallX.inF 2 [] [] (CallX.perm [1, 2, 0, 3] [2, 0, 1, 3] (CallX.box 3 26 [AI n_38, LI xs_39] (CallX.box 2 26 [AI 0, .nil] (CallX.box 1 26 [AI 0, .nil] (nextX_c_r3 c p1_40 h1_41 10 26 2 1 [AI 0, .nil] 26 2 1 [AI 0, .nil] 26 2 1 [AI n_38, LI xs_39] hc) (by kernel_rfl) (by kernel_rfl) (by kernel_rfl) (by kernel_rfl) (by rintro _ _ ⟨_, _, _, _, rfl, rfl⟩; exact ⟨by kernel_rfl, by kernel_rfl, by kernel_rfl⟩)) (by kernel_rfl) (by kernel_rfl) (by kernel_rfl) (by kernel_rfl) (by rintro _ _ ⟨_, ⟨_, _, _, _, rfl, rfl⟩, rfl⟩; exact ⟨by kernel_rfl, by kernel_rfl, by kernel_rfl⟩)) (by kernel_rfl) (by kernel_rfl) (by kernel_rfl) (by kernel_rfl) (by rintro _ _ ⟨_, ⟨_, ⟨_, _, _, _, rfl, rfl⟩, rfl⟩, rfl⟩; exact ⟨by kernel_rfl, by kernel_rfl, by kernel_rfl⟩)) (by kernel_rfl) (by kernel_rfl) (by kernel_rfl) (by rintro _ _ ⟨_, ⟨_, ⟨_, ⟨_, _, _, _, rfl, rfl⟩, rfl⟩, rfl⟩, rfl⟩; exact Nat.le_of_ble_eq_true (by kernel_rfl))) (Nat.le_of_ble_eq_true (by kernel_rfl)) (by kernel_rfl) (by kernel_rfl) (by rintro _ _ ⟨_, _, ⟨_, ⟨_, ⟨_, ⟨_, _, _, _, rfl, rfl⟩, rfl⟩, rfl⟩, rfl⟩, rfl, rfl⟩; exact Nat.le_of_ble_eq_true (by kernel_rfl))) (Nat.le_of_ble_eq_true (by kernel_rfl)) (by kernel_rfl) (by kernel_rfl) (by rintro _ _ ⟨_, _, ⟨_, _, ⟨_, ⟨_, ⟨_, ⟨_, _, _, _, rfl, rfl⟩, rfl⟩, rfl⟩, rfl⟩, rfl, rfl⟩, rfl, rfl⟩; exact Nat.le_of_ble_eq_true (by kernel_rfl))) (by kernel_rfl) (by kernel_rfl) (by kernel_rfl) ?_)
    rintro _ _ ⟨_, _, ⟨_, _, ⟨_, _, ⟨_, ⟨_, ⟨_, ⟨v_43, p1_44, h1_45, f46, rfl, rfl⟩, rfl⟩, rfl⟩, rfl⟩, rfl, rfl⟩, rfl, rfl⟩, rfl, rfl⟩
    refine R.go 2 (R.cond (v_43 = 0) (by kernel_rfl) (fun c47 => ?_) (fun c47 => ?_))
    · refine R.go 1 (R.any (by decide +kernel) (by kernel_rfl) ?_)
      refine R.anyF 1 (by kernel_rfl) (np_retX _ _ _ _ _ _) ?_
      refine R.any2 0 2 (by kernel_rfl) (by kernel_rfl) ?_ ?_
      · refine R.go 2 (R.any1 2 (by kernel_rfl) (by kernel_rfl) ?_)
        refine R.callX (CallX.inF 0 usC frC (CallX.inF 2 [] [] (CallX.perm [1, 2, 0, 3] [2, 0, 1, 3] (CallX.box 3 26 [AI n_38, LI xs_39] (CallX.box 2 26 [AI 0, .nil] (CallX.box 1 26 [AI 0, .nil] (drawP_c_r3 c p1_44 h1_45 8 26 2 1 [AI 0, .nil] 26 2 1 [AI 0, .nil] 26 2 1 [AI n_38, LI xs_39] hc (by omega)) (by kernel_rfl) (by kernel_rfl) (by kernel_rfl) (by kernel_rfl) (by rintro _ _ ⟨_, _, _, _, _, rfl, rfl⟩; exact ⟨by kernel_rfl, by kernel_rfl, by kernel_rfl⟩)) (by kernel_rfl) (by kernel_rfl) (by kernel_rfl) (by kernel_rfl) (by rintro _ _ ⟨_, ⟨_, _, _, _, _, rfl, rfl⟩, rfl⟩; exact ⟨by kernel_rfl, by kernel_rfl, by kernel_rfl⟩)) (by kernel_rfl) (by kernel_rfl) (by kernel_rfl) (by kernel_rfl) (by rintro _ _ ⟨_, ⟨_, ⟨_, _, _, _, _, rfl, rfl⟩, rfl⟩, rfl⟩; exact ⟨by kernel_rfl, by kernel_rfl, by kernel_rfl⟩)) (by kernel_rfl) (by kernel_rfl) (by kernel_rfl) (by rintro _ _ ⟨_, ⟨_, ⟨_, ⟨_, _, _, _, _, rfl, rfl⟩, rfl⟩, rfl⟩, rfl⟩; exact Nat.le_of_ble_eq_true (by kernel_rfl))) (Nat.le_of_ble_eq_true (by kernel_rfl)) (by kernel_rfl) (by kernel_rfl) (by rintro _ _ ⟨_, _, ⟨_, ⟨_, ⟨_, ⟨_, _, _, _, _, rfl, rfl⟩, rfl⟩, rfl⟩, rfl⟩, rfl, rfl⟩; exact Nat.le_of_ble_eq_true (by kernel_rfl))) (Nat.le_of_ble_eq_true (by kernel_rfl)) (by kernel_rfl) (by kernel_rfl) (by rintro _ _ ⟨_, _, ⟨_, _, ⟨_, ⟨_, ⟨_, ⟨_, _, _, _, _, rfl, rfl⟩, rfl⟩, rfl⟩, rfl⟩, rfl, rfl⟩, rfl, rfl⟩; exact Nat.le_of_ble_eq_true (by kernel_rfl))) (by kernel_rfl) (by kernel_rfl) (by kernel_rfl) ?_
        rintro _ _ ⟨_, _, ⟨_, _, ⟨_, _, ⟨_, ⟨_, ⟨_, ⟨n_48, xs_49, p1_50, h1_51, f52, rfl, rfl⟩, rfl⟩, rfl⟩, rfl⟩, rfl, rfl⟩, rfl, rfl⟩, rfl, rfl⟩
        refine R.go 1 (R.any1 3 (by kernel_rfl) (by kernel_rfl) ?_)
        refine R.go 2 (R.any1 4 (by kernel_rfl) (by kernel_rfl) ?_)
        refine R.go 2 (R.any0 (by kernel_rfl) ?_)
        exact R.retX (res := .tup [.agg [AI n_38, LI xs_39], .agg [AI n_48, LI xs_49]]) (hp' := [.dead, .box 26 [AI n_38, LI xs_39], .box 26 [AI n_48, LI xs_49], .frame [] [], .box 70 [LB c, AI (p1_50 : Int), .int .u64 h1_51], .box 26 [AI n_38, LI xs_39]]) (by kernel_rfl) (by kernel_rfl) (by kernel_rfl) (by kernel_rfl) ⟨[], by kernel_rfl, by decide, n_38, xs_39, n_48, xs_49, by first | assumption | omega, by first | assumption | omega, by kernel_rfl, by kernel_rfl⟩
      · refine R.callX (CallX.inF 0 usC frC (CallX.inF 2 [] [] (CallX.perm [1, 2, 0, 3] [2, 0, 1, 3] (CallX.box 3 26 [AI n_38, LI xs_39] (CallX.box 2 26 [AI 0, .nil] (CallX.box 1 26 [AI 0, .nil] (drawP_c_r3 c p1_44 h1_45 8 26 2 1 [AI 0, .nil] 26 2 1 [AI 0, .nil] 26 2 1 [AI n_38, LI xs_39] hc (by omega)) (by kernel_rfl) (by kernel_rfl) (by kernel_rfl) (by kernel_rfl) (by rintro _ _ ⟨_, _, _, _, _, rfl, rfl⟩; exact ⟨by kernel_rfl, by kernel_rfl, by kernel_rfl⟩)) (by kernel_rfl) (by kernel_rfl) (by kernel_rfl) (by kernel_rfl) (by rintro _ _ ⟨_, ⟨_, _, _, _, _, rfl, rfl⟩, rfl⟩; exact ⟨by kernel_rfl, by kernel_rfl, by kernel_rfl⟩)) (by kernel_rfl) (by kernel_rfl) (by kernel_rfl) (by kernel_rfl) (by rintro _ _ ⟨_, ⟨_, ⟨_, _, _, _, _, rfl, rfl⟩, rfl⟩, rfl⟩; exact ⟨by kernel_rfl, by kernel_rfl, by kernel_rfl⟩)) (by kernel_rfl) (by kernel_rfl) (by kernel_rfl) (by rintro _ _ ⟨_, ⟨_, ⟨_, ⟨_, _, _, _, _, rfl, rfl⟩, rfl⟩, rfl⟩, rfl⟩; exact Nat.le_of_ble_eq_true (by kernel_rfl))) (Nat.le_of_ble_eq_true (by kernel_rfl)) (by kernel_rfl) (by kernel_rfl) (by rintro _ _ ⟨_, _, ⟨_, ⟨_, ⟨_, ⟨_, _, _, _, _, rfl, rfl⟩, rfl⟩, rfl⟩, rfl⟩, rfl, rfl⟩; exact Nat.le_of_ble_eq_true (by kernel_rfl))) (Nat.le_of_ble_eq_true (by kernel_rfl)) (by kernel_rfl) (by kernel_rfl) (by rintro _ _ ⟨_, _, ⟨_, _, ⟨_, ⟨_, ⟨_, ⟨_, _, _, _, _, rfl, rfl⟩, rfl⟩, rfl⟩, rfl⟩, rfl, rfl⟩, rfl, rfl⟩; exact Nat.le_of_ble_eq_true (by kernel_rfl))) (by kernel_rfl) (by kernel_rfl) (by kernel_rfl) ?_
        rintro _ _ ⟨_, _, ⟨_, _, ⟨_, _, ⟨_, ⟨_, ⟨_, ⟨n_53, xs_54, p1_55, h1_56, f57, rfl, rfl⟩, rfl⟩, rfl⟩, rfl⟩, rfl, rfl⟩, rfl, rfl⟩, rfl, rfl⟩
        refine R.go 1 (R.any1 0 (by kernel_rfl) (by kernel_rfl) ?_)
        refine R.go 2 (R.any1 3 (by kernel_rfl) (by kernel_rfl) ?_)
        refine R.go 2 (R.any1 4 (by kernel_rfl) (by kernel_rfl) ?_)
        refine R.go 2 (R.any0 (by kernel_rfl) ?_)
        exact R.retX (res := .tup [.agg [AI n_38, LI xs_39], .agg [AI n_53, LI xs_54]]) (hp' := [.dead, .box 26 [AI n_38, LI xs_39], .box 26 [AI n_53, LI xs_54], .frame [] [], .box 70 [LB c, AI (p1_55 : Int), .int .u64 h1_56], .box 26 [AI n_38, LI xs_39]]) (by kernel_rfl) (by kernel_rfl) (by kernel_rfl) (by kernel_rfl) ⟨[], by kernel_rfl, by decide, n_38, xs_39, n_53, xs_54, by first | assumption | omega, by first | assumption | omega, by kernel_rfl, by kernel_rfl⟩
    · refine R.go 2 (R.any (by decide +kernel) (by kernel_rfl) ?_)
      refine R.anyF 1 (by kernel_rfl) (np_retX _ _ _ _ _ _) ?_
      refine R.any2 0 2 (by kernel_rfl) (by kernel_rfl) ?_ ?_
      · refine R.go 2 (R.any1 2 (by kernel_rfl) (by kernel_rfl) ?_)
        refine R.callX (CallX.inF 0 usC frC (CallX.inF 2 [] [] (CallX.perm [1, 2, 0, 3] [2, 0, 1, 3] (CallX.box 3 26 [AI n_38, LI xs_39] (CallX.box 2 26 [AI 0, .nil] (CallX.box 1 26 [AI 0, .nil] (drawP_c_r3 c p1_44 h1_45 4 26 2 1 [AI 0, .nil] 26 2 1 [AI 0, .nil] 26 2 1 [AI n_38, LI xs_39] hc (by omega)) (by kernel_rfl) (by kernel_rfl) (by kernel_rfl) (by kernel_rfl) (by rintro _ _ ⟨_, _, _, _, _, rfl, rfl⟩; exact ⟨by kernel_rfl, by kernel_rfl, by kernel_rfl⟩)) (by kernel_rfl) (by kernel_rfl) (by kernel_rfl) (by kernel_rfl) (by rintro _ _ ⟨_, ⟨_, _, _, _, _, rfl, rfl⟩, rfl⟩; exact ⟨by kernel_rfl, by kernel_rfl, by kernel_rfl⟩)) (by kernel_rfl) (by kernel_rfl) (by kernel_rfl) (by kernel_rfl) (by rintro _ _ ⟨_, ⟨_, ⟨_, _, _, _, _, rfl, rfl⟩, rfl⟩, rfl⟩; exact ⟨by kernel_rfl, by kernel_rfl, by kernel_rfl⟩)) (by kernel_rfl) (by kernel_rfl) (by kernel_rfl) (by rintro _ _ ⟨_, ⟨_, ⟨_, ⟨_, _, _, _, _, rfl, rfl⟩, rfl⟩, rfl⟩, rfl⟩; exact Nat.le_of_ble_eq_true (by kernel_rfl))) (Nat.le_of_ble_eq_true (by kernel_rfl)) (by kernel_rfl) (by kernel_rfl) (by rintro _ _ ⟨_, _, ⟨_, ⟨_, ⟨_, ⟨_, _, _, _, _, rfl, rfl⟩, rfl⟩, rfl⟩, rfl⟩, rfl, rfl⟩; exact Nat.le_of_ble_eq_true (by kernel_rfl))) (Nat.le_of_ble_eq_true (by kernel_rfl)) (by kernel_rfl) (by kernel_rfl) (by rintro _ _ ⟨_, _, ⟨_, _, ⟨_, ⟨_, ⟨_, ⟨_, _, _, _, _, rfl, rfl⟩, rfl⟩, rfl⟩, rfl⟩, rfl, rfl⟩, rfl, rfl⟩; exact Nat.le_of_ble_eq_true (by kernel_rfl))) (by kernel_rfl) (by kernel_rfl) (by kernel_rfl) ?_
        rintro _ _ ⟨_, _, ⟨_, _, ⟨_, _, ⟨_, ⟨_, ⟨_, ⟨n_58, xs_59, p1_60, h1_61, f62, rfl, rfl⟩, rfl⟩, rfl⟩, rfl⟩, rfl, rfl⟩, rfl, rfl⟩, rfl, rfl⟩
        refine R.go 1 (R.any1 3 (by kernel_rfl) (by kernel_rfl) ?_)
        refine R.go 2 (R.any1 4 (by kernel_rfl) (by kernel_rfl) ?_)
        refine R.go 2 (R.any0 (by kernel_rfl) ?_)
        exact R.retX (res := .tup [.agg [AI n_38, LI xs_39], .agg [AI n_58, LI xs_59]]) (hp' := [.dead, .box 26 [AI n_38, LI xs_39], .box 26 [AI n_58, LI xs_59], .frame [] [], .box 70 [LB c, AI (p1_60 : Int), .int .u64 h1_61], .box 26 [AI n_38, LI xs_39]]) (by kernel_rfl) (by kernel_rfl) (by kernel_rfl) (by kernel_rfl) ⟨[], by kernel_rfl, by decide, n_38, xs_39, n_58, xs_59, by first | assumption | omega, by first | assumption | omega, by kernel_rfl, by kernel_rfl⟩
      · refine R.callX (CallX.inF 0 usC frC (CallX.inF 2 [] [] (CallX.perm [1, 2, 0, 3] [2, 0, 1, 3] (CallX.box 3 26 [AI n_38, LI xs_39] (CallX.box 2 26 [AI 0, .nil] (CallX.box 1 26 [AI 0, .nil] (drawP_c_r3 c p1_44 h1_45 4 26 2 1 [AI 0, .nil] 26 2 1 [AI 0, .nil] 26 2 1 [AI n_38, LI xs_39] hc (by omega)) (by kernel_rfl) (by kernel_rfl) (by kernel_rfl) (by kernel_rfl) (by rintro _ _ ⟨_, _, _, _, _, rfl, rfl⟩; exact ⟨by kernel_rfl, by kernel_rfl, by kernel_rfl⟩)) (by kernel_rfl) (by kernel_rfl) (by kernel_rfl) (by kernel_rfl) (by rintro _ _ ⟨_, ⟨_, _, _, _, _, rfl, rfl⟩, rfl⟩; exact ⟨by kernel_rfl, by kernel_rfl, by kernel_rfl⟩)) (by kernel_rfl) (by kernel_rfl) (by kernel_rfl) (by kernel_rfl) (by rintro _ _ ⟨_, ⟨_, ⟨_, _, _, _, _, rfl, rfl⟩, rfl⟩, rfl⟩; exact ⟨by kernel_rfl, by kernel_rfl, by kernel_rfl⟩)) (by kernel_rfl) (by kernel_rfl) (by kernel_rfl) (by rintro _ _ ⟨_, ⟨_, ⟨_, ⟨_, _, _, _, _, rfl, rfl⟩, rfl⟩, rfl⟩, rfl⟩; exact Nat.le_of_ble_eq_true (by kernel_rfl))) (Nat.le_of_ble_eq_true (by kernel_rfl)) (by kernel_rfl) (by kernel_rfl) (by rintro _ _ ⟨_, _, ⟨_, ⟨_, ⟨_, ⟨_, _, _, _, _, rfl, rfl⟩, rfl⟩, rfl⟩, rfl⟩, rfl, rfl⟩; exact Nat.le_of_ble_eq_true (by kernel_rfl))) (Nat.le_of_ble_eq_true (by kernel_rfl)) (by kernel_rfl) (by kernel_rfl) (by rintro _ _ ⟨_, _, ⟨_, _, ⟨_, ⟨_, ⟨_, ⟨_, _, _, _, _, rfl, rfl⟩, rfl⟩, rfl⟩, rfl⟩, rfl, rfl⟩, rfl, rfl⟩; exact Nat.le_of_ble_eq_true (by kernel_rfl))) (by kernel_rfl) (by kernel_rfl) (by kernel_rfl) ?_
        rintro _ _ ⟨_, _, ⟨_, _, ⟨_, _, ⟨_, ⟨_, ⟨_, ⟨n_63, xs_64, p1_65, h1_66, f67, rfl, rfl⟩, rfl⟩, rfl⟩, rfl⟩, rfl, rfl⟩, rfl, rfl⟩, rfl, rfl⟩
        refine R.go 1 (R.any1 0 (by kernel_rfl) (by kernel_rfl) ?_)
        refine R.go 2 (R.any1 3 (by kernel_rfl) (by kernel_rfl) ?_)
        refine R.go 2 (R.any1 4 (by kernel_rfl) (by kernel_rfl) ?_)
        refine R.go 2 (R.any0 (by kernel_rfl) ?_)
        exact R.retX (res := .tup [.agg [AI n_38, LI xs_39], .agg [AI n_63, LI xs_64]]) (hp' := [.dead, .box 26 [AI n_38, LI xs_39], .box 26 [AI n_63, LI xs_64], .frame [] [], .box 70 [LB c, AI (p1_65 : Int), .int .u64 h1_66], .box 26 [AI n_38, LI xs_39]]) (by kernel_rfl) (by kernel_rfl) (by kernel_rfl) (by kernel_rfl) ⟨[], by kernel_rfl, by decide, n_38, xs_39, n_63, xs_64, by first | assumption | omega, by first | assumption | omega, by kernel_rfl, by kernel_rfl⟩

end Go.Proofs.Ytogehjciaamcfaa
