/- Texts of the proof: PD3. -/
import Derived.Test.YtjllngcefoohpaaGreatPartM

/-! Draws of a poset and a plain formula. -/
namespace Go.Proofs.YtjllngcefoohpaaGreat
open Go.RowKit Go.Abs

theorem nextX_c_r7 (c : List Int) (p : Nat) (h : Int) (n : Int) (eo1 : Nat) (so1 : Nat) (no1 : Nat) (co1 : List AV) (eo2 : Nat) (so2 : Nat) (no2 : Nat) (co2 : List AV) (eo3 : Nat) (so3 : Nat) (no3 : Nat) (co3 : List AV) (eo4 : Nat) (so4 : Nat) (no4 : Nat) (co4 : List AV) (eo5 : Nat) (so5 : Nat) (no5 : Nat) (co5 : List AV) (eo6 : Nat) (so6 : Nat) (no6 : Nat) (co6 : List AV) (eo7 : Nat) (so7 : Nat) (no7 : Nat) (co7 : List AV) (hc : BY c) : CallX Tryz.prog 101 [.ptr 0 0, AI n] [.box 157 [LB c, AI (p : Int), .int .u64 h], .list eo1 so1 no1 co1, .list eo2 so2 no2 co2, .list eo3 so3 no3 co3, .list eo4 so4 no4 co4, .list eo5 so5 no5 co5, .list eo6 so6 no6 co6, .list eo7 so7 no7 co7] (fun (resX : AV) (objX : List AObj) => ∃ v : Int, ∃ p1 : Nat, ∃ h1 : Int, ((n < 1 → v = 0) ∧ (1 ≤ n → 0 ≤ v ∧ v < n)) ∧ resX = AI v ∧ objX = [.box 157 [LB c, AI (p1 : Int), .int .u64 h1], .list eo1 so1 no1 co1, .list eo2 so2 no2 co2, .list eo3 so3 no3 co3, .list eo4 so4 no4 co4, .list eo5 so5 no5 co5, .list eo6 so6 no6 co6, .list eo7 so7 no7 co7]) := by
 have hcl : c.length ≤ 4096 := hc.1
 have hcb := hc.2
 have hxr := fun h => u64and (shr64 (IntKind.u64.wrap (IntKind.u64.wrap (h * 6364136223846793005) + 1442695040888963407)) 33)
 have hxh := hxr h
 refine CallX.dropE (CallX.ofF Tryz.func101 rfl (by kernel_rfl) ?_)
 intro usC frC hfC
 refine R.go 10 (k3 (n < 1) (fun c1 => ?_) (fun c1 => ?_))
 ·exact R.go 4 (R.retX (res := AI 0) (hp' := [.box 157 [LB c, AI (p : Int), .int .u64 h], .list eo1 so1 no1 co1, .list eo2 so2 no2 co2, .list eo3 so3 no3 co3, .list eo4 so4 no4 co4, .list eo5 so5 no5 co5, .list eo6 so6 no6 co6, .list eo7 so7 no7 co7, .dead]) (by kernel_rfl) (by kernel_rfl) (by kernel_rfl) (by kernel_rfl) ⟨[0, 1, 2, 3, 4, 5, 6, 7], by kernel_rfl, by decide, 0, p, h, by first | exact mod_rng (by assumption) | exact ⟨fun _ => rfl, fun h1 => by omega⟩, by kernel_rfl, by kernel_rfl⟩)
 ·refine R.go 22 (k2 .i64 (bits .and .u64 (shr64 (IntKind.u64.wrap ((IntKind.u64.wrap (h * 6364136223846793005)) + 1442695040888963407)) 33) 16777215) (wrap_id (by omega) (by omega)) ?_)
  refine R.go 16 (k3 ((p : Int) < (c.length : Int)) (fun c2 => ?_) (fun c2 => ?_))
  ·have hbp := hcb p (by omega)
   refine R.go 11 (k8 eB c 0 p (p : Int) rfl eB_len ?_)
   refine R.go 1 (k2 .i64 (c.getD p 0) (wrap_id (by omega) (by omega)) ?_)
   refine k1 ((bits .and .u64 (shr64 (IntKind.u64.wrap ((IntKind.u64.wrap (h * 6364136223846793005)) + 1442695040888963407)) 33) 16777215) + (c.getD p 0)) ?_
   refine R.go 8 (k1 ((p : Int) + 1) ?_)
   refine R.go 8 (R.rem ((bits .and .u64 (shr64 (IntKind.u64.wrap ((IntKind.u64.wrap (h * 6364136223846793005)) + 1442695040888963407)) 33) 16777215) + (c.getD p 0)) n (by kernel_rfl) (by omega) (by omega) (by kernel_rfl) ?_)
   exact R.go 2 (R.retX (res := AI (((bits .and .u64 (shr64 (IntKind.u64.wrap ((IntKind.u64.wrap (h * 6364136223846793005)) + 1442695040888963407)) 33) 16777215) + (c.getD p 0)) % n)) (hp' := [.box 157 [LB c, AI ((p : Int) + 1), .int .u64 (IntKind.u64.wrap ((IntKind.u64.wrap (h * 6364136223846793005)) + 1442695040888963407))], .list eo1 so1 no1 co1, .list eo2 so2 no2 co2, .list eo3 so3 no3 co3, .list eo4 so4 no4 co4, .list eo5 so5 no5 co5, .list eo6 so6 no6 co6, .list eo7 so7 no7 co7, .dead]) (by kernel_rfl) (by kernel_rfl) (by kernel_rfl) (by kernel_rfl) ⟨[0, 1, 2, 3, 4, 5, 6, 7], by kernel_rfl, by decide, ((bits .and .u64 (shr64 (IntKind.u64.wrap ((IntKind.u64.wrap (h * 6364136223846793005)) + 1442695040888963407)) 33) 16777215) + (c.getD p 0)) % n, p + 1, IntKind.u64.wrap ((IntKind.u64.wrap (h * 6364136223846793005)) + 1442695040888963407), by first | exact mod_rng (by assumption) | exact ⟨fun _ => rfl, fun h1 => by omega⟩, by kernel_rfl, by kernel_rfl⟩)
  ·refine R.go 5 (R.rem (bits .and .u64 (shr64 (IntKind.u64.wrap ((IntKind.u64.wrap (h * 6364136223846793005)) + 1442695040888963407)) 33) 16777215) n (by kernel_rfl) (by omega) (by omega) (by kernel_rfl) ?_)
   exact R.go 2 (R.retX (res := AI ((bits .and .u64 (shr64 (IntKind.u64.wrap ((IntKind.u64.wrap (h * 6364136223846793005)) + 1442695040888963407)) 33) 16777215) % n)) (hp' := [.box 157 [LB c, AI (p : Int), .int .u64 (IntKind.u64.wrap ((IntKind.u64.wrap (h * 6364136223846793005)) + 1442695040888963407))], .list eo1 so1 no1 co1, .list eo2 so2 no2 co2, .list eo3 so3 no3 co3, .list eo4 so4 no4 co4, .list eo5 so5 no5 co5, .list eo6 so6 no6 co6, .list eo7 so7 no7 co7, .dead]) (by kernel_rfl) (by kernel_rfl) (by kernel_rfl) (by kernel_rfl) ⟨[0, 1, 2, 3, 4, 5, 6, 7], by kernel_rfl, by decide, (bits .and .u64 (shr64 (IntKind.u64.wrap ((IntKind.u64.wrap (h * 6364136223846793005)) + 1442695040888963407)) 33) 16777215) % n, p, IntKind.u64.wrap ((IntKind.u64.wrap (h * 6364136223846793005)) + 1442695040888963407), by first | exact mod_rng (by assumption) | exact ⟨fun _ => rfl, fun h1 => by omega⟩, by kernel_rfl, by kernel_rfl⟩)

theorem nextX_c_roooBo (c : List Int) (p : Nat) (h : Int) (n : Int) (eo1 : Nat) (so1 : Nat) (no1 : Nat) (co1 : List AV) (eo2 : Nat) (so2 : Nat) (no2 : Nat) (co2 : List AV) (eo3 : Nat) (so3 : Nat) (no3 : Nat) (co3 : List AV) (to4 : Nat) (a_x : Int) (eo5 : Nat) (so5 : Nat) (no5 : Nat) (co5 : List AV) (hc : BY c) : CallX Tryz.prog 101 [.ptr 0 0, AI n] [.box 157 [LB c, AI (p : Int), .int .u64 h], .list eo1 so1 no1 co1, .list eo2 so2 no2 co2, .list eo3 so3 no3 co3, .box to4 [AI a_x, .ref 5], .list eo5 so5 no5 co5] (fun (resX : AV) (objX : List AObj) => ∃ v : Int, ∃ p1 : Nat, ∃ h1 : Int, ((n < 1 → v = 0) ∧ (1 ≤ n → 0 ≤ v ∧ v < n)) ∧ resX = AI v ∧ objX = [.box 157 [LB c, AI (p1 : Int), .int .u64 h1], .list eo1 so1 no1 co1, .list eo2 so2 no2 co2, .list eo3 so3 no3 co3, .box to4 [AI a_x, .ref 5], .list eo5 so5 no5 co5]) := by
 have hcl : c.length ≤ 4096 := hc.1
 have hcb := hc.2
 have hxr := fun h => u64and (shr64 (IntKind.u64.wrap (IntKind.u64.wrap (h * 6364136223846793005) + 1442695040888963407)) 33)
 have hxh := hxr h
 refine CallX.dropE (CallX.ofF Tryz.func101 rfl (by kernel_rfl) ?_)
 intro usC frC hfC
 refine R.go 10 (k3 (n < 1) (fun c1 => ?_) (fun c1 => ?_))
 ·exact R.go 4 (R.retX (res := AI 0) (hp' := [.box 157 [LB c, AI (p : Int), .int .u64 h], .list eo1 so1 no1 co1, .list eo2 so2 no2 co2, .list eo3 so3 no3 co3, .box to4 [AI a_x, .ref 5], .list eo5 so5 no5 co5, .dead]) (by kernel_rfl) (by kernel_rfl) (by kernel_rfl) (by kernel_rfl) ⟨[0, 1, 2, 3, 4, 5], by kernel_rfl, by decide, 0, p, h, by first | exact mod_rng (by assumption) | exact ⟨fun _ => rfl, fun h1 => by omega⟩, by kernel_rfl, by kernel_rfl⟩)
 ·refine R.go 22 (k2 .i64 (bits .and .u64 (shr64 (IntKind.u64.wrap ((IntKind.u64.wrap (h * 6364136223846793005)) + 1442695040888963407)) 33) 16777215) (wrap_id (by omega) (by omega)) ?_)
  refine R.go 16 (k3 ((p : Int) < (c.length : Int)) (fun c2 => ?_) (fun c2 => ?_))
  ·have hbp := hcb p (by omega)
   refine R.go 11 (k8 eB c 0 p (p : Int) rfl eB_len ?_)
   refine R.go 1 (k2 .i64 (c.getD p 0) (wrap_id (by omega) (by omega)) ?_)
   refine k1 ((bits .and .u64 (shr64 (IntKind.u64.wrap ((IntKind.u64.wrap (h * 6364136223846793005)) + 1442695040888963407)) 33) 16777215) + (c.getD p 0)) ?_
   refine R.go 8 (k1 ((p : Int) + 1) ?_)
   refine R.go 8 (R.rem ((bits .and .u64 (shr64 (IntKind.u64.wrap ((IntKind.u64.wrap (h * 6364136223846793005)) + 1442695040888963407)) 33) 16777215) + (c.getD p 0)) n (by kernel_rfl) (by omega) (by omega) (by kernel_rfl) ?_)
   exact R.go 2 (R.retX (res := AI (((bits .and .u64 (shr64 (IntKind.u64.wrap ((IntKind.u64.wrap (h * 6364136223846793005)) + 1442695040888963407)) 33) 16777215) + (c.getD p 0)) % n)) (hp' := [.box 157 [LB c, AI ((p : Int) + 1), .int .u64 (IntKind.u64.wrap ((IntKind.u64.wrap (h * 6364136223846793005)) + 1442695040888963407))], .list eo1 so1 no1 co1, .list eo2 so2 no2 co2, .list eo3 so3 no3 co3, .box to4 [AI a_x, .ref 5], .list eo5 so5 no5 co5, .dead]) (by kernel_rfl) (by kernel_rfl) (by kernel_rfl) (by kernel_rfl) ⟨[0, 1, 2, 3, 4, 5], by kernel_rfl, by decide, ((bits .and .u64 (shr64 (IntKind.u64.wrap ((IntKind.u64.wrap (h * 6364136223846793005)) + 1442695040888963407)) 33) 16777215) + (c.getD p 0)) % n, p + 1, IntKind.u64.wrap ((IntKind.u64.wrap (h * 6364136223846793005)) + 1442695040888963407), by first | exact mod_rng (by assumption) | exact ⟨fun _ => rfl, fun h1 => by omega⟩, by kernel_rfl, by kernel_rfl⟩)
  ·refine R.go 5 (R.rem (bits .and .u64 (shr64 (IntKind.u64.wrap ((IntKind.u64.wrap (h * 6364136223846793005)) + 1442695040888963407)) 33) 16777215) n (by kernel_rfl) (by omega) (by omega) (by kernel_rfl) ?_)
   exact R.go 2 (R.retX (res := AI ((bits .and .u64 (shr64 (IntKind.u64.wrap ((IntKind.u64.wrap (h * 6364136223846793005)) + 1442695040888963407)) 33) 16777215) % n)) (hp' := [.box 157 [LB c, AI (p : Int), .int .u64 (IntKind.u64.wrap ((IntKind.u64.wrap (h * 6364136223846793005)) + 1442695040888963407))], .list eo1 so1 no1 co1, .list eo2 so2 no2 co2, .list eo3 so3 no3 co3, .box to4 [AI a_x, .ref 5], .list eo5 so5 no5 co5, .dead]) (by kernel_rfl) (by kernel_rfl) (by kernel_rfl) (by kernel_rfl) ⟨[0, 1, 2, 3, 4, 5], by kernel_rfl, by decide, (bits .and .u64 (shr64 (IntKind.u64.wrap ((IntKind.u64.wrap (h * 6364136223846793005)) + 1442695040888963407)) 33) 16777215) % n, p, IntKind.u64.wrap ((IntKind.u64.wrap (h * 6364136223846793005)) + 1442695040888963407), by first | exact mod_rng (by assumption) | exact ⟨fun _ => rfl, fun h1 => by omega⟩, by kernel_rfl, by kernel_rfl⟩)

theorem pickX_c_roooBo (c : List Int) (p : Nat) (h : Int) (L : List Int) (eo1 : Nat) (so1 : Nat) (no1 : Nat) (co1 : List AV) (eo2 : Nat) (so2 : Nat) (no2 : Nat) (co2 : List AV) (eo3 : Nat) (so3 : Nat) (no3 : Nat) (co3 : List AV) (to4 : Nat) (a_x : Int) (eo5 : Nat) (so5 : Nat) (no5 : Nat) (co5 : List AV) (hc : BY c) (hL : 1 ≤ L.length ∧ L.length ≤ 100) : CallX Tryz.prog 102 [.ptr 0 0, LI L] [.box 157 [LB c, AI (p : Int), .int .u64 h], .list eo1 so1 no1 co1, .list eo2 so2 no2 co2, .list eo3 so3 no3 co3, .box to4 [AI a_x, .ref 5], .list eo5 so5 no5 co5] (fun (resX : AV) (objX : List AObj) => ∃ v : Int, ∃ p1 : Nat, ∃ h1 : Int, resX = AI v ∧ objX = [.box 157 [LB c, AI (p1 : Int), .int .u64 h1], .list eo1 so1 no1 co1, .list eo2 so2 no2 co2, .list eo3 so3 no3 co3, .box to4 [AI a_x, .ref 5], .list eo5 so5 no5 co5]) := by
 have hcl : c.length ≤ 4096 := hc.1
 have hcb := hc.2
 refine CallX.dropE (CallX.ofF Tryz.func102 rfl (by kernel_rfl) ?_)
 intro usC frC hfC
 refine R.go 10 (k26 (k28b 6 usC frC (nextX_c_roooBo c p h L.length eo1 so1 no1 co1 eo2 so2 no2 co2 eo3 so3 no3 co3 to4 a_x eo5 so5 no5 co5 hc)) ?_)
 rintro _ _ ⟨_, _, ⟨v_1, p1_2, h1_3, f4, rfl, rfl⟩, rfl, rfl⟩
 refine k8 eI L 0 ((v_1).toNat) v_1 (by omega) eI_len ?_
 exact R.go 3 (R.retX (res := AI (L.getD ((v_1).toNat) 0)) (hp' := [.box 157 [LB c, AI (p1_2 : Int), .int .u64 h1_3], .list eo1 so1 no1 co1, .list eo2 so2 no2 co2, .list eo3 so3 no3 co3, .box to4 [AI a_x, .ref 5], .list eo5 so5 no5 co5, .dead]) (by kernel_rfl) (by kernel_rfl) (by kernel_rfl) (by kernel_rfl) ⟨[0, 1, 2, 3, 4, 5], by kernel_rfl, by decide, (L.getD ((v_1).toNat) 0), p1_2, h1_3, by kernel_rfl, by kernel_rfl⟩)

theorem shufX_c_r4 (c : List Int) (p : Nat) (h : Int) (n : Int) (eo1 : Nat) (so1 : Nat) (no1 : Nat) (co1 : List AV) (eo2 : Nat) (so2 : Nat) (no2 : Nat) (co2 : List AV) (eo3 : Nat) (so3 : Nat) (no3 : Nat) (co3 : List AV) (eo4 : Nat) (so4 : Nat) (no4 : Nat) (co4 : List AV) (hc : BY c) (hn : 0 ≤ n ∧ n ≤ 20) : CallX Tryz.prog 322 [.ptr 0 0, AI n] [.box 157 [LB c, AI (p : Int), .int .u64 h], .list eo1 so1 no1 co1, .list eo2 so2 no2 co2, .list eo3 so3 no3 co3, .list eo4 so4 no4 co4] (fun (resX : AV) (objX : List AObj) => ∃ r : List Int, ∃ p1 : Nat, ∃ h1 : Int, ((r.length : Int) = n ∧ RNG n r) ∧ resX = LI r ∧ objX = [.box 157 [LB c, AI (p1 : Int), .int .u64 h1], .list eo1 so1 no1 co1, .list eo2 so2 no2 co2, .list eo3 so3 no3 co3, .list eo4 so4 no4 co4]) := by
 have hcl : c.length ≤ 4096 := hc.1
 have hcb := hc.2
 refine CallX.dropE (CallX.ofF Tryz.func322 rfl (by kernel_rfl) ?_)
 intro usC frC hfC
 refine R.go 15 (k15 ((fun | (i, o) => (⟨(frm 46 [(0, .ptr 0 0), (1, AI n), (5, .ref 6), (6, AI (i : Int))]), [.box 157 [LB c, AI (p : Int), .int .u64 h], .list eo1 so1 no1 co1, .list eo2 so2 no2 co2, .list eo3 so3 no3 co3, .list eo4 so4 no4 co4, .frame usC frC, rowA eI 2 1 o]⟩ : St) : Nat × (List Int) → St)) (fun | (i, o) => ((i : Int) ≤ n) ∧ (o.length = i) ∧ (RNG n o)) (fun | (i, o) => (n - i).toNat) (0, []) [0, 1, 5, 6] none ⟨(by omega), (by rfl), (by exact fun j hj => absurd hj (by simp))⟩ ?_)
 rintro ⟨i, o⟩ ⟨h4_1, h4_2, h4_3⟩ R1 N2
 refine R.go 7 (k3 ((i : Int) < n) (fun c5 => ?_) (fun c5 => ?_))
 ·refine R.go 7 (k12 eI o [(i : Int)] 6 2 1 8 eI_one ?_)
  refine R.kfix 5 (us := usC) (by kernel_rfl) (hfC.kill 6 (Nat.le_of_ble_eq_true (by kernel_rfl))) ?_
  refine R.go 5 (k1 ((i : Int) + 1) ?_)
  exact R.go 2 (k16 R1 (N2 (i + 1, o ++ [(i : Int)]) [0, 1, 5, 6] (some [0, 1, 2, 3, 4, 5, 6]) _ (by kernel_rfl) (canonF (fr := frC) (fun (frX : List AV) => (⟨(frm 46 [(0, .ptr 0 0), (1, AI n), (5, .ref 6), (6, AI ((i : Int) + 1))]), [.box 157 [LB c, AI (p : Int), .int .u64 h], .list eo1 so1 no1 co1, .list eo2 so2 no2 co2, .list eo3 so3 no3 co3, .list eo4 so4 no4 co4, .frame usC frX, rowA eI 2 1 (o ++ [(i : Int)])]⟩ : St)) (hfC.ren _ (by kernel_rfl)) (by kernel_rfl) (by kernel_rfl)) ⟨(by omega), (by (simp <;> omega)), (by exact rng_snoc (by assumption) (by omega) (by omega))⟩ (by show ((n - (i + 1)).toNat) < ((n - i).toNat); omega)))
 ·refine R.go 5 (k1 (n - 1) ?_)
  refine R.go 3 (k15 ((fun | (k, o, q, hq) => (⟨(frm 46 [(0, .ptr 0 0), (5, .ref 6), (7, AI k)]), [.box 157 [LB c, AI (q : Int), .int .u64 hq], .list eo1 so1 no1 co1, .list eo2 so2 no2 co2, .list eo3 so3 no3 co3, .list eo4 so4 no4 co4, .frame usC frC, rowA eI 2 1 o]⟩ : St) : Int × (List Int) × Nat × Int → St)) (fun | (k, o, q, hq) => (-1 ≤ k ∧ k < n) ∧ ((o.length : Int) = n) ∧ (RNG n o)) (fun | (k, o, q, hq) => (k + 1).toNat) ((n - 1), o, p, h) [0, 5, 7] none ⟨(by omega), (by omega), (by assumption)⟩ ?_)
  rintro ⟨k, o, q, hq⟩ ⟨h9_1, h9_2, h9_3⟩ R6 N7
  have hRG := fun (j : Nat) (hj : j < o.length) => (by assumption : RNG n o) j hj
  have hgk := fun h : 0 < k => hRG k.toNat (by omega)
  refine R.go 6 (k3 (k > 0) (fun c10 => ?_) (fun c10 => ?_))
  ·refine R.go 7 (k1 (k + 1) ?_)
   refine k26 (k28b 5 usC frC (nextX_c_r5 c q hq (k + 1) eo1 so1 no1 co1 eo2 so2 no2 co2 eo3 so3 no3 co3 eo4 so4 no4 co4 2 1 o.length (rows eI o) hc)) ?_
   rintro _ _ ⟨_, _, ⟨v_11, p1_12, h1_13, f14, rfl, rfl⟩, rfl, rfl⟩
   refine R.go 6 (k9 6 1 o.length ((k).toNat) k ?_)
   refine k10 o ((k).toNat) ?_
   have hg7 := hgk (by omega)
   have hg8 := hRG (v_11).toNat (by omega)
   refine R.go 8 (k9 6 1 o.length ((v_11).toNat) v_11 ?_)
   refine k10 o ((v_11).toNat) ?_
   refine k9 6 1 o.length ((k).toNat) k ?_
   refine k11 6 2 o ((k).toNat) (o.getD ((v_11).toNat) 0) ?_
   refine R.go 5 (k9 6 1 (o.set ((k).toNat) (o.getD ((v_11).toNat) 0)).length ((v_11).toNat) v_11 ?_ (hj := by first | omega | (simp only [List.length_set]; omega) | (simp <;> omega)))
   refine k11 6 2 (o.set ((k).toNat) (o.getD ((v_11).toNat) 0)) ((v_11).toNat) (o.getD ((k).toNat) 0) ?_ (hj := by first | omega | (simp only [List.length_set]; omega) | (simp <;> omega))
   refine R.go 4 (k1 (k - 1) ?_)
   exact R.go 2 (k16 R6 (N7 (k - 1, (o.set ((k).toNat) (o.getD ((v_11).toNat) 0)).set ((v_11).toNat) (o.getD ((k).toNat) 0), p1_12, h1_13) [0, 5, 7] none _ (by kernel_rfl) (by kernel_rfl) ⟨(by omega), (by (rw [swp_len]; omega)), (by exact rng_set (rng_set (by assumption) (by omega) (by omega)) (by omega) (by omega))⟩ (by show (((k - 1) + 1).toNat) < ((k + 1).toNat); omega)))
  ·refine R.go 6 (k18 6 ?_)
   refine R.kfix 5 (us := usC) (by kernel_rfl) (hfC.frz 6 (LI o) (Nat.le_of_ble_eq_true (by kernel_rfl))) ?_
   exact R.retX (res := LI o) (hp' := [.box 157 [LB c, AI (q : Int), .int .u64 hq], .list eo1 so1 no1 co1, .list eo2 so2 no2 co2, .list eo3 so3 no3 co3, .list eo4 so4 no4 co4, .dead, .dead]) (by kernel_rfl) (by kernel_rfl) (by kernel_rfl) (by kernel_rfl) ⟨[0, 1, 2, 3, 4], by kernel_rfl, by decide, o, q, hq, by exact ⟨by omega, by assumption⟩, by kernel_rfl, by kernel_rfl⟩

theorem shufX_c_r6 (c : List Int) (p : Nat) (h : Int) (n : Int) (eo1 : Nat) (so1 : Nat) (no1 : Nat) (co1 : List AV) (eo2 : Nat) (so2 : Nat) (no2 : Nat) (co2 : List AV) (eo3 : Nat) (so3 : Nat) (no3 : Nat) (co3 : List AV) (eo4 : Nat) (so4 : Nat) (no4 : Nat) (co4 : List AV) (eo5 : Nat) (so5 : Nat) (no5 : Nat) (co5 : List AV) (eo6 : Nat) (so6 : Nat) (no6 : Nat) (co6 : List AV) (hc : BY c) (hn : 0 ≤ n ∧ n ≤ 20) : CallX Tryz.prog 322 [.ptr 0 0, AI n] [.box 157 [LB c, AI (p : Int), .int .u64 h], .list eo1 so1 no1 co1, .list eo2 so2 no2 co2, .list eo3 so3 no3 co3, .list eo4 so4 no4 co4, .list eo5 so5 no5 co5, .list eo6 so6 no6 co6] (fun (resX : AV) (objX : List AObj) => ∃ r : List Int, ∃ p1 : Nat, ∃ h1 : Int, ((r.length : Int) = n ∧ RNG n r) ∧ resX = LI r ∧ objX = [.box 157 [LB c, AI (p1 : Int), .int .u64 h1], .list eo1 so1 no1 co1, .list eo2 so2 no2 co2, .list eo3 so3 no3 co3, .list eo4 so4 no4 co4, .list eo5 so5 no5 co5, .list eo6 so6 no6 co6]) := by
 have hcl : c.length ≤ 4096 := hc.1
 have hcb := hc.2
 refine CallX.dropE (CallX.ofF Tryz.func322 rfl (by kernel_rfl) ?_)
 intro usC frC hfC
 refine R.go 15 (k15 ((fun | (i, o) => (⟨(frm 46 [(0, .ptr 0 0), (1, AI n), (5, .ref 8), (6, AI (i : Int))]), [.box 157 [LB c, AI (p : Int), .int .u64 h], .list eo1 so1 no1 co1, .list eo2 so2 no2 co2, .list eo3 so3 no3 co3, .list eo4 so4 no4 co4, .list eo5 so5 no5 co5, .list eo6 so6 no6 co6, .frame usC frC, rowA eI 2 1 o]⟩ : St) : Nat × (List Int) → St)) (fun | (i, o) => ((i : Int) ≤ n) ∧ (o.length = i) ∧ (RNG n o)) (fun | (i, o) => (n - i).toNat) (0, []) [0, 1, 5, 6] none ⟨(by omega), (by rfl), (by exact fun j hj => absurd hj (by simp))⟩ ?_)
 rintro ⟨i, o⟩ ⟨h4_1, h4_2, h4_3⟩ R1 N2
 refine R.go 7 (k3 ((i : Int) < n) (fun c5 => ?_) (fun c5 => ?_))
 ·refine R.go 7 (k12 eI o [(i : Int)] 8 2 1 8 eI_one ?_)
  refine R.kfix 7 (us := usC) (by kernel_rfl) (hfC.kill 8 (Nat.le_of_ble_eq_true (by kernel_rfl))) ?_
  refine R.go 5 (k1 ((i : Int) + 1) ?_)
  exact R.go 2 (k16 R1 (N2 (i + 1, o ++ [(i : Int)]) [0, 1, 5, 6] (some [0, 1, 2, 3, 4, 5, 6, 7, 8]) _ (by kernel_rfl) (canonF (fr := frC) (fun (frX : List AV) => (⟨(frm 46 [(0, .ptr 0 0), (1, AI n), (5, .ref 8), (6, AI ((i : Int) + 1))]), [.box 157 [LB c, AI (p : Int), .int .u64 h], .list eo1 so1 no1 co1, .list eo2 so2 no2 co2, .list eo3 so3 no3 co3, .list eo4 so4 no4 co4, .list eo5 so5 no5 co5, .list eo6 so6 no6 co6, .frame usC frX, rowA eI 2 1 (o ++ [(i : Int)])]⟩ : St)) (hfC.ren _ (by kernel_rfl)) (by kernel_rfl) (by kernel_rfl)) ⟨(by omega), (by (simp <;> omega)), (by exact rng_snoc (by assumption) (by omega) (by omega))⟩ (by show ((n - (i + 1)).toNat) < ((n - i).toNat); omega)))
 ·refine R.go 5 (k1 (n - 1) ?_)
  refine R.go 3 (k15 ((fun | (k, o, q, hq) => (⟨(frm 46 [(0, .ptr 0 0), (5, .ref 8), (7, AI k)]), [.box 157 [LB c, AI (q : Int), .int .u64 hq], .list eo1 so1 no1 co1, .list eo2 so2 no2 co2, .list eo3 so3 no3 co3, .list eo4 so4 no4 co4, .list eo5 so5 no5 co5, .list eo6 so6 no6 co6, .frame usC frC, rowA eI 2 1 o]⟩ : St) : Int × (List Int) × Nat × Int → St)) (fun | (k, o, q, hq) => (-1 ≤ k ∧ k < n) ∧ ((o.length : Int) = n) ∧ (RNG n o)) (fun | (k, o, q, hq) => (k + 1).toNat) ((n - 1), o, p, h) [0, 5, 7] none ⟨(by omega), (by omega), (by assumption)⟩ ?_)
  rintro ⟨k, o, q, hq⟩ ⟨h9_1, h9_2, h9_3⟩ R6 N7
  have hRG := fun (j : Nat) (hj : j < o.length) => (by assumption : RNG n o) j hj
  have hgk := fun h : 0 < k => hRG k.toNat (by omega)
  refine R.go 6 (k3 (k > 0) (fun c10 => ?_) (fun c10 => ?_))
  ·refine R.go 7 (k1 (k + 1) ?_)
   refine k26 (k28b 7 usC frC (nextX_c_r7 c q hq (k + 1) eo1 so1 no1 co1 eo2 so2 no2 co2 eo3 so3 no3 co3 eo4 so4 no4 co4 eo5 so5 no5 co5 eo6 so6 no6 co6 2 1 o.length (rows eI o) hc)) ?_
   rintro _ _ ⟨_, _, ⟨v_11, p1_12, h1_13, f14, rfl, rfl⟩, rfl, rfl⟩
   refine R.go 6 (k9 8 1 o.length ((k).toNat) k ?_)
   refine k10 o ((k).toNat) ?_
   have hg7 := hgk (by omega)
   have hg8 := hRG (v_11).toNat (by omega)
   refine R.go 8 (k9 8 1 o.length ((v_11).toNat) v_11 ?_)
   refine k10 o ((v_11).toNat) ?_
   refine k9 8 1 o.length ((k).toNat) k ?_
   refine k11 8 2 o ((k).toNat) (o.getD ((v_11).toNat) 0) ?_
   refine R.go 5 (k9 8 1 (o.set ((k).toNat) (o.getD ((v_11).toNat) 0)).length ((v_11).toNat) v_11 ?_ (hj := by first | omega | (simp only [List.length_set]; omega) | (simp <;> omega)))
   refine k11 8 2 (o.set ((k).toNat) (o.getD ((v_11).toNat) 0)) ((v_11).toNat) (o.getD ((k).toNat) 0) ?_ (hj := by first | omega | (simp only [List.length_set]; omega) | (simp <;> omega))
   refine R.go 4 (k1 (k - 1) ?_)
   exact R.go 2 (k16 R6 (N7 (k - 1, (o.set ((k).toNat) (o.getD ((v_11).toNat) 0)).set ((v_11).toNat) (o.getD ((k).toNat) 0), p1_12, h1_13) [0, 5, 7] none _ (by kernel_rfl) (by kernel_rfl) ⟨(by omega), (by (rw [swp_len]; omega)), (by exact rng_set (rng_set (by assumption) (by omega) (by omega)) (by omega) (by omega))⟩ (by show (((k - 1) + 1).toNat) < ((k + 1).toNat); omega)))
  ·refine R.go 6 (k18 8 ?_)
   refine R.kfix 7 (us := usC) (by kernel_rfl) (hfC.frz 8 (LI o) (Nat.le_of_ble_eq_true (by kernel_rfl))) ?_
   exact R.retX (res := LI o) (hp' := [.box 157 [LB c, AI (q : Int), .int .u64 hq], .list eo1 so1 no1 co1, .list eo2 so2 no2 co2, .list eo3 so3 no3 co3, .list eo4 so4 no4 co4, .list eo5 so5 no5 co5, .list eo6 so6 no6 co6, .dead, .dead]) (by kernel_rfl) (by kernel_rfl) (by kernel_rfl) (by kernel_rfl) ⟨[0, 1, 2, 3, 4, 5, 6], by kernel_rfl, by decide, o, q, hq, by exact ⟨by omega, by assumption⟩, by kernel_rfl, by kernel_rfl⟩

theorem someP_c_r3 (c : List Int) (p : Nat) (h : Int) (size : Int) (eo1 : Nat) (so1 : Nat) (no1 : Nat) (co1 : List AV) (eo2 : Nat) (so2 : Nat) (no2 : Nat) (co2 : List AV) (eo3 : Nat) (so3 : Nat) (no3 : Nat) (co3 : List AV) (hc : BY c) (hs : 0 ≤ size ∧ size ≤ 20) : CallX Tryz.prog 230 [.ptr 0 0, AI size] [.box 157 [LB c, AI (p : Int), .int .u64 h], .list eo1 so1 no1 co1, .list eo2 so2 no2 co2, .list eo3 so3 no3 co3] (fun (resX : AV) (objX : List AObj) => ∃ n : Int, ∃ xs : List Int, ∃ p1 : Nat, ∃ h1 : Int, (0 ≤ n ∧ n ≤ size) ∧ ((xs.length : Int) = n) ∧ resX = .agg [AI n, .ref 4] ∧ objX = [.box 157 [LB c, AI (p1 : Int), .int .u64 h1], .list eo1 so1 no1 co1, .list eo2 so2 no2 co2, .list eo3 so3 no3 co3, rowA eI 2 1 xs]) := by
 have hcl : c.length ≤ 4096 := hc.1
 have hcb := hc.2
 refine CallX.dropE (CallX.ofF Tryz.func230 rfl (by kernel_rfl) ?_)
 intro usC frC hfC
 refine R.go 8 (k1 (size + 1) ?_)
 refine k26 (k28a 4 usC frC (k29a 4 35 [AI 0, .nil] (nextX_c_r4 c p h (size + 1) eo1 so1 no1 co1 eo2 so2 no2 co2 eo3 so3 no3 co3 35 2 1 [AI 0, .nil] hc))) ?_
 rintro _ _ ⟨_, _, ⟨_, ⟨v_1, p1_2, h1_3, f4, rfl, rfl⟩, rfl⟩, rfl, rfl⟩
 have hb : 1 ≤ shl64 1 v_1 ∧ shl64 1 v_1 ≤ 4611686018427387904 := shl_rng v_1 (by omega) (by omega)
 refine R.go 10 (k26 (k28a 4 usC frC (k29a 4 35 [AI 0, .nil] (nextX_c_r5 c p1_2 h1_3 3 eo1 so1 no1 co1 eo2 so2 no2 co2 eo3 so3 no3 co3 35 2 1 [AI 0, .nil] 2 1 0 (rows eI []) hc))) ?_)
 rintro _ _ ⟨_, _, ⟨_, ⟨v_5, p1_6, h1_7, f8, rfl, rfl⟩, rfl⟩, rfl, rfl⟩
 refine R.go 8 (k15 ((fun | (x, ys, q, k) => (⟨(frm 63 [(0, .ptr 0 0), (4, .ptr 5 0), (5, AI v_1), (6, .ref 6), (7, AI v_5), (8, AI (x : Int))]), [.box 157 [LB c, AI (q : Int), .int .u64 k], .list eo1 so1 no1 co1, .list eo2 so2 no2 co2, .list eo3 so3 no3 co3, .frame usC frC, .box 35 [AI 0, .nil], rowA eI 2 1 ys]⟩ : St) : Nat × (List Int) × Nat × Int → St)) (fun | (x, ys, q, k) => ((x : Int) ≤ v_1) ∧ (ys.length = x)) (fun | (x, ys, q, k) => (v_1 - x).toNat) (0, [], p1_6, h1_7) [0, 4, 5, 6, 7, 8] none ⟨(by omega), (by rfl)⟩ ?_)
 rintro ⟨x, ys, q, k⟩ ⟨h12_1, h12_2⟩ R9 N10
 refine R.go 7 (k3 ((x : Int) < v_1) (fun c13 => ?_) (fun c13 => ?_))
 ·refine R.go 7 (k14 true (l01Full_c v_1 (by first | omega | (simp only [refI_len, wout_len]; omega) | (simp <;> omega)) (by first | omega | (simp only [refI_len, wout_len]; omega) | (simp <;> omega))) rfl ?_)
  refine k1 (((shl64 1 v_1) - 1) + 1) ?_
  refine k26 (k28a 4 usC frC (k29a 4 35 [AI 0, .nil] (nextX_c_r5 c q k (((shl64 1 v_1) - 1) + 1) eo1 so1 no1 co1 eo2 so2 no2 co2 eo3 so3 no3 co3 35 2 1 [AI 0, .nil] 2 1 ys.length (rows eI ys) hc))) ?_
  rintro _ _ ⟨_, _, ⟨_, ⟨v_14, p1_15, h1_16, f17, rfl, rfl⟩, rfl⟩, rfl, rfl⟩
  refine R.go 1 (k1 ((x : Int) + 1) ?_)
  refine k14 true (l01Full_c ((x : Int) + 1) (by first | omega | (simp only [refI_len, wout_len]; omega) | (simp <;> omega)) (by first | omega | (simp only [refI_len, wout_len]; omega) | (simp <;> omega))) rfl ?_
  refine R.go 9 (k15 ((fun | (j, m, q2, k2) => (⟨(frm 63 [(0, .ptr 0 0), (4, .ptr 5 0), (5, AI v_1), (6, .ref 6), (7, AI v_5), (8, AI (x : Int)), (9, AI m), (10, AI (j : Int))]), [.box 157 [LB c, AI (q2 : Int), .int .u64 k2], .list eo1 so1 no1 co1, .list eo2 so2 no2 co2, .list eo3 so3 no3 co3, .frame usC frC, .box 35 [AI 0, .nil], rowA eI 2 1 ys]⟩ : St) : Nat × Int × Nat × Int → St)) (fun | (j, m, q2, k2) => True) (fun | (j, m, q2, k2) => (v_5 - j).toNat) (0, (bnot v_14 ((shl64 1 ((x : Int) + 1)) - 1)), p1_15, h1_16) [0, 4, 5, 6, 7, 8, 9, 10] none trivial ?_)
  rintro ⟨j, m, q2, k2⟩ _ R18 N19
  refine R.go 7 (k3 ((j : Int) < v_5) (fun c22 => ?_) (fun c22 => ?_))
  ·refine R.go 7 (k14 true (l01Full_c v_1 (by first | omega | (simp only [refI_len, wout_len]; omega) | (simp <;> omega)) (by first | omega | (simp only [refI_len, wout_len]; omega) | (simp <;> omega))) rfl ?_)
   refine k1 (((shl64 1 v_1) - 1) + 1) ?_
   refine k26 (k28a 4 usC frC (k29a 4 35 [AI 0, .nil] (nextX_c_r5 c q2 k2 (((shl64 1 v_1) - 1) + 1) eo1 so1 no1 co1 eo2 so2 no2 co2 eo3 so3 no3 co3 35 2 1 [AI 0, .nil] 2 1 ys.length (rows eI ys) hc))) ?_
   rintro _ _ ⟨_, _, ⟨_, ⟨v_23, p1_24, h1_25, f26, rfl, rfl⟩, rfl⟩, rfl, rfl⟩
   refine R.go 6 (k1 ((j : Int) + 1) ?_)
   exact R.go 2 (k16 R18 (N19 (j + 1, band m v_23, p1_24, h1_25) [0, 4, 5, 6, 7, 8, 9, 10] none _ (by kernel_rfl) (by kernel_rfl) trivial (by show ((v_5 - (j + 1)).toNat) < ((v_5 - j).toNat); omega)))
  ·refine R.go 5 (k12 eI ys [m] 6 2 1 8 eI_one ?_)
   refine R.kfix 4 (us := usC) (by kernel_rfl) (hfC.kill 6 (Nat.le_of_ble_eq_true (by kernel_rfl))) ?_
   refine R.go 5 (k1 ((x : Int) + 1) ?_)
   exact R.go 2 (k16 R9 (N10 (x + 1, ys ++ [m], q2, k2) [0, 4, 5, 6, 7, 8] (some [0, 1, 2, 3, 4, 5, 6]) _ (by kernel_rfl) (canonF (fr := frC) (fun (frX : List AV) => (⟨(frm 63 [(0, .ptr 0 0), (4, .ptr 5 0), (5, AI v_1), (6, .ref 6), (7, AI v_5), (8, AI ((x : Int) + 1))]), [.box 157 [LB c, AI (q2 : Int), .int .u64 k2], .list eo1 so1 no1 co1, .list eo2 so2 no2 co2, .list eo3 so3 no3 co3, .frame usC frX, .box 35 [AI 0, .nil], rowA eI 2 1 (ys ++ [m])]⟩ : St)) (hfC.ren _ (by kernel_rfl)) (by kernel_rfl) (by kernel_rfl)) ⟨(by omega), (by (simp <;> omega))⟩ (by show ((v_1 - (x + 1)).toNat) < ((v_1 - x).toNat); omega)))
 ·refine R.go 4 (k18 6 ?_)
  refine R.kfix 4 (us := usC) (by kernel_rfl) (hfC.frz 6 (LI ys) (Nat.le_of_ble_eq_true (by kernel_rfl))) ?_
  refine k14 true (l01Refl_c ys (by first | omega | (simp only [refI_len, wout_len]; omega) | (simp <;> omega))).frz rfl ?_
  refine k14 true (l01Clos_c (refI ys ys.length) (by first | omega | (simp only [refI_len, wout_len]; omega) | (simp <;> omega))).frz rfl ?_
  refine R.go 6 (R.deadF 6 (by kernel_rfl) (by kernel_rfl) ?_)
  refine k26 (k28c 4 usC frC (k28a 5 [] [] (k29a 4 35 [AI 0, .nil] (nextX_c_r4 c q k 2 eo1 so1 no1 co1 eo2 so2 no2 co2 eo3 so3 no3 co3 35 2 1 [AI 0, .nil] hc)))) ?_
  rintro _ _ ⟨_, _, ⟨_, _, ⟨_, ⟨v_27, p1_28, h1_29, f30, rfl, rfl⟩, rfl⟩, rfl, rfl⟩, rfl, rfl⟩
  refine R.go 2 (k3 (v_27 = 0) (fun c31 => ?_) (fun c31 => ?_))
  ·refine R.go 3 (k14 true (l16Make_c (wout (refI ys ys.length) (refI ys ys.length).length) (by first | omega | (simp only [refI_len, wout_len]; omega) | (simp <;> omega))) rfl ?_)
   exact R.go 2 (R.retX (res := .agg [AI ((wout (refI ys ys.length) (refI ys ys.length).length).length), .ref 7]) (hp' := [.box 157 [LB c, AI (p1_28 : Int), .int .u64 h1_29], .list eo1 so1 no1 co1, .list eo2 so2 no2 co2, .list eo3 so3 no3 co3, .dead, .box 35 [AI ((wout (refI ys ys.length) (refI ys ys.length).length).length), .ref 7], .frame [] [], rowA eI 2 1 (wout (refI ys ys.length) (refI ys ys.length).length)]) (by kernel_rfl) (by kernel_rfl) (by kernel_rfl) (by kernel_rfl) ⟨[0, 1, 2, 3, 7], by kernel_rfl, by decide, (wout (refI ys ys.length) (refI ys ys.length).length).length, wout (refI ys ys.length) (refI ys ys.length).length, p1_28, h1_29, by first | omega | (simp only [refI_len, wout_len]; done) | (simp only [refI_len, wout_len]; omega), by first | omega | (simp only [refI_len, wout_len]; done) | (simp only [refI_len, wout_len]; omega), by kernel_rfl, by kernel_rfl⟩)
  ·refine R.go 6 (k26 (k28c 4 usC frC (k28a 5 [] [] (k29a 4 35 [AI 0, .nil] (shufX_c_r4 c p1_28 h1_29 v_1 eo1 so1 no1 co1 eo2 so2 no2 co2 eo3 so3 no3 co3 35 2 1 [AI 0, .nil] hc (by first | omega | (simp only [refI_len, wout_len]; omega) | (simp <;> omega)))))) ?_)
   rintro _ _ ⟨_, _, ⟨_, _, ⟨_, ⟨r_32, p1_33, h1_34, f35, rfl, rfl⟩, rfl⟩, rfl, rfl⟩, rfl, rfl⟩
   have hsf := (by assumption : ((r_32).length : Int) = v_1 ∧ RNG v_1 r_32)
   have hsl := hsf.1
   have hwl : (((wout (refI ys ys.length) (refI ys ys.length).length)).length : Int) = v_1 := by (simp only [refI_len, wout_len]; omega)
   have hsr : ∀ j : Nat, j < (r_32).length → 0 ≤ (r_32).getD j 0 ∧ (r_32).getD j 0 < ((((wout (refI ys ys.length) (refI ys ys.length).length)).length : Nat) : Int) := fun j hj => by have := hsf.2 j hj; omega
   refine R.callX0 (renX_c (wout (refI ys ys.length) (refI ys ys.length).length) r_32 (by assumption) (by first | omega | (simp only [refI_len, wout_len]; omega) | (simp <;> omega))) (by kernel_rfl) (by rintro _ _ ⟨_, _, rfl, rfl⟩; rfl) (by kernel_rfl) (by kernel_rfl) ?_
   rintro _ ⟨r_36, f37, rfl, _⟩
   refine k14 true (l16Make_c r_36 (by first | omega | (simp only [refI_len, wout_len]; omega) | (simp <;> omega))) rfl ?_
   exact R.go 2 (R.retX (res := .agg [AI r_36.length, .ref 7]) (hp' := [.box 157 [LB c, AI (p1_33 : Int), .int .u64 h1_34], .list eo1 so1 no1 co1, .list eo2 so2 no2 co2, .list eo3 so3 no3 co3, .dead, .box 35 [AI r_36.length, .ref 7], .frame [] [], rowA eI 2 1 r_36]) (by kernel_rfl) (by kernel_rfl) (by kernel_rfl) (by kernel_rfl) ⟨[0, 1, 2, 3, 7], by kernel_rfl, by decide, r_36.length, r_36, p1_33, h1_34, by first | omega | (simp only [refI_len, wout_len]; done) | (simp only [refI_len, wout_len]; omega), by first | omega | (simp only [refI_len, wout_len]; done) | (simp only [refI_len, wout_len]; omega), by kernel_rfl, by kernel_rfl⟩)

theorem someP_c_r5 (c : List Int) (p : Nat) (h : Int) (size : Int) (eo1 : Nat) (so1 : Nat) (no1 : Nat) (co1 : List AV) (eo2 : Nat) (so2 : Nat) (no2 : Nat) (co2 : List AV) (eo3 : Nat) (so3 : Nat) (no3 : Nat) (co3 : List AV) (eo4 : Nat) (so4 : Nat) (no4 : Nat) (co4 : List AV) (eo5 : Nat) (so5 : Nat) (no5 : Nat) (co5 : List AV) (hc : BY c) (hs : 0 ≤ size ∧ size ≤ 20) : CallX Tryz.prog 230 [.ptr 0 0, AI size] [.box 157 [LB c, AI (p : Int), .int .u64 h], .list eo1 so1 no1 co1, .list eo2 so2 no2 co2, .list eo3 so3 no3 co3, .list eo4 so4 no4 co4, .list eo5 so5 no5 co5] (fun (resX : AV) (objX : List AObj) => ∃ n : Int, ∃ xs : List Int, ∃ p1 : Nat, ∃ h1 : Int, (0 ≤ n ∧ n ≤ size) ∧ ((xs.length : Int) = n) ∧ resX = .agg [AI n, .ref 6] ∧ objX = [.box 157 [LB c, AI (p1 : Int), .int .u64 h1], .list eo1 so1 no1 co1, .list eo2 so2 no2 co2, .list eo3 so3 no3 co3, .list eo4 so4 no4 co4, .list eo5 so5 no5 co5, rowA eI 2 1 xs]) := by
 have hcl : c.length ≤ 4096 := hc.1
 have hcb := hc.2
 refine CallX.dropE (CallX.ofF Tryz.func230 rfl (by kernel_rfl) ?_)
 intro usC frC hfC
 refine R.go 8 (k1 (size + 1) ?_)
 refine k26 (k28a 6 usC frC (k29a 6 35 [AI 0, .nil] (nextX_c_r6 c p h (size + 1) eo1 so1 no1 co1 eo2 so2 no2 co2 eo3 so3 no3 co3 eo4 so4 no4 co4 eo5 so5 no5 co5 35 2 1 [AI 0, .nil] hc))) ?_
 rintro _ _ ⟨_, _, ⟨_, ⟨v_1, p1_2, h1_3, f4, rfl, rfl⟩, rfl⟩, rfl, rfl⟩
 have hb : 1 ≤ shl64 1 v_1 ∧ shl64 1 v_1 ≤ 4611686018427387904 := shl_rng v_1 (by omega) (by omega)
 refine R.go 10 (k26 (k28a 6 usC frC (k29a 6 35 [AI 0, .nil] (nextX_c_r7 c p1_2 h1_3 3 eo1 so1 no1 co1 eo2 so2 no2 co2 eo3 so3 no3 co3 eo4 so4 no4 co4 eo5 so5 no5 co5 35 2 1 [AI 0, .nil] 2 1 0 (rows eI []) hc))) ?_)
 rintro _ _ ⟨_, _, ⟨_, ⟨v_5, p1_6, h1_7, f8, rfl, rfl⟩, rfl⟩, rfl, rfl⟩
 refine R.go 8 (k15 ((fun | (x, ys, q, k) => (⟨(frm 63 [(0, .ptr 0 0), (4, .ptr 7 0), (5, AI v_1), (6, .ref 8), (7, AI v_5), (8, AI (x : Int))]), [.box 157 [LB c, AI (q : Int), .int .u64 k], .list eo1 so1 no1 co1, .list eo2 so2 no2 co2, .list eo3 so3 no3 co3, .list eo4 so4 no4 co4, .list eo5 so5 no5 co5, .frame usC frC, .box 35 [AI 0, .nil], rowA eI 2 1 ys]⟩ : St) : Nat × (List Int) × Nat × Int → St)) (fun | (x, ys, q, k) => ((x : Int) ≤ v_1) ∧ (ys.length = x)) (fun | (x, ys, q, k) => (v_1 - x).toNat) (0, [], p1_6, h1_7) [0, 4, 5, 6, 7, 8] none ⟨(by omega), (by rfl)⟩ ?_)
 rintro ⟨x, ys, q, k⟩ ⟨h12_1, h12_2⟩ R9 N10
 refine R.go 7 (k3 ((x : Int) < v_1) (fun c13 => ?_) (fun c13 => ?_))
 ·refine R.go 7 (k14 true (l01Full_c v_1 (by first | omega | (simp only [refI_len, wout_len]; omega) | (simp <;> omega)) (by first | omega | (simp only [refI_len, wout_len]; omega) | (simp <;> omega))) rfl ?_)
  refine k1 (((shl64 1 v_1) - 1) + 1) ?_
  refine k26 (k28a 6 usC frC (k29a 6 35 [AI 0, .nil] (nextX_c_r7 c q k (((shl64 1 v_1) - 1) + 1) eo1 so1 no1 co1 eo2 so2 no2 co2 eo3 so3 no3 co3 eo4 so4 no4 co4 eo5 so5 no5 co5 35 2 1 [AI 0, .nil] 2 1 ys.length (rows eI ys) hc))) ?_
  rintro _ _ ⟨_, _, ⟨_, ⟨v_14, p1_15, h1_16, f17, rfl, rfl⟩, rfl⟩, rfl, rfl⟩
  refine R.go 1 (k1 ((x : Int) + 1) ?_)
  refine k14 true (l01Full_c ((x : Int) + 1) (by first | omega | (simp only [refI_len, wout_len]; omega) | (simp <;> omega)) (by first | omega | (simp only [refI_len, wout_len]; omega) | (simp <;> omega))) rfl ?_
  refine R.go 9 (k15 ((fun | (j, m, q2, k2) => (⟨(frm 63 [(0, .ptr 0 0), (4, .ptr 7 0), (5, AI v_1), (6, .ref 8), (7, AI v_5), (8, AI (x : Int)), (9, AI m), (10, AI (j : Int))]), [.box 157 [LB c, AI (q2 : Int), .int .u64 k2], .list eo1 so1 no1 co1, .list eo2 so2 no2 co2, .list eo3 so3 no3 co3, .list eo4 so4 no4 co4, .list eo5 so5 no5 co5, .frame usC frC, .box 35 [AI 0, .nil], rowA eI 2 1 ys]⟩ : St) : Nat × Int × Nat × Int → St)) (fun | (j, m, q2, k2) => True) (fun | (j, m, q2, k2) => (v_5 - j).toNat) (0, (bnot v_14 ((shl64 1 ((x : Int) + 1)) - 1)), p1_15, h1_16) [0, 4, 5, 6, 7, 8, 9, 10] none trivial ?_)
  rintro ⟨j, m, q2, k2⟩ _ R18 N19
  refine R.go 7 (k3 ((j : Int) < v_5) (fun c22 => ?_) (fun c22 => ?_))
  ·refine R.go 7 (k14 true (l01Full_c v_1 (by first | omega | (simp only [refI_len, wout_len]; omega) | (simp <;> omega)) (by first | omega | (simp only [refI_len, wout_len]; omega) | (simp <;> omega))) rfl ?_)
   refine k1 (((shl64 1 v_1) - 1) + 1) ?_
   refine k26 (k28a 6 usC frC (k29a 6 35 [AI 0, .nil] (nextX_c_r7 c q2 k2 (((shl64 1 v_1) - 1) + 1) eo1 so1 no1 co1 eo2 so2 no2 co2 eo3 so3 no3 co3 eo4 so4 no4 co4 eo5 so5 no5 co5 35 2 1 [AI 0, .nil] 2 1 ys.length (rows eI ys) hc))) ?_
   rintro _ _ ⟨_, _, ⟨_, ⟨v_23, p1_24, h1_25, f26, rfl, rfl⟩, rfl⟩, rfl, rfl⟩
   refine R.go 6 (k1 ((j : Int) + 1) ?_)
   exact R.go 2 (k16 R18 (N19 (j + 1, band m v_23, p1_24, h1_25) [0, 4, 5, 6, 7, 8, 9, 10] none _ (by kernel_rfl) (by kernel_rfl) trivial (by show ((v_5 - (j + 1)).toNat) < ((v_5 - j).toNat); omega)))
  ·refine R.go 5 (k12 eI ys [m] 8 2 1 8 eI_one ?_)
   refine R.kfix 6 (us := usC) (by kernel_rfl) (hfC.kill 8 (Nat.le_of_ble_eq_true (by kernel_rfl))) ?_
   refine R.go 5 (k1 ((x : Int) + 1) ?_)
   exact R.go 2 (k16 R9 (N10 (x + 1, ys ++ [m], q2, k2) [0, 4, 5, 6, 7, 8] (some [0, 1, 2, 3, 4, 5, 6, 7, 8]) _ (by kernel_rfl) (canonF (fr := frC) (fun (frX : List AV) => (⟨(frm 63 [(0, .ptr 0 0), (4, .ptr 7 0), (5, AI v_1), (6, .ref 8), (7, AI v_5), (8, AI ((x : Int) + 1))]), [.box 157 [LB c, AI (q2 : Int), .int .u64 k2], .list eo1 so1 no1 co1, .list eo2 so2 no2 co2, .list eo3 so3 no3 co3, .list eo4 so4 no4 co4, .list eo5 so5 no5 co5, .frame usC frX, .box 35 [AI 0, .nil], rowA eI 2 1 (ys ++ [m])]⟩ : St)) (hfC.ren _ (by kernel_rfl)) (by kernel_rfl) (by kernel_rfl)) ⟨(by omega), (by (simp <;> omega))⟩ (by show ((v_1 - (x + 1)).toNat) < ((v_1 - x).toNat); omega)))
 ·refine R.go 4 (k18 8 ?_)
  refine R.kfix 6 (us := usC) (by kernel_rfl) (hfC.frz 8 (LI ys) (Nat.le_of_ble_eq_true (by kernel_rfl))) ?_
  refine k14 true (l01Refl_c ys (by first | omega | (simp only [refI_len, wout_len]; omega) | (simp <;> omega))).frz rfl ?_
  refine k14 true (l01Clos_c (refI ys ys.length) (by first | omega | (simp only [refI_len, wout_len]; omega) | (simp <;> omega))).frz rfl ?_
  refine R.go 6 (R.deadF 8 (by kernel_rfl) (by kernel_rfl) ?_)
  refine k26 (k28c 6 usC frC (k28a 7 [] [] (k29a 6 35 [AI 0, .nil] (nextX_c_r6 c q k 2 eo1 so1 no1 co1 eo2 so2 no2 co2 eo3 so3 no3 co3 eo4 so4 no4 co4 eo5 so5 no5 co5 35 2 1 [AI 0, .nil] hc)))) ?_
  rintro _ _ ⟨_, _, ⟨_, _, ⟨_, ⟨v_27, p1_28, h1_29, f30, rfl, rfl⟩, rfl⟩, rfl, rfl⟩, rfl, rfl⟩
  refine R.go 2 (k3 (v_27 = 0) (fun c31 => ?_) (fun c31 => ?_))
  ·refine R.go 3 (k14 true (l16Make_c (wout (refI ys ys.length) (refI ys ys.length).length) (by first | omega | (simp only [refI_len, wout_len]; omega) | (simp <;> omega))) rfl ?_)
   exact R.go 2 (R.retX (res := .agg [AI ((wout (refI ys ys.length) (refI ys ys.length).length).length), .ref 9]) (hp' := [.box 157 [LB c, AI (p1_28 : Int), .int .u64 h1_29], .list eo1 so1 no1 co1, .list eo2 so2 no2 co2, .list eo3 so3 no3 co3, .list eo4 so4 no4 co4, .list eo5 so5 no5 co5, .dead, .box 35 [AI ((wout (refI ys ys.length) (refI ys ys.length).length).length), .ref 9], .frame [] [], rowA eI 2 1 (wout (refI ys ys.length) (refI ys ys.length).length)]) (by kernel_rfl) (by kernel_rfl) (by kernel_rfl) (by kernel_rfl) ⟨[0, 1, 2, 3, 4, 5, 9], by kernel_rfl, by decide, (wout (refI ys ys.length) (refI ys ys.length).length).length, wout (refI ys ys.length) (refI ys ys.length).length, p1_28, h1_29, by first | omega | (simp only [refI_len, wout_len]; done) | (simp only [refI_len, wout_len]; omega), by first | omega | (simp only [refI_len, wout_len]; done) | (simp only [refI_len, wout_len]; omega), by kernel_rfl, by kernel_rfl⟩)
  ·refine R.go 6 (k26 (k28c 6 usC frC (k28a 7 [] [] (k29a 6 35 [AI 0, .nil] (shufX_c_r6 c p1_28 h1_29 v_1 eo1 so1 no1 co1 eo2 so2 no2 co2 eo3 so3 no3 co3 eo4 so4 no4 co4 eo5 so5 no5 co5 35 2 1 [AI 0, .nil] hc (by first | omega | (simp only [refI_len, wout_len]; omega) | (simp <;> omega)))))) ?_)
   rintro _ _ ⟨_, _, ⟨_, _, ⟨_, ⟨r_32, p1_33, h1_34, f35, rfl, rfl⟩, rfl⟩, rfl, rfl⟩, rfl, rfl⟩
   have hsf := (by assumption : ((r_32).length : Int) = v_1 ∧ RNG v_1 r_32)
   have hsl := hsf.1
   have hwl : (((wout (refI ys ys.length) (refI ys ys.length).length)).length : Int) = v_1 := by (simp only [refI_len, wout_len]; omega)
   have hsr : ∀ j : Nat, j < (r_32).length → 0 ≤ (r_32).getD j 0 ∧ (r_32).getD j 0 < ((((wout (refI ys ys.length) (refI ys ys.length).length)).length : Nat) : Int) := fun j hj => by have := hsf.2 j hj; omega
   refine R.callX0 (renX_c (wout (refI ys ys.length) (refI ys ys.length).length) r_32 (by assumption) (by first | omega | (simp only [refI_len, wout_len]; omega) | (simp <;> omega))) (by kernel_rfl) (by rintro _ _ ⟨_, _, rfl, rfl⟩; rfl) (by kernel_rfl) (by kernel_rfl) ?_
   rintro _ ⟨r_36, f37, rfl, _⟩
   refine k14 true (l16Make_c r_36 (by first | omega | (simp only [refI_len, wout_len]; omega) | (simp <;> omega))) rfl ?_
   exact R.go 2 (R.retX (res := .agg [AI r_36.length, .ref 9]) (hp' := [.box 157 [LB c, AI (p1_33 : Int), .int .u64 h1_34], .list eo1 so1 no1 co1, .list eo2 so2 no2 co2, .list eo3 so3 no3 co3, .list eo4 so4 no4 co4, .list eo5 so5 no5 co5, .dead, .box 35 [AI r_36.length, .ref 9], .frame [] [], rowA eI 2 1 r_36]) (by kernel_rfl) (by kernel_rfl) (by kernel_rfl) (by kernel_rfl) ⟨[0, 1, 2, 3, 4, 5, 9], by kernel_rfl, by decide, r_36.length, r_36, p1_33, h1_34, by first | omega | (simp only [refI_len, wout_len]; done) | (simp only [refI_len, wout_len]; omega), by first | omega | (simp only [refI_len, wout_len]; done) | (simp only [refI_len, wout_len]; omega), by kernel_rfl, by kernel_rfl⟩)

theorem rootP_c_r4 (c : List Int) (p : Nat) (h : Int) (size : Int) (eo1 : Nat) (so1 : Nat) (no1 : Nat) (co1 : List AV) (eo2 : Nat) (so2 : Nat) (no2 : Nat) (co2 : List AV) (eo3 : Nat) (so3 : Nat) (no3 : Nat) (co3 : List AV) (eo4 : Nat) (so4 : Nat) (no4 : Nat) (co4 : List AV) (hc : BY c) (hs : 1 ≤ size ∧ size ≤ 20) : CallX Tryz.prog 231 [.ptr 0 0, AI size] [.box 157 [LB c, AI (p : Int), .int .u64 h], .list eo1 so1 no1 co1, .list eo2 so2 no2 co2, .list eo3 so3 no3 co3, .list eo4 so4 no4 co4] (fun (resX : AV) (objX : List AObj) => ∃ n : Int, ∃ xs : List Int, ∃ p1 : Nat, ∃ h1 : Int, (0 ≤ n ∧ n ≤ size) ∧ ((xs.length : Int) = n) ∧ resX = .agg [AI n, .ref 5] ∧ objX = [.box 157 [LB c, AI (p1 : Int), .int .u64 h1], .list eo1 so1 no1 co1, .list eo2 so2 no2 co2, .list eo3 so3 no3 co3, .list eo4 so4 no4 co4, rowA eI 2 1 xs]) := by
 have hcl : c.length ≤ 4096 := hc.1
 have hcb := hc.2
 refine CallX.dropE (CallX.ofF Tryz.func231 rfl (by kernel_rfl) ?_)
 intro usC frC hfC
 refine R.go 6 (R.lit (s := 1) (n := 1) (cs := rows eI [1]) (by kernel_rfl) (by kernel_rfl) ?_)
 refine k14 true (l16Make_c [1] (by first | omega | (simp; omega) | (simp <;> omega))).frz rfl ?_
 refine R.go 2 (k1 (size - 1) ?_)
 refine k26 (k28g 5 usC frC (k29c 5 35 [AI 0, .nil] (someP_c_r5 c p h (size - 1) eo1 so1 no1 co1 eo2 so2 no2 co2 eo3 so3 no3 co3 eo4 so4 no4 co4 35 2 1 [AI 0, .nil] hc (by first | omega | (simp; omega) | (simp <;> omega))))) ?_
 rintro _ _ ⟨_, _, ⟨_, ⟨n_1, xs_2, p1_3, h1_4, f5, f6, rfl, rfl⟩, rfl⟩, rfl, rfl⟩
 refine k14 false (joinD_c ([1].length) [1] n_1 xs_2 (by first | omega | (simp; omega))) (by simp [AV.closed, closedL, AI, ownA_closed eI_closed]) ?_
 exact R.go 2 (R.retX (res := .agg [AI ((stL ([1].length) [1] n_1 xs_2).length), .ref 8]) (hp' := [.box 157 [LB c, AI (p1_3 : Int), .int .u64 h1_4], .list eo1 so1 no1 co1, .list eo2 so2 no2 co2, .list eo3 so3 no3 co3, .list eo4 so4 no4 co4, .dead, .box 35 [AI ((stL ([1].length) [1] n_1 xs_2).length), .ref 8], rowA eI 2 1 xs_2, rowA eI 2 1 (stL ([1].length) [1] n_1 xs_2)]) (by kernel_rfl) (by kernel_rfl) (by kernel_rfl) (by kernel_rfl) ⟨[0, 1, 2, 3, 4, 8], by kernel_rfl, by decide, (stL ([1].length) [1] n_1 xs_2).length, stL ([1].length) [1] n_1 xs_2, p1_3, h1_4, by first | omega | (rw [stL_len]; simp; omega) | (rw [stL_len]; done), by first | omega | (rw [stL_len]; simp; omega) | (rw [stL_len]; done), by kernel_rfl, by kernel_rfl⟩)

theorem drawP_c_r2 (c : List Int) (p : Nat) (h : Int) (size : Int) (eo1 : Nat) (so1 : Nat) (no1 : Nat) (co1 : List AV) (eo2 : Nat) (so2 : Nat) (no2 : Nat) (co2 : List AV) (hc : BY c) (hs : 1 ≤ size ∧ size ≤ 19) : CallX Tryz.prog 152 [.ptr 0 0, AI size] [.box 157 [LB c, AI (p : Int), .int .u64 h], .list eo1 so1 no1 co1, .list eo2 so2 no2 co2] (fun (resX : AV) (objX : List AObj) => ∃ n : Int, ∃ xs : List Int, ∃ p1 : Nat, ∃ h1 : Int, ((xs.length : Int) ≤ size + 1) ∧ resX = .agg [AI n, LI xs] ∧ objX = [.box 157 [LB c, AI (p1 : Int), .int .u64 h1], .list eo1 so1 no1 co1, .list eo2 so2 no2 co2]) := by
 have hcl : c.length ≤ 4096 := hc.1
 have hcb := hc.2
 refine CallX.dropE (CallX.ofF Tryz.func152 rfl (by kernel_rfl) ?_)
 intro usC frC hfC
 refine R.go 8 (k26 (k28g 3 usC frC (k29c 3 35 [AI 0, .nil] (someP_c_r3 c p h size eo1 so1 no1 co1 eo2 so2 no2 co2 35 2 1 [AI 0, .nil] hc (by omega)))) ?_)
 rintro _ _ ⟨_, _, ⟨_, ⟨n_1, xs_2, p1_3, h1_4, f5, f6, rfl, rfl⟩, rfl⟩, rfl, rfl⟩
 refine R.go 7 (k26 (k28a 3 usC frC (k29a 3 35 [AI 0, .nil] (nextX_c_r4b c p1_3 h1_4 3 eo1 so1 no1 co1 eo2 so2 no2 co2 35 2 1 [AI 0, .nil] 2 1 xs_2.length (rows eI xs_2) 35 n_1 hc))) ?_)
 rintro _ _ ⟨_, _, ⟨_, ⟨v_7, p1_8, h1_9, f10, rfl, rfl⟩, rfl⟩, rfl, rfl⟩
 refine R.go 2 (k3 (v_7 = 0) (fun c11 => ?_) (fun c11 => ?_))
 ·refine R.go 1 (k18 5 ?_)
  refine R.kfix 3 (us := usC) (by kernel_rfl) (hfC.frz 5 (LI xs_2) (Nat.le_of_ble_eq_true (by kernel_rfl))) ?_
  refine R.go 2 (R.deadF 5 (by kernel_rfl) (by kernel_rfl) ?_)
  refine k26 (k28l 3 usC frC (k28a 4 [] [] (k29g 4 35 [AI n_1, LI xs_2] (k29c 3 35 [AI 0, .nil] (rootP_c_r4 c p1_8 h1_9 size eo1 so1 no1 co1 eo2 so2 no2 co2 35 2 1 [AI 0, .nil] 35 2 1 [AI n_1, LI xs_2] hc (by omega)))) (h3 := by rintro _ _ ⟨_, ⟨_, ⟨_, _, _, _, _, _, rfl, rfl⟩, rfl⟩, rfl⟩; exact Nat.le_of_ble_eq_true (by kernel_rfl)))) ?_
  rintro _ _ ⟨_, _, ⟨_, _, ⟨_, ⟨_, ⟨n_12, xs_13, p1_14, h1_15, f16, f17, rfl, rfl⟩, rfl⟩, rfl⟩, rfl, rfl⟩, rfl, rfl⟩
  have hbp : 1 ≤ shl64 1 n_12 ∧ shl64 1 n_12 ≤ 4611686018427387904 := shl_rng n_12 (by omega) (by omega)
  refine R.go 6 (k26 (k28c 3 usC frC (k28a 4 [] [] (k29a 3 35 [AI 0, .nil] (nextX_c_roooBo c p1_14 h1_15 40 eo1 so1 no1 co1 eo2 so2 no2 co2 35 2 1 [AI 0, .nil] 35 n_12 2 1 xs_13.length (rows eI xs_13) hc)))) ?_)
  rintro _ _ ⟨_, _, ⟨_, _, ⟨_, ⟨v_18, p1_19, h1_20, f21, rfl, rfl⟩, rfl⟩, rfl, rfl⟩, rfl, rfl⟩
  refine R.go 7 (k3 (v_18 = 0) (fun c22 => ?_) (fun c22 => ?_))
  ·refine R.go 4 (k1 (n_12 + 1) ?_)
   refine R.lit (s := 1) (n := 3) (cs := rows eI [(-1), 9, n_12 + 1]) (by kernel_rfl) (by kernel_rfl) ?_
   refine k26 (k28a 3 usC frC (k28h 4 [] [] (k29e 3 35 [AI 0, .nil] (pickX_c_roooBo c p1_19 h1_20 [(-1), 9, n_12 + 1] eo1 so1 no1 co1 eo2 so2 no2 co2 35 2 1 [AI 0, .nil] 35 n_12 2 1 xs_13.length (rows eI xs_13) hc (by simp)))) (h3 := by rintro _ _ ⟨_, _, ⟨_, ⟨_, _, _, rfl, rfl⟩, rfl⟩, rfl, rfl⟩; exact Nat.le_of_ble_eq_true (by kernel_rfl))) ?_
   rintro _ _ ⟨_, _, ⟨_, _, ⟨_, ⟨v_23, p1_24, h1_25, rfl, rfl⟩, rfl⟩, rfl, rfl⟩, rfl, rfl⟩
   refine R.go 9 (k18 7 ?_)
   refine R.kfix 3 (us := usC) (by kernel_rfl) (hfC.frz 7 (LI xs_13) (Nat.le_of_ble_eq_true (by kernel_rfl))) ?_
   exact R.retX (res := .agg [AI v_23, LI xs_13]) (hp' := [.box 157 [LB c, AI (p1_24 : Int), .int .u64 h1_25], .list eo1 so1 no1 co1, .list eo2 so2 no2 co2, .dead, .box 35 [AI v_23, LI xs_13], .frame [] [], .box 35 [AI v_23, LI xs_13], .dead]) (by kernel_rfl) (by kernel_rfl) (by kernel_rfl) (by kernel_rfl) ⟨[0, 1, 2], by kernel_rfl, by decide, v_23, xs_13, p1_24, h1_25, by first | omega | (simp; done) | (simp only [List.length_append, List.length_cons, List.length_nil, List.length_set]; omega), by kernel_rfl, by kernel_rfl⟩
  ·refine R.go 5 (k3 (v_18 = 1) (fun c26 => ?_) (fun c26 => ?_))
   ·refine R.go 3 (k14 false (l01Own_c xs_13 (by first | omega | (simp <;> omega))) (ownA_closed eI_closed 2 1 xs_13) ?_)
    refine R.go 1 (k12 eI xs_13 [0] 8 2 1 8 eI_one ?_)
    refine R.kfix 3 (us := usC) (by kernel_rfl) (hfC.kill 8 (Nat.le_of_ble_eq_true (by kernel_rfl))) ?_
    refine R.go 9 (k18 8 ?_)
    refine R.kfix 3 (us := usC) (by kernel_rfl) (hfC.frz 8 (LI (xs_13 ++ [0])) (Nat.le_of_ble_eq_true (by kernel_rfl))) ?_
    exact R.retX (res := .agg [AI n_12, LI (xs_13 ++ [0])]) (hp' := [.box 157 [LB c, AI (p1_19 : Int), .int .u64 h1_20], .list eo1 so1 no1 co1, .list eo2 so2 no2 co2, .dead, .box 35 [AI n_12, LI (xs_13 ++ [0])], .frame [] [], .box 35 [AI n_12, LI (xs_13 ++ [0])], rowA eI 2 1 xs_13, .dead, rowA eI 2 1 [0]]) (by kernel_rfl) (by kernel_rfl) (by kernel_rfl) (by kernel_rfl) ⟨[0, 1, 2], by kernel_rfl, by decide, n_12, xs_13 ++ [0], p1_19, h1_20, by first | omega | (simp; done) | (simp only [List.length_append, List.length_cons, List.length_nil, List.length_set]; omega), by kernel_rfl, by kernel_rfl⟩
   ·refine R.go 5 (k3 (v_18 = 2) (fun c27 => ?_) (fun c27 => ?_))
    ·refine R.go 6 (k3 (n_12 > 0) (fun c28 => ?_) (fun c28 => ?_))
     ·refine R.meetF (α := Int × Nat × Int × Int × Nat × Int) (fun | (v_29, p1_30, h1_31, v_33, p1_34, h1_35) => ((n_12 < 1 → v_29 = 0) ∧ (1 ≤ n_12 → 0 ≤ v_29 ∧ v_29 < n_12)) ∧ (((((shl64 1 n_12) - 1) + 2) < 1 → v_33 = 0) ∧ (1 ≤ (((shl64 1 n_12) - 1) + 2) → 0 ≤ v_33 ∧ v_33 < (((shl64 1 n_12) - 1) + 2)))) (fun | (v_29, p1_30, h1_31, v_33, p1_34, h1_35) => (⟨(frm 54 [(0, .ptr 0 0), (1, AI size), (4, .ptr 4 0), (5, .ptr 6 0), (6, .ptr 0 0), (7, AI size), (8, .agg [AI n_1, LI xs_2]), (9, .ptr 0 0), (10, AI v_7), (11, .bool (decide (v_7 = 0))), (12, .ptr 0 0), (13, AI size), (14, .agg [AI n_12, .ref 7]), (15, .ptr 0 0), (16, AI v_18), (17, .bool (decide (v_18 = 0))), (18, .bool (decide (v_18 = 0))), (26, .bool (decide (v_18 = 1))), (27, .bool (decide (v_18 = 1))), (34, .bool (decide (v_18 = 2))), (35, .bool (decide (v_18 = 2))), (36, .ptr 6 0), (37, AI n_12), (38, .bool (decide (n_12 > 0))), (39, .ptr 6 1), (40, .ref 7), (41, .ptr 0 0), (42, .ptr 6 0), (43, AI n_12), (44, AI v_29), (45, .ptr 0 0), (46, .ptr 6 0), (47, AI n_12), (48, AI ((shl64 1 n_12) - 1)), (49, AI (((shl64 1 n_12) - 1) + 2)), (50, AI v_33), (51, AI (v_33 - 1)), (52, .ptr 7 (((v_29).toNat) * 1))]), [.box 157 [LB c, AI (p1_34 : Int), .int .u64 h1_35], .list eo1 so1 no1 co1, .list eo2 so2 no2 co2, .frame usC frC, .box 35 [AI 0, .nil], .frame [] [], .box 35 [AI n_12, .ref 7], rowA eI 2 1 (xs_13.set ((v_29).toNat) (v_33 - 1))]⟩ : St)) (by kernel_rfl) ?_ ?_
      ·refine R.any (by decide +kernel) (by kernel_rfl) ?_
       refine k24 2 (np_meetF _ _) ?_
       refine k24 6 (np_meetF _ _) ?_
       refine k30 0 (.ptr 6 1) (np_meetF _ _) ?_
       refine k30 3 (.ptr 6 0) (np_meetF _ _) ?_
       refine k30 7 (.ptr 6 0) (np_meetF _ _) ?_
       refine k23 1 4 8 ?_ ?_ ?_
       ·refine R.go 2 (k22 4 8 ?_ ?_)
        ·refine R.go 2 (k22 5 8 ?_ ?_)
         ·refine k26 (k28c 3 usC frC (k28a 4 [] [] (k29a 3 35 [AI 0, .nil] (nextX_c_roooBo c p1_19 h1_20 n_12 eo1 so1 no1 co1 eo2 so2 no2 co2 35 2 1 [AI 0, .nil] 35 n_12 2 1 xs_13.length (rows eI xs_13) hc)))) ?_
          rintro _ _ ⟨_, _, ⟨_, _, ⟨_, ⟨v_29, p1_30, h1_31, f32, rfl, rfl⟩, rfl⟩, rfl, rfl⟩, rfl, rfl⟩
          refine R.go 1 (k21 8 ?_)
          refine R.go 2 (k21 9 ?_)
          refine k14 true (l01Full_c n_12 (by omega) (by omega)) rfl ?_
          refine R.go 1 (k21 10 ?_)
          refine k1 (((shl64 1 n_12) - 1) + 2) ?_
          refine R.go 1 (k21 11 ?_)
          refine k26 (k28c 3 usC frC (k28a 4 [] [] (k29a 3 35 [AI 0, .nil] (nextX_c_roooBo c p1_30 h1_31 (((shl64 1 n_12) - 1) + 2) eo1 so1 no1 co1 eo2 so2 no2 co2 35 2 1 [AI 0, .nil] 35 n_12 2 1 xs_13.length (rows eI xs_13) hc)))) ?_
          rintro _ _ ⟨_, _, ⟨_, _, ⟨_, ⟨v_33, p1_34, h1_35, f36, rfl, rfl⟩, rfl⟩, rfl, rfl⟩, rfl, rfl⟩
          refine R.go 1 (k21 12 ?_)
          refine k1 (v_33 - 1) ?_
          refine R.go 1 (k21 13 ?_)
          refine k9 7 1 xs_13.length ((v_29).toNat) v_29 ?_
          refine R.go 1 (k21 14 ?_)
          refine k11 7 2 xs_13 ((v_29).toNat) (v_33 - 1) ?_
          refine R.go 1 (k20 ?_)
          exact k31 (v_29, p1_30, h1_31, v_33, p1_34, h1_35) ⟨by first | assumption | omega, by first | assumption | omega⟩
         ·refine R.go 2 (k21 5 ?_)
          refine k26 (k28c 3 usC frC (k28a 4 [] [] (k29a 3 35 [AI 0, .nil] (nextX_c_roooBo c p1_19 h1_20 n_12 eo1 so1 no1 co1 eo2 so2 no2 co2 35 2 1 [AI 0, .nil] 35 n_12 2 1 xs_13.length (rows eI xs_13) hc)))) ?_
          rintro _ _ ⟨_, _, ⟨_, _, ⟨_, ⟨v_37, p1_38, h1_39, f40, rfl, rfl⟩, rfl⟩, rfl, rfl⟩, rfl, rfl⟩
          refine R.go 1 (k21 9 ?_)
          refine k14 true (l01Full_c n_12 (by omega) (by omega)) rfl ?_
          refine R.go 1 (k21 10 ?_)
          refine k1 (((shl64 1 n_12) - 1) + 2) ?_
          refine R.go 1 (k21 11 ?_)
          refine k26 (k28c 3 usC frC (k28a 4 [] [] (k29a 3 35 [AI 0, .nil] (nextX_c_roooBo c p1_38 h1_39 (((shl64 1 n_12) - 1) + 2) eo1 so1 no1 co1 eo2 so2 no2 co2 35 2 1 [AI 0, .nil] 35 n_12 2 1 xs_13.length (rows eI xs_13) hc)))) ?_
          rintro _ _ ⟨_, _, ⟨_, _, ⟨_, ⟨v_41, p1_42, h1_43, f44, rfl, rfl⟩, rfl⟩, rfl, rfl⟩, rfl, rfl⟩
          refine R.go 1 (k21 12 ?_)
          refine k1 (v_41 - 1) ?_
          refine R.go 1 (k21 13 ?_)
          refine k9 7 1 xs_13.length ((v_37).toNat) v_37 ?_
          refine R.go 1 (k21 14 ?_)
          refine k11 7 2 xs_13 ((v_37).toNat) (v_41 - 1) ?_
          refine R.go 1 (k20 ?_)
          exact k31 (v_37, p1_38, h1_39, v_41, p1_42, h1_43) ⟨by first | assumption | omega, by first | assumption | omega⟩
        ·refine R.go 2 (k21 4 ?_)
         refine R.go 2 (k21 5 ?_)
         refine k26 (k28c 3 usC frC (k28a 4 [] [] (k29a 3 35 [AI 0, .nil] (nextX_c_roooBo c p1_19 h1_20 n_12 eo1 so1 no1 co1 eo2 so2 no2 co2 35 2 1 [AI 0, .nil] 35 n_12 2 1 xs_13.length (rows eI xs_13) hc)))) ?_
         rintro _ _ ⟨_, _, ⟨_, _, ⟨_, ⟨v_45, p1_46, h1_47, f48, rfl, rfl⟩, rfl⟩, rfl, rfl⟩, rfl, rfl⟩
         refine R.go 1 (k21 9 ?_)
         refine k14 true (l01Full_c n_12 (by omega) (by omega)) rfl ?_
         refine R.go 1 (k21 10 ?_)
         refine k1 (((shl64 1 n_12) - 1) + 2) ?_
         refine R.go 1 (k21 11 ?_)
         refine k26 (k28c 3 usC frC (k28a 4 [] [] (k29a 3 35 [AI 0, .nil] (nextX_c_roooBo c p1_46 h1_47 (((shl64 1 n_12) - 1) + 2) eo1 so1 no1 co1 eo2 so2 no2 co2 35 2 1 [AI 0, .nil] 35 n_12 2 1 xs_13.length (rows eI xs_13) hc)))) ?_
         rintro _ _ ⟨_, _, ⟨_, _, ⟨_, ⟨v_49, p1_50, h1_51, f52, rfl, rfl⟩, rfl⟩, rfl, rfl⟩, rfl, rfl⟩
         refine R.go 1 (k21 12 ?_)
         refine k1 (v_49 - 1) ?_
         refine R.go 1 (k21 13 ?_)
         refine k9 7 1 xs_13.length ((v_45).toNat) v_45 ?_
         refine R.go 1 (k21 14 ?_)
         refine k11 7 2 xs_13 ((v_45).toNat) (v_49 - 1) ?_
         refine R.go 1 (k20 ?_)
         exact k31 (v_45, p1_46, h1_47, v_49, p1_50, h1_51) ⟨by first | assumption | omega, by first | assumption | omega⟩
       ·refine R.go 2 (k23 1 5 8 ?_ ?_ ?_)
        ·refine R.go 2 (k22 5 8 ?_ ?_)
         ·refine k26 (k28c 3 usC frC (k28a 4 [] [] (k29a 3 35 [AI 0, .nil] (nextX_c_roooBo c p1_19 h1_20 n_12 eo1 so1 no1 co1 eo2 so2 no2 co2 35 2 1 [AI 0, .nil] 35 n_12 2 1 xs_13.length (rows eI xs_13) hc)))) ?_
          rintro _ _ ⟨_, _, ⟨_, _, ⟨_, ⟨v_53, p1_54, h1_55, f56, rfl, rfl⟩, rfl⟩, rfl, rfl⟩, rfl, rfl⟩
          refine R.go 1 (k21 8 ?_)
          refine R.go 2 (k21 9 ?_)
          refine k14 true (l01Full_c n_12 (by omega) (by omega)) rfl ?_
          refine R.go 1 (k21 10 ?_)
          refine k1 (((shl64 1 n_12) - 1) + 2) ?_
          refine R.go 1 (k21 11 ?_)
          refine k26 (k28c 3 usC frC (k28a 4 [] [] (k29a 3 35 [AI 0, .nil] (nextX_c_roooBo c p1_54 h1_55 (((shl64 1 n_12) - 1) + 2) eo1 so1 no1 co1 eo2 so2 no2 co2 35 2 1 [AI 0, .nil] 35 n_12 2 1 xs_13.length (rows eI xs_13) hc)))) ?_
          rintro _ _ ⟨_, _, ⟨_, _, ⟨_, ⟨v_57, p1_58, h1_59, f60, rfl, rfl⟩, rfl⟩, rfl, rfl⟩, rfl, rfl⟩
          refine R.go 1 (k21 12 ?_)
          refine k1 (v_57 - 1) ?_
          refine R.go 1 (k21 13 ?_)
          refine k9 7 1 xs_13.length ((v_53).toNat) v_53 ?_
          refine R.go 1 (k21 14 ?_)
          refine k11 7 2 xs_13 ((v_53).toNat) (v_57 - 1) ?_
          refine R.go 1 (k20 ?_)
          exact k31 (v_53, p1_54, h1_55, v_57, p1_58, h1_59) ⟨by first | assumption | omega, by first | assumption | omega⟩
         ·refine R.go 2 (k21 5 ?_)
          refine k26 (k28c 3 usC frC (k28a 4 [] [] (k29a 3 35 [AI 0, .nil] (nextX_c_roooBo c p1_19 h1_20 n_12 eo1 so1 no1 co1 eo2 so2 no2 co2 35 2 1 [AI 0, .nil] 35 n_12 2 1 xs_13.length (rows eI xs_13) hc)))) ?_
          rintro _ _ ⟨_, _, ⟨_, _, ⟨_, ⟨v_61, p1_62, h1_63, f64, rfl, rfl⟩, rfl⟩, rfl, rfl⟩, rfl, rfl⟩
          refine R.go 1 (k21 9 ?_)
          refine k14 true (l01Full_c n_12 (by omega) (by omega)) rfl ?_
          refine R.go 1 (k21 10 ?_)
          refine k1 (((shl64 1 n_12) - 1) + 2) ?_
          refine R.go 1 (k21 11 ?_)
          refine k26 (k28c 3 usC frC (k28a 4 [] [] (k29a 3 35 [AI 0, .nil] (nextX_c_roooBo c p1_62 h1_63 (((shl64 1 n_12) - 1) + 2) eo1 so1 no1 co1 eo2 so2 no2 co2 35 2 1 [AI 0, .nil] 35 n_12 2 1 xs_13.length (rows eI xs_13) hc)))) ?_
          rintro _ _ ⟨_, _, ⟨_, _, ⟨_, ⟨v_65, p1_66, h1_67, f68, rfl, rfl⟩, rfl⟩, rfl, rfl⟩, rfl, rfl⟩
          refine R.go 1 (k21 12 ?_)
          refine k1 (v_65 - 1) ?_
          refine R.go 1 (k21 13 ?_)
          refine k9 7 1 xs_13.length ((v_61).toNat) v_61 ?_
          refine R.go 1 (k21 14 ?_)
          refine k11 7 2 xs_13 ((v_61).toNat) (v_65 - 1) ?_
          refine R.go 1 (k20 ?_)
          exact k31 (v_61, p1_62, h1_63, v_65, p1_66, h1_67) ⟨by first | assumption | omega, by first | assumption | omega⟩
        ·refine k26 (k28c 3 usC frC (k28a 4 [] [] (k29a 3 35 [AI 0, .nil] (nextX_c_roooBo c p1_19 h1_20 n_12 eo1 so1 no1 co1 eo2 so2 no2 co2 35 2 1 [AI 0, .nil] 35 n_12 2 1 xs_13.length (rows eI xs_13) hc)))) ?_
         rintro _ _ ⟨_, _, ⟨_, _, ⟨_, ⟨v_69, p1_70, h1_71, f72, rfl, rfl⟩, rfl⟩, rfl, rfl⟩, rfl, rfl⟩
         refine R.go 1 (k22 1 8 ?_ ?_)
         ·refine R.go 2 (k21 8 ?_)
          refine R.go 2 (k21 9 ?_)
          refine k14 true (l01Full_c n_12 (by omega) (by omega)) rfl ?_
          refine R.go 1 (k21 10 ?_)
          refine k1 (((shl64 1 n_12) - 1) + 2) ?_
          refine R.go 1 (k21 11 ?_)
          refine k26 (k28c 3 usC frC (k28a 4 [] [] (k29a 3 35 [AI 0, .nil] (nextX_c_roooBo c p1_70 h1_71 (((shl64 1 n_12) - 1) + 2) eo1 so1 no1 co1 eo2 so2 no2 co2 35 2 1 [AI 0, .nil] 35 n_12 2 1 xs_13.length (rows eI xs_13) hc)))) ?_
          rintro _ _ ⟨_, _, ⟨_, _, ⟨_, ⟨v_73, p1_74, h1_75, f76, rfl, rfl⟩, rfl⟩, rfl, rfl⟩, rfl, rfl⟩
          refine R.go 1 (k21 12 ?_)
          refine k1 (v_73 - 1) ?_
          refine R.go 1 (k21 13 ?_)
          refine k9 7 1 xs_13.length ((v_69).toNat) v_69 ?_
          refine R.go 1 (k21 14 ?_)
          refine k11 7 2 xs_13 ((v_69).toNat) (v_73 - 1) ?_
          refine R.go 1 (k20 ?_)
          exact k31 (v_69, p1_70, h1_71, v_73, p1_74, h1_75) ⟨by first | assumption | omega, by first | assumption | omega⟩
         ·refine R.go 2 (k22 1 9 ?_ ?_)
          ·refine R.go 2 (k21 9 ?_)
           refine k14 true (l01Full_c n_12 (by omega) (by omega)) rfl ?_
           refine R.go 1 (k21 10 ?_)
           refine k1 (((shl64 1 n_12) - 1) + 2) ?_
           refine R.go 1 (k21 11 ?_)
           refine k26 (k28c 3 usC frC (k28a 4 [] [] (k29a 3 35 [AI 0, .nil] (nextX_c_roooBo c p1_70 h1_71 (((shl64 1 n_12) - 1) + 2) eo1 so1 no1 co1 eo2 so2 no2 co2 35 2 1 [AI 0, .nil] 35 n_12 2 1 xs_13.length (rows eI xs_13) hc)))) ?_
           rintro _ _ ⟨_, _, ⟨_, _, ⟨_, ⟨v_77, p1_78, h1_79, f80, rfl, rfl⟩, rfl⟩, rfl, rfl⟩, rfl, rfl⟩
           refine R.go 1 (k21 12 ?_)
           refine k1 (v_77 - 1) ?_
           refine R.go 1 (k21 13 ?_)
           refine k9 7 1 xs_13.length ((v_69).toNat) v_69 ?_
           refine R.go 1 (k21 14 ?_)
           refine k11 7 2 xs_13 ((v_69).toNat) (v_77 - 1) ?_
           refine R.go 1 (k20 ?_)
           exact k31 (v_69, p1_70, h1_71, v_77, p1_78, h1_79) ⟨by first | assumption | omega, by first | assumption | omega⟩
          ·refine k14 true (l01Full_c n_12 (by omega) (by omega)) rfl ?_
           refine R.go 1 (k22 1 10 ?_ ?_)
           ·refine R.go 2 (k21 10 ?_)
            refine k1 (((shl64 1 n_12) - 1) + 2) ?_
            refine R.go 1 (k21 11 ?_)
            refine k26 (k28c 3 usC frC (k28a 4 [] [] (k29a 3 35 [AI 0, .nil] (nextX_c_roooBo c p1_70 h1_71 (((shl64 1 n_12) - 1) + 2) eo1 so1 no1 co1 eo2 so2 no2 co2 35 2 1 [AI 0, .nil] 35 n_12 2 1 xs_13.length (rows eI xs_13) hc)))) ?_
            rintro _ _ ⟨_, _, ⟨_, _, ⟨_, ⟨v_81, p1_82, h1_83, f84, rfl, rfl⟩, rfl⟩, rfl, rfl⟩, rfl, rfl⟩
            refine R.go 1 (k21 12 ?_)
            refine k1 (v_81 - 1) ?_
            refine R.go 1 (k21 13 ?_)
            refine k9 7 1 xs_13.length ((v_69).toNat) v_69 ?_
            refine R.go 1 (k21 14 ?_)
            refine k11 7 2 xs_13 ((v_69).toNat) (v_81 - 1) ?_
            refine R.go 1 (k20 ?_)
            exact k31 (v_69, p1_70, h1_71, v_81, p1_82, h1_83) ⟨by first | assumption | omega, by first | assumption | omega⟩
           ·refine k1 (((shl64 1 n_12) - 1) + 2) ?_
            refine R.go 1 (k22 1 11 ?_ ?_)
            ·refine R.go 2 (k21 11 ?_)
             refine k26 (k28c 3 usC frC (k28a 4 [] [] (k29a 3 35 [AI 0, .nil] (nextX_c_roooBo c p1_70 h1_71 (((shl64 1 n_12) - 1) + 2) eo1 so1 no1 co1 eo2 so2 no2 co2 35 2 1 [AI 0, .nil] 35 n_12 2 1 xs_13.length (rows eI xs_13) hc)))) ?_
             rintro _ _ ⟨_, _, ⟨_, _, ⟨_, ⟨v_85, p1_86, h1_87, f88, rfl, rfl⟩, rfl⟩, rfl, rfl⟩, rfl, rfl⟩
             refine R.go 1 (k21 12 ?_)
             refine k1 (v_85 - 1) ?_
             refine R.go 1 (k21 13 ?_)
             refine k9 7 1 xs_13.length ((v_69).toNat) v_69 ?_
             refine R.go 1 (k21 14 ?_)
             refine k11 7 2 xs_13 ((v_69).toNat) (v_85 - 1) ?_
             refine R.go 1 (k20 ?_)
             exact k31 (v_69, p1_70, h1_71, v_85, p1_86, h1_87) ⟨by first | assumption | omega, by first | assumption | omega⟩
            ·refine k26 (k28c 3 usC frC (k28a 4 [] [] (k29a 3 35 [AI 0, .nil] (nextX_c_roooBo c p1_70 h1_71 (((shl64 1 n_12) - 1) + 2) eo1 so1 no1 co1 eo2 so2 no2 co2 35 2 1 [AI 0, .nil] 35 n_12 2 1 xs_13.length (rows eI xs_13) hc)))) ?_
             rintro _ _ ⟨_, _, ⟨_, _, ⟨_, ⟨v_89, p1_90, h1_91, f92, rfl, rfl⟩, rfl⟩, rfl, rfl⟩, rfl, rfl⟩
             refine R.go 1 (k22 1 12 ?_ ?_)
             ·refine R.go 2 (k21 12 ?_)
              refine k1 (v_89 - 1) ?_
              refine R.go 1 (k21 13 ?_)
              refine k9 7 1 xs_13.length ((v_69).toNat) v_69 ?_
              refine R.go 1 (k21 14 ?_)
              refine k11 7 2 xs_13 ((v_69).toNat) (v_89 - 1) ?_
              refine R.go 1 (k20 ?_)
              exact k31 (v_69, p1_70, h1_71, v_89, p1_90, h1_91) ⟨by first | assumption | omega, by first | assumption | omega⟩
             ·refine k1 (v_89 - 1) ?_
              refine R.go 1 (k21 1 ?_)
              refine R.go 2 (k21 13 ?_)
              refine k9 7 1 xs_13.length ((v_69).toNat) v_69 ?_
              refine R.go 1 (k21 14 ?_)
              refine k11 7 2 xs_13 ((v_69).toNat) (v_89 - 1) ?_
              refine R.go 1 (k20 ?_)
              exact k31 (v_69, p1_70, h1_71, v_89, p1_90, h1_91) ⟨by first | assumption | omega, by first | assumption | omega⟩
        ·refine R.go 2 (k22 1 5 ?_ ?_)
         ·refine R.go 2 (k21 5 ?_)
          refine k26 (k28c 3 usC frC (k28a 4 [] [] (k29a 3 35 [AI 0, .nil] (nextX_c_roooBo c p1_19 h1_20 n_12 eo1 so1 no1 co1 eo2 so2 no2 co2 35 2 1 [AI 0, .nil] 35 n_12 2 1 xs_13.length (rows eI xs_13) hc)))) ?_
          rintro _ _ ⟨_, _, ⟨_, _, ⟨_, ⟨v_93, p1_94, h1_95, f96, rfl, rfl⟩, rfl⟩, rfl, rfl⟩, rfl, rfl⟩
          refine R.go 1 (k21 9 ?_)
          refine k14 true (l01Full_c n_12 (by omega) (by omega)) rfl ?_
          refine R.go 1 (k21 10 ?_)
          refine k1 (((shl64 1 n_12) - 1) + 2) ?_
          refine R.go 1 (k21 11 ?_)
          refine k26 (k28c 3 usC frC (k28a 4 [] [] (k29a 3 35 [AI 0, .nil] (nextX_c_roooBo c p1_94 h1_95 (((shl64 1 n_12) - 1) + 2) eo1 so1 no1 co1 eo2 so2 no2 co2 35 2 1 [AI 0, .nil] 35 n_12 2 1 xs_13.length (rows eI xs_13) hc)))) ?_
          rintro _ _ ⟨_, _, ⟨_, _, ⟨_, ⟨v_97, p1_98, h1_99, f100, rfl, rfl⟩, rfl⟩, rfl, rfl⟩, rfl, rfl⟩
          refine R.go 1 (k21 12 ?_)
          refine k1 (v_97 - 1) ?_
          refine R.go 1 (k21 13 ?_)
          refine k9 7 1 xs_13.length ((v_93).toNat) v_93 ?_
          refine R.go 1 (k21 14 ?_)
          refine k11 7 2 xs_13 ((v_93).toNat) (v_97 - 1) ?_
          refine R.go 1 (k20 ?_)
          exact k31 (v_93, p1_94, h1_95, v_97, p1_98, h1_99) ⟨by first | assumption | omega, by first | assumption | omega⟩
         ·refine k26 (k28c 3 usC frC (k28a 4 [] [] (k29a 3 35 [AI 0, .nil] (nextX_c_roooBo c p1_19 h1_20 n_12 eo1 so1 no1 co1 eo2 so2 no2 co2 35 2 1 [AI 0, .nil] 35 n_12 2 1 xs_13.length (rows eI xs_13) hc)))) ?_
          rintro _ _ ⟨_, _, ⟨_, _, ⟨_, ⟨v_101, p1_102, h1_103, f104, rfl, rfl⟩, rfl⟩, rfl, rfl⟩, rfl, rfl⟩
          refine R.go 1 (k22 1 9 ?_ ?_)
          ·refine R.go 2 (k21 9 ?_)
           refine k14 true (l01Full_c n_12 (by omega) (by omega)) rfl ?_
           refine R.go 1 (k21 10 ?_)
           refine k1 (((shl64 1 n_12) - 1) + 2) ?_
           refine R.go 1 (k21 11 ?_)
           refine k26 (k28c 3 usC frC (k28a 4 [] [] (k29a 3 35 [AI 0, .nil] (nextX_c_roooBo c p1_102 h1_103 (((shl64 1 n_12) - 1) + 2) eo1 so1 no1 co1 eo2 so2 no2 co2 35 2 1 [AI 0, .nil] 35 n_12 2 1 xs_13.length (rows eI xs_13) hc)))) ?_
           rintro _ _ ⟨_, _, ⟨_, _, ⟨_, ⟨v_105, p1_106, h1_107, f108, rfl, rfl⟩, rfl⟩, rfl, rfl⟩, rfl, rfl⟩
           refine R.go 1 (k21 12 ?_)
           refine k1 (v_105 - 1) ?_
           refine R.go 1 (k21 13 ?_)
           refine k9 7 1 xs_13.length ((v_101).toNat) v_101 ?_
           refine R.go 1 (k21 14 ?_)
           refine k11 7 2 xs_13 ((v_101).toNat) (v_105 - 1) ?_
           refine R.go 1 (k20 ?_)
           exact k31 (v_101, p1_102, h1_103, v_105, p1_106, h1_107) ⟨by first | assumption | omega, by first | assumption | omega⟩
          ·refine k14 true (l01Full_c n_12 (by omega) (by omega)) rfl ?_
           refine R.go 1 (k22 1 10 ?_ ?_)
           ·refine R.go 2 (k21 10 ?_)
            refine k1 (((shl64 1 n_12) - 1) + 2) ?_
            refine R.go 1 (k21 11 ?_)
            refine k26 (k28c 3 usC frC (k28a 4 [] [] (k29a 3 35 [AI 0, .nil] (nextX_c_roooBo c p1_102 h1_103 (((shl64 1 n_12) - 1) + 2) eo1 so1 no1 co1 eo2 so2 no2 co2 35 2 1 [AI 0, .nil] 35 n_12 2 1 xs_13.length (rows eI xs_13) hc)))) ?_
            rintro _ _ ⟨_, _, ⟨_, _, ⟨_, ⟨v_109, p1_110, h1_111, f112, rfl, rfl⟩, rfl⟩, rfl, rfl⟩, rfl, rfl⟩
            refine R.go 1 (k21 12 ?_)
            refine k1 (v_109 - 1) ?_
            refine R.go 1 (k21 13 ?_)
            refine k9 7 1 xs_13.length ((v_101).toNat) v_101 ?_
            refine R.go 1 (k21 14 ?_)
            refine k11 7 2 xs_13 ((v_101).toNat) (v_109 - 1) ?_
            refine R.go 1 (k20 ?_)
            exact k31 (v_101, p1_102, h1_103, v_109, p1_110, h1_111) ⟨by first | assumption | omega, by first | assumption | omega⟩
           ·refine k1 (((shl64 1 n_12) - 1) + 2) ?_
            refine R.go 1 (k22 1 11 ?_ ?_)
            ·refine R.go 2 (k21 11 ?_)
             refine k26 (k28c 3 usC frC (k28a 4 [] [] (k29a 3 35 [AI 0, .nil] (nextX_c_roooBo c p1_102 h1_103 (((shl64 1 n_12) - 1) + 2) eo1 so1 no1 co1 eo2 so2 no2 co2 35 2 1 [AI 0, .nil] 35 n_12 2 1 xs_13.length (rows eI xs_13) hc)))) ?_
             rintro _ _ ⟨_, _, ⟨_, _, ⟨_, ⟨v_113, p1_114, h1_115, f116, rfl, rfl⟩, rfl⟩, rfl, rfl⟩, rfl, rfl⟩
             refine R.go 1 (k21 12 ?_)
             refine k1 (v_113 - 1) ?_
             refine R.go 1 (k21 13 ?_)
             refine k9 7 1 xs_13.length ((v_101).toNat) v_101 ?_
             refine R.go 1 (k21 14 ?_)
             refine k11 7 2 xs_13 ((v_101).toNat) (v_113 - 1) ?_
             refine R.go 1 (k20 ?_)
             exact k31 (v_101, p1_102, h1_103, v_113, p1_114, h1_115) ⟨by first | assumption | omega, by first | assumption | omega⟩
            ·refine k26 (k28c 3 usC frC (k28a 4 [] [] (k29a 3 35 [AI 0, .nil] (nextX_c_roooBo c p1_102 h1_103 (((shl64 1 n_12) - 1) + 2) eo1 so1 no1 co1 eo2 so2 no2 co2 35 2 1 [AI 0, .nil] 35 n_12 2 1 xs_13.length (rows eI xs_13) hc)))) ?_
             rintro _ _ ⟨_, _, ⟨_, _, ⟨_, ⟨v_117, p1_118, h1_119, f120, rfl, rfl⟩, rfl⟩, rfl, rfl⟩, rfl, rfl⟩
             refine R.go 1 (k22 1 12 ?_ ?_)
             ·refine R.go 2 (k21 12 ?_)
              refine k1 (v_117 - 1) ?_
              refine R.go 1 (k21 13 ?_)
              refine k9 7 1 xs_13.length ((v_101).toNat) v_101 ?_
              refine R.go 1 (k21 14 ?_)
              refine k11 7 2 xs_13 ((v_101).toNat) (v_117 - 1) ?_
              refine R.go 1 (k20 ?_)
              exact k31 (v_101, p1_102, h1_103, v_117, p1_118, h1_119) ⟨by first | assumption | omega, by first | assumption | omega⟩
             ·refine k1 (v_117 - 1) ?_
              refine R.go 1 (k21 1 ?_)
              refine R.go 2 (k21 13 ?_)
              refine k9 7 1 xs_13.length ((v_101).toNat) v_101 ?_
              refine R.go 1 (k21 14 ?_)
              refine k11 7 2 xs_13 ((v_101).toNat) (v_117 - 1) ?_
              refine R.go 1 (k20 ?_)
              exact k31 (v_101, p1_102, h1_103, v_117, p1_118, h1_119) ⟨by first | assumption | omega, by first | assumption | omega⟩
       ·refine R.go 2 (k22 1 4 ?_ ?_)
        ·refine R.go 2 (k21 4 ?_)
         refine R.go 2 (k21 5 ?_)
         refine k26 (k28c 3 usC frC (k28a 4 [] [] (k29a 3 35 [AI 0, .nil] (nextX_c_roooBo c p1_19 h1_20 n_12 eo1 so1 no1 co1 eo2 so2 no2 co2 35 2 1 [AI 0, .nil] 35 n_12 2 1 xs_13.length (rows eI xs_13) hc)))) ?_
         rintro _ _ ⟨_, _, ⟨_, _, ⟨_, ⟨v_121, p1_122, h1_123, f124, rfl, rfl⟩, rfl⟩, rfl, rfl⟩, rfl, rfl⟩
         refine R.go 1 (k21 9 ?_)
         refine k14 true (l01Full_c n_12 (by omega) (by omega)) rfl ?_
         refine R.go 1 (k21 10 ?_)
         refine k1 (((shl64 1 n_12) - 1) + 2) ?_
         refine R.go 1 (k21 11 ?_)
         refine k26 (k28c 3 usC frC (k28a 4 [] [] (k29a 3 35 [AI 0, .nil] (nextX_c_roooBo c p1_122 h1_123 (((shl64 1 n_12) - 1) + 2) eo1 so1 no1 co1 eo2 so2 no2 co2 35 2 1 [AI 0, .nil] 35 n_12 2 1 xs_13.length (rows eI xs_13) hc)))) ?_
         rintro _ _ ⟨_, _, ⟨_, _, ⟨_, ⟨v_125, p1_126, h1_127, f128, rfl, rfl⟩, rfl⟩, rfl, rfl⟩, rfl, rfl⟩
         refine R.go 1 (k21 12 ?_)
         refine k1 (v_125 - 1) ?_
         refine R.go 1 (k21 13 ?_)
         refine k9 7 1 xs_13.length ((v_121).toNat) v_121 ?_
         refine R.go 1 (k21 14 ?_)
         refine k11 7 2 xs_13 ((v_121).toNat) (v_125 - 1) ?_
         refine R.go 1 (k20 ?_)
         exact k31 (v_121, p1_122, h1_123, v_125, p1_126, h1_127) ⟨by first | assumption | omega, by first | assumption | omega⟩
        ·refine R.go 2 (k22 1 5 ?_ ?_)
         ·refine R.go 2 (k21 5 ?_)
          refine k26 (k28c 3 usC frC (k28a 4 [] [] (k29a 3 35 [AI 0, .nil] (nextX_c_roooBo c p1_19 h1_20 n_12 eo1 so1 no1 co1 eo2 so2 no2 co2 35 2 1 [AI 0, .nil] 35 n_12 2 1 xs_13.length (rows eI xs_13) hc)))) ?_
          rintro _ _ ⟨_, _, ⟨_, _, ⟨_, ⟨v_129, p1_130, h1_131, f132, rfl, rfl⟩, rfl⟩, rfl, rfl⟩, rfl, rfl⟩
          refine R.go 1 (k21 9 ?_)
          refine k14 true (l01Full_c n_12 (by omega) (by omega)) rfl ?_
          refine R.go 1 (k21 10 ?_)
          refine k1 (((shl64 1 n_12) - 1) + 2) ?_
          refine R.go 1 (k21 11 ?_)
          refine k26 (k28c 3 usC frC (k28a 4 [] [] (k29a 3 35 [AI 0, .nil] (nextX_c_roooBo c p1_130 h1_131 (((shl64 1 n_12) - 1) + 2) eo1 so1 no1 co1 eo2 so2 no2 co2 35 2 1 [AI 0, .nil] 35 n_12 2 1 xs_13.length (rows eI xs_13) hc)))) ?_
          rintro _ _ ⟨_, _, ⟨_, _, ⟨_, ⟨v_133, p1_134, h1_135, f136, rfl, rfl⟩, rfl⟩, rfl, rfl⟩, rfl, rfl⟩
          refine R.go 1 (k21 12 ?_)
          refine k1 (v_133 - 1) ?_
          refine R.go 1 (k21 13 ?_)
          refine k9 7 1 xs_13.length ((v_129).toNat) v_129 ?_
          refine R.go 1 (k21 14 ?_)
          refine k11 7 2 xs_13 ((v_129).toNat) (v_133 - 1) ?_
          refine R.go 1 (k20 ?_)
          exact k31 (v_129, p1_130, h1_131, v_133, p1_134, h1_135) ⟨by first | assumption | omega, by first | assumption | omega⟩
         ·refine k26 (k28c 3 usC frC (k28a 4 [] [] (k29a 3 35 [AI 0, .nil] (nextX_c_roooBo c p1_19 h1_20 n_12 eo1 so1 no1 co1 eo2 so2 no2 co2 35 2 1 [AI 0, .nil] 35 n_12 2 1 xs_13.length (rows eI xs_13) hc)))) ?_
          rintro _ _ ⟨_, _, ⟨_, _, ⟨_, ⟨v_137, p1_138, h1_139, f140, rfl, rfl⟩, rfl⟩, rfl, rfl⟩, rfl, rfl⟩
          refine R.go 1 (k22 1 9 ?_ ?_)
          ·refine R.go 2 (k21 9 ?_)
           refine k14 true (l01Full_c n_12 (by omega) (by omega)) rfl ?_
           refine R.go 1 (k21 10 ?_)
           refine k1 (((shl64 1 n_12) - 1) + 2) ?_
           refine R.go 1 (k21 11 ?_)
           refine k26 (k28c 3 usC frC (k28a 4 [] [] (k29a 3 35 [AI 0, .nil] (nextX_c_roooBo c p1_138 h1_139 (((shl64 1 n_12) - 1) + 2) eo1 so1 no1 co1 eo2 so2 no2 co2 35 2 1 [AI 0, .nil] 35 n_12 2 1 xs_13.length (rows eI xs_13) hc)))) ?_
           rintro _ _ ⟨_, _, ⟨_, _, ⟨_, ⟨v_141, p1_142, h1_143, f144, rfl, rfl⟩, rfl⟩, rfl, rfl⟩, rfl, rfl⟩
           refine R.go 1 (k21 12 ?_)
           refine k1 (v_141 - 1) ?_
           refine R.go 1 (k21 13 ?_)
           refine k9 7 1 xs_13.length ((v_137).toNat) v_137 ?_
           refine R.go 1 (k21 14 ?_)
           refine k11 7 2 xs_13 ((v_137).toNat) (v_141 - 1) ?_
           refine R.go 1 (k20 ?_)
           exact k31 (v_137, p1_138, h1_139, v_141, p1_142, h1_143) ⟨by first | assumption | omega, by first | assumption | omega⟩
          ·refine k14 true (l01Full_c n_12 (by omega) (by omega)) rfl ?_
           refine R.go 1 (k22 1 10 ?_ ?_)
           ·refine R.go 2 (k21 10 ?_)
            refine k1 (((shl64 1 n_12) - 1) + 2) ?_
            refine R.go 1 (k21 11 ?_)
            refine k26 (k28c 3 usC frC (k28a 4 [] [] (k29a 3 35 [AI 0, .nil] (nextX_c_roooBo c p1_138 h1_139 (((shl64 1 n_12) - 1) + 2) eo1 so1 no1 co1 eo2 so2 no2 co2 35 2 1 [AI 0, .nil] 35 n_12 2 1 xs_13.length (rows eI xs_13) hc)))) ?_
            rintro _ _ ⟨_, _, ⟨_, _, ⟨_, ⟨v_145, p1_146, h1_147, f148, rfl, rfl⟩, rfl⟩, rfl, rfl⟩, rfl, rfl⟩
            refine R.go 1 (k21 12 ?_)
            refine k1 (v_145 - 1) ?_
            refine R.go 1 (k21 13 ?_)
            refine k9 7 1 xs_13.length ((v_137).toNat) v_137 ?_
            refine R.go 1 (k21 14 ?_)
            refine k11 7 2 xs_13 ((v_137).toNat) (v_145 - 1) ?_
            refine R.go 1 (k20 ?_)
            exact k31 (v_137, p1_138, h1_139, v_145, p1_146, h1_147) ⟨by first | assumption | omega, by first | assumption | omega⟩
           ·refine k1 (((shl64 1 n_12) - 1) + 2) ?_
            refine R.go 1 (k22 1 11 ?_ ?_)
            ·refine R.go 2 (k21 11 ?_)
             refine k26 (k28c 3 usC frC (k28a 4 [] [] (k29a 3 35 [AI 0, .nil] (nextX_c_roooBo c p1_138 h1_139 (((shl64 1 n_12) - 1) + 2) eo1 so1 no1 co1 eo2 so2 no2 co2 35 2 1 [AI 0, .nil] 35 n_12 2 1 xs_13.length (rows eI xs_13) hc)))) ?_
             rintro _ _ ⟨_, _, ⟨_, _, ⟨_, ⟨v_149, p1_150, h1_151, f152, rfl, rfl⟩, rfl⟩, rfl, rfl⟩, rfl, rfl⟩
             refine R.go 1 (k21 12 ?_)
             refine k1 (v_149 - 1) ?_
             refine R.go 1 (k21 13 ?_)
             refine k9 7 1 xs_13.length ((v_137).toNat) v_137 ?_
             refine R.go 1 (k21 14 ?_)
             refine k11 7 2 xs_13 ((v_137).toNat) (v_149 - 1) ?_
             refine R.go 1 (k20 ?_)
             exact k31 (v_137, p1_138, h1_139, v_149, p1_150, h1_151) ⟨by first | assumption | omega, by first | assumption | omega⟩
            ·refine k26 (k28c 3 usC frC (k28a 4 [] [] (k29a 3 35 [AI 0, .nil] (nextX_c_roooBo c p1_138 h1_139 (((shl64 1 n_12) - 1) + 2) eo1 so1 no1 co1 eo2 so2 no2 co2 35 2 1 [AI 0, .nil] 35 n_12 2 1 xs_13.length (rows eI xs_13) hc)))) ?_
             rintro _ _ ⟨_, _, ⟨_, _, ⟨_, ⟨v_153, p1_154, h1_155, f156, rfl, rfl⟩, rfl⟩, rfl, rfl⟩, rfl, rfl⟩
             refine R.go 1 (k22 1 12 ?_ ?_)
             ·refine R.go 2 (k21 12 ?_)
              refine k1 (v_153 - 1) ?_
              refine R.go 1 (k21 13 ?_)
              refine k9 7 1 xs_13.length ((v_137).toNat) v_137 ?_
              refine R.go 1 (k21 14 ?_)
              refine k11 7 2 xs_13 ((v_137).toNat) (v_153 - 1) ?_
              refine R.go 1 (k20 ?_)
              exact k31 (v_137, p1_138, h1_139, v_153, p1_154, h1_155) ⟨by first | assumption | omega, by first | assumption | omega⟩
             ·refine k1 (v_153 - 1) ?_
              refine R.go 1 (k21 1 ?_)
              refine R.go 2 (k21 13 ?_)
              refine k9 7 1 xs_13.length ((v_137).toNat) v_137 ?_
              refine R.go 1 (k21 14 ?_)
              refine k11 7 2 xs_13 ((v_137).toNat) (v_153 - 1) ?_
              refine R.go 1 (k20 ?_)
              exact k31 (v_137, p1_138, h1_139, v_153, p1_154, h1_155) ⟨by first | assumption | omega, by first | assumption | omega⟩
      ·rintro ⟨v_29, p1_30, h1_31, v_33, p1_34, h1_35⟩ ⟨f32, f36⟩
       refine R.go 6 (k18 7 ?_)
       refine R.kfix 3 (us := usC) (by kernel_rfl) (hfC.frz 7 (LI (xs_13.set ((v_29).toNat) (v_33 - 1))) (Nat.le_of_ble_eq_true (by kernel_rfl))) ?_
       exact R.retX (res := .agg [AI n_12, LI (xs_13.set ((v_29).toNat) (v_33 - 1))]) (hp' := [.box 157 [LB c, AI (p1_34 : Int), .int .u64 h1_35], .list eo1 so1 no1 co1, .list eo2 so2 no2 co2, .dead, .box 35 [AI n_12, LI (xs_13.set ((v_29).toNat) (v_33 - 1))], .frame [] [], .box 35 [AI n_12, LI (xs_13.set ((v_29).toNat) (v_33 - 1))], .dead]) (by kernel_rfl) (by kernel_rfl) (by kernel_rfl) (by kernel_rfl) ⟨[0, 1, 2], by kernel_rfl, by decide, n_12, xs_13.set ((v_29).toNat) (v_33 - 1), p1_34, h1_35, by first | omega | (simp; done) | (simp only [List.length_append, List.length_cons, List.length_nil, List.length_set]; omega), by kernel_rfl, by kernel_rfl⟩
     ·refine R.go 7 (k18 7 ?_)
      refine R.kfix 3 (us := usC) (by kernel_rfl) (hfC.frz 7 (LI xs_13) (Nat.le_of_ble_eq_true (by kernel_rfl))) ?_
      exact R.retX (res := .agg [AI n_12, LI xs_13]) (hp' := [.box 157 [LB c, AI (p1_19 : Int), .int .u64 h1_20], .list eo1 so1 no1 co1, .list eo2 so2 no2 co2, .dead, .box 35 [AI n_12, LI xs_13], .frame [] [], .box 35 [AI n_12, LI xs_13], .dead]) (by kernel_rfl) (by kernel_rfl) (by kernel_rfl) (by kernel_rfl) ⟨[0, 1, 2], by kernel_rfl, by decide, n_12, xs_13, p1_19, h1_20, by first | omega | (simp; done) | (simp only [List.length_append, List.length_cons, List.length_nil, List.length_set]; omega), by kernel_rfl, by kernel_rfl⟩
    ·refine R.go 7 (k18 7 ?_)
     refine R.kfix 3 (us := usC) (by kernel_rfl) (hfC.frz 7 (LI xs_13) (Nat.le_of_ble_eq_true (by kernel_rfl))) ?_
     exact R.retX (res := .agg [AI n_12, LI xs_13]) (hp' := [.box 157 [LB c, AI (p1_19 : Int), .int .u64 h1_20], .list eo1 so1 no1 co1, .list eo2 so2 no2 co2, .dead, .box 35 [AI n_12, LI xs_13], .frame [] [], .box 35 [AI n_12, LI xs_13], .dead]) (by kernel_rfl) (by kernel_rfl) (by kernel_rfl) (by kernel_rfl) ⟨[0, 1, 2], by kernel_rfl, by decide, n_12, xs_13, p1_19, h1_20, by first | omega | (simp; done) | (simp only [List.length_append, List.length_cons, List.length_nil, List.length_set]; omega), by kernel_rfl, by kernel_rfl⟩
 ·have hbp : 1 ≤ shl64 1 n_1 ∧ shl64 1 n_1 ≤ 4611686018427387904 := shl_rng n_1 (by omega) (by omega)
  refine R.go 5 (k26 (k28a 3 usC frC (k29a 3 35 [AI 0, .nil] (nextX_c_r4b c p1_8 h1_9 40 eo1 so1 no1 co1 eo2 so2 no2 co2 35 2 1 [AI 0, .nil] 2 1 xs_2.length (rows eI xs_2) 35 n_1 hc))) ?_)
  rintro _ _ ⟨_, _, ⟨_, ⟨v_157, p1_158, h1_159, f160, rfl, rfl⟩, rfl⟩, rfl, rfl⟩
  refine R.go 7 (k3 (v_157 = 0) (fun c161 => ?_) (fun c161 => ?_))
  ·refine R.go 4 (k1 (n_1 + 1) ?_)
   refine R.lit (s := 1) (n := 3) (cs := rows eI [(-1), 9, n_1 + 1]) (by kernel_rfl) (by kernel_rfl) ?_
   refine k26 (k28h 3 usC frC (k29e 3 35 [AI 0, .nil] (pickX_c_r4b c p1_158 h1_159 [(-1), 9, n_1 + 1] eo1 so1 no1 co1 eo2 so2 no2 co2 35 2 1 [AI 0, .nil] 2 1 xs_2.length (rows eI xs_2) 35 n_1 hc (by simp)))) ?_
   rintro _ _ ⟨_, _, ⟨_, ⟨v_162, p1_163, h1_164, rfl, rfl⟩, rfl⟩, rfl, rfl⟩
   refine R.go 9 (k18 5 ?_)
   refine R.kfix 3 (us := usC) (by kernel_rfl) (hfC.frz 5 (LI xs_2) (Nat.le_of_ble_eq_true (by kernel_rfl))) ?_
   exact R.retX (res := .agg [AI v_162, LI xs_2]) (hp' := [.box 157 [LB c, AI (p1_163 : Int), .int .u64 h1_164], .list eo1 so1 no1 co1, .list eo2 so2 no2 co2, .dead, .box 35 [AI v_162, LI xs_2], .dead, .box 35 [AI v_162, LI xs_2]]) (by kernel_rfl) (by kernel_rfl) (by kernel_rfl) (by kernel_rfl) ⟨[0, 1, 2], by kernel_rfl, by decide, v_162, xs_2, p1_163, h1_164, by first | omega | (simp; done) | (simp only [List.length_append, List.length_cons, List.length_nil, List.length_set]; omega), by kernel_rfl, by kernel_rfl⟩
  ·refine R.go 5 (k3 (v_157 = 1) (fun c165 => ?_) (fun c165 => ?_))
   ·refine R.go 3 (k14 false (l01Own_c xs_2 (by first | omega | (simp <;> omega))) (ownA_closed eI_closed 2 1 xs_2) ?_)
    refine R.go 1 (k12 eI xs_2 [0] 7 2 1 8 eI_one ?_)
    refine R.kfix 3 (us := usC) (by kernel_rfl) (hfC.kill 7 (Nat.le_of_ble_eq_true (by kernel_rfl))) ?_
    refine R.go 9 (k18 7 ?_)
    refine R.kfix 3 (us := usC) (by kernel_rfl) (hfC.frz 7 (LI (xs_2 ++ [0])) (Nat.le_of_ble_eq_true (by kernel_rfl))) ?_
    exact R.retX (res := .agg [AI n_1, LI (xs_2 ++ [0])]) (hp' := [.box 157 [LB c, AI (p1_158 : Int), .int .u64 h1_159], .list eo1 so1 no1 co1, .list eo2 so2 no2 co2, .dead, .box 35 [AI n_1, LI (xs_2 ++ [0])], rowA eI 2 1 xs_2, .box 35 [AI n_1, LI (xs_2 ++ [0])], .dead, rowA eI 2 1 [0]]) (by kernel_rfl) (by kernel_rfl) (by kernel_rfl) (by kernel_rfl) ⟨[0, 1, 2], by kernel_rfl, by decide, n_1, xs_2 ++ [0], p1_158, h1_159, by first | omega | (simp; done) | (simp only [List.length_append, List.length_cons, List.length_nil, List.length_set]; omega), by kernel_rfl, by kernel_rfl⟩
   ·refine R.go 5 (k3 (v_157 = 2) (fun c166 => ?_) (fun c166 => ?_))
    ·refine R.go 6 (k3 (n_1 > 0) (fun c167 => ?_) (fun c167 => ?_))
     ·refine R.meetF (α := Int × Nat × Int × Int × Nat × Int) (fun | (v_168, p1_169, h1_170, v_172, p1_173, h1_174) => ((n_1 < 1 → v_168 = 0) ∧ (1 ≤ n_1 → 0 ≤ v_168 ∧ v_168 < n_1)) ∧ (((((shl64 1 n_1) - 1) + 2) < 1 → v_172 = 0) ∧ (1 ≤ (((shl64 1 n_1) - 1) + 2) → 0 ≤ v_172 ∧ v_172 < (((shl64 1 n_1) - 1) + 2)))) (fun | (v_168, p1_169, h1_170, v_172, p1_173, h1_174) => (⟨(frm 54 [(0, .ptr 0 0), (1, AI size), (4, .ptr 4 0), (5, .ptr 6 0), (6, .ptr 0 0), (7, AI size), (8, .agg [AI n_1, .ref 5]), (9, .ptr 0 0), (10, AI v_7), (11, .bool (decide (v_7 = 0))), (15, .ptr 0 0), (16, AI v_157), (17, .bool (decide (v_157 = 0))), (18, .bool (decide (v_157 = 0))), (26, .bool (decide (v_157 = 1))), (27, .bool (decide (v_157 = 1))), (34, .bool (decide (v_157 = 2))), (35, .bool (decide (v_157 = 2))), (36, .ptr 6 0), (37, AI n_1), (38, .bool (decide (n_1 > 0))), (39, .ptr 6 1), (40, .ref 5), (41, .ptr 0 0), (42, .ptr 6 0), (43, AI n_1), (44, AI v_168), (45, .ptr 0 0), (46, .ptr 6 0), (47, AI n_1), (48, AI ((shl64 1 n_1) - 1)), (49, AI (((shl64 1 n_1) - 1) + 2)), (50, AI v_172), (51, AI (v_172 - 1)), (52, .ptr 5 (((v_168).toNat) * 1))]), [.box 157 [LB c, AI (p1_173 : Int), .int .u64 h1_174], .list eo1 so1 no1 co1, .list eo2 so2 no2 co2, .frame usC frC, .box 35 [AI 0, .nil], rowA eI 2 1 (xs_2.set ((v_168).toNat) (v_172 - 1)), .box 35 [AI n_1, .ref 5]]⟩ : St)) (by kernel_rfl) ?_ ?_
      ·refine R.any (by decide +kernel) (by kernel_rfl) ?_
       refine k24 2 (np_meetF _ _) ?_
       refine k24 6 (np_meetF _ _) ?_
       refine k30 0 (.ptr 6 1) (np_meetF _ _) ?_
       refine k30 3 (.ptr 6 0) (np_meetF _ _) ?_
       refine k30 7 (.ptr 6 0) (np_meetF _ _) ?_
       refine k23 1 4 8 ?_ ?_ ?_
       ·refine R.go 2 (k22 4 8 ?_ ?_)
        ·refine R.go 2 (k22 5 8 ?_ ?_)
         ·refine k26 (k28a 3 usC frC (k29a 3 35 [AI 0, .nil] (nextX_c_r4b c p1_158 h1_159 n_1 eo1 so1 no1 co1 eo2 so2 no2 co2 35 2 1 [AI 0, .nil] 2 1 xs_2.length (rows eI xs_2) 35 n_1 hc))) ?_
          rintro _ _ ⟨_, _, ⟨_, ⟨v_168, p1_169, h1_170, f171, rfl, rfl⟩, rfl⟩, rfl, rfl⟩
          refine R.go 1 (k21 8 ?_)
          refine R.go 2 (k21 9 ?_)
          refine k14 true (l01Full_c n_1 (by omega) (by omega)) rfl ?_
          refine R.go 1 (k21 10 ?_)
          refine k1 (((shl64 1 n_1) - 1) + 2) ?_
          refine R.go 1 (k21 11 ?_)
          refine k26 (k28a 3 usC frC (k29a 3 35 [AI 0, .nil] (nextX_c_r4b c p1_169 h1_170 (((shl64 1 n_1) - 1) + 2) eo1 so1 no1 co1 eo2 so2 no2 co2 35 2 1 [AI 0, .nil] 2 1 xs_2.length (rows eI xs_2) 35 n_1 hc))) ?_
          rintro _ _ ⟨_, _, ⟨_, ⟨v_172, p1_173, h1_174, f175, rfl, rfl⟩, rfl⟩, rfl, rfl⟩
          refine R.go 1 (k21 12 ?_)
          refine k1 (v_172 - 1) ?_
          refine R.go 1 (k21 13 ?_)
          refine k9 5 1 xs_2.length ((v_168).toNat) v_168 ?_
          refine R.go 1 (k21 14 ?_)
          refine k11 5 2 xs_2 ((v_168).toNat) (v_172 - 1) ?_
          refine R.go 1 (k20 ?_)
          exact k31 (v_168, p1_169, h1_170, v_172, p1_173, h1_174) ⟨by first | assumption | omega, by first | assumption | omega⟩
         ·refine R.go 2 (k21 5 ?_)
          refine k26 (k28a 3 usC frC (k29a 3 35 [AI 0, .nil] (nextX_c_r4b c p1_158 h1_159 n_1 eo1 so1 no1 co1 eo2 so2 no2 co2 35 2 1 [AI 0, .nil] 2 1 xs_2.length (rows eI xs_2) 35 n_1 hc))) ?_
          rintro _ _ ⟨_, _, ⟨_, ⟨v_176, p1_177, h1_178, f179, rfl, rfl⟩, rfl⟩, rfl, rfl⟩
          refine R.go 1 (k21 9 ?_)
          refine k14 true (l01Full_c n_1 (by omega) (by omega)) rfl ?_
          refine R.go 1 (k21 10 ?_)
          refine k1 (((shl64 1 n_1) - 1) + 2) ?_
          refine R.go 1 (k21 11 ?_)
          refine k26 (k28a 3 usC frC (k29a 3 35 [AI 0, .nil] (nextX_c_r4b c p1_177 h1_178 (((shl64 1 n_1) - 1) + 2) eo1 so1 no1 co1 eo2 so2 no2 co2 35 2 1 [AI 0, .nil] 2 1 xs_2.length (rows eI xs_2) 35 n_1 hc))) ?_
          rintro _ _ ⟨_, _, ⟨_, ⟨v_180, p1_181, h1_182, f183, rfl, rfl⟩, rfl⟩, rfl, rfl⟩
          refine R.go 1 (k21 12 ?_)
          refine k1 (v_180 - 1) ?_
          refine R.go 1 (k21 13 ?_)
          refine k9 5 1 xs_2.length ((v_176).toNat) v_176 ?_
          refine R.go 1 (k21 14 ?_)
          refine k11 5 2 xs_2 ((v_176).toNat) (v_180 - 1) ?_
          refine R.go 1 (k20 ?_)
          exact k31 (v_176, p1_177, h1_178, v_180, p1_181, h1_182) ⟨by first | assumption | omega, by first | assumption | omega⟩
        ·refine R.go 2 (k21 4 ?_)
         refine R.go 2 (k21 5 ?_)
         refine k26 (k28a 3 usC frC (k29a 3 35 [AI 0, .nil] (nextX_c_r4b c p1_158 h1_159 n_1 eo1 so1 no1 co1 eo2 so2 no2 co2 35 2 1 [AI 0, .nil] 2 1 xs_2.length (rows eI xs_2) 35 n_1 hc))) ?_
         rintro _ _ ⟨_, _, ⟨_, ⟨v_184, p1_185, h1_186, f187, rfl, rfl⟩, rfl⟩, rfl, rfl⟩
         refine R.go 1 (k21 9 ?_)
         refine k14 true (l01Full_c n_1 (by omega) (by omega)) rfl ?_
         refine R.go 1 (k21 10 ?_)
         refine k1 (((shl64 1 n_1) - 1) + 2) ?_
         refine R.go 1 (k21 11 ?_)
         refine k26 (k28a 3 usC frC (k29a 3 35 [AI 0, .nil] (nextX_c_r4b c p1_185 h1_186 (((shl64 1 n_1) - 1) + 2) eo1 so1 no1 co1 eo2 so2 no2 co2 35 2 1 [AI 0, .nil] 2 1 xs_2.length (rows eI xs_2) 35 n_1 hc))) ?_
         rintro _ _ ⟨_, _, ⟨_, ⟨v_188, p1_189, h1_190, f191, rfl, rfl⟩, rfl⟩, rfl, rfl⟩
         refine R.go 1 (k21 12 ?_)
         refine k1 (v_188 - 1) ?_
         refine R.go 1 (k21 13 ?_)
         refine k9 5 1 xs_2.length ((v_184).toNat) v_184 ?_
         refine R.go 1 (k21 14 ?_)
         refine k11 5 2 xs_2 ((v_184).toNat) (v_188 - 1) ?_
         refine R.go 1 (k20 ?_)
         exact k31 (v_184, p1_185, h1_186, v_188, p1_189, h1_190) ⟨by first | assumption | omega, by first | assumption | omega⟩
       ·refine R.go 2 (k23 1 5 8 ?_ ?_ ?_)
        ·refine R.go 2 (k22 5 8 ?_ ?_)
         ·refine k26 (k28a 3 usC frC (k29a 3 35 [AI 0, .nil] (nextX_c_r4b c p1_158 h1_159 n_1 eo1 so1 no1 co1 eo2 so2 no2 co2 35 2 1 [AI 0, .nil] 2 1 xs_2.length (rows eI xs_2) 35 n_1 hc))) ?_
          rintro _ _ ⟨_, _, ⟨_, ⟨v_192, p1_193, h1_194, f195, rfl, rfl⟩, rfl⟩, rfl, rfl⟩
          refine R.go 1 (k21 8 ?_)
          refine R.go 2 (k21 9 ?_)
          refine k14 true (l01Full_c n_1 (by omega) (by omega)) rfl ?_
          refine R.go 1 (k21 10 ?_)
          refine k1 (((shl64 1 n_1) - 1) + 2) ?_
          refine R.go 1 (k21 11 ?_)
          refine k26 (k28a 3 usC frC (k29a 3 35 [AI 0, .nil] (nextX_c_r4b c p1_193 h1_194 (((shl64 1 n_1) - 1) + 2) eo1 so1 no1 co1 eo2 so2 no2 co2 35 2 1 [AI 0, .nil] 2 1 xs_2.length (rows eI xs_2) 35 n_1 hc))) ?_
          rintro _ _ ⟨_, _, ⟨_, ⟨v_196, p1_197, h1_198, f199, rfl, rfl⟩, rfl⟩, rfl, rfl⟩
          refine R.go 1 (k21 12 ?_)
          refine k1 (v_196 - 1) ?_
          refine R.go 1 (k21 13 ?_)
          refine k9 5 1 xs_2.length ((v_192).toNat) v_192 ?_
          refine R.go 1 (k21 14 ?_)
          refine k11 5 2 xs_2 ((v_192).toNat) (v_196 - 1) ?_
          refine R.go 1 (k20 ?_)
          exact k31 (v_192, p1_193, h1_194, v_196, p1_197, h1_198) ⟨by first | assumption | omega, by first | assumption | omega⟩
         ·refine R.go 2 (k21 5 ?_)
          refine k26 (k28a 3 usC frC (k29a 3 35 [AI 0, .nil] (nextX_c_r4b c p1_158 h1_159 n_1 eo1 so1 no1 co1 eo2 so2 no2 co2 35 2 1 [AI 0, .nil] 2 1 xs_2.length (rows eI xs_2) 35 n_1 hc))) ?_
          rintro _ _ ⟨_, _, ⟨_, ⟨v_200, p1_201, h1_202, f203, rfl, rfl⟩, rfl⟩, rfl, rfl⟩
          refine R.go 1 (k21 9 ?_)
          refine k14 true (l01Full_c n_1 (by omega) (by omega)) rfl ?_
          refine R.go 1 (k21 10 ?_)
          refine k1 (((shl64 1 n_1) - 1) + 2) ?_
          refine R.go 1 (k21 11 ?_)
          refine k26 (k28a 3 usC frC (k29a 3 35 [AI 0, .nil] (nextX_c_r4b c p1_201 h1_202 (((shl64 1 n_1) - 1) + 2) eo1 so1 no1 co1 eo2 so2 no2 co2 35 2 1 [AI 0, .nil] 2 1 xs_2.length (rows eI xs_2) 35 n_1 hc))) ?_
          rintro _ _ ⟨_, _, ⟨_, ⟨v_204, p1_205, h1_206, f207, rfl, rfl⟩, rfl⟩, rfl, rfl⟩
          refine R.go 1 (k21 12 ?_)
          refine k1 (v_204 - 1) ?_
          refine R.go 1 (k21 13 ?_)
          refine k9 5 1 xs_2.length ((v_200).toNat) v_200 ?_
          refine R.go 1 (k21 14 ?_)
          refine k11 5 2 xs_2 ((v_200).toNat) (v_204 - 1) ?_
          refine R.go 1 (k20 ?_)
          exact k31 (v_200, p1_201, h1_202, v_204, p1_205, h1_206) ⟨by first | assumption | omega, by first | assumption | omega⟩
        ·refine k26 (k28a 3 usC frC (k29a 3 35 [AI 0, .nil] (nextX_c_r4b c p1_158 h1_159 n_1 eo1 so1 no1 co1 eo2 so2 no2 co2 35 2 1 [AI 0, .nil] 2 1 xs_2.length (rows eI xs_2) 35 n_1 hc))) ?_
         rintro _ _ ⟨_, _, ⟨_, ⟨v_208, p1_209, h1_210, f211, rfl, rfl⟩, rfl⟩, rfl, rfl⟩
         refine R.go 1 (k22 1 8 ?_ ?_)
         ·refine R.go 2 (k21 8 ?_)
          refine R.go 2 (k21 9 ?_)
          refine k14 true (l01Full_c n_1 (by omega) (by omega)) rfl ?_
          refine R.go 1 (k21 10 ?_)
          refine k1 (((shl64 1 n_1) - 1) + 2) ?_
          refine R.go 1 (k21 11 ?_)
          refine k26 (k28a 3 usC frC (k29a 3 35 [AI 0, .nil] (nextX_c_r4b c p1_209 h1_210 (((shl64 1 n_1) - 1) + 2) eo1 so1 no1 co1 eo2 so2 no2 co2 35 2 1 [AI 0, .nil] 2 1 xs_2.length (rows eI xs_2) 35 n_1 hc))) ?_
          rintro _ _ ⟨_, _, ⟨_, ⟨v_212, p1_213, h1_214, f215, rfl, rfl⟩, rfl⟩, rfl, rfl⟩
          refine R.go 1 (k21 12 ?_)
          refine k1 (v_212 - 1) ?_
          refine R.go 1 (k21 13 ?_)
          refine k9 5 1 xs_2.length ((v_208).toNat) v_208 ?_
          refine R.go 1 (k21 14 ?_)
          refine k11 5 2 xs_2 ((v_208).toNat) (v_212 - 1) ?_
          refine R.go 1 (k20 ?_)
          exact k31 (v_208, p1_209, h1_210, v_212, p1_213, h1_214) ⟨by first | assumption | omega, by first | assumption | omega⟩
         ·refine R.go 2 (k22 1 9 ?_ ?_)
          ·refine R.go 2 (k21 9 ?_)
           refine k14 true (l01Full_c n_1 (by omega) (by omega)) rfl ?_
           refine R.go 1 (k21 10 ?_)
           refine k1 (((shl64 1 n_1) - 1) + 2) ?_
           refine R.go 1 (k21 11 ?_)
           refine k26 (k28a 3 usC frC (k29a 3 35 [AI 0, .nil] (nextX_c_r4b c p1_209 h1_210 (((shl64 1 n_1) - 1) + 2) eo1 so1 no1 co1 eo2 so2 no2 co2 35 2 1 [AI 0, .nil] 2 1 xs_2.length (rows eI xs_2) 35 n_1 hc))) ?_
           rintro _ _ ⟨_, _, ⟨_, ⟨v_216, p1_217, h1_218, f219, rfl, rfl⟩, rfl⟩, rfl, rfl⟩
           refine R.go 1 (k21 12 ?_)
           refine k1 (v_216 - 1) ?_
           refine R.go 1 (k21 13 ?_)
           refine k9 5 1 xs_2.length ((v_208).toNat) v_208 ?_
           refine R.go 1 (k21 14 ?_)
           refine k11 5 2 xs_2 ((v_208).toNat) (v_216 - 1) ?_
           refine R.go 1 (k20 ?_)
           exact k31 (v_208, p1_209, h1_210, v_216, p1_217, h1_218) ⟨by first | assumption | omega, by first | assumption | omega⟩
          ·refine k14 true (l01Full_c n_1 (by omega) (by omega)) rfl ?_
           refine R.go 1 (k22 1 10 ?_ ?_)
           ·refine R.go 2 (k21 10 ?_)
            refine k1 (((shl64 1 n_1) - 1) + 2) ?_
            refine R.go 1 (k21 11 ?_)
            refine k26 (k28a 3 usC frC (k29a 3 35 [AI 0, .nil] (nextX_c_r4b c p1_209 h1_210 (((shl64 1 n_1) - 1) + 2) eo1 so1 no1 co1 eo2 so2 no2 co2 35 2 1 [AI 0, .nil] 2 1 xs_2.length (rows eI xs_2) 35 n_1 hc))) ?_
            rintro _ _ ⟨_, _, ⟨_, ⟨v_220, p1_221, h1_222, f223, rfl, rfl⟩, rfl⟩, rfl, rfl⟩
            refine R.go 1 (k21 12 ?_)
            refine k1 (v_220 - 1) ?_
            refine R.go 1 (k21 13 ?_)
            refine k9 5 1 xs_2.length ((v_208).toNat) v_208 ?_
            refine R.go 1 (k21 14 ?_)
            refine k11 5 2 xs_2 ((v_208).toNat) (v_220 - 1) ?_
            refine R.go 1 (k20 ?_)
            exact k31 (v_208, p1_209, h1_210, v_220, p1_221, h1_222) ⟨by first | assumption | omega, by first | assumption | omega⟩
           ·refine k1 (((shl64 1 n_1) - 1) + 2) ?_
            refine R.go 1 (k22 1 11 ?_ ?_)
            ·refine R.go 2 (k21 11 ?_)
             refine k26 (k28a 3 usC frC (k29a 3 35 [AI 0, .nil] (nextX_c_r4b c p1_209 h1_210 (((shl64 1 n_1) - 1) + 2) eo1 so1 no1 co1 eo2 so2 no2 co2 35 2 1 [AI 0, .nil] 2 1 xs_2.length (rows eI xs_2) 35 n_1 hc))) ?_
             rintro _ _ ⟨_, _, ⟨_, ⟨v_224, p1_225, h1_226, f227, rfl, rfl⟩, rfl⟩, rfl, rfl⟩
             refine R.go 1 (k21 12 ?_)
             refine k1 (v_224 - 1) ?_
             refine R.go 1 (k21 13 ?_)
             refine k9 5 1 xs_2.length ((v_208).toNat) v_208 ?_
             refine R.go 1 (k21 14 ?_)
             refine k11 5 2 xs_2 ((v_208).toNat) (v_224 - 1) ?_
             refine R.go 1 (k20 ?_)
             exact k31 (v_208, p1_209, h1_210, v_224, p1_225, h1_226) ⟨by first | assumption | omega, by first | assumption | omega⟩
            ·refine k26 (k28a 3 usC frC (k29a 3 35 [AI 0, .nil] (nextX_c_r4b c p1_209 h1_210 (((shl64 1 n_1) - 1) + 2) eo1 so1 no1 co1 eo2 so2 no2 co2 35 2 1 [AI 0, .nil] 2 1 xs_2.length (rows eI xs_2) 35 n_1 hc))) ?_
             rintro _ _ ⟨_, _, ⟨_, ⟨v_228, p1_229, h1_230, f231, rfl, rfl⟩, rfl⟩, rfl, rfl⟩
             refine R.go 1 (k22 1 12 ?_ ?_)
             ·refine R.go 2 (k21 12 ?_)
              refine k1 (v_228 - 1) ?_
              refine R.go 1 (k21 13 ?_)
              refine k9 5 1 xs_2.length ((v_208).toNat) v_208 ?_
              refine R.go 1 (k21 14 ?_)
              refine k11 5 2 xs_2 ((v_208).toNat) (v_228 - 1) ?_
              refine R.go 1 (k20 ?_)
              exact k31 (v_208, p1_209, h1_210, v_228, p1_229, h1_230) ⟨by first | assumption | omega, by first | assumption | omega⟩
             ·refine k1 (v_228 - 1) ?_
              refine R.go 1 (k21 1 ?_)
              refine R.go 2 (k21 13 ?_)
              refine k9 5 1 xs_2.length ((v_208).toNat) v_208 ?_
              refine R.go 1 (k21 14 ?_)
              refine k11 5 2 xs_2 ((v_208).toNat) (v_228 - 1) ?_
              refine R.go 1 (k20 ?_)
              exact k31 (v_208, p1_209, h1_210, v_228, p1_229, h1_230) ⟨by first | assumption | omega, by first | assumption | omega⟩
        ·refine R.go 2 (k22 1 5 ?_ ?_)
         ·refine R.go 2 (k21 5 ?_)
          refine k26 (k28a 3 usC frC (k29a 3 35 [AI 0, .nil] (nextX_c_r4b c p1_158 h1_159 n_1 eo1 so1 no1 co1 eo2 so2 no2 co2 35 2 1 [AI 0, .nil] 2 1 xs_2.length (rows eI xs_2) 35 n_1 hc))) ?_
          rintro _ _ ⟨_, _, ⟨_, ⟨v_232, p1_233, h1_234, f235, rfl, rfl⟩, rfl⟩, rfl, rfl⟩
          refine R.go 1 (k21 9 ?_)
          refine k14 true (l01Full_c n_1 (by omega) (by omega)) rfl ?_
          refine R.go 1 (k21 10 ?_)
          refine k1 (((shl64 1 n_1) - 1) + 2) ?_
          refine R.go 1 (k21 11 ?_)
          refine k26 (k28a 3 usC frC (k29a 3 35 [AI 0, .nil] (nextX_c_r4b c p1_233 h1_234 (((shl64 1 n_1) - 1) + 2) eo1 so1 no1 co1 eo2 so2 no2 co2 35 2 1 [AI 0, .nil] 2 1 xs_2.length (rows eI xs_2) 35 n_1 hc))) ?_
          rintro _ _ ⟨_, _, ⟨_, ⟨v_236, p1_237, h1_238, f239, rfl, rfl⟩, rfl⟩, rfl, rfl⟩
          refine R.go 1 (k21 12 ?_)
          refine k1 (v_236 - 1) ?_
          refine R.go 1 (k21 13 ?_)
          refine k9 5 1 xs_2.length ((v_232).toNat) v_232 ?_
          refine R.go 1 (k21 14 ?_)
          refine k11 5 2 xs_2 ((v_232).toNat) (v_236 - 1) ?_
          refine R.go 1 (k20 ?_)
          exact k31 (v_232, p1_233, h1_234, v_236, p1_237, h1_238) ⟨by first | assumption | omega, by first | assumption | omega⟩
         ·refine k26 (k28a 3 usC frC (k29a 3 35 [AI 0, .nil] (nextX_c_r4b c p1_158 h1_159 n_1 eo1 so1 no1 co1 eo2 so2 no2 co2 35 2 1 [AI 0, .nil] 2 1 xs_2.length (rows eI xs_2) 35 n_1 hc))) ?_
          rintro _ _ ⟨_, _, ⟨_, ⟨v_240, p1_241, h1_242, f243, rfl, rfl⟩, rfl⟩, rfl, rfl⟩
          refine R.go 1 (k22 1 9 ?_ ?_)
          ·refine R.go 2 (k21 9 ?_)
           refine k14 true (l01Full_c n_1 (by omega) (by omega)) rfl ?_
           refine R.go 1 (k21 10 ?_)
           refine k1 (((shl64 1 n_1) - 1) + 2) ?_
           refine R.go 1 (k21 11 ?_)
           refine k26 (k28a 3 usC frC (k29a 3 35 [AI 0, .nil] (nextX_c_r4b c p1_241 h1_242 (((shl64 1 n_1) - 1) + 2) eo1 so1 no1 co1 eo2 so2 no2 co2 35 2 1 [AI 0, .nil] 2 1 xs_2.length (rows eI xs_2) 35 n_1 hc))) ?_
           rintro _ _ ⟨_, _, ⟨_, ⟨v_244, p1_245, h1_246, f247, rfl, rfl⟩, rfl⟩, rfl, rfl⟩
           refine R.go 1 (k21 12 ?_)
           refine k1 (v_244 - 1) ?_
           refine R.go 1 (k21 13 ?_)
           refine k9 5 1 xs_2.length ((v_240).toNat) v_240 ?_
           refine R.go 1 (k21 14 ?_)
           refine k11 5 2 xs_2 ((v_240).toNat) (v_244 - 1) ?_
           refine R.go 1 (k20 ?_)
           exact k31 (v_240, p1_241, h1_242, v_244, p1_245, h1_246) ⟨by first | assumption | omega, by first | assumption | omega⟩
          ·refine k14 true (l01Full_c n_1 (by omega) (by omega)) rfl ?_
           refine R.go 1 (k22 1 10 ?_ ?_)
           ·refine R.go 2 (k21 10 ?_)
            refine k1 (((shl64 1 n_1) - 1) + 2) ?_
            refine R.go 1 (k21 11 ?_)
            refine k26 (k28a 3 usC frC (k29a 3 35 [AI 0, .nil] (nextX_c_r4b c p1_241 h1_242 (((shl64 1 n_1) - 1) + 2) eo1 so1 no1 co1 eo2 so2 no2 co2 35 2 1 [AI 0, .nil] 2 1 xs_2.length (rows eI xs_2) 35 n_1 hc))) ?_
            rintro _ _ ⟨_, _, ⟨_, ⟨v_248, p1_249, h1_250, f251, rfl, rfl⟩, rfl⟩, rfl, rfl⟩
            refine R.go 1 (k21 12 ?_)
            refine k1 (v_248 - 1) ?_
            refine R.go 1 (k21 13 ?_)
            refine k9 5 1 xs_2.length ((v_240).toNat) v_240 ?_
            refine R.go 1 (k21 14 ?_)
            refine k11 5 2 xs_2 ((v_240).toNat) (v_248 - 1) ?_
            refine R.go 1 (k20 ?_)
            exact k31 (v_240, p1_241, h1_242, v_248, p1_249, h1_250) ⟨by first | assumption | omega, by first | assumption | omega⟩
           ·refine k1 (((shl64 1 n_1) - 1) + 2) ?_
            refine R.go 1 (k22 1 11 ?_ ?_)
            ·refine R.go 2 (k21 11 ?_)
             refine k26 (k28a 3 usC frC (k29a 3 35 [AI 0, .nil] (nextX_c_r4b c p1_241 h1_242 (((shl64 1 n_1) - 1) + 2) eo1 so1 no1 co1 eo2 so2 no2 co2 35 2 1 [AI 0, .nil] 2 1 xs_2.length (rows eI xs_2) 35 n_1 hc))) ?_
             rintro _ _ ⟨_, _, ⟨_, ⟨v_252, p1_253, h1_254, f255, rfl, rfl⟩, rfl⟩, rfl, rfl⟩
             refine R.go 1 (k21 12 ?_)
             refine k1 (v_252 - 1) ?_
             refine R.go 1 (k21 13 ?_)
             refine k9 5 1 xs_2.length ((v_240).toNat) v_240 ?_
             refine R.go 1 (k21 14 ?_)
             refine k11 5 2 xs_2 ((v_240).toNat) (v_252 - 1) ?_
             refine R.go 1 (k20 ?_)
             exact k31 (v_240, p1_241, h1_242, v_252, p1_253, h1_254) ⟨by first | assumption | omega, by first | assumption | omega⟩
            ·refine k26 (k28a 3 usC frC (k29a 3 35 [AI 0, .nil] (nextX_c_r4b c p1_241 h1_242 (((shl64 1 n_1) - 1) + 2) eo1 so1 no1 co1 eo2 so2 no2 co2 35 2 1 [AI 0, .nil] 2 1 xs_2.length (rows eI xs_2) 35 n_1 hc))) ?_
             rintro _ _ ⟨_, _, ⟨_, ⟨v_256, p1_257, h1_258, f259, rfl, rfl⟩, rfl⟩, rfl, rfl⟩
             refine R.go 1 (k22 1 12 ?_ ?_)
             ·refine R.go 2 (k21 12 ?_)
              refine k1 (v_256 - 1) ?_
              refine R.go 1 (k21 13 ?_)
              refine k9 5 1 xs_2.length ((v_240).toNat) v_240 ?_
              refine R.go 1 (k21 14 ?_)
              refine k11 5 2 xs_2 ((v_240).toNat) (v_256 - 1) ?_
              refine R.go 1 (k20 ?_)
              exact k31 (v_240, p1_241, h1_242, v_256, p1_257, h1_258) ⟨by first | assumption | omega, by first | assumption | omega⟩
             ·refine k1 (v_256 - 1) ?_
              refine R.go 1 (k21 1 ?_)
              refine R.go 2 (k21 13 ?_)
              refine k9 5 1 xs_2.length ((v_240).toNat) v_240 ?_
              refine R.go 1 (k21 14 ?_)
              refine k11 5 2 xs_2 ((v_240).toNat) (v_256 - 1) ?_
              refine R.go 1 (k20 ?_)
              exact k31 (v_240, p1_241, h1_242, v_256, p1_257, h1_258) ⟨by first | assumption | omega, by first | assumption | omega⟩
       ·refine R.go 2 (k22 1 4 ?_ ?_)
        ·refine R.go 2 (k21 4 ?_)
         refine R.go 2 (k21 5 ?_)
         refine k26 (k28a 3 usC frC (k29a 3 35 [AI 0, .nil] (nextX_c_r4b c p1_158 h1_159 n_1 eo1 so1 no1 co1 eo2 so2 no2 co2 35 2 1 [AI 0, .nil] 2 1 xs_2.length (rows eI xs_2) 35 n_1 hc))) ?_
         rintro _ _ ⟨_, _, ⟨_, ⟨v_260, p1_261, h1_262, f263, rfl, rfl⟩, rfl⟩, rfl, rfl⟩
         refine R.go 1 (k21 9 ?_)
         refine k14 true (l01Full_c n_1 (by omega) (by omega)) rfl ?_
         refine R.go 1 (k21 10 ?_)
         refine k1 (((shl64 1 n_1) - 1) + 2) ?_
         refine R.go 1 (k21 11 ?_)
         refine k26 (k28a 3 usC frC (k29a 3 35 [AI 0, .nil] (nextX_c_r4b c p1_261 h1_262 (((shl64 1 n_1) - 1) + 2) eo1 so1 no1 co1 eo2 so2 no2 co2 35 2 1 [AI 0, .nil] 2 1 xs_2.length (rows eI xs_2) 35 n_1 hc))) ?_
         rintro _ _ ⟨_, _, ⟨_, ⟨v_264, p1_265, h1_266, f267, rfl, rfl⟩, rfl⟩, rfl, rfl⟩
         refine R.go 1 (k21 12 ?_)
         refine k1 (v_264 - 1) ?_
         refine R.go 1 (k21 13 ?_)
         refine k9 5 1 xs_2.length ((v_260).toNat) v_260 ?_
         refine R.go 1 (k21 14 ?_)
         refine k11 5 2 xs_2 ((v_260).toNat) (v_264 - 1) ?_
         refine R.go 1 (k20 ?_)
         exact k31 (v_260, p1_261, h1_262, v_264, p1_265, h1_266) ⟨by first | assumption | omega, by first | assumption | omega⟩
        ·refine R.go 2 (k22 1 5 ?_ ?_)
         ·refine R.go 2 (k21 5 ?_)
          refine k26 (k28a 3 usC frC (k29a 3 35 [AI 0, .nil] (nextX_c_r4b c p1_158 h1_159 n_1 eo1 so1 no1 co1 eo2 so2 no2 co2 35 2 1 [AI 0, .nil] 2 1 xs_2.length (rows eI xs_2) 35 n_1 hc))) ?_
          rintro _ _ ⟨_, _, ⟨_, ⟨v_268, p1_269, h1_270, f271, rfl, rfl⟩, rfl⟩, rfl, rfl⟩
          refine R.go 1 (k21 9 ?_)
          refine k14 true (l01Full_c n_1 (by omega) (by omega)) rfl ?_
          refine R.go 1 (k21 10 ?_)
          refine k1 (((shl64 1 n_1) - 1) + 2) ?_
          refine R.go 1 (k21 11 ?_)
          refine k26 (k28a 3 usC frC (k29a 3 35 [AI 0, .nil] (nextX_c_r4b c p1_269 h1_270 (((shl64 1 n_1) - 1) + 2) eo1 so1 no1 co1 eo2 so2 no2 co2 35 2 1 [AI 0, .nil] 2 1 xs_2.length (rows eI xs_2) 35 n_1 hc))) ?_
          rintro _ _ ⟨_, _, ⟨_, ⟨v_272, p1_273, h1_274, f275, rfl, rfl⟩, rfl⟩, rfl, rfl⟩
          refine R.go 1 (k21 12 ?_)
          refine k1 (v_272 - 1) ?_
          refine R.go 1 (k21 13 ?_)
          refine k9 5 1 xs_2.length ((v_268).toNat) v_268 ?_
          refine R.go 1 (k21 14 ?_)
          refine k11 5 2 xs_2 ((v_268).toNat) (v_272 - 1) ?_
          refine R.go 1 (k20 ?_)
          exact k31 (v_268, p1_269, h1_270, v_272, p1_273, h1_274) ⟨by first | assumption | omega, by first | assumption | omega⟩
         ·refine k26 (k28a 3 usC frC (k29a 3 35 [AI 0, .nil] (nextX_c_r4b c p1_158 h1_159 n_1 eo1 so1 no1 co1 eo2 so2 no2 co2 35 2 1 [AI 0, .nil] 2 1 xs_2.length (rows eI xs_2) 35 n_1 hc))) ?_
          rintro _ _ ⟨_, _, ⟨_, ⟨v_276, p1_277, h1_278, f279, rfl, rfl⟩, rfl⟩, rfl, rfl⟩
          refine R.go 1 (k22 1 9 ?_ ?_)
          ·refine R.go 2 (k21 9 ?_)
           refine k14 true (l01Full_c n_1 (by omega) (by omega)) rfl ?_
           refine R.go 1 (k21 10 ?_)
           refine k1 (((shl64 1 n_1) - 1) + 2) ?_
           refine R.go 1 (k21 11 ?_)
           refine k26 (k28a 3 usC frC (k29a 3 35 [AI 0, .nil] (nextX_c_r4b c p1_277 h1_278 (((shl64 1 n_1) - 1) + 2) eo1 so1 no1 co1 eo2 so2 no2 co2 35 2 1 [AI 0, .nil] 2 1 xs_2.length (rows eI xs_2) 35 n_1 hc))) ?_
           rintro _ _ ⟨_, _, ⟨_, ⟨v_280, p1_281, h1_282, f283, rfl, rfl⟩, rfl⟩, rfl, rfl⟩
           refine R.go 1 (k21 12 ?_)
           refine k1 (v_280 - 1) ?_
           refine R.go 1 (k21 13 ?_)
           refine k9 5 1 xs_2.length ((v_276).toNat) v_276 ?_
           refine R.go 1 (k21 14 ?_)
           refine k11 5 2 xs_2 ((v_276).toNat) (v_280 - 1) ?_
           refine R.go 1 (k20 ?_)
           exact k31 (v_276, p1_277, h1_278, v_280, p1_281, h1_282) ⟨by first | assumption | omega, by first | assumption | omega⟩
          ·refine k14 true (l01Full_c n_1 (by omega) (by omega)) rfl ?_
           refine R.go 1 (k22 1 10 ?_ ?_)
           ·refine R.go 2 (k21 10 ?_)
            refine k1 (((shl64 1 n_1) - 1) + 2) ?_
            refine R.go 1 (k21 11 ?_)
            refine k26 (k28a 3 usC frC (k29a 3 35 [AI 0, .nil] (nextX_c_r4b c p1_277 h1_278 (((shl64 1 n_1) - 1) + 2) eo1 so1 no1 co1 eo2 so2 no2 co2 35 2 1 [AI 0, .nil] 2 1 xs_2.length (rows eI xs_2) 35 n_1 hc))) ?_
            rintro _ _ ⟨_, _, ⟨_, ⟨v_284, p1_285, h1_286, f287, rfl, rfl⟩, rfl⟩, rfl, rfl⟩
            refine R.go 1 (k21 12 ?_)
            refine k1 (v_284 - 1) ?_
            refine R.go 1 (k21 13 ?_)
            refine k9 5 1 xs_2.length ((v_276).toNat) v_276 ?_
            refine R.go 1 (k21 14 ?_)
            refine k11 5 2 xs_2 ((v_276).toNat) (v_284 - 1) ?_
            refine R.go 1 (k20 ?_)
            exact k31 (v_276, p1_277, h1_278, v_284, p1_285, h1_286) ⟨by first | assumption | omega, by first | assumption | omega⟩
           ·refine k1 (((shl64 1 n_1) - 1) + 2) ?_
            refine R.go 1 (k22 1 11 ?_ ?_)
            ·refine R.go 2 (k21 11 ?_)
             refine k26 (k28a 3 usC frC (k29a 3 35 [AI 0, .nil] (nextX_c_r4b c p1_277 h1_278 (((shl64 1 n_1) - 1) + 2) eo1 so1 no1 co1 eo2 so2 no2 co2 35 2 1 [AI 0, .nil] 2 1 xs_2.length (rows eI xs_2) 35 n_1 hc))) ?_
             rintro _ _ ⟨_, _, ⟨_, ⟨v_288, p1_289, h1_290, f291, rfl, rfl⟩, rfl⟩, rfl, rfl⟩
             refine R.go 1 (k21 12 ?_)
             refine k1 (v_288 - 1) ?_
             refine R.go 1 (k21 13 ?_)
             refine k9 5 1 xs_2.length ((v_276).toNat) v_276 ?_
             refine R.go 1 (k21 14 ?_)
             refine k11 5 2 xs_2 ((v_276).toNat) (v_288 - 1) ?_
             refine R.go 1 (k20 ?_)
             exact k31 (v_276, p1_277, h1_278, v_288, p1_289, h1_290) ⟨by first | assumption | omega, by first | assumption | omega⟩
            ·refine k26 (k28a 3 usC frC (k29a 3 35 [AI 0, .nil] (nextX_c_r4b c p1_277 h1_278 (((shl64 1 n_1) - 1) + 2) eo1 so1 no1 co1 eo2 so2 no2 co2 35 2 1 [AI 0, .nil] 2 1 xs_2.length (rows eI xs_2) 35 n_1 hc))) ?_
             rintro _ _ ⟨_, _, ⟨_, ⟨v_292, p1_293, h1_294, f295, rfl, rfl⟩, rfl⟩, rfl, rfl⟩
             refine R.go 1 (k22 1 12 ?_ ?_)
             ·refine R.go 2 (k21 12 ?_)
              refine k1 (v_292 - 1) ?_
              refine R.go 1 (k21 13 ?_)
              refine k9 5 1 xs_2.length ((v_276).toNat) v_276 ?_
              refine R.go 1 (k21 14 ?_)
              refine k11 5 2 xs_2 ((v_276).toNat) (v_292 - 1) ?_
              refine R.go 1 (k20 ?_)
              exact k31 (v_276, p1_277, h1_278, v_292, p1_293, h1_294) ⟨by first | assumption | omega, by first | assumption | omega⟩
             ·refine k1 (v_292 - 1) ?_
              refine R.go 1 (k21 1 ?_)
              refine R.go 2 (k21 13 ?_)
              refine k9 5 1 xs_2.length ((v_276).toNat) v_276 ?_
              refine R.go 1 (k21 14 ?_)
              refine k11 5 2 xs_2 ((v_276).toNat) (v_292 - 1) ?_
              refine R.go 1 (k20 ?_)
              exact k31 (v_276, p1_277, h1_278, v_292, p1_293, h1_294) ⟨by first | assumption | omega, by first | assumption | omega⟩
      ·rintro ⟨v_168, p1_169, h1_170, v_172, p1_173, h1_174⟩ ⟨f171, f175⟩
       refine R.go 6 (k18 5 ?_)
       refine R.kfix 3 (us := usC) (by kernel_rfl) (hfC.frz 5 (LI (xs_2.set ((v_168).toNat) (v_172 - 1))) (Nat.le_of_ble_eq_true (by kernel_rfl))) ?_
       exact R.retX (res := .agg [AI n_1, LI (xs_2.set ((v_168).toNat) (v_172 - 1))]) (hp' := [.box 157 [LB c, AI (p1_173 : Int), .int .u64 h1_174], .list eo1 so1 no1 co1, .list eo2 so2 no2 co2, .dead, .box 35 [AI n_1, LI (xs_2.set ((v_168).toNat) (v_172 - 1))], .dead, .box 35 [AI n_1, LI (xs_2.set ((v_168).toNat) (v_172 - 1))]]) (by kernel_rfl) (by kernel_rfl) (by kernel_rfl) (by kernel_rfl) ⟨[0, 1, 2], by kernel_rfl, by decide, n_1, xs_2.set ((v_168).toNat) (v_172 - 1), p1_173, h1_174, by first | omega | (simp; done) | (simp only [List.length_append, List.length_cons, List.length_nil, List.length_set]; omega), by kernel_rfl, by kernel_rfl⟩
     ·refine R.go 7 (k18 5 ?_)
      refine R.kfix 3 (us := usC) (by kernel_rfl) (hfC.frz 5 (LI xs_2) (Nat.le_of_ble_eq_true (by kernel_rfl))) ?_
      exact R.retX (res := .agg [AI n_1, LI xs_2]) (hp' := [.box 157 [LB c, AI (p1_158 : Int), .int .u64 h1_159], .list eo1 so1 no1 co1, .list eo2 so2 no2 co2, .dead, .box 35 [AI n_1, LI xs_2], .dead, .box 35 [AI n_1, LI xs_2]]) (by kernel_rfl) (by kernel_rfl) (by kernel_rfl) (by kernel_rfl) ⟨[0, 1, 2], by kernel_rfl, by decide, n_1, xs_2, p1_158, h1_159, by first | omega | (simp; done) | (simp only [List.length_append, List.length_cons, List.length_nil, List.length_set]; omega), by kernel_rfl, by kernel_rfl⟩
    ·refine R.go 7 (k18 5 ?_)
     refine R.kfix 3 (us := usC) (by kernel_rfl) (hfC.frz 5 (LI xs_2) (Nat.le_of_ble_eq_true (by kernel_rfl))) ?_
     exact R.retX (res := .agg [AI n_1, LI xs_2]) (hp' := [.box 157 [LB c, AI (p1_158 : Int), .int .u64 h1_159], .list eo1 so1 no1 co1, .list eo2 so2 no2 co2, .dead, .box 35 [AI n_1, LI xs_2], .dead, .box 35 [AI n_1, LI xs_2]]) (by kernel_rfl) (by kernel_rfl) (by kernel_rfl) (by kernel_rfl) ⟨[0, 1, 2], by kernel_rfl, by decide, n_1, xs_2, p1_158, h1_159, by first | omega | (simp; done) | (simp only [List.length_append, List.length_cons, List.length_nil, List.length_set]; omega), by kernel_rfl, by kernel_rfl⟩

theorem plainX_c_r3 (c : List Int) (p : Nat) (h : Int) (size : Int) (vars : Int) (eo1 : Nat) (so1 : Nat) (no1 : Nat) (co1 : List AV) (eo2 : Nat) (so2 : Nat) (no2 : Nat) (co2 : List AV) (eo3 : Nat) (so3 : Nat) (no3 : Nat) (co3 : List AV) (hc : BY c) (hs : size ≤ 100) : CallX Tryz.prog 153 [.ptr 0 0, AI size, AI vars] [.box 157 [LB c, AI (p : Int), .int .u64 h], .list eo1 so1 no1 co1, .list eo2 so2 no2 co2, .list eo3 so3 no3 co3] (fun (resX : AV) (objX : List AObj) => ∃ r : List (Int × Int), ∃ p1 : Nat, ∃ h1 : Int, (r.length ≤ 1000) ∧ resX = LN r ∧ objX = [.box 157 [LB c, AI (p1 : Int), .int .u64 h1], .list eo1 so1 no1 co1, .list eo2 so2 no2 co2, .list eo3 so3 no3 co3]) := by
 have hcl : c.length ≤ 4096 := hc.1
 have hcb := hc.2
 refine CallX.dropE (CallX.ofF Tryz.func153 rfl (by kernel_rfl) ?_)
 intro usC frC hfC
 refine R.go 10 (k26 (k28b 4 usC frC (nextX_c_r3 c p h 30 eo1 so1 no1 co1 eo2 so2 no2 co2 eo3 so3 no3 co3 hc)) ?_)
 rintro _ _ ⟨_, _, ⟨v_1, p1_2, h1_3, f4, rfl, rfl⟩, rfl, rfl⟩
 refine R.go 1 (k26 (k28b 4 usC frC (anyX_c_r3 c p1_2 h1_3 size vars (decide (v_1 = 0)) eo1 so1 no1 co1 eo2 so2 no2 co2 eo3 so3 no3 co3 hc hs)) ?_)
 rintro _ _ ⟨_, _, ⟨r_5, p1_6, h1_7, f8, rfl, rfl⟩, rfl, rfl⟩
 exact R.go 2 (R.retX (res := LN r_5) (hp' := [.box 157 [LB c, AI (p1_6 : Int), .int .u64 h1_7], .list eo1 so1 no1 co1, .list eo2 so2 no2 co2, .list eo3 so3 no3 co3, .dead]) (by kernel_rfl) (by kernel_rfl) (by kernel_rfl) (by kernel_rfl) ⟨[0, 1, 2, 3], by kernel_rfl, by decide, r_5, p1_6, h1_7, by first | assumption | omega, by kernel_rfl, by kernel_rfl⟩)

theorem pairX_c_r1 (c : List Int) (p : Nat) (h : Int) (eo1 : Nat) (so1 : Nat) (no1 : Nat) (co1 : List AV) (hc : BY c) : CallX Tryz.prog 65 [.ptr 0 0] [.box 157 [LB c, AI (p : Int), .int .u64 h], .list eo1 so1 no1 co1] (fun (resX : AV) (objX : List AObj) => ∃ n : Int, ∃ xs : List Int, ∃ a : List (Int × Int), ∃ p1 : Nat, ∃ h1 : Int, (xs.length ≤ 20) ∧ (a.length ≤ 1000) ∧ resX = .tup [.agg [AI n, LI xs], LN a] ∧ objX = [.box 157 [LB c, AI (p1 : Int), .int .u64 h1], .list eo1 so1 no1 co1]) := by
 have hcl : c.length ≤ 4096 := hc.1
 have hcb := hc.2
 refine CallX.dropE (CallX.ofF Tryz.func65 rfl (by kernel_rfl) ?_)
 intro usC frC hfC
 refine R.go 9 (k26 (k28a 2 usC frC (k29a 2 35 [AI 0, .nil] (nextX_c_r2 c p h 8 eo1 so1 no1 co1 35 2 1 [AI 0, .nil] hc))) ?_)
 rintro _ _ ⟨_, _, ⟨_, ⟨v_1, p1_2, h1_3, f4, rfl, rfl⟩, rfl⟩, rfl, rfl⟩
 refine R.go 7 (k3 (v_1 = 0) (fun c5 => ?_) (fun c5 => ?_))
 ·refine R.go 3 (k26 (k28f 2 usC frC (k29d 2 35 [AI 0, .nil] (drawP_c_r2 c p1_2 h1_3 8 eo1 so1 no1 co1 35 2 1 [AI 0, .nil] hc (by omega)))) ?_)
  rintro _ _ ⟨_, _, ⟨_, ⟨n_6, xs_7, p1_8, h1_9, f10, rfl, rfl⟩, rfl⟩, rfl, rfl⟩
  refine R.go 4 (R.meetF (α := (List (Int × Int)) × Nat × Int) (fun | (r_11, p1_12, h1_13) => (r_11.length ≤ 1000)) (fun | (r_11, p1_12, h1_13) => (⟨(frm 28 [(0, .ptr 0 0), (2, .ptr 3 0), (3, LN r_11), (4, .ptr 4 0), (7, .ptr 0 0), (8, AI v_1), (9, .bool (decide (v_1 = 0))), (10, .bool (decide (v_1 = 0))), (11, .ptr 0 0), (12, .agg [AI n_6, LI xs_7]), (13, .agg [AI n_6, LI xs_7]), (14, .ptr 0 0), (15, LN r_11)]), [.box 157 [LB c, AI (p1_12 : Int), .int .u64 h1_13], .list eo1 so1 no1 co1, .frame usC frC, .box 35 [AI n_6, LI xs_7], .box 35 [AI n_6, LI xs_7]]⟩ : St)) (by kernel_rfl) ?_ ?_)
  ·refine R.any (by decide +kernel) (by kernel_rfl) ?_
   refine k24 1 (np_meetF _ _) ?_
   refine k22 0 2 ?_ ?_
   ·refine R.go 2 (k21 2 ?_)
    refine k26 (k28d 2 usC frC (k29b 3 35 [AI n_6, LI xs_7] (k29a 2 35 [AI 0, .nil] (plainX_c_r3 c p1_8 h1_9 10 1 eo1 so1 no1 co1 35 2 1 [AI 0, .nil] 35 2 1 [AI n_6, LI xs_7] hc (by omega))))) ?_
    rintro _ _ ⟨_, _, ⟨_, ⟨_, ⟨r_11, p1_12, h1_13, f14, rfl, rfl⟩, rfl⟩, rfl⟩, rfl, rfl⟩
    refine R.go 1 (k21 3 ?_)
    refine R.go 2 (k21 4 ?_)
    refine R.go 2 (k20 ?_)
    exact k31 (r_11, p1_12, h1_13) (by first | assumption | omega)
   ·refine k26 (k28d 2 usC frC (k29b 3 35 [AI n_6, LI xs_7] (k29a 2 35 [AI 0, .nil] (plainX_c_r3 c p1_8 h1_9 10 1 eo1 so1 no1 co1 35 2 1 [AI 0, .nil] 35 2 1 [AI n_6, LI xs_7] hc (by omega))))) ?_
    rintro _ _ ⟨_, _, ⟨_, ⟨_, ⟨r_15, p1_16, h1_17, f18, rfl, rfl⟩, rfl⟩, rfl⟩, rfl, rfl⟩
    refine R.go 1 (k21 0 ?_)
    refine R.go 2 (k21 3 ?_)
    refine R.go 2 (k21 4 ?_)
    refine R.go 2 (k20 ?_)
    exact k31 (r_15, p1_16, h1_17) (by first | assumption | omega)
  ·rintro ⟨r_11, p1_12, h1_13⟩ f14
   exact R.retX (res := .tup [.agg [AI n_6, LI xs_7], LN r_11]) (hp' := [.box 157 [LB c, AI (p1_12 : Int), .int .u64 h1_13], .list eo1 so1 no1 co1, .dead, .box 35 [AI n_6, LI xs_7], .box 35 [AI n_6, LI xs_7]]) (by kernel_rfl) (by kernel_rfl) (by kernel_rfl) (by kernel_rfl) ⟨[0, 1], by kernel_rfl, by decide, n_6, xs_7, r_11, p1_12, h1_13, by first | assumption | omega, by first | assumption | omega, by kernel_rfl, by kernel_rfl⟩
 ·refine R.go 5 (k3 (v_1 = 1) (fun c19 => ?_) (fun c19 => ?_))
  ·refine R.go 3 (k26 (k28f 2 usC frC (k29d 2 35 [AI 0, .nil] (drawP_c_r2 c p1_2 h1_3 6 eo1 so1 no1 co1 35 2 1 [AI 0, .nil] hc (by omega)))) ?_)
   rintro _ _ ⟨_, _, ⟨_, ⟨n_20, xs_21, p1_22, h1_23, f24, rfl, rfl⟩, rfl⟩, rfl, rfl⟩
   refine R.go 4 (R.meetF (α := (List (Int × Int)) × Nat × Int) (fun | (r_25, p1_26, h1_27) => (r_25.length ≤ 1000)) (fun | (r_25, p1_26, h1_27) => (⟨(frm 28 [(0, .ptr 0 0), (2, .ptr 3 0), (3, LN r_25), (5, .ptr 4 0), (7, .ptr 0 0), (8, AI v_1), (9, .bool (decide (v_1 = 0))), (10, .bool (decide (v_1 = 0))), (16, .bool (decide (v_1 = 1))), (17, .bool (decide (v_1 = 1))), (18, .ptr 0 0), (19, .agg [AI n_20, LI xs_21]), (20, .agg [AI n_20, LI xs_21]), (21, .ptr 0 0), (22, LN r_25)]), [.box 157 [LB c, AI (p1_26 : Int), .int .u64 h1_27], .list eo1 so1 no1 co1, .frame usC frC, .box 35 [AI n_20, LI xs_21], .box 35 [AI n_20, LI xs_21]]⟩ : St)) (by kernel_rfl) ?_ ?_)
   ·refine R.any (by decide +kernel) (by kernel_rfl) ?_
    refine k24 1 (np_meetF _ _) ?_
    refine k22 0 2 ?_ ?_
    ·refine R.go 2 (k21 2 ?_)
     refine k26 (k28d 2 usC frC (k29b 3 35 [AI n_20, LI xs_21] (k29a 2 35 [AI 0, .nil] (plainX_c_r3 c p1_22 h1_23 12 4 eo1 so1 no1 co1 35 2 1 [AI 0, .nil] 35 2 1 [AI n_20, LI xs_21] hc (by omega))))) ?_
     rintro _ _ ⟨_, _, ⟨_, ⟨_, ⟨r_25, p1_26, h1_27, f28, rfl, rfl⟩, rfl⟩, rfl⟩, rfl, rfl⟩
     refine R.go 1 (k21 3 ?_)
     refine R.go 2 (k21 4 ?_)
     refine R.go 2 (k20 ?_)
     exact k31 (r_25, p1_26, h1_27) (by first | assumption | omega)
    ·refine k26 (k28d 2 usC frC (k29b 3 35 [AI n_20, LI xs_21] (k29a 2 35 [AI 0, .nil] (plainX_c_r3 c p1_22 h1_23 12 4 eo1 so1 no1 co1 35 2 1 [AI 0, .nil] 35 2 1 [AI n_20, LI xs_21] hc (by omega))))) ?_
     rintro _ _ ⟨_, _, ⟨_, ⟨_, ⟨r_29, p1_30, h1_31, f32, rfl, rfl⟩, rfl⟩, rfl⟩, rfl, rfl⟩
     refine R.go 1 (k21 0 ?_)
     refine R.go 2 (k21 3 ?_)
     refine R.go 2 (k21 4 ?_)
     refine R.go 2 (k20 ?_)
     exact k31 (r_29, p1_30, h1_31) (by first | assumption | omega)
   ·rintro ⟨r_25, p1_26, h1_27⟩ f28
    exact R.retX (res := .tup [.agg [AI n_20, LI xs_21], LN r_25]) (hp' := [.box 157 [LB c, AI (p1_26 : Int), .int .u64 h1_27], .list eo1 so1 no1 co1, .dead, .box 35 [AI n_20, LI xs_21], .box 35 [AI n_20, LI xs_21]]) (by kernel_rfl) (by kernel_rfl) (by kernel_rfl) (by kernel_rfl) ⟨[0, 1], by kernel_rfl, by decide, n_20, xs_21, r_25, p1_26, h1_27, by first | assumption | omega, by first | assumption | omega, by kernel_rfl, by kernel_rfl⟩
  ·refine R.go 5 (k26 (k28f 2 usC frC (k29d 2 35 [AI 0, .nil] (drawP_c_r2 c p1_2 h1_3 4 eo1 so1 no1 co1 35 2 1 [AI 0, .nil] hc (by omega)))) ?_)
   rintro _ _ ⟨_, _, ⟨_, ⟨n_33, xs_34, p1_35, h1_36, f37, rfl, rfl⟩, rfl⟩, rfl, rfl⟩
   refine R.go 4 (R.meetF (α := (List (Int × Int)) × Nat × Int) (fun | (r_38, p1_39, h1_40) => (r_38.length ≤ 1000)) (fun | (r_38, p1_39, h1_40) => (⟨(frm 28 [(0, .ptr 0 0), (2, .ptr 3 0), (3, LN r_38), (6, .ptr 4 0), (7, .ptr 0 0), (8, AI v_1), (9, .bool (decide (v_1 = 0))), (10, .bool (decide (v_1 = 0))), (16, .bool (decide (v_1 = 1))), (17, .bool (decide (v_1 = 1))), (23, .ptr 0 0), (24, .agg [AI n_33, LI xs_34]), (25, .agg [AI n_33, LI xs_34]), (26, .ptr 0 0), (27, LN r_38)]), [.box 157 [LB c, AI (p1_39 : Int), .int .u64 h1_40], .list eo1 so1 no1 co1, .frame usC frC, .box 35 [AI n_33, LI xs_34], .box 35 [AI n_33, LI xs_34]]⟩ : St)) (by kernel_rfl) ?_ ?_)
   ·refine R.any (by decide +kernel) (by kernel_rfl) ?_
    refine k24 1 (np_meetF _ _) ?_
    refine k22 0 2 ?_ ?_
    ·refine R.go 2 (k21 2 ?_)
     refine k26 (k28d 2 usC frC (k29b 3 35 [AI n_33, LI xs_34] (k29a 2 35 [AI 0, .nil] (plainX_c_r3 c p1_35 h1_36 12 2 eo1 so1 no1 co1 35 2 1 [AI 0, .nil] 35 2 1 [AI n_33, LI xs_34] hc (by omega))))) ?_
     rintro _ _ ⟨_, _, ⟨_, ⟨_, ⟨r_38, p1_39, h1_40, f41, rfl, rfl⟩, rfl⟩, rfl⟩, rfl, rfl⟩
     refine R.go 1 (k21 3 ?_)
     refine R.go 2 (k21 4 ?_)
     refine R.go 2 (k20 ?_)
     exact k31 (r_38, p1_39, h1_40) (by first | assumption | omega)
    ·refine k26 (k28d 2 usC frC (k29b 3 35 [AI n_33, LI xs_34] (k29a 2 35 [AI 0, .nil] (plainX_c_r3 c p1_35 h1_36 12 2 eo1 so1 no1 co1 35 2 1 [AI 0, .nil] 35 2 1 [AI n_33, LI xs_34] hc (by omega))))) ?_
     rintro _ _ ⟨_, _, ⟨_, ⟨_, ⟨r_42, p1_43, h1_44, f45, rfl, rfl⟩, rfl⟩, rfl⟩, rfl, rfl⟩
     refine R.go 1 (k21 0 ?_)
     refine R.go 2 (k21 3 ?_)
     refine R.go 2 (k21 4 ?_)
     refine R.go 2 (k20 ?_)
     exact k31 (r_42, p1_43, h1_44) (by first | assumption | omega)
   ·rintro ⟨r_38, p1_39, h1_40⟩ f41
    exact R.retX (res := .tup [.agg [AI n_33, LI xs_34], LN r_38]) (hp' := [.box 157 [LB c, AI (p1_39 : Int), .int .u64 h1_40], .list eo1 so1 no1 co1, .dead, .box 35 [AI n_33, LI xs_34], .box 35 [AI n_33, LI xs_34]]) (by kernel_rfl) (by kernel_rfl) (by kernel_rfl) (by kernel_rfl) ⟨[0, 1], by kernel_rfl, by decide, n_33, xs_34, r_38, p1_39, h1_40, by first | assumption | omega, by first | assumption | omega, by kernel_rfl, by kernel_rfl⟩

end Go.Proofs.YtjllngcefoohpaaGreat
