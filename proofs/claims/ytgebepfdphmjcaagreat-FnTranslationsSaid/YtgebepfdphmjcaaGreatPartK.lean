/- Texts of the proof: E01, TR6, TR7, E02. -/
import Derived.Test.YtgebepfdphmjcaaGreatPartJ

/-! Draws, existential: numbers. -/
namespace Go.Proofs.YtgebepfdphmjcaaGreat
open Go.RowKit Go.Abs

theorem u64and (a : Int) : 0 ≤ bits .and .u64 a 16777215 ∧ bits .and .u64 a 16777215 ≤ 16777215 := by
  show 0 ≤ IntKind.u64.wrap _ ∧ IntKind.u64.wrap _ ≤ 16777215
  rw [IntKind.wrap_u64]
  have h : (BitVec.ofInt 64 a &&& BitVec.ofInt 64 16777215).toNat ≤ 16777215 := by
    rw [BitVec.toNat_and]
    exact Nat.le_trans Nat.and_le_right (by decide)
  have e : ∀ k : Nat, k ≤ 16777215 → 0 ≤ ((k : Int) % 18446744073709551616) ∧ ((k : Int) % 18446744073709551616) ≤ 16777215 := fun k hk => by omega
  exact e _ h
def BY (c : List Int) : Prop := c.length ≤ 4096 ∧ ∀ j : Nat, j < c.length → 0 ≤ c.getD j 0 ∧ c.getD j 0 ≤ 255
theorem mod_rng {x n : Int} (h : ¬ n < 1) : (n < 1 → x % n = 0) ∧ (1 ≤ n → 0 ≤ x % n ∧ x % n < n) := ⟨fun h1 => absurd h1 h, fun h1 => ⟨Int.emod_nonneg _ (by omega), Int.emod_lt_of_pos _ (by omega)⟩⟩

theorem nextX_c (c : List Int) (p : Nat) (h : Int) (n : Int) (hc : BY c) : CallX Tryz.prog 53 [.ptr 0 0, AI n] [.box 120 [LB c, AI (p : Int), .int .u64 h]] (fun (resX : AV) (objX : List AObj) => ∃ v : Int, ∃ p1 : Nat, ∃ h1 : Int, ((n < 1 → v = 0) ∧ (1 ≤ n → 0 ≤ v ∧ v < n)) ∧ resX = AI v ∧ objX = [.box 120 [LB c, AI (p1 : Int), .int .u64 h1]]) := by
  have hcl : c.length ≤ 4096 := hc.1
  have hcb := hc.2
  have hxr := fun h => u64and (shr64 (IntKind.u64.wrap (IntKind.u64.wrap (h * 6364136223846793005) + 1442695040888963407)) 33)
  have hxh := hxr h
  refine CallX.dropE (CallX.ofF Tryz.func53 rfl (by kernel_rfl) ?_)
  intro usC frC hfC
  refine R.go 10 (R.cond (n < 1) (by kernel_rfl) (fun c1 => ?_) (fun c1 => ?_))
  · exact R.go 4 (R.retX (res := AI 0) (hp' := [.box 120 [LB c, AI (p : Int), .int .u64 h], .dead]) (by kernel_rfl) (by kernel_rfl) (by kernel_rfl) (by kernel_rfl) ⟨[0], by kernel_rfl, by decide, 0, p, h, by first | exact mod_rng (by assumption) | exact ⟨fun _ => rfl, fun h1 => by omega⟩, by kernel_rfl, by kernel_rfl⟩)
  · refine R.go 22 (R.cv .i64 (bits .and .u64 (shr64 (IntKind.u64.wrap ((IntKind.u64.wrap (h * 6364136223846793005)) + 1442695040888963407)) 33) 16777215) (by kernel_rfl) (wrap_id (by omega) (by omega)) (by kernel_rfl) ?_)
    refine R.go 16 (R.cond ((p : Int) < (c.length : Int)) (by kernel_rfl) (fun c2 => ?_) (fun c2 => ?_))
    · have hbp := hcb p (by omega)
      refine R.go 11 (R.idx eB c 0 p (p : Int) (by kernel_rfl) rfl eB_len (by omega) (by kernel_rfl) ?_)
      refine R.go 1 (R.cv .i64 (c.getD p 0) (by kernel_rfl) (wrap_id (by omega) (by omega)) (by kernel_rfl) ?_)
      refine R.ar ((bits .and .u64 (shr64 (IntKind.u64.wrap ((IntKind.u64.wrap (h * 6364136223846793005)) + 1442695040888963407)) 33) 16777215) + (c.getD p 0)) (by kernel_rfl) (by omega) (by omega) (by kernel_rfl) ?_
      refine R.go 8 (R.ar ((p : Int) + 1) (by kernel_rfl) (by omega) (by omega) (by kernel_rfl) ?_)
      refine R.go 8 (R.rem ((bits .and .u64 (shr64 (IntKind.u64.wrap ((IntKind.u64.wrap (h * 6364136223846793005)) + 1442695040888963407)) 33) 16777215) + (c.getD p 0)) n (by kernel_rfl) (by omega) (by omega) (by kernel_rfl) ?_)
      exact R.go 2 (R.retX (res := AI (((bits .and .u64 (shr64 (IntKind.u64.wrap ((IntKind.u64.wrap (h * 6364136223846793005)) + 1442695040888963407)) 33) 16777215) + (c.getD p 0)) % n)) (hp' := [.box 120 [LB c, AI ((p : Int) + 1), .int .u64 (IntKind.u64.wrap ((IntKind.u64.wrap (h * 6364136223846793005)) + 1442695040888963407))], .dead]) (by kernel_rfl) (by kernel_rfl) (by kernel_rfl) (by kernel_rfl) ⟨[0], by kernel_rfl, by decide, ((bits .and .u64 (shr64 (IntKind.u64.wrap ((IntKind.u64.wrap (h * 6364136223846793005)) + 1442695040888963407)) 33) 16777215) + (c.getD p 0)) % n, p + 1, IntKind.u64.wrap ((IntKind.u64.wrap (h * 6364136223846793005)) + 1442695040888963407), by first | exact mod_rng (by assumption) | exact ⟨fun _ => rfl, fun h1 => by omega⟩, by kernel_rfl, by kernel_rfl⟩)
    · refine R.go 5 (R.rem (bits .and .u64 (shr64 (IntKind.u64.wrap ((IntKind.u64.wrap (h * 6364136223846793005)) + 1442695040888963407)) 33) 16777215) n (by kernel_rfl) (by omega) (by omega) (by kernel_rfl) ?_)
      exact R.go 2 (R.retX (res := AI ((bits .and .u64 (shr64 (IntKind.u64.wrap ((IntKind.u64.wrap (h * 6364136223846793005)) + 1442695040888963407)) 33) 16777215) % n)) (hp' := [.box 120 [LB c, AI (p : Int), .int .u64 (IntKind.u64.wrap ((IntKind.u64.wrap (h * 6364136223846793005)) + 1442695040888963407))], .dead]) (by kernel_rfl) (by kernel_rfl) (by kernel_rfl) (by kernel_rfl) ⟨[0], by kernel_rfl, by decide, (bits .and .u64 (shr64 (IntKind.u64.wrap ((IntKind.u64.wrap (h * 6364136223846793005)) + 1442695040888963407)) 33) 16777215) % n, p, IntKind.u64.wrap ((IntKind.u64.wrap (h * 6364136223846793005)) + 1442695040888963407), by first | exact mod_rng (by assumption) | exact ⟨fun _ => rfl, fun h1 => by omega⟩, by kernel_rfl, by kernel_rfl⟩)

theorem nextX_c_r1 (c : List Int) (p : Nat) (h : Int) (n : Int) (eo1 : Nat) (so1 : Nat) (no1 : Nat) (co1 : List AV) (hc : BY c) : CallX Tryz.prog 53 [.ptr 0 0, AI n] [.box 120 [LB c, AI (p : Int), .int .u64 h], .list eo1 so1 no1 co1] (fun (resX : AV) (objX : List AObj) => ∃ v : Int, ∃ p1 : Nat, ∃ h1 : Int, ((n < 1 → v = 0) ∧ (1 ≤ n → 0 ≤ v ∧ v < n)) ∧ resX = AI v ∧ objX = [.box 120 [LB c, AI (p1 : Int), .int .u64 h1], .list eo1 so1 no1 co1]) := by
  have hcl : c.length ≤ 4096 := hc.1
  have hcb := hc.2
  have hxr := fun h => u64and (shr64 (IntKind.u64.wrap (IntKind.u64.wrap (h * 6364136223846793005) + 1442695040888963407)) 33)
  have hxh := hxr h
  refine CallX.dropE (CallX.ofF Tryz.func53 rfl (by kernel_rfl) ?_)
  intro usC frC hfC
  refine R.go 10 (R.cond (n < 1) (by kernel_rfl) (fun c1 => ?_) (fun c1 => ?_))
  · exact R.go 4 (R.retX (res := AI 0) (hp' := [.box 120 [LB c, AI (p : Int), .int .u64 h], .list eo1 so1 no1 co1, .dead]) (by kernel_rfl) (by kernel_rfl) (by kernel_rfl) (by kernel_rfl) ⟨[0, 1], by kernel_rfl, by decide, 0, p, h, by first | exact mod_rng (by assumption) | exact ⟨fun _ => rfl, fun h1 => by omega⟩, by kernel_rfl, by kernel_rfl⟩)
  · refine R.go 22 (R.cv .i64 (bits .and .u64 (shr64 (IntKind.u64.wrap ((IntKind.u64.wrap (h * 6364136223846793005)) + 1442695040888963407)) 33) 16777215) (by kernel_rfl) (wrap_id (by omega) (by omega)) (by kernel_rfl) ?_)
    refine R.go 16 (R.cond ((p : Int) < (c.length : Int)) (by kernel_rfl) (fun c2 => ?_) (fun c2 => ?_))
    · have hbp := hcb p (by omega)
      refine R.go 11 (R.idx eB c 0 p (p : Int) (by kernel_rfl) rfl eB_len (by omega) (by kernel_rfl) ?_)
      refine R.go 1 (R.cv .i64 (c.getD p 0) (by kernel_rfl) (wrap_id (by omega) (by omega)) (by kernel_rfl) ?_)
      refine R.ar ((bits .and .u64 (shr64 (IntKind.u64.wrap ((IntKind.u64.wrap (h * 6364136223846793005)) + 1442695040888963407)) 33) 16777215) + (c.getD p 0)) (by kernel_rfl) (by omega) (by omega) (by kernel_rfl) ?_
      refine R.go 8 (R.ar ((p : Int) + 1) (by kernel_rfl) (by omega) (by omega) (by kernel_rfl) ?_)
      refine R.go 8 (R.rem ((bits .and .u64 (shr64 (IntKind.u64.wrap ((IntKind.u64.wrap (h * 6364136223846793005)) + 1442695040888963407)) 33) 16777215) + (c.getD p 0)) n (by kernel_rfl) (by omega) (by omega) (by kernel_rfl) ?_)
      exact R.go 2 (R.retX (res := AI (((bits .and .u64 (shr64 (IntKind.u64.wrap ((IntKind.u64.wrap (h * 6364136223846793005)) + 1442695040888963407)) 33) 16777215) + (c.getD p 0)) % n)) (hp' := [.box 120 [LB c, AI ((p : Int) + 1), .int .u64 (IntKind.u64.wrap ((IntKind.u64.wrap (h * 6364136223846793005)) + 1442695040888963407))], .list eo1 so1 no1 co1, .dead]) (by kernel_rfl) (by kernel_rfl) (by kernel_rfl) (by kernel_rfl) ⟨[0, 1], by kernel_rfl, by decide, ((bits .and .u64 (shr64 (IntKind.u64.wrap ((IntKind.u64.wrap (h * 6364136223846793005)) + 1442695040888963407)) 33) 16777215) + (c.getD p 0)) % n, p + 1, IntKind.u64.wrap ((IntKind.u64.wrap (h * 6364136223846793005)) + 1442695040888963407), by first | exact mod_rng (by assumption) | exact ⟨fun _ => rfl, fun h1 => by omega⟩, by kernel_rfl, by kernel_rfl⟩)
    · refine R.go 5 (R.rem (bits .and .u64 (shr64 (IntKind.u64.wrap ((IntKind.u64.wrap (h * 6364136223846793005)) + 1442695040888963407)) 33) 16777215) n (by kernel_rfl) (by omega) (by omega) (by kernel_rfl) ?_)
      exact R.go 2 (R.retX (res := AI ((bits .and .u64 (shr64 (IntKind.u64.wrap ((IntKind.u64.wrap (h * 6364136223846793005)) + 1442695040888963407)) 33) 16777215) % n)) (hp' := [.box 120 [LB c, AI (p : Int), .int .u64 (IntKind.u64.wrap ((IntKind.u64.wrap (h * 6364136223846793005)) + 1442695040888963407))], .list eo1 so1 no1 co1, .dead]) (by kernel_rfl) (by kernel_rfl) (by kernel_rfl) (by kernel_rfl) ⟨[0, 1], by kernel_rfl, by decide, (bits .and .u64 (shr64 (IntKind.u64.wrap ((IntKind.u64.wrap (h * 6364136223846793005)) + 1442695040888963407)) 33) 16777215) % n, p, IntKind.u64.wrap ((IntKind.u64.wrap (h * 6364136223846793005)) + 1442695040888963407), by first | exact mod_rng (by assumption) | exact ⟨fun _ => rfl, fun h1 => by omega⟩, by kernel_rfl, by kernel_rfl⟩)

theorem nextX_c_r2 (c : List Int) (p : Nat) (h : Int) (n : Int) (eo1 : Nat) (so1 : Nat) (no1 : Nat) (co1 : List AV) (eo2 : Nat) (so2 : Nat) (no2 : Nat) (co2 : List AV) (hc : BY c) : CallX Tryz.prog 53 [.ptr 0 0, AI n] [.box 120 [LB c, AI (p : Int), .int .u64 h], .list eo1 so1 no1 co1, .list eo2 so2 no2 co2] (fun (resX : AV) (objX : List AObj) => ∃ v : Int, ∃ p1 : Nat, ∃ h1 : Int, ((n < 1 → v = 0) ∧ (1 ≤ n → 0 ≤ v ∧ v < n)) ∧ resX = AI v ∧ objX = [.box 120 [LB c, AI (p1 : Int), .int .u64 h1], .list eo1 so1 no1 co1, .list eo2 so2 no2 co2]) := by
  have hcl : c.length ≤ 4096 := hc.1
  have hcb := hc.2
  have hxr := fun h => u64and (shr64 (IntKind.u64.wrap (IntKind.u64.wrap (h * 6364136223846793005) + 1442695040888963407)) 33)
  have hxh := hxr h
  refine CallX.dropE (CallX.ofF Tryz.func53 rfl (by kernel_rfl) ?_)
  intro usC frC hfC
  refine R.go 10 (R.cond (n < 1) (by kernel_rfl) (fun c1 => ?_) (fun c1 => ?_))
  · exact R.go 4 (R.retX (res := AI 0) (hp' := [.box 120 [LB c, AI (p : Int), .int .u64 h], .list eo1 so1 no1 co1, .list eo2 so2 no2 co2, .dead]) (by kernel_rfl) (by kernel_rfl) (by kernel_rfl) (by kernel_rfl) ⟨[0, 1, 2], by kernel_rfl, by decide, 0, p, h, by first | exact mod_rng (by assumption) | exact ⟨fun _ => rfl, fun h1 => by omega⟩, by kernel_rfl, by kernel_rfl⟩)
  · refine R.go 22 (R.cv .i64 (bits .and .u64 (shr64 (IntKind.u64.wrap ((IntKind.u64.wrap (h * 6364136223846793005)) + 1442695040888963407)) 33) 16777215) (by kernel_rfl) (wrap_id (by omega) (by omega)) (by kernel_rfl) ?_)
    refine R.go 16 (R.cond ((p : Int) < (c.length : Int)) (by kernel_rfl) (fun c2 => ?_) (fun c2 => ?_))
    · have hbp := hcb p (by omega)
      refine R.go 11 (R.idx eB c 0 p (p : Int) (by kernel_rfl) rfl eB_len (by omega) (by kernel_rfl) ?_)
      refine R.go 1 (R.cv .i64 (c.getD p 0) (by kernel_rfl) (wrap_id (by omega) (by omega)) (by kernel_rfl) ?_)
      refine R.ar ((bits .and .u64 (shr64 (IntKind.u64.wrap ((IntKind.u64.wrap (h * 6364136223846793005)) + 1442695040888963407)) 33) 16777215) + (c.getD p 0)) (by kernel_rfl) (by omega) (by omega) (by kernel_rfl) ?_
      refine R.go 8 (R.ar ((p : Int) + 1) (by kernel_rfl) (by omega) (by omega) (by kernel_rfl) ?_)
      refine R.go 8 (R.rem ((bits .and .u64 (shr64 (IntKind.u64.wrap ((IntKind.u64.wrap (h * 6364136223846793005)) + 1442695040888963407)) 33) 16777215) + (c.getD p 0)) n (by kernel_rfl) (by omega) (by omega) (by kernel_rfl) ?_)
      exact R.go 2 (R.retX (res := AI (((bits .and .u64 (shr64 (IntKind.u64.wrap ((IntKind.u64.wrap (h * 6364136223846793005)) + 1442695040888963407)) 33) 16777215) + (c.getD p 0)) % n)) (hp' := [.box 120 [LB c, AI ((p : Int) + 1), .int .u64 (IntKind.u64.wrap ((IntKind.u64.wrap (h * 6364136223846793005)) + 1442695040888963407))], .list eo1 so1 no1 co1, .list eo2 so2 no2 co2, .dead]) (by kernel_rfl) (by kernel_rfl) (by kernel_rfl) (by kernel_rfl) ⟨[0, 1, 2], by kernel_rfl, by decide, ((bits .and .u64 (shr64 (IntKind.u64.wrap ((IntKind.u64.wrap (h * 6364136223846793005)) + 1442695040888963407)) 33) 16777215) + (c.getD p 0)) % n, p + 1, IntKind.u64.wrap ((IntKind.u64.wrap (h * 6364136223846793005)) + 1442695040888963407), by first | exact mod_rng (by assumption) | exact ⟨fun _ => rfl, fun h1 => by omega⟩, by kernel_rfl, by kernel_rfl⟩)
    · refine R.go 5 (R.rem (bits .and .u64 (shr64 (IntKind.u64.wrap ((IntKind.u64.wrap (h * 6364136223846793005)) + 1442695040888963407)) 33) 16777215) n (by kernel_rfl) (by omega) (by omega) (by kernel_rfl) ?_)
      exact R.go 2 (R.retX (res := AI ((bits .and .u64 (shr64 (IntKind.u64.wrap ((IntKind.u64.wrap (h * 6364136223846793005)) + 1442695040888963407)) 33) 16777215) % n)) (hp' := [.box 120 [LB c, AI (p : Int), .int .u64 (IntKind.u64.wrap ((IntKind.u64.wrap (h * 6364136223846793005)) + 1442695040888963407))], .list eo1 so1 no1 co1, .list eo2 so2 no2 co2, .dead]) (by kernel_rfl) (by kernel_rfl) (by kernel_rfl) (by kernel_rfl) ⟨[0, 1, 2], by kernel_rfl, by decide, (bits .and .u64 (shr64 (IntKind.u64.wrap ((IntKind.u64.wrap (h * 6364136223846793005)) + 1442695040888963407)) 33) 16777215) % n, p, IntKind.u64.wrap ((IntKind.u64.wrap (h * 6364136223846793005)) + 1442695040888963407), by first | exact mod_rng (by assumption) | exact ⟨fun _ => rfl, fun h1 => by omega⟩, by kernel_rfl, by kernel_rfl⟩)

theorem nextX_c_r3 (c : List Int) (p : Nat) (h : Int) (n : Int) (eo1 : Nat) (so1 : Nat) (no1 : Nat) (co1 : List AV) (eo2 : Nat) (so2 : Nat) (no2 : Nat) (co2 : List AV) (eo3 : Nat) (so3 : Nat) (no3 : Nat) (co3 : List AV) (hc : BY c) : CallX Tryz.prog 53 [.ptr 0 0, AI n] [.box 120 [LB c, AI (p : Int), .int .u64 h], .list eo1 so1 no1 co1, .list eo2 so2 no2 co2, .list eo3 so3 no3 co3] (fun (resX : AV) (objX : List AObj) => ∃ v : Int, ∃ p1 : Nat, ∃ h1 : Int, ((n < 1 → v = 0) ∧ (1 ≤ n → 0 ≤ v ∧ v < n)) ∧ resX = AI v ∧ objX = [.box 120 [LB c, AI (p1 : Int), .int .u64 h1], .list eo1 so1 no1 co1, .list eo2 so2 no2 co2, .list eo3 so3 no3 co3]) := by
  have hcl : c.length ≤ 4096 := hc.1
  have hcb := hc.2
  have hxr := fun h => u64and (shr64 (IntKind.u64.wrap (IntKind.u64.wrap (h * 6364136223846793005) + 1442695040888963407)) 33)
  have hxh := hxr h
  refine CallX.dropE (CallX.ofF Tryz.func53 rfl (by kernel_rfl) ?_)
  intro usC frC hfC
  refine R.go 10 (R.cond (n < 1) (by kernel_rfl) (fun c1 => ?_) (fun c1 => ?_))
  · exact R.go 4 (R.retX (res := AI 0) (hp' := [.box 120 [LB c, AI (p : Int), .int .u64 h], .list eo1 so1 no1 co1, .list eo2 so2 no2 co2, .list eo3 so3 no3 co3, .dead]) (by kernel_rfl) (by kernel_rfl) (by kernel_rfl) (by kernel_rfl) ⟨[0, 1, 2, 3], by kernel_rfl, by decide, 0, p, h, by first | exact mod_rng (by assumption) | exact ⟨fun _ => rfl, fun h1 => by omega⟩, by kernel_rfl, by kernel_rfl⟩)
  · refine R.go 22 (R.cv .i64 (bits .and .u64 (shr64 (IntKind.u64.wrap ((IntKind.u64.wrap (h * 6364136223846793005)) + 1442695040888963407)) 33) 16777215) (by kernel_rfl) (wrap_id (by omega) (by omega)) (by kernel_rfl) ?_)
    refine R.go 16 (R.cond ((p : Int) < (c.length : Int)) (by kernel_rfl) (fun c2 => ?_) (fun c2 => ?_))
    · have hbp := hcb p (by omega)
      refine R.go 11 (R.idx eB c 0 p (p : Int) (by kernel_rfl) rfl eB_len (by omega) (by kernel_rfl) ?_)
      refine R.go 1 (R.cv .i64 (c.getD p 0) (by kernel_rfl) (wrap_id (by omega) (by omega)) (by kernel_rfl) ?_)
      refine R.ar ((bits .and .u64 (shr64 (IntKind.u64.wrap ((IntKind.u64.wrap (h * 6364136223846793005)) + 1442695040888963407)) 33) 16777215) + (c.getD p 0)) (by kernel_rfl) (by omega) (by omega) (by kernel_rfl) ?_
      refine R.go 8 (R.ar ((p : Int) + 1) (by kernel_rfl) (by omega) (by omega) (by kernel_rfl) ?_)
      refine R.go 8 (R.rem ((bits .and .u64 (shr64 (IntKind.u64.wrap ((IntKind.u64.wrap (h * 6364136223846793005)) + 1442695040888963407)) 33) 16777215) + (c.getD p 0)) n (by kernel_rfl) (by omega) (by omega) (by kernel_rfl) ?_)
      exact R.go 2 (R.retX (res := AI (((bits .and .u64 (shr64 (IntKind.u64.wrap ((IntKind.u64.wrap (h * 6364136223846793005)) + 1442695040888963407)) 33) 16777215) + (c.getD p 0)) % n)) (hp' := [.box 120 [LB c, AI ((p : Int) + 1), .int .u64 (IntKind.u64.wrap ((IntKind.u64.wrap (h * 6364136223846793005)) + 1442695040888963407))], .list eo1 so1 no1 co1, .list eo2 so2 no2 co2, .list eo3 so3 no3 co3, .dead]) (by kernel_rfl) (by kernel_rfl) (by kernel_rfl) (by kernel_rfl) ⟨[0, 1, 2, 3], by kernel_rfl, by decide, ((bits .and .u64 (shr64 (IntKind.u64.wrap ((IntKind.u64.wrap (h * 6364136223846793005)) + 1442695040888963407)) 33) 16777215) + (c.getD p 0)) % n, p + 1, IntKind.u64.wrap ((IntKind.u64.wrap (h * 6364136223846793005)) + 1442695040888963407), by first | exact mod_rng (by assumption) | exact ⟨fun _ => rfl, fun h1 => by omega⟩, by kernel_rfl, by kernel_rfl⟩)
    · refine R.go 5 (R.rem (bits .and .u64 (shr64 (IntKind.u64.wrap ((IntKind.u64.wrap (h * 6364136223846793005)) + 1442695040888963407)) 33) 16777215) n (by kernel_rfl) (by omega) (by omega) (by kernel_rfl) ?_)
      exact R.go 2 (R.retX (res := AI ((bits .and .u64 (shr64 (IntKind.u64.wrap ((IntKind.u64.wrap (h * 6364136223846793005)) + 1442695040888963407)) 33) 16777215) % n)) (hp' := [.box 120 [LB c, AI (p : Int), .int .u64 (IntKind.u64.wrap ((IntKind.u64.wrap (h * 6364136223846793005)) + 1442695040888963407))], .list eo1 so1 no1 co1, .list eo2 so2 no2 co2, .list eo3 so3 no3 co3, .dead]) (by kernel_rfl) (by kernel_rfl) (by kernel_rfl) (by kernel_rfl) ⟨[0, 1, 2, 3], by kernel_rfl, by decide, (bits .and .u64 (shr64 (IntKind.u64.wrap ((IntKind.u64.wrap (h * 6364136223846793005)) + 1442695040888963407)) 33) 16777215) % n, p, IntKind.u64.wrap ((IntKind.u64.wrap (h * 6364136223846793005)) + 1442695040888963407), by first | exact mod_rng (by assumption) | exact ⟨fun _ => rfl, fun h1 => by omega⟩, by kernel_rfl, by kernel_rfl⟩)

theorem nextX_c_r4 (c : List Int) (p : Nat) (h : Int) (n : Int) (eo1 : Nat) (so1 : Nat) (no1 : Nat) (co1 : List AV) (eo2 : Nat) (so2 : Nat) (no2 : Nat) (co2 : List AV) (eo3 : Nat) (so3 : Nat) (no3 : Nat) (co3 : List AV) (eo4 : Nat) (so4 : Nat) (no4 : Nat) (co4 : List AV) (hc : BY c) : CallX Tryz.prog 53 [.ptr 0 0, AI n] [.box 120 [LB c, AI (p : Int), .int .u64 h], .list eo1 so1 no1 co1, .list eo2 so2 no2 co2, .list eo3 so3 no3 co3, .list eo4 so4 no4 co4] (fun (resX : AV) (objX : List AObj) => ∃ v : Int, ∃ p1 : Nat, ∃ h1 : Int, ((n < 1 → v = 0) ∧ (1 ≤ n → 0 ≤ v ∧ v < n)) ∧ resX = AI v ∧ objX = [.box 120 [LB c, AI (p1 : Int), .int .u64 h1], .list eo1 so1 no1 co1, .list eo2 so2 no2 co2, .list eo3 so3 no3 co3, .list eo4 so4 no4 co4]) := by
  have hcl : c.length ≤ 4096 := hc.1
  have hcb := hc.2
  have hxr := fun h => u64and (shr64 (IntKind.u64.wrap (IntKind.u64.wrap (h * 6364136223846793005) + 1442695040888963407)) 33)
  have hxh := hxr h
  refine CallX.dropE (CallX.ofF Tryz.func53 rfl (by kernel_rfl) ?_)
  intro usC frC hfC
  refine R.go 10 (R.cond (n < 1) (by kernel_rfl) (fun c1 => ?_) (fun c1 => ?_))
  · exact R.go 4 (R.retX (res := AI 0) (hp' := [.box 120 [LB c, AI (p : Int), .int .u64 h], .list eo1 so1 no1 co1, .list eo2 so2 no2 co2, .list eo3 so3 no3 co3, .list eo4 so4 no4 co4, .dead]) (by kernel_rfl) (by kernel_rfl) (by kernel_rfl) (by kernel_rfl) ⟨[0, 1, 2, 3, 4], by kernel_rfl, by decide, 0, p, h, by first | exact mod_rng (by assumption) | exact ⟨fun _ => rfl, fun h1 => by omega⟩, by kernel_rfl, by kernel_rfl⟩)
  · refine R.go 22 (R.cv .i64 (bits .and .u64 (shr64 (IntKind.u64.wrap ((IntKind.u64.wrap (h * 6364136223846793005)) + 1442695040888963407)) 33) 16777215) (by kernel_rfl) (wrap_id (by omega) (by omega)) (by kernel_rfl) ?_)
    refine R.go 16 (R.cond ((p : Int) < (c.length : Int)) (by kernel_rfl) (fun c2 => ?_) (fun c2 => ?_))
    · have hbp := hcb p (by omega)
      refine R.go 11 (R.idx eB c 0 p (p : Int) (by kernel_rfl) rfl eB_len (by omega) (by kernel_rfl) ?_)
      refine R.go 1 (R.cv .i64 (c.getD p 0) (by kernel_rfl) (wrap_id (by omega) (by omega)) (by kernel_rfl) ?_)
      refine R.ar ((bits .and .u64 (shr64 (IntKind.u64.wrap ((IntKind.u64.wrap (h * 6364136223846793005)) + 1442695040888963407)) 33) 16777215) + (c.getD p 0)) (by kernel_rfl) (by omega) (by omega) (by kernel_rfl) ?_
      refine R.go 8 (R.ar ((p : Int) + 1) (by kernel_rfl) (by omega) (by omega) (by kernel_rfl) ?_)
      refine R.go 8 (R.rem ((bits .and .u64 (shr64 (IntKind.u64.wrap ((IntKind.u64.wrap (h * 6364136223846793005)) + 1442695040888963407)) 33) 16777215) + (c.getD p 0)) n (by kernel_rfl) (by omega) (by omega) (by kernel_rfl) ?_)
      exact R.go 2 (R.retX (res := AI (((bits .and .u64 (shr64 (IntKind.u64.wrap ((IntKind.u64.wrap (h * 6364136223846793005)) + 1442695040888963407)) 33) 16777215) + (c.getD p 0)) % n)) (hp' := [.box 120 [LB c, AI ((p : Int) + 1), .int .u64 (IntKind.u64.wrap ((IntKind.u64.wrap (h * 6364136223846793005)) + 1442695040888963407))], .list eo1 so1 no1 co1, .list eo2 so2 no2 co2, .list eo3 so3 no3 co3, .list eo4 so4 no4 co4, .dead]) (by kernel_rfl) (by kernel_rfl) (by kernel_rfl) (by kernel_rfl) ⟨[0, 1, 2, 3, 4], by kernel_rfl, by decide, ((bits .and .u64 (shr64 (IntKind.u64.wrap ((IntKind.u64.wrap (h * 6364136223846793005)) + 1442695040888963407)) 33) 16777215) + (c.getD p 0)) % n, p + 1, IntKind.u64.wrap ((IntKind.u64.wrap (h * 6364136223846793005)) + 1442695040888963407), by first | exact mod_rng (by assumption) | exact ⟨fun _ => rfl, fun h1 => by omega⟩, by kernel_rfl, by kernel_rfl⟩)
    · refine R.go 5 (R.rem (bits .and .u64 (shr64 (IntKind.u64.wrap ((IntKind.u64.wrap (h * 6364136223846793005)) + 1442695040888963407)) 33) 16777215) n (by kernel_rfl) (by omega) (by omega) (by kernel_rfl) ?_)
      exact R.go 2 (R.retX (res := AI ((bits .and .u64 (shr64 (IntKind.u64.wrap ((IntKind.u64.wrap (h * 6364136223846793005)) + 1442695040888963407)) 33) 16777215) % n)) (hp' := [.box 120 [LB c, AI (p : Int), .int .u64 (IntKind.u64.wrap ((IntKind.u64.wrap (h * 6364136223846793005)) + 1442695040888963407))], .list eo1 so1 no1 co1, .list eo2 so2 no2 co2, .list eo3 so3 no3 co3, .list eo4 so4 no4 co4, .dead]) (by kernel_rfl) (by kernel_rfl) (by kernel_rfl) (by kernel_rfl) ⟨[0, 1, 2, 3, 4], by kernel_rfl, by decide, (bits .and .u64 (shr64 (IntKind.u64.wrap ((IntKind.u64.wrap (h * 6364136223846793005)) + 1442695040888963407)) 33) 16777215) % n, p, IntKind.u64.wrap ((IntKind.u64.wrap (h * 6364136223846793005)) + 1442695040888963407), by first | exact mod_rng (by assumption) | exact ⟨fun _ => rfl, fun h1 => by omega⟩, by kernel_rfl, by kernel_rfl⟩)

theorem nextX_c_r5 (c : List Int) (p : Nat) (h : Int) (n : Int) (eo1 : Nat) (so1 : Nat) (no1 : Nat) (co1 : List AV) (eo2 : Nat) (so2 : Nat) (no2 : Nat) (co2 : List AV) (eo3 : Nat) (so3 : Nat) (no3 : Nat) (co3 : List AV) (eo4 : Nat) (so4 : Nat) (no4 : Nat) (co4 : List AV) (eo5 : Nat) (so5 : Nat) (no5 : Nat) (co5 : List AV) (hc : BY c) : CallX Tryz.prog 53 [.ptr 0 0, AI n] [.box 120 [LB c, AI (p : Int), .int .u64 h], .list eo1 so1 no1 co1, .list eo2 so2 no2 co2, .list eo3 so3 no3 co3, .list eo4 so4 no4 co4, .list eo5 so5 no5 co5] (fun (resX : AV) (objX : List AObj) => ∃ v : Int, ∃ p1 : Nat, ∃ h1 : Int, ((n < 1 → v = 0) ∧ (1 ≤ n → 0 ≤ v ∧ v < n)) ∧ resX = AI v ∧ objX = [.box 120 [LB c, AI (p1 : Int), .int .u64 h1], .list eo1 so1 no1 co1, .list eo2 so2 no2 co2, .list eo3 so3 no3 co3, .list eo4 so4 no4 co4, .list eo5 so5 no5 co5]) := by
  have hcl : c.length ≤ 4096 := hc.1
  have hcb := hc.2
  have hxr := fun h => u64and (shr64 (IntKind.u64.wrap (IntKind.u64.wrap (h * 6364136223846793005) + 1442695040888963407)) 33)
  have hxh := hxr h
  refine CallX.dropE (CallX.ofF Tryz.func53 rfl (by kernel_rfl) ?_)
  intro usC frC hfC
  refine R.go 10 (R.cond (n < 1) (by kernel_rfl) (fun c1 => ?_) (fun c1 => ?_))
  · exact R.go 4 (R.retX (res := AI 0) (hp' := [.box 120 [LB c, AI (p : Int), .int .u64 h], .list eo1 so1 no1 co1, .list eo2 so2 no2 co2, .list eo3 so3 no3 co3, .list eo4 so4 no4 co4, .list eo5 so5 no5 co5, .dead]) (by kernel_rfl) (by kernel_rfl) (by kernel_rfl) (by kernel_rfl) ⟨[0, 1, 2, 3, 4, 5], by kernel_rfl, by decide, 0, p, h, by first | exact mod_rng (by assumption) | exact ⟨fun _ => rfl, fun h1 => by omega⟩, by kernel_rfl, by kernel_rfl⟩)
  · refine R.go 22 (R.cv .i64 (bits .and .u64 (shr64 (IntKind.u64.wrap ((IntKind.u64.wrap (h * 6364136223846793005)) + 1442695040888963407)) 33) 16777215) (by kernel_rfl) (wrap_id (by omega) (by omega)) (by kernel_rfl) ?_)
    refine R.go 16 (R.cond ((p : Int) < (c.length : Int)) (by kernel_rfl) (fun c2 => ?_) (fun c2 => ?_))
    · have hbp := hcb p (by omega)
      refine R.go 11 (R.idx eB c 0 p (p : Int) (by kernel_rfl) rfl eB_len (by omega) (by kernel_rfl) ?_)
      refine R.go 1 (R.cv .i64 (c.getD p 0) (by kernel_rfl) (wrap_id (by omega) (by omega)) (by kernel_rfl) ?_)
      refine R.ar ((bits .and .u64 (shr64 (IntKind.u64.wrap ((IntKind.u64.wrap (h * 6364136223846793005)) + 1442695040888963407)) 33) 16777215) + (c.getD p 0)) (by kernel_rfl) (by omega) (by omega) (by kernel_rfl) ?_
      refine R.go 8 (R.ar ((p : Int) + 1) (by kernel_rfl) (by omega) (by omega) (by kernel_rfl) ?_)
      refine R.go 8 (R.rem ((bits .and .u64 (shr64 (IntKind.u64.wrap ((IntKind.u64.wrap (h * 6364136223846793005)) + 1442695040888963407)) 33) 16777215) + (c.getD p 0)) n (by kernel_rfl) (by omega) (by omega) (by kernel_rfl) ?_)
      exact R.go 2 (R.retX (res := AI (((bits .and .u64 (shr64 (IntKind.u64.wrap ((IntKind.u64.wrap (h * 6364136223846793005)) + 1442695040888963407)) 33) 16777215) + (c.getD p 0)) % n)) (hp' := [.box 120 [LB c, AI ((p : Int) + 1), .int .u64 (IntKind.u64.wrap ((IntKind.u64.wrap (h * 6364136223846793005)) + 1442695040888963407))], .list eo1 so1 no1 co1, .list eo2 so2 no2 co2, .list eo3 so3 no3 co3, .list eo4 so4 no4 co4, .list eo5 so5 no5 co5, .dead]) (by kernel_rfl) (by kernel_rfl) (by kernel_rfl) (by kernel_rfl) ⟨[0, 1, 2, 3, 4, 5], by kernel_rfl, by decide, ((bits .and .u64 (shr64 (IntKind.u64.wrap ((IntKind.u64.wrap (h * 6364136223846793005)) + 1442695040888963407)) 33) 16777215) + (c.getD p 0)) % n, p + 1, IntKind.u64.wrap ((IntKind.u64.wrap (h * 6364136223846793005)) + 1442695040888963407), by first | exact mod_rng (by assumption) | exact ⟨fun _ => rfl, fun h1 => by omega⟩, by kernel_rfl, by kernel_rfl⟩)
    · refine R.go 5 (R.rem (bits .and .u64 (shr64 (IntKind.u64.wrap ((IntKind.u64.wrap (h * 6364136223846793005)) + 1442695040888963407)) 33) 16777215) n (by kernel_rfl) (by omega) (by omega) (by kernel_rfl) ?_)
      exact R.go 2 (R.retX (res := AI ((bits .and .u64 (shr64 (IntKind.u64.wrap ((IntKind.u64.wrap (h * 6364136223846793005)) + 1442695040888963407)) 33) 16777215) % n)) (hp' := [.box 120 [LB c, AI (p : Int), .int .u64 (IntKind.u64.wrap ((IntKind.u64.wrap (h * 6364136223846793005)) + 1442695040888963407))], .list eo1 so1 no1 co1, .list eo2 so2 no2 co2, .list eo3 so3 no3 co3, .list eo4 so4 no4 co4, .list eo5 so5 no5 co5, .dead]) (by kernel_rfl) (by kernel_rfl) (by kernel_rfl) (by kernel_rfl) ⟨[0, 1, 2, 3, 4, 5], by kernel_rfl, by decide, (bits .and .u64 (shr64 (IntKind.u64.wrap ((IntKind.u64.wrap (h * 6364136223846793005)) + 1442695040888963407)) 33) 16777215) % n, p, IntKind.u64.wrap ((IntKind.u64.wrap (h * 6364136223846793005)) + 1442695040888963407), by first | exact mod_rng (by assumption) | exact ⟨fun _ => rfl, fun h1 => by omega⟩, by kernel_rfl, by kernel_rfl⟩)

theorem nextX_c_r6 (c : List Int) (p : Nat) (h : Int) (n : Int) (eo1 : Nat) (so1 : Nat) (no1 : Nat) (co1 : List AV) (eo2 : Nat) (so2 : Nat) (no2 : Nat) (co2 : List AV) (eo3 : Nat) (so3 : Nat) (no3 : Nat) (co3 : List AV) (eo4 : Nat) (so4 : Nat) (no4 : Nat) (co4 : List AV) (eo5 : Nat) (so5 : Nat) (no5 : Nat) (co5 : List AV) (eo6 : Nat) (so6 : Nat) (no6 : Nat) (co6 : List AV) (hc : BY c) : CallX Tryz.prog 53 [.ptr 0 0, AI n] [.box 120 [LB c, AI (p : Int), .int .u64 h], .list eo1 so1 no1 co1, .list eo2 so2 no2 co2, .list eo3 so3 no3 co3, .list eo4 so4 no4 co4, .list eo5 so5 no5 co5, .list eo6 so6 no6 co6] (fun (resX : AV) (objX : List AObj) => ∃ v : Int, ∃ p1 : Nat, ∃ h1 : Int, ((n < 1 → v = 0) ∧ (1 ≤ n → 0 ≤ v ∧ v < n)) ∧ resX = AI v ∧ objX = [.box 120 [LB c, AI (p1 : Int), .int .u64 h1], .list eo1 so1 no1 co1, .list eo2 so2 no2 co2, .list eo3 so3 no3 co3, .list eo4 so4 no4 co4, .list eo5 so5 no5 co5, .list eo6 so6 no6 co6]) := by
  have hcl : c.length ≤ 4096 := hc.1
  have hcb := hc.2
  have hxr := fun h => u64and (shr64 (IntKind.u64.wrap (IntKind.u64.wrap (h * 6364136223846793005) + 1442695040888963407)) 33)
  have hxh := hxr h
  refine CallX.dropE (CallX.ofF Tryz.func53 rfl (by kernel_rfl) ?_)
  intro usC frC hfC
  refine R.go 10 (R.cond (n < 1) (by kernel_rfl) (fun c1 => ?_) (fun c1 => ?_))
  · exact R.go 4 (R.retX (res := AI 0) (hp' := [.box 120 [LB c, AI (p : Int), .int .u64 h], .list eo1 so1 no1 co1, .list eo2 so2 no2 co2, .list eo3 so3 no3 co3, .list eo4 so4 no4 co4, .list eo5 so5 no5 co5, .list eo6 so6 no6 co6, .dead]) (by kernel_rfl) (by kernel_rfl) (by kernel_rfl) (by kernel_rfl) ⟨[0, 1, 2, 3, 4, 5, 6], by kernel_rfl, by decide, 0, p, h, by first | exact mod_rng (by assumption) | exact ⟨fun _ => rfl, fun h1 => by omega⟩, by kernel_rfl, by kernel_rfl⟩)
  · refine R.go 22 (R.cv .i64 (bits .and .u64 (shr64 (IntKind.u64.wrap ((IntKind.u64.wrap (h * 6364136223846793005)) + 1442695040888963407)) 33) 16777215) (by kernel_rfl) (wrap_id (by omega) (by omega)) (by kernel_rfl) ?_)
    refine R.go 16 (R.cond ((p : Int) < (c.length : Int)) (by kernel_rfl) (fun c2 => ?_) (fun c2 => ?_))
    · have hbp := hcb p (by omega)
      refine R.go 11 (R.idx eB c 0 p (p : Int) (by kernel_rfl) rfl eB_len (by omega) (by kernel_rfl) ?_)
      refine R.go 1 (R.cv .i64 (c.getD p 0) (by kernel_rfl) (wrap_id (by omega) (by omega)) (by kernel_rfl) ?_)
      refine R.ar ((bits .and .u64 (shr64 (IntKind.u64.wrap ((IntKind.u64.wrap (h * 6364136223846793005)) + 1442695040888963407)) 33) 16777215) + (c.getD p 0)) (by kernel_rfl) (by omega) (by omega) (by kernel_rfl) ?_
      refine R.go 8 (R.ar ((p : Int) + 1) (by kernel_rfl) (by omega) (by omega) (by kernel_rfl) ?_)
      refine R.go 8 (R.rem ((bits .and .u64 (shr64 (IntKind.u64.wrap ((IntKind.u64.wrap (h * 6364136223846793005)) + 1442695040888963407)) 33) 16777215) + (c.getD p 0)) n (by kernel_rfl) (by omega) (by omega) (by kernel_rfl) ?_)
      exact R.go 2 (R.retX (res := AI (((bits .and .u64 (shr64 (IntKind.u64.wrap ((IntKind.u64.wrap (h * 6364136223846793005)) + 1442695040888963407)) 33) 16777215) + (c.getD p 0)) % n)) (hp' := [.box 120 [LB c, AI ((p : Int) + 1), .int .u64 (IntKind.u64.wrap ((IntKind.u64.wrap (h * 6364136223846793005)) + 1442695040888963407))], .list eo1 so1 no1 co1, .list eo2 so2 no2 co2, .list eo3 so3 no3 co3, .list eo4 so4 no4 co4, .list eo5 so5 no5 co5, .list eo6 so6 no6 co6, .dead]) (by kernel_rfl) (by kernel_rfl) (by kernel_rfl) (by kernel_rfl) ⟨[0, 1, 2, 3, 4, 5, 6], by kernel_rfl, by decide, ((bits .and .u64 (shr64 (IntKind.u64.wrap ((IntKind.u64.wrap (h * 6364136223846793005)) + 1442695040888963407)) 33) 16777215) + (c.getD p 0)) % n, p + 1, IntKind.u64.wrap ((IntKind.u64.wrap (h * 6364136223846793005)) + 1442695040888963407), by first | exact mod_rng (by assumption) | exact ⟨fun _ => rfl, fun h1 => by omega⟩, by kernel_rfl, by kernel_rfl⟩)
    · refine R.go 5 (R.rem (bits .and .u64 (shr64 (IntKind.u64.wrap ((IntKind.u64.wrap (h * 6364136223846793005)) + 1442695040888963407)) 33) 16777215) n (by kernel_rfl) (by omega) (by omega) (by kernel_rfl) ?_)
      exact R.go 2 (R.retX (res := AI ((bits .and .u64 (shr64 (IntKind.u64.wrap ((IntKind.u64.wrap (h * 6364136223846793005)) + 1442695040888963407)) 33) 16777215) % n)) (hp' := [.box 120 [LB c, AI (p : Int), .int .u64 (IntKind.u64.wrap ((IntKind.u64.wrap (h * 6364136223846793005)) + 1442695040888963407))], .list eo1 so1 no1 co1, .list eo2 so2 no2 co2, .list eo3 so3 no3 co3, .list eo4 so4 no4 co4, .list eo5 so5 no5 co5, .list eo6 so6 no6 co6, .dead]) (by kernel_rfl) (by kernel_rfl) (by kernel_rfl) (by kernel_rfl) ⟨[0, 1, 2, 3, 4, 5, 6], by kernel_rfl, by decide, (bits .and .u64 (shr64 (IntKind.u64.wrap ((IntKind.u64.wrap (h * 6364136223846793005)) + 1442695040888963407)) 33) 16777215) % n, p, IntKind.u64.wrap ((IntKind.u64.wrap (h * 6364136223846793005)) + 1442695040888963407), by first | exact mod_rng (by assumption) | exact ⟨fun _ => rfl, fun h1 => by omega⟩, by kernel_rfl, by kernel_rfl⟩)

theorem nextX_c_r5b (c : List Int) (p : Nat) (h : Int) (n : Int) (eo1 : Nat) (so1 : Nat) (no1 : Nat) (co1 : List AV) (eo2 : Nat) (so2 : Nat) (no2 : Nat) (co2 : List AV) (eo3 : Nat) (so3 : Nat) (no3 : Nat) (co3 : List AV) (eo4 : Nat) (so4 : Nat) (no4 : Nat) (co4 : List AV) (eo5 : Nat) (so5 : Nat) (no5 : Nat) (co5 : List AV) (to6 : Nat) (a_x : Int) (hc : BY c) : CallX Tryz.prog 53 [.ptr 0 0, AI n] [.box 120 [LB c, AI (p : Int), .int .u64 h], .list eo1 so1 no1 co1, .list eo2 so2 no2 co2, .list eo3 so3 no3 co3, .list eo4 so4 no4 co4, .list eo5 so5 no5 co5, .box to6 [AI a_x, .ref 5]] (fun (resX : AV) (objX : List AObj) => ∃ v : Int, ∃ p1 : Nat, ∃ h1 : Int, ((n < 1 → v = 0) ∧ (1 ≤ n → 0 ≤ v ∧ v < n)) ∧ resX = AI v ∧ objX = [.box 120 [LB c, AI (p1 : Int), .int .u64 h1], .list eo1 so1 no1 co1, .list eo2 so2 no2 co2, .list eo3 so3 no3 co3, .list eo4 so4 no4 co4, .list eo5 so5 no5 co5, .box to6 [AI a_x, .ref 5]]) := by
  have hcl : c.length ≤ 4096 := hc.1
  have hcb := hc.2
  have hxr := fun h => u64and (shr64 (IntKind.u64.wrap (IntKind.u64.wrap (h * 6364136223846793005) + 1442695040888963407)) 33)
  have hxh := hxr h
  refine CallX.dropE (CallX.ofF Tryz.func53 rfl (by kernel_rfl) ?_)
  intro usC frC hfC
  refine R.go 10 (R.cond (n < 1) (by kernel_rfl) (fun c1 => ?_) (fun c1 => ?_))
  · exact R.go 4 (R.retX (res := AI 0) (hp' := [.box 120 [LB c, AI (p : Int), .int .u64 h], .list eo1 so1 no1 co1, .list eo2 so2 no2 co2, .list eo3 so3 no3 co3, .list eo4 so4 no4 co4, .list eo5 so5 no5 co5, .box to6 [AI a_x, .ref 5], .dead]) (by kernel_rfl) (by kernel_rfl) (by kernel_rfl) (by kernel_rfl) ⟨[0, 1, 2, 3, 4, 5, 6], by kernel_rfl, by decide, 0, p, h, by first | exact mod_rng (by assumption) | exact ⟨fun _ => rfl, fun h1 => by omega⟩, by kernel_rfl, by kernel_rfl⟩)
  · refine R.go 22 (R.cv .i64 (bits .and .u64 (shr64 (IntKind.u64.wrap ((IntKind.u64.wrap (h * 6364136223846793005)) + 1442695040888963407)) 33) 16777215) (by kernel_rfl) (wrap_id (by omega) (by omega)) (by kernel_rfl) ?_)
    refine R.go 16 (R.cond ((p : Int) < (c.length : Int)) (by kernel_rfl) (fun c2 => ?_) (fun c2 => ?_))
    · have hbp := hcb p (by omega)
      refine R.go 11 (R.idx eB c 0 p (p : Int) (by kernel_rfl) rfl eB_len (by omega) (by kernel_rfl) ?_)
      refine R.go 1 (R.cv .i64 (c.getD p 0) (by kernel_rfl) (wrap_id (by omega) (by omega)) (by kernel_rfl) ?_)
      refine R.ar ((bits .and .u64 (shr64 (IntKind.u64.wrap ((IntKind.u64.wrap (h * 6364136223846793005)) + 1442695040888963407)) 33) 16777215) + (c.getD p 0)) (by kernel_rfl) (by omega) (by omega) (by kernel_rfl) ?_
      refine R.go 8 (R.ar ((p : Int) + 1) (by kernel_rfl) (by omega) (by omega) (by kernel_rfl) ?_)
      refine R.go 8 (R.rem ((bits .and .u64 (shr64 (IntKind.u64.wrap ((IntKind.u64.wrap (h * 6364136223846793005)) + 1442695040888963407)) 33) 16777215) + (c.getD p 0)) n (by kernel_rfl) (by omega) (by omega) (by kernel_rfl) ?_)
      exact R.go 2 (R.retX (res := AI (((bits .and .u64 (shr64 (IntKind.u64.wrap ((IntKind.u64.wrap (h * 6364136223846793005)) + 1442695040888963407)) 33) 16777215) + (c.getD p 0)) % n)) (hp' := [.box 120 [LB c, AI ((p : Int) + 1), .int .u64 (IntKind.u64.wrap ((IntKind.u64.wrap (h * 6364136223846793005)) + 1442695040888963407))], .list eo1 so1 no1 co1, .list eo2 so2 no2 co2, .list eo3 so3 no3 co3, .list eo4 so4 no4 co4, .list eo5 so5 no5 co5, .box to6 [AI a_x, .ref 5], .dead]) (by kernel_rfl) (by kernel_rfl) (by kernel_rfl) (by kernel_rfl) ⟨[0, 1, 2, 3, 4, 5, 6], by kernel_rfl, by decide, ((bits .and .u64 (shr64 (IntKind.u64.wrap ((IntKind.u64.wrap (h * 6364136223846793005)) + 1442695040888963407)) 33) 16777215) + (c.getD p 0)) % n, p + 1, IntKind.u64.wrap ((IntKind.u64.wrap (h * 6364136223846793005)) + 1442695040888963407), by first | exact mod_rng (by assumption) | exact ⟨fun _ => rfl, fun h1 => by omega⟩, by kernel_rfl, by kernel_rfl⟩)
    · refine R.go 5 (R.rem (bits .and .u64 (shr64 (IntKind.u64.wrap ((IntKind.u64.wrap (h * 6364136223846793005)) + 1442695040888963407)) 33) 16777215) n (by kernel_rfl) (by omega) (by omega) (by kernel_rfl) ?_)
      exact R.go 2 (R.retX (res := AI ((bits .and .u64 (shr64 (IntKind.u64.wrap ((IntKind.u64.wrap (h * 6364136223846793005)) + 1442695040888963407)) 33) 16777215) % n)) (hp' := [.box 120 [LB c, AI (p : Int), .int .u64 (IntKind.u64.wrap ((IntKind.u64.wrap (h * 6364136223846793005)) + 1442695040888963407))], .list eo1 so1 no1 co1, .list eo2 so2 no2 co2, .list eo3 so3 no3 co3, .list eo4 so4 no4 co4, .list eo5 so5 no5 co5, .box to6 [AI a_x, .ref 5], .dead]) (by kernel_rfl) (by kernel_rfl) (by kernel_rfl) (by kernel_rfl) ⟨[0, 1, 2, 3, 4, 5, 6], by kernel_rfl, by decide, (bits .and .u64 (shr64 (IntKind.u64.wrap ((IntKind.u64.wrap (h * 6364136223846793005)) + 1442695040888963407)) 33) 16777215) % n, p, IntKind.u64.wrap ((IntKind.u64.wrap (h * 6364136223846793005)) + 1442695040888963407), by first | exact mod_rng (by assumption) | exact ⟨fun _ => rfl, fun h1 => by omega⟩, by kernel_rfl, by kernel_rfl⟩)

theorem nextX_c_r3c (c : List Int) (p : Nat) (h : Int) (n : Int) (eo1 : Nat) (so1 : Nat) (no1 : Nat) (co1 : List AV) (eo2 : Nat) (so2 : Nat) (no2 : Nat) (co2 : List AV) (eo3 : Nat) (so3 : Nat) (no3 : Nat) (co3 : List AV) (to4 : Nat) (a_x : Int) (l_x : List Int) (hc : BY c) : CallX Tryz.prog 53 [.ptr 0 0, AI n] [.box 120 [LB c, AI (p : Int), .int .u64 h], .list eo1 so1 no1 co1, .list eo2 so2 no2 co2, .list eo3 so3 no3 co3, .box to4 [AI a_x, LI l_x, .ref 3]] (fun (resX : AV) (objX : List AObj) => ∃ v : Int, ∃ p1 : Nat, ∃ h1 : Int, ((n < 1 → v = 0) ∧ (1 ≤ n → 0 ≤ v ∧ v < n)) ∧ resX = AI v ∧ objX = [.box 120 [LB c, AI (p1 : Int), .int .u64 h1], .list eo1 so1 no1 co1, .list eo2 so2 no2 co2, .list eo3 so3 no3 co3, .box to4 [AI a_x, LI l_x, .ref 3]]) := by
  have hcl : c.length ≤ 4096 := hc.1
  have hcb := hc.2
  have hxr := fun h => u64and (shr64 (IntKind.u64.wrap (IntKind.u64.wrap (h * 6364136223846793005) + 1442695040888963407)) 33)
  have hxh := hxr h
  refine CallX.dropE (CallX.ofF Tryz.func53 rfl (by kernel_rfl) ?_)
  intro usC frC hfC
  refine R.go 10 (R.cond (n < 1) (by kernel_rfl) (fun c1 => ?_) (fun c1 => ?_))
  · exact R.go 4 (R.retX (res := AI 0) (hp' := [.box 120 [LB c, AI (p : Int), .int .u64 h], .list eo1 so1 no1 co1, .list eo2 so2 no2 co2, .list eo3 so3 no3 co3, .box to4 [AI a_x, LI l_x, .ref 3], .dead]) (by kernel_rfl) (by kernel_rfl) (by kernel_rfl) (by kernel_rfl) ⟨[0, 1, 2, 3, 4], by kernel_rfl, by decide, 0, p, h, by first | exact mod_rng (by assumption) | exact ⟨fun _ => rfl, fun h1 => by omega⟩, by kernel_rfl, by kernel_rfl⟩)
  · refine R.go 22 (R.cv .i64 (bits .and .u64 (shr64 (IntKind.u64.wrap ((IntKind.u64.wrap (h * 6364136223846793005)) + 1442695040888963407)) 33) 16777215) (by kernel_rfl) (wrap_id (by omega) (by omega)) (by kernel_rfl) ?_)
    refine R.go 16 (R.cond ((p : Int) < (c.length : Int)) (by kernel_rfl) (fun c2 => ?_) (fun c2 => ?_))
    · have hbp := hcb p (by omega)
      refine R.go 11 (R.idx eB c 0 p (p : Int) (by kernel_rfl) rfl eB_len (by omega) (by kernel_rfl) ?_)
      refine R.go 1 (R.cv .i64 (c.getD p 0) (by kernel_rfl) (wrap_id (by omega) (by omega)) (by kernel_rfl) ?_)
      refine R.ar ((bits .and .u64 (shr64 (IntKind.u64.wrap ((IntKind.u64.wrap (h * 6364136223846793005)) + 1442695040888963407)) 33) 16777215) + (c.getD p 0)) (by kernel_rfl) (by omega) (by omega) (by kernel_rfl) ?_
      refine R.go 8 (R.ar ((p : Int) + 1) (by kernel_rfl) (by omega) (by omega) (by kernel_rfl) ?_)
      refine R.go 8 (R.rem ((bits .and .u64 (shr64 (IntKind.u64.wrap ((IntKind.u64.wrap (h * 6364136223846793005)) + 1442695040888963407)) 33) 16777215) + (c.getD p 0)) n (by kernel_rfl) (by omega) (by omega) (by kernel_rfl) ?_)
      exact R.go 2 (R.retX (res := AI (((bits .and .u64 (shr64 (IntKind.u64.wrap ((IntKind.u64.wrap (h * 6364136223846793005)) + 1442695040888963407)) 33) 16777215) + (c.getD p 0)) % n)) (hp' := [.box 120 [LB c, AI ((p : Int) + 1), .int .u64 (IntKind.u64.wrap ((IntKind.u64.wrap (h * 6364136223846793005)) + 1442695040888963407))], .list eo1 so1 no1 co1, .list eo2 so2 no2 co2, .list eo3 so3 no3 co3, .box to4 [AI a_x, LI l_x, .ref 3], .dead]) (by kernel_rfl) (by kernel_rfl) (by kernel_rfl) (by kernel_rfl) ⟨[0, 1, 2, 3, 4], by kernel_rfl, by decide, ((bits .and .u64 (shr64 (IntKind.u64.wrap ((IntKind.u64.wrap (h * 6364136223846793005)) + 1442695040888963407)) 33) 16777215) + (c.getD p 0)) % n, p + 1, IntKind.u64.wrap ((IntKind.u64.wrap (h * 6364136223846793005)) + 1442695040888963407), by first | exact mod_rng (by assumption) | exact ⟨fun _ => rfl, fun h1 => by omega⟩, by kernel_rfl, by kernel_rfl⟩)
    · refine R.go 5 (R.rem (bits .and .u64 (shr64 (IntKind.u64.wrap ((IntKind.u64.wrap (h * 6364136223846793005)) + 1442695040888963407)) 33) 16777215) n (by kernel_rfl) (by omega) (by omega) (by kernel_rfl) ?_)
      exact R.go 2 (R.retX (res := AI ((bits .and .u64 (shr64 (IntKind.u64.wrap ((IntKind.u64.wrap (h * 6364136223846793005)) + 1442695040888963407)) 33) 16777215) % n)) (hp' := [.box 120 [LB c, AI (p : Int), .int .u64 (IntKind.u64.wrap ((IntKind.u64.wrap (h * 6364136223846793005)) + 1442695040888963407))], .list eo1 so1 no1 co1, .list eo2 so2 no2 co2, .list eo3 so3 no3 co3, .box to4 [AI a_x, LI l_x, .ref 3], .dead]) (by kernel_rfl) (by kernel_rfl) (by kernel_rfl) (by kernel_rfl) ⟨[0, 1, 2, 3, 4], by kernel_rfl, by decide, (bits .and .u64 (shr64 (IntKind.u64.wrap ((IntKind.u64.wrap (h * 6364136223846793005)) + 1442695040888963407)) 33) 16777215) % n, p, IntKind.u64.wrap ((IntKind.u64.wrap (h * 6364136223846793005)) + 1442695040888963407), by first | exact mod_rng (by assumption) | exact ⟨fun _ => rfl, fun h1 => by omega⟩, by kernel_rfl, by kernel_rfl⟩)

theorem nextX_c_rooooCoo (c : List Int) (p : Nat) (h : Int) (n : Int) (eo1 : Nat) (so1 : Nat) (no1 : Nat) (co1 : List AV) (eo2 : Nat) (so2 : Nat) (no2 : Nat) (co2 : List AV) (eo3 : Nat) (so3 : Nat) (no3 : Nat) (co3 : List AV) (eo4 : Nat) (so4 : Nat) (no4 : Nat) (co4 : List AV) (to5 : Nat) (a_x : Int) (l_x : List Int) (eo6 : Nat) (so6 : Nat) (no6 : Nat) (co6 : List AV) (eo7 : Nat) (so7 : Nat) (no7 : Nat) (co7 : List AV) (hc : BY c) : CallX Tryz.prog 53 [.ptr 0 0, AI n] [.box 120 [LB c, AI (p : Int), .int .u64 h], .list eo1 so1 no1 co1, .list eo2 so2 no2 co2, .list eo3 so3 no3 co3, .list eo4 so4 no4 co4, .box to5 [AI a_x, LI l_x, .ref 6], .list eo6 so6 no6 co6, .list eo7 so7 no7 co7] (fun (resX : AV) (objX : List AObj) => ∃ v : Int, ∃ p1 : Nat, ∃ h1 : Int, ((n < 1 → v = 0) ∧ (1 ≤ n → 0 ≤ v ∧ v < n)) ∧ resX = AI v ∧ objX = [.box 120 [LB c, AI (p1 : Int), .int .u64 h1], .list eo1 so1 no1 co1, .list eo2 so2 no2 co2, .list eo3 so3 no3 co3, .list eo4 so4 no4 co4, .box to5 [AI a_x, LI l_x, .ref 6], .list eo6 so6 no6 co6, .list eo7 so7 no7 co7]) := by
  have hcl : c.length ≤ 4096 := hc.1
  have hcb := hc.2
  have hxr := fun h => u64and (shr64 (IntKind.u64.wrap (IntKind.u64.wrap (h * 6364136223846793005) + 1442695040888963407)) 33)
  have hxh := hxr h
  refine CallX.dropE (CallX.ofF Tryz.func53 rfl (by kernel_rfl) ?_)
  intro usC frC hfC
  refine R.go 10 (R.cond (n < 1) (by kernel_rfl) (fun c1 => ?_) (fun c1 => ?_))
  · exact R.go 4 (R.retX (res := AI 0) (hp' := [.box 120 [LB c, AI (p : Int), .int .u64 h], .list eo1 so1 no1 co1, .list eo2 so2 no2 co2, .list eo3 so3 no3 co3, .list eo4 so4 no4 co4, .box to5 [AI a_x, LI l_x, .ref 6], .list eo6 so6 no6 co6, .list eo7 so7 no7 co7, .dead]) (by kernel_rfl) (by kernel_rfl) (by kernel_rfl) (by kernel_rfl) ⟨[0, 1, 2, 3, 4, 5, 6, 7], by kernel_rfl, by decide, 0, p, h, by first | exact mod_rng (by assumption) | exact ⟨fun _ => rfl, fun h1 => by omega⟩, by kernel_rfl, by kernel_rfl⟩)
  · refine R.go 22 (R.cv .i64 (bits .and .u64 (shr64 (IntKind.u64.wrap ((IntKind.u64.wrap (h * 6364136223846793005)) + 1442695040888963407)) 33) 16777215) (by kernel_rfl) (wrap_id (by omega) (by omega)) (by kernel_rfl) ?_)
    refine R.go 16 (R.cond ((p : Int) < (c.length : Int)) (by kernel_rfl) (fun c2 => ?_) (fun c2 => ?_))
    · have hbp := hcb p (by omega)
      refine R.go 11 (R.idx eB c 0 p (p : Int) (by kernel_rfl) rfl eB_len (by omega) (by kernel_rfl) ?_)
      refine R.go 1 (R.cv .i64 (c.getD p 0) (by kernel_rfl) (wrap_id (by omega) (by omega)) (by kernel_rfl) ?_)
      refine R.ar ((bits .and .u64 (shr64 (IntKind.u64.wrap ((IntKind.u64.wrap (h * 6364136223846793005)) + 1442695040888963407)) 33) 16777215) + (c.getD p 0)) (by kernel_rfl) (by omega) (by omega) (by kernel_rfl) ?_
      refine R.go 8 (R.ar ((p : Int) + 1) (by kernel_rfl) (by omega) (by omega) (by kernel_rfl) ?_)
      refine R.go 8 (R.rem ((bits .and .u64 (shr64 (IntKind.u64.wrap ((IntKind.u64.wrap (h * 6364136223846793005)) + 1442695040888963407)) 33) 16777215) + (c.getD p 0)) n (by kernel_rfl) (by omega) (by omega) (by kernel_rfl) ?_)
      exact R.go 2 (R.retX (res := AI (((bits .and .u64 (shr64 (IntKind.u64.wrap ((IntKind.u64.wrap (h * 6364136223846793005)) + 1442695040888963407)) 33) 16777215) + (c.getD p 0)) % n)) (hp' := [.box 120 [LB c, AI ((p : Int) + 1), .int .u64 (IntKind.u64.wrap ((IntKind.u64.wrap (h * 6364136223846793005)) + 1442695040888963407))], .list eo1 so1 no1 co1, .list eo2 so2 no2 co2, .list eo3 so3 no3 co3, .list eo4 so4 no4 co4, .box to5 [AI a_x, LI l_x, .ref 6], .list eo6 so6 no6 co6, .list eo7 so7 no7 co7, .dead]) (by kernel_rfl) (by kernel_rfl) (by kernel_rfl) (by kernel_rfl) ⟨[0, 1, 2, 3, 4, 5, 6, 7], by kernel_rfl, by decide, ((bits .and .u64 (shr64 (IntKind.u64.wrap ((IntKind.u64.wrap (h * 6364136223846793005)) + 1442695040888963407)) 33) 16777215) + (c.getD p 0)) % n, p + 1, IntKind.u64.wrap ((IntKind.u64.wrap (h * 6364136223846793005)) + 1442695040888963407), by first | exact mod_rng (by assumption) | exact ⟨fun _ => rfl, fun h1 => by omega⟩, by kernel_rfl, by kernel_rfl⟩)
    · refine R.go 5 (R.rem (bits .and .u64 (shr64 (IntKind.u64.wrap ((IntKind.u64.wrap (h * 6364136223846793005)) + 1442695040888963407)) 33) 16777215) n (by kernel_rfl) (by omega) (by omega) (by kernel_rfl) ?_)
      exact R.go 2 (R.retX (res := AI ((bits .and .u64 (shr64 (IntKind.u64.wrap ((IntKind.u64.wrap (h * 6364136223846793005)) + 1442695040888963407)) 33) 16777215) % n)) (hp' := [.box 120 [LB c, AI (p : Int), .int .u64 (IntKind.u64.wrap ((IntKind.u64.wrap (h * 6364136223846793005)) + 1442695040888963407))], .list eo1 so1 no1 co1, .list eo2 so2 no2 co2, .list eo3 so3 no3 co3, .list eo4 so4 no4 co4, .box to5 [AI a_x, LI l_x, .ref 6], .list eo6 so6 no6 co6, .list eo7 so7 no7 co7, .dead]) (by kernel_rfl) (by kernel_rfl) (by kernel_rfl) (by kernel_rfl) ⟨[0, 1, 2, 3, 4, 5, 6, 7], by kernel_rfl, by decide, (bits .and .u64 (shr64 (IntKind.u64.wrap ((IntKind.u64.wrap (h * 6364136223846793005)) + 1442695040888963407)) 33) 16777215) % n, p, IntKind.u64.wrap ((IntKind.u64.wrap (h * 6364136223846793005)) + 1442695040888963407), by first | exact mod_rng (by assumption) | exact ⟨fun _ => rfl, fun h1 => by omega⟩, by kernel_rfl, by kernel_rfl⟩)

theorem pickX_c (c : List Int) (p : Nat) (h : Int) (L : List Int) (hc : BY c) (hL : 1 ≤ L.length ∧ L.length ≤ 100) : CallX Tryz.prog 54 [.ptr 0 0, LI L] [.box 120 [LB c, AI (p : Int), .int .u64 h]] (fun (resX : AV) (objX : List AObj) => ∃ v : Int, ∃ p1 : Nat, ∃ h1 : Int, resX = AI v ∧ objX = [.box 120 [LB c, AI (p1 : Int), .int .u64 h1]]) := by
  have hcl : c.length ≤ 4096 := hc.1
  have hcb := hc.2
  refine CallX.dropE (CallX.ofF Tryz.func54 rfl (by kernel_rfl) ?_)
  intro usC frC hfC
  refine R.go 10 (R.callX (CallX.inF 1 usC frC (nextX_c c p h L.length hc) (Nat.le_of_ble_eq_true (by kernel_rfl)) (by kernel_rfl) (by kernel_rfl) (by rintro _ _ ⟨_, _, _, _, rfl, rfl⟩; exact Nat.le_of_ble_eq_true (by kernel_rfl))) (by kernel_rfl) (by kernel_rfl) (by kernel_rfl) ?_)
  rintro _ _ ⟨_, _, ⟨v_1, p1_2, h1_3, f4, rfl, rfl⟩, rfl, rfl⟩
  refine R.idx eI L 0 ((v_1).toNat) v_1 (by kernel_rfl) (by omega) eI_len (by omega) (by kernel_rfl) ?_
  exact R.go 3 (R.retX (res := AI (L.getD ((v_1).toNat) 0)) (hp' := [.box 120 [LB c, AI (p1_2 : Int), .int .u64 h1_3], .dead]) (by kernel_rfl) (by kernel_rfl) (by kernel_rfl) (by kernel_rfl) ⟨[0], by kernel_rfl, by decide, (L.getD ((v_1).toNat) 0), p1_2, h1_3, by kernel_rfl, by kernel_rfl⟩)

theorem pickX_c_r1 (c : List Int) (p : Nat) (h : Int) (L : List Int) (eo1 : Nat) (so1 : Nat) (no1 : Nat) (co1 : List AV) (hc : BY c) (hL : 1 ≤ L.length ∧ L.length ≤ 100) : CallX Tryz.prog 54 [.ptr 0 0, LI L] [.box 120 [LB c, AI (p : Int), .int .u64 h], .list eo1 so1 no1 co1] (fun (resX : AV) (objX : List AObj) => ∃ v : Int, ∃ p1 : Nat, ∃ h1 : Int, resX = AI v ∧ objX = [.box 120 [LB c, AI (p1 : Int), .int .u64 h1], .list eo1 so1 no1 co1]) := by
  have hcl : c.length ≤ 4096 := hc.1
  have hcb := hc.2
  refine CallX.dropE (CallX.ofF Tryz.func54 rfl (by kernel_rfl) ?_)
  intro usC frC hfC
  refine R.go 10 (R.callX (CallX.inF 2 usC frC (nextX_c_r1 c p h L.length eo1 so1 no1 co1 hc) (Nat.le_of_ble_eq_true (by kernel_rfl)) (by kernel_rfl) (by kernel_rfl) (by rintro _ _ ⟨_, _, _, _, rfl, rfl⟩; exact Nat.le_of_ble_eq_true (by kernel_rfl))) (by kernel_rfl) (by kernel_rfl) (by kernel_rfl) ?_)
  rintro _ _ ⟨_, _, ⟨v_1, p1_2, h1_3, f4, rfl, rfl⟩, rfl, rfl⟩
  refine R.idx eI L 0 ((v_1).toNat) v_1 (by kernel_rfl) (by omega) eI_len (by omega) (by kernel_rfl) ?_
  exact R.go 3 (R.retX (res := AI (L.getD ((v_1).toNat) 0)) (hp' := [.box 120 [LB c, AI (p1_2 : Int), .int .u64 h1_3], .list eo1 so1 no1 co1, .dead]) (by kernel_rfl) (by kernel_rfl) (by kernel_rfl) (by kernel_rfl) ⟨[0, 1], by kernel_rfl, by decide, (L.getD ((v_1).toNat) 0), p1_2, h1_3, by kernel_rfl, by kernel_rfl⟩)

theorem pickX_c_r2 (c : List Int) (p : Nat) (h : Int) (L : List Int) (eo1 : Nat) (so1 : Nat) (no1 : Nat) (co1 : List AV) (eo2 : Nat) (so2 : Nat) (no2 : Nat) (co2 : List AV) (hc : BY c) (hL : 1 ≤ L.length ∧ L.length ≤ 100) : CallX Tryz.prog 54 [.ptr 0 0, LI L] [.box 120 [LB c, AI (p : Int), .int .u64 h], .list eo1 so1 no1 co1, .list eo2 so2 no2 co2] (fun (resX : AV) (objX : List AObj) => ∃ v : Int, ∃ p1 : Nat, ∃ h1 : Int, resX = AI v ∧ objX = [.box 120 [LB c, AI (p1 : Int), .int .u64 h1], .list eo1 so1 no1 co1, .list eo2 so2 no2 co2]) := by
  have hcl : c.length ≤ 4096 := hc.1
  have hcb := hc.2
  refine CallX.dropE (CallX.ofF Tryz.func54 rfl (by kernel_rfl) ?_)
  intro usC frC hfC
  refine R.go 10 (R.callX (CallX.inF 3 usC frC (nextX_c_r2 c p h L.length eo1 so1 no1 co1 eo2 so2 no2 co2 hc) (Nat.le_of_ble_eq_true (by kernel_rfl)) (by kernel_rfl) (by kernel_rfl) (by rintro _ _ ⟨_, _, _, _, rfl, rfl⟩; exact Nat.le_of_ble_eq_true (by kernel_rfl))) (by kernel_rfl) (by kernel_rfl) (by kernel_rfl) ?_)
  rintro _ _ ⟨_, _, ⟨v_1, p1_2, h1_3, f4, rfl, rfl⟩, rfl, rfl⟩
  refine R.idx eI L 0 ((v_1).toNat) v_1 (by kernel_rfl) (by omega) eI_len (by omega) (by kernel_rfl) ?_
  exact R.go 3 (R.retX (res := AI (L.getD ((v_1).toNat) 0)) (hp' := [.box 120 [LB c, AI (p1_2 : Int), .int .u64 h1_3], .list eo1 so1 no1 co1, .list eo2 so2 no2 co2, .dead]) (by kernel_rfl) (by kernel_rfl) (by kernel_rfl) (by kernel_rfl) ⟨[0, 1, 2], by kernel_rfl, by decide, (L.getD ((v_1).toNat) 0), p1_2, h1_3, by kernel_rfl, by kernel_rfl⟩)

theorem pickX_c_r3 (c : List Int) (p : Nat) (h : Int) (L : List Int) (eo1 : Nat) (so1 : Nat) (no1 : Nat) (co1 : List AV) (eo2 : Nat) (so2 : Nat) (no2 : Nat) (co2 : List AV) (eo3 : Nat) (so3 : Nat) (no3 : Nat) (co3 : List AV) (hc : BY c) (hL : 1 ≤ L.length ∧ L.length ≤ 100) : CallX Tryz.prog 54 [.ptr 0 0, LI L] [.box 120 [LB c, AI (p : Int), .int .u64 h], .list eo1 so1 no1 co1, .list eo2 so2 no2 co2, .list eo3 so3 no3 co3] (fun (resX : AV) (objX : List AObj) => ∃ v : Int, ∃ p1 : Nat, ∃ h1 : Int, resX = AI v ∧ objX = [.box 120 [LB c, AI (p1 : Int), .int .u64 h1], .list eo1 so1 no1 co1, .list eo2 so2 no2 co2, .list eo3 so3 no3 co3]) := by
  have hcl : c.length ≤ 4096 := hc.1
  have hcb := hc.2
  refine CallX.dropE (CallX.ofF Tryz.func54 rfl (by kernel_rfl) ?_)
  intro usC frC hfC
  refine R.go 10 (R.callX (CallX.inF 4 usC frC (nextX_c_r3 c p h L.length eo1 so1 no1 co1 eo2 so2 no2 co2 eo3 so3 no3 co3 hc) (Nat.le_of_ble_eq_true (by kernel_rfl)) (by kernel_rfl) (by kernel_rfl) (by rintro _ _ ⟨_, _, _, _, rfl, rfl⟩; exact Nat.le_of_ble_eq_true (by kernel_rfl))) (by kernel_rfl) (by kernel_rfl) (by kernel_rfl) ?_)
  rintro _ _ ⟨_, _, ⟨v_1, p1_2, h1_3, f4, rfl, rfl⟩, rfl, rfl⟩
  refine R.idx eI L 0 ((v_1).toNat) v_1 (by kernel_rfl) (by omega) eI_len (by omega) (by kernel_rfl) ?_
  exact R.go 3 (R.retX (res := AI (L.getD ((v_1).toNat) 0)) (hp' := [.box 120 [LB c, AI (p1_2 : Int), .int .u64 h1_3], .list eo1 so1 no1 co1, .list eo2 so2 no2 co2, .list eo3 so3 no3 co3, .dead]) (by kernel_rfl) (by kernel_rfl) (by kernel_rfl) (by kernel_rfl) ⟨[0, 1, 2, 3], by kernel_rfl, by decide, (L.getD ((v_1).toNat) 0), p1_2, h1_3, by kernel_rfl, by kernel_rfl⟩)

theorem pickX_c_r5b (c : List Int) (p : Nat) (h : Int) (L : List Int) (eo1 : Nat) (so1 : Nat) (no1 : Nat) (co1 : List AV) (eo2 : Nat) (so2 : Nat) (no2 : Nat) (co2 : List AV) (eo3 : Nat) (so3 : Nat) (no3 : Nat) (co3 : List AV) (eo4 : Nat) (so4 : Nat) (no4 : Nat) (co4 : List AV) (eo5 : Nat) (so5 : Nat) (no5 : Nat) (co5 : List AV) (to6 : Nat) (a_x : Int) (hc : BY c) (hL : 1 ≤ L.length ∧ L.length ≤ 100) : CallX Tryz.prog 54 [.ptr 0 0, LI L] [.box 120 [LB c, AI (p : Int), .int .u64 h], .list eo1 so1 no1 co1, .list eo2 so2 no2 co2, .list eo3 so3 no3 co3, .list eo4 so4 no4 co4, .list eo5 so5 no5 co5, .box to6 [AI a_x, .ref 5]] (fun (resX : AV) (objX : List AObj) => ∃ v : Int, ∃ p1 : Nat, ∃ h1 : Int, resX = AI v ∧ objX = [.box 120 [LB c, AI (p1 : Int), .int .u64 h1], .list eo1 so1 no1 co1, .list eo2 so2 no2 co2, .list eo3 so3 no3 co3, .list eo4 so4 no4 co4, .list eo5 so5 no5 co5, .box to6 [AI a_x, .ref 5]]) := by
  have hcl : c.length ≤ 4096 := hc.1
  have hcb := hc.2
  refine CallX.dropE (CallX.ofF Tryz.func54 rfl (by kernel_rfl) ?_)
  intro usC frC hfC
  refine R.go 10 (R.callX (CallX.inF 7 usC frC (nextX_c_r5b c p h L.length eo1 so1 no1 co1 eo2 so2 no2 co2 eo3 so3 no3 co3 eo4 so4 no4 co4 eo5 so5 no5 co5 to6 a_x hc) (Nat.le_of_ble_eq_true (by kernel_rfl)) (by kernel_rfl) (by kernel_rfl) (by rintro _ _ ⟨_, _, _, _, rfl, rfl⟩; exact Nat.le_of_ble_eq_true (by kernel_rfl))) (by kernel_rfl) (by kernel_rfl) (by kernel_rfl) ?_)
  rintro _ _ ⟨_, _, ⟨v_1, p1_2, h1_3, f4, rfl, rfl⟩, rfl, rfl⟩
  refine R.idx eI L 0 ((v_1).toNat) v_1 (by kernel_rfl) (by omega) eI_len (by omega) (by kernel_rfl) ?_
  exact R.go 3 (R.retX (res := AI (L.getD ((v_1).toNat) 0)) (hp' := [.box 120 [LB c, AI (p1_2 : Int), .int .u64 h1_3], .list eo1 so1 no1 co1, .list eo2 so2 no2 co2, .list eo3 so3 no3 co3, .list eo4 so4 no4 co4, .list eo5 so5 no5 co5, .box to6 [AI a_x, .ref 5], .dead]) (by kernel_rfl) (by kernel_rfl) (by kernel_rfl) (by kernel_rfl) ⟨[0, 1, 2, 3, 4, 5, 6], by kernel_rfl, by decide, (L.getD ((v_1).toNat) 0), p1_2, h1_3, by kernel_rfl, by kernel_rfl⟩)

theorem pickX_c_r3c (c : List Int) (p : Nat) (h : Int) (L : List Int) (eo1 : Nat) (so1 : Nat) (no1 : Nat) (co1 : List AV) (eo2 : Nat) (so2 : Nat) (no2 : Nat) (co2 : List AV) (eo3 : Nat) (so3 : Nat) (no3 : Nat) (co3 : List AV) (to4 : Nat) (a_x : Int) (l_x : List Int) (hc : BY c) (hL : 1 ≤ L.length ∧ L.length ≤ 100) : CallX Tryz.prog 54 [.ptr 0 0, LI L] [.box 120 [LB c, AI (p : Int), .int .u64 h], .list eo1 so1 no1 co1, .list eo2 so2 no2 co2, .list eo3 so3 no3 co3, .box to4 [AI a_x, LI l_x, .ref 3]] (fun (resX : AV) (objX : List AObj) => ∃ v : Int, ∃ p1 : Nat, ∃ h1 : Int, resX = AI v ∧ objX = [.box 120 [LB c, AI (p1 : Int), .int .u64 h1], .list eo1 so1 no1 co1, .list eo2 so2 no2 co2, .list eo3 so3 no3 co3, .box to4 [AI a_x, LI l_x, .ref 3]]) := by
  have hcl : c.length ≤ 4096 := hc.1
  have hcb := hc.2
  refine CallX.dropE (CallX.ofF Tryz.func54 rfl (by kernel_rfl) ?_)
  intro usC frC hfC
  refine R.go 10 (R.callX (CallX.inF 5 usC frC (nextX_c_r3c c p h L.length eo1 so1 no1 co1 eo2 so2 no2 co2 eo3 so3 no3 co3 to4 a_x l_x hc) (Nat.le_of_ble_eq_true (by kernel_rfl)) (by kernel_rfl) (by kernel_rfl) (by rintro _ _ ⟨_, _, _, _, rfl, rfl⟩; exact Nat.le_of_ble_eq_true (by kernel_rfl))) (by kernel_rfl) (by kernel_rfl) (by kernel_rfl) ?_)
  rintro _ _ ⟨_, _, ⟨v_1, p1_2, h1_3, f4, rfl, rfl⟩, rfl, rfl⟩
  refine R.idx eI L 0 ((v_1).toNat) v_1 (by kernel_rfl) (by omega) eI_len (by omega) (by kernel_rfl) ?_
  exact R.go 3 (R.retX (res := AI (L.getD ((v_1).toNat) 0)) (hp' := [.box 120 [LB c, AI (p1_2 : Int), .int .u64 h1_3], .list eo1 so1 no1 co1, .list eo2 so2 no2 co2, .list eo3 so3 no3 co3, .box to4 [AI a_x, LI l_x, .ref 3], .dead]) (by kernel_rfl) (by kernel_rfl) (by kernel_rfl) (by kernel_rfl) ⟨[0, 1, 2, 3, 4], by kernel_rfl, by decide, (L.getD ((v_1).toNat) 0), p1_2, h1_3, by kernel_rfl, by kernel_rfl⟩)

end Go.Proofs.YtgebepfdphmjcaaGreat


/-! Point formulas in models: their codes; translations are true where the formulas are. -/
namespace Go.Proofs.YtgebepfdphmjcaaGreat
open Go.RowKit Go.Abs

theorem b2i_c (b : Bool) : CallA Tryz.prog 178 [.bool b] (AI (if b = true then 1 else 0)) := by
  refine CallA.of Tryz.func178 rfl (by kernel_rfl) ?_
  refine R.go 9 (R.condB (b) (by kernel_rfl) (fun c1 => ?_) (fun c1 => ?_))
  · exact R.go 4 (R.retE (AI 1) (by kernel_rfl) (by kernel_rfl) (by first | (first | (rw [if_pos (by assumption)]; done) | (rw [if_neg (by simp [*])]; done)) | (exfalso; omega)))
  · exact R.go 5 (R.retE (AI 0) (by kernel_rfl) (by kernel_rfl) (by first | (first | (rw [if_pos (by assumption)]; done) | (rw [if_neg (by simp [*])]; done)) | (exfalso; omega)))

theorem prts_le (a : List (Int × Int × Int)) : (prtsT a).length ≤ 2 := by
  unfold prtsT
  split
  · simp
  · split <;> simp

theorem nest_c : ∀ (k : Nat) (a : List (Int × Int × Int)) (hk : a.length = k) (hok : OKP a) (hl : a.length ≤ 1000), CallX Tryz.prog 131 [LT a] [] (fun (resX : AV) (objX : List AObj) => ∃ v : Int, (0 ≤ v ∧ v ≤ a.length) ∧ resX = AI v ∧ objX = []) := by
  intro k
  induction k using Nat.strongRecOn with
  | _ k ih =>
  intro a hk hok hl
  have hp := okp_pos hok
  have hpl := prts_le a
  refine CallX.dropE (CallX.ofF Tryz.func131 rfl (by kernel_rfl) ?_)
  intro usC frC hfC
  refine R.go 12 (R.call true (below_c a hok (by first | omega | (have h5 := (hpo (by omega)).2; omega))).frz (by kernel_rfl) rfl (by kernel_rfl) ?_)
  refine R.go 4 (R.loop ((fun | (i, q) => (⟨(frm 27 [(0, LT a), (3, AI q), (7, LLT (prtsT a)), (8, AI ((prtsT a).length)), (9, AI (i : Int))]), [.frame usC frC]⟩ : St) : Nat × Int → St)) (fun | (i, q) => (i ≤ (prtsT a).length) ∧ (0 ≤ q ∧ q + 1 ≤ a.length)) (fun | (i, q) => (prtsT a).length - i) (0, 0) [0, 3, 7, 8, 9] none (by kernel_rfl) (by kernel_rfl) (by kernel_rfl) ⟨(by omega), (by omega)⟩ ?_)
  rintro ⟨i, q⟩ ⟨h4_1, h4_2⟩ R1 N2
  have hpo := fun h : i < (prtsT a).length => prts_okp hok h
  refine R.go 5 (R.cond ((i : Int) < ((prtsT a).length : Int)) (by kernel_rfl) (fun c5 => ?_) (fun c5 => ?_))
  · have hp5 := hpo (by omega)
    have hp6 := hp5.2
    refine R.go 5 (R.idx eLT (prtsT a) [] i (i : Int) (by kernel_rfl) rfl eLT_len (by first | omega | (have h5 := (hpo (by omega)).2; omega)) (by kernel_rfl) ?_)
    refine R.go 6 (R.callX (CallX.inF 0 usC frC (ih ((((prtsT a).getD i []) : List (Int × Int × Int)).length) (by first | omega | (have h5 := (hpo (by omega)).2; omega)) ((prtsT a).getD i []) (by first | rfl | simp) (by first | assumption | exact (hpo (by omega)).1) (by first | omega | (have h5 := (hpo (by omega)).2; omega))) (Nat.le_of_ble_eq_true (by kernel_rfl)) (by kernel_rfl) (by kernel_rfl) (by rintro _ _ ⟨_, _, rfl, rfl⟩; exact Nat.le_of_ble_eq_true (by kernel_rfl))) (by kernel_rfl) (by kernel_rfl) (by kernel_rfl) ?_)
    rintro _ _ ⟨_, _, ⟨v_6, f7, rfl, rfl⟩, rfl, rfl⟩
    refine R.go 5 (R.ar ((i : Int) + 1) (by kernel_rfl) (by first | omega | (have h5 := (hpo (by omega)).2; omega)) (by first | omega | (have h5 := (hpo (by omega)).2; omega)) (by kernel_rfl) ?_)
    exact R.go 2 (R.stop R1 (by kernel_rfl) (N2 (i + 1, if v_6 > q then v_6 else q) [0, 3, 7, 8, 9] none _ (by kernel_rfl) (by kernel_rfl) ⟨(by omega), (by first | omega | (split <;> omega))⟩ (by show ((prtsT a).length - (i + 1)) < ((prtsT a).length - i); omega)))
  · refine R.go 5 (R.idx eT a (0, 0, 0) 0 0 (by kernel_rfl) rfl eT_len (by first | omega | (have h5 := (hpo (by omega)).2; omega)) (by kernel_rfl) ?_)
    refine R.go 2 (R.call true (pointParts_c ((a.getD 0 (0, 0, 0)).1)) (by kernel_rfl) rfl (by kernel_rfl) ?_)
    refine R.go 1 (R.call true (b2i_c (decide ((ptN ((a.getD 0 (0, 0, 0)).1) : Int) = 1))) (by kernel_rfl) rfl (by kernel_rfl) ?_)
    refine R.ar (q + (if (decide ((ptN ((a.getD 0 (0, 0, 0)).1) : Int) = 1)) = true then 1 else 0)) (by kernel_rfl) (by first | omega | (have h5 := (hpo (by omega)).2; omega)) (by first | omega | (have h5 := (hpo (by omega)).2; omega)) (by kernel_rfl) ?_
    exact R.go 2 (R.retX (res := AI (q + (if (decide ((ptN ((a.getD 0 (0, 0, 0)).1) : Int) = 1)) = true then 1 else 0))) (hp' := [.dead]) (by kernel_rfl) (by kernel_rfl) (by kernel_rfl) (by kernel_rfl) ⟨[], by kernel_rfl, by decide, q + (if (decide ((ptN ((a.getD 0 (0, 0, 0)).1) : Int) = 1)) = true then 1 else 0), by first | omega | (split <;> omega), by kernel_rfl, by kernel_rfl⟩)

theorem mul8 {p n : Int} {k : Nat} (h0 : 0 ≤ n) (h8 : n ≤ 8) (hk : k < 6) (hp : 0 ≤ p ∧ p ≤ 8 ^ k) : 0 ≤ p * n ∧ p * n ≤ 8 ^ (k + 1) := by
  refine ⟨Int.mul_nonneg hp.1 h0, ?_⟩
  rw [Int.pow_succ]
  exact Int.mul_le_mul hp.2 h8 h0 (by omega)
theorem pow8 {k : Nat} (hk : k ≤ 6) : (8 : Int) ^ k ≤ 262144 := by
  have : k = 0 ∨ k = 1 ∨ k = 2 ∨ k = 3 ∨ k = 4 ∨ k = 5 ∨ k = 6 := by omega
  rcases this with rfl | rfl | rfl | rfl | rfl | rfl | rfl <;> decide

theorem hasV_c (n : Int) (a : List (Int × Int × Int)) (hok : OKP a) (hl : a.length ≤ 1000) (hn : 0 ≤ n ∧ n ≤ 8) : CallX Tryz.prog 69 [LT a, AI n] [] (fun (resX : AV) (objX : List AObj) => ∃ b : Bool, (b = true ∨ b = false) ∧ resX = .bool b ∧ objX = []) := by
  refine CallX.dropE (CallX.ofF Tryz.func69 rfl (by kernel_rfl) ?_)
  intro usC frC hfC
  refine R.go 7 (R.callX (CallX.inF 0 usC frC (nest_c ((a : List (Int × Int × Int)).length) a (by first | rfl | simp) hok hl) (Nat.le_of_ble_eq_true (by kernel_rfl)) (by kernel_rfl) (by kernel_rfl) (by rintro _ _ ⟨_, _, rfl, rfl⟩; exact Nat.le_of_ble_eq_true (by kernel_rfl))) (by kernel_rfl) (by kernel_rfl) (by kernel_rfl) ?_)
  rintro _ _ ⟨_, _, ⟨v_1, f2, rfl, rfl⟩, rfl, rfl⟩
  refine R.go 8 (R.cond (v_1 > 6) (by kernel_rfl) (fun c3 => ?_) (fun c3 => ?_))
  · exact R.go 4 (R.retX (res := .bool false) (hp' := [.dead]) (by kernel_rfl) (by kernel_rfl) (by kernel_rfl) (by kernel_rfl) ⟨[], by kernel_rfl, by decide, false, by exact Bool.eq_false_or_eq_true _, by kernel_rfl, by kernel_rfl⟩)
  · refine R.go 12 (R.loop ((fun | (i, p) => (⟨(frm 20 [(1, AI n), (6, AI p), (11, AI v_1), (12, AI (i : Int))]), [.frame usC frC]⟩ : St) : Nat × Int → St)) (fun | (i, p) => ((i : Int) ≤ v_1) ∧ (0 ≤ p ∧ p ≤ 8 ^ i)) (fun | (i, p) => (v_1 - i).toNat) (0, 1) [1, 6, 11, 12] none (by kernel_rfl) (by kernel_rfl) (by kernel_rfl) ⟨(by omega), (by simp)⟩ ?_)
    rintro ⟨i, p⟩ ⟨h7_1, h7_2⟩ R4 N5
    have hp8 := fun h : i ≤ 6 => pow8 h
    have hm8 := fun h : i < 6 => mul8 hn.1 hn.2 h (by assumption : 0 ≤ p ∧ p ≤ 8 ^ i)
    have hp9 := fun h : i < 6 => pow8 (show i + 1 ≤ 6 by omega)
    refine R.go 5 (R.cond ((i : Int) < v_1) (by kernel_rfl) (fun c8 => ?_) (fun c8 => ?_))
    · have hm1 := hm8 (by omega)
      have hm2 := hp9 (by omega)
      refine R.go 6 (R.ar (p * n) (by kernel_rfl) (by omega) (by omega) (by kernel_rfl) ?_)
      refine R.go 4 (R.ar ((i : Int) + 1) (by kernel_rfl) (by omega) (by omega) (by kernel_rfl) ?_)
      exact R.go 2 (R.stop R4 (by kernel_rfl) (N5 (i + 1, p * n) [1, 6, 11, 12] none _ (by kernel_rfl) (by kernel_rfl) ⟨(by omega), (by exact mul8 hn.1 hn.2 (by omega) (by assumption))⟩ (by show ((v_1 - (i + 1)).toNat) < ((v_1 - i).toNat); omega)))
    · exact R.go 7 (R.retX (res := .bool (decide (p ≤ 32768))) (hp' := [.dead]) (by kernel_rfl) (by kernel_rfl) (by kernel_rfl) (by kernel_rfl) ⟨[], by kernel_rfl, by decide, decide (p ≤ 32768), by exact Bool.eq_false_or_eq_true _, by kernel_rfl, by kernel_rfl⟩)

theorem PH1_c (w : Int) (n : Int) (xs : List Int) (vs : List Int) (h0 : 0 ≤ w) (h1 : w < n) (hM8 : 0 ≤ n ∧ n ≤ 8) : CallA Tryz.prog 67 [AI w, .rptr [AI n, LI xs, LI vs]] (.bool false) := by
  have hir : inR w 0 (n - 1) = true := (inR_iff _ _ _).2 (by omega)
  refine CallA.of Tryz.func67 rfl (by kernel_rfl) ?_
  refine R.go 9 (R.call true (hasWorld_c n xs w (by omega) (by omega)) (by kernel_rfl) rfl (by kernel_rfl) ?_)
  exact R.go 3 (R.retE (.bool (!(inR w 0 (n - 1)))) (by kernel_rfl) (by kernel_rfl) (by first | (apply congrArg AV.bool; simp [hir]) | (exfalso; omega)))

theorem indexPH_c (ws : List Int) (n : Int) (xs : List Int) (vs : List Int) (hw : WS n ws) (hM8 : 0 ≤ n ∧ n ≤ 8) : CallA Tryz.prog 99 [LI ws, .fn 67 [.rptr [AI n, LI xs, LI vs]]] (AI (-1)) := by
  have hwl := hw.1
  have hwg := hw.2
  refine CallA.of Tryz.func99 rfl (by kernel_rfl) ?_
  refine R.go 12 (R.loop (fun (i : Nat) => (⟨(frm 19 [(0, LI ws), (1, .fn 67 [.rptr [AI n, LI xs, LI vs]]), (7, AI ws.length), (8, AI (i : Int))]), []⟩ : St)) (fun (i : Nat) => i ≤ ws.length) (fun (i : Nat) => ws.length - i) 0 [0, 1, 7, 8] none (by kernel_rfl) (by kernel_rfl) (by kernel_rfl) (by omega) ?_)
  rintro i h3_1 R1 N2
  have hgi := fun h : i < 10 => hwg i h
  refine R.go 5 (R.cond ((i : Int) < (ws.length : Int)) (by kernel_rfl) (fun c4 => ?_) (fun c4 => ?_))
  · have hgj := hgi (by omega)
    refine R.go 13 (R.idx eI ws 0 i (i : Int) (by kernel_rfl) rfl eI_len (by omega) (by kernel_rfl) ?_)
    refine R.go 1 (R.call true (PH1_c (ws.getD i 0) n xs vs (by omega) (by omega) hM8) (by kernel_rfl) rfl (by kernel_rfl) ?_)
    refine R.go 5 (R.ar ((i : Int) + 1) (by kernel_rfl) (by omega) (by omega) (by kernel_rfl) ?_)
    exact R.go 2 (R.stop R1 (by kernel_rfl) (N2 (i + 1) [0, 1, 7, 8] none _ (by kernel_rfl) (by kernel_rfl) (by omega) (by show (ws.length - (i + 1)) < (ws.length - i); omega)))
  · exact R.go 5 (R.retE (AI (-1)) (by kernel_rfl) (by kernel_rfl) (by rfl))

theorem containsPH_c (ws : List Int) (n : Int) (xs : List Int) (vs : List Int) (hw : WS n ws) (hM8 : 0 ≤ n ∧ n ≤ 8) : CallA Tryz.prog 41 [LI ws, .fn 67 [.rptr [AI n, LI xs, LI vs]]] (.bool false) := by
  refine CallA.of Tryz.func41 rfl (by kernel_rfl) ?_
  refine R.go 8 (R.call true (indexPH_c ws n xs vs hw hM8) (by kernel_rfl) rfl (by kernel_rfl) ?_)
  exact R.go 3 (R.retE (.bool false) (by kernel_rfl) (by kernel_rfl) (by rfl))

theorem PH_c (n : Int) (xs : List Int) (vs : List Int) (a : List (Int × Int × Int)) (ws : List Int) (hMo : okMo n xs vs = true) (hok : OKP a) (hl : a.length ≤ 120) (hw : WS n ws) (hM : 0 ≤ n ∧ n ≤ 8 ∧ (xs.length : Int) = n ∧ vs.length = 6) : CallX Tryz.prog 26 [.agg [AI n, LI xs, LI vs], LT a, LI ws] [] (fun (resX : AV) (objX : List AObj) => ∃ b : Bool, ∃ c : Int, (c = 3 ∨ (c = 0 ∧ b = evL n xs vs a ws)) ∧ resX = .tup [.bool b, AI c] ∧ objX = []) := by
  have hwl := hw.1
  have hM8 : 0 ≤ n ∧ n ≤ 8 := ⟨hM.1, hM.2.1⟩
  refine CallX.dropE (CallX.ofF Tryz.func26 rfl (by kernel_rfl) ?_)
  intro usC frC hfC
  refine R.go 11 (R.call true (isModel_c n xs vs (by first | omega | (simp <;> omega)) (by first | omega | (simp <;> omega))) (by kernel_rfl) rfl (by kernel_rfl) ?_)
  refine R.go 2 (R.want (!(okMo n xs vs)) false (by kernel_rfl) (bnF hMo) ?_)
  refine R.go 1 (R.want (!(okMo n xs vs)) false (by kernel_rfl) (bnF hMo) ?_)
  refine R.call true (isPF_c a hok hl) (by kernel_rfl) rfl (by kernel_rfl) ?_
  refine R.want (!(okMo n xs vs)) false (by kernel_rfl) (bnF hMo) ?_
  refine R.go 1 (R.pick (!(okMo n xs vs)) false (by kernel_rfl) (bnF hMo) (by kernel_rfl) ?_)
  refine R.go 9 ?_
  by_cases c1 : (ws.length : Int) = 10
  · refine R.want (!decide ((ws.length : Int) = 10)) false (by kernel_rfl) (nF c1) ?_
    refine R.go 1 (R.want (!decide ((ws.length : Int) = 10)) false (by kernel_rfl) (nF c1) ?_)
    refine R.go 1 (R.want (!decide ((ws.length : Int) = 10)) false (by kernel_rfl) (nF c1) ?_)
    refine R.call false (containsPH_c ws n xs vs hw hM8) (by kernel_rfl) rfl (by kernel_rfl) ?_
    refine R.pick (!decide ((ws.length : Int) = 10)) false (by kernel_rfl) (nF c1) (by kernel_rfl) ?_
    refine R.go 9 (R.callX0 (hasV_c n a hok (by omega) hM8) (by kernel_rfl) (by rintro _ _ ⟨_, _, rfl, rfl⟩; rfl) (by kernel_rfl) (by kernel_rfl) ?_)
    rintro _ ⟨b_2, f3, rfl, _⟩
    refine R.go 3 (R.condM (b_2) (by kernel_rfl) (fun c4 => ?_) (fun c4 => ?_))
    · exact R.go 5 (R.retX (res := .tup [.bool false, AI 3]) (hp' := [.dead, .box 43 [AI n, LI xs, LI vs]]) (by kernel_rfl) (by kernel_rfl) (by kernel_rfl) (by kernel_rfl) ⟨[], by kernel_rfl, by decide, false, 3, by first | exact .inl rfl | exact .inr ⟨rfl, rfl⟩ | (exfalso; omega), by kernel_rfl, by kernel_rfl⟩)
    · refine R.go 7 (R.call true (holds_c ((a : List (Int × Int × Int)).length) n xs vs a ws (by first | rfl | simp) hok hM hw (by first | omega | (rw [hb1]; omega) | (rw [hb2]; omega) | (rw [hz0, List.length_drop]; omega))) (by kernel_rfl) rfl (by kernel_rfl) ?_)
      exact R.go 3 (R.retX (res := .tup [.bool (evL n xs vs a ws), AI 0]) (hp' := [.dead, .box 43 [AI n, LI xs, LI vs]]) (by kernel_rfl) (by kernel_rfl) (by kernel_rfl) (by kernel_rfl) ⟨[], by kernel_rfl, by decide, evL n xs vs a ws, 0, by first | exact .inl rfl | exact .inr ⟨rfl, rfl⟩ | (exfalso; omega), by kernel_rfl, by kernel_rfl⟩)
  · refine R.skp (!decide ((ws.length : Int) = 10)) false (by kernel_rfl) (nT c1) (by kernel_rfl) ?_
    refine R.skp (!decide ((ws.length : Int) = 10)) false (by kernel_rfl) (nT c1) (by kernel_rfl) ?_
    refine R.skp (!decide ((ws.length : Int) = 10)) false (by kernel_rfl) (nT c1) (by kernel_rfl) ?_
    refine R.pick (!decide ((ws.length : Int) = 10)) true (by kernel_rfl) (nT c1) (by kernel_rfl) ?_
    exact R.go 8 (R.retX (res := .tup [.bool false, AI 2]) (hp' := [.dead, .box 43 [AI n, LI xs, LI vs]]) (by kernel_rfl) (by kernel_rfl) (by kernel_rfl) (by kernel_rfl) ⟨[], by kernel_rfl, by decide, false, 2, by first | exact .inl rfl | exact .inr ⟨rfl, rfl⟩ | (exfalso; omega), by kernel_rfl, by kernel_rfl⟩)

end Go.Proofs.YtgebepfdphmjcaaGreat


/-! A translation holds where the formula is true. -/
namespace Go.Proofs.YtgebepfdphmjcaaGreat
open Go.RowKit Go.Abs

theorem okm_two_e {nv : Nat} {k s : Int} {L R : List (Int × Int)} (hk : k = 2 ∨ k = 3 ∨ k = 4) (hL : OKM nv L) (hR : OKM nv R) : lef ((k, s) :: (L ++ R)) = L ∧ rig ((k, s) :: (L ++ R)) = R := by
  have e1 : pe 1 (L ++ R) = some L.length := by
    have := pe_app (o := 1) (p := 0) (n := 0) hL.1 (pe_zero R)
    simpa using this
  have hX : peX 1 ((k, s) :: (L ++ R)) 1 = 1 + L.length := by simp [peX, e1]
  unfold lef rig
  rw [hX, show (1 + (L.length : Int)).toNat = L.length + 1 by omega]
  simp

theorem st_other {ws : List Int} {x y : Nat} {v : Int} (h : ¬ y = x) : (ws.set y v).getD x 0 = ws.getD x 0 := by
  by_cases hy : y < ws.length
  · rw [getD_set_if _ _ _ _ _ hy, if_neg h]
  · rw [List.set_eq_of_length_le (by omega)]
theorem st_same {ws : List Int} {y : Nat} {v : Int} (h : y < ws.length) : (ws.set y v).getD y 0 = v := by rw [getD_set_if _ _ _ _ _ h, if_pos rfl]
theorem trn_true {n : Int} {xs vs : List Int} (hR : okFr n xs = true) (hX : ∀ j : Nat, j < 6 → InM n.toNat (vs.getD j 0)) {a : List (Int × Int)} (ha : OKM 6 a) : ∀ x : Int, (x = 0 ∨ x = 1) → ∃ t : PF, t.ok ∧ trnL a x = t.fl ∧ ∀ ws, WS n ws → t.ev n xs vs ws = tr n xs vs a (ws.getD x.toNat 0).toNat := by
  obtain ⟨h0, h8, hl, hr⟩ := okFr_rel hR
  have hwr : ∀ {ws : List Int}, WS n ws → ∀ j : Nat, j < 10 → 0 ≤ ws.getD j 0 ∧ (ws.getD j 0).toNat < n.toNat ∧ (((ws.getD j 0).toNat : Nat) : Int) = ws.getD j 0 := fun hw j hj => by have := hw.2 j hj; omega
  refine okm_ind (C := fun a => ∀ x : Int, (x = 0 ∨ x = 1) → ∃ t : PF, t.ok ∧ trnL a x = t.fl ∧ ∀ ws, WS n ws → t.ev n xs vs ws = tr n xs vs a (ws.getD x.toNat 0).toNat) ?_ ?_ ?_ ?_ ha
  · intro v v0 v6 x hx
    refine ⟨.atm 2 v x, ?_, trn_0 (okm_var v0 v6) rfl, fun ws hw => ?_⟩
    · exact ⟨.inr (.inr (.inl rfl)), fun h => absurd h (by decide), fun _ => by omega⟩
    · have h1 := hwr hw x.toNat (by omega)
      rw [PF.ev, if_neg (by decide), if_neg (by decide), if_pos rfl, tr_var, Bool.eq_iff_iff, decide_eq_true_iff, ← h1.2.2, has_tb (n := n.toNat) (by omega) (hX v.toNat (by omega)) (by omega), Int.toNat_natCast]
  · intro s x hx
    exact ⟨.atm 3 0 0, by simp [PF.ok], trn_1 (okm_bot (nv := 6) s) rfl, fun ws hw => by rw [tr_bot]; rfl⟩
  · intro k s L R hk hLR hL hRR iL iR x hx
    obtain ⟨t1, o1, e1, v1⟩ := iL x hx
    obtain ⟨t2, o2, e2, v2⟩ := iR x hx
    obtain ⟨el, er⟩ := okm_two_e (s := s) hk hL hRR
    refine ⟨.bi (k + 2) t1 t2, ⟨by omega, o1, o2⟩, ?_, fun ws hw => ?_⟩
    · rw [trn_2 hLR (by simpa using hk), el, er, e1, e2]; rfl
    · have hw1 := (hwr hw x.toNat (by omega)).2.1
      rw [PF.ev, v1 ws hw, v2 ws hw]
      rcases hk with rfl | rfl | rfl
      · rw [if_pos (by decide), tr_and hR hX hL hRR]
      · rw [if_neg (by decide), if_pos (by decide), tr_or hR hX hL hRR]
      · rw [if_neg (by decide), if_neg (by decide), tr_imp hR hX hL hRR hw1]
  · intro k s L hk hkL hL iL x hx
    obtain ⟨t1, o1, e1, v1⟩ := iL (1 - x) (by omega)
    have hed : ((k, s) :: L).drop 1 = L := rfl
    have key : ∀ (ws : List Int), WS n ws → ∀ v : Nat, v < n.toNat → ((PF.atm 0 x (1 - x)).ev n xs vs (ws.set (1 - x).toNat (v : Int)) = tb (xs.getD (ws.getD x.toNat 0).toNat 0) v) ∧ t1.ev n xs vs (ws.set (1 - x).toNat (v : Int)) = tr n xs vs L v := fun ws hw v hv => by
      have hs : WS n (ws.set (1 - x).toNat (v : Int)) := ws_set hw (by omega) (by omega)
      have e3 := st_other (ws := ws) (x := x.toNat) (y := (1 - x).toNat) (v := (v : Int)) (by omega)
      have e4 := st_same (ws := ws) (y := (1 - x).toNat) (v := (v : Int)) (by have := hw.1; omega)
      have h1 := hwr hw x.toNat (by omega)
      refine ⟨?_, ?_⟩
      · rw [PF.ev, if_pos rfl, e3, e4, Bool.eq_iff_iff, decide_eq_true_iff, has_tb (n := n.toNat) (by omega) (hr.2 _ h1.2.1) (by omega)]
      · rw [v1 _ hs, e4, Int.toNat_natCast]
    rcases hk with rfl | rfl
    · refine ⟨.qu 7 (1 - x) (.bi 6 (.atm 0 x (1 - x)) t1), ?_, ?_, fun ws hw => ?_⟩
      · exact ⟨.inl rfl, by omega, .inr (.inr rfl), ⟨.inl rfl, fun _ => by omega, fun h => absurd h (by decide)⟩, o1⟩
      · rw [trn_5 hkL rfl, hed, e1]; rfl
      · have hw1 := (hwr hw x.toNat (by omega)).2.1
        rw [PF.ev, if_pos rfl, Bool.eq_iff_iff, List.all_eq_true, tr_box hR hX hL hw1]
        constructor
        · intro h j hj
          have hjn := tb_lt (hr.2 _ hw1) hj
          have := h j (List.mem_range.2 hjn)
          rw [PF.ev, if_neg (by decide), if_neg (by decide), (key ws hw j hjn).1, (key ws hw j hjn).2, hj] at this
          simpa using this
        · intro h v hv
          have hvn := List.mem_range.1 hv
          rw [PF.ev, if_neg (by decide), if_neg (by decide), (key ws hw v hvn).1, (key ws hw v hvn).2]
          cases e : tb (xs.getD (ws.getD x.toNat 0).toNat 0) v with
          | false => rfl
          | true => rw [h v e]; rfl
    · refine ⟨.qu 8 (1 - x) (.bi 4 (.atm 0 x (1 - x)) t1), ?_, ?_, fun ws hw => ?_⟩
      · exact ⟨.inr rfl, by omega, .inl rfl, ⟨.inl rfl, fun _ => by omega, fun h => absurd h (by decide)⟩, o1⟩
      · rw [trn_6 hkL rfl, hed, e1]; rfl
      · have hw1 := (hwr hw x.toNat (by omega)).2.1
        rw [PF.ev, if_neg (by decide), Bool.eq_iff_iff, List.any_eq_true, tr_dia hR hX hL hw1]
        constructor
        · rintro ⟨v, hv, h⟩
          have hvn := List.mem_range.1 hv
          rw [PF.ev, if_pos rfl, (key ws hw v hvn).1, (key ws hw v hvn).2, Bool.and_eq_true] at h
          exact ⟨v, h⟩
        · rintro ⟨j, hj, h⟩
          have hjn := tb_lt (hr.2 _ hw1) hj
          refine ⟨j, List.mem_range.2 hjn, ?_⟩
          rw [PF.ev, if_pos rfl, (key ws hw j hjn).1, (key ws hw j hjn).2, hj, h]
          rfl

end Go.Proofs.YtgebepfdphmjcaaGreat


/-! Draws of formulas. -/
namespace Go.Proofs.YtgebepfdphmjcaaGreat
open Go.RowKit Go.Abs

theorem l02Pre_c (k : Int) (a : List (Int × Int)) (ha : a.length ≤ 1000000) : CallA Tryz.prog 145 [AI k, LN a] (ownA eN 126 2 ((k, 0) :: a)) := by
  refine CallA.of Tryz.func145 rfl (by kernel_rfl) ?_
  refine R.go 10 (R.app eN [(k, 0)] a 0 126 2 16 (by kernel_rfl) eN_one (by decide) (by first | omega | (simp <;> omega)) (by kernel_rfl) ?_)
  exact R.go 2 (R.retE (ownA eN 126 2 ([(k, 0)] ++ a)) (by kernel_rfl) (by kernel_rfl) (by first | (rfl) | (exfalso; omega)))

theorem drawX_c : ∀ (k : Nat) (c : List Int) (p : Nat) (h : Int) (size : Int) (vars : Int) (modal : Bool) (hk : size.toNat = k) (hc : BY c) (hs : size ≤ 1000), CallX Tryz.prog 103 [.ptr 0 0, AI size, AI vars, .bool modal] [.box 120 [LB c, AI (p : Int), .int .u64 h]] (fun (resX : AV) (objX : List AObj) => ∃ r : List (Int × Int), ∃ p1 : Nat, ∃ h1 : Int, (((r.length : Int) ≤ size ∨ r.length ≤ 1) ∧ 1 ≤ r.length) ∧ resX = LN r ∧ objX = [.box 120 [LB c, AI (p1 : Int), .int .u64 h1]]) := by
  intro k
  induction k using Nat.strongRecOn with
  | _ k ih =>
  intro c p h size vars modal hk hc hs
  refine CallX.dropE (CallX.ofF Tryz.func103 rfl (by kernel_rfl) ?_)
  intro usC frC hfC
  refine R.go 10 ?_
  by_cases c1 : size ≤ 2
  · refine R.skp (decide (size ≤ 2)) false (by kernel_rfl) (dT c1) (by kernel_rfl) ?_
    refine R.skp (decide (size ≤ 2)) false (by kernel_rfl) (dT c1) (by kernel_rfl) ?_
    refine R.skp (decide (size ≤ 2)) false (by kernel_rfl) (dT c1) (by kernel_rfl) ?_
    refine R.pick (decide (size ≤ 2)) true (by kernel_rfl) (dT c1) (by kernel_rfl) ?_
    refine R.go 6 (R.callX (CallX.inF 1 usC frC (nextX_c c p h 8 hc) (Nat.le_of_ble_eq_true (by kernel_rfl)) (by kernel_rfl) (by kernel_rfl) (by rintro _ _ ⟨_, _, _, _, rfl, rfl⟩; exact Nat.le_of_ble_eq_true (by kernel_rfl))) (by kernel_rfl) (by kernel_rfl) (by kernel_rfl) ?_)
    rintro _ _ ⟨_, _, ⟨v_2, p1_3, h1_4, f5, rfl, rfl⟩, rfl, rfl⟩
    refine R.go 2 (R.cond (v_2 = 0) (by kernel_rfl) (fun c6 => ?_) (fun c6 => ?_))
    · refine R.go 2 (R.call true (l02False_c).frz (by kernel_rfl) rfl (by kernel_rfl) ?_)
      exact R.go 2 (R.retX (res := LN [(1, 0)]) (hp' := [.box 120 [LB c, AI (p1_3 : Int), .int .u64 h1_4], .dead]) (by kernel_rfl) (by kernel_rfl) (by kernel_rfl) (by kernel_rfl) ⟨[0], by kernel_rfl, by decide, [(1, 0)], p1_3, h1_4, by first | (simp; done) | (simp only [List.length_cons, List.length_append, List.length_nil]; omega), by kernel_rfl, by kernel_rfl⟩)
    · refine R.go 5 (R.callX (CallX.inF 1 usC frC (nextX_c c p1_3 h1_4 vars hc) (Nat.le_of_ble_eq_true (by kernel_rfl)) (by kernel_rfl) (by kernel_rfl) (by rintro _ _ ⟨_, _, _, _, rfl, rfl⟩; exact Nat.le_of_ble_eq_true (by kernel_rfl))) (by kernel_rfl) (by kernel_rfl) (by kernel_rfl) ?_)
      rintro _ _ ⟨_, _, ⟨v_7, p1_8, h1_9, f10, rfl, rfl⟩, rfl, rfl⟩
      refine R.call true (l02Var_c v_7).frz (by kernel_rfl) rfl (by kernel_rfl) ?_
      exact R.go 2 (R.retX (res := LN [(0, v_7)]) (hp' := [.box 120 [LB c, AI (p1_8 : Int), .int .u64 h1_9], .dead]) (by kernel_rfl) (by kernel_rfl) (by kernel_rfl) (by kernel_rfl) ⟨[0], by kernel_rfl, by decide, [(0, v_7)], p1_8, h1_9, by first | (simp; done) | (simp only [List.length_cons, List.length_append, List.length_nil]; omega), by kernel_rfl, by kernel_rfl⟩)
  · refine R.want (decide (size ≤ 2)) false (by kernel_rfl) (dF c1) ?_
    refine R.go 1 (R.want (decide (size ≤ 2)) false (by kernel_rfl) (dF c1) ?_)
    refine R.callX (CallX.inF 1 usC frC (nextX_c c p h 9 hc) (Nat.le_of_ble_eq_true (by kernel_rfl)) (by kernel_rfl) (by kernel_rfl) (by rintro _ _ ⟨_, _, _, _, rfl, rfl⟩; exact Nat.le_of_ble_eq_true (by kernel_rfl))) (by kernel_rfl) (by kernel_rfl) (by kernel_rfl) ?_
    rintro _ _ ⟨_, _, ⟨v_11, p1_12, h1_13, f14, rfl, rfl⟩, rfl, rfl⟩
    refine R.want (decide (size ≤ 2)) false (by kernel_rfl) (dF c1) ?_
    refine R.go 1 (R.pick (decide (size ≤ 2)) false (by kernel_rfl) (dF c1) (by kernel_rfl) ?_)
    refine R.go 1 (R.cond (v_11 = 0) (by kernel_rfl) (fun c15 => ?_) (fun c15 => ?_))
    · refine R.go 4 (R.callX (CallX.inF 1 usC frC (nextX_c c p1_12 h1_13 8 hc) (Nat.le_of_ble_eq_true (by kernel_rfl)) (by kernel_rfl) (by kernel_rfl) (by rintro _ _ ⟨_, _, _, _, rfl, rfl⟩; exact Nat.le_of_ble_eq_true (by kernel_rfl))) (by kernel_rfl) (by kernel_rfl) (by kernel_rfl) ?_)
      rintro _ _ ⟨_, _, ⟨v_16, p1_17, h1_18, f19, rfl, rfl⟩, rfl, rfl⟩
      refine R.go 2 (R.cond (v_16 = 0) (by kernel_rfl) (fun c20 => ?_) (fun c20 => ?_))
      · refine R.go 2 (R.call true (l02False_c).frz (by kernel_rfl) rfl (by kernel_rfl) ?_)
        exact R.go 2 (R.retX (res := LN [(1, 0)]) (hp' := [.box 120 [LB c, AI (p1_17 : Int), .int .u64 h1_18], .dead]) (by kernel_rfl) (by kernel_rfl) (by kernel_rfl) (by kernel_rfl) ⟨[0], by kernel_rfl, by decide, [(1, 0)], p1_17, h1_18, by first | (simp; done) | (simp only [List.length_cons, List.length_append, List.length_nil]; omega), by kernel_rfl, by kernel_rfl⟩)
      · refine R.go 5 (R.callX (CallX.inF 1 usC frC (nextX_c c p1_17 h1_18 vars hc) (Nat.le_of_ble_eq_true (by kernel_rfl)) (by kernel_rfl) (by kernel_rfl) (by rintro _ _ ⟨_, _, _, _, rfl, rfl⟩; exact Nat.le_of_ble_eq_true (by kernel_rfl))) (by kernel_rfl) (by kernel_rfl) (by kernel_rfl) ?_)
        rintro _ _ ⟨_, _, ⟨v_21, p1_22, h1_23, f24, rfl, rfl⟩, rfl, rfl⟩
        refine R.call true (l02Var_c v_21).frz (by kernel_rfl) rfl (by kernel_rfl) ?_
        exact R.go 2 (R.retX (res := LN [(0, v_21)]) (hp' := [.box 120 [LB c, AI (p1_22 : Int), .int .u64 h1_23], .dead]) (by kernel_rfl) (by kernel_rfl) (by kernel_rfl) (by kernel_rfl) ⟨[0], by kernel_rfl, by decide, [(0, v_21)], p1_22, h1_23, by first | (simp; done) | (simp only [List.length_cons, List.length_append, List.length_nil]; omega), by kernel_rfl, by kernel_rfl⟩)
    · refine R.go 6 ?_
      refine (Bool.eq_false_or_eq_true (modal)).elim (fun c25 => ?_) (fun c25 => ?_)
      · refine R.want (modal) true (by kernel_rfl) c25 ?_
        refine R.go 1 (R.want (modal) true (by kernel_rfl) c25 ?_)
        refine R.callX (CallX.inF 1 usC frC (nextX_c c p1_12 h1_13 3 hc) (Nat.le_of_ble_eq_true (by kernel_rfl)) (by kernel_rfl) (by kernel_rfl) (by rintro _ _ ⟨_, _, _, _, rfl, rfl⟩; exact Nat.le_of_ble_eq_true (by kernel_rfl))) (by kernel_rfl) (by kernel_rfl) (by kernel_rfl) ?_
        rintro _ _ ⟨_, _, ⟨v_26, p1_27, h1_28, f29, rfl, rfl⟩, rfl, rfl⟩
        refine R.want (modal) true (by kernel_rfl) c25 ?_
        refine R.go 1 (R.pick (modal) true (by kernel_rfl) c25 (by kernel_rfl) ?_)
        refine R.go 1 (R.cond (v_26 = 0) (by kernel_rfl) (fun c30 => ?_) (fun c30 => ?_))
        · refine R.go 3 (R.callX (CallX.inF 1 usC frC (nextX_c c p1_27 h1_28 2 hc) (Nat.le_of_ble_eq_true (by kernel_rfl)) (by kernel_rfl) (by kernel_rfl) (by rintro _ _ ⟨_, _, _, _, rfl, rfl⟩; exact Nat.le_of_ble_eq_true (by kernel_rfl))) (by kernel_rfl) (by kernel_rfl) (by kernel_rfl) ?_)
          rintro _ _ ⟨_, _, ⟨v_31, p1_32, h1_33, f34, rfl, rfl⟩, rfl, rfl⟩
          refine R.ar (5 + v_31) (by kernel_rfl) (by omega) (by omega) (by kernel_rfl) ?_
          refine R.go 2 (R.ar (size - 1) (by kernel_rfl) (by omega) (by omega) (by kernel_rfl) ?_)
          refine R.go 2 (R.callX (CallX.inF 1 usC frC (ih (((size - 1) : Int).toNat) (by omega) c p1_32 h1_33 (size - 1) vars modal (by rfl) hc (by omega)) (Nat.le_of_ble_eq_true (by kernel_rfl)) (by kernel_rfl) (by kernel_rfl) (by rintro _ _ ⟨_, _, _, _, rfl, rfl⟩; exact Nat.le_of_ble_eq_true (by kernel_rfl))) (by kernel_rfl) (by kernel_rfl) (by kernel_rfl) ?_)
          rintro _ _ ⟨_, _, ⟨r_35, p1_36, h1_37, f38, rfl, rfl⟩, rfl, rfl⟩
          refine R.call true (l02Pre_c (5 + v_31) r_35 (by first | omega | (simp <;> omega))).frz (by kernel_rfl) rfl (by kernel_rfl) ?_
          exact R.go 2 (R.retX (res := LN (((5 + v_31), 0) :: r_35)) (hp' := [.box 120 [LB c, AI (p1_36 : Int), .int .u64 h1_37], .dead]) (by kernel_rfl) (by kernel_rfl) (by kernel_rfl) (by kernel_rfl) ⟨[0], by kernel_rfl, by decide, ((5 + v_31), 0) :: r_35, p1_36, h1_37, by first | (simp; done) | (simp only [List.length_cons, List.length_append, List.length_nil]; omega), by kernel_rfl, by kernel_rfl⟩)
        · refine R.go 5 (R.callX (CallX.inF 1 usC frC (nextX_c c p1_27 h1_28 6 hc) (Nat.le_of_ble_eq_true (by kernel_rfl)) (by kernel_rfl) (by kernel_rfl) (by rintro _ _ ⟨_, _, _, _, rfl, rfl⟩; exact Nat.le_of_ble_eq_true (by kernel_rfl))) (by kernel_rfl) (by kernel_rfl) (by kernel_rfl) ?_)
          rintro _ _ ⟨_, _, ⟨v_39, p1_40, h1_41, f42, rfl, rfl⟩, rfl, rfl⟩
          refine R.go 2 (R.cond (v_39 = 0) (by kernel_rfl) (fun c43 => ?_) (fun c43 => ?_))
          · refine R.go 4 (R.ar (size - 2) (by kernel_rfl) (by omega) (by omega) (by kernel_rfl) ?_)
            refine R.go 2 (R.callX (CallX.inF 1 usC frC (ih (((size - 2) : Int).toNat) (by omega) c p1_40 h1_41 (size - 2) vars modal (by rfl) hc (by omega)) (Nat.le_of_ble_eq_true (by kernel_rfl)) (by kernel_rfl) (by kernel_rfl) (by rintro _ _ ⟨_, _, _, _, rfl, rfl⟩; exact Nat.le_of_ble_eq_true (by kernel_rfl))) (by kernel_rfl) (by kernel_rfl) (by kernel_rfl) ?_)
            rintro _ _ ⟨_, _, ⟨r_44, p1_45, h1_46, f47, rfl, rfl⟩, rfl, rfl⟩
            refine R.call true (l02Not_c r_44 (by first | omega | (simp <;> omega))).frz (by kernel_rfl) rfl (by kernel_rfl) ?_
            exact R.go 2 (R.retX (res := LN ((4, 0) :: (r_44 ++ [(1, 0)]))) (hp' := [.box 120 [LB c, AI (p1_45 : Int), .int .u64 h1_46], .dead]) (by kernel_rfl) (by kernel_rfl) (by kernel_rfl) (by kernel_rfl) ⟨[0], by kernel_rfl, by decide, (4, 0) :: (r_44 ++ [(1, 0)]), p1_45, h1_46, by first | (simp; done) | (simp only [List.length_cons, List.length_append, List.length_nil]; omega), by kernel_rfl, by kernel_rfl⟩)
          · refine R.go 5 (R.ar (size - 2) (by kernel_rfl) (by omega) (by omega) (by kernel_rfl) ?_)
            refine R.callX (CallX.inF 1 usC frC (nextX_c c p1_40 h1_41 (size - 2) hc) (Nat.le_of_ble_eq_true (by kernel_rfl)) (by kernel_rfl) (by kernel_rfl) (by rintro _ _ ⟨_, _, _, _, rfl, rfl⟩; exact Nat.le_of_ble_eq_true (by kernel_rfl))) (by kernel_rfl) (by kernel_rfl) (by kernel_rfl) ?_
            rintro _ _ ⟨_, _, ⟨v_48, p1_49, h1_50, f51, rfl, rfl⟩, rfl, rfl⟩
            refine R.ar (1 + v_48) (by kernel_rfl) (by omega) (by omega) (by kernel_rfl) ?_
            refine R.go 8 (R.callX (CallX.inF 1 usC frC (ih (((1 + v_48) : Int).toNat) (by omega) c p1_49 h1_50 (1 + v_48) vars modal (by rfl) hc (by omega)) (Nat.le_of_ble_eq_true (by kernel_rfl)) (by kernel_rfl) (by kernel_rfl) (by rintro _ _ ⟨_, _, _, _, rfl, rfl⟩; exact Nat.le_of_ble_eq_true (by kernel_rfl))) (by kernel_rfl) (by kernel_rfl) (by kernel_rfl) ?_)
            rintro _ _ ⟨_, _, ⟨r_52, p1_53, h1_54, f55, rfl, rfl⟩, rfl, rfl⟩
            refine R.go 5 (R.callX (CallX.inF 1 usC frC (nextX_c c p1_53 h1_54 3 hc) (Nat.le_of_ble_eq_true (by kernel_rfl)) (by kernel_rfl) (by kernel_rfl) (by rintro _ _ ⟨_, _, _, _, rfl, rfl⟩; exact Nat.le_of_ble_eq_true (by kernel_rfl))) (by kernel_rfl) (by kernel_rfl) (by kernel_rfl) ?_)
            rintro _ _ ⟨_, _, ⟨v_56, p1_57, h1_58, f59, rfl, rfl⟩, rfl, rfl⟩
            refine R.ar (2 + v_56) (by kernel_rfl) (by omega) (by omega) (by kernel_rfl) ?_
            refine R.go 3 (R.ar (size - 1) (by kernel_rfl) (by omega) (by omega) (by kernel_rfl) ?_)
            refine R.go 1 (R.ar ((size - 1) - (1 + v_48)) (by kernel_rfl) (by omega) (by omega) (by kernel_rfl) ?_)
            refine R.go 2 (R.callX (CallX.inF 1 usC frC (ih ((((size - 1) - (1 + v_48)) : Int).toNat) (by omega) c p1_57 h1_58 ((size - 1) - (1 + v_48)) vars modal (by rfl) hc (by omega)) (Nat.le_of_ble_eq_true (by kernel_rfl)) (by kernel_rfl) (by kernel_rfl) (by rintro _ _ ⟨_, _, _, _, rfl, rfl⟩; exact Nat.le_of_ble_eq_true (by kernel_rfl))) (by kernel_rfl) (by kernel_rfl) (by kernel_rfl) ?_)
            rintro _ _ ⟨_, _, ⟨r_60, p1_61, h1_62, f63, rfl, rfl⟩, rfl, rfl⟩
            refine R.call true (l02Pair_c (2 + v_56) r_52 r_60 (by first | omega | (simp <;> omega)) (by first | omega | (simp <;> omega))).frz (by kernel_rfl) rfl (by kernel_rfl) ?_
            exact R.go 2 (R.retX (res := LN (((2 + v_56), 0) :: (r_52 ++ r_60))) (hp' := [.box 120 [LB c, AI (p1_61 : Int), .int .u64 h1_62], .dead]) (by kernel_rfl) (by kernel_rfl) (by kernel_rfl) (by kernel_rfl) ⟨[0], by kernel_rfl, by decide, ((2 + v_56), 0) :: (r_52 ++ r_60), p1_61, h1_62, by first | (simp; done) | (simp only [List.length_cons, List.length_append, List.length_nil]; omega), by kernel_rfl, by kernel_rfl⟩)
      · refine R.skp (modal) true (by kernel_rfl) c25 (by kernel_rfl) ?_
        refine R.skp (modal) true (by kernel_rfl) c25 (by kernel_rfl) ?_
        refine R.skp (modal) true (by kernel_rfl) c25 (by kernel_rfl) ?_
        refine R.pick (modal) false (by kernel_rfl) c25 (by kernel_rfl) ?_
        refine R.go 7 (R.callX (CallX.inF 1 usC frC (nextX_c c p1_12 h1_13 6 hc) (Nat.le_of_ble_eq_true (by kernel_rfl)) (by kernel_rfl) (by kernel_rfl) (by rintro _ _ ⟨_, _, _, _, rfl, rfl⟩; exact Nat.le_of_ble_eq_true (by kernel_rfl))) (by kernel_rfl) (by kernel_rfl) (by kernel_rfl) ?_)
        rintro _ _ ⟨_, _, ⟨v_64, p1_65, h1_66, f67, rfl, rfl⟩, rfl, rfl⟩
        refine R.go 2 (R.cond (v_64 = 0) (by kernel_rfl) (fun c68 => ?_) (fun c68 => ?_))
        · refine R.go 4 (R.ar (size - 2) (by kernel_rfl) (by omega) (by omega) (by kernel_rfl) ?_)
          refine R.go 2 (R.callX (CallX.inF 1 usC frC (ih (((size - 2) : Int).toNat) (by omega) c p1_65 h1_66 (size - 2) vars modal (by rfl) hc (by omega)) (Nat.le_of_ble_eq_true (by kernel_rfl)) (by kernel_rfl) (by kernel_rfl) (by rintro _ _ ⟨_, _, _, _, rfl, rfl⟩; exact Nat.le_of_ble_eq_true (by kernel_rfl))) (by kernel_rfl) (by kernel_rfl) (by kernel_rfl) ?_)
          rintro _ _ ⟨_, _, ⟨r_69, p1_70, h1_71, f72, rfl, rfl⟩, rfl, rfl⟩
          refine R.call true (l02Not_c r_69 (by first | omega | (simp <;> omega))).frz (by kernel_rfl) rfl (by kernel_rfl) ?_
          exact R.go 2 (R.retX (res := LN ((4, 0) :: (r_69 ++ [(1, 0)]))) (hp' := [.box 120 [LB c, AI (p1_70 : Int), .int .u64 h1_71], .dead]) (by kernel_rfl) (by kernel_rfl) (by kernel_rfl) (by kernel_rfl) ⟨[0], by kernel_rfl, by decide, (4, 0) :: (r_69 ++ [(1, 0)]), p1_70, h1_71, by first | (simp; done) | (simp only [List.length_cons, List.length_append, List.length_nil]; omega), by kernel_rfl, by kernel_rfl⟩)
        · refine R.go 5 (R.ar (size - 2) (by kernel_rfl) (by omega) (by omega) (by kernel_rfl) ?_)
          refine R.callX (CallX.inF 1 usC frC (nextX_c c p1_65 h1_66 (size - 2) hc) (Nat.le_of_ble_eq_true (by kernel_rfl)) (by kernel_rfl) (by kernel_rfl) (by rintro _ _ ⟨_, _, _, _, rfl, rfl⟩; exact Nat.le_of_ble_eq_true (by kernel_rfl))) (by kernel_rfl) (by kernel_rfl) (by kernel_rfl) ?_
          rintro _ _ ⟨_, _, ⟨v_73, p1_74, h1_75, f76, rfl, rfl⟩, rfl, rfl⟩
          refine R.ar (1 + v_73) (by kernel_rfl) (by omega) (by omega) (by kernel_rfl) ?_
          refine R.go 8 (R.callX (CallX.inF 1 usC frC (ih (((1 + v_73) : Int).toNat) (by omega) c p1_74 h1_75 (1 + v_73) vars modal (by rfl) hc (by omega)) (Nat.le_of_ble_eq_true (by kernel_rfl)) (by kernel_rfl) (by kernel_rfl) (by rintro _ _ ⟨_, _, _, _, rfl, rfl⟩; exact Nat.le_of_ble_eq_true (by kernel_rfl))) (by kernel_rfl) (by kernel_rfl) (by kernel_rfl) ?_)
          rintro _ _ ⟨_, _, ⟨r_77, p1_78, h1_79, f80, rfl, rfl⟩, rfl, rfl⟩
          refine R.go 5 (R.callX (CallX.inF 1 usC frC (nextX_c c p1_78 h1_79 3 hc) (Nat.le_of_ble_eq_true (by kernel_rfl)) (by kernel_rfl) (by kernel_rfl) (by rintro _ _ ⟨_, _, _, _, rfl, rfl⟩; exact Nat.le_of_ble_eq_true (by kernel_rfl))) (by kernel_rfl) (by kernel_rfl) (by kernel_rfl) ?_)
          rintro _ _ ⟨_, _, ⟨v_81, p1_82, h1_83, f84, rfl, rfl⟩, rfl, rfl⟩
          refine R.ar (2 + v_81) (by kernel_rfl) (by omega) (by omega) (by kernel_rfl) ?_
          refine R.go 3 (R.ar (size - 1) (by kernel_rfl) (by omega) (by omega) (by kernel_rfl) ?_)
          refine R.go 1 (R.ar ((size - 1) - (1 + v_73)) (by kernel_rfl) (by omega) (by omega) (by kernel_rfl) ?_)
          refine R.go 2 (R.callX (CallX.inF 1 usC frC (ih ((((size - 1) - (1 + v_73)) : Int).toNat) (by omega) c p1_82 h1_83 ((size - 1) - (1 + v_73)) vars modal (by rfl) hc (by omega)) (Nat.le_of_ble_eq_true (by kernel_rfl)) (by kernel_rfl) (by kernel_rfl) (by rintro _ _ ⟨_, _, _, _, rfl, rfl⟩; exact Nat.le_of_ble_eq_true (by kernel_rfl))) (by kernel_rfl) (by kernel_rfl) (by kernel_rfl) ?_)
          rintro _ _ ⟨_, _, ⟨r_85, p1_86, h1_87, f88, rfl, rfl⟩, rfl, rfl⟩
          refine R.call true (l02Pair_c (2 + v_81) r_77 r_85 (by first | omega | (simp <;> omega)) (by first | omega | (simp <;> omega))).frz (by kernel_rfl) rfl (by kernel_rfl) ?_
          exact R.go 2 (R.retX (res := LN (((2 + v_81), 0) :: (r_77 ++ r_85))) (hp' := [.box 120 [LB c, AI (p1_86 : Int), .int .u64 h1_87], .dead]) (by kernel_rfl) (by kernel_rfl) (by kernel_rfl) (by kernel_rfl) ⟨[0], by kernel_rfl, by decide, ((2 + v_81), 0) :: (r_77 ++ r_85), p1_86, h1_87, by first | (simp; done) | (simp only [List.length_cons, List.length_append, List.length_nil]; omega), by kernel_rfl, by kernel_rfl⟩)

end Go.Proofs.YtgebepfdphmjcaaGreat
