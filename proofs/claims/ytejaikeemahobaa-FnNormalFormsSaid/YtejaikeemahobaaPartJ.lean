/- Texts of the proof: E01, E02, E05. -/
import Derived.Test.YtejaikeemahobaaPartI

/-! Draws, existential: numbers. -/
namespace Go.Proofs.Ytejaikeemahobaa
open Go.RowKit Go.Abs

theorem u64and (a : Int) : 0 ≤ bits .and .u64 a 16777215 ∧ bits .and .u64 a 16777215 ≤ 16777215 := by
  show 0 ≤ IntKind.u64.wrap _ ∧ IntKind.u64.wrap _ ≤ 16777215
  rw [IntKind.wrap_u64]
  have h : (BitVec.ofInt 64 a &&& BitVec.ofInt 64 16777215).toNat ≤ 16777215 := by
    rw [BitVec.toNat_and]
    exact Nat.le_trans Nat.and_le_right (by decide)
  have e : ∀ k : Nat, k ≤ 16777215 → 0 ≤ ((k : Int) % 18446744073709551616) ∧ ((k : Int) % 18446744073709551616) ≤ 16777215 := fun k hk => by omega
  exact e _ h
def BY (c : List Int) : Prop := c.length ≤ 4096 ∧ ∀ j : Nat, j < c.length → 0 ≤ c.getD j 0 ∧ c.getD j 0 ≤ 255
theorem mod_rng {x n : Int} (h : ¬ n < 1) : (n < 1 → x % n = 0) ∧ (1 ≤ n → 0 ≤ x % n ∧ x % n < n) := ⟨fun h1 => absurd h1 h, fun h1 => ⟨Int.emod_nonneg _ (by omega), Int.emod_lt_of_pos _ (by omega)⟩⟩

theorem nextX_c_r2 (c : List Int) (p : Nat) (h : Int) (n : Int) (eo1 : Nat) (so1 : Nat) (no1 : Nat) (co1 : List AV) (eo2 : Nat) (so2 : Nat) (no2 : Nat) (co2 : List AV) (hc : BY c) : CallX Try.prog 44 [.ptr 0 0, AI n] [.box 106 [LB c, AI (p : Int), .int .u64 h], .list eo1 so1 no1 co1, .list eo2 so2 no2 co2] (fun (resX : AV) (objX : List AObj) => ∃ v : Int, ∃ p1 : Nat, ∃ h1 : Int, ((n < 1 → v = 0) ∧ (1 ≤ n → 0 ≤ v ∧ v < n)) ∧ resX = AI v ∧ objX = [.box 106 [LB c, AI (p1 : Int), .int .u64 h1], .list eo1 so1 no1 co1, .list eo2 so2 no2 co2]) := by
  have hcl : c.length ≤ 4096 := hc.1
  have hcb := hc.2
  have hxr := fun h => u64and (shr64 (IntKind.u64.wrap (IntKind.u64.wrap (h * 6364136223846793005) + 1442695040888963407)) 33)
  have hxh := hxr h
  refine CallX.dropE (CallX.ofF Try.func44 rfl (by kernel_rfl) ?_)
  intro usC frC hfC
  refine R.go 10 (R.cond (n < 1) (by kernel_rfl) (fun c1 => ?_) (fun c1 => ?_))
  · exact R.go 4 (R.retX (res := AI 0) (hp' := [.box 106 [LB c, AI (p : Int), .int .u64 h], .list eo1 so1 no1 co1, .list eo2 so2 no2 co2, .dead]) (by kernel_rfl) (by kernel_rfl) (by kernel_rfl) (by kernel_rfl) ⟨[0, 1, 2], by kernel_rfl, by decide, 0, p, h, by first | exact mod_rng (by assumption) | exact ⟨fun _ => rfl, fun h1 => by omega⟩, by kernel_rfl, by kernel_rfl⟩)
  · refine R.go 22 (R.cv .i64 (bits .and .u64 (shr64 (IntKind.u64.wrap ((IntKind.u64.wrap (h * 6364136223846793005)) + 1442695040888963407)) 33) 16777215) (by kernel_rfl) (wrap_id (by omega) (by omega)) (by kernel_rfl) ?_)
    refine R.go 16 (R.cond ((p : Int) < (c.length : Int)) (by kernel_rfl) (fun c2 => ?_) (fun c2 => ?_))
    · have hbp := hcb p (by omega)
      refine R.go 11 (R.idx eB c 0 p (p : Int) (by kernel_rfl) rfl eB_len (by omega) (by kernel_rfl) ?_)
      refine R.go 1 (R.cv .i64 (c.getD p 0) (by kernel_rfl) (wrap_id (by omega) (by omega)) (by kernel_rfl) ?_)
      refine R.ar ((bits .and .u64 (shr64 (IntKind.u64.wrap ((IntKind.u64.wrap (h * 6364136223846793005)) + 1442695040888963407)) 33) 16777215) + (c.getD p 0)) (by kernel_rfl) (by omega) (by omega) (by kernel_rfl) ?_
      refine R.go 8 (R.ar ((p : Int) + 1) (by kernel_rfl) (by omega) (by omega) (by kernel_rfl) ?_)
      refine R.go 8 (R.rem ((bits .and .u64 (shr64 (IntKind.u64.wrap ((IntKind.u64.wrap (h * 6364136223846793005)) + 1442695040888963407)) 33) 16777215) + (c.getD p 0)) n (by kernel_rfl) (by omega) (by omega) (by kernel_rfl) ?_)
      exact R.go 2 (R.retX (res := AI (((bits .and .u64 (shr64 (IntKind.u64.wrap ((IntKind.u64.wrap (h * 6364136223846793005)) + 1442695040888963407)) 33) 16777215) + (c.getD p 0)) % n)) (hp' := [.box 106 [LB c, AI ((p : Int) + 1), .int .u64 (IntKind.u64.wrap ((IntKind.u64.wrap (h * 6364136223846793005)) + 1442695040888963407))], .list eo1 so1 no1 co1, .list eo2 so2 no2 co2, .dead]) (by kernel_rfl) (by kernel_rfl) (by kernel_rfl) (by kernel_rfl) ⟨[0, 1, 2], by kernel_rfl, by decide, ((bits .and .u64 (shr64 (IntKind.u64.wrap ((IntKind.u64.wrap (h * 6364136223846793005)) + 1442695040888963407)) 33) 16777215) + (c.getD p 0)) % n, p + 1, IntKind.u64.wrap ((IntKind.u64.wrap (h * 6364136223846793005)) + 1442695040888963407), by first | exact mod_rng (by assumption) | exact ⟨fun _ => rfl, fun h1 => by omega⟩, by kernel_rfl, by kernel_rfl⟩)
    · refine R.go 5 (R.rem (bits .and .u64 (shr64 (IntKind.u64.wrap ((IntKind.u64.wrap (h * 6364136223846793005)) + 1442695040888963407)) 33) 16777215) n (by kernel_rfl) (by omega) (by omega) (by kernel_rfl) ?_)
      exact R.go 2 (R.retX (res := AI ((bits .and .u64 (shr64 (IntKind.u64.wrap ((IntKind.u64.wrap (h * 6364136223846793005)) + 1442695040888963407)) 33) 16777215) % n)) (hp' := [.box 106 [LB c, AI (p : Int), .int .u64 (IntKind.u64.wrap ((IntKind.u64.wrap (h * 6364136223846793005)) + 1442695040888963407))], .list eo1 so1 no1 co1, .list eo2 so2 no2 co2, .dead]) (by kernel_rfl) (by kernel_rfl) (by kernel_rfl) (by kernel_rfl) ⟨[0, 1, 2], by kernel_rfl, by decide, (bits .and .u64 (shr64 (IntKind.u64.wrap ((IntKind.u64.wrap (h * 6364136223846793005)) + 1442695040888963407)) 33) 16777215) % n, p, IntKind.u64.wrap ((IntKind.u64.wrap (h * 6364136223846793005)) + 1442695040888963407), by first | exact mod_rng (by assumption) | exact ⟨fun _ => rfl, fun h1 => by omega⟩, by kernel_rfl, by kernel_rfl⟩)

theorem nextX_c_r3 (c : List Int) (p : Nat) (h : Int) (n : Int) (eo1 : Nat) (so1 : Nat) (no1 : Nat) (co1 : List AV) (eo2 : Nat) (so2 : Nat) (no2 : Nat) (co2 : List AV) (eo3 : Nat) (so3 : Nat) (no3 : Nat) (co3 : List AV) (hc : BY c) : CallX Try.prog 44 [.ptr 0 0, AI n] [.box 106 [LB c, AI (p : Int), .int .u64 h], .list eo1 so1 no1 co1, .list eo2 so2 no2 co2, .list eo3 so3 no3 co3] (fun (resX : AV) (objX : List AObj) => ∃ v : Int, ∃ p1 : Nat, ∃ h1 : Int, ((n < 1 → v = 0) ∧ (1 ≤ n → 0 ≤ v ∧ v < n)) ∧ resX = AI v ∧ objX = [.box 106 [LB c, AI (p1 : Int), .int .u64 h1], .list eo1 so1 no1 co1, .list eo2 so2 no2 co2, .list eo3 so3 no3 co3]) := by
  have hcl : c.length ≤ 4096 := hc.1
  have hcb := hc.2
  have hxr := fun h => u64and (shr64 (IntKind.u64.wrap (IntKind.u64.wrap (h * 6364136223846793005) + 1442695040888963407)) 33)
  have hxh := hxr h
  refine CallX.dropE (CallX.ofF Try.func44 rfl (by kernel_rfl) ?_)
  intro usC frC hfC
  refine R.go 10 (R.cond (n < 1) (by kernel_rfl) (fun c1 => ?_) (fun c1 => ?_))
  · exact R.go 4 (R.retX (res := AI 0) (hp' := [.box 106 [LB c, AI (p : Int), .int .u64 h], .list eo1 so1 no1 co1, .list eo2 so2 no2 co2, .list eo3 so3 no3 co3, .dead]) (by kernel_rfl) (by kernel_rfl) (by kernel_rfl) (by kernel_rfl) ⟨[0, 1, 2, 3], by kernel_rfl, by decide, 0, p, h, by first | exact mod_rng (by assumption) | exact ⟨fun _ => rfl, fun h1 => by omega⟩, by kernel_rfl, by kernel_rfl⟩)
  · refine R.go 22 (R.cv .i64 (bits .and .u64 (shr64 (IntKind.u64.wrap ((IntKind.u64.wrap (h * 6364136223846793005)) + 1442695040888963407)) 33) 16777215) (by kernel_rfl) (wrap_id (by omega) (by omega)) (by kernel_rfl) ?_)
    refine R.go 16 (R.cond ((p : Int) < (c.length : Int)) (by kernel_rfl) (fun c2 => ?_) (fun c2 => ?_))
    · have hbp := hcb p (by omega)
      refine R.go 11 (R.idx eB c 0 p (p : Int) (by kernel_rfl) rfl eB_len (by omega) (by kernel_rfl) ?_)
      refine R.go 1 (R.cv .i64 (c.getD p 0) (by kernel_rfl) (wrap_id (by omega) (by omega)) (by kernel_rfl) ?_)
      refine R.ar ((bits .and .u64 (shr64 (IntKind.u64.wrap ((IntKind.u64.wrap (h * 6364136223846793005)) + 1442695040888963407)) 33) 16777215) + (c.getD p 0)) (by kernel_rfl) (by omega) (by omega) (by kernel_rfl) ?_
      refine R.go 8 (R.ar ((p : Int) + 1) (by kernel_rfl) (by omega) (by omega) (by kernel_rfl) ?_)
      refine R.go 8 (R.rem ((bits .and .u64 (shr64 (IntKind.u64.wrap ((IntKind.u64.wrap (h * 6364136223846793005)) + 1442695040888963407)) 33) 16777215) + (c.getD p 0)) n (by kernel_rfl) (by omega) (by omega) (by kernel_rfl) ?_)
      exact R.go 2 (R.retX (res := AI (((bits .and .u64 (shr64 (IntKind.u64.wrap ((IntKind.u64.wrap (h * 6364136223846793005)) + 1442695040888963407)) 33) 16777215) + (c.getD p 0)) % n)) (hp' := [.box 106 [LB c, AI ((p : Int) + 1), .int .u64 (IntKind.u64.wrap ((IntKind.u64.wrap (h * 6364136223846793005)) + 1442695040888963407))], .list eo1 so1 no1 co1, .list eo2 so2 no2 co2, .list eo3 so3 no3 co3, .dead]) (by kernel_rfl) (by kernel_rfl) (by kernel_rfl) (by kernel_rfl) ⟨[0, 1, 2, 3], by kernel_rfl, by decide, ((bits .and .u64 (shr64 (IntKind.u64.wrap ((IntKind.u64.wrap (h * 6364136223846793005)) + 1442695040888963407)) 33) 16777215) + (c.getD p 0)) % n, p + 1, IntKind.u64.wrap ((IntKind.u64.wrap (h * 6364136223846793005)) + 1442695040888963407), by first | exact mod_rng (by assumption) | exact ⟨fun _ => rfl, fun h1 => by omega⟩, by kernel_rfl, by kernel_rfl⟩)
    · refine R.go 5 (R.rem (bits .and .u64 (shr64 (IntKind.u64.wrap ((IntKind.u64.wrap (h * 6364136223846793005)) + 1442695040888963407)) 33) 16777215) n (by kernel_rfl) (by omega) (by omega) (by kernel_rfl) ?_)
      exact R.go 2 (R.retX (res := AI ((bits .and .u64 (shr64 (IntKind.u64.wrap ((IntKind.u64.wrap (h * 6364136223846793005)) + 1442695040888963407)) 33) 16777215) % n)) (hp' := [.box 106 [LB c, AI (p : Int), .int .u64 (IntKind.u64.wrap ((IntKind.u64.wrap (h * 6364136223846793005)) + 1442695040888963407))], .list eo1 so1 no1 co1, .list eo2 so2 no2 co2, .list eo3 so3 no3 co3, .dead]) (by kernel_rfl) (by kernel_rfl) (by kernel_rfl) (by kernel_rfl) ⟨[0, 1, 2, 3], by kernel_rfl, by decide, (bits .and .u64 (shr64 (IntKind.u64.wrap ((IntKind.u64.wrap (h * 6364136223846793005)) + 1442695040888963407)) 33) 16777215) % n, p, IntKind.u64.wrap ((IntKind.u64.wrap (h * 6364136223846793005)) + 1442695040888963407), by first | exact mod_rng (by assumption) | exact ⟨fun _ => rfl, fun h1 => by omega⟩, by kernel_rfl, by kernel_rfl⟩)

theorem nextX_c_r4 (c : List Int) (p : Nat) (h : Int) (n : Int) (eo1 : Nat) (so1 : Nat) (no1 : Nat) (co1 : List AV) (eo2 : Nat) (so2 : Nat) (no2 : Nat) (co2 : List AV) (eo3 : Nat) (so3 : Nat) (no3 : Nat) (co3 : List AV) (eo4 : Nat) (so4 : Nat) (no4 : Nat) (co4 : List AV) (hc : BY c) : CallX Try.prog 44 [.ptr 0 0, AI n] [.box 106 [LB c, AI (p : Int), .int .u64 h], .list eo1 so1 no1 co1, .list eo2 so2 no2 co2, .list eo3 so3 no3 co3, .list eo4 so4 no4 co4] (fun (resX : AV) (objX : List AObj) => ∃ v : Int, ∃ p1 : Nat, ∃ h1 : Int, ((n < 1 → v = 0) ∧ (1 ≤ n → 0 ≤ v ∧ v < n)) ∧ resX = AI v ∧ objX = [.box 106 [LB c, AI (p1 : Int), .int .u64 h1], .list eo1 so1 no1 co1, .list eo2 so2 no2 co2, .list eo3 so3 no3 co3, .list eo4 so4 no4 co4]) := by
  have hcl : c.length ≤ 4096 := hc.1
  have hcb := hc.2
  have hxr := fun h => u64and (shr64 (IntKind.u64.wrap (IntKind.u64.wrap (h * 6364136223846793005) + 1442695040888963407)) 33)
  have hxh := hxr h
  refine CallX.dropE (CallX.ofF Try.func44 rfl (by kernel_rfl) ?_)
  intro usC frC hfC
  refine R.go 10 (R.cond (n < 1) (by kernel_rfl) (fun c1 => ?_) (fun c1 => ?_))
  · exact R.go 4 (R.retX (res := AI 0) (hp' := [.box 106 [LB c, AI (p : Int), .int .u64 h], .list eo1 so1 no1 co1, .list eo2 so2 no2 co2, .list eo3 so3 no3 co3, .list eo4 so4 no4 co4, .dead]) (by kernel_rfl) (by kernel_rfl) (by kernel_rfl) (by kernel_rfl) ⟨[0, 1, 2, 3, 4], by kernel_rfl, by decide, 0, p, h, by first | exact mod_rng (by assumption) | exact ⟨fun _ => rfl, fun h1 => by omega⟩, by kernel_rfl, by kernel_rfl⟩)
  · refine R.go 22 (R.cv .i64 (bits .and .u64 (shr64 (IntKind.u64.wrap ((IntKind.u64.wrap (h * 6364136223846793005)) + 1442695040888963407)) 33) 16777215) (by kernel_rfl) (wrap_id (by omega) (by omega)) (by kernel_rfl) ?_)
    refine R.go 16 (R.cond ((p : Int) < (c.length : Int)) (by kernel_rfl) (fun c2 => ?_) (fun c2 => ?_))
    · have hbp := hcb p (by omega)
      refine R.go 11 (R.idx eB c 0 p (p : Int) (by kernel_rfl) rfl eB_len (by omega) (by kernel_rfl) ?_)
      refine R.go 1 (R.cv .i64 (c.getD p 0) (by kernel_rfl) (wrap_id (by omega) (by omega)) (by kernel_rfl) ?_)
      refine R.ar ((bits .and .u64 (shr64 (IntKind.u64.wrap ((IntKind.u64.wrap (h * 6364136223846793005)) + 1442695040888963407)) 33) 16777215) + (c.getD p 0)) (by kernel_rfl) (by omega) (by omega) (by kernel_rfl) ?_
      refine R.go 8 (R.ar ((p : Int) + 1) (by kernel_rfl) (by omega) (by omega) (by kernel_rfl) ?_)
      refine R.go 8 (R.rem ((bits .and .u64 (shr64 (IntKind.u64.wrap ((IntKind.u64.wrap (h * 6364136223846793005)) + 1442695040888963407)) 33) 16777215) + (c.getD p 0)) n (by kernel_rfl) (by omega) (by omega) (by kernel_rfl) ?_)
      exact R.go 2 (R.retX (res := AI (((bits .and .u64 (shr64 (IntKind.u64.wrap ((IntKind.u64.wrap (h * 6364136223846793005)) + 1442695040888963407)) 33) 16777215) + (c.getD p 0)) % n)) (hp' := [.box 106 [LB c, AI ((p : Int) + 1), .int .u64 (IntKind.u64.wrap ((IntKind.u64.wrap (h * 6364136223846793005)) + 1442695040888963407))], .list eo1 so1 no1 co1, .list eo2 so2 no2 co2, .list eo3 so3 no3 co3, .list eo4 so4 no4 co4, .dead]) (by kernel_rfl) (by kernel_rfl) (by kernel_rfl) (by kernel_rfl) ⟨[0, 1, 2, 3, 4], by kernel_rfl, by decide, ((bits .and .u64 (shr64 (IntKind.u64.wrap ((IntKind.u64.wrap (h * 6364136223846793005)) + 1442695040888963407)) 33) 16777215) + (c.getD p 0)) % n, p + 1, IntKind.u64.wrap ((IntKind.u64.wrap (h * 6364136223846793005)) + 1442695040888963407), by first | exact mod_rng (by assumption) | exact ⟨fun _ => rfl, fun h1 => by omega⟩, by kernel_rfl, by kernel_rfl⟩)
    · refine R.go 5 (R.rem (bits .and .u64 (shr64 (IntKind.u64.wrap ((IntKind.u64.wrap (h * 6364136223846793005)) + 1442695040888963407)) 33) 16777215) n (by kernel_rfl) (by omega) (by omega) (by kernel_rfl) ?_)
      exact R.go 2 (R.retX (res := AI ((bits .and .u64 (shr64 (IntKind.u64.wrap ((IntKind.u64.wrap (h * 6364136223846793005)) + 1442695040888963407)) 33) 16777215) % n)) (hp' := [.box 106 [LB c, AI (p : Int), .int .u64 (IntKind.u64.wrap ((IntKind.u64.wrap (h * 6364136223846793005)) + 1442695040888963407))], .list eo1 so1 no1 co1, .list eo2 so2 no2 co2, .list eo3 so3 no3 co3, .list eo4 so4 no4 co4, .dead]) (by kernel_rfl) (by kernel_rfl) (by kernel_rfl) (by kernel_rfl) ⟨[0, 1, 2, 3, 4], by kernel_rfl, by decide, (bits .and .u64 (shr64 (IntKind.u64.wrap ((IntKind.u64.wrap (h * 6364136223846793005)) + 1442695040888963407)) 33) 16777215) % n, p, IntKind.u64.wrap ((IntKind.u64.wrap (h * 6364136223846793005)) + 1442695040888963407), by first | exact mod_rng (by assumption) | exact ⟨fun _ => rfl, fun h1 => by omega⟩, by kernel_rfl, by kernel_rfl⟩)

theorem nextX_c_r5 (c : List Int) (p : Nat) (h : Int) (n : Int) (eo1 : Nat) (so1 : Nat) (no1 : Nat) (co1 : List AV) (eo2 : Nat) (so2 : Nat) (no2 : Nat) (co2 : List AV) (eo3 : Nat) (so3 : Nat) (no3 : Nat) (co3 : List AV) (eo4 : Nat) (so4 : Nat) (no4 : Nat) (co4 : List AV) (eo5 : Nat) (so5 : Nat) (no5 : Nat) (co5 : List AV) (hc : BY c) : CallX Try.prog 44 [.ptr 0 0, AI n] [.box 106 [LB c, AI (p : Int), .int .u64 h], .list eo1 so1 no1 co1, .list eo2 so2 no2 co2, .list eo3 so3 no3 co3, .list eo4 so4 no4 co4, .list eo5 so5 no5 co5] (fun (resX : AV) (objX : List AObj) => ∃ v : Int, ∃ p1 : Nat, ∃ h1 : Int, ((n < 1 → v = 0) ∧ (1 ≤ n → 0 ≤ v ∧ v < n)) ∧ resX = AI v ∧ objX = [.box 106 [LB c, AI (p1 : Int), .int .u64 h1], .list eo1 so1 no1 co1, .list eo2 so2 no2 co2, .list eo3 so3 no3 co3, .list eo4 so4 no4 co4, .list eo5 so5 no5 co5]) := by
  have hcl : c.length ≤ 4096 := hc.1
  have hcb := hc.2
  have hxr := fun h => u64and (shr64 (IntKind.u64.wrap (IntKind.u64.wrap (h * 6364136223846793005) + 1442695040888963407)) 33)
  have hxh := hxr h
  refine CallX.dropE (CallX.ofF Try.func44 rfl (by kernel_rfl) ?_)
  intro usC frC hfC
  refine R.go 10 (R.cond (n < 1) (by kernel_rfl) (fun c1 => ?_) (fun c1 => ?_))
  · exact R.go 4 (R.retX (res := AI 0) (hp' := [.box 106 [LB c, AI (p : Int), .int .u64 h], .list eo1 so1 no1 co1, .list eo2 so2 no2 co2, .list eo3 so3 no3 co3, .list eo4 so4 no4 co4, .list eo5 so5 no5 co5, .dead]) (by kernel_rfl) (by kernel_rfl) (by kernel_rfl) (by kernel_rfl) ⟨[0, 1, 2, 3, 4, 5], by kernel_rfl, by decide, 0, p, h, by first | exact mod_rng (by assumption) | exact ⟨fun _ => rfl, fun h1 => by omega⟩, by kernel_rfl, by kernel_rfl⟩)
  · refine R.go 22 (R.cv .i64 (bits .and .u64 (shr64 (IntKind.u64.wrap ((IntKind.u64.wrap (h * 6364136223846793005)) + 1442695040888963407)) 33) 16777215) (by kernel_rfl) (wrap_id (by omega) (by omega)) (by kernel_rfl) ?_)
    refine R.go 16 (R.cond ((p : Int) < (c.length : Int)) (by kernel_rfl) (fun c2 => ?_) (fun c2 => ?_))
    · have hbp := hcb p (by omega)
      refine R.go 11 (R.idx eB c 0 p (p : Int) (by kernel_rfl) rfl eB_len (by omega) (by kernel_rfl) ?_)
      refine R.go 1 (R.cv .i64 (c.getD p 0) (by kernel_rfl) (wrap_id (by omega) (by omega)) (by kernel_rfl) ?_)
      refine R.ar ((bits .and .u64 (shr64 (IntKind.u64.wrap ((IntKind.u64.wrap (h * 6364136223846793005)) + 1442695040888963407)) 33) 16777215) + (c.getD p 0)) (by kernel_rfl) (by omega) (by omega) (by kernel_rfl) ?_
      refine R.go 8 (R.ar ((p : Int) + 1) (by kernel_rfl) (by omega) (by omega) (by kernel_rfl) ?_)
      refine R.go 8 (R.rem ((bits .and .u64 (shr64 (IntKind.u64.wrap ((IntKind.u64.wrap (h * 6364136223846793005)) + 1442695040888963407)) 33) 16777215) + (c.getD p 0)) n (by kernel_rfl) (by omega) (by omega) (by kernel_rfl) ?_)
      exact R.go 2 (R.retX (res := AI (((bits .and .u64 (shr64 (IntKind.u64.wrap ((IntKind.u64.wrap (h * 6364136223846793005)) + 1442695040888963407)) 33) 16777215) + (c.getD p 0)) % n)) (hp' := [.box 106 [LB c, AI ((p : Int) + 1), .int .u64 (IntKind.u64.wrap ((IntKind.u64.wrap (h * 6364136223846793005)) + 1442695040888963407))], .list eo1 so1 no1 co1, .list eo2 so2 no2 co2, .list eo3 so3 no3 co3, .list eo4 so4 no4 co4, .list eo5 so5 no5 co5, .dead]) (by kernel_rfl) (by kernel_rfl) (by kernel_rfl) (by kernel_rfl) ⟨[0, 1, 2, 3, 4, 5], by kernel_rfl, by decide, ((bits .and .u64 (shr64 (IntKind.u64.wrap ((IntKind.u64.wrap (h * 6364136223846793005)) + 1442695040888963407)) 33) 16777215) + (c.getD p 0)) % n, p + 1, IntKind.u64.wrap ((IntKind.u64.wrap (h * 6364136223846793005)) + 1442695040888963407), by first | exact mod_rng (by assumption) | exact ⟨fun _ => rfl, fun h1 => by omega⟩, by kernel_rfl, by kernel_rfl⟩)
    · refine R.go 5 (R.rem (bits .and .u64 (shr64 (IntKind.u64.wrap ((IntKind.u64.wrap (h * 6364136223846793005)) + 1442695040888963407)) 33) 16777215) n (by kernel_rfl) (by omega) (by omega) (by kernel_rfl) ?_)
      exact R.go 2 (R.retX (res := AI ((bits .and .u64 (shr64 (IntKind.u64.wrap ((IntKind.u64.wrap (h * 6364136223846793005)) + 1442695040888963407)) 33) 16777215) % n)) (hp' := [.box 106 [LB c, AI (p : Int), .int .u64 (IntKind.u64.wrap ((IntKind.u64.wrap (h * 6364136223846793005)) + 1442695040888963407))], .list eo1 so1 no1 co1, .list eo2 so2 no2 co2, .list eo3 so3 no3 co3, .list eo4 so4 no4 co4, .list eo5 so5 no5 co5, .dead]) (by kernel_rfl) (by kernel_rfl) (by kernel_rfl) (by kernel_rfl) ⟨[0, 1, 2, 3, 4, 5], by kernel_rfl, by decide, (bits .and .u64 (shr64 (IntKind.u64.wrap ((IntKind.u64.wrap (h * 6364136223846793005)) + 1442695040888963407)) 33) 16777215) % n, p, IntKind.u64.wrap ((IntKind.u64.wrap (h * 6364136223846793005)) + 1442695040888963407), by first | exact mod_rng (by assumption) | exact ⟨fun _ => rfl, fun h1 => by omega⟩, by kernel_rfl, by kernel_rfl⟩)

theorem nextX_c_r6 (c : List Int) (p : Nat) (h : Int) (n : Int) (eo1 : Nat) (so1 : Nat) (no1 : Nat) (co1 : List AV) (eo2 : Nat) (so2 : Nat) (no2 : Nat) (co2 : List AV) (eo3 : Nat) (so3 : Nat) (no3 : Nat) (co3 : List AV) (eo4 : Nat) (so4 : Nat) (no4 : Nat) (co4 : List AV) (eo5 : Nat) (so5 : Nat) (no5 : Nat) (co5 : List AV) (eo6 : Nat) (so6 : Nat) (no6 : Nat) (co6 : List AV) (hc : BY c) : CallX Try.prog 44 [.ptr 0 0, AI n] [.box 106 [LB c, AI (p : Int), .int .u64 h], .list eo1 so1 no1 co1, .list eo2 so2 no2 co2, .list eo3 so3 no3 co3, .list eo4 so4 no4 co4, .list eo5 so5 no5 co5, .list eo6 so6 no6 co6] (fun (resX : AV) (objX : List AObj) => ∃ v : Int, ∃ p1 : Nat, ∃ h1 : Int, ((n < 1 → v = 0) ∧ (1 ≤ n → 0 ≤ v ∧ v < n)) ∧ resX = AI v ∧ objX = [.box 106 [LB c, AI (p1 : Int), .int .u64 h1], .list eo1 so1 no1 co1, .list eo2 so2 no2 co2, .list eo3 so3 no3 co3, .list eo4 so4 no4 co4, .list eo5 so5 no5 co5, .list eo6 so6 no6 co6]) := by
  have hcl : c.length ≤ 4096 := hc.1
  have hcb := hc.2
  have hxr := fun h => u64and (shr64 (IntKind.u64.wrap (IntKind.u64.wrap (h * 6364136223846793005) + 1442695040888963407)) 33)
  have hxh := hxr h
  refine CallX.dropE (CallX.ofF Try.func44 rfl (by kernel_rfl) ?_)
  intro usC frC hfC
  refine R.go 10 (R.cond (n < 1) (by kernel_rfl) (fun c1 => ?_) (fun c1 => ?_))
  · exact R.go 4 (R.retX (res := AI 0) (hp' := [.box 106 [LB c, AI (p : Int), .int .u64 h], .list eo1 so1 no1 co1, .list eo2 so2 no2 co2, .list eo3 so3 no3 co3, .list eo4 so4 no4 co4, .list eo5 so5 no5 co5, .list eo6 so6 no6 co6, .dead]) (by kernel_rfl) (by kernel_rfl) (by kernel_rfl) (by kernel_rfl) ⟨[0, 1, 2, 3, 4, 5, 6], by kernel_rfl, by decide, 0, p, h, by first | exact mod_rng (by assumption) | exact ⟨fun _ => rfl, fun h1 => by omega⟩, by kernel_rfl, by kernel_rfl⟩)
  · refine R.go 22 (R.cv .i64 (bits .and .u64 (shr64 (IntKind.u64.wrap ((IntKind.u64.wrap (h * 6364136223846793005)) + 1442695040888963407)) 33) 16777215) (by kernel_rfl) (wrap_id (by omega) (by omega)) (by kernel_rfl) ?_)
    refine R.go 16 (R.cond ((p : Int) < (c.length : Int)) (by kernel_rfl) (fun c2 => ?_) (fun c2 => ?_))
    · have hbp := hcb p (by omega)
      refine R.go 11 (R.idx eB c 0 p (p : Int) (by kernel_rfl) rfl eB_len (by omega) (by kernel_rfl) ?_)
      refine R.go 1 (R.cv .i64 (c.getD p 0) (by kernel_rfl) (wrap_id (by omega) (by omega)) (by kernel_rfl) ?_)
      refine R.ar ((bits .and .u64 (shr64 (IntKind.u64.wrap ((IntKind.u64.wrap (h * 6364136223846793005)) + 1442695040888963407)) 33) 16777215) + (c.getD p 0)) (by kernel_rfl) (by omega) (by omega) (by kernel_rfl) ?_
      refine R.go 8 (R.ar ((p : Int) + 1) (by kernel_rfl) (by omega) (by omega) (by kernel_rfl) ?_)
      refine R.go 8 (R.rem ((bits .and .u64 (shr64 (IntKind.u64.wrap ((IntKind.u64.wrap (h * 6364136223846793005)) + 1442695040888963407)) 33) 16777215) + (c.getD p 0)) n (by kernel_rfl) (by omega) (by omega) (by kernel_rfl) ?_)
      exact R.go 2 (R.retX (res := AI (((bits .and .u64 (shr64 (IntKind.u64.wrap ((IntKind.u64.wrap (h * 6364136223846793005)) + 1442695040888963407)) 33) 16777215) + (c.getD p 0)) % n)) (hp' := [.box 106 [LB c, AI ((p : Int) + 1), .int .u64 (IntKind.u64.wrap ((IntKind.u64.wrap (h * 6364136223846793005)) + 1442695040888963407))], .list eo1 so1 no1 co1, .list eo2 so2 no2 co2, .list eo3 so3 no3 co3, .list eo4 so4 no4 co4, .list eo5 so5 no5 co5, .list eo6 so6 no6 co6, .dead]) (by kernel_rfl) (by kernel_rfl) (by kernel_rfl) (by kernel_rfl) ⟨[0, 1, 2, 3, 4, 5, 6], by kernel_rfl, by decide, ((bits .and .u64 (shr64 (IntKind.u64.wrap ((IntKind.u64.wrap (h * 6364136223846793005)) + 1442695040888963407)) 33) 16777215) + (c.getD p 0)) % n, p + 1, IntKind.u64.wrap ((IntKind.u64.wrap (h * 6364136223846793005)) + 1442695040888963407), by first | exact mod_rng (by assumption) | exact ⟨fun _ => rfl, fun h1 => by omega⟩, by kernel_rfl, by kernel_rfl⟩)
    · refine R.go 5 (R.rem (bits .and .u64 (shr64 (IntKind.u64.wrap ((IntKind.u64.wrap (h * 6364136223846793005)) + 1442695040888963407)) 33) 16777215) n (by kernel_rfl) (by omega) (by omega) (by kernel_rfl) ?_)
      exact R.go 2 (R.retX (res := AI ((bits .and .u64 (shr64 (IntKind.u64.wrap ((IntKind.u64.wrap (h * 6364136223846793005)) + 1442695040888963407)) 33) 16777215) % n)) (hp' := [.box 106 [LB c, AI (p : Int), .int .u64 (IntKind.u64.wrap ((IntKind.u64.wrap (h * 6364136223846793005)) + 1442695040888963407))], .list eo1 so1 no1 co1, .list eo2 so2 no2 co2, .list eo3 so3 no3 co3, .list eo4 so4 no4 co4, .list eo5 so5 no5 co5, .list eo6 so6 no6 co6, .dead]) (by kernel_rfl) (by kernel_rfl) (by kernel_rfl) (by kernel_rfl) ⟨[0, 1, 2, 3, 4, 5, 6], by kernel_rfl, by decide, (bits .and .u64 (shr64 (IntKind.u64.wrap ((IntKind.u64.wrap (h * 6364136223846793005)) + 1442695040888963407)) 33) 16777215) % n, p, IntKind.u64.wrap ((IntKind.u64.wrap (h * 6364136223846793005)) + 1442695040888963407), by first | exact mod_rng (by assumption) | exact ⟨fun _ => rfl, fun h1 => by omega⟩, by kernel_rfl, by kernel_rfl⟩)

theorem nextX_c_r5b (c : List Int) (p : Nat) (h : Int) (n : Int) (eo1 : Nat) (so1 : Nat) (no1 : Nat) (co1 : List AV) (eo2 : Nat) (so2 : Nat) (no2 : Nat) (co2 : List AV) (eo3 : Nat) (so3 : Nat) (no3 : Nat) (co3 : List AV) (eo4 : Nat) (so4 : Nat) (no4 : Nat) (co4 : List AV) (eo5 : Nat) (so5 : Nat) (no5 : Nat) (co5 : List AV) (to6 : Nat) (a_x : Int) (hc : BY c) : CallX Try.prog 44 [.ptr 0 0, AI n] [.box 106 [LB c, AI (p : Int), .int .u64 h], .list eo1 so1 no1 co1, .list eo2 so2 no2 co2, .list eo3 so3 no3 co3, .list eo4 so4 no4 co4, .list eo5 so5 no5 co5, .box to6 [AI a_x, .ref 5]] (fun (resX : AV) (objX : List AObj) => ∃ v : Int, ∃ p1 : Nat, ∃ h1 : Int, ((n < 1 → v = 0) ∧ (1 ≤ n → 0 ≤ v ∧ v < n)) ∧ resX = AI v ∧ objX = [.box 106 [LB c, AI (p1 : Int), .int .u64 h1], .list eo1 so1 no1 co1, .list eo2 so2 no2 co2, .list eo3 so3 no3 co3, .list eo4 so4 no4 co4, .list eo5 so5 no5 co5, .box to6 [AI a_x, .ref 5]]) := by
  have hcl : c.length ≤ 4096 := hc.1
  have hcb := hc.2
  have hxr := fun h => u64and (shr64 (IntKind.u64.wrap (IntKind.u64.wrap (h * 6364136223846793005) + 1442695040888963407)) 33)
  have hxh := hxr h
  refine CallX.dropE (CallX.ofF Try.func44 rfl (by kernel_rfl) ?_)
  intro usC frC hfC
  refine R.go 10 (R.cond (n < 1) (by kernel_rfl) (fun c1 => ?_) (fun c1 => ?_))
  · exact R.go 4 (R.retX (res := AI 0) (hp' := [.box 106 [LB c, AI (p : Int), .int .u64 h], .list eo1 so1 no1 co1, .list eo2 so2 no2 co2, .list eo3 so3 no3 co3, .list eo4 so4 no4 co4, .list eo5 so5 no5 co5, .box to6 [AI a_x, .ref 5], .dead]) (by kernel_rfl) (by kernel_rfl) (by kernel_rfl) (by kernel_rfl) ⟨[0, 1, 2, 3, 4, 5, 6], by kernel_rfl, by decide, 0, p, h, by first | exact mod_rng (by assumption) | exact ⟨fun _ => rfl, fun h1 => by omega⟩, by kernel_rfl, by kernel_rfl⟩)
  · refine R.go 22 (R.cv .i64 (bits .and .u64 (shr64 (IntKind.u64.wrap ((IntKind.u64.wrap (h * 6364136223846793005)) + 1442695040888963407)) 33) 16777215) (by kernel_rfl) (wrap_id (by omega) (by omega)) (by kernel_rfl) ?_)
    refine R.go 16 (R.cond ((p : Int) < (c.length : Int)) (by kernel_rfl) (fun c2 => ?_) (fun c2 => ?_))
    · have hbp := hcb p (by omega)
      refine R.go 11 (R.idx eB c 0 p (p : Int) (by kernel_rfl) rfl eB_len (by omega) (by kernel_rfl) ?_)
      refine R.go 1 (R.cv .i64 (c.getD p 0) (by kernel_rfl) (wrap_id (by omega) (by omega)) (by kernel_rfl) ?_)
      refine R.ar ((bits .and .u64 (shr64 (IntKind.u64.wrap ((IntKind.u64.wrap (h * 6364136223846793005)) + 1442695040888963407)) 33) 16777215) + (c.getD p 0)) (by kernel_rfl) (by omega) (by omega) (by kernel_rfl) ?_
      refine R.go 8 (R.ar ((p : Int) + 1) (by kernel_rfl) (by omega) (by omega) (by kernel_rfl) ?_)
      refine R.go 8 (R.rem ((bits .and .u64 (shr64 (IntKind.u64.wrap ((IntKind.u64.wrap (h * 6364136223846793005)) + 1442695040888963407)) 33) 16777215) + (c.getD p 0)) n (by kernel_rfl) (by omega) (by omega) (by kernel_rfl) ?_)
      exact R.go 2 (R.retX (res := AI (((bits .and .u64 (shr64 (IntKind.u64.wrap ((IntKind.u64.wrap (h * 6364136223846793005)) + 1442695040888963407)) 33) 16777215) + (c.getD p 0)) % n)) (hp' := [.box 106 [LB c, AI ((p : Int) + 1), .int .u64 (IntKind.u64.wrap ((IntKind.u64.wrap (h * 6364136223846793005)) + 1442695040888963407))], .list eo1 so1 no1 co1, .list eo2 so2 no2 co2, .list eo3 so3 no3 co3, .list eo4 so4 no4 co4, .list eo5 so5 no5 co5, .box to6 [AI a_x, .ref 5], .dead]) (by kernel_rfl) (by kernel_rfl) (by kernel_rfl) (by kernel_rfl) ⟨[0, 1, 2, 3, 4, 5, 6], by kernel_rfl, by decide, ((bits .and .u64 (shr64 (IntKind.u64.wrap ((IntKind.u64.wrap (h * 6364136223846793005)) + 1442695040888963407)) 33) 16777215) + (c.getD p 0)) % n, p + 1, IntKind.u64.wrap ((IntKind.u64.wrap (h * 6364136223846793005)) + 1442695040888963407), by first | exact mod_rng (by assumption) | exact ⟨fun _ => rfl, fun h1 => by omega⟩, by kernel_rfl, by kernel_rfl⟩)
    · refine R.go 5 (R.rem (bits .and .u64 (shr64 (IntKind.u64.wrap ((IntKind.u64.wrap (h * 6364136223846793005)) + 1442695040888963407)) 33) 16777215) n (by kernel_rfl) (by omega) (by omega) (by kernel_rfl) ?_)
      exact R.go 2 (R.retX (res := AI ((bits .and .u64 (shr64 (IntKind.u64.wrap ((IntKind.u64.wrap (h * 6364136223846793005)) + 1442695040888963407)) 33) 16777215) % n)) (hp' := [.box 106 [LB c, AI (p : Int), .int .u64 (IntKind.u64.wrap ((IntKind.u64.wrap (h * 6364136223846793005)) + 1442695040888963407))], .list eo1 so1 no1 co1, .list eo2 so2 no2 co2, .list eo3 so3 no3 co3, .list eo4 so4 no4 co4, .list eo5 so5 no5 co5, .box to6 [AI a_x, .ref 5], .dead]) (by kernel_rfl) (by kernel_rfl) (by kernel_rfl) (by kernel_rfl) ⟨[0, 1, 2, 3, 4, 5, 6], by kernel_rfl, by decide, (bits .and .u64 (shr64 (IntKind.u64.wrap ((IntKind.u64.wrap (h * 6364136223846793005)) + 1442695040888963407)) 33) 16777215) % n, p, IntKind.u64.wrap ((IntKind.u64.wrap (h * 6364136223846793005)) + 1442695040888963407), by first | exact mod_rng (by assumption) | exact ⟨fun _ => rfl, fun h1 => by omega⟩, by kernel_rfl, by kernel_rfl⟩)

theorem nextX_c_r3c (c : List Int) (p : Nat) (h : Int) (n : Int) (eo1 : Nat) (so1 : Nat) (no1 : Nat) (co1 : List AV) (eo2 : Nat) (so2 : Nat) (no2 : Nat) (co2 : List AV) (eo3 : Nat) (so3 : Nat) (no3 : Nat) (co3 : List AV) (to4 : Nat) (a_x : Int) (l_x : List Int) (hc : BY c) : CallX Try.prog 44 [.ptr 0 0, AI n] [.box 106 [LB c, AI (p : Int), .int .u64 h], .list eo1 so1 no1 co1, .list eo2 so2 no2 co2, .list eo3 so3 no3 co3, .box to4 [AI a_x, LI l_x, .ref 3]] (fun (resX : AV) (objX : List AObj) => ∃ v : Int, ∃ p1 : Nat, ∃ h1 : Int, ((n < 1 → v = 0) ∧ (1 ≤ n → 0 ≤ v ∧ v < n)) ∧ resX = AI v ∧ objX = [.box 106 [LB c, AI (p1 : Int), .int .u64 h1], .list eo1 so1 no1 co1, .list eo2 so2 no2 co2, .list eo3 so3 no3 co3, .box to4 [AI a_x, LI l_x, .ref 3]]) := by
  have hcl : c.length ≤ 4096 := hc.1
  have hcb := hc.2
  have hxr := fun h => u64and (shr64 (IntKind.u64.wrap (IntKind.u64.wrap (h * 6364136223846793005) + 1442695040888963407)) 33)
  have hxh := hxr h
  refine CallX.dropE (CallX.ofF Try.func44 rfl (by kernel_rfl) ?_)
  intro usC frC hfC
  refine R.go 10 (R.cond (n < 1) (by kernel_rfl) (fun c1 => ?_) (fun c1 => ?_))
  · exact R.go 4 (R.retX (res := AI 0) (hp' := [.box 106 [LB c, AI (p : Int), .int .u64 h], .list eo1 so1 no1 co1, .list eo2 so2 no2 co2, .list eo3 so3 no3 co3, .box to4 [AI a_x, LI l_x, .ref 3], .dead]) (by kernel_rfl) (by kernel_rfl) (by kernel_rfl) (by kernel_rfl) ⟨[0, 1, 2, 3, 4], by kernel_rfl, by decide, 0, p, h, by first | exact mod_rng (by assumption) | exact ⟨fun _ => rfl, fun h1 => by omega⟩, by kernel_rfl, by kernel_rfl⟩)
  · refine R.go 22 (R.cv .i64 (bits .and .u64 (shr64 (IntKind.u64.wrap ((IntKind.u64.wrap (h * 6364136223846793005)) + 1442695040888963407)) 33) 16777215) (by kernel_rfl) (wrap_id (by omega) (by omega)) (by kernel_rfl) ?_)
    refine R.go 16 (R.cond ((p : Int) < (c.length : Int)) (by kernel_rfl) (fun c2 => ?_) (fun c2 => ?_))
    · have hbp := hcb p (by omega)
      refine R.go 11 (R.idx eB c 0 p (p : Int) (by kernel_rfl) rfl eB_len (by omega) (by kernel_rfl) ?_)
      refine R.go 1 (R.cv .i64 (c.getD p 0) (by kernel_rfl) (wrap_id (by omega) (by omega)) (by kernel_rfl) ?_)
      refine R.ar ((bits .and .u64 (shr64 (IntKind.u64.wrap ((IntKind.u64.wrap (h * 6364136223846793005)) + 1442695040888963407)) 33) 16777215) + (c.getD p 0)) (by kernel_rfl) (by omega) (by omega) (by kernel_rfl) ?_
      refine R.go 8 (R.ar ((p : Int) + 1) (by kernel_rfl) (by omega) (by omega) (by kernel_rfl) ?_)
      refine R.go 8 (R.rem ((bits .and .u64 (shr64 (IntKind.u64.wrap ((IntKind.u64.wrap (h * 6364136223846793005)) + 1442695040888963407)) 33) 16777215) + (c.getD p 0)) n (by kernel_rfl) (by omega) (by omega) (by kernel_rfl) ?_)
      exact R.go 2 (R.retX (res := AI (((bits .and .u64 (shr64 (IntKind.u64.wrap ((IntKind.u64.wrap (h * 6364136223846793005)) + 1442695040888963407)) 33) 16777215) + (c.getD p 0)) % n)) (hp' := [.box 106 [LB c, AI ((p : Int) + 1), .int .u64 (IntKind.u64.wrap ((IntKind.u64.wrap (h * 6364136223846793005)) + 1442695040888963407))], .list eo1 so1 no1 co1, .list eo2 so2 no2 co2, .list eo3 so3 no3 co3, .box to4 [AI a_x, LI l_x, .ref 3], .dead]) (by kernel_rfl) (by kernel_rfl) (by kernel_rfl) (by kernel_rfl) ⟨[0, 1, 2, 3, 4], by kernel_rfl, by decide, ((bits .and .u64 (shr64 (IntKind.u64.wrap ((IntKind.u64.wrap (h * 6364136223846793005)) + 1442695040888963407)) 33) 16777215) + (c.getD p 0)) % n, p + 1, IntKind.u64.wrap ((IntKind.u64.wrap (h * 6364136223846793005)) + 1442695040888963407), by first | exact mod_rng (by assumption) | exact ⟨fun _ => rfl, fun h1 => by omega⟩, by kernel_rfl, by kernel_rfl⟩)
    · refine R.go 5 (R.rem (bits .and .u64 (shr64 (IntKind.u64.wrap ((IntKind.u64.wrap (h * 6364136223846793005)) + 1442695040888963407)) 33) 16777215) n (by kernel_rfl) (by omega) (by omega) (by kernel_rfl) ?_)
      exact R.go 2 (R.retX (res := AI ((bits .and .u64 (shr64 (IntKind.u64.wrap ((IntKind.u64.wrap (h * 6364136223846793005)) + 1442695040888963407)) 33) 16777215) % n)) (hp' := [.box 106 [LB c, AI (p : Int), .int .u64 (IntKind.u64.wrap ((IntKind.u64.wrap (h * 6364136223846793005)) + 1442695040888963407))], .list eo1 so1 no1 co1, .list eo2 so2 no2 co2, .list eo3 so3 no3 co3, .box to4 [AI a_x, LI l_x, .ref 3], .dead]) (by kernel_rfl) (by kernel_rfl) (by kernel_rfl) (by kernel_rfl) ⟨[0, 1, 2, 3, 4], by kernel_rfl, by decide, (bits .and .u64 (shr64 (IntKind.u64.wrap ((IntKind.u64.wrap (h * 6364136223846793005)) + 1442695040888963407)) 33) 16777215) % n, p, IntKind.u64.wrap ((IntKind.u64.wrap (h * 6364136223846793005)) + 1442695040888963407), by first | exact mod_rng (by assumption) | exact ⟨fun _ => rfl, fun h1 => by omega⟩, by kernel_rfl, by kernel_rfl⟩)

theorem nextX_c_rooooCoo (c : List Int) (p : Nat) (h : Int) (n : Int) (eo1 : Nat) (so1 : Nat) (no1 : Nat) (co1 : List AV) (eo2 : Nat) (so2 : Nat) (no2 : Nat) (co2 : List AV) (eo3 : Nat) (so3 : Nat) (no3 : Nat) (co3 : List AV) (eo4 : Nat) (so4 : Nat) (no4 : Nat) (co4 : List AV) (to5 : Nat) (a_x : Int) (l_x : List Int) (eo6 : Nat) (so6 : Nat) (no6 : Nat) (co6 : List AV) (eo7 : Nat) (so7 : Nat) (no7 : Nat) (co7 : List AV) (hc : BY c) : CallX Try.prog 44 [.ptr 0 0, AI n] [.box 106 [LB c, AI (p : Int), .int .u64 h], .list eo1 so1 no1 co1, .list eo2 so2 no2 co2, .list eo3 so3 no3 co3, .list eo4 so4 no4 co4, .box to5 [AI a_x, LI l_x, .ref 6], .list eo6 so6 no6 co6, .list eo7 so7 no7 co7] (fun (resX : AV) (objX : List AObj) => ∃ v : Int, ∃ p1 : Nat, ∃ h1 : Int, ((n < 1 → v = 0) ∧ (1 ≤ n → 0 ≤ v ∧ v < n)) ∧ resX = AI v ∧ objX = [.box 106 [LB c, AI (p1 : Int), .int .u64 h1], .list eo1 so1 no1 co1, .list eo2 so2 no2 co2, .list eo3 so3 no3 co3, .list eo4 so4 no4 co4, .box to5 [AI a_x, LI l_x, .ref 6], .list eo6 so6 no6 co6, .list eo7 so7 no7 co7]) := by
  have hcl : c.length ≤ 4096 := hc.1
  have hcb := hc.2
  have hxr := fun h => u64and (shr64 (IntKind.u64.wrap (IntKind.u64.wrap (h * 6364136223846793005) + 1442695040888963407)) 33)
  have hxh := hxr h
  refine CallX.dropE (CallX.ofF Try.func44 rfl (by kernel_rfl) ?_)
  intro usC frC hfC
  refine R.go 10 (R.cond (n < 1) (by kernel_rfl) (fun c1 => ?_) (fun c1 => ?_))
  · exact R.go 4 (R.retX (res := AI 0) (hp' := [.box 106 [LB c, AI (p : Int), .int .u64 h], .list eo1 so1 no1 co1, .list eo2 so2 no2 co2, .list eo3 so3 no3 co3, .list eo4 so4 no4 co4, .box to5 [AI a_x, LI l_x, .ref 6], .list eo6 so6 no6 co6, .list eo7 so7 no7 co7, .dead]) (by kernel_rfl) (by kernel_rfl) (by kernel_rfl) (by kernel_rfl) ⟨[0, 1, 2, 3, 4, 5, 6, 7], by kernel_rfl, by decide, 0, p, h, by first | exact mod_rng (by assumption) | exact ⟨fun _ => rfl, fun h1 => by omega⟩, by kernel_rfl, by kernel_rfl⟩)
  · refine R.go 22 (R.cv .i64 (bits .and .u64 (shr64 (IntKind.u64.wrap ((IntKind.u64.wrap (h * 6364136223846793005)) + 1442695040888963407)) 33) 16777215) (by kernel_rfl) (wrap_id (by omega) (by omega)) (by kernel_rfl) ?_)
    refine R.go 16 (R.cond ((p : Int) < (c.length : Int)) (by kernel_rfl) (fun c2 => ?_) (fun c2 => ?_))
    · have hbp := hcb p (by omega)
      refine R.go 11 (R.idx eB c 0 p (p : Int) (by kernel_rfl) rfl eB_len (by omega) (by kernel_rfl) ?_)
      refine R.go 1 (R.cv .i64 (c.getD p 0) (by kernel_rfl) (wrap_id (by omega) (by omega)) (by kernel_rfl) ?_)
      refine R.ar ((bits .and .u64 (shr64 (IntKind.u64.wrap ((IntKind.u64.wrap (h * 6364136223846793005)) + 1442695040888963407)) 33) 16777215) + (c.getD p 0)) (by kernel_rfl) (by omega) (by omega) (by kernel_rfl) ?_
      refine R.go 8 (R.ar ((p : Int) + 1) (by kernel_rfl) (by omega) (by omega) (by kernel_rfl) ?_)
      refine R.go 8 (R.rem ((bits .and .u64 (shr64 (IntKind.u64.wrap ((IntKind.u64.wrap (h * 6364136223846793005)) + 1442695040888963407)) 33) 16777215) + (c.getD p 0)) n (by kernel_rfl) (by omega) (by omega) (by kernel_rfl) ?_)
      exact R.go 2 (R.retX (res := AI (((bits .and .u64 (shr64 (IntKind.u64.wrap ((IntKind.u64.wrap (h * 6364136223846793005)) + 1442695040888963407)) 33) 16777215) + (c.getD p 0)) % n)) (hp' := [.box 106 [LB c, AI ((p : Int) + 1), .int .u64 (IntKind.u64.wrap ((IntKind.u64.wrap (h * 6364136223846793005)) + 1442695040888963407))], .list eo1 so1 no1 co1, .list eo2 so2 no2 co2, .list eo3 so3 no3 co3, .list eo4 so4 no4 co4, .box to5 [AI a_x, LI l_x, .ref 6], .list eo6 so6 no6 co6, .list eo7 so7 no7 co7, .dead]) (by kernel_rfl) (by kernel_rfl) (by kernel_rfl) (by kernel_rfl) ⟨[0, 1, 2, 3, 4, 5, 6, 7], by kernel_rfl, by decide, ((bits .and .u64 (shr64 (IntKind.u64.wrap ((IntKind.u64.wrap (h * 6364136223846793005)) + 1442695040888963407)) 33) 16777215) + (c.getD p 0)) % n, p + 1, IntKind.u64.wrap ((IntKind.u64.wrap (h * 6364136223846793005)) + 1442695040888963407), by first | exact mod_rng (by assumption) | exact ⟨fun _ => rfl, fun h1 => by omega⟩, by kernel_rfl, by kernel_rfl⟩)
    · refine R.go 5 (R.rem (bits .and .u64 (shr64 (IntKind.u64.wrap ((IntKind.u64.wrap (h * 6364136223846793005)) + 1442695040888963407)) 33) 16777215) n (by kernel_rfl) (by omega) (by omega) (by kernel_rfl) ?_)
      exact R.go 2 (R.retX (res := AI ((bits .and .u64 (shr64 (IntKind.u64.wrap ((IntKind.u64.wrap (h * 6364136223846793005)) + 1442695040888963407)) 33) 16777215) % n)) (hp' := [.box 106 [LB c, AI (p : Int), .int .u64 (IntKind.u64.wrap ((IntKind.u64.wrap (h * 6364136223846793005)) + 1442695040888963407))], .list eo1 so1 no1 co1, .list eo2 so2 no2 co2, .list eo3 so3 no3 co3, .list eo4 so4 no4 co4, .box to5 [AI a_x, LI l_x, .ref 6], .list eo6 so6 no6 co6, .list eo7 so7 no7 co7, .dead]) (by kernel_rfl) (by kernel_rfl) (by kernel_rfl) (by kernel_rfl) ⟨[0, 1, 2, 3, 4, 5, 6, 7], by kernel_rfl, by decide, (bits .and .u64 (shr64 (IntKind.u64.wrap ((IntKind.u64.wrap (h * 6364136223846793005)) + 1442695040888963407)) 33) 16777215) % n, p, IntKind.u64.wrap ((IntKind.u64.wrap (h * 6364136223846793005)) + 1442695040888963407), by first | exact mod_rng (by assumption) | exact ⟨fun _ => rfl, fun h1 => by omega⟩, by kernel_rfl, by kernel_rfl⟩)

theorem pickX_c_r3 (c : List Int) (p : Nat) (h : Int) (L : List Int) (eo1 : Nat) (so1 : Nat) (no1 : Nat) (co1 : List AV) (eo2 : Nat) (so2 : Nat) (no2 : Nat) (co2 : List AV) (eo3 : Nat) (so3 : Nat) (no3 : Nat) (co3 : List AV) (hc : BY c) (hL : 1 ≤ L.length ∧ L.length ≤ 100) : CallX Try.prog 108 [.ptr 0 0, LI L] [.box 106 [LB c, AI (p : Int), .int .u64 h], .list eo1 so1 no1 co1, .list eo2 so2 no2 co2, .list eo3 so3 no3 co3] (fun (resX : AV) (objX : List AObj) => ∃ v : Int, ∃ p1 : Nat, ∃ h1 : Int, resX = AI v ∧ objX = [.box 106 [LB c, AI (p1 : Int), .int .u64 h1], .list eo1 so1 no1 co1, .list eo2 so2 no2 co2, .list eo3 so3 no3 co3]) := by
  have hcl : c.length ≤ 4096 := hc.1
  have hcb := hc.2
  refine CallX.dropE (CallX.ofF Try.func108 rfl (by kernel_rfl) ?_)
  intro usC frC hfC
  refine R.go 10 (R.callX (CallX.inF 4 usC frC (nextX_c_r3 c p h L.length eo1 so1 no1 co1 eo2 so2 no2 co2 eo3 so3 no3 co3 hc) (Nat.le_of_ble_eq_true (by kernel_rfl)) (by kernel_rfl) (by kernel_rfl) (by rintro _ _ ⟨_, _, _, _, rfl, rfl⟩; exact Nat.le_of_ble_eq_true (by kernel_rfl))) (by kernel_rfl) (by kernel_rfl) (by kernel_rfl) ?_)
  rintro _ _ ⟨_, _, ⟨v_1, p1_2, h1_3, f4, rfl, rfl⟩, rfl, rfl⟩
  refine R.idx eI L 0 ((v_1).toNat) v_1 (by kernel_rfl) (by omega) eI_len (by omega) (by kernel_rfl) ?_
  exact R.go 3 (R.retX (res := AI (L.getD ((v_1).toNat) 0)) (hp' := [.box 106 [LB c, AI (p1_2 : Int), .int .u64 h1_3], .list eo1 so1 no1 co1, .list eo2 so2 no2 co2, .list eo3 so3 no3 co3, .dead]) (by kernel_rfl) (by kernel_rfl) (by kernel_rfl) (by kernel_rfl) ⟨[0, 1, 2, 3], by kernel_rfl, by decide, (L.getD ((v_1).toNat) 0), p1_2, h1_3, by kernel_rfl, by kernel_rfl⟩)

theorem pickX_c_r5b (c : List Int) (p : Nat) (h : Int) (L : List Int) (eo1 : Nat) (so1 : Nat) (no1 : Nat) (co1 : List AV) (eo2 : Nat) (so2 : Nat) (no2 : Nat) (co2 : List AV) (eo3 : Nat) (so3 : Nat) (no3 : Nat) (co3 : List AV) (eo4 : Nat) (so4 : Nat) (no4 : Nat) (co4 : List AV) (eo5 : Nat) (so5 : Nat) (no5 : Nat) (co5 : List AV) (to6 : Nat) (a_x : Int) (hc : BY c) (hL : 1 ≤ L.length ∧ L.length ≤ 100) : CallX Try.prog 108 [.ptr 0 0, LI L] [.box 106 [LB c, AI (p : Int), .int .u64 h], .list eo1 so1 no1 co1, .list eo2 so2 no2 co2, .list eo3 so3 no3 co3, .list eo4 so4 no4 co4, .list eo5 so5 no5 co5, .box to6 [AI a_x, .ref 5]] (fun (resX : AV) (objX : List AObj) => ∃ v : Int, ∃ p1 : Nat, ∃ h1 : Int, resX = AI v ∧ objX = [.box 106 [LB c, AI (p1 : Int), .int .u64 h1], .list eo1 so1 no1 co1, .list eo2 so2 no2 co2, .list eo3 so3 no3 co3, .list eo4 so4 no4 co4, .list eo5 so5 no5 co5, .box to6 [AI a_x, .ref 5]]) := by
  have hcl : c.length ≤ 4096 := hc.1
  have hcb := hc.2
  refine CallX.dropE (CallX.ofF Try.func108 rfl (by kernel_rfl) ?_)
  intro usC frC hfC
  refine R.go 10 (R.callX (CallX.inF 7 usC frC (nextX_c_r5b c p h L.length eo1 so1 no1 co1 eo2 so2 no2 co2 eo3 so3 no3 co3 eo4 so4 no4 co4 eo5 so5 no5 co5 to6 a_x hc) (Nat.le_of_ble_eq_true (by kernel_rfl)) (by kernel_rfl) (by kernel_rfl) (by rintro _ _ ⟨_, _, _, _, rfl, rfl⟩; exact Nat.le_of_ble_eq_true (by kernel_rfl))) (by kernel_rfl) (by kernel_rfl) (by kernel_rfl) ?_)
  rintro _ _ ⟨_, _, ⟨v_1, p1_2, h1_3, f4, rfl, rfl⟩, rfl, rfl⟩
  refine R.idx eI L 0 ((v_1).toNat) v_1 (by kernel_rfl) (by omega) eI_len (by omega) (by kernel_rfl) ?_
  exact R.go 3 (R.retX (res := AI (L.getD ((v_1).toNat) 0)) (hp' := [.box 106 [LB c, AI (p1_2 : Int), .int .u64 h1_3], .list eo1 so1 no1 co1, .list eo2 so2 no2 co2, .list eo3 so3 no3 co3, .list eo4 so4 no4 co4, .list eo5 so5 no5 co5, .box to6 [AI a_x, .ref 5], .dead]) (by kernel_rfl) (by kernel_rfl) (by kernel_rfl) (by kernel_rfl) ⟨[0, 1, 2, 3, 4, 5, 6], by kernel_rfl, by decide, (L.getD ((v_1).toNat) 0), p1_2, h1_3, by kernel_rfl, by kernel_rfl⟩)

theorem pickX_c_r3c (c : List Int) (p : Nat) (h : Int) (L : List Int) (eo1 : Nat) (so1 : Nat) (no1 : Nat) (co1 : List AV) (eo2 : Nat) (so2 : Nat) (no2 : Nat) (co2 : List AV) (eo3 : Nat) (so3 : Nat) (no3 : Nat) (co3 : List AV) (to4 : Nat) (a_x : Int) (l_x : List Int) (hc : BY c) (hL : 1 ≤ L.length ∧ L.length ≤ 100) : CallX Try.prog 108 [.ptr 0 0, LI L] [.box 106 [LB c, AI (p : Int), .int .u64 h], .list eo1 so1 no1 co1, .list eo2 so2 no2 co2, .list eo3 so3 no3 co3, .box to4 [AI a_x, LI l_x, .ref 3]] (fun (resX : AV) (objX : List AObj) => ∃ v : Int, ∃ p1 : Nat, ∃ h1 : Int, resX = AI v ∧ objX = [.box 106 [LB c, AI (p1 : Int), .int .u64 h1], .list eo1 so1 no1 co1, .list eo2 so2 no2 co2, .list eo3 so3 no3 co3, .box to4 [AI a_x, LI l_x, .ref 3]]) := by
  have hcl : c.length ≤ 4096 := hc.1
  have hcb := hc.2
  refine CallX.dropE (CallX.ofF Try.func108 rfl (by kernel_rfl) ?_)
  intro usC frC hfC
  refine R.go 10 (R.callX (CallX.inF 5 usC frC (nextX_c_r3c c p h L.length eo1 so1 no1 co1 eo2 so2 no2 co2 eo3 so3 no3 co3 to4 a_x l_x hc) (Nat.le_of_ble_eq_true (by kernel_rfl)) (by kernel_rfl) (by kernel_rfl) (by rintro _ _ ⟨_, _, _, _, rfl, rfl⟩; exact Nat.le_of_ble_eq_true (by kernel_rfl))) (by kernel_rfl) (by kernel_rfl) (by kernel_rfl) ?_)
  rintro _ _ ⟨_, _, ⟨v_1, p1_2, h1_3, f4, rfl, rfl⟩, rfl, rfl⟩
  refine R.idx eI L 0 ((v_1).toNat) v_1 (by kernel_rfl) (by omega) eI_len (by omega) (by kernel_rfl) ?_
  exact R.go 3 (R.retX (res := AI (L.getD ((v_1).toNat) 0)) (hp' := [.box 106 [LB c, AI (p1_2 : Int), .int .u64 h1_3], .list eo1 so1 no1 co1, .list eo2 so2 no2 co2, .list eo3 so3 no3 co3, .box to4 [AI a_x, LI l_x, .ref 3], .dead]) (by kernel_rfl) (by kernel_rfl) (by kernel_rfl) (by kernel_rfl) ⟨[0, 1, 2, 3, 4], by kernel_rfl, by decide, (L.getD ((v_1).toNat) 0), p1_2, h1_3, by kernel_rfl, by kernel_rfl⟩)

end Go.Proofs.Ytejaikeemahobaa


/-! Draws of formulas. -/
namespace Go.Proofs.Ytejaikeemahobaa
open Go.RowKit Go.Abs

theorem l02Pre_c (k : Int) (a : List (Int × Int)) (ha : a.length ≤ 1000000) : CallA Try.prog 45 [AI k, LN a] (ownA eN 89 2 ((k, 0) :: a)) := by
  refine CallA.of Try.func45 rfl (by kernel_rfl) ?_
  refine R.go 10 (R.app eN [(k, 0)] a 0 89 2 16 (by kernel_rfl) eN_one (by decide) (by first | omega | (simp <;> omega)) (by kernel_rfl) ?_)
  exact R.go 2 (R.retE (ownA eN 89 2 ([(k, 0)] ++ a)) (by kernel_rfl) (by kernel_rfl) (by first | (rfl) | (exfalso; omega)))

theorem drawX_c_r2 : ∀ (k : Nat) (c : List Int) (p : Nat) (h : Int) (size : Int) (vars : Int) (modal : Bool) (eo1 : Nat) (so1 : Nat) (no1 : Nat) (co1 : List AV) (eo2 : Nat) (so2 : Nat) (no2 : Nat) (co2 : List AV) (hk : size.toNat = k) (hc : BY c) (hs : size ≤ 1000), CallX Try.prog 109 [.ptr 0 0, AI size, AI vars, .bool modal] [.box 106 [LB c, AI (p : Int), .int .u64 h], .list eo1 so1 no1 co1, .list eo2 so2 no2 co2] (fun (resX : AV) (objX : List AObj) => ∃ r : List (Int × Int), ∃ p1 : Nat, ∃ h1 : Int, (((r.length : Int) ≤ size ∨ r.length ≤ 1) ∧ 1 ≤ r.length) ∧ resX = LN r ∧ objX = [.box 106 [LB c, AI (p1 : Int), .int .u64 h1], .list eo1 so1 no1 co1, .list eo2 so2 no2 co2]) := by
  intro k
  induction k using Nat.strongRecOn with
  | _ k ih =>
  intro c p h size vars modal eo1 so1 no1 co1 eo2 so2 no2 co2 hk hc hs
  refine CallX.dropE (CallX.ofF Try.func109 rfl (by kernel_rfl) ?_)
  intro usC frC hfC
  refine R.go 10 ?_
  by_cases c1 : size ≤ 2
  · refine R.skp (decide (size ≤ 2)) false (by kernel_rfl) (dT c1) (by kernel_rfl) ?_
    refine R.skp (decide (size ≤ 2)) false (by kernel_rfl) (dT c1) (by kernel_rfl) ?_
    refine R.skp (decide (size ≤ 2)) false (by kernel_rfl) (dT c1) (by kernel_rfl) ?_
    refine R.pick (decide (size ≤ 2)) true (by kernel_rfl) (dT c1) (by kernel_rfl) ?_
    refine R.go 6 (R.callX (CallX.inF 3 usC frC (nextX_c_r2 c p h 8 eo1 so1 no1 co1 eo2 so2 no2 co2 hc) (Nat.le_of_ble_eq_true (by kernel_rfl)) (by kernel_rfl) (by kernel_rfl) (by rintro _ _ ⟨_, _, _, _, rfl, rfl⟩; exact Nat.le_of_ble_eq_true (by kernel_rfl))) (by kernel_rfl) (by kernel_rfl) (by kernel_rfl) ?_)
    rintro _ _ ⟨_, _, ⟨v_2, p1_3, h1_4, f5, rfl, rfl⟩, rfl, rfl⟩
    refine R.go 2 (R.cond (v_2 = 0) (by kernel_rfl) (fun c6 => ?_) (fun c6 => ?_))
    · refine R.go 2 (R.call true (l02False_c).frz (by kernel_rfl) rfl (by kernel_rfl) ?_)
      exact R.go 2 (R.retX (res := LN [(1, 0)]) (hp' := [.box 106 [LB c, AI (p1_3 : Int), .int .u64 h1_4], .list eo1 so1 no1 co1, .list eo2 so2 no2 co2, .dead]) (by kernel_rfl) (by kernel_rfl) (by kernel_rfl) (by kernel_rfl) ⟨[0, 1, 2], by kernel_rfl, by decide, [(1, 0)], p1_3, h1_4, by first | (simp; done) | (simp only [List.length_cons, List.length_append, List.length_nil]; omega), by kernel_rfl, by kernel_rfl⟩)
    · refine R.go 5 (R.callX (CallX.inF 3 usC frC (nextX_c_r2 c p1_3 h1_4 vars eo1 so1 no1 co1 eo2 so2 no2 co2 hc) (Nat.le_of_ble_eq_true (by kernel_rfl)) (by kernel_rfl) (by kernel_rfl) (by rintro _ _ ⟨_, _, _, _, rfl, rfl⟩; exact Nat.le_of_ble_eq_true (by kernel_rfl))) (by kernel_rfl) (by kernel_rfl) (by kernel_rfl) ?_)
      rintro _ _ ⟨_, _, ⟨v_7, p1_8, h1_9, f10, rfl, rfl⟩, rfl, rfl⟩
      refine R.call true (l02Var_c v_7).frz (by kernel_rfl) rfl (by kernel_rfl) ?_
      exact R.go 2 (R.retX (res := LN [(0, v_7)]) (hp' := [.box 106 [LB c, AI (p1_8 : Int), .int .u64 h1_9], .list eo1 so1 no1 co1, .list eo2 so2 no2 co2, .dead]) (by kernel_rfl) (by kernel_rfl) (by kernel_rfl) (by kernel_rfl) ⟨[0, 1, 2], by kernel_rfl, by decide, [(0, v_7)], p1_8, h1_9, by first | (simp; done) | (simp only [List.length_cons, List.length_append, List.length_nil]; omega), by kernel_rfl, by kernel_rfl⟩)
  · refine R.want (decide (size ≤ 2)) false (by kernel_rfl) (dF c1) ?_
    refine R.go 1 (R.want (decide (size ≤ 2)) false (by kernel_rfl) (dF c1) ?_)
    refine R.callX (CallX.inF 3 usC frC (nextX_c_r2 c p h 9 eo1 so1 no1 co1 eo2 so2 no2 co2 hc) (Nat.le_of_ble_eq_true (by kernel_rfl)) (by kernel_rfl) (by kernel_rfl) (by rintro _ _ ⟨_, _, _, _, rfl, rfl⟩; exact Nat.le_of_ble_eq_true (by kernel_rfl))) (by kernel_rfl) (by kernel_rfl) (by kernel_rfl) ?_
    rintro _ _ ⟨_, _, ⟨v_11, p1_12, h1_13, f14, rfl, rfl⟩, rfl, rfl⟩
    refine R.want (decide (size ≤ 2)) false (by kernel_rfl) (dF c1) ?_
    refine R.go 1 (R.pick (decide (size ≤ 2)) false (by kernel_rfl) (dF c1) (by kernel_rfl) ?_)
    refine R.go 1 (R.cond (v_11 = 0) (by kernel_rfl) (fun c15 => ?_) (fun c15 => ?_))
    · refine R.go 4 (R.callX (CallX.inF 3 usC frC (nextX_c_r2 c p1_12 h1_13 8 eo1 so1 no1 co1 eo2 so2 no2 co2 hc) (Nat.le_of_ble_eq_true (by kernel_rfl)) (by kernel_rfl) (by kernel_rfl) (by rintro _ _ ⟨_, _, _, _, rfl, rfl⟩; exact Nat.le_of_ble_eq_true (by kernel_rfl))) (by kernel_rfl) (by kernel_rfl) (by kernel_rfl) ?_)
      rintro _ _ ⟨_, _, ⟨v_16, p1_17, h1_18, f19, rfl, rfl⟩, rfl, rfl⟩
      refine R.go 2 (R.cond (v_16 = 0) (by kernel_rfl) (fun c20 => ?_) (fun c20 => ?_))
      · refine R.go 2 (R.call true (l02False_c).frz (by kernel_rfl) rfl (by kernel_rfl) ?_)
        exact R.go 2 (R.retX (res := LN [(1, 0)]) (hp' := [.box 106 [LB c, AI (p1_17 : Int), .int .u64 h1_18], .list eo1 so1 no1 co1, .list eo2 so2 no2 co2, .dead]) (by kernel_rfl) (by kernel_rfl) (by kernel_rfl) (by kernel_rfl) ⟨[0, 1, 2], by kernel_rfl, by decide, [(1, 0)], p1_17, h1_18, by first | (simp; done) | (simp only [List.length_cons, List.length_append, List.length_nil]; omega), by kernel_rfl, by kernel_rfl⟩)
      · refine R.go 5 (R.callX (CallX.inF 3 usC frC (nextX_c_r2 c p1_17 h1_18 vars eo1 so1 no1 co1 eo2 so2 no2 co2 hc) (Nat.le_of_ble_eq_true (by kernel_rfl)) (by kernel_rfl) (by kernel_rfl) (by rintro _ _ ⟨_, _, _, _, rfl, rfl⟩; exact Nat.le_of_ble_eq_true (by kernel_rfl))) (by kernel_rfl) (by kernel_rfl) (by kernel_rfl) ?_)
        rintro _ _ ⟨_, _, ⟨v_21, p1_22, h1_23, f24, rfl, rfl⟩, rfl, rfl⟩
        refine R.call true (l02Var_c v_21).frz (by kernel_rfl) rfl (by kernel_rfl) ?_
        exact R.go 2 (R.retX (res := LN [(0, v_21)]) (hp' := [.box 106 [LB c, AI (p1_22 : Int), .int .u64 h1_23], .list eo1 so1 no1 co1, .list eo2 so2 no2 co2, .dead]) (by kernel_rfl) (by kernel_rfl) (by kernel_rfl) (by kernel_rfl) ⟨[0, 1, 2], by kernel_rfl, by decide, [(0, v_21)], p1_22, h1_23, by first | (simp; done) | (simp only [List.length_cons, List.length_append, List.length_nil]; omega), by kernel_rfl, by kernel_rfl⟩)
    · refine R.go 6 ?_
      refine (Bool.eq_false_or_eq_true (modal)).elim (fun c25 => ?_) (fun c25 => ?_)
      · refine R.want (modal) true (by kernel_rfl) c25 ?_
        refine R.go 1 (R.want (modal) true (by kernel_rfl) c25 ?_)
        refine R.callX (CallX.inF 3 usC frC (nextX_c_r2 c p1_12 h1_13 3 eo1 so1 no1 co1 eo2 so2 no2 co2 hc) (Nat.le_of_ble_eq_true (by kernel_rfl)) (by kernel_rfl) (by kernel_rfl) (by rintro _ _ ⟨_, _, _, _, rfl, rfl⟩; exact Nat.le_of_ble_eq_true (by kernel_rfl))) (by kernel_rfl) (by kernel_rfl) (by kernel_rfl) ?_
        rintro _ _ ⟨_, _, ⟨v_26, p1_27, h1_28, f29, rfl, rfl⟩, rfl, rfl⟩
        refine R.want (modal) true (by kernel_rfl) c25 ?_
        refine R.go 1 (R.pick (modal) true (by kernel_rfl) c25 (by kernel_rfl) ?_)
        refine R.go 1 (R.cond (v_26 = 0) (by kernel_rfl) (fun c30 => ?_) (fun c30 => ?_))
        · refine R.go 3 (R.callX (CallX.inF 3 usC frC (nextX_c_r2 c p1_27 h1_28 2 eo1 so1 no1 co1 eo2 so2 no2 co2 hc) (Nat.le_of_ble_eq_true (by kernel_rfl)) (by kernel_rfl) (by kernel_rfl) (by rintro _ _ ⟨_, _, _, _, rfl, rfl⟩; exact Nat.le_of_ble_eq_true (by kernel_rfl))) (by kernel_rfl) (by kernel_rfl) (by kernel_rfl) ?_)
          rintro _ _ ⟨_, _, ⟨v_31, p1_32, h1_33, f34, rfl, rfl⟩, rfl, rfl⟩
          refine R.ar (5 + v_31) (by kernel_rfl) (by omega) (by omega) (by kernel_rfl) ?_
          refine R.go 2 (R.ar (size - 1) (by kernel_rfl) (by omega) (by omega) (by kernel_rfl) ?_)
          refine R.go 2 (R.callX (CallX.inF 3 usC frC (ih (((size - 1)).toNat) (by omega) c p1_32 h1_33 (size - 1) vars modal eo1 so1 no1 co1 eo2 so2 no2 co2 (by rfl) hc (by omega)) (Nat.le_of_ble_eq_true (by kernel_rfl)) (by kernel_rfl) (by kernel_rfl) (by rintro _ _ ⟨_, _, _, _, rfl, rfl⟩; exact Nat.le_of_ble_eq_true (by kernel_rfl))) (by kernel_rfl) (by kernel_rfl) (by kernel_rfl) ?_)
          rintro _ _ ⟨_, _, ⟨r_35, p1_36, h1_37, f38, rfl, rfl⟩, rfl, rfl⟩
          refine R.call true (l02Pre_c (5 + v_31) r_35 (by first | omega | (simp <;> omega))).frz (by kernel_rfl) rfl (by kernel_rfl) ?_
          exact R.go 2 (R.retX (res := LN (((5 + v_31), 0) :: r_35)) (hp' := [.box 106 [LB c, AI (p1_36 : Int), .int .u64 h1_37], .list eo1 so1 no1 co1, .list eo2 so2 no2 co2, .dead]) (by kernel_rfl) (by kernel_rfl) (by kernel_rfl) (by kernel_rfl) ⟨[0, 1, 2], by kernel_rfl, by decide, ((5 + v_31), 0) :: r_35, p1_36, h1_37, by first | (simp; done) | (simp only [List.length_cons, List.length_append, List.length_nil]; omega), by kernel_rfl, by kernel_rfl⟩)
        · refine R.go 5 (R.callX (CallX.inF 3 usC frC (nextX_c_r2 c p1_27 h1_28 6 eo1 so1 no1 co1 eo2 so2 no2 co2 hc) (Nat.le_of_ble_eq_true (by kernel_rfl)) (by kernel_rfl) (by kernel_rfl) (by rintro _ _ ⟨_, _, _, _, rfl, rfl⟩; exact Nat.le_of_ble_eq_true (by kernel_rfl))) (by kernel_rfl) (by kernel_rfl) (by kernel_rfl) ?_)
          rintro _ _ ⟨_, _, ⟨v_39, p1_40, h1_41, f42, rfl, rfl⟩, rfl, rfl⟩
          refine R.go 2 (R.cond (v_39 = 0) (by kernel_rfl) (fun c43 => ?_) (fun c43 => ?_))
          · refine R.go 4 (R.ar (size - 2) (by kernel_rfl) (by omega) (by omega) (by kernel_rfl) ?_)
            refine R.go 2 (R.callX (CallX.inF 3 usC frC (ih (((size - 2)).toNat) (by omega) c p1_40 h1_41 (size - 2) vars modal eo1 so1 no1 co1 eo2 so2 no2 co2 (by rfl) hc (by omega)) (Nat.le_of_ble_eq_true (by kernel_rfl)) (by kernel_rfl) (by kernel_rfl) (by rintro _ _ ⟨_, _, _, _, rfl, rfl⟩; exact Nat.le_of_ble_eq_true (by kernel_rfl))) (by kernel_rfl) (by kernel_rfl) (by kernel_rfl) ?_)
            rintro _ _ ⟨_, _, ⟨r_44, p1_45, h1_46, f47, rfl, rfl⟩, rfl, rfl⟩
            refine R.call true (l02Not_c r_44 (by first | omega | (simp <;> omega))).frz (by kernel_rfl) rfl (by kernel_rfl) ?_
            exact R.go 2 (R.retX (res := LN ((4, 0) :: (r_44 ++ [(1, 0)]))) (hp' := [.box 106 [LB c, AI (p1_45 : Int), .int .u64 h1_46], .list eo1 so1 no1 co1, .list eo2 so2 no2 co2, .dead]) (by kernel_rfl) (by kernel_rfl) (by kernel_rfl) (by kernel_rfl) ⟨[0, 1, 2], by kernel_rfl, by decide, (4, 0) :: (r_44 ++ [(1, 0)]), p1_45, h1_46, by first | (simp; done) | (simp only [List.length_cons, List.length_append, List.length_nil]; omega), by kernel_rfl, by kernel_rfl⟩)
          · refine R.go 5 (R.ar (size - 2) (by kernel_rfl) (by omega) (by omega) (by kernel_rfl) ?_)
            refine R.callX (CallX.inF 3 usC frC (nextX_c_r2 c p1_40 h1_41 (size - 2) eo1 so1 no1 co1 eo2 so2 no2 co2 hc) (Nat.le_of_ble_eq_true (by kernel_rfl)) (by kernel_rfl) (by kernel_rfl) (by rintro _ _ ⟨_, _, _, _, rfl, rfl⟩; exact Nat.le_of_ble_eq_true (by kernel_rfl))) (by kernel_rfl) (by kernel_rfl) (by kernel_rfl) ?_
            rintro _ _ ⟨_, _, ⟨v_48, p1_49, h1_50, f51, rfl, rfl⟩, rfl, rfl⟩
            refine R.ar (1 + v_48) (by kernel_rfl) (by omega) (by omega) (by kernel_rfl) ?_
            refine R.go 8 (R.callX (CallX.inF 3 usC frC (ih (((1 + v_48)).toNat) (by omega) c p1_49 h1_50 (1 + v_48) vars modal eo1 so1 no1 co1 eo2 so2 no2 co2 (by rfl) hc (by omega)) (Nat.le_of_ble_eq_true (by kernel_rfl)) (by kernel_rfl) (by kernel_rfl) (by rintro _ _ ⟨_, _, _, _, rfl, rfl⟩; exact Nat.le_of_ble_eq_true (by kernel_rfl))) (by kernel_rfl) (by kernel_rfl) (by kernel_rfl) ?_)
            rintro _ _ ⟨_, _, ⟨r_52, p1_53, h1_54, f55, rfl, rfl⟩, rfl, rfl⟩
            refine R.go 5 (R.callX (CallX.inF 3 usC frC (nextX_c_r2 c p1_53 h1_54 3 eo1 so1 no1 co1 eo2 so2 no2 co2 hc) (Nat.le_of_ble_eq_true (by kernel_rfl)) (by kernel_rfl) (by kernel_rfl) (by rintro _ _ ⟨_, _, _, _, rfl, rfl⟩; exact Nat.le_of_ble_eq_true (by kernel_rfl))) (by kernel_rfl) (by kernel_rfl) (by kernel_rfl) ?_)
            rintro _ _ ⟨_, _, ⟨v_56, p1_57, h1_58, f59, rfl, rfl⟩, rfl, rfl⟩
            refine R.ar (2 + v_56) (by kernel_rfl) (by omega) (by omega) (by kernel_rfl) ?_
            refine R.go 3 (R.ar (size - 1) (by kernel_rfl) (by omega) (by omega) (by kernel_rfl) ?_)
            refine R.go 1 (R.ar ((size - 1) - (1 + v_48)) (by kernel_rfl) (by omega) (by omega) (by kernel_rfl) ?_)
            refine R.go 2 (R.callX (CallX.inF 3 usC frC (ih ((((size - 1) - (1 + v_48))).toNat) (by omega) c p1_57 h1_58 ((size - 1) - (1 + v_48)) vars modal eo1 so1 no1 co1 eo2 so2 no2 co2 (by rfl) hc (by omega)) (Nat.le_of_ble_eq_true (by kernel_rfl)) (by kernel_rfl) (by kernel_rfl) (by rintro _ _ ⟨_, _, _, _, rfl, rfl⟩; exact Nat.le_of_ble_eq_true (by kernel_rfl))) (by kernel_rfl) (by kernel_rfl) (by kernel_rfl) ?_)
            rintro _ _ ⟨_, _, ⟨r_60, p1_61, h1_62, f63, rfl, rfl⟩, rfl, rfl⟩
            refine R.call true (l02Pair_c (2 + v_56) r_52 r_60 (by first | omega | (simp <;> omega)) (by first | omega | (simp <;> omega))).frz (by kernel_rfl) rfl (by kernel_rfl) ?_
            exact R.go 2 (R.retX (res := LN (((2 + v_56), 0) :: (r_52 ++ r_60))) (hp' := [.box 106 [LB c, AI (p1_61 : Int), .int .u64 h1_62], .list eo1 so1 no1 co1, .list eo2 so2 no2 co2, .dead]) (by kernel_rfl) (by kernel_rfl) (by kernel_rfl) (by kernel_rfl) ⟨[0, 1, 2], by kernel_rfl, by decide, ((2 + v_56), 0) :: (r_52 ++ r_60), p1_61, h1_62, by first | (simp; done) | (simp only [List.length_cons, List.length_append, List.length_nil]; omega), by kernel_rfl, by kernel_rfl⟩)
      · refine R.skp (modal) true (by kernel_rfl) c25 (by kernel_rfl) ?_
        refine R.skp (modal) true (by kernel_rfl) c25 (by kernel_rfl) ?_
        refine R.skp (modal) true (by kernel_rfl) c25 (by kernel_rfl) ?_
        refine R.pick (modal) false (by kernel_rfl) c25 (by kernel_rfl) ?_
        refine R.go 7 (R.callX (CallX.inF 3 usC frC (nextX_c_r2 c p1_12 h1_13 6 eo1 so1 no1 co1 eo2 so2 no2 co2 hc) (Nat.le_of_ble_eq_true (by kernel_rfl)) (by kernel_rfl) (by kernel_rfl) (by rintro _ _ ⟨_, _, _, _, rfl, rfl⟩; exact Nat.le_of_ble_eq_true (by kernel_rfl))) (by kernel_rfl) (by kernel_rfl) (by kernel_rfl) ?_)
        rintro _ _ ⟨_, _, ⟨v_64, p1_65, h1_66, f67, rfl, rfl⟩, rfl, rfl⟩
        refine R.go 2 (R.cond (v_64 = 0) (by kernel_rfl) (fun c68 => ?_) (fun c68 => ?_))
        · refine R.go 4 (R.ar (size - 2) (by kernel_rfl) (by omega) (by omega) (by kernel_rfl) ?_)
          refine R.go 2 (R.callX (CallX.inF 3 usC frC (ih (((size - 2)).toNat) (by omega) c p1_65 h1_66 (size - 2) vars modal eo1 so1 no1 co1 eo2 so2 no2 co2 (by rfl) hc (by omega)) (Nat.le_of_ble_eq_true (by kernel_rfl)) (by kernel_rfl) (by kernel_rfl) (by rintro _ _ ⟨_, _, _, _, rfl, rfl⟩; exact Nat.le_of_ble_eq_true (by kernel_rfl))) (by kernel_rfl) (by kernel_rfl) (by kernel_rfl) ?_)
          rintro _ _ ⟨_, _, ⟨r_69, p1_70, h1_71, f72, rfl, rfl⟩, rfl, rfl⟩
          refine R.call true (l02Not_c r_69 (by first | omega | (simp <;> omega))).frz (by kernel_rfl) rfl (by kernel_rfl) ?_
          exact R.go 2 (R.retX (res := LN ((4, 0) :: (r_69 ++ [(1, 0)]))) (hp' := [.box 106 [LB c, AI (p1_70 : Int), .int .u64 h1_71], .list eo1 so1 no1 co1, .list eo2 so2 no2 co2, .dead]) (by kernel_rfl) (by kernel_rfl) (by kernel_rfl) (by kernel_rfl) ⟨[0, 1, 2], by kernel_rfl, by decide, (4, 0) :: (r_69 ++ [(1, 0)]), p1_70, h1_71, by first | (simp; done) | (simp only [List.length_cons, List.length_append, List.length_nil]; omega), by kernel_rfl, by kernel_rfl⟩)
        · refine R.go 5 (R.ar (size - 2) (by kernel_rfl) (by omega) (by omega) (by kernel_rfl) ?_)
          refine R.callX (CallX.inF 3 usC frC (nextX_c_r2 c p1_65 h1_66 (size - 2) eo1 so1 no1 co1 eo2 so2 no2 co2 hc) (Nat.le_of_ble_eq_true (by kernel_rfl)) (by kernel_rfl) (by kernel_rfl) (by rintro _ _ ⟨_, _, _, _, rfl, rfl⟩; exact Nat.le_of_ble_eq_true (by kernel_rfl))) (by kernel_rfl) (by kernel_rfl) (by kernel_rfl) ?_
          rintro _ _ ⟨_, _, ⟨v_73, p1_74, h1_75, f76, rfl, rfl⟩, rfl, rfl⟩
          refine R.ar (1 + v_73) (by kernel_rfl) (by omega) (by omega) (by kernel_rfl) ?_
          refine R.go 8 (R.callX (CallX.inF 3 usC frC (ih (((1 + v_73)).toNat) (by omega) c p1_74 h1_75 (1 + v_73) vars modal eo1 so1 no1 co1 eo2 so2 no2 co2 (by rfl) hc (by omega)) (Nat.le_of_ble_eq_true (by kernel_rfl)) (by kernel_rfl) (by kernel_rfl) (by rintro _ _ ⟨_, _, _, _, rfl, rfl⟩; exact Nat.le_of_ble_eq_true (by kernel_rfl))) (by kernel_rfl) (by kernel_rfl) (by kernel_rfl) ?_)
          rintro _ _ ⟨_, _, ⟨r_77, p1_78, h1_79, f80, rfl, rfl⟩, rfl, rfl⟩
          refine R.go 5 (R.callX (CallX.inF 3 usC frC (nextX_c_r2 c p1_78 h1_79 3 eo1 so1 no1 co1 eo2 so2 no2 co2 hc) (Nat.le_of_ble_eq_true (by kernel_rfl)) (by kernel_rfl) (by kernel_rfl) (by rintro _ _ ⟨_, _, _, _, rfl, rfl⟩; exact Nat.le_of_ble_eq_true (by kernel_rfl))) (by kernel_rfl) (by kernel_rfl) (by kernel_rfl) ?_)
          rintro _ _ ⟨_, _, ⟨v_81, p1_82, h1_83, f84, rfl, rfl⟩, rfl, rfl⟩
          refine R.ar (2 + v_81) (by kernel_rfl) (by omega) (by omega) (by kernel_rfl) ?_
          refine R.go 3 (R.ar (size - 1) (by kernel_rfl) (by omega) (by omega) (by kernel_rfl) ?_)
          refine R.go 1 (R.ar ((size - 1) - (1 + v_73)) (by kernel_rfl) (by omega) (by omega) (by kernel_rfl) ?_)
          refine R.go 2 (R.callX (CallX.inF 3 usC frC (ih ((((size - 1) - (1 + v_73))).toNat) (by omega) c p1_82 h1_83 ((size - 1) - (1 + v_73)) vars modal eo1 so1 no1 co1 eo2 so2 no2 co2 (by rfl) hc (by omega)) (Nat.le_of_ble_eq_true (by kernel_rfl)) (by kernel_rfl) (by kernel_rfl) (by rintro _ _ ⟨_, _, _, _, rfl, rfl⟩; exact Nat.le_of_ble_eq_true (by kernel_rfl))) (by kernel_rfl) (by kernel_rfl) (by kernel_rfl) ?_)
          rintro _ _ ⟨_, _, ⟨r_85, p1_86, h1_87, f88, rfl, rfl⟩, rfl, rfl⟩
          refine R.call true (l02Pair_c (2 + v_81) r_77 r_85 (by first | omega | (simp <;> omega)) (by first | omega | (simp <;> omega))).frz (by kernel_rfl) rfl (by kernel_rfl) ?_
          exact R.go 2 (R.retX (res := LN (((2 + v_81), 0) :: (r_77 ++ r_85))) (hp' := [.box 106 [LB c, AI (p1_86 : Int), .int .u64 h1_87], .list eo1 so1 no1 co1, .list eo2 so2 no2 co2, .dead]) (by kernel_rfl) (by kernel_rfl) (by kernel_rfl) (by kernel_rfl) ⟨[0, 1, 2], by kernel_rfl, by decide, ((2 + v_81), 0) :: (r_77 ++ r_85), p1_86, h1_87, by first | (simp; done) | (simp only [List.length_cons, List.length_append, List.length_nil]; omega), by kernel_rfl, by kernel_rfl⟩)

end Go.Proofs.Ytejaikeemahobaa


/-! Draws of formulas, second part. -/
namespace Go.Proofs.Ytejaikeemahobaa
open Go.RowKit Go.Abs

theorem l02Own_c (xs : List (Int × Int)) (hl : xs.length ≤ 1000000000) : CallA Try.prog 126 [LN xs] (ownA eN 89 2 xs) := by
  refine CallA.of Try.func126 rfl (by kernel_rfl) ?_
  refine R.go 8 (R.app eN [] xs 0 89 2 16 (by kernel_rfl) eN_one (by decide) (by first | omega | (simp <;> omega)) (by kernel_rfl) ?_)
  exact R.go 2 (R.retE (ownA eN 89 2 ([] ++ xs)) (by kernel_rfl) (by kernel_rfl) (by first | (rfl) | (exfalso; omega)))

theorem bendX_c_r2 (c : List Int) (p : Nat) (h : Int) (a : List (Int × Int)) (eo1 : Nat) (so1 : Nat) (no1 : Nat) (co1 : List AV) (eo2 : Nat) (so2 : Nat) (no2 : Nat) (co2 : List AV) (hc : BY c) (ha : 1 ≤ a.length ∧ a.length ≤ 900) : CallX Try.prog 110 [.ptr 0 0, LN a] [.box 106 [LB c, AI (p : Int), .int .u64 h], .list eo1 so1 no1 co1, .list eo2 so2 no2 co2] (fun (resX : AV) (objX : List AObj) => ∃ r : List (Int × Int), ∃ p1 : Nat, ∃ h1 : Int, (r.length ≤ 1000) ∧ resX = LN r ∧ objX = [.box 106 [LB c, AI (p1 : Int), .int .u64 h1], .list eo1 so1 no1 co1, .list eo2 so2 no2 co2]) := by
  have hcl : c.length ≤ 4096 := hc.1
  have hcb := hc.2
  refine CallX.dropE (CallX.ofF Try.func110 rfl (by kernel_rfl) ?_)
  intro usC frC hfC
  refine R.go 7 (R.call true (l02Own_c a (by first | omega | (simp <;> omega))) (by kernel_rfl) rfl (by kernel_rfl) ?_)
  refine R.go 7 (R.callX (CallX.inF 3 usC frC (nextX_c_r3 c p h a.length eo1 so1 no1 co1 eo2 so2 no2 co2 89 2 a.length (rows eN a) hc) (Nat.le_of_ble_eq_true (by kernel_rfl)) (by kernel_rfl) (by kernel_rfl) (by rintro _ _ ⟨_, _, _, _, rfl, rfl⟩; exact Nat.le_of_ble_eq_true (by kernel_rfl))) (by kernel_rfl) (by kernel_rfl) (by kernel_rfl) ?_)
  rintro _ _ ⟨_, _, ⟨v_1, p1_2, h1_3, f4, rfl, rfl⟩, rfl, rfl⟩
  refine R.go 6 (R.callX (CallX.inF 3 usC frC (nextX_c_r3 c p1_2 h1_3 5 eo1 so1 no1 co1 eo2 so2 no2 co2 89 2 a.length (rows eN a) hc) (Nat.le_of_ble_eq_true (by kernel_rfl)) (by kernel_rfl) (by kernel_rfl) (by rintro _ _ ⟨_, _, _, _, rfl, rfl⟩; exact Nat.le_of_ble_eq_true (by kernel_rfl))) (by kernel_rfl) (by kernel_rfl) (by kernel_rfl) ?_)
  rintro _ _ ⟨_, _, ⟨v_5, p1_6, h1_7, f8, rfl, rfl⟩, rfl, rfl⟩
  refine R.go 7 (R.cond (v_5 = 0) (by kernel_rfl) (fun c9 => ?_) (fun c9 => ?_))
  · refine R.go 4 (R.callX (CallX.inF 3 usC frC (nextX_c_r3 c p1_6 h1_7 9 eo1 so1 no1 co1 eo2 so2 no2 co2 89 2 a.length (rows eN a) hc) (Nat.le_of_ble_eq_true (by kernel_rfl)) (by kernel_rfl) (by kernel_rfl) (by rintro _ _ ⟨_, _, _, _, rfl, rfl⟩; exact Nat.le_of_ble_eq_true (by kernel_rfl))) (by kernel_rfl) (by kernel_rfl) (by kernel_rfl) ?_)
    rintro _ _ ⟨_, _, ⟨v_10, p1_11, h1_12, f13, rfl, rfl⟩, rfl, rfl⟩
    refine R.ar (v_10 - 1) (by kernel_rfl) (by omega) (by omega) (by kernel_rfl) ?_
    refine R.idxO 4 2 a.length ((v_1).toNat) v_1 (by kernel_rfl) (by omega) (by omega) (by kernel_rfl) ?_
    refine R.go 1 (R.stF eN 4 89 2 a (0, 0) ((v_1).toNat) 0 (AI (v_10 - 1)) (v_10 - 1, (a.getD ((v_1).toNat) (0, 0)).2) (by kernel_rfl) eN_len (by omega) (by decide) rfl (by kernel_rfl) ?_)
    refine R.go 7 (R.frz 4 (by kernel_rfl) ?_)
    refine R.kfix 3 (us := usC) (by kernel_rfl) (hfC.frz 4 (LN (a.set ((v_1).toNat) (v_10 - 1, (a.getD ((v_1).toNat) (0, 0)).2))) (Nat.le_of_ble_eq_true (by kernel_rfl))) ?_
    exact R.retX (res := LN (a.set ((v_1).toNat) (v_10 - 1, (a.getD ((v_1).toNat) (0, 0)).2))) (hp' := [.box 106 [LB c, AI (p1_11 : Int), .int .u64 h1_12], .list eo1 so1 no1 co1, .list eo2 so2 no2 co2, .dead, .dead]) (by kernel_rfl) (by kernel_rfl) (by kernel_rfl) (by kernel_rfl) ⟨[0, 1, 2], by kernel_rfl, by decide, a.set ((v_1).toNat) (v_10 - 1, (a.getD ((v_1).toNat) (0, 0)).2), p1_11, h1_12, by first | omega | (simp only [List.length_append, List.length_cons, List.length_nil, List.length_set, List.length_take, List.length_drop]; omega), by kernel_rfl, by kernel_rfl⟩
  · refine R.go 5 (R.cond (v_5 = 1) (by kernel_rfl) (fun c14 => ?_) (fun c14 => ?_))
    · refine R.go 4 (R.lit (s := 1) (n := 5) (cs := rows eI [(-1), 0, 1, 5, 6]) (by kernel_rfl) (by kernel_rfl) ?_)
      refine R.callX (CallX.inF 3 usC frC (pickX_c_r3 c p1_6 h1_7 [(-1), 0, 1, 5, 6] eo1 so1 no1 co1 eo2 so2 no2 co2 89 2 a.length (rows eN a) hc (by simp)) (Nat.le_of_ble_eq_true (by kernel_rfl)) (by kernel_rfl) (by kernel_rfl) (by rintro _ _ ⟨_, _, _, rfl, rfl⟩; exact Nat.le_of_ble_eq_true (by kernel_rfl))) (by kernel_rfl) (by kernel_rfl) (by kernel_rfl) ?_
      rintro _ _ ⟨_, _, ⟨v_15, p1_16, h1_17, rfl, rfl⟩, rfl, rfl⟩
      refine R.idxO 4 2 a.length ((v_1).toNat) v_1 (by kernel_rfl) (by omega) (by omega) (by kernel_rfl) ?_
      refine R.go 1 (R.stF eN 4 89 2 a (0, 0) ((v_1).toNat) 1 (AI v_15) ((a.getD ((v_1).toNat) (0, 0)).1, v_15) (by kernel_rfl) eN_len (by omega) (by decide) rfl (by kernel_rfl) ?_)
      refine R.go 7 (R.frz 4 (by kernel_rfl) ?_)
      refine R.kfix 3 (us := usC) (by kernel_rfl) (hfC.frz 4 (LN (a.set ((v_1).toNat) ((a.getD ((v_1).toNat) (0, 0)).1, v_15))) (Nat.le_of_ble_eq_true (by kernel_rfl))) ?_
      exact R.retX (res := LN (a.set ((v_1).toNat) ((a.getD ((v_1).toNat) (0, 0)).1, v_15))) (hp' := [.box 106 [LB c, AI (p1_16 : Int), .int .u64 h1_17], .list eo1 so1 no1 co1, .list eo2 so2 no2 co2, .dead, .dead]) (by kernel_rfl) (by kernel_rfl) (by kernel_rfl) (by kernel_rfl) ⟨[0, 1, 2], by kernel_rfl, by decide, a.set ((v_1).toNat) ((a.getD ((v_1).toNat) (0, 0)).1, v_15), p1_16, h1_17, by first | omega | (simp only [List.length_append, List.length_cons, List.length_nil, List.length_set, List.length_take, List.length_drop]; omega), by kernel_rfl, by kernel_rfl⟩
    · refine R.go 5 (R.cond (v_5 = 2) (by kernel_rfl) (fun c18 => ?_) (fun c18 => ?_))
      · refine R.go 3 (R.callX (CallX.inF 3 usC frC (nextX_c_r3 c p1_6 h1_7 7 eo1 so1 no1 co1 eo2 so2 no2 co2 89 2 a.length (rows eN a) hc) (Nat.le_of_ble_eq_true (by kernel_rfl)) (by kernel_rfl) (by kernel_rfl) (by rintro _ _ ⟨_, _, _, _, rfl, rfl⟩; exact Nat.le_of_ble_eq_true (by kernel_rfl))) (by kernel_rfl) (by kernel_rfl) (by kernel_rfl) ?_)
        rintro _ _ ⟨_, _, ⟨v_19, p1_20, h1_21, f22, rfl, rfl⟩, rfl, rfl⟩
        refine R.go 2 (R.app eN a [(v_19, 0)] 4 89 2 16 (by kernel_rfl) eN_one (by decide) (by first | omega | (simp <;> omega)) (by kernel_rfl) ?_)
        refine R.kfix 3 (us := usC) (by kernel_rfl) (hfC.kill 4 (Nat.le_of_ble_eq_true (by kernel_rfl))) ?_
        refine R.go 8 (R.frz 4 (by kernel_rfl) ?_)
        refine R.kfix 3 (us := usC) (by kernel_rfl) (hfC.frz 4 (LN (a ++ [(v_19, 0)])) (Nat.le_of_ble_eq_true (by kernel_rfl))) ?_
        exact R.retX (res := LN (a ++ [(v_19, 0)])) (hp' := [.box 106 [LB c, AI (p1_20 : Int), .int .u64 h1_21], .list eo1 so1 no1 co1, .list eo2 so2 no2 co2, .dead, .dead, rowA eN 89 2 [(v_19, 0)]]) (by kernel_rfl) (by kernel_rfl) (by kernel_rfl) (by kernel_rfl) ⟨[0, 1, 2], by kernel_rfl, by decide, a ++ [(v_19, 0)], p1_20, h1_21, by first | omega | (simp only [List.length_append, List.length_cons, List.length_nil, List.length_set, List.length_take, List.length_drop]; omega), by kernel_rfl, by kernel_rfl⟩
      · refine R.go 5 (R.cond (v_5 = 3) (by kernel_rfl) (fun c23 => ?_) (fun c23 => ?_))
        · refine R.go 3 (R.cut eN a 4 89 ((v_1).toNat) v_1 (by kernel_rfl) (by omega) eN_len (by omega) (by kernel_rfl) ?_)
          refine R.kfix 3 (us := usC) (by kernel_rfl) (hfC.kill 4 (Nat.le_of_ble_eq_true (by kernel_rfl))) ?_
          refine R.go 8 (R.frz 4 (by kernel_rfl) ?_)
          refine R.kfix 3 (us := usC) (by kernel_rfl) (hfC.frz 4 (LN (a.take ((v_1).toNat))) (Nat.le_of_ble_eq_true (by kernel_rfl))) ?_
          exact R.retX (res := LN (a.take ((v_1).toNat))) (hp' := [.box 106 [LB c, AI (p1_6 : Int), .int .u64 h1_7], .list eo1 so1 no1 co1, .list eo2 so2 no2 co2, .dead, .dead]) (by kernel_rfl) (by kernel_rfl) (by kernel_rfl) (by kernel_rfl) ⟨[0, 1, 2], by kernel_rfl, by decide, a.take ((v_1).toNat), p1_6, h1_7, by first | omega | (simp only [List.length_append, List.length_cons, List.length_nil, List.length_set, List.length_take, List.length_drop]; omega), by kernel_rfl, by kernel_rfl⟩
        · refine R.go 5 (R.cond (v_5 = 4) (by kernel_rfl) (fun c24 => ?_) (fun c24 => ?_))
          · refine R.any (by decide +kernel) (by kernel_rfl) ?_
            refine R.anyF 0 (by kernel_rfl) (np_retX _ _ _ _ _ _) ?_
            refine R.anyF 1 (by kernel_rfl) (np_retX _ _ _ _ _ _) ?_
            refine R.anyF 3 (by kernel_rfl) (np_retX _ _ _ _ _ _) ?_
            refine R.anyF 4 (by kernel_rfl) (np_retX _ _ _ _ _ _) ?_
            refine R.anyI 5 (AI (IntKind.i64.wrap (v_1 + 1))) (by kernel_rfl) (np_retX _ _ _ _ _ _) ?_
            refine R.del eN a 2 6 7 4 89 16 ((v_1).toNat) v_1 (IntKind.i64.wrap (v_1 + 1)) (by kernel_rfl) (by omega) (by rw [wrap_id (by omega) (by omega)]; omega) eN_len eN_one (by omega) (by decide) (by omega) (np_retX _ _ _ _ _ _) ?_
            refine R.kfix 3 (us := usC) (by kernel_rfl) (hfC.kill 4 (Nat.le_of_ble_eq_true (by kernel_rfl))) ?_
            refine R.any1 8 (by kernel_rfl) (by kernel_rfl) ?_
            refine R.go 2 (R.any0 (by kernel_rfl) ?_)
            refine R.go 6 (R.frz 4 (by kernel_rfl) ?_)
            refine R.kfix 3 (us := usC) (by kernel_rfl) (hfC.frz 4 (LN (a.take ((v_1).toNat) ++ a.drop ((v_1).toNat + 1))) (Nat.le_of_ble_eq_true (by kernel_rfl))) ?_
            exact R.retX (res := LN (a.take ((v_1).toNat) ++ a.drop ((v_1).toNat + 1))) (hp' := [.box 106 [LB c, AI (p1_6 : Int), .int .u64 h1_7], .list eo1 so1 no1 co1, .list eo2 so2 no2 co2, .dead, .dead]) (by kernel_rfl) (by kernel_rfl) (by kernel_rfl) (by kernel_rfl) ⟨[0, 1, 2], by kernel_rfl, by decide, a.take ((v_1).toNat) ++ a.drop ((v_1).toNat + 1), p1_6, h1_7, by first | omega | (simp only [List.length_append, List.length_cons, List.length_nil, List.length_set, List.length_take, List.length_drop]; omega), by kernel_rfl, by kernel_rfl⟩
          · refine R.go 7 (R.frz 4 (by kernel_rfl) ?_)
            refine R.kfix 3 (us := usC) (by kernel_rfl) (hfC.frz 4 (LN a) (Nat.le_of_ble_eq_true (by kernel_rfl))) ?_
            exact R.retX (res := LN a) (hp' := [.box 106 [LB c, AI (p1_6 : Int), .int .u64 h1_7], .list eo1 so1 no1 co1, .list eo2 so2 no2 co2, .dead, .dead]) (by kernel_rfl) (by kernel_rfl) (by kernel_rfl) (by kernel_rfl) ⟨[0, 1, 2], by kernel_rfl, by decide, a, p1_6, h1_7, by first | omega | (simp only [List.length_append, List.length_cons, List.length_nil, List.length_set, List.length_take, List.length_drop]; omega), by kernel_rfl, by kernel_rfl⟩

theorem anyX_c_r2 (c : List Int) (p : Nat) (h : Int) (size : Int) (vars : Int) (modal : Bool) (eo1 : Nat) (so1 : Nat) (no1 : Nat) (co1 : List AV) (eo2 : Nat) (so2 : Nat) (no2 : Nat) (co2 : List AV) (hc : BY c) (hs : size ≤ 100) : CallX Try.prog 57 [.ptr 0 0, AI size, AI vars, .bool modal] [.box 106 [LB c, AI (p : Int), .int .u64 h], .list eo1 so1 no1 co1, .list eo2 so2 no2 co2] (fun (resX : AV) (objX : List AObj) => ∃ r : List (Int × Int), ∃ p1 : Nat, ∃ h1 : Int, (r.length ≤ 1000) ∧ resX = LN r ∧ objX = [.box 106 [LB c, AI (p1 : Int), .int .u64 h1], .list eo1 so1 no1 co1, .list eo2 so2 no2 co2]) := by
  have hcl : c.length ≤ 4096 := hc.1
  have hcb := hc.2
  refine CallX.dropE (CallX.ofF Try.func57 rfl (by kernel_rfl) ?_)
  intro usC frC hfC
  refine R.go 10 (R.callX (CallX.inF 3 usC frC (drawX_c_r2 ((size : Int).toNat) c p h size vars modal eo1 so1 no1 co1 eo2 so2 no2 co2 (by rfl) hc (by omega)) (Nat.le_of_ble_eq_true (by kernel_rfl)) (by kernel_rfl) (by kernel_rfl) (by rintro _ _ ⟨_, _, _, _, rfl, rfl⟩; exact Nat.le_of_ble_eq_true (by kernel_rfl))) (by kernel_rfl) (by kernel_rfl) (by kernel_rfl) ?_)
  rintro _ _ ⟨_, _, ⟨r_1, p1_2, h1_3, f4, rfl, rfl⟩, rfl, rfl⟩
  refine R.go 6 (R.callX (CallX.inF 3 usC frC (nextX_c_r2 c p1_2 h1_3 40 eo1 so1 no1 co1 eo2 so2 no2 co2 hc) (Nat.le_of_ble_eq_true (by kernel_rfl)) (by kernel_rfl) (by kernel_rfl) (by rintro _ _ ⟨_, _, _, _, rfl, rfl⟩; exact Nat.le_of_ble_eq_true (by kernel_rfl))) (by kernel_rfl) (by kernel_rfl) (by kernel_rfl) ?_)
  rintro _ _ ⟨_, _, ⟨v_5, p1_6, h1_7, f8, rfl, rfl⟩, rfl, rfl⟩
  refine R.go 7 (R.cond (v_5 = 0) (by kernel_rfl) (fun c9 => ?_) (fun c9 => ?_))
  · refine R.go 4 (R.callX (CallX.inF 3 usC frC (bendX_c_r2 c p1_6 h1_7 r_1 eo1 so1 no1 co1 eo2 so2 no2 co2 hc (by omega)) (Nat.le_of_ble_eq_true (by kernel_rfl)) (by kernel_rfl) (by kernel_rfl) (by rintro _ _ ⟨_, _, _, _, rfl, rfl⟩; exact Nat.le_of_ble_eq_true (by kernel_rfl))) (by kernel_rfl) (by kernel_rfl) (by kernel_rfl) ?_)
    rintro _ _ ⟨_, _, ⟨r_10, p1_11, h1_12, f13, rfl, rfl⟩, rfl, rfl⟩
    exact R.go 2 (R.retX (res := LN r_10) (hp' := [.box 106 [LB c, AI (p1_11 : Int), .int .u64 h1_12], .list eo1 so1 no1 co1, .list eo2 so2 no2 co2, .dead]) (by kernel_rfl) (by kernel_rfl) (by kernel_rfl) (by kernel_rfl) ⟨[0, 1, 2], by kernel_rfl, by decide, r_10, p1_11, h1_12, by first | assumption | omega, by kernel_rfl, by kernel_rfl⟩)
  · refine R.go 5 (R.cond (v_5 = 1) (by kernel_rfl) (fun c14 => ?_) (fun c14 => ?_))
    · refine R.go 1 (R.loop ((fun | (b, q, k) => (⟨(frm 42 [(0, .ptr 0 0), (2, AI vars), (3, .bool modal), (9, LN b)]), [.box 106 [LB c, AI (q : Int), .int .u64 k], .list eo1 so1 no1 co1, .list eo2 so2 no2 co2, .frame usC frC]⟩ : St) : (List (Int × Int)) × Nat × Int → St)) (fun | (b, q, k) => (1 ≤ b.length) ∧ (b.length ≤ 200)) (fun | (b, q, k) => 200 - b.length) (r_1, p1_6, h1_7) [0, 2, 3, 9] none (by kernel_rfl) (by kernel_rfl) (by kernel_rfl) ⟨(by omega), (by omega)⟩ ?_)
      rintro ⟨b, q, k⟩ ⟨h18_1, h18_2⟩ R15 N16
      refine R.go 7 ?_
      by_cases c19 : (b.length : Int) ≤ 40
      · refine R.want (decide ((b.length : Int) ≤ 40)) true (by kernel_rfl) (dT c19) ?_
        refine R.go 1 (R.want (decide ((b.length : Int) ≤ 40)) true (by kernel_rfl) (dT c19) ?_)
        refine R.callX (CallX.inF 3 usC frC (nextX_c_r2 c q k 60 eo1 so1 no1 co1 eo2 so2 no2 co2 hc) (Nat.le_of_ble_eq_true (by kernel_rfl)) (by kernel_rfl) (by kernel_rfl) (by rintro _ _ ⟨_, _, _, _, rfl, rfl⟩; exact Nat.le_of_ble_eq_true (by kernel_rfl))) (by kernel_rfl) (by kernel_rfl) (by kernel_rfl) ?_
        rintro _ _ ⟨_, _, ⟨v_20, p1_21, h1_22, f23, rfl, rfl⟩, rfl, rfl⟩
        refine R.want (decide ((b.length : Int) ≤ 40)) true (by kernel_rfl) (dT c19) ?_
        refine R.go 1 (R.pick (decide ((b.length : Int) ≤ 40)) true (by kernel_rfl) (dT c19) (by kernel_rfl) ?_)
        refine R.go 1 (R.cond (v_20 > 0) (by kernel_rfl) (fun c24 => ?_) (fun c24 => ?_))
        · refine R.go 4 (R.callX (CallX.inF 3 usC frC (nextX_c_r2 c p1_21 h1_22 3 eo1 so1 no1 co1 eo2 so2 no2 co2 hc) (Nat.le_of_ble_eq_true (by kernel_rfl)) (by kernel_rfl) (by kernel_rfl) (by rintro _ _ ⟨_, _, _, _, rfl, rfl⟩; exact Nat.le_of_ble_eq_true (by kernel_rfl))) (by kernel_rfl) (by kernel_rfl) (by kernel_rfl) ?_)
          rintro _ _ ⟨_, _, ⟨v_25, p1_26, h1_27, f28, rfl, rfl⟩, rfl, rfl⟩
          refine R.ar (2 + v_25) (by kernel_rfl) (by omega) (by omega) (by kernel_rfl) ?_
          refine R.go 4 (R.callX (CallX.inF 3 usC frC (drawX_c_r2 ((6 : Int).toNat) c p1_26 h1_27 6 vars modal eo1 so1 no1 co1 eo2 so2 no2 co2 (by rfl) hc (by omega)) (Nat.le_of_ble_eq_true (by kernel_rfl)) (by kernel_rfl) (by kernel_rfl) (by rintro _ _ ⟨_, _, _, _, rfl, rfl⟩; exact Nat.le_of_ble_eq_true (by kernel_rfl))) (by kernel_rfl) (by kernel_rfl) (by kernel_rfl) ?_)
          rintro _ _ ⟨_, _, ⟨r_29, p1_30, h1_31, f32, rfl, rfl⟩, rfl, rfl⟩
          refine R.call true (l02Pair_c (2 + v_25) b r_29 (by first | omega | (simp <;> omega)) (by first | omega | (simp <;> omega))).frz (by kernel_rfl) rfl (by kernel_rfl) ?_
          exact R.go 3 (R.stop R15 (by kernel_rfl) (N16 (((2 + v_25), 0) :: (b ++ r_29), p1_30, h1_31) [0, 2, 3, 9] none _ (by kernel_rfl) (by kernel_rfl) ⟨(by (simp only [List.length_cons, List.length_append]; omega)), (by (simp only [List.length_cons, List.length_append]; omega))⟩ (by show (200 - (((2 + v_25), 0) :: (b ++ r_29)).length) < (200 - b.length); (simp only [List.length_cons, List.length_append]; omega))))
        · exact R.go 7 (R.retX (res := LN b) (hp' := [.box 106 [LB c, AI (p1_21 : Int), .int .u64 h1_22], .list eo1 so1 no1 co1, .list eo2 so2 no2 co2, .dead]) (by kernel_rfl) (by kernel_rfl) (by kernel_rfl) (by kernel_rfl) ⟨[0, 1, 2], by kernel_rfl, by decide, b, p1_21, h1_22, by first | assumption | omega, by kernel_rfl, by kernel_rfl⟩)
      · refine R.skp (decide ((b.length : Int) ≤ 40)) true (by kernel_rfl) (dF c19) (by kernel_rfl) ?_
        refine R.skp (decide ((b.length : Int) ≤ 40)) true (by kernel_rfl) (dF c19) (by kernel_rfl) ?_
        refine R.skp (decide ((b.length : Int) ≤ 40)) true (by kernel_rfl) (dF c19) (by kernel_rfl) ?_
        refine R.pick (decide ((b.length : Int) ≤ 40)) false (by kernel_rfl) (dF c19) (by kernel_rfl) ?_
        exact R.go 9 (R.retX (res := LN b) (hp' := [.box 106 [LB c, AI (q : Int), .int .u64 k], .list eo1 so1 no1 co1, .list eo2 so2 no2 co2, .dead]) (by kernel_rfl) (by kernel_rfl) (by kernel_rfl) (by kernel_rfl) ⟨[0, 1, 2], by kernel_rfl, by decide, b, q, k, by first | assumption | omega, by kernel_rfl, by kernel_rfl⟩)
    · exact R.go 7 (R.retX (res := LN r_1) (hp' := [.box 106 [LB c, AI (p1_6 : Int), .int .u64 h1_7], .list eo1 so1 no1 co1, .list eo2 so2 no2 co2, .dead]) (by kernel_rfl) (by kernel_rfl) (by kernel_rfl) (by kernel_rfl) ⟨[0, 1, 2], by kernel_rfl, by decide, r_1, p1_6, h1_7, by first | assumption | omega, by kernel_rfl, by kernel_rfl⟩)

end Go.Proofs.Ytejaikeemahobaa
