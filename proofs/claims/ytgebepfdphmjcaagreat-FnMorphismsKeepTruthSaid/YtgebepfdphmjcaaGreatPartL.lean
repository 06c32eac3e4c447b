/- Texts of the proof: MO2S. -/
import Derived.Test.YtgebepfdphmjcaaGreatPartK

/-! Draws of frames beside other objects. -/
namespace Go.Proofs.YtgebepfdphmjcaaGreat
open Go.RowKit Go.Abs

theorem nextX_c_r7 (c : List Int) (p : Nat) (h : Int) (n : Int) (eo1 : Nat) (so1 : Nat) (no1 : Nat) (co1 : List AV) (eo2 : Nat) (so2 : Nat) (no2 : Nat) (co2 : List AV) (eo3 : Nat) (so3 : Nat) (no3 : Nat) (co3 : List AV) (eo4 : Nat) (so4 : Nat) (no4 : Nat) (co4 : List AV) (eo5 : Nat) (so5 : Nat) (no5 : Nat) (co5 : List AV) (eo6 : Nat) (so6 : Nat) (no6 : Nat) (co6 : List AV) (eo7 : Nat) (so7 : Nat) (no7 : Nat) (co7 : List AV) (hc : BY c) : CallX Tryz.prog 53 [.ptr 0 0, AI n] [.box 120 [LB c, AI (p : Int), .int .u64 h], .list eo1 so1 no1 co1, .list eo2 so2 no2 co2, .list eo3 so3 no3 co3, .list eo4 so4 no4 co4, .list eo5 so5 no5 co5, .list eo6 so6 no6 co6, .list eo7 so7 no7 co7] (fun (resX : AV) (objX : List AObj) => ∃ v : Int, ∃ p1 : Nat, ∃ h1 : Int, ((n < 1 → v = 0) ∧ (1 ≤ n → 0 ≤ v ∧ v < n)) ∧ resX = AI v ∧ objX = [.box 120 [LB c, AI (p1 : Int), .int .u64 h1], .list eo1 so1 no1 co1, .list eo2 so2 no2 co2, .list eo3 so3 no3 co3, .list eo4 so4 no4 co4, .list eo5 so5 no5 co5, .list eo6 so6 no6 co6, .list eo7 so7 no7 co7]) := by
  have hcl : c.length ≤ 4096 := hc.1
  have hcb := hc.2
  have hxr := fun h => u64and (shr64 (IntKind.u64.wrap (IntKind.u64.wrap (h * 6364136223846793005) + 1442695040888963407)) 33)
  have hxh := hxr h
  refine CallX.dropE (CallX.ofF Tryz.func53 rfl (by kernel_rfl) ?_)
  intro usC frC hfC
  refine R.go 10 (R.cond (n < 1) (by kernel_rfl) (fun c1 => ?_) (fun c1 => ?_))
  · exact R.go 4 (R.retX (res := AI 0) (hp' := [.box 120 [LB c, AI (p : Int), .int .u64 h], .list eo1 so1 no1 co1, .list eo2 so2 no2 co2, .list eo3 so3 no3 co3, .list eo4 so4 no4 co4, .list eo5 so5 no5 co5, .list eo6 so6 no6 co6, .list eo7 so7 no7 co7, .dead]) (by kernel_rfl) (by kernel_rfl) (by kernel_rfl) (by kernel_rfl) ⟨[0, 1, 2, 3, 4, 5, 6, 7], by kernel_rfl, by decide, 0, p, h, by first | exact mod_rng (by assumption) | exact ⟨fun _ => rfl, fun h1 => by omega⟩, by kernel_rfl, by kernel_rfl⟩)
  · refine R.go 22 (R.cv .i64 (bits .and .u64 (shr64 (IntKind.u64.wrap ((IntKind.u64.wrap (h * 6364136223846793005)) + 1442695040888963407)) 33) 16777215) (by kernel_rfl) (wrap_id (by omega) (by omega)) (by kernel_rfl) ?_)
    refine R.go 16 (R.cond ((p : Int) < (c.length : Int)) (by kernel_rfl) (fun c2 => ?_) (fun c2 => ?_))
    · have hbp := hcb p (by omega)
      refine R.go 11 (R.idx eB c 0 p (p : Int) (by kernel_rfl) rfl eB_len (by omega) (by kernel_rfl) ?_)
      refine R.go 1 (R.cv .i64 (c.getD p 0) (by kernel_rfl) (wrap_id (by omega) (by omega)) (by kernel_rfl) ?_)
      refine R.ar ((bits .and .u64 (shr64 (IntKind.u64.wrap ((IntKind.u64.wrap (h * 6364136223846793005)) + 1442695040888963407)) 33) 16777215) + (c.getD p 0)) (by kernel_rfl) (by omega) (by omega) (by kernel_rfl) ?_
      refine R.go 8 (R.ar ((p : Int) + 1) (by kernel_rfl) (by omega) (by omega) (by kernel_rfl) ?_)
      refine R.go 8 (R.rem ((bits .and .u64 (shr64 (IntKind.u64.wrap ((IntKind.u64.wrap (h * 6364136223846793005)) + 1442695040888963407)) 33) 16777215) + (c.getD p 0)) n (by kernel_rfl) (by omega) (by omega) (by kernel_rfl) ?_)
      exact R.go 2 (R.retX (res := AI (((bits .and .u64 (shr64 (IntKind.u64.wrap ((IntKind.u64.wrap (h * 6364136223846793005)) + 1442695040888963407)) 33) 16777215) + (c.getD p 0)) % n)) (hp' := [.box 120 [LB c, AI ((p : Int) + 1), .int .u64 (IntKind.u64.wrap ((IntKind.u64.wrap (h * 6364136223846793005)) + 1442695040888963407))], .list eo1 so1 no1 co1, .list eo2 so2 no2 co2, .list eo3 so3 no3 co3, .list eo4 so4 no4 co4, .list eo5 so5 no5 co5, .list eo6 so6 no6 co6, .list eo7 so7 no7 co7, .dead]) (by kernel_rfl) (by kernel_rfl) (by kernel_rfl) (by kernel_rfl) ⟨[0, 1, 2, 3, 4, 5, 6, 7], by kernel_rfl, by decide, ((bits .and .u64 (shr64 (IntKind.u64.wrap ((IntKind.u64.wrap (h * 6364136223846793005)) + 1442695040888963407)) 33) 16777215) + (c.getD p 0)) % n, p + 1, IntKind.u64.wrap ((IntKind.u64.wrap (h * 6364136223846793005)) + 1442695040888963407), by first | exact mod_rng (by assumption) | exact ⟨fun _ => rfl, fun h1 => by omega⟩, by kernel_rfl, by kernel_rfl⟩)
    · refine R.go 5 (R.rem (bits .and .u64 (shr64 (IntKind.u64.wrap ((IntKind.u64.wrap (h * 6364136223846793005)) + 1442695040888963407)) 33) 16777215) n (by kernel_rfl) (by omega) (by omega) (by kernel_rfl) ?_)
      exact R.go 2 (R.retX (res := AI ((bits .and .u64 (shr64 (IntKind.u64.wrap ((IntKind.u64.wrap (h * 6364136223846793005)) + 1442695040888963407)) 33) 16777215) % n)) (hp' := [.box 120 [LB c, AI (p : Int), .int .u64 (IntKind.u64.wrap ((IntKind.u64.wrap (h * 6364136223846793005)) + 1442695040888963407))], .list eo1 so1 no1 co1, .list eo2 so2 no2 co2, .list eo3 so3 no3 co3, .list eo4 so4 no4 co4, .list eo5 so5 no5 co5, .list eo6 so6 no6 co6, .list eo7 so7 no7 co7, .dead]) (by kernel_rfl) (by kernel_rfl) (by kernel_rfl) (by kernel_rfl) ⟨[0, 1, 2, 3, 4, 5, 6, 7], by kernel_rfl, by decide, (bits .and .u64 (shr64 (IntKind.u64.wrap ((IntKind.u64.wrap (h * 6364136223846793005)) + 1442695040888963407)) 33) 16777215) % n, p, IntKind.u64.wrap ((IntKind.u64.wrap (h * 6364136223846793005)) + 1442695040888963407), by first | exact mod_rng (by assumption) | exact ⟨fun _ => rfl, fun h1 => by omega⟩, by kernel_rfl, by kernel_rfl⟩)

theorem nextX_c_r8 (c : List Int) (p : Nat) (h : Int) (n : Int) (eo1 : Nat) (so1 : Nat) (no1 : Nat) (co1 : List AV) (eo2 : Nat) (so2 : Nat) (no2 : Nat) (co2 : List AV) (eo3 : Nat) (so3 : Nat) (no3 : Nat) (co3 : List AV) (eo4 : Nat) (so4 : Nat) (no4 : Nat) (co4 : List AV) (eo5 : Nat) (so5 : Nat) (no5 : Nat) (co5 : List AV) (eo6 : Nat) (so6 : Nat) (no6 : Nat) (co6 : List AV) (eo7 : Nat) (so7 : Nat) (no7 : Nat) (co7 : List AV) (eo8 : Nat) (so8 : Nat) (no8 : Nat) (co8 : List AV) (hc : BY c) : CallX Tryz.prog 53 [.ptr 0 0, AI n] [.box 120 [LB c, AI (p : Int), .int .u64 h], .list eo1 so1 no1 co1, .list eo2 so2 no2 co2, .list eo3 so3 no3 co3, .list eo4 so4 no4 co4, .list eo5 so5 no5 co5, .list eo6 so6 no6 co6, .list eo7 so7 no7 co7, .list eo8 so8 no8 co8] (fun (resX : AV) (objX : List AObj) => ∃ v : Int, ∃ p1 : Nat, ∃ h1 : Int, ((n < 1 → v = 0) ∧ (1 ≤ n → 0 ≤ v ∧ v < n)) ∧ resX = AI v ∧ objX = [.box 120 [LB c, AI (p1 : Int), .int .u64 h1], .list eo1 so1 no1 co1, .list eo2 so2 no2 co2, .list eo3 so3 no3 co3, .list eo4 so4 no4 co4, .list eo5 so5 no5 co5, .list eo6 so6 no6 co6, .list eo7 so7 no7 co7, .list eo8 so8 no8 co8]) := by
  have hcl : c.length ≤ 4096 := hc.1
  have hcb := hc.2
  have hxr := fun h => u64and (shr64 (IntKind.u64.wrap (IntKind.u64.wrap (h * 6364136223846793005) + 1442695040888963407)) 33)
  have hxh := hxr h
  refine CallX.dropE (CallX.ofF Tryz.func53 rfl (by kernel_rfl) ?_)
  intro usC frC hfC
  refine R.go 10 (R.cond (n < 1) (by kernel_rfl) (fun c1 => ?_) (fun c1 => ?_))
  · exact R.go 4 (R.retX (res := AI 0) (hp' := [.box 120 [LB c, AI (p : Int), .int .u64 h], .list eo1 so1 no1 co1, .list eo2 so2 no2 co2, .list eo3 so3 no3 co3, .list eo4 so4 no4 co4, .list eo5 so5 no5 co5, .list eo6 so6 no6 co6, .list eo7 so7 no7 co7, .list eo8 so8 no8 co8, .dead]) (by kernel_rfl) (by kernel_rfl) (by kernel_rfl) (by kernel_rfl) ⟨[0, 1, 2, 3, 4, 5, 6, 7, 8], by kernel_rfl, by decide, 0, p, h, by first | exact mod_rng (by assumption) | exact ⟨fun _ => rfl, fun h1 => by omega⟩, by kernel_rfl, by kernel_rfl⟩)
  · refine R.go 22 (R.cv .i64 (bits .and .u64 (shr64 (IntKind.u64.wrap ((IntKind.u64.wrap (h * 6364136223846793005)) + 1442695040888963407)) 33) 16777215) (by kernel_rfl) (wrap_id (by omega) (by omega)) (by kernel_rfl) ?_)
    refine R.go 16 (R.cond ((p : Int) < (c.length : Int)) (by kernel_rfl) (fun c2 => ?_) (fun c2 => ?_))
    · have hbp := hcb p (by omega)
      refine R.go 11 (R.idx eB c 0 p (p : Int) (by kernel_rfl) rfl eB_len (by omega) (by kernel_rfl) ?_)
      refine R.go 1 (R.cv .i64 (c.getD p 0) (by kernel_rfl) (wrap_id (by omega) (by omega)) (by kernel_rfl) ?_)
      refine R.ar ((bits .and .u64 (shr64 (IntKind.u64.wrap ((IntKind.u64.wrap (h * 6364136223846793005)) + 1442695040888963407)) 33) 16777215) + (c.getD p 0)) (by kernel_rfl) (by omega) (by omega) (by kernel_rfl) ?_
      refine R.go 8 (R.ar ((p : Int) + 1) (by kernel_rfl) (by omega) (by omega) (by kernel_rfl) ?_)
      refine R.go 8 (R.rem ((bits .and .u64 (shr64 (IntKind.u64.wrap ((IntKind.u64.wrap (h * 6364136223846793005)) + 1442695040888963407)) 33) 16777215) + (c.getD p 0)) n (by kernel_rfl) (by omega) (by omega) (by kernel_rfl) ?_)
      exact R.go 2 (R.retX (res := AI (((bits .and .u64 (shr64 (IntKind.u64.wrap ((IntKind.u64.wrap (h * 6364136223846793005)) + 1442695040888963407)) 33) 16777215) + (c.getD p 0)) % n)) (hp' := [.box 120 [LB c, AI ((p : Int) + 1), .int .u64 (IntKind.u64.wrap ((IntKind.u64.wrap (h * 6364136223846793005)) + 1442695040888963407))], .list eo1 so1 no1 co1, .list eo2 so2 no2 co2, .list eo3 so3 no3 co3, .list eo4 so4 no4 co4, .list eo5 so5 no5 co5, .list eo6 so6 no6 co6, .list eo7 so7 no7 co7, .list eo8 so8 no8 co8, .dead]) (by kernel_rfl) (by kernel_rfl) (by kernel_rfl) (by kernel_rfl) ⟨[0, 1, 2, 3, 4, 5, 6, 7, 8], by kernel_rfl, by decide, ((bits .and .u64 (shr64 (IntKind.u64.wrap ((IntKind.u64.wrap (h * 6364136223846793005)) + 1442695040888963407)) 33) 16777215) + (c.getD p 0)) % n, p + 1, IntKind.u64.wrap ((IntKind.u64.wrap (h * 6364136223846793005)) + 1442695040888963407), by first | exact mod_rng (by assumption) | exact ⟨fun _ => rfl, fun h1 => by omega⟩, by kernel_rfl, by kernel_rfl⟩)
    · refine R.go 5 (R.rem (bits .and .u64 (shr64 (IntKind.u64.wrap ((IntKind.u64.wrap (h * 6364136223846793005)) + 1442695040888963407)) 33) 16777215) n (by kernel_rfl) (by omega) (by omega) (by kernel_rfl) ?_)
      exact R.go 2 (R.retX (res := AI ((bits .and .u64 (shr64 (IntKind.u64.wrap ((IntKind.u64.wrap (h * 6364136223846793005)) + 1442695040888963407)) 33) 16777215) % n)) (hp' := [.box 120 [LB c, AI (p : Int), .int .u64 (IntKind.u64.wrap ((IntKind.u64.wrap (h * 6364136223846793005)) + 1442695040888963407))], .list eo1 so1 no1 co1, .list eo2 so2 no2 co2, .list eo3 so3 no3 co3, .list eo4 so4 no4 co4, .list eo5 so5 no5 co5, .list eo6 so6 no6 co6, .list eo7 so7 no7 co7, .list eo8 so8 no8 co8, .dead]) (by kernel_rfl) (by kernel_rfl) (by kernel_rfl) (by kernel_rfl) ⟨[0, 1, 2, 3, 4, 5, 6, 7, 8], by kernel_rfl, by decide, (bits .and .u64 (shr64 (IntKind.u64.wrap ((IntKind.u64.wrap (h * 6364136223846793005)) + 1442695040888963407)) 33) 16777215) % n, p, IntKind.u64.wrap ((IntKind.u64.wrap (h * 6364136223846793005)) + 1442695040888963407), by first | exact mod_rng (by assumption) | exact ⟨fun _ => rfl, fun h1 => by omega⟩, by kernel_rfl, by kernel_rfl⟩)

theorem nextX_c_r9 (c : List Int) (p : Nat) (h : Int) (n : Int) (eo1 : Nat) (so1 : Nat) (no1 : Nat) (co1 : List AV) (eo2 : Nat) (so2 : Nat) (no2 : Nat) (co2 : List AV) (eo3 : Nat) (so3 : Nat) (no3 : Nat) (co3 : List AV) (eo4 : Nat) (so4 : Nat) (no4 : Nat) (co4 : List AV) (eo5 : Nat) (so5 : Nat) (no5 : Nat) (co5 : List AV) (eo6 : Nat) (so6 : Nat) (no6 : Nat) (co6 : List AV) (eo7 : Nat) (so7 : Nat) (no7 : Nat) (co7 : List AV) (eo8 : Nat) (so8 : Nat) (no8 : Nat) (co8 : List AV) (eo9 : Nat) (so9 : Nat) (no9 : Nat) (co9 : List AV) (hc : BY c) : CallX Tryz.prog 53 [.ptr 0 0, AI n] [.box 120 [LB c, AI (p : Int), .int .u64 h], .list eo1 so1 no1 co1, .list eo2 so2 no2 co2, .list eo3 so3 no3 co3, .list eo4 so4 no4 co4, .list eo5 so5 no5 co5, .list eo6 so6 no6 co6, .list eo7 so7 no7 co7, .list eo8 so8 no8 co8, .list eo9 so9 no9 co9] (fun (resX : AV) (objX : List AObj) => ∃ v : Int, ∃ p1 : Nat, ∃ h1 : Int, ((n < 1 → v = 0) ∧ (1 ≤ n → 0 ≤ v ∧ v < n)) ∧ resX = AI v ∧ objX = [.box 120 [LB c, AI (p1 : Int), .int .u64 h1], .list eo1 so1 no1 co1, .list eo2 so2 no2 co2, .list eo3 so3 no3 co3, .list eo4 so4 no4 co4, .list eo5 so5 no5 co5, .list eo6 so6 no6 co6, .list eo7 so7 no7 co7, .list eo8 so8 no8 co8, .list eo9 so9 no9 co9]) := by
  have hcl : c.length ≤ 4096 := hc.1
  have hcb := hc.2
  have hxr := fun h => u64and (shr64 (IntKind.u64.wrap (IntKind.u64.wrap (h * 6364136223846793005) + 1442695040888963407)) 33)
  have hxh := hxr h
  refine CallX.dropE (CallX.ofF Tryz.func53 rfl (by kernel_rfl) ?_)
  intro usC frC hfC
  refine R.go 10 (R.cond (n < 1) (by kernel_rfl) (fun c1 => ?_) (fun c1 => ?_))
  · exact R.go 4 (R.retX (res := AI 0) (hp' := [.box 120 [LB c, AI (p : Int), .int .u64 h], .list eo1 so1 no1 co1, .list eo2 so2 no2 co2, .list eo3 so3 no3 co3, .list eo4 so4 no4 co4, .list eo5 so5 no5 co5, .list eo6 so6 no6 co6, .list eo7 so7 no7 co7, .list eo8 so8 no8 co8, .list eo9 so9 no9 co9, .dead]) (by kernel_rfl) (by kernel_rfl) (by kernel_rfl) (by kernel_rfl) ⟨[0, 1, 2, 3, 4, 5, 6, 7, 8, 9], by kernel_rfl, by decide, 0, p, h, by first | exact mod_rng (by assumption) | exact ⟨fun _ => rfl, fun h1 => by omega⟩, by kernel_rfl, by kernel_rfl⟩)
  · refine R.go 22 (R.cv .i64 (bits .and .u64 (shr64 (IntKind.u64.wrap ((IntKind.u64.wrap (h * 6364136223846793005)) + 1442695040888963407)) 33) 16777215) (by kernel_rfl) (wrap_id (by omega) (by omega)) (by kernel_rfl) ?_)
    refine R.go 16 (R.cond ((p : Int) < (c.length : Int)) (by kernel_rfl) (fun c2 => ?_) (fun c2 => ?_))
    · have hbp := hcb p (by omega)
      refine R.go 11 (R.idx eB c 0 p (p : Int) (by kernel_rfl) rfl eB_len (by omega) (by kernel_rfl) ?_)
      refine R.go 1 (R.cv .i64 (c.getD p 0) (by kernel_rfl) (wrap_id (by omega) (by omega)) (by kernel_rfl) ?_)
      refine R.ar ((bits .and .u64 (shr64 (IntKind.u64.wrap ((IntKind.u64.wrap (h * 6364136223846793005)) + 1442695040888963407)) 33) 16777215) + (c.getD p 0)) (by kernel_rfl) (by omega) (by omega) (by kernel_rfl) ?_
      refine R.go 8 (R.ar ((p : Int) + 1) (by kernel_rfl) (by omega) (by omega) (by kernel_rfl) ?_)
      refine R.go 8 (R.rem ((bits .and .u64 (shr64 (IntKind.u64.wrap ((IntKind.u64.wrap (h * 6364136223846793005)) + 1442695040888963407)) 33) 16777215) + (c.getD p 0)) n (by kernel_rfl) (by omega) (by omega) (by kernel_rfl) ?_)
      exact R.go 2 (R.retX (res := AI (((bits .and .u64 (shr64 (IntKind.u64.wrap ((IntKind.u64.wrap (h * 6364136223846793005)) + 1442695040888963407)) 33) 16777215) + (c.getD p 0)) % n)) (hp' := [.box 120 [LB c, AI ((p : Int) + 1), .int .u64 (IntKind.u64.wrap ((IntKind.u64.wrap (h * 6364136223846793005)) + 1442695040888963407))], .list eo1 so1 no1 co1, .list eo2 so2 no2 co2, .list eo3 so3 no3 co3, .list eo4 so4 no4 co4, .list eo5 so5 no5 co5, .list eo6 so6 no6 co6, .list eo7 so7 no7 co7, .list eo8 so8 no8 co8, .list eo9 so9 no9 co9, .dead]) (by kernel_rfl) (by kernel_rfl) (by kernel_rfl) (by kernel_rfl) ⟨[0, 1, 2, 3, 4, 5, 6, 7, 8, 9], by kernel_rfl, by decide, ((bits .and .u64 (shr64 (IntKind.u64.wrap ((IntKind.u64.wrap (h * 6364136223846793005)) + 1442695040888963407)) 33) 16777215) + (c.getD p 0)) % n, p + 1, IntKind.u64.wrap ((IntKind.u64.wrap (h * 6364136223846793005)) + 1442695040888963407), by first | exact mod_rng (by assumption) | exact ⟨fun _ => rfl, fun h1 => by omega⟩, by kernel_rfl, by kernel_rfl⟩)
    · refine R.go 5 (R.rem (bits .and .u64 (shr64 (IntKind.u64.wrap ((IntKind.u64.wrap (h * 6364136223846793005)) + 1442695040888963407)) 33) 16777215) n (by kernel_rfl) (by omega) (by omega) (by kernel_rfl) ?_)
      exact R.go 2 (R.retX (res := AI ((bits .and .u64 (shr64 (IntKind.u64.wrap ((IntKind.u64.wrap (h * 6364136223846793005)) + 1442695040888963407)) 33) 16777215) % n)) (hp' := [.box 120 [LB c, AI (p : Int), .int .u64 (IntKind.u64.wrap ((IntKind.u64.wrap (h * 6364136223846793005)) + 1442695040888963407))], .list eo1 so1 no1 co1, .list eo2 so2 no2 co2, .list eo3 so3 no3 co3, .list eo4 so4 no4 co4, .list eo5 so5 no5 co5, .list eo6 so6 no6 co6, .list eo7 so7 no7 co7, .list eo8 so8 no8 co8, .list eo9 so9 no9 co9, .dead]) (by kernel_rfl) (by kernel_rfl) (by kernel_rfl) (by kernel_rfl) ⟨[0, 1, 2, 3, 4, 5, 6, 7, 8, 9], by kernel_rfl, by decide, (bits .and .u64 (shr64 (IntKind.u64.wrap ((IntKind.u64.wrap (h * 6364136223846793005)) + 1442695040888963407)) 33) 16777215) % n, p, IntKind.u64.wrap ((IntKind.u64.wrap (h * 6364136223846793005)) + 1442695040888963407), by first | exact mod_rng (by assumption) | exact ⟨fun _ => rfl, fun h1 => by omega⟩, by kernel_rfl, by kernel_rfl⟩)

theorem nextX_c_r10 (c : List Int) (p : Nat) (h : Int) (n : Int) (eo1 : Nat) (so1 : Nat) (no1 : Nat) (co1 : List AV) (eo2 : Nat) (so2 : Nat) (no2 : Nat) (co2 : List AV) (eo3 : Nat) (so3 : Nat) (no3 : Nat) (co3 : List AV) (eo4 : Nat) (so4 : Nat) (no4 : Nat) (co4 : List AV) (eo5 : Nat) (so5 : Nat) (no5 : Nat) (co5 : List AV) (eo6 : Nat) (so6 : Nat) (no6 : Nat) (co6 : List AV) (eo7 : Nat) (so7 : Nat) (no7 : Nat) (co7 : List AV) (eo8 : Nat) (so8 : Nat) (no8 : Nat) (co8 : List AV) (eo9 : Nat) (so9 : Nat) (no9 : Nat) (co9 : List AV) (eo10 : Nat) (so10 : Nat) (no10 : Nat) (co10 : List AV) (hc : BY c) : CallX Tryz.prog 53 [.ptr 0 0, AI n] [.box 120 [LB c, AI (p : Int), .int .u64 h], .list eo1 so1 no1 co1, .list eo2 so2 no2 co2, .list eo3 so3 no3 co3, .list eo4 so4 no4 co4, .list eo5 so5 no5 co5, .list eo6 so6 no6 co6, .list eo7 so7 no7 co7, .list eo8 so8 no8 co8, .list eo9 so9 no9 co9, .list eo10 so10 no10 co10] (fun (resX : AV) (objX : List AObj) => ∃ v : Int, ∃ p1 : Nat, ∃ h1 : Int, ((n < 1 → v = 0) ∧ (1 ≤ n → 0 ≤ v ∧ v < n)) ∧ resX = AI v ∧ objX = [.box 120 [LB c, AI (p1 : Int), .int .u64 h1], .list eo1 so1 no1 co1, .list eo2 so2 no2 co2, .list eo3 so3 no3 co3, .list eo4 so4 no4 co4, .list eo5 so5 no5 co5, .list eo6 so6 no6 co6, .list eo7 so7 no7 co7, .list eo8 so8 no8 co8, .list eo9 so9 no9 co9, .list eo10 so10 no10 co10]) := by
  have hcl : c.length ≤ 4096 := hc.1
  have hcb := hc.2
  have hxr := fun h => u64and (shr64 (IntKind.u64.wrap (IntKind.u64.wrap (h * 6364136223846793005) + 1442695040888963407)) 33)
  have hxh := hxr h
  refine CallX.dropE (CallX.ofF Tryz.func53 rfl (by kernel_rfl) ?_)
  intro usC frC hfC
  refine R.go 10 (R.cond (n < 1) (by kernel_rfl) (fun c1 => ?_) (fun c1 => ?_))
  · exact R.go 4 (R.retX (res := AI 0) (hp' := [.box 120 [LB c, AI (p : Int), .int .u64 h], .list eo1 so1 no1 co1, .list eo2 so2 no2 co2, .list eo3 so3 no3 co3, .list eo4 so4 no4 co4, .list eo5 so5 no5 co5, .list eo6 so6 no6 co6, .list eo7 so7 no7 co7, .list eo8 so8 no8 co8, .list eo9 so9 no9 co9, .list eo10 so10 no10 co10, .dead]) (by kernel_rfl) (by kernel_rfl) (by kernel_rfl) (by kernel_rfl) ⟨[0, 1, 2, 3, 4, 5, 6, 7, 8, 9, 10], by kernel_rfl, by decide, 0, p, h, by first | exact mod_rng (by assumption) | exact ⟨fun _ => rfl, fun h1 => by omega⟩, by kernel_rfl, by kernel_rfl⟩)
  · refine R.go 22 (R.cv .i64 (bits .and .u64 (shr64 (IntKind.u64.wrap ((IntKind.u64.wrap (h * 6364136223846793005)) + 1442695040888963407)) 33) 16777215) (by kernel_rfl) (wrap_id (by omega) (by omega)) (by kernel_rfl) ?_)
    refine R.go 16 (R.cond ((p : Int) < (c.length : Int)) (by kernel_rfl) (fun c2 => ?_) (fun c2 => ?_))
    · have hbp := hcb p (by omega)
      refine R.go 11 (R.idx eB c 0 p (p : Int) (by kernel_rfl) rfl eB_len (by omega) (by kernel_rfl) ?_)
      refine R.go 1 (R.cv .i64 (c.getD p 0) (by kernel_rfl) (wrap_id (by omega) (by omega)) (by kernel_rfl) ?_)
      refine R.ar ((bits .and .u64 (shr64 (IntKind.u64.wrap ((IntKind.u64.wrap (h * 6364136223846793005)) + 1442695040888963407)) 33) 16777215) + (c.getD p 0)) (by kernel_rfl) (by omega) (by omega) (by kernel_rfl) ?_
      refine R.go 8 (R.ar ((p : Int) + 1) (by kernel_rfl) (by omega) (by omega) (by kernel_rfl) ?_)
      refine R.go 8 (R.rem ((bits .and .u64 (shr64 (IntKind.u64.wrap ((IntKind.u64.wrap (h * 6364136223846793005)) + 1442695040888963407)) 33) 16777215) + (c.getD p 0)) n (by kernel_rfl) (by omega) (by omega) (by kernel_rfl) ?_)
      exact R.go 2 (R.retX (res := AI (((bits .and .u64 (shr64 (IntKind.u64.wrap ((IntKind.u64.wrap (h * 6364136223846793005)) + 1442695040888963407)) 33) 16777215) + (c.getD p 0)) % n)) (hp' := [.box 120 [LB c, AI ((p : Int) + 1), .int .u64 (IntKind.u64.wrap ((IntKind.u64.wrap (h * 6364136223846793005)) + 1442695040888963407))], .list eo1 so1 no1 co1, .list eo2 so2 no2 co2, .list eo3 so3 no3 co3, .list eo4 so4 no4 co4, .list eo5 so5 no5 co5, .list eo6 so6 no6 co6, .list eo7 so7 no7 co7, .list eo8 so8 no8 co8, .list eo9 so9 no9 co9, .list eo10 so10 no10 co10, .dead]) (by kernel_rfl) (by kernel_rfl) (by kernel_rfl) (by kernel_rfl) ⟨[0, 1, 2, 3, 4, 5, 6, 7, 8, 9, 10], by kernel_rfl, by decide, ((bits .and .u64 (shr64 (IntKind.u64.wrap ((IntKind.u64.wrap (h * 6364136223846793005)) + 1442695040888963407)) 33) 16777215) + (c.getD p 0)) % n, p + 1, IntKind.u64.wrap ((IntKind.u64.wrap (h * 6364136223846793005)) + 1442695040888963407), by first | exact mod_rng (by assumption) | exact ⟨fun _ => rfl, fun h1 => by omega⟩, by kernel_rfl, by kernel_rfl⟩)
    · refine R.go 5 (R.rem (bits .and .u64 (shr64 (IntKind.u64.wrap ((IntKind.u64.wrap (h * 6364136223846793005)) + 1442695040888963407)) 33) 16777215) n (by kernel_rfl) (by omega) (by omega) (by kernel_rfl) ?_)
      exact R.go 2 (R.retX (res := AI ((bits .and .u64 (shr64 (IntKind.u64.wrap ((IntKind.u64.wrap (h * 6364136223846793005)) + 1442695040888963407)) 33) 16777215) % n)) (hp' := [.box 120 [LB c, AI (p : Int), .int .u64 (IntKind.u64.wrap ((IntKind.u64.wrap (h * 6364136223846793005)) + 1442695040888963407))], .list eo1 so1 no1 co1, .list eo2 so2 no2 co2, .list eo3 so3 no3 co3, .list eo4 so4 no4 co4, .list eo5 so5 no5 co5, .list eo6 so6 no6 co6, .list eo7 so7 no7 co7, .list eo8 so8 no8 co8, .list eo9 so9 no9 co9, .list eo10 so10 no10 co10, .dead]) (by kernel_rfl) (by kernel_rfl) (by kernel_rfl) (by kernel_rfl) ⟨[0, 1, 2, 3, 4, 5, 6, 7, 8, 9, 10], by kernel_rfl, by decide, (bits .and .u64 (shr64 (IntKind.u64.wrap ((IntKind.u64.wrap (h * 6364136223846793005)) + 1442695040888963407)) 33) 16777215) % n, p, IntKind.u64.wrap ((IntKind.u64.wrap (h * 6364136223846793005)) + 1442695040888963407), by first | exact mod_rng (by assumption) | exact ⟨fun _ => rfl, fun h1 => by omega⟩, by kernel_rfl, by kernel_rfl⟩)

theorem nextX_c_r8b (c : List Int) (p : Nat) (h : Int) (n : Int) (eo1 : Nat) (so1 : Nat) (no1 : Nat) (co1 : List AV) (eo2 : Nat) (so2 : Nat) (no2 : Nat) (co2 : List AV) (eo3 : Nat) (so3 : Nat) (no3 : Nat) (co3 : List AV) (eo4 : Nat) (so4 : Nat) (no4 : Nat) (co4 : List AV) (eo5 : Nat) (so5 : Nat) (no5 : Nat) (co5 : List AV) (eo6 : Nat) (so6 : Nat) (no6 : Nat) (co6 : List AV) (eo7 : Nat) (so7 : Nat) (no7 : Nat) (co7 : List AV) (eo8 : Nat) (so8 : Nat) (no8 : Nat) (co8 : List AV) (to9 : Nat) (a_x : Int) (hc : BY c) : CallX Tryz.prog 53 [.ptr 0 0, AI n] [.box 120 [LB c, AI (p : Int), .int .u64 h], .list eo1 so1 no1 co1, .list eo2 so2 no2 co2, .list eo3 so3 no3 co3, .list eo4 so4 no4 co4, .list eo5 so5 no5 co5, .list eo6 so6 no6 co6, .list eo7 so7 no7 co7, .list eo8 so8 no8 co8, .box to9 [AI a_x, .ref 8]] (fun (resX : AV) (objX : List AObj) => ∃ v : Int, ∃ p1 : Nat, ∃ h1 : Int, ((n < 1 → v = 0) ∧ (1 ≤ n → 0 ≤ v ∧ v < n)) ∧ resX = AI v ∧ objX = [.box 120 [LB c, AI (p1 : Int), .int .u64 h1], .list eo1 so1 no1 co1, .list eo2 so2 no2 co2, .list eo3 so3 no3 co3, .list eo4 so4 no4 co4, .list eo5 so5 no5 co5, .list eo6 so6 no6 co6, .list eo7 so7 no7 co7, .list eo8 so8 no8 co8, .box to9 [AI a_x, .ref 8]]) := by
  have hcl : c.length ≤ 4096 := hc.1
  have hcb := hc.2
  have hxr := fun h => u64and (shr64 (IntKind.u64.wrap (IntKind.u64.wrap (h * 6364136223846793005) + 1442695040888963407)) 33)
  have hxh := hxr h
  refine CallX.dropE (CallX.ofF Tryz.func53 rfl (by kernel_rfl) ?_)
  intro usC frC hfC
  refine R.go 10 (R.cond (n < 1) (by kernel_rfl) (fun c1 => ?_) (fun c1 => ?_))
  · exact R.go 4 (R.retX (res := AI 0) (hp' := [.box 120 [LB c, AI (p : Int), .int .u64 h], .list eo1 so1 no1 co1, .list eo2 so2 no2 co2, .list eo3 so3 no3 co3, .list eo4 so4 no4 co4, .list eo5 so5 no5 co5, .list eo6 so6 no6 co6, .list eo7 so7 no7 co7, .list eo8 so8 no8 co8, .box to9 [AI a_x, .ref 8], .dead]) (by kernel_rfl) (by kernel_rfl) (by kernel_rfl) (by kernel_rfl) ⟨[0, 1, 2, 3, 4, 5, 6, 7, 8, 9], by kernel_rfl, by decide, 0, p, h, by first | exact mod_rng (by assumption) | exact ⟨fun _ => rfl, fun h1 => by omega⟩, by kernel_rfl, by kernel_rfl⟩)
  · refine R.go 22 (R.cv .i64 (bits .and .u64 (shr64 (IntKind.u64.wrap ((IntKind.u64.wrap (h * 6364136223846793005)) + 1442695040888963407)) 33) 16777215) (by kernel_rfl) (wrap_id (by omega) (by omega)) (by kernel_rfl) ?_)
    refine R.go 16 (R.cond ((p : Int) < (c.length : Int)) (by kernel_rfl) (fun c2 => ?_) (fun c2 => ?_))
    · have hbp := hcb p (by omega)
      refine R.go 11 (R.idx eB c 0 p (p : Int) (by kernel_rfl) rfl eB_len (by omega) (by kernel_rfl) ?_)
      refine R.go 1 (R.cv .i64 (c.getD p 0) (by kernel_rfl) (wrap_id (by omega) (by omega)) (by kernel_rfl) ?_)
      refine R.ar ((bits .and .u64 (shr64 (IntKind.u64.wrap ((IntKind.u64.wrap (h * 6364136223846793005)) + 1442695040888963407)) 33) 16777215) + (c.getD p 0)) (by kernel_rfl) (by omega) (by omega) (by kernel_rfl) ?_
      refine R.go 8 (R.ar ((p : Int) + 1) (by kernel_rfl) (by omega) (by omega) (by kernel_rfl) ?_)
      refine R.go 8 (R.rem ((bits .and .u64 (shr64 (IntKind.u64.wrap ((IntKind.u64.wrap (h * 6364136223846793005)) + 1442695040888963407)) 33) 16777215) + (c.getD p 0)) n (by kernel_rfl) (by omega) (by omega) (by kernel_rfl) ?_)
      exact R.go 2 (R.retX (res := AI (((bits .and .u64 (shr64 (IntKind.u64.wrap ((IntKind.u64.wrap (h * 6364136223846793005)) + 1442695040888963407)) 33) 16777215) + (c.getD p 0)) % n)) (hp' := [.box 120 [LB c, AI ((p : Int) + 1), .int .u64 (IntKind.u64.wrap ((IntKind.u64.wrap (h * 6364136223846793005)) + 1442695040888963407))], .list eo1 so1 no1 co1, .list eo2 so2 no2 co2, .list eo3 so3 no3 co3, .list eo4 so4 no4 co4, .list eo5 so5 no5 co5, .list eo6 so6 no6 co6, .list eo7 so7 no7 co7, .list eo8 so8 no8 co8, .box to9 [AI a_x, .ref 8], .dead]) (by kernel_rfl) (by kernel_rfl) (by kernel_rfl) (by kernel_rfl) ⟨[0, 1, 2, 3, 4, 5, 6, 7, 8, 9], by kernel_rfl, by decide, ((bits .and .u64 (shr64 (IntKind.u64.wrap ((IntKind.u64.wrap (h * 6364136223846793005)) + 1442695040888963407)) 33) 16777215) + (c.getD p 0)) % n, p + 1, IntKind.u64.wrap ((IntKind.u64.wrap (h * 6364136223846793005)) + 1442695040888963407), by first | exact mod_rng (by assumption) | exact ⟨fun _ => rfl, fun h1 => by omega⟩, by kernel_rfl, by kernel_rfl⟩)
    · refine R.go 5 (R.rem (bits .and .u64 (shr64 (IntKind.u64.wrap ((IntKind.u64.wrap (h * 6364136223846793005)) + 1442695040888963407)) 33) 16777215) n (by kernel_rfl) (by omega) (by omega) (by kernel_rfl) ?_)
      exact R.go 2 (R.retX (res := AI ((bits .and .u64 (shr64 (IntKind.u64.wrap ((IntKind.u64.wrap (h * 6364136223846793005)) + 1442695040888963407)) 33) 16777215) % n)) (hp' := [.box 120 [LB c, AI (p : Int), .int .u64 (IntKind.u64.wrap ((IntKind.u64.wrap (h * 6364136223846793005)) + 1442695040888963407))], .list eo1 so1 no1 co1, .list eo2 so2 no2 co2, .list eo3 so3 no3 co3, .list eo4 so4 no4 co4, .list eo5 so5 no5 co5, .list eo6 so6 no6 co6, .list eo7 so7 no7 co7, .list eo8 so8 no8 co8, .box to9 [AI a_x, .ref 8], .dead]) (by kernel_rfl) (by kernel_rfl) (by kernel_rfl) (by kernel_rfl) ⟨[0, 1, 2, 3, 4, 5, 6, 7, 8, 9], by kernel_rfl, by decide, (bits .and .u64 (shr64 (IntKind.u64.wrap ((IntKind.u64.wrap (h * 6364136223846793005)) + 1442695040888963407)) 33) 16777215) % n, p, IntKind.u64.wrap ((IntKind.u64.wrap (h * 6364136223846793005)) + 1442695040888963407), by first | exact mod_rng (by assumption) | exact ⟨fun _ => rfl, fun h1 => by omega⟩, by kernel_rfl, by kernel_rfl⟩)

theorem nextX_c_r9b (c : List Int) (p : Nat) (h : Int) (n : Int) (eo1 : Nat) (so1 : Nat) (no1 : Nat) (co1 : List AV) (eo2 : Nat) (so2 : Nat) (no2 : Nat) (co2 : List AV) (eo3 : Nat) (so3 : Nat) (no3 : Nat) (co3 : List AV) (eo4 : Nat) (so4 : Nat) (no4 : Nat) (co4 : List AV) (eo5 : Nat) (so5 : Nat) (no5 : Nat) (co5 : List AV) (eo6 : Nat) (so6 : Nat) (no6 : Nat) (co6 : List AV) (eo7 : Nat) (so7 : Nat) (no7 : Nat) (co7 : List AV) (eo8 : Nat) (so8 : Nat) (no8 : Nat) (co8 : List AV) (eo9 : Nat) (so9 : Nat) (no9 : Nat) (co9 : List AV) (to10 : Nat) (a_x : Int) (hc : BY c) : CallX Tryz.prog 53 [.ptr 0 0, AI n] [.box 120 [LB c, AI (p : Int), .int .u64 h], .list eo1 so1 no1 co1, .list eo2 so2 no2 co2, .list eo3 so3 no3 co3, .list eo4 so4 no4 co4, .list eo5 so5 no5 co5, .list eo6 so6 no6 co6, .list eo7 so7 no7 co7, .list eo8 so8 no8 co8, .list eo9 so9 no9 co9, .box to10 [AI a_x, .ref 9]] (fun (resX : AV) (objX : List AObj) => ∃ v : Int, ∃ p1 : Nat, ∃ h1 : Int, ((n < 1 → v = 0) ∧ (1 ≤ n → 0 ≤ v ∧ v < n)) ∧ resX = AI v ∧ objX = [.box 120 [LB c, AI (p1 : Int), .int .u64 h1], .list eo1 so1 no1 co1, .list eo2 so2 no2 co2, .list eo3 so3 no3 co3, .list eo4 so4 no4 co4, .list eo5 so5 no5 co5, .list eo6 so6 no6 co6, .list eo7 so7 no7 co7, .list eo8 so8 no8 co8, .list eo9 so9 no9 co9, .box to10 [AI a_x, .ref 9]]) := by
  have hcl : c.length ≤ 4096 := hc.1
  have hcb := hc.2
  have hxr := fun h => u64and (shr64 (IntKind.u64.wrap (IntKind.u64.wrap (h * 6364136223846793005) + 1442695040888963407)) 33)
  have hxh := hxr h
  refine CallX.dropE (CallX.ofF Tryz.func53 rfl (by kernel_rfl) ?_)
  intro usC frC hfC
  refine R.go 10 (R.cond (n < 1) (by kernel_rfl) (fun c1 => ?_) (fun c1 => ?_))
  · exact R.go 4 (R.retX (res := AI 0) (hp' := [.box 120 [LB c, AI (p : Int), .int .u64 h], .list eo1 so1 no1 co1, .list eo2 so2 no2 co2, .list eo3 so3 no3 co3, .list eo4 so4 no4 co4, .list eo5 so5 no5 co5, .list eo6 so6 no6 co6, .list eo7 so7 no7 co7, .list eo8 so8 no8 co8, .list eo9 so9 no9 co9, .box to10 [AI a_x, .ref 9], .dead]) (by kernel_rfl) (by kernel_rfl) (by kernel_rfl) (by kernel_rfl) ⟨[0, 1, 2, 3, 4, 5, 6, 7, 8, 9, 10], by kernel_rfl, by decide, 0, p, h, by first | exact mod_rng (by assumption) | exact ⟨fun _ => rfl, fun h1 => by omega⟩, by kernel_rfl, by kernel_rfl⟩)
  · refine R.go 22 (R.cv .i64 (bits .and .u64 (shr64 (IntKind.u64.wrap ((IntKind.u64.wrap (h * 6364136223846793005)) + 1442695040888963407)) 33) 16777215) (by kernel_rfl) (wrap_id (by omega) (by omega)) (by kernel_rfl) ?_)
    refine R.go 16 (R.cond ((p : Int) < (c.length : Int)) (by kernel_rfl) (fun c2 => ?_) (fun c2 => ?_))
    · have hbp := hcb p (by omega)
      refine R.go 11 (R.idx eB c 0 p (p : Int) (by kernel_rfl) rfl eB_len (by omega) (by kernel_rfl) ?_)
      refine R.go 1 (R.cv .i64 (c.getD p 0) (by kernel_rfl) (wrap_id (by omega) (by omega)) (by kernel_rfl) ?_)
      refine R.ar ((bits .and .u64 (shr64 (IntKind.u64.wrap ((IntKind.u64.wrap (h * 6364136223846793005)) + 1442695040888963407)) 33) 16777215) + (c.getD p 0)) (by kernel_rfl) (by omega) (by omega) (by kernel_rfl) ?_
      refine R.go 8 (R.ar ((p : Int) + 1) (by kernel_rfl) (by omega) (by omega) (by kernel_rfl) ?_)
      refine R.go 8 (R.rem ((bits .and .u64 (shr64 (IntKind.u64.wrap ((IntKind.u64.wrap (h * 6364136223846793005)) + 1442695040888963407)) 33) 16777215) + (c.getD p 0)) n (by kernel_rfl) (by omega) (by omega) (by kernel_rfl) ?_)
      exact R.go 2 (R.retX (res := AI (((bits .and .u64 (shr64 (IntKind.u64.wrap ((IntKind.u64.wrap (h * 6364136223846793005)) + 1442695040888963407)) 33) 16777215) + (c.getD p 0)) % n)) (hp' := [.box 120 [LB c, AI ((p : Int) + 1), .int .u64 (IntKind.u64.wrap ((IntKind.u64.wrap (h * 6364136223846793005)) + 1442695040888963407))], .list eo1 so1 no1 co1, .list eo2 so2 no2 co2, .list eo3 so3 no3 co3, .list eo4 so4 no4 co4, .list eo5 so5 no5 co5, .list eo6 so6 no6 co6, .list eo7 so7 no7 co7, .list eo8 so8 no8 co8, .list eo9 so9 no9 co9, .box to10 [AI a_x, .ref 9], .dead]) (by kernel_rfl) (by kernel_rfl) (by kernel_rfl) (by kernel_rfl) ⟨[0, 1, 2, 3, 4, 5, 6, 7, 8, 9, 10], by kernel_rfl, by decide, ((bits .and .u64 (shr64 (IntKind.u64.wrap ((IntKind.u64.wrap (h * 6364136223846793005)) + 1442695040888963407)) 33) 16777215) + (c.getD p 0)) % n, p + 1, IntKind.u64.wrap ((IntKind.u64.wrap (h * 6364136223846793005)) + 1442695040888963407), by first | exact mod_rng (by assumption) | exact ⟨fun _ => rfl, fun h1 => by omega⟩, by kernel_rfl, by kernel_rfl⟩)
    · refine R.go 5 (R.rem (bits .and .u64 (shr64 (IntKind.u64.wrap ((IntKind.u64.wrap (h * 6364136223846793005)) + 1442695040888963407)) 33) 16777215) n (by kernel_rfl) (by omega) (by omega) (by kernel_rfl) ?_)
      exact R.go 2 (R.retX (res := AI ((bits .and .u64 (shr64 (IntKind.u64.wrap ((IntKind.u64.wrap (h * 6364136223846793005)) + 1442695040888963407)) 33) 16777215) % n)) (hp' := [.box 120 [LB c, AI (p : Int), .int .u64 (IntKind.u64.wrap ((IntKind.u64.wrap (h * 6364136223846793005)) + 1442695040888963407))], .list eo1 so1 no1 co1, .list eo2 so2 no2 co2, .list eo3 so3 no3 co3, .list eo4 so4 no4 co4, .list eo5 so5 no5 co5, .list eo6 so6 no6 co6, .list eo7 so7 no7 co7, .list eo8 so8 no8 co8, .list eo9 so9 no9 co9, .box to10 [AI a_x, .ref 9], .dead]) (by kernel_rfl) (by kernel_rfl) (by kernel_rfl) (by kernel_rfl) ⟨[0, 1, 2, 3, 4, 5, 6, 7, 8, 9, 10], by kernel_rfl, by decide, (bits .and .u64 (shr64 (IntKind.u64.wrap ((IntKind.u64.wrap (h * 6364136223846793005)) + 1442695040888963407)) 33) 16777215) % n, p, IntKind.u64.wrap ((IntKind.u64.wrap (h * 6364136223846793005)) + 1442695040888963407), by first | exact mod_rng (by assumption) | exact ⟨fun _ => rfl, fun h1 => by omega⟩, by kernel_rfl, by kernel_rfl⟩)

theorem pickX_c_r7 (c : List Int) (p : Nat) (h : Int) (L : List Int) (eo1 : Nat) (so1 : Nat) (no1 : Nat) (co1 : List AV) (eo2 : Nat) (so2 : Nat) (no2 : Nat) (co2 : List AV) (eo3 : Nat) (so3 : Nat) (no3 : Nat) (co3 : List AV) (eo4 : Nat) (so4 : Nat) (no4 : Nat) (co4 : List AV) (eo5 : Nat) (so5 : Nat) (no5 : Nat) (co5 : List AV) (eo6 : Nat) (so6 : Nat) (no6 : Nat) (co6 : List AV) (eo7 : Nat) (so7 : Nat) (no7 : Nat) (co7 : List AV) (hc : BY c) (hL : 1 ≤ L.length ∧ L.length ≤ 100) : CallX Tryz.prog 54 [.ptr 0 0, LI L] [.box 120 [LB c, AI (p : Int), .int .u64 h], .list eo1 so1 no1 co1, .list eo2 so2 no2 co2, .list eo3 so3 no3 co3, .list eo4 so4 no4 co4, .list eo5 so5 no5 co5, .list eo6 so6 no6 co6, .list eo7 so7 no7 co7] (fun (resX : AV) (objX : List AObj) => ∃ v : Int, ∃ p1 : Nat, ∃ h1 : Int, resX = AI v ∧ objX = [.box 120 [LB c, AI (p1 : Int), .int .u64 h1], .list eo1 so1 no1 co1, .list eo2 so2 no2 co2, .list eo3 so3 no3 co3, .list eo4 so4 no4 co4, .list eo5 so5 no5 co5, .list eo6 so6 no6 co6, .list eo7 so7 no7 co7]) := by
  have hcl : c.length ≤ 4096 := hc.1
  have hcb := hc.2
  refine CallX.dropE (CallX.ofF Tryz.func54 rfl (by kernel_rfl) ?_)
  intro usC frC hfC
  refine R.go 10 (R.callX (CallX.inF 8 usC frC (nextX_c_r7 c p h L.length eo1 so1 no1 co1 eo2 so2 no2 co2 eo3 so3 no3 co3 eo4 so4 no4 co4 eo5 so5 no5 co5 eo6 so6 no6 co6 eo7 so7 no7 co7 hc) (Nat.le_of_ble_eq_true (by kernel_rfl)) (by kernel_rfl) (by kernel_rfl) (by rintro _ _ ⟨_, _, _, _, rfl, rfl⟩; exact Nat.le_of_ble_eq_true (by kernel_rfl))) (by kernel_rfl) (by kernel_rfl) (by kernel_rfl) ?_)
  rintro _ _ ⟨_, _, ⟨v_1, p1_2, h1_3, f4, rfl, rfl⟩, rfl, rfl⟩
  refine R.idx eI L 0 ((v_1).toNat) v_1 (by kernel_rfl) (by omega) eI_len (by omega) (by kernel_rfl) ?_
  exact R.go 3 (R.retX (res := AI (L.getD ((v_1).toNat) 0)) (hp' := [.box 120 [LB c, AI (p1_2 : Int), .int .u64 h1_3], .list eo1 so1 no1 co1, .list eo2 so2 no2 co2, .list eo3 so3 no3 co3, .list eo4 so4 no4 co4, .list eo5 so5 no5 co5, .list eo6 so6 no6 co6, .list eo7 so7 no7 co7, .dead]) (by kernel_rfl) (by kernel_rfl) (by kernel_rfl) (by kernel_rfl) ⟨[0, 1, 2, 3, 4, 5, 6, 7], by kernel_rfl, by decide, (L.getD ((v_1).toNat) 0), p1_2, h1_3, by kernel_rfl, by kernel_rfl⟩)

theorem pickX_c_r8b (c : List Int) (p : Nat) (h : Int) (L : List Int) (eo1 : Nat) (so1 : Nat) (no1 : Nat) (co1 : List AV) (eo2 : Nat) (so2 : Nat) (no2 : Nat) (co2 : List AV) (eo3 : Nat) (so3 : Nat) (no3 : Nat) (co3 : List AV) (eo4 : Nat) (so4 : Nat) (no4 : Nat) (co4 : List AV) (eo5 : Nat) (so5 : Nat) (no5 : Nat) (co5 : List AV) (eo6 : Nat) (so6 : Nat) (no6 : Nat) (co6 : List AV) (eo7 : Nat) (so7 : Nat) (no7 : Nat) (co7 : List AV) (eo8 : Nat) (so8 : Nat) (no8 : Nat) (co8 : List AV) (to9 : Nat) (a_x : Int) (hc : BY c) (hL : 1 ≤ L.length ∧ L.length ≤ 100) : CallX Tryz.prog 54 [.ptr 0 0, LI L] [.box 120 [LB c, AI (p : Int), .int .u64 h], .list eo1 so1 no1 co1, .list eo2 so2 no2 co2, .list eo3 so3 no3 co3, .list eo4 so4 no4 co4, .list eo5 so5 no5 co5, .list eo6 so6 no6 co6, .list eo7 so7 no7 co7, .list eo8 so8 no8 co8, .box to9 [AI a_x, .ref 8]] (fun (resX : AV) (objX : List AObj) => ∃ v : Int, ∃ p1 : Nat, ∃ h1 : Int, resX = AI v ∧ objX = [.box 120 [LB c, AI (p1 : Int), .int .u64 h1], .list eo1 so1 no1 co1, .list eo2 so2 no2 co2, .list eo3 so3 no3 co3, .list eo4 so4 no4 co4, .list eo5 so5 no5 co5, .list eo6 so6 no6 co6, .list eo7 so7 no7 co7, .list eo8 so8 no8 co8, .box to9 [AI a_x, .ref 8]]) := by
  have hcl : c.length ≤ 4096 := hc.1
  have hcb := hc.2
  refine CallX.dropE (CallX.ofF Tryz.func54 rfl (by kernel_rfl) ?_)
  intro usC frC hfC
  refine R.go 10 (R.callX (CallX.inF 10 usC frC (nextX_c_r8b c p h L.length eo1 so1 no1 co1 eo2 so2 no2 co2 eo3 so3 no3 co3 eo4 so4 no4 co4 eo5 so5 no5 co5 eo6 so6 no6 co6 eo7 so7 no7 co7 eo8 so8 no8 co8 to9 a_x hc) (Nat.le_of_ble_eq_true (by kernel_rfl)) (by kernel_rfl) (by kernel_rfl) (by rintro _ _ ⟨_, _, _, _, rfl, rfl⟩; exact Nat.le_of_ble_eq_true (by kernel_rfl))) (by kernel_rfl) (by kernel_rfl) (by kernel_rfl) ?_)
  rintro _ _ ⟨_, _, ⟨v_1, p1_2, h1_3, f4, rfl, rfl⟩, rfl, rfl⟩
  refine R.idx eI L 0 ((v_1).toNat) v_1 (by kernel_rfl) (by omega) eI_len (by omega) (by kernel_rfl) ?_
  exact R.go 3 (R.retX (res := AI (L.getD ((v_1).toNat) 0)) (hp' := [.box 120 [LB c, AI (p1_2 : Int), .int .u64 h1_3], .list eo1 so1 no1 co1, .list eo2 so2 no2 co2, .list eo3 so3 no3 co3, .list eo4 so4 no4 co4, .list eo5 so5 no5 co5, .list eo6 so6 no6 co6, .list eo7 so7 no7 co7, .list eo8 so8 no8 co8, .box to9 [AI a_x, .ref 8], .dead]) (by kernel_rfl) (by kernel_rfl) (by kernel_rfl) (by kernel_rfl) ⟨[0, 1, 2, 3, 4, 5, 6, 7, 8, 9], by kernel_rfl, by decide, (L.getD ((v_1).toNat) 0), p1_2, h1_3, by kernel_rfl, by kernel_rfl⟩)

theorem pickX_c_r9b (c : List Int) (p : Nat) (h : Int) (L : List Int) (eo1 : Nat) (so1 : Nat) (no1 : Nat) (co1 : List AV) (eo2 : Nat) (so2 : Nat) (no2 : Nat) (co2 : List AV) (eo3 : Nat) (so3 : Nat) (no3 : Nat) (co3 : List AV) (eo4 : Nat) (so4 : Nat) (no4 : Nat) (co4 : List AV) (eo5 : Nat) (so5 : Nat) (no5 : Nat) (co5 : List AV) (eo6 : Nat) (so6 : Nat) (no6 : Nat) (co6 : List AV) (eo7 : Nat) (so7 : Nat) (no7 : Nat) (co7 : List AV) (eo8 : Nat) (so8 : Nat) (no8 : Nat) (co8 : List AV) (eo9 : Nat) (so9 : Nat) (no9 : Nat) (co9 : List AV) (to10 : Nat) (a_x : Int) (hc : BY c) (hL : 1 ≤ L.length ∧ L.length ≤ 100) : CallX Tryz.prog 54 [.ptr 0 0, LI L] [.box 120 [LB c, AI (p : Int), .int .u64 h], .list eo1 so1 no1 co1, .list eo2 so2 no2 co2, .list eo3 so3 no3 co3, .list eo4 so4 no4 co4, .list eo5 so5 no5 co5, .list eo6 so6 no6 co6, .list eo7 so7 no7 co7, .list eo8 so8 no8 co8, .list eo9 so9 no9 co9, .box to10 [AI a_x, .ref 9]] (fun (resX : AV) (objX : List AObj) => ∃ v : Int, ∃ p1 : Nat, ∃ h1 : Int, resX = AI v ∧ objX = [.box 120 [LB c, AI (p1 : Int), .int .u64 h1], .list eo1 so1 no1 co1, .list eo2 so2 no2 co2, .list eo3 so3 no3 co3, .list eo4 so4 no4 co4, .list eo5 so5 no5 co5, .list eo6 so6 no6 co6, .list eo7 so7 no7 co7, .list eo8 so8 no8 co8, .list eo9 so9 no9 co9, .box to10 [AI a_x, .ref 9]]) := by
  have hcl : c.length ≤ 4096 := hc.1
  have hcb := hc.2
  refine CallX.dropE (CallX.ofF Tryz.func54 rfl (by kernel_rfl) ?_)
  intro usC frC hfC
  refine R.go 10 (R.callX (CallX.inF 11 usC frC (nextX_c_r9b c p h L.length eo1 so1 no1 co1 eo2 so2 no2 co2 eo3 so3 no3 co3 eo4 so4 no4 co4 eo5 so5 no5 co5 eo6 so6 no6 co6 eo7 so7 no7 co7 eo8 so8 no8 co8 eo9 so9 no9 co9 to10 a_x hc) (Nat.le_of_ble_eq_true (by kernel_rfl)) (by kernel_rfl) (by kernel_rfl) (by rintro _ _ ⟨_, _, _, _, rfl, rfl⟩; exact Nat.le_of_ble_eq_true (by kernel_rfl))) (by kernel_rfl) (by kernel_rfl) (by kernel_rfl) ?_)
  rintro _ _ ⟨_, _, ⟨v_1, p1_2, h1_3, f4, rfl, rfl⟩, rfl, rfl⟩
  refine R.idx eI L 0 ((v_1).toNat) v_1 (by kernel_rfl) (by omega) eI_len (by omega) (by kernel_rfl) ?_
  exact R.go 3 (R.retX (res := AI (L.getD ((v_1).toNat) 0)) (hp' := [.box 120 [LB c, AI (p1_2 : Int), .int .u64 h1_3], .list eo1 so1 no1 co1, .list eo2 so2 no2 co2, .list eo3 so3 no3 co3, .list eo4 so4 no4 co4, .list eo5 so5 no5 co5, .list eo6 so6 no6 co6, .list eo7 so7 no7 co7, .list eo8 so8 no8 co8, .list eo9 so9 no9 co9, .box to10 [AI a_x, .ref 9], .dead]) (by kernel_rfl) (by kernel_rfl) (by kernel_rfl) (by kernel_rfl) ⟨[0, 1, 2, 3, 4, 5, 6, 7, 8, 9, 10], by kernel_rfl, by decide, (L.getD ((v_1).toNat) 0), p1_2, h1_3, by kernel_rfl, by kernel_rfl⟩)

theorem someO_c_r7 (c : List Int) (p : Nat) (h : Int) (worlds : Int) (eo1 : Nat) (so1 : Nat) (no1 : Nat) (co1 : List AV) (eo2 : Nat) (so2 : Nat) (no2 : Nat) (co2 : List AV) (eo3 : Nat) (so3 : Nat) (no3 : Nat) (co3 : List AV) (eo4 : Nat) (so4 : Nat) (no4 : Nat) (co4 : List AV) (eo5 : Nat) (so5 : Nat) (no5 : Nat) (co5 : List AV) (eo6 : Nat) (so6 : Nat) (no6 : Nat) (co6 : List AV) (eo7 : Nat) (so7 : Nat) (no7 : Nat) (co7 : List AV) (hc : BY c) (hw : 0 ≤ worlds ∧ worlds ≤ 20) : CallX Tryz.prog 174 [.ptr 0 0, AI worlds] [.box 120 [LB c, AI (p : Int), .int .u64 h], .list eo1 so1 no1 co1, .list eo2 so2 no2 co2, .list eo3 so3 no3 co3, .list eo4 so4 no4 co4, .list eo5 so5 no5 co5, .list eo6 so6 no6 co6, .list eo7 so7 no7 co7] (fun (resX : AV) (objX : List AObj) => ∃ n : Int, ∃ xs : List Int, ∃ p1 : Nat, ∃ h1 : Int, (0 ≤ n ∧ n ≤ worlds) ∧ ((xs.length : Int) = n) ∧ resX = .agg [AI n, .ref 8] ∧ objX = [.box 120 [LB c, AI (p1 : Int), .int .u64 h1], .list eo1 so1 no1 co1, .list eo2 so2 no2 co2, .list eo3 so3 no3 co3, .list eo4 so4 no4 co4, .list eo5 so5 no5 co5, .list eo6 so6 no6 co6, .list eo7 so7 no7 co7, rowA eI 2 1 xs]) := by
  have hcl : c.length ≤ 4096 := hc.1
  have hcb := hc.2
  refine CallX.dropE (CallX.ofF Tryz.func174 rfl (by kernel_rfl) ?_)
  intro usC frC hfC
  refine R.go 8 (R.ar (worlds + 1) (by kernel_rfl) (by omega) (by omega) (by kernel_rfl) ?_)
  refine R.callX (CallX.inF 8 usC frC (CallX.box 8 26 [AI 0, .nil] (nextX_c_r8 c p h (worlds + 1) eo1 so1 no1 co1 eo2 so2 no2 co2 eo3 so3 no3 co3 eo4 so4 no4 co4 eo5 so5 no5 co5 eo6 so6 no6 co6 eo7 so7 no7 co7 26 2 1 [AI 0, .nil] hc) (by kernel_rfl) (by kernel_rfl) (by kernel_rfl) (by kernel_rfl) (by rintro _ _ ⟨_, _, _, _, rfl, rfl⟩; exact ⟨by kernel_rfl, by kernel_rfl, by kernel_rfl⟩)) (Nat.le_of_ble_eq_true (by kernel_rfl)) (by kernel_rfl) (by kernel_rfl) (by rintro _ _ ⟨_, ⟨_, _, _, _, rfl, rfl⟩, rfl⟩; exact Nat.le_of_ble_eq_true (by kernel_rfl))) (by kernel_rfl) (by kernel_rfl) (by kernel_rfl) ?_
  rintro _ _ ⟨_, _, ⟨_, ⟨v_1, p1_2, h1_3, f4, rfl, rfl⟩, rfl⟩, rfl, rfl⟩
  refine R.go 10 (R.callX (CallX.inF 8 usC frC (CallX.box 8 26 [AI 0, .nil] (nextX_c_r9 c p1_2 h1_3 3 eo1 so1 no1 co1 eo2 so2 no2 co2 eo3 so3 no3 co3 eo4 so4 no4 co4 eo5 so5 no5 co5 eo6 so6 no6 co6 eo7 so7 no7 co7 26 2 1 [AI 0, .nil] 2 1 0 (rows eI []) hc) (by kernel_rfl) (by kernel_rfl) (by kernel_rfl) (by kernel_rfl) (by rintro _ _ ⟨_, _, _, _, rfl, rfl⟩; exact ⟨by kernel_rfl, by kernel_rfl, by kernel_rfl⟩)) (Nat.le_of_ble_eq_true (by kernel_rfl)) (by kernel_rfl) (by kernel_rfl) (by rintro _ _ ⟨_, ⟨_, _, _, _, rfl, rfl⟩, rfl⟩; exact Nat.le_of_ble_eq_true (by kernel_rfl))) (by kernel_rfl) (by kernel_rfl) (by kernel_rfl) ?_)
  rintro _ _ ⟨_, _, ⟨_, ⟨v_5, p1_6, h1_7, f8, rfl, rfl⟩, rfl⟩, rfl, rfl⟩
  refine R.go 8 (R.loop ((fun | (i, ys, q, k) => (⟨(frm 101 [(0, .ptr 0 0), (4, .ptr 9 0), (5, AI v_1), (6, .ref 10), (7, AI v_5), (8, AI (i : Int))]), [.box 120 [LB c, AI (q : Int), .int .u64 k], .list eo1 so1 no1 co1, .list eo2 so2 no2 co2, .list eo3 so3 no3 co3, .list eo4 so4 no4 co4, .list eo5 so5 no5 co5, .list eo6 so6 no6 co6, .list eo7 so7 no7 co7, .frame usC frC, .box 26 [AI 0, .nil], rowA eI 2 1 ys]⟩ : St) : Nat × (List Int) × Nat × Int → St)) (fun | (i, ys, q, k) => ((i : Int) ≤ v_1) ∧ (ys.length = i)) (fun | (i, ys, q, k) => (v_1 - i).toNat) (0, [], p1_6, h1_7) [0, 4, 5, 6, 7, 8] none (by kernel_rfl) (by kernel_rfl) (by kernel_rfl) ⟨(by omega), (by rfl)⟩ ?_)
  rintro ⟨i, ys, q, k⟩ ⟨h12_1, h12_2⟩ R9 N10
  refine R.go 7 (R.cond ((i : Int) < v_1) (by kernel_rfl) (fun c13 => ?_) (fun c13 => ?_))
  · have hb : 1 ≤ shl64 1 v_1 ∧ shl64 1 v_1 ≤ 4611686018427387904 := shl_rng v_1 (by omega) (by omega)
    refine R.go 7 (R.call true (l01Full_c v_1 (by first | omega | (simp only [refI_len, wout_len]; omega) | (simp <;> omega)) (by first | omega | (simp only [refI_len, wout_len]; omega) | (simp <;> omega))) (by kernel_rfl) rfl (by kernel_rfl) ?_)
    refine R.ar (((shl64 1 v_1) - 1) + 1) (by kernel_rfl) (by omega) (by omega) (by kernel_rfl) ?_
    refine R.callX (CallX.inF 8 usC frC (CallX.box 8 26 [AI 0, .nil] (nextX_c_r9 c q k (((shl64 1 v_1) - 1) + 1) eo1 so1 no1 co1 eo2 so2 no2 co2 eo3 so3 no3 co3 eo4 so4 no4 co4 eo5 so5 no5 co5 eo6 so6 no6 co6 eo7 so7 no7 co7 26 2 1 [AI 0, .nil] 2 1 ys.length (rows eI ys) hc) (by kernel_rfl) (by kernel_rfl) (by kernel_rfl) (by kernel_rfl) (by rintro _ _ ⟨_, _, _, _, rfl, rfl⟩; exact ⟨by kernel_rfl, by kernel_rfl, by kernel_rfl⟩)) (Nat.le_of_ble_eq_true (by kernel_rfl)) (by kernel_rfl) (by kernel_rfl) (by rintro _ _ ⟨_, ⟨_, _, _, _, rfl, rfl⟩, rfl⟩; exact Nat.le_of_ble_eq_true (by kernel_rfl))) (by kernel_rfl) (by kernel_rfl) (by kernel_rfl) ?_
    rintro _ _ ⟨_, _, ⟨_, ⟨v_14, p1_15, h1_16, f17, rfl, rfl⟩, rfl⟩, rfl, rfl⟩
    refine R.go 8 (R.loop ((fun | (j, m, q2, k2) => (⟨(frm 101 [(0, .ptr 0 0), (4, .ptr 9 0), (5, AI v_1), (6, .ref 10), (7, AI v_5), (8, AI (i : Int)), (9, AI m), (10, AI (j : Int))]), [.box 120 [LB c, AI (q2 : Int), .int .u64 k2], .list eo1 so1 no1 co1, .list eo2 so2 no2 co2, .list eo3 so3 no3 co3, .list eo4 so4 no4 co4, .list eo5 so5 no5 co5, .list eo6 so6 no6 co6, .list eo7 so7 no7 co7, .frame usC frC, .box 26 [AI 0, .nil], rowA eI 2 1 ys]⟩ : St) : Nat × Int × Nat × Int → St)) (fun | (j, m, q2, k2) => True) (fun | (j, m, q2, k2) => (v_5 - j).toNat) (0, v_14, p1_15, h1_16) [0, 4, 5, 6, 7, 8, 9, 10] none (by kernel_rfl) (by kernel_rfl) (by kernel_rfl) trivial ?_)
    rintro ⟨j, m, q2, k2⟩ _ R18 N19
    refine R.go 7 (R.cond ((j : Int) < v_5) (by kernel_rfl) (fun c22 => ?_) (fun c22 => ?_))
    · refine R.go 7 (R.call true (l01Full_c v_1 (by first | omega | (simp only [refI_len, wout_len]; omega) | (simp <;> omega)) (by first | omega | (simp only [refI_len, wout_len]; omega) | (simp <;> omega))) (by kernel_rfl) rfl (by kernel_rfl) ?_)
      refine R.ar (((shl64 1 v_1) - 1) + 1) (by kernel_rfl) (by omega) (by omega) (by kernel_rfl) ?_
      refine R.callX (CallX.inF 8 usC frC (CallX.box 8 26 [AI 0, .nil] (nextX_c_r9 c q2 k2 (((shl64 1 v_1) - 1) + 1) eo1 so1 no1 co1 eo2 so2 no2 co2 eo3 so3 no3 co3 eo4 so4 no4 co4 eo5 so5 no5 co5 eo6 so6 no6 co6 eo7 so7 no7 co7 26 2 1 [AI 0, .nil] 2 1 ys.length (rows eI ys) hc) (by kernel_rfl) (by kernel_rfl) (by kernel_rfl) (by kernel_rfl) (by rintro _ _ ⟨_, _, _, _, rfl, rfl⟩; exact ⟨by kernel_rfl, by kernel_rfl, by kernel_rfl⟩)) (Nat.le_of_ble_eq_true (by kernel_rfl)) (by kernel_rfl) (by kernel_rfl) (by rintro _ _ ⟨_, ⟨_, _, _, _, rfl, rfl⟩, rfl⟩; exact Nat.le_of_ble_eq_true (by kernel_rfl))) (by kernel_rfl) (by kernel_rfl) (by kernel_rfl) ?_
      rintro _ _ ⟨_, _, ⟨_, ⟨v_23, p1_24, h1_25, f26, rfl, rfl⟩, rfl⟩, rfl, rfl⟩
      refine R.go 6 (R.ar ((j : Int) + 1) (by kernel_rfl) (by omega) (by omega) (by kernel_rfl) ?_)
      exact R.go 2 (R.stop R18 (by kernel_rfl) (N19 (j + 1, band m v_23, p1_24, h1_25) [0, 4, 5, 6, 7, 8, 9, 10] none _ (by kernel_rfl) (by kernel_rfl) trivial (by show ((v_5 - (j + 1)).toNat) < ((v_5 - j).toNat); omega)))
    · refine R.go 5 (R.app eI ys [m] 10 2 1 8 (by kernel_rfl) eI_one (by decide) (by first | omega | (simp <;> omega)) (by kernel_rfl) ?_)
      refine R.kfix 8 (us := usC) (by kernel_rfl) (hfC.kill 10 (Nat.le_of_ble_eq_true (by kernel_rfl))) ?_
      refine R.go 5 (R.ar ((i : Int) + 1) (by kernel_rfl) (by omega) (by omega) (by kernel_rfl) ?_)
      exact R.go 2 (R.stop R9 (by kernel_rfl) (N10 (i + 1, ys ++ [m], q2, k2) [0, 4, 5, 6, 7, 8] (some [0, 1, 2, 3, 4, 5, 6, 7, 8, 9, 10]) _ (by kernel_rfl) (canonF (fr := frC) (fun (frX : List AV) => (⟨(frm 101 [(0, .ptr 0 0), (4, .ptr 9 0), (5, AI v_1), (6, .ref 10), (7, AI v_5), (8, AI ((i : Int) + 1))]), [.box 120 [LB c, AI (q2 : Int), .int .u64 k2], .list eo1 so1 no1 co1, .list eo2 so2 no2 co2, .list eo3 so3 no3 co3, .list eo4 so4 no4 co4, .list eo5 so5 no5 co5, .list eo6 so6 no6 co6, .list eo7 so7 no7 co7, .frame usC frX, .box 26 [AI 0, .nil], rowA eI 2 1 (ys ++ [m])]⟩ : St)) (hfC.ren _ (by kernel_rfl)) (by kernel_rfl) (by kernel_rfl)) ⟨(by omega), (by (simp <;> omega))⟩ (by show ((v_1 - (i + 1)).toNat) < ((v_1 - i).toNat); omega)))
  · refine R.go 5 (R.callX (CallX.inF 8 usC frC (CallX.box 8 26 [AI 0, .nil] (nextX_c_r9 c q k 8 eo1 so1 no1 co1 eo2 so2 no2 co2 eo3 so3 no3 co3 eo4 so4 no4 co4 eo5 so5 no5 co5 eo6 so6 no6 co6 eo7 so7 no7 co7 26 2 1 [AI 0, .nil] 2 1 ys.length (rows eI ys) hc) (by kernel_rfl) (by kernel_rfl) (by kernel_rfl) (by kernel_rfl) (by rintro _ _ ⟨_, _, _, _, rfl, rfl⟩; exact ⟨by kernel_rfl, by kernel_rfl, by kernel_rfl⟩)) (Nat.le_of_ble_eq_true (by kernel_rfl)) (by kernel_rfl) (by kernel_rfl) (by rintro _ _ ⟨_, ⟨_, _, _, _, rfl, rfl⟩, rfl⟩; exact Nat.le_of_ble_eq_true (by kernel_rfl))) (by kernel_rfl) (by kernel_rfl) (by kernel_rfl) ?_)
    rintro _ _ ⟨_, _, ⟨_, ⟨v_27, p1_28, h1_29, f30, rfl, rfl⟩, rfl⟩, rfl, rfl⟩
    refine R.go 7 (R.cond (v_27 = 0) (by kernel_rfl) (fun c31 => ?_) (fun c31 => ?_))
    · refine R.go 2 (R.call false (l01Refl_c ys (by first | omega | (simp only [refI_len, wout_len]; omega) | (simp <;> omega))) (by kernel_rfl) (ownA_closed eI_closed 2 1 (refI ys ys.length)) (by kernel_rfl) ?_)
      refine R.go 6 (R.call false (l05Make_c (refI ys ys.length) (by first | omega | (simp only [refI_len, wout_len]; omega) | (simp <;> omega))) (by kernel_rfl) (by simp [AV.closed, closedL, AI, ownA_closed eI_closed]) (by kernel_rfl) ?_)
      exact R.go 2 (R.retX (res := .agg [AI ((refI ys ys.length).length), .ref 12]) (hp' := [.box 120 [LB c, AI (p1_28 : Int), .int .u64 h1_29], .list eo1 so1 no1 co1, .list eo2 so2 no2 co2, .list eo3 so3 no3 co3, .list eo4 so4 no4 co4, .list eo5 so5 no5 co5, .list eo6 so6 no6 co6, .list eo7 so7 no7 co7, .dead, .box 26 [AI ((refI ys ys.length).length), .ref 12], rowA eI 2 1 ys, rowA eI 2 1 (refI ys ys.length), rowA eI 2 1 (refI ys ys.length)]) (by kernel_rfl) (by kernel_rfl) (by kernel_rfl) (by kernel_rfl) ⟨[0, 1, 2, 3, 4, 5, 6, 7, 12], by kernel_rfl, by decide, (refI ys ys.length).length, refI ys ys.length, p1_28, h1_29, by first | omega | (simp only [refI_len, wout_len]; done) | (simp only [refI_len, wout_len]; omega), by first | omega | (simp only [refI_len, wout_len]; done) | (simp only [refI_len, wout_len]; omega), by kernel_rfl, by kernel_rfl⟩)
    · refine R.go 5 (R.cond (v_27 = 1) (by kernel_rfl) (fun c32 => ?_) (fun c32 => ?_))
      · refine R.go 2 (R.call false (l01Clos_c ys (by first | omega | (simp only [refI_len, wout_len]; omega) | (simp <;> omega))) (by kernel_rfl) (ownA_closed eI_closed 2 1 (wout ys ys.length)) (by kernel_rfl) ?_)
        refine R.go 6 (R.call false (l05Make_c (wout ys ys.length) (by first | omega | (simp only [refI_len, wout_len]; omega) | (simp <;> omega))) (by kernel_rfl) (by simp [AV.closed, closedL, AI, ownA_closed eI_closed]) (by kernel_rfl) ?_)
        exact R.go 2 (R.retX (res := .agg [AI ((wout ys ys.length).length), .ref 12]) (hp' := [.box 120 [LB c, AI (p1_28 : Int), .int .u64 h1_29], .list eo1 so1 no1 co1, .list eo2 so2 no2 co2, .list eo3 so3 no3 co3, .list eo4 so4 no4 co4, .list eo5 so5 no5 co5, .list eo6 so6 no6 co6, .list eo7 so7 no7 co7, .dead, .box 26 [AI ((wout ys ys.length).length), .ref 12], rowA eI 2 1 ys, rowA eI 2 1 (wout ys ys.length), rowA eI 2 1 (wout ys ys.length)]) (by kernel_rfl) (by kernel_rfl) (by kernel_rfl) (by kernel_rfl) ⟨[0, 1, 2, 3, 4, 5, 6, 7, 12], by kernel_rfl, by decide, (wout ys ys.length).length, wout ys ys.length, p1_28, h1_29, by first | omega | (simp only [refI_len, wout_len]; done) | (simp only [refI_len, wout_len]; omega), by first | omega | (simp only [refI_len, wout_len]; done) | (simp only [refI_len, wout_len]; omega), by kernel_rfl, by kernel_rfl⟩)
      · refine R.go 5 (R.cond (v_27 = 2) (by kernel_rfl) (fun c33 => ?_) (fun c33 => ?_))
        · refine R.go 2 (R.call false (l01Clos_c ys (by first | omega | (simp only [refI_len, wout_len]; omega) | (simp <;> omega))) (by kernel_rfl) (ownA_closed eI_closed 2 1 (wout ys ys.length)) (by kernel_rfl) ?_)
          refine R.call false (l01Refl_c (wout ys ys.length) (by first | omega | (simp only [refI_len, wout_len]; omega) | (simp <;> omega))) (by kernel_rfl) (ownA_closed eI_closed 2 1 (refI (wout ys ys.length) (wout ys ys.length).length)) (by kernel_rfl) ?_
          refine R.go 6 (R.call false (l05Make_c (refI (wout ys ys.length) (wout ys ys.length).length) (by first | omega | (simp only [refI_len, wout_len]; omega) | (simp <;> omega))) (by kernel_rfl) (by simp [AV.closed, closedL, AI, ownA_closed eI_closed]) (by kernel_rfl) ?_)
          exact R.go 2 (R.retX (res := .agg [AI ((refI (wout ys ys.length) (wout ys ys.length).length).length), .ref 13]) (hp' := [.box 120 [LB c, AI (p1_28 : Int), .int .u64 h1_29], .list eo1 so1 no1 co1, .list eo2 so2 no2 co2, .list eo3 so3 no3 co3, .list eo4 so4 no4 co4, .list eo5 so5 no5 co5, .list eo6 so6 no6 co6, .list eo7 so7 no7 co7, .dead, .box 26 [AI ((refI (wout ys ys.length) (wout ys ys.length).length).length), .ref 13], rowA eI 2 1 ys, rowA eI 2 1 (wout ys ys.length), rowA eI 2 1 (refI (wout ys ys.length) (wout ys ys.length).length), rowA eI 2 1 (refI (wout ys ys.length) (wout ys ys.length).length)]) (by kernel_rfl) (by kernel_rfl) (by kernel_rfl) (by kernel_rfl) ⟨[0, 1, 2, 3, 4, 5, 6, 7, 13], by kernel_rfl, by decide, (refI (wout ys ys.length) (wout ys ys.length).length).length, refI (wout ys ys.length) (wout ys ys.length).length, p1_28, h1_29, by first | omega | (simp only [refI_len, wout_len]; done) | (simp only [refI_len, wout_len]; omega), by first | omega | (simp only [refI_len, wout_len]; done) | (simp only [refI_len, wout_len]; omega), by kernel_rfl, by kernel_rfl⟩)
        · refine R.go 5 (R.cond (v_27 = 3) (by kernel_rfl) (fun c34 => ?_) (fun c34 => ?_))
          · refine R.go 5 (R.loop ((fun | (i3, zs) => (⟨(frm 101 [(4, .ptr 9 0), (5, AI v_1), (6, .ref 10), (11, AI (i3 : Int))]), [.box 120 [LB c, AI (p1_28 : Int), .int .u64 h1_29], .list eo1 so1 no1 co1, .list eo2 so2 no2 co2, .list eo3 so3 no3 co3, .list eo4 so4 no4 co4, .list eo5 so5 no5 co5, .list eo6 so6 no6 co6, .list eo7 so7 no7 co7, .frame usC frC, .box 26 [AI 0, .nil], rowA eI 2 1 zs]⟩ : St) : Nat × (List Int) → St)) (fun | (i3, zs) => ((i3 : Int) ≤ v_1) ∧ ((zs.length : Int) = v_1)) (fun | (i3, zs) => (v_1 - i3).toNat) (0, ys) [4, 5, 6, 11] none (by kernel_rfl) (by kernel_rfl) (by kernel_rfl) ⟨(by omega), (by omega)⟩ ?_)
            rintro ⟨i3, zs⟩ ⟨h38_1, h38_2⟩ R35 N36
            refine R.go 7 (R.cond ((i3 : Int) < v_1) (by kernel_rfl) (fun c39 => ?_) (fun c39 => ?_))
            · refine R.go 8 (R.idxO 10 1 zs.length i3 (i3 : Int) (by kernel_rfl) rfl (by omega) (by kernel_rfl) ?_)
              refine R.ldI zs i3 (by kernel_rfl) (by omega) (by kernel_rfl) ?_
              refine R.go 1 (R.ar ((i3 : Int) + 1) (by kernel_rfl) (by omega) (by omega) (by kernel_rfl) ?_)
              refine R.call true (l01Full_c ((i3 : Int) + 1) (by first | omega | (simp only [refI_len, wout_len]; omega) | (simp <;> omega)) (by first | omega | (simp only [refI_len, wout_len]; omega) | (simp <;> omega))) (by kernel_rfl) rfl (by kernel_rfl) ?_
              refine R.go 1 (R.idxO 10 1 zs.length i3 (i3 : Int) (by kernel_rfl) rfl (by omega) (by kernel_rfl) ?_)
              refine R.stI 10 2 zs i3 (bnot (zs.getD i3 0) ((shl64 1 ((i3 : Int) + 1)) - 1)) (by kernel_rfl) (by omega) (by kernel_rfl) ?_
              refine R.go 4 (R.ar ((i3 : Int) + 1) (by kernel_rfl) (by omega) (by omega) (by kernel_rfl) ?_)
              exact R.go 2 (R.stop R35 (by kernel_rfl) (N36 (i3 + 1, zs.set i3 (bnot (zs.getD i3 0) ((shl64 1 ((i3 : Int) + 1)) - 1))) [4, 5, 6, 11] none _ (by kernel_rfl) (by kernel_rfl) ⟨(by omega), (by (simp <;> omega))⟩ (by show ((v_1 - (i3 + 1)).toNat) < ((v_1 - i3).toNat); omega)))
            · refine R.go 5 (R.call false (l05Make_c zs (by first | omega | (simp only [refI_len, wout_len]; omega) | (simp <;> omega))) (by kernel_rfl) (by simp [AV.closed, closedL, AI, ownA_closed eI_closed]) (by kernel_rfl) ?_)
              exact R.go 2 (R.retX (res := .agg [AI zs.length, .ref 11]) (hp' := [.box 120 [LB c, AI (p1_28 : Int), .int .u64 h1_29], .list eo1 so1 no1 co1, .list eo2 so2 no2 co2, .list eo3 so3 no3 co3, .list eo4 so4 no4 co4, .list eo5 so5 no5 co5, .list eo6 so6 no6 co6, .list eo7 so7 no7 co7, .dead, .box 26 [AI zs.length, .ref 11], rowA eI 2 1 zs, rowA eI 2 1 zs]) (by kernel_rfl) (by kernel_rfl) (by kernel_rfl) (by kernel_rfl) ⟨[0, 1, 2, 3, 4, 5, 6, 7, 11], by kernel_rfl, by decide, zs.length, zs, p1_28, h1_29, by first | omega | (simp only [refI_len, wout_len]; done) | (simp only [refI_len, wout_len]; omega), by first | omega | (simp only [refI_len, wout_len]; done) | (simp only [refI_len, wout_len]; omega), by kernel_rfl, by kernel_rfl⟩)
          · refine R.go 5 (R.cond (v_27 = 4) (by kernel_rfl) (fun c40 => ?_) (fun c40 => ?_))
            · refine R.go 6 (R.loop ((fun | (i4, zs) => (⟨(frm 101 [(4, .ptr 9 0), (5, AI v_1), (6, .ref 10), (12, AI (i4 : Int))]), [.box 120 [LB c, AI (p1_28 : Int), .int .u64 h1_29], .list eo1 so1 no1 co1, .list eo2 so2 no2 co2, .list eo3 so3 no3 co3, .list eo4 so4 no4 co4, .list eo5 so5 no5 co5, .list eo6 so6 no6 co6, .list eo7 so7 no7 co7, .frame usC frC, .box 26 [AI 0, .nil], rowA eI 2 1 zs]⟩ : St) : Nat × (List Int) → St)) (fun | (i4, zs) => ((i4 : Int) ≤ v_1) ∧ ((zs.length : Int) = v_1)) (fun | (i4, zs) => (v_1 - i4).toNat) (0, ys) [4, 5, 6, 12] none (by kernel_rfl) (by kernel_rfl) (by kernel_rfl) ⟨(by omega), (by omega)⟩ ?_)
              rintro ⟨i4, zs⟩ ⟨h44_1, h44_2⟩ R41 N42
              refine R.go 7 (R.cond ((i4 : Int) < v_1) (by kernel_rfl) (fun c45 => ?_) (fun c45 => ?_))
              · refine R.go 8 (R.idxO 10 1 zs.length i4 (i4 : Int) (by kernel_rfl) rfl (by omega) (by kernel_rfl) ?_)
                refine R.ldI zs i4 (by kernel_rfl) (by omega) (by kernel_rfl) ?_
                refine R.go 1 (R.ar ((i4 : Int) + 1) (by kernel_rfl) (by omega) (by omega) (by kernel_rfl) ?_)
                refine R.call true (l01Full_c ((i4 : Int) + 1) (by first | omega | (simp only [refI_len, wout_len]; omega) | (simp <;> omega)) (by first | omega | (simp only [refI_len, wout_len]; omega) | (simp <;> omega))) (by kernel_rfl) rfl (by kernel_rfl) ?_
                refine R.go 1 (R.idxO 10 1 zs.length i4 (i4 : Int) (by kernel_rfl) rfl (by omega) (by kernel_rfl) ?_)
                refine R.stI 10 2 zs i4 (bnot (zs.getD i4 0) ((shl64 1 ((i4 : Int) + 1)) - 1)) (by kernel_rfl) (by omega) (by kernel_rfl) ?_
                refine R.go 4 (R.ar ((i4 : Int) + 1) (by kernel_rfl) (by omega) (by omega) (by kernel_rfl) ?_)
                exact R.go 2 (R.stop R41 (by kernel_rfl) (N42 (i4 + 1, zs.set i4 (bnot (zs.getD i4 0) ((shl64 1 ((i4 : Int) + 1)) - 1))) [4, 5, 6, 12] none _ (by kernel_rfl) (by kernel_rfl) ⟨(by omega), (by (simp <;> omega))⟩ (by show ((v_1 - (i4 + 1)).toNat) < ((v_1 - i4).toNat); omega)))
              · refine R.go 3 (R.call false (l01Clos_c zs (by first | omega | (simp only [refI_len, wout_len]; omega) | (simp <;> omega))) (by kernel_rfl) (ownA_closed eI_closed 2 1 (wout zs zs.length)) (by kernel_rfl) ?_)
                refine R.go 6 (R.call false (l05Make_c (wout zs zs.length) (by first | omega | (simp only [refI_len, wout_len]; omega) | (simp <;> omega))) (by kernel_rfl) (by simp [AV.closed, closedL, AI, ownA_closed eI_closed]) (by kernel_rfl) ?_)
                exact R.go 2 (R.retX (res := .agg [AI ((wout zs zs.length).length), .ref 12]) (hp' := [.box 120 [LB c, AI (p1_28 : Int), .int .u64 h1_29], .list eo1 so1 no1 co1, .list eo2 so2 no2 co2, .list eo3 so3 no3 co3, .list eo4 so4 no4 co4, .list eo5 so5 no5 co5, .list eo6 so6 no6 co6, .list eo7 so7 no7 co7, .dead, .box 26 [AI ((wout zs zs.length).length), .ref 12], rowA eI 2 1 zs, rowA eI 2 1 (wout zs zs.length), rowA eI 2 1 (wout zs zs.length)]) (by kernel_rfl) (by kernel_rfl) (by kernel_rfl) (by kernel_rfl) ⟨[0, 1, 2, 3, 4, 5, 6, 7, 12], by kernel_rfl, by decide, (wout zs zs.length).length, wout zs zs.length, p1_28, h1_29, by first | omega | (simp only [refI_len, wout_len]; done) | (simp only [refI_len, wout_len]; omega), by first | omega | (simp only [refI_len, wout_len]; done) | (simp only [refI_len, wout_len]; omega), by kernel_rfl, by kernel_rfl⟩)
            · refine R.go 5 (R.call false (l05Make_c ys (by first | omega | (simp only [refI_len, wout_len]; omega) | (simp <;> omega))) (by kernel_rfl) (by simp [AV.closed, closedL, AI, ownA_closed eI_closed]) (by kernel_rfl) ?_)
              exact R.go 2 (R.retX (res := .agg [AI ys.length, .ref 11]) (hp' := [.box 120 [LB c, AI (p1_28 : Int), .int .u64 h1_29], .list eo1 so1 no1 co1, .list eo2 so2 no2 co2, .list eo3 so3 no3 co3, .list eo4 so4 no4 co4, .list eo5 so5 no5 co5, .list eo6 so6 no6 co6, .list eo7 so7 no7 co7, .dead, .box 26 [AI ys.length, .ref 11], rowA eI 2 1 ys, rowA eI 2 1 ys]) (by kernel_rfl) (by kernel_rfl) (by kernel_rfl) (by kernel_rfl) ⟨[0, 1, 2, 3, 4, 5, 6, 7, 11], by kernel_rfl, by decide, ys.length, ys, p1_28, h1_29, by first | omega | (simp only [refI_len, wout_len]; done) | (simp only [refI_len, wout_len]; omega), by first | omega | (simp only [refI_len, wout_len]; done) | (simp only [refI_len, wout_len]; omega), by kernel_rfl, by kernel_rfl⟩)

theorem someO_c_r8 (c : List Int) (p : Nat) (h : Int) (worlds : Int) (eo1 : Nat) (so1 : Nat) (no1 : Nat) (co1 : List AV) (eo2 : Nat) (so2 : Nat) (no2 : Nat) (co2 : List AV) (eo3 : Nat) (so3 : Nat) (no3 : Nat) (co3 : List AV) (eo4 : Nat) (so4 : Nat) (no4 : Nat) (co4 : List AV) (eo5 : Nat) (so5 : Nat) (no5 : Nat) (co5 : List AV) (eo6 : Nat) (so6 : Nat) (no6 : Nat) (co6 : List AV) (eo7 : Nat) (so7 : Nat) (no7 : Nat) (co7 : List AV) (eo8 : Nat) (so8 : Nat) (no8 : Nat) (co8 : List AV) (hc : BY c) (hw : 0 ≤ worlds ∧ worlds ≤ 20) : CallX Tryz.prog 174 [.ptr 0 0, AI worlds] [.box 120 [LB c, AI (p : Int), .int .u64 h], .list eo1 so1 no1 co1, .list eo2 so2 no2 co2, .list eo3 so3 no3 co3, .list eo4 so4 no4 co4, .list eo5 so5 no5 co5, .list eo6 so6 no6 co6, .list eo7 so7 no7 co7, .list eo8 so8 no8 co8] (fun (resX : AV) (objX : List AObj) => ∃ n : Int, ∃ xs : List Int, ∃ p1 : Nat, ∃ h1 : Int, (0 ≤ n ∧ n ≤ worlds) ∧ ((xs.length : Int) = n) ∧ resX = .agg [AI n, .ref 9] ∧ objX = [.box 120 [LB c, AI (p1 : Int), .int .u64 h1], .list eo1 so1 no1 co1, .list eo2 so2 no2 co2, .list eo3 so3 no3 co3, .list eo4 so4 no4 co4, .list eo5 so5 no5 co5, .list eo6 so6 no6 co6, .list eo7 so7 no7 co7, .list eo8 so8 no8 co8, rowA eI 2 1 xs]) := by
  have hcl : c.length ≤ 4096 := hc.1
  have hcb := hc.2
  refine CallX.dropE (CallX.ofF Tryz.func174 rfl (by kernel_rfl) ?_)
  intro usC frC hfC
  refine R.go 8 (R.ar (worlds + 1) (by kernel_rfl) (by omega) (by omega) (by kernel_rfl) ?_)
  refine R.callX (CallX.inF 9 usC frC (CallX.box 9 26 [AI 0, .nil] (nextX_c_r9 c p h (worlds + 1) eo1 so1 no1 co1 eo2 so2 no2 co2 eo3 so3 no3 co3 eo4 so4 no4 co4 eo5 so5 no5 co5 eo6 so6 no6 co6 eo7 so7 no7 co7 eo8 so8 no8 co8 26 2 1 [AI 0, .nil] hc) (by kernel_rfl) (by kernel_rfl) (by kernel_rfl) (by kernel_rfl) (by rintro _ _ ⟨_, _, _, _, rfl, rfl⟩; exact ⟨by kernel_rfl, by kernel_rfl, by kernel_rfl⟩)) (Nat.le_of_ble_eq_true (by kernel_rfl)) (by kernel_rfl) (by kernel_rfl) (by rintro _ _ ⟨_, ⟨_, _, _, _, rfl, rfl⟩, rfl⟩; exact Nat.le_of_ble_eq_true (by kernel_rfl))) (by kernel_rfl) (by kernel_rfl) (by kernel_rfl) ?_
  rintro _ _ ⟨_, _, ⟨_, ⟨v_1, p1_2, h1_3, f4, rfl, rfl⟩, rfl⟩, rfl, rfl⟩
  refine R.go 10 (R.callX (CallX.inF 9 usC frC (CallX.box 9 26 [AI 0, .nil] (nextX_c_r10 c p1_2 h1_3 3 eo1 so1 no1 co1 eo2 so2 no2 co2 eo3 so3 no3 co3 eo4 so4 no4 co4 eo5 so5 no5 co5 eo6 so6 no6 co6 eo7 so7 no7 co7 eo8 so8 no8 co8 26 2 1 [AI 0, .nil] 2 1 0 (rows eI []) hc) (by kernel_rfl) (by kernel_rfl) (by kernel_rfl) (by kernel_rfl) (by rintro _ _ ⟨_, _, _, _, rfl, rfl⟩; exact ⟨by kernel_rfl, by kernel_rfl, by kernel_rfl⟩)) (Nat.le_of_ble_eq_true (by kernel_rfl)) (by kernel_rfl) (by kernel_rfl) (by rintro _ _ ⟨_, ⟨_, _, _, _, rfl, rfl⟩, rfl⟩; exact Nat.le_of_ble_eq_true (by kernel_rfl))) (by kernel_rfl) (by kernel_rfl) (by kernel_rfl) ?_)
  rintro _ _ ⟨_, _, ⟨_, ⟨v_5, p1_6, h1_7, f8, rfl, rfl⟩, rfl⟩, rfl, rfl⟩
  refine R.go 8 (R.loop ((fun | (i, ys, q, k) => (⟨(frm 101 [(0, .ptr 0 0), (4, .ptr 10 0), (5, AI v_1), (6, .ref 11), (7, AI v_5), (8, AI (i : Int))]), [.box 120 [LB c, AI (q : Int), .int .u64 k], .list eo1 so1 no1 co1, .list eo2 so2 no2 co2, .list eo3 so3 no3 co3, .list eo4 so4 no4 co4, .list eo5 so5 no5 co5, .list eo6 so6 no6 co6, .list eo7 so7 no7 co7, .list eo8 so8 no8 co8, .frame usC frC, .box 26 [AI 0, .nil], rowA eI 2 1 ys]⟩ : St) : Nat × (List Int) × Nat × Int → St)) (fun | (i, ys, q, k) => ((i : Int) ≤ v_1) ∧ (ys.length = i)) (fun | (i, ys, q, k) => (v_1 - i).toNat) (0, [], p1_6, h1_7) [0, 4, 5, 6, 7, 8] none (by kernel_rfl) (by kernel_rfl) (by kernel_rfl) ⟨(by omega), (by rfl)⟩ ?_)
  rintro ⟨i, ys, q, k⟩ ⟨h12_1, h12_2⟩ R9 N10
  refine R.go 7 (R.cond ((i : Int) < v_1) (by kernel_rfl) (fun c13 => ?_) (fun c13 => ?_))
  · have hb : 1 ≤ shl64 1 v_1 ∧ shl64 1 v_1 ≤ 4611686018427387904 := shl_rng v_1 (by omega) (by omega)
    refine R.go 7 (R.call true (l01Full_c v_1 (by first | omega | (simp only [refI_len, wout_len]; omega) | (simp <;> omega)) (by first | omega | (simp only [refI_len, wout_len]; omega) | (simp <;> omega))) (by kernel_rfl) rfl (by kernel_rfl) ?_)
    refine R.ar (((shl64 1 v_1) - 1) + 1) (by kernel_rfl) (by omega) (by omega) (by kernel_rfl) ?_
    refine R.callX (CallX.inF 9 usC frC (CallX.box 9 26 [AI 0, .nil] (nextX_c_r10 c q k (((shl64 1 v_1) - 1) + 1) eo1 so1 no1 co1 eo2 so2 no2 co2 eo3 so3 no3 co3 eo4 so4 no4 co4 eo5 so5 no5 co5 eo6 so6 no6 co6 eo7 so7 no7 co7 eo8 so8 no8 co8 26 2 1 [AI 0, .nil] 2 1 ys.length (rows eI ys) hc) (by kernel_rfl) (by kernel_rfl) (by kernel_rfl) (by kernel_rfl) (by rintro _ _ ⟨_, _, _, _, rfl, rfl⟩; exact ⟨by kernel_rfl, by kernel_rfl, by kernel_rfl⟩)) (Nat.le_of_ble_eq_true (by kernel_rfl)) (by kernel_rfl) (by kernel_rfl) (by rintro _ _ ⟨_, ⟨_, _, _, _, rfl, rfl⟩, rfl⟩; exact Nat.le_of_ble_eq_true (by kernel_rfl))) (by kernel_rfl) (by kernel_rfl) (by kernel_rfl) ?_
    rintro _ _ ⟨_, _, ⟨_, ⟨v_14, p1_15, h1_16, f17, rfl, rfl⟩, rfl⟩, rfl, rfl⟩
    refine R.go 8 (R.loop ((fun | (j, m, q2, k2) => (⟨(frm 101 [(0, .ptr 0 0), (4, .ptr 10 0), (5, AI v_1), (6, .ref 11), (7, AI v_5), (8, AI (i : Int)), (9, AI m), (10, AI (j : Int))]), [.box 120 [LB c, AI (q2 : Int), .int .u64 k2], .list eo1 so1 no1 co1, .list eo2 so2 no2 co2, .list eo3 so3 no3 co3, .list eo4 so4 no4 co4, .list eo5 so5 no5 co5, .list eo6 so6 no6 co6, .list eo7 so7 no7 co7, .list eo8 so8 no8 co8, .frame usC frC, .box 26 [AI 0, .nil], rowA eI 2 1 ys]⟩ : St) : Nat × Int × Nat × Int → St)) (fun | (j, m, q2, k2) => True) (fun | (j, m, q2, k2) => (v_5 - j).toNat) (0, v_14, p1_15, h1_16) [0, 4, 5, 6, 7, 8, 9, 10] none (by kernel_rfl) (by kernel_rfl) (by kernel_rfl) trivial ?_)
    rintro ⟨j, m, q2, k2⟩ _ R18 N19
    refine R.go 7 (R.cond ((j : Int) < v_5) (by kernel_rfl) (fun c22 => ?_) (fun c22 => ?_))
    · refine R.go 7 (R.call true (l01Full_c v_1 (by first | omega | (simp only [refI_len, wout_len]; omega) | (simp <;> omega)) (by first | omega | (simp only [refI_len, wout_len]; omega) | (simp <;> omega))) (by kernel_rfl) rfl (by kernel_rfl) ?_)
      refine R.ar (((shl64 1 v_1) - 1) + 1) (by kernel_rfl) (by omega) (by omega) (by kernel_rfl) ?_
      refine R.callX (CallX.inF 9 usC frC (CallX.box 9 26 [AI 0, .nil] (nextX_c_r10 c q2 k2 (((shl64 1 v_1) - 1) + 1) eo1 so1 no1 co1 eo2 so2 no2 co2 eo3 so3 no3 co3 eo4 so4 no4 co4 eo5 so5 no5 co5 eo6 so6 no6 co6 eo7 so7 no7 co7 eo8 so8 no8 co8 26 2 1 [AI 0, .nil] 2 1 ys.length (rows eI ys) hc) (by kernel_rfl) (by kernel_rfl) (by kernel_rfl) (by kernel_rfl) (by rintro _ _ ⟨_, _, _, _, rfl, rfl⟩; exact ⟨by kernel_rfl, by kernel_rfl, by kernel_rfl⟩)) (Nat.le_of_ble_eq_true (by kernel_rfl)) (by kernel_rfl) (by kernel_rfl) (by rintro _ _ ⟨_, ⟨_, _, _, _, rfl, rfl⟩, rfl⟩; exact Nat.le_of_ble_eq_true (by kernel_rfl))) (by kernel_rfl) (by kernel_rfl) (by kernel_rfl) ?_
      rintro _ _ ⟨_, _, ⟨_, ⟨v_23, p1_24, h1_25, f26, rfl, rfl⟩, rfl⟩, rfl, rfl⟩
      refine R.go 6 (R.ar ((j : Int) + 1) (by kernel_rfl) (by omega) (by omega) (by kernel_rfl) ?_)
      exact R.go 2 (R.stop R18 (by kernel_rfl) (N19 (j + 1, band m v_23, p1_24, h1_25) [0, 4, 5, 6, 7, 8, 9, 10] none _ (by kernel_rfl) (by kernel_rfl) trivial (by show ((v_5 - (j + 1)).toNat) < ((v_5 - j).toNat); omega)))
    · refine R.go 5 (R.app eI ys [m] 11 2 1 8 (by kernel_rfl) eI_one (by decide) (by first | omega | (simp <;> omega)) (by kernel_rfl) ?_)
      refine R.kfix 9 (us := usC) (by kernel_rfl) (hfC.kill 11 (Nat.le_of_ble_eq_true (by kernel_rfl))) ?_
      refine R.go 5 (R.ar ((i : Int) + 1) (by kernel_rfl) (by omega) (by omega) (by kernel_rfl) ?_)
      exact R.go 2 (R.stop R9 (by kernel_rfl) (N10 (i + 1, ys ++ [m], q2, k2) [0, 4, 5, 6, 7, 8] (some [0, 1, 2, 3, 4, 5, 6, 7, 8, 9, 10, 11]) _ (by kernel_rfl) (canonF (fr := frC) (fun (frX : List AV) => (⟨(frm 101 [(0, .ptr 0 0), (4, .ptr 10 0), (5, AI v_1), (6, .ref 11), (7, AI v_5), (8, AI ((i : Int) + 1))]), [.box 120 [LB c, AI (q2 : Int), .int .u64 k2], .list eo1 so1 no1 co1, .list eo2 so2 no2 co2, .list eo3 so3 no3 co3, .list eo4 so4 no4 co4, .list eo5 so5 no5 co5, .list eo6 so6 no6 co6, .list eo7 so7 no7 co7, .list eo8 so8 no8 co8, .frame usC frX, .box 26 [AI 0, .nil], rowA eI 2 1 (ys ++ [m])]⟩ : St)) (hfC.ren _ (by kernel_rfl)) (by kernel_rfl) (by kernel_rfl)) ⟨(by omega), (by (simp <;> omega))⟩ (by show ((v_1 - (i + 1)).toNat) < ((v_1 - i).toNat); omega)))
  · refine R.go 5 (R.callX (CallX.inF 9 usC frC (CallX.box 9 26 [AI 0, .nil] (nextX_c_r10 c q k 8 eo1 so1 no1 co1 eo2 so2 no2 co2 eo3 so3 no3 co3 eo4 so4 no4 co4 eo5 so5 no5 co5 eo6 so6 no6 co6 eo7 so7 no7 co7 eo8 so8 no8 co8 26 2 1 [AI 0, .nil] 2 1 ys.length (rows eI ys) hc) (by kernel_rfl) (by kernel_rfl) (by kernel_rfl) (by kernel_rfl) (by rintro _ _ ⟨_, _, _, _, rfl, rfl⟩; exact ⟨by kernel_rfl, by kernel_rfl, by kernel_rfl⟩)) (Nat.le_of_ble_eq_true (by kernel_rfl)) (by kernel_rfl) (by kernel_rfl) (by rintro _ _ ⟨_, ⟨_, _, _, _, rfl, rfl⟩, rfl⟩; exact Nat.le_of_ble_eq_true (by kernel_rfl))) (by kernel_rfl) (by kernel_rfl) (by kernel_rfl) ?_)
    rintro _ _ ⟨_, _, ⟨_, ⟨v_27, p1_28, h1_29, f30, rfl, rfl⟩, rfl⟩, rfl, rfl⟩
    refine R.go 7 (R.cond (v_27 = 0) (by kernel_rfl) (fun c31 => ?_) (fun c31 => ?_))
    · refine R.go 2 (R.call false (l01Refl_c ys (by first | omega | (simp only [refI_len, wout_len]; omega) | (simp <;> omega))) (by kernel_rfl) (ownA_closed eI_closed 2 1 (refI ys ys.length)) (by kernel_rfl) ?_)
      refine R.go 6 (R.call false (l05Make_c (refI ys ys.length) (by first | omega | (simp only [refI_len, wout_len]; omega) | (simp <;> omega))) (by kernel_rfl) (by simp [AV.closed, closedL, AI, ownA_closed eI_closed]) (by kernel_rfl) ?_)
      exact R.go 2 (R.retX (res := .agg [AI ((refI ys ys.length).length), .ref 13]) (hp' := [.box 120 [LB c, AI (p1_28 : Int), .int .u64 h1_29], .list eo1 so1 no1 co1, .list eo2 so2 no2 co2, .list eo3 so3 no3 co3, .list eo4 so4 no4 co4, .list eo5 so5 no5 co5, .list eo6 so6 no6 co6, .list eo7 so7 no7 co7, .list eo8 so8 no8 co8, .dead, .box 26 [AI ((refI ys ys.length).length), .ref 13], rowA eI 2 1 ys, rowA eI 2 1 (refI ys ys.length), rowA eI 2 1 (refI ys ys.length)]) (by kernel_rfl) (by kernel_rfl) (by kernel_rfl) (by kernel_rfl) ⟨[0, 1, 2, 3, 4, 5, 6, 7, 8, 13], by kernel_rfl, by decide, (refI ys ys.length).length, refI ys ys.length, p1_28, h1_29, by first | omega | (simp only [refI_len, wout_len]; done) | (simp only [refI_len, wout_len]; omega), by first | omega | (simp only [refI_len, wout_len]; done) | (simp only [refI_len, wout_len]; omega), by kernel_rfl, by kernel_rfl⟩)
    · refine R.go 5 (R.cond (v_27 = 1) (by kernel_rfl) (fun c32 => ?_) (fun c32 => ?_))
      · refine R.go 2 (R.call false (l01Clos_c ys (by first | omega | (simp only [refI_len, wout_len]; omega) | (simp <;> omega))) (by kernel_rfl) (ownA_closed eI_closed 2 1 (wout ys ys.length)) (by kernel_rfl) ?_)
        refine R.go 6 (R.call false (l05Make_c (wout ys ys.length) (by first | omega | (simp only [refI_len, wout_len]; omega) | (simp <;> omega))) (by kernel_rfl) (by simp [AV.closed, closedL, AI, ownA_closed eI_closed]) (by kernel_rfl) ?_)
        exact R.go 2 (R.retX (res := .agg [AI ((wout ys ys.length).length), .ref 13]) (hp' := [.box 120 [LB c, AI (p1_28 : Int), .int .u64 h1_29], .list eo1 so1 no1 co1, .list eo2 so2 no2 co2, .list eo3 so3 no3 co3, .list eo4 so4 no4 co4, .list eo5 so5 no5 co5, .list eo6 so6 no6 co6, .list eo7 so7 no7 co7, .list eo8 so8 no8 co8, .dead, .box 26 [AI ((wout ys ys.length).length), .ref 13], rowA eI 2 1 ys, rowA eI 2 1 (wout ys ys.length), rowA eI 2 1 (wout ys ys.length)]) (by kernel_rfl) (by kernel_rfl) (by kernel_rfl) (by kernel_rfl) ⟨[0, 1, 2, 3, 4, 5, 6, 7, 8, 13], by kernel_rfl, by decide, (wout ys ys.length).length, wout ys ys.length, p1_28, h1_29, by first | omega | (simp only [refI_len, wout_len]; done) | (simp only [refI_len, wout_len]; omega), by first | omega | (simp only [refI_len, wout_len]; done) | (simp only [refI_len, wout_len]; omega), by kernel_rfl, by kernel_rfl⟩)
      · refine R.go 5 (R.cond (v_27 = 2) (by kernel_rfl) (fun c33 => ?_) (fun c33 => ?_))
        · refine R.go 2 (R.call false (l01Clos_c ys (by first | omega | (simp only [refI_len, wout_len]; omega) | (simp <;> omega))) (by kernel_rfl) (ownA_closed eI_closed 2 1 (wout ys ys.length)) (by kernel_rfl) ?_)
          refine R.call false (l01Refl_c (wout ys ys.length) (by first | omega | (simp only [refI_len, wout_len]; omega) | (simp <;> omega))) (by kernel_rfl) (ownA_closed eI_closed 2 1 (refI (wout ys ys.length) (wout ys ys.length).length)) (by kernel_rfl) ?_
          refine R.go 6 (R.call false (l05Make_c (refI (wout ys ys.length) (wout ys ys.length).length) (by first | omega | (simp only [refI_len, wout_len]; omega) | (simp <;> omega))) (by kernel_rfl) (by simp [AV.closed, closedL, AI, ownA_closed eI_closed]) (by kernel_rfl) ?_)
          exact R.go 2 (R.retX (res := .agg [AI ((refI (wout ys ys.length) (wout ys ys.length).length).length), .ref 14]) (hp' := [.box 120 [LB c, AI (p1_28 : Int), .int .u64 h1_29], .list eo1 so1 no1 co1, .list eo2 so2 no2 co2, .list eo3 so3 no3 co3, .list eo4 so4 no4 co4, .list eo5 so5 no5 co5, .list eo6 so6 no6 co6, .list eo7 so7 no7 co7, .list eo8 so8 no8 co8, .dead, .box 26 [AI ((refI (wout ys ys.length) (wout ys ys.length).length).length), .ref 14], rowA eI 2 1 ys, rowA eI 2 1 (wout ys ys.length), rowA eI 2 1 (refI (wout ys ys.length) (wout ys ys.length).length), rowA eI 2 1 (refI (wout ys ys.length) (wout ys ys.length).length)]) (by kernel_rfl) (by kernel_rfl) (by kernel_rfl) (by kernel_rfl) ⟨[0, 1, 2, 3, 4, 5, 6, 7, 8, 14], by kernel_rfl, by decide, (refI (wout ys ys.length) (wout ys ys.length).length).length, refI (wout ys ys.length) (wout ys ys.length).length, p1_28, h1_29, by first | omega | (simp only [refI_len, wout_len]; done) | (simp only [refI_len, wout_len]; omega), by first | omega | (simp only [refI_len, wout_len]; done) | (simp only [refI_len, wout_len]; omega), by kernel_rfl, by kernel_rfl⟩)
        · refine R.go 5 (R.cond (v_27 = 3) (by kernel_rfl) (fun c34 => ?_) (fun c34 => ?_))
          · refine R.go 5 (R.loop ((fun | (i3, zs) => (⟨(frm 101 [(4, .ptr 10 0), (5, AI v_1), (6, .ref 11), (11, AI (i3 : Int))]), [.box 120 [LB c, AI (p1_28 : Int), .int .u64 h1_29], .list eo1 so1 no1 co1, .list eo2 so2 no2 co2, .list eo3 so3 no3 co3, .list eo4 so4 no4 co4, .list eo5 so5 no5 co5, .list eo6 so6 no6 co6, .list eo7 so7 no7 co7, .list eo8 so8 no8 co8, .frame usC frC, .box 26 [AI 0, .nil], rowA eI 2 1 zs]⟩ : St) : Nat × (List Int) → St)) (fun | (i3, zs) => ((i3 : Int) ≤ v_1) ∧ ((zs.length : Int) = v_1)) (fun | (i3, zs) => (v_1 - i3).toNat) (0, ys) [4, 5, 6, 11] none (by kernel_rfl) (by kernel_rfl) (by kernel_rfl) ⟨(by omega), (by omega)⟩ ?_)
            rintro ⟨i3, zs⟩ ⟨h38_1, h38_2⟩ R35 N36
            refine R.go 7 (R.cond ((i3 : Int) < v_1) (by kernel_rfl) (fun c39 => ?_) (fun c39 => ?_))
            · refine R.go 8 (R.idxO 11 1 zs.length i3 (i3 : Int) (by kernel_rfl) rfl (by omega) (by kernel_rfl) ?_)
              refine R.ldI zs i3 (by kernel_rfl) (by omega) (by kernel_rfl) ?_
              refine R.go 1 (R.ar ((i3 : Int) + 1) (by kernel_rfl) (by omega) (by omega) (by kernel_rfl) ?_)
              refine R.call true (l01Full_c ((i3 : Int) + 1) (by first | omega | (simp only [refI_len, wout_len]; omega) | (simp <;> omega)) (by first | omega | (simp only [refI_len, wout_len]; omega) | (simp <;> omega))) (by kernel_rfl) rfl (by kernel_rfl) ?_
              refine R.go 1 (R.idxO 11 1 zs.length i3 (i3 : Int) (by kernel_rfl) rfl (by omega) (by kernel_rfl) ?_)
              refine R.stI 11 2 zs i3 (bnot (zs.getD i3 0) ((shl64 1 ((i3 : Int) + 1)) - 1)) (by kernel_rfl) (by omega) (by kernel_rfl) ?_
              refine R.go 4 (R.ar ((i3 : Int) + 1) (by kernel_rfl) (by omega) (by omega) (by kernel_rfl) ?_)
              exact R.go 2 (R.stop R35 (by kernel_rfl) (N36 (i3 + 1, zs.set i3 (bnot (zs.getD i3 0) ((shl64 1 ((i3 : Int) + 1)) - 1))) [4, 5, 6, 11] none _ (by kernel_rfl) (by kernel_rfl) ⟨(by omega), (by (simp <;> omega))⟩ (by show ((v_1 - (i3 + 1)).toNat) < ((v_1 - i3).toNat); omega)))
            · refine R.go 5 (R.call false (l05Make_c zs (by first | omega | (simp only [refI_len, wout_len]; omega) | (simp <;> omega))) (by kernel_rfl) (by simp [AV.closed, closedL, AI, ownA_closed eI_closed]) (by kernel_rfl) ?_)
              exact R.go 2 (R.retX (res := .agg [AI zs.length, .ref 12]) (hp' := [.box 120 [LB c, AI (p1_28 : Int), .int .u64 h1_29], .list eo1 so1 no1 co1, .list eo2 so2 no2 co2, .list eo3 so3 no3 co3, .list eo4 so4 no4 co4, .list eo5 so5 no5 co5, .list eo6 so6 no6 co6, .list eo7 so7 no7 co7, .list eo8 so8 no8 co8, .dead, .box 26 [AI zs.length, .ref 12], rowA eI 2 1 zs, rowA eI 2 1 zs]) (by kernel_rfl) (by kernel_rfl) (by kernel_rfl) (by kernel_rfl) ⟨[0, 1, 2, 3, 4, 5, 6, 7, 8, 12], by kernel_rfl, by decide, zs.length, zs, p1_28, h1_29, by first | omega | (simp only [refI_len, wout_len]; done) | (simp only [refI_len, wout_len]; omega), by first | omega | (simp only [refI_len, wout_len]; done) | (simp only [refI_len, wout_len]; omega), by kernel_rfl, by kernel_rfl⟩)
          · refine R.go 5 (R.cond (v_27 = 4) (by kernel_rfl) (fun c40 => ?_) (fun c40 => ?_))
            · refine R.go 6 (R.loop ((fun | (i4, zs) => (⟨(frm 101 [(4, .ptr 10 0), (5, AI v_1), (6, .ref 11), (12, AI (i4 : Int))]), [.box 120 [LB c, AI (p1_28 : Int), .int .u64 h1_29], .list eo1 so1 no1 co1, .list eo2 so2 no2 co2, .list eo3 so3 no3 co3, .list eo4 so4 no4 co4, .list eo5 so5 no5 co5, .list eo6 so6 no6 co6, .list eo7 so7 no7 co7, .list eo8 so8 no8 co8, .frame usC frC, .box 26 [AI 0, .nil], rowA eI 2 1 zs]⟩ : St) : Nat × (List Int) → St)) (fun | (i4, zs) => ((i4 : Int) ≤ v_1) ∧ ((zs.length : Int) = v_1)) (fun | (i4, zs) => (v_1 - i4).toNat) (0, ys) [4, 5, 6, 12] none (by kernel_rfl) (by kernel_rfl) (by kernel_rfl) ⟨(by omega), (by omega)⟩ ?_)
              rintro ⟨i4, zs⟩ ⟨h44_1, h44_2⟩ R41 N42
              refine R.go 7 (R.cond ((i4 : Int) < v_1) (by kernel_rfl) (fun c45 => ?_) (fun c45 => ?_))
              · refine R.go 8 (R.idxO 11 1 zs.length i4 (i4 : Int) (by kernel_rfl) rfl (by omega) (by kernel_rfl) ?_)
                refine R.ldI zs i4 (by kernel_rfl) (by omega) (by kernel_rfl) ?_
                refine R.go 1 (R.ar ((i4 : Int) + 1) (by kernel_rfl) (by omega) (by omega) (by kernel_rfl) ?_)
                refine R.call true (l01Full_c ((i4 : Int) + 1) (by first | omega | (simp only [refI_len, wout_len]; omega) | (simp <;> omega)) (by first | omega | (simp only [refI_len, wout_len]; omega) | (simp <;> omega))) (by kernel_rfl) rfl (by kernel_rfl) ?_
                refine R.go 1 (R.idxO 11 1 zs.length i4 (i4 : Int) (by kernel_rfl) rfl (by omega) (by kernel_rfl) ?_)
                refine R.stI 11 2 zs i4 (bnot (zs.getD i4 0) ((shl64 1 ((i4 : Int) + 1)) - 1)) (by kernel_rfl) (by omega) (by kernel_rfl) ?_
                refine R.go 4 (R.ar ((i4 : Int) + 1) (by kernel_rfl) (by omega) (by omega) (by kernel_rfl) ?_)
                exact R.go 2 (R.stop R41 (by kernel_rfl) (N42 (i4 + 1, zs.set i4 (bnot (zs.getD i4 0) ((shl64 1 ((i4 : Int) + 1)) - 1))) [4, 5, 6, 12] none _ (by kernel_rfl) (by kernel_rfl) ⟨(by omega), (by (simp <;> omega))⟩ (by show ((v_1 - (i4 + 1)).toNat) < ((v_1 - i4).toNat); omega)))
              · refine R.go 3 (R.call false (l01Clos_c zs (by first | omega | (simp only [refI_len, wout_len]; omega) | (simp <;> omega))) (by kernel_rfl) (ownA_closed eI_closed 2 1 (wout zs zs.length)) (by kernel_rfl) ?_)
                refine R.go 6 (R.call false (l05Make_c (wout zs zs.length) (by first | omega | (simp only [refI_len, wout_len]; omega) | (simp <;> omega))) (by kernel_rfl) (by simp [AV.closed, closedL, AI, ownA_closed eI_closed]) (by kernel_rfl) ?_)
                exact R.go 2 (R.retX (res := .agg [AI ((wout zs zs.length).length), .ref 13]) (hp' := [.box 120 [LB c, AI (p1_28 : Int), .int .u64 h1_29], .list eo1 so1 no1 co1, .list eo2 so2 no2 co2, .list eo3 so3 no3 co3, .list eo4 so4 no4 co4, .list eo5 so5 no5 co5, .list eo6 so6 no6 co6, .list eo7 so7 no7 co7, .list eo8 so8 no8 co8, .dead, .box 26 [AI ((wout zs zs.length).length), .ref 13], rowA eI 2 1 zs, rowA eI 2 1 (wout zs zs.length), rowA eI 2 1 (wout zs zs.length)]) (by kernel_rfl) (by kernel_rfl) (by kernel_rfl) (by kernel_rfl) ⟨[0, 1, 2, 3, 4, 5, 6, 7, 8, 13], by kernel_rfl, by decide, (wout zs zs.length).length, wout zs zs.length, p1_28, h1_29, by first | omega | (simp only [refI_len, wout_len]; done) | (simp only [refI_len, wout_len]; omega), by first | omega | (simp only [refI_len, wout_len]; done) | (simp only [refI_len, wout_len]; omega), by kernel_rfl, by kernel_rfl⟩)
            · refine R.go 5 (R.call false (l05Make_c ys (by first | omega | (simp only [refI_len, wout_len]; omega) | (simp <;> omega))) (by kernel_rfl) (by simp [AV.closed, closedL, AI, ownA_closed eI_closed]) (by kernel_rfl) ?_)
              exact R.go 2 (R.retX (res := .agg [AI ys.length, .ref 12]) (hp' := [.box 120 [LB c, AI (p1_28 : Int), .int .u64 h1_29], .list eo1 so1 no1 co1, .list eo2 so2 no2 co2, .list eo3 so3 no3 co3, .list eo4 so4 no4 co4, .list eo5 so5 no5 co5, .list eo6 so6 no6 co6, .list eo7 so7 no7 co7, .list eo8 so8 no8 co8, .dead, .box 26 [AI ys.length, .ref 12], rowA eI 2 1 ys, rowA eI 2 1 ys]) (by kernel_rfl) (by kernel_rfl) (by kernel_rfl) (by kernel_rfl) ⟨[0, 1, 2, 3, 4, 5, 6, 7, 8, 12], by kernel_rfl, by decide, ys.length, ys, p1_28, h1_29, by first | omega | (simp only [refI_len, wout_len]; done) | (simp only [refI_len, wout_len]; omega), by first | omega | (simp only [refI_len, wout_len]; done) | (simp only [refI_len, wout_len]; omega), by kernel_rfl, by kernel_rfl⟩)

theorem frameX_c_r6 (c : List Int) (p : Nat) (h : Int) (worlds : Int) (eo1 : Nat) (so1 : Nat) (no1 : Nat) (co1 : List AV) (eo2 : Nat) (so2 : Nat) (no2 : Nat) (co2 : List AV) (eo3 : Nat) (so3 : Nat) (no3 : Nat) (co3 : List AV) (eo4 : Nat) (so4 : Nat) (no4 : Nat) (co4 : List AV) (eo5 : Nat) (so5 : Nat) (no5 : Nat) (co5 : List AV) (eo6 : Nat) (so6 : Nat) (no6 : Nat) (co6 : List AV) (hc : BY c) (hw : 0 ≤ worlds ∧ worlds ≤ 20) : CallX Tryz.prog 124 [.ptr 0 0, AI worlds] [.box 120 [LB c, AI (p : Int), .int .u64 h], .list eo1 so1 no1 co1, .list eo2 so2 no2 co2, .list eo3 so3 no3 co3, .list eo4 so4 no4 co4, .list eo5 so5 no5 co5, .list eo6 so6 no6 co6] (fun (resX : AV) (objX : List AObj) => ∃ n : Int, ∃ xs : List Int, ∃ p1 : Nat, ∃ h1 : Int, ((xs.length : Int) ≤ worlds + 1) ∧ resX = .agg [AI n, LI xs] ∧ objX = [.box 120 [LB c, AI (p1 : Int), .int .u64 h1], .list eo1 so1 no1 co1, .list eo2 so2 no2 co2, .list eo3 so3 no3 co3, .list eo4 so4 no4 co4, .list eo5 so5 no5 co5, .list eo6 so6 no6 co6]) := by
  have hcl : c.length ≤ 4096 := hc.1
  have hcb := hc.2
  refine CallX.dropE (CallX.ofF Tryz.func124 rfl (by kernel_rfl) ?_)
  intro usC frC hfC
  refine R.go 8 (R.callX (CallX.inF 7 usC frC (CallX.box 7 26 [AI 0, .nil] (someO_c_r7 c p h worlds eo1 so1 no1 co1 eo2 so2 no2 co2 eo3 so3 no3 co3 eo4 so4 no4 co4 eo5 so5 no5 co5 eo6 so6 no6 co6 26 2 1 [AI 0, .nil] hc hw) (by kernel_rfl) (by kernel_rfl) (by kernel_rfl) (by kernel_rfl) (by rintro _ _ ⟨_, _, _, _, _, _, rfl, rfl⟩; exact ⟨by kernel_rfl, by kernel_rfl, by kernel_rfl⟩)) (Nat.le_of_ble_eq_true (by kernel_rfl)) (by kernel_rfl) (by kernel_rfl) (by rintro _ _ ⟨_, ⟨_, _, _, _, _, _, rfl, rfl⟩, rfl⟩; exact Nat.le_of_ble_eq_true (by kernel_rfl))) (by kernel_rfl) (by kernel_rfl) (by kernel_rfl) ?_)
  rintro _ _ ⟨_, _, ⟨_, ⟨n_1, xs_2, p1_3, h1_4, f5, f6, rfl, rfl⟩, rfl⟩, rfl, rfl⟩
  refine R.go 7 (R.callX (CallX.inF 7 usC frC (CallX.box 7 26 [AI 0, .nil] (nextX_c_r8b c p1_3 h1_4 40 eo1 so1 no1 co1 eo2 so2 no2 co2 eo3 so3 no3 co3 eo4 so4 no4 co4 eo5 so5 no5 co5 eo6 so6 no6 co6 26 2 1 [AI 0, .nil] 2 1 xs_2.length (rows eI xs_2) 26 n_1 hc) (by kernel_rfl) (by kernel_rfl) (by kernel_rfl) (by kernel_rfl) (by rintro _ _ ⟨_, _, _, _, rfl, rfl⟩; exact ⟨by kernel_rfl, by kernel_rfl, by kernel_rfl⟩)) (Nat.le_of_ble_eq_true (by kernel_rfl)) (by kernel_rfl) (by kernel_rfl) (by rintro _ _ ⟨_, ⟨_, _, _, _, rfl, rfl⟩, rfl⟩; exact Nat.le_of_ble_eq_true (by kernel_rfl))) (by kernel_rfl) (by kernel_rfl) (by kernel_rfl) ?_)
  rintro _ _ ⟨_, _, ⟨_, ⟨v_7, p1_8, h1_9, f10, rfl, rfl⟩, rfl⟩, rfl, rfl⟩
  refine R.go 7 (R.cond (v_7 = 0) (by kernel_rfl) (fun c11 => ?_) (fun c11 => ?_))
  · refine R.go 4 (R.ar (n_1 + 1) (by kernel_rfl) (by omega) (by omega) (by kernel_rfl) ?_)
    refine R.lit (s := 1) (n := 3) (cs := rows eI [(-1), 9, n_1 + 1]) (by kernel_rfl) (by kernel_rfl) ?_
    refine R.callX (CallX.inF 7 usC frC (CallX.box 7 26 [AI 0, .nil] (pickX_c_r8b c p1_8 h1_9 [(-1), 9, n_1 + 1] eo1 so1 no1 co1 eo2 so2 no2 co2 eo3 so3 no3 co3 eo4 so4 no4 co4 eo5 so5 no5 co5 eo6 so6 no6 co6 26 2 1 [AI 0, .nil] 2 1 xs_2.length (rows eI xs_2) 26 n_1 hc (by simp)) (by kernel_rfl) (by kernel_rfl) (by kernel_rfl) (by kernel_rfl) (by rintro _ _ ⟨_, _, _, rfl, rfl⟩; exact ⟨by kernel_rfl, by kernel_rfl, by kernel_rfl⟩)) (Nat.le_of_ble_eq_true (by kernel_rfl)) (by kernel_rfl) (by kernel_rfl) (by rintro _ _ ⟨_, ⟨_, _, _, rfl, rfl⟩, rfl⟩; exact Nat.le_of_ble_eq_true (by kernel_rfl))) (by kernel_rfl) (by kernel_rfl) (by kernel_rfl) ?_
    rintro _ _ ⟨_, _, ⟨_, ⟨v_12, p1_13, h1_14, rfl, rfl⟩, rfl⟩, rfl, rfl⟩
    refine R.go 9 (R.frz 9 (by kernel_rfl) ?_)
    refine R.kfix 7 (us := usC) (by kernel_rfl) (hfC.frz 9 (LI xs_2) (Nat.le_of_ble_eq_true (by kernel_rfl))) ?_
    exact R.retX (res := .agg [AI v_12, LI xs_2]) (hp' := [.box 120 [LB c, AI (p1_13 : Int), .int .u64 h1_14], .list eo1 so1 no1 co1, .list eo2 so2 no2 co2, .list eo3 so3 no3 co3, .list eo4 so4 no4 co4, .list eo5 so5 no5 co5, .list eo6 so6 no6 co6, .dead, .box 26 [AI v_12, LI xs_2], .dead, .box 26 [AI v_12, LI xs_2]]) (by kernel_rfl) (by kernel_rfl) (by kernel_rfl) (by kernel_rfl) ⟨[0, 1, 2, 3, 4, 5, 6], by kernel_rfl, by decide, v_12, xs_2, p1_13, h1_14, by first | omega | (simp; done) | (simp only [List.length_append, List.length_cons, List.length_nil, List.length_set]; omega), by kernel_rfl, by kernel_rfl⟩
  · refine R.go 5 (R.cond (v_7 = 1) (by kernel_rfl) (fun c15 => ?_) (fun c15 => ?_))
    · refine R.go 3 (R.call false (l01Own_c xs_2 (by first | omega | (simp <;> omega))) (by kernel_rfl) (ownA_closed eI_closed 2 1 xs_2) (by kernel_rfl) ?_)
      refine R.go 1 (R.app eI xs_2 [0] 11 2 1 8 (by kernel_rfl) eI_one (by decide) (by first | omega | (simp <;> omega)) (by kernel_rfl) ?_)
      refine R.kfix 7 (us := usC) (by kernel_rfl) (hfC.kill 11 (Nat.le_of_ble_eq_true (by kernel_rfl))) ?_
      refine R.go 9 (R.frz 11 (by kernel_rfl) ?_)
      refine R.kfix 7 (us := usC) (by kernel_rfl) (hfC.frz 11 (LI (xs_2 ++ [0])) (Nat.le_of_ble_eq_true (by kernel_rfl))) ?_
      exact R.retX (res := .agg [AI n_1, LI (xs_2 ++ [0])]) (hp' := [.box 120 [LB c, AI (p1_8 : Int), .int .u64 h1_9], .list eo1 so1 no1 co1, .list eo2 so2 no2 co2, .list eo3 so3 no3 co3, .list eo4 so4 no4 co4, .list eo5 so5 no5 co5, .list eo6 so6 no6 co6, .dead, .box 26 [AI n_1, LI (xs_2 ++ [0])], rowA eI 2 1 xs_2, .box 26 [AI n_1, LI (xs_2 ++ [0])], .dead, rowA eI 2 1 [0]]) (by kernel_rfl) (by kernel_rfl) (by kernel_rfl) (by kernel_rfl) ⟨[0, 1, 2, 3, 4, 5, 6], by kernel_rfl, by decide, n_1, xs_2 ++ [0], p1_8, h1_9, by first | omega | (simp; done) | (simp only [List.length_append, List.length_cons, List.length_nil, List.length_set]; omega), by kernel_rfl, by kernel_rfl⟩
    · refine R.go 5 (R.cond (v_7 = 2) (by kernel_rfl) (fun c16 => ?_) (fun c16 => ?_))
      · have hb : 1 ≤ shl64 1 n_1 ∧ shl64 1 n_1 ≤ 4611686018427387904 := shl_rng n_1 (by omega) (by omega)
        refine R.go 6 (R.cond (n_1 > 0) (by kernel_rfl) (fun c17 => ?_) (fun c17 => ?_))
        · refine R.meetF (α := Int × Nat × Int × Int × Nat × Int) (fun | (v_18, p1_19, h1_20, v_22, p1_23, h1_24) => ((n_1 < 1 → v_18 = 0) ∧ (1 ≤ n_1 → 0 ≤ v_18 ∧ v_18 < n_1))) (fun | (v_18, p1_19, h1_20, v_22, p1_23, h1_24) => (⟨(frm 48 [(0, .ptr 0 0), (1, AI worlds), (4, .ptr 8 0), (5, .ptr 10 0), (6, .ptr 0 0), (7, AI worlds), (8, .agg [AI n_1, .ref 9]), (9, .ptr 0 0), (10, AI v_7), (11, .bool (decide (v_7 = 0))), (12, .bool (decide (v_7 = 0))), (20, .bool (decide (v_7 = 1))), (21, .bool (decide (v_7 = 1))), (28, .bool (decide (v_7 = 2))), (29, .bool (decide (v_7 = 2))), (30, .ptr 10 0), (31, AI n_1), (32, .bool (decide (n_1 > 0))), (33, .ptr 10 1), (34, .ref 9), (35, .ptr 0 0), (36, .ptr 10 0), (37, AI n_1), (38, AI v_18), (39, .ptr 0 0), (40, .ptr 10 0), (41, AI n_1), (42, AI ((shl64 1 n_1) - 1)), (43, AI (((shl64 1 n_1) - 1) + 1)), (44, LI [(-1), ((shl64 1 n_1) - 1) + 1]), (45, AI v_22), (46, .ptr 9 (((v_18).toNat) * 1))]), [.box 120 [LB c, AI (p1_23 : Int), .int .u64 h1_24], .list eo1 so1 no1 co1, .list eo2 so2 no2 co2, .list eo3 so3 no3 co3, .list eo4 so4 no4 co4, .list eo5 so5 no5 co5, .list eo6 so6 no6 co6, .frame usC frC, .box 26 [AI 0, .nil], rowA eI 2 1 (xs_2.set ((v_18).toNat) v_22), .box 26 [AI n_1, .ref 9]]⟩ : St)) (by kernel_rfl) ?_ ?_
          · refine R.any (by decide +kernel) (by kernel_rfl) ?_
            refine R.anyF 2 (by kernel_rfl) (np_meetF _ _) ?_
            refine R.anyF 6 (by kernel_rfl) (np_meetF _ _) ?_
            refine R.anyA 0 (.ptr 10 1) (by kernel_rfl) (np_meetF _ _) ?_
            refine R.anyA 3 (.ptr 10 0) (by kernel_rfl) (np_meetF _ _) ?_
            refine R.anyA 7 (.ptr 10 0) (by kernel_rfl) (np_meetF _ _) ?_
            refine R.any3 1 4 8 (by kernel_rfl) (by kernel_rfl) ?_ ?_ ?_
            · refine R.go 2 (R.any2 4 8 (by kernel_rfl) (by kernel_rfl) ?_ ?_)
              · refine R.go 2 (R.any2 5 8 (by kernel_rfl) (by kernel_rfl) ?_ ?_)
                · refine R.callX (CallX.inF 7 usC frC (CallX.box 7 26 [AI 0, .nil] (nextX_c_r8b c p1_8 h1_9 n_1 eo1 so1 no1 co1 eo2 so2 no2 co2 eo3 so3 no3 co3 eo4 so4 no4 co4 eo5 so5 no5 co5 eo6 so6 no6 co6 26 2 1 [AI 0, .nil] 2 1 xs_2.length (rows eI xs_2) 26 n_1 hc) (by kernel_rfl) (by kernel_rfl) (by kernel_rfl) (by kernel_rfl) (by rintro _ _ ⟨_, _, _, _, rfl, rfl⟩; exact ⟨by kernel_rfl, by kernel_rfl, by kernel_rfl⟩)) (Nat.le_of_ble_eq_true (by kernel_rfl)) (by kernel_rfl) (by kernel_rfl) (by rintro _ _ ⟨_, ⟨_, _, _, _, rfl, rfl⟩, rfl⟩; exact Nat.le_of_ble_eq_true (by kernel_rfl))) (by kernel_rfl) (by kernel_rfl) (by kernel_rfl) ?_
                  rintro _ _ ⟨_, _, ⟨_, ⟨v_18, p1_19, h1_20, f21, rfl, rfl⟩, rfl⟩, rfl, rfl⟩
                  refine R.go 1 (R.any1 8 (by kernel_rfl) (by kernel_rfl) ?_)
                  refine R.go 2 (R.any1 9 (by kernel_rfl) (by kernel_rfl) ?_)
                  refine R.call true (l01Full_c n_1 (by omega) (by omega)) (by kernel_rfl) rfl (by kernel_rfl) ?_
                  refine R.go 1 (R.any1 10 (by kernel_rfl) (by kernel_rfl) ?_)
                  refine R.ar (((shl64 1 n_1) - 1) + 1) (by kernel_rfl) (by omega) (by omega) (by kernel_rfl) ?_
                  refine R.go 1 (R.any1 11 (by kernel_rfl) (by kernel_rfl) ?_)
                  refine R.lit (s := 1) (n := 2) (cs := rows eI [(-1), ((shl64 1 n_1) - 1) + 1]) (by kernel_rfl) (by kernel_rfl) ?_
                  refine R.go 1 (R.any1 12 (by kernel_rfl) (by kernel_rfl) ?_)
                  refine R.callX (CallX.inF 7 usC frC (CallX.box 7 26 [AI 0, .nil] (pickX_c_r8b c p1_19 h1_20 [(-1), ((shl64 1 n_1) - 1) + 1] eo1 so1 no1 co1 eo2 so2 no2 co2 eo3 so3 no3 co3 eo4 so4 no4 co4 eo5 so5 no5 co5 eo6 so6 no6 co6 26 2 1 [AI 0, .nil] 2 1 xs_2.length (rows eI xs_2) 26 n_1 hc (by simp)) (by kernel_rfl) (by kernel_rfl) (by kernel_rfl) (by kernel_rfl) (by rintro _ _ ⟨_, _, _, rfl, rfl⟩; exact ⟨by kernel_rfl, by kernel_rfl, by kernel_rfl⟩)) (Nat.le_of_ble_eq_true (by kernel_rfl)) (by kernel_rfl) (by kernel_rfl) (by rintro _ _ ⟨_, ⟨_, _, _, rfl, rfl⟩, rfl⟩; exact Nat.le_of_ble_eq_true (by kernel_rfl))) (by kernel_rfl) (by kernel_rfl) (by kernel_rfl) ?_
                  rintro _ _ ⟨_, _, ⟨_, ⟨v_22, p1_23, h1_24, rfl, rfl⟩, rfl⟩, rfl, rfl⟩
                  refine R.go 1 (R.any1 13 (by kernel_rfl) (by kernel_rfl) ?_)
                  refine R.idxO 9 1 xs_2.length ((v_18).toNat) v_18 (by kernel_rfl) (by omega) (by omega) (by kernel_rfl) ?_
                  refine R.go 1 (R.any1 14 (by kernel_rfl) (by kernel_rfl) ?_)
                  refine R.stI 9 2 xs_2 ((v_18).toNat) v_22 (by kernel_rfl) (by omega) (by kernel_rfl) ?_
                  refine R.go 1 (R.any0 (by kernel_rfl) ?_)
                  exact R.metF (v_18, p1_19, h1_20, v_22, p1_23, h1_24) (by kernel_rfl) (by first | assumption | omega) (by kernel_rfl)
                · refine R.go 2 (R.any1 5 (by kernel_rfl) (by kernel_rfl) ?_)
                  refine R.callX (CallX.inF 7 usC frC (CallX.box 7 26 [AI 0, .nil] (nextX_c_r8b c p1_8 h1_9 n_1 eo1 so1 no1 co1 eo2 so2 no2 co2 eo3 so3 no3 co3 eo4 so4 no4 co4 eo5 so5 no5 co5 eo6 so6 no6 co6 26 2 1 [AI 0, .nil] 2 1 xs_2.length (rows eI xs_2) 26 n_1 hc) (by kernel_rfl) (by kernel_rfl) (by kernel_rfl) (by kernel_rfl) (by rintro _ _ ⟨_, _, _, _, rfl, rfl⟩; exact ⟨by kernel_rfl, by kernel_rfl, by kernel_rfl⟩)) (Nat.le_of_ble_eq_true (by kernel_rfl)) (by kernel_rfl) (by kernel_rfl) (by rintro _ _ ⟨_, ⟨_, _, _, _, rfl, rfl⟩, rfl⟩; exact Nat.le_of_ble_eq_true (by kernel_rfl))) (by kernel_rfl) (by kernel_rfl) (by kernel_rfl) ?_
                  rintro _ _ ⟨_, _, ⟨_, ⟨v_25, p1_26, h1_27, f28, rfl, rfl⟩, rfl⟩, rfl, rfl⟩
                  refine R.go 1 (R.any1 9 (by kernel_rfl) (by kernel_rfl) ?_)
                  refine R.call true (l01Full_c n_1 (by omega) (by omega)) (by kernel_rfl) rfl (by kernel_rfl) ?_
                  refine R.go 1 (R.any1 10 (by kernel_rfl) (by kernel_rfl) ?_)
                  refine R.ar (((shl64 1 n_1) - 1) + 1) (by kernel_rfl) (by omega) (by omega) (by kernel_rfl) ?_
                  refine R.go 1 (R.any1 11 (by kernel_rfl) (by kernel_rfl) ?_)
                  refine R.lit (s := 1) (n := 2) (cs := rows eI [(-1), ((shl64 1 n_1) - 1) + 1]) (by kernel_rfl) (by kernel_rfl) ?_
                  refine R.go 1 (R.any1 12 (by kernel_rfl) (by kernel_rfl) ?_)
                  refine R.callX (CallX.inF 7 usC frC (CallX.box 7 26 [AI 0, .nil] (pickX_c_r8b c p1_26 h1_27 [(-1), ((shl64 1 n_1) - 1) + 1] eo1 so1 no1 co1 eo2 so2 no2 co2 eo3 so3 no3 co3 eo4 so4 no4 co4 eo5 so5 no5 co5 eo6 so6 no6 co6 26 2 1 [AI 0, .nil] 2 1 xs_2.length (rows eI xs_2) 26 n_1 hc (by simp)) (by kernel_rfl) (by kernel_rfl) (by kernel_rfl) (by kernel_rfl) (by rintro _ _ ⟨_, _, _, rfl, rfl⟩; exact ⟨by kernel_rfl, by kernel_rfl, by kernel_rfl⟩)) (Nat.le_of_ble_eq_true (by kernel_rfl)) (by kernel_rfl) (by kernel_rfl) (by rintro _ _ ⟨_, ⟨_, _, _, rfl, rfl⟩, rfl⟩; exact Nat.le_of_ble_eq_true (by kernel_rfl))) (by kernel_rfl) (by kernel_rfl) (by kernel_rfl) ?_
                  rintro _ _ ⟨_, _, ⟨_, ⟨v_29, p1_30, h1_31, rfl, rfl⟩, rfl⟩, rfl, rfl⟩
                  refine R.go 1 (R.any1 13 (by kernel_rfl) (by kernel_rfl) ?_)
                  refine R.idxO 9 1 xs_2.length ((v_25).toNat) v_25 (by kernel_rfl) (by omega) (by omega) (by kernel_rfl) ?_
                  refine R.go 1 (R.any1 14 (by kernel_rfl) (by kernel_rfl) ?_)
                  refine R.stI 9 2 xs_2 ((v_25).toNat) v_29 (by kernel_rfl) (by omega) (by kernel_rfl) ?_
                  refine R.go 1 (R.any0 (by kernel_rfl) ?_)
                  exact R.metF (v_25, p1_26, h1_27, v_29, p1_30, h1_31) (by kernel_rfl) (by first | assumption | omega) (by kernel_rfl)
              · refine R.go 2 (R.any1 4 (by kernel_rfl) (by kernel_rfl) ?_)
                refine R.go 2 (R.any1 5 (by kernel_rfl) (by kernel_rfl) ?_)
                refine R.callX (CallX.inF 7 usC frC (CallX.box 7 26 [AI 0, .nil] (nextX_c_r8b c p1_8 h1_9 n_1 eo1 so1 no1 co1 eo2 so2 no2 co2 eo3 so3 no3 co3 eo4 so4 no4 co4 eo5 so5 no5 co5 eo6 so6 no6 co6 26 2 1 [AI 0, .nil] 2 1 xs_2.length (rows eI xs_2) 26 n_1 hc) (by kernel_rfl) (by kernel_rfl) (by kernel_rfl) (by kernel_rfl) (by rintro _ _ ⟨_, _, _, _, rfl, rfl⟩; exact ⟨by kernel_rfl, by kernel_rfl, by kernel_rfl⟩)) (Nat.le_of_ble_eq_true (by kernel_rfl)) (by kernel_rfl) (by kernel_rfl) (by rintro _ _ ⟨_, ⟨_, _, _, _, rfl, rfl⟩, rfl⟩; exact Nat.le_of_ble_eq_true (by kernel_rfl))) (by kernel_rfl) (by kernel_rfl) (by kernel_rfl) ?_
                rintro _ _ ⟨_, _, ⟨_, ⟨v_32, p1_33, h1_34, f35, rfl, rfl⟩, rfl⟩, rfl, rfl⟩
                refine R.go 1 (R.any1 9 (by kernel_rfl) (by kernel_rfl) ?_)
                refine R.call true (l01Full_c n_1 (by omega) (by omega)) (by kernel_rfl) rfl (by kernel_rfl) ?_
                refine R.go 1 (R.any1 10 (by kernel_rfl) (by kernel_rfl) ?_)
                refine R.ar (((shl64 1 n_1) - 1) + 1) (by kernel_rfl) (by omega) (by omega) (by kernel_rfl) ?_
                refine R.go 1 (R.any1 11 (by kernel_rfl) (by kernel_rfl) ?_)
                refine R.lit (s := 1) (n := 2) (cs := rows eI [(-1), ((shl64 1 n_1) - 1) + 1]) (by kernel_rfl) (by kernel_rfl) ?_
                refine R.go 1 (R.any1 12 (by kernel_rfl) (by kernel_rfl) ?_)
                refine R.callX (CallX.inF 7 usC frC (CallX.box 7 26 [AI 0, .nil] (pickX_c_r8b c p1_33 h1_34 [(-1), ((shl64 1 n_1) - 1) + 1] eo1 so1 no1 co1 eo2 so2 no2 co2 eo3 so3 no3 co3 eo4 so4 no4 co4 eo5 so5 no5 co5 eo6 so6 no6 co6 26 2 1 [AI 0, .nil] 2 1 xs_2.length (rows eI xs_2) 26 n_1 hc (by simp)) (by kernel_rfl) (by kernel_rfl) (by kernel_rfl) (by kernel_rfl) (by rintro _ _ ⟨_, _, _, rfl, rfl⟩; exact ⟨by kernel_rfl, by kernel_rfl, by kernel_rfl⟩)) (Nat.le_of_ble_eq_true (by kernel_rfl)) (by kernel_rfl) (by kernel_rfl) (by rintro _ _ ⟨_, ⟨_, _, _, rfl, rfl⟩, rfl⟩; exact Nat.le_of_ble_eq_true (by kernel_rfl))) (by kernel_rfl) (by kernel_rfl) (by kernel_rfl) ?_
                rintro _ _ ⟨_, _, ⟨_, ⟨v_36, p1_37, h1_38, rfl, rfl⟩, rfl⟩, rfl, rfl⟩
                refine R.go 1 (R.any1 13 (by kernel_rfl) (by kernel_rfl) ?_)
                refine R.idxO 9 1 xs_2.length ((v_32).toNat) v_32 (by kernel_rfl) (by omega) (by omega) (by kernel_rfl) ?_
                refine R.go 1 (R.any1 14 (by kernel_rfl) (by kernel_rfl) ?_)
                refine R.stI 9 2 xs_2 ((v_32).toNat) v_36 (by kernel_rfl) (by omega) (by kernel_rfl) ?_
                refine R.go 1 (R.any0 (by kernel_rfl) ?_)
                exact R.metF (v_32, p1_33, h1_34, v_36, p1_37, h1_38) (by kernel_rfl) (by first | assumption | omega) (by kernel_rfl)
            · refine R.go 2 (R.any3 1 5 8 (by kernel_rfl) (by kernel_rfl) ?_ ?_ ?_)
              · refine R.go 2 (R.any2 5 8 (by kernel_rfl) (by kernel_rfl) ?_ ?_)
                · refine R.callX (CallX.inF 7 usC frC (CallX.box 7 26 [AI 0, .nil] (nextX_c_r8b c p1_8 h1_9 n_1 eo1 so1 no1 co1 eo2 so2 no2 co2 eo3 so3 no3 co3 eo4 so4 no4 co4 eo5 so5 no5 co5 eo6 so6 no6 co6 26 2 1 [AI 0, .nil] 2 1 xs_2.length (rows eI xs_2) 26 n_1 hc) (by kernel_rfl) (by kernel_rfl) (by kernel_rfl) (by kernel_rfl) (by rintro _ _ ⟨_, _, _, _, rfl, rfl⟩; exact ⟨by kernel_rfl, by kernel_rfl, by kernel_rfl⟩)) (Nat.le_of_ble_eq_true (by kernel_rfl)) (by kernel_rfl) (by kernel_rfl) (by rintro _ _ ⟨_, ⟨_, _, _, _, rfl, rfl⟩, rfl⟩; exact Nat.le_of_ble_eq_true (by kernel_rfl))) (by kernel_rfl) (by kernel_rfl) (by kernel_rfl) ?_
                  rintro _ _ ⟨_, _, ⟨_, ⟨v_39, p1_40, h1_41, f42, rfl, rfl⟩, rfl⟩, rfl, rfl⟩
                  refine R.go 1 (R.any1 8 (by kernel_rfl) (by kernel_rfl) ?_)
                  refine R.go 2 (R.any1 9 (by kernel_rfl) (by kernel_rfl) ?_)
                  refine R.call true (l01Full_c n_1 (by omega) (by omega)) (by kernel_rfl) rfl (by kernel_rfl) ?_
                  refine R.go 1 (R.any1 10 (by kernel_rfl) (by kernel_rfl) ?_)
                  refine R.ar (((shl64 1 n_1) - 1) + 1) (by kernel_rfl) (by omega) (by omega) (by kernel_rfl) ?_
                  refine R.go 1 (R.any1 11 (by kernel_rfl) (by kernel_rfl) ?_)
                  refine R.lit (s := 1) (n := 2) (cs := rows eI [(-1), ((shl64 1 n_1) - 1) + 1]) (by kernel_rfl) (by kernel_rfl) ?_
                  refine R.go 1 (R.any1 12 (by kernel_rfl) (by kernel_rfl) ?_)
                  refine R.callX (CallX.inF 7 usC frC (CallX.box 7 26 [AI 0, .nil] (pickX_c_r8b c p1_40 h1_41 [(-1), ((shl64 1 n_1) - 1) + 1] eo1 so1 no1 co1 eo2 so2 no2 co2 eo3 so3 no3 co3 eo4 so4 no4 co4 eo5 so5 no5 co5 eo6 so6 no6 co6 26 2 1 [AI 0, .nil] 2 1 xs_2.length (rows eI xs_2) 26 n_1 hc (by simp)) (by kernel_rfl) (by kernel_rfl) (by kernel_rfl) (by kernel_rfl) (by rintro _ _ ⟨_, _, _, rfl, rfl⟩; exact ⟨by kernel_rfl, by kernel_rfl, by kernel_rfl⟩)) (Nat.le_of_ble_eq_true (by kernel_rfl)) (by kernel_rfl) (by kernel_rfl) (by rintro _ _ ⟨_, ⟨_, _, _, rfl, rfl⟩, rfl⟩; exact Nat.le_of_ble_eq_true (by kernel_rfl))) (by kernel_rfl) (by kernel_rfl) (by kernel_rfl) ?_
                  rintro _ _ ⟨_, _, ⟨_, ⟨v_43, p1_44, h1_45, rfl, rfl⟩, rfl⟩, rfl, rfl⟩
                  refine R.go 1 (R.any1 13 (by kernel_rfl) (by kernel_rfl) ?_)
                  refine R.idxO 9 1 xs_2.length ((v_39).toNat) v_39 (by kernel_rfl) (by omega) (by omega) (by kernel_rfl) ?_
                  refine R.go 1 (R.any1 14 (by kernel_rfl) (by kernel_rfl) ?_)
                  refine R.stI 9 2 xs_2 ((v_39).toNat) v_43 (by kernel_rfl) (by omega) (by kernel_rfl) ?_
                  refine R.go 1 (R.any0 (by kernel_rfl) ?_)
                  exact R.metF (v_39, p1_40, h1_41, v_43, p1_44, h1_45) (by kernel_rfl) (by first | assumption | omega) (by kernel_rfl)
                · refine R.go 2 (R.any1 5 (by kernel_rfl) (by kernel_rfl) ?_)
                  refine R.callX (CallX.inF 7 usC frC (CallX.box 7 26 [AI 0, .nil] (nextX_c_r8b c p1_8 h1_9 n_1 eo1 so1 no1 co1 eo2 so2 no2 co2 eo3 so3 no3 co3 eo4 so4 no4 co4 eo5 so5 no5 co5 eo6 so6 no6 co6 26 2 1 [AI 0, .nil] 2 1 xs_2.length (rows eI xs_2) 26 n_1 hc) (by kernel_rfl) (by kernel_rfl) (by kernel_rfl) (by kernel_rfl) (by rintro _ _ ⟨_, _, _, _, rfl, rfl⟩; exact ⟨by kernel_rfl, by kernel_rfl, by kernel_rfl⟩)) (Nat.le_of_ble_eq_true (by kernel_rfl)) (by kernel_rfl) (by kernel_rfl) (by rintro _ _ ⟨_, ⟨_, _, _, _, rfl, rfl⟩, rfl⟩; exact Nat.le_of_ble_eq_true (by kernel_rfl))) (by kernel_rfl) (by kernel_rfl) (by kernel_rfl) ?_
                  rintro _ _ ⟨_, _, ⟨_, ⟨v_46, p1_47, h1_48, f49, rfl, rfl⟩, rfl⟩, rfl, rfl⟩
                  refine R.go 1 (R.any1 9 (by kernel_rfl) (by kernel_rfl) ?_)
                  refine R.call true (l01Full_c n_1 (by omega) (by omega)) (by kernel_rfl) rfl (by kernel_rfl) ?_
                  refine R.go 1 (R.any1 10 (by kernel_rfl) (by kernel_rfl) ?_)
                  refine R.ar (((shl64 1 n_1) - 1) + 1) (by kernel_rfl) (by omega) (by omega) (by kernel_rfl) ?_
                  refine R.go 1 (R.any1 11 (by kernel_rfl) (by kernel_rfl) ?_)
                  refine R.lit (s := 1) (n := 2) (cs := rows eI [(-1), ((shl64 1 n_1) - 1) + 1]) (by kernel_rfl) (by kernel_rfl) ?_
                  refine R.go 1 (R.any1 12 (by kernel_rfl) (by kernel_rfl) ?_)
                  refine R.callX (CallX.inF 7 usC frC (CallX.box 7 26 [AI 0, .nil] (pickX_c_r8b c p1_47 h1_48 [(-1), ((shl64 1 n_1) - 1) + 1] eo1 so1 no1 co1 eo2 so2 no2 co2 eo3 so3 no3 co3 eo4 so4 no4 co4 eo5 so5 no5 co5 eo6 so6 no6 co6 26 2 1 [AI 0, .nil] 2 1 xs_2.length (rows eI xs_2) 26 n_1 hc (by simp)) (by kernel_rfl) (by kernel_rfl) (by kernel_rfl) (by kernel_rfl) (by rintro _ _ ⟨_, _, _, rfl, rfl⟩; exact ⟨by kernel_rfl, by kernel_rfl, by kernel_rfl⟩)) (Nat.le_of_ble_eq_true (by kernel_rfl)) (by kernel_rfl) (by kernel_rfl) (by rintro _ _ ⟨_, ⟨_, _, _, rfl, rfl⟩, rfl⟩; exact Nat.le_of_ble_eq_true (by kernel_rfl))) (by kernel_rfl) (by kernel_rfl) (by kernel_rfl) ?_
                  rintro _ _ ⟨_, _, ⟨_, ⟨v_50, p1_51, h1_52, rfl, rfl⟩, rfl⟩, rfl, rfl⟩
                  refine R.go 1 (R.any1 13 (by kernel_rfl) (by kernel_rfl) ?_)
                  refine R.idxO 9 1 xs_2.length ((v_46).toNat) v_46 (by kernel_rfl) (by omega) (by omega) (by kernel_rfl) ?_
                  refine R.go 1 (R.any1 14 (by kernel_rfl) (by kernel_rfl) ?_)
                  refine R.stI 9 2 xs_2 ((v_46).toNat) v_50 (by kernel_rfl) (by omega) (by kernel_rfl) ?_
                  refine R.go 1 (R.any0 (by kernel_rfl) ?_)
                  exact R.metF (v_46, p1_47, h1_48, v_50, p1_51, h1_52) (by kernel_rfl) (by first | assumption | omega) (by kernel_rfl)
              · refine R.callX (CallX.inF 7 usC frC (CallX.box 7 26 [AI 0, .nil] (nextX_c_r8b c p1_8 h1_9 n_1 eo1 so1 no1 co1 eo2 so2 no2 co2 eo3 so3 no3 co3 eo4 so4 no4 co4 eo5 so5 no5 co5 eo6 so6 no6 co6 26 2 1 [AI 0, .nil] 2 1 xs_2.length (rows eI xs_2) 26 n_1 hc) (by kernel_rfl) (by kernel_rfl) (by kernel_rfl) (by kernel_rfl) (by rintro _ _ ⟨_, _, _, _, rfl, rfl⟩; exact ⟨by kernel_rfl, by kernel_rfl, by kernel_rfl⟩)) (Nat.le_of_ble_eq_true (by kernel_rfl)) (by kernel_rfl) (by kernel_rfl) (by rintro _ _ ⟨_, ⟨_, _, _, _, rfl, rfl⟩, rfl⟩; exact Nat.le_of_ble_eq_true (by kernel_rfl))) (by kernel_rfl) (by kernel_rfl) (by kernel_rfl) ?_
                rintro _ _ ⟨_, _, ⟨_, ⟨v_53, p1_54, h1_55, f56, rfl, rfl⟩, rfl⟩, rfl, rfl⟩
                refine R.go 1 (R.any2 1 8 (by kernel_rfl) (by kernel_rfl) ?_ ?_)
                · refine R.go 2 (R.any1 8 (by kernel_rfl) (by kernel_rfl) ?_)
                  refine R.go 2 (R.any1 9 (by kernel_rfl) (by kernel_rfl) ?_)
                  refine R.call true (l01Full_c n_1 (by omega) (by omega)) (by kernel_rfl) rfl (by kernel_rfl) ?_
                  refine R.go 1 (R.any1 10 (by kernel_rfl) (by kernel_rfl) ?_)
                  refine R.ar (((shl64 1 n_1) - 1) + 1) (by kernel_rfl) (by omega) (by omega) (by kernel_rfl) ?_
                  refine R.go 1 (R.any1 11 (by kernel_rfl) (by kernel_rfl) ?_)
                  refine R.lit (s := 1) (n := 2) (cs := rows eI [(-1), ((shl64 1 n_1) - 1) + 1]) (by kernel_rfl) (by kernel_rfl) ?_
                  refine R.go 1 (R.any1 12 (by kernel_rfl) (by kernel_rfl) ?_)
                  refine R.callX (CallX.inF 7 usC frC (CallX.box 7 26 [AI 0, .nil] (pickX_c_r8b c p1_54 h1_55 [(-1), ((shl64 1 n_1) - 1) + 1] eo1 so1 no1 co1 eo2 so2 no2 co2 eo3 so3 no3 co3 eo4 so4 no4 co4 eo5 so5 no5 co5 eo6 so6 no6 co6 26 2 1 [AI 0, .nil] 2 1 xs_2.length (rows eI xs_2) 26 n_1 hc (by simp)) (by kernel_rfl) (by kernel_rfl) (by kernel_rfl) (by kernel_rfl) (by rintro _ _ ⟨_, _, _, rfl, rfl⟩; exact ⟨by kernel_rfl, by kernel_rfl, by kernel_rfl⟩)) (Nat.le_of_ble_eq_true (by kernel_rfl)) (by kernel_rfl) (by kernel_rfl) (by rintro _ _ ⟨_, ⟨_, _, _, rfl, rfl⟩, rfl⟩; exact Nat.le_of_ble_eq_true (by kernel_rfl))) (by kernel_rfl) (by kernel_rfl) (by kernel_rfl) ?_
                  rintro _ _ ⟨_, _, ⟨_, ⟨v_57, p1_58, h1_59, rfl, rfl⟩, rfl⟩, rfl, rfl⟩
                  refine R.go 1 (R.any1 13 (by kernel_rfl) (by kernel_rfl) ?_)
                  refine R.idxO 9 1 xs_2.length ((v_53).toNat) v_53 (by kernel_rfl) (by omega) (by omega) (by kernel_rfl) ?_
                  refine R.go 1 (R.any1 14 (by kernel_rfl) (by kernel_rfl) ?_)
                  refine R.stI 9 2 xs_2 ((v_53).toNat) v_57 (by kernel_rfl) (by omega) (by kernel_rfl) ?_
                  refine R.go 1 (R.any0 (by kernel_rfl) ?_)
                  exact R.metF (v_53, p1_54, h1_55, v_57, p1_58, h1_59) (by kernel_rfl) (by first | assumption | omega) (by kernel_rfl)
                · refine R.go 2 (R.any2 1 9 (by kernel_rfl) (by kernel_rfl) ?_ ?_)
                  · refine R.go 2 (R.any1 9 (by kernel_rfl) (by kernel_rfl) ?_)
                    refine R.call true (l01Full_c n_1 (by omega) (by omega)) (by kernel_rfl) rfl (by kernel_rfl) ?_
                    refine R.go 1 (R.any1 10 (by kernel_rfl) (by kernel_rfl) ?_)
                    refine R.ar (((shl64 1 n_1) - 1) + 1) (by kernel_rfl) (by omega) (by omega) (by kernel_rfl) ?_
                    refine R.go 1 (R.any1 11 (by kernel_rfl) (by kernel_rfl) ?_)
                    refine R.lit (s := 1) (n := 2) (cs := rows eI [(-1), ((shl64 1 n_1) - 1) + 1]) (by kernel_rfl) (by kernel_rfl) ?_
                    refine R.go 1 (R.any1 12 (by kernel_rfl) (by kernel_rfl) ?_)
                    refine R.callX (CallX.inF 7 usC frC (CallX.box 7 26 [AI 0, .nil] (pickX_c_r8b c p1_54 h1_55 [(-1), ((shl64 1 n_1) - 1) + 1] eo1 so1 no1 co1 eo2 so2 no2 co2 eo3 so3 no3 co3 eo4 so4 no4 co4 eo5 so5 no5 co5 eo6 so6 no6 co6 26 2 1 [AI 0, .nil] 2 1 xs_2.length (rows eI xs_2) 26 n_1 hc (by simp)) (by kernel_rfl) (by kernel_rfl) (by kernel_rfl) (by kernel_rfl) (by rintro _ _ ⟨_, _, _, rfl, rfl⟩; exact ⟨by kernel_rfl, by kernel_rfl, by kernel_rfl⟩)) (Nat.le_of_ble_eq_true (by kernel_rfl)) (by kernel_rfl) (by kernel_rfl) (by rintro _ _ ⟨_, ⟨_, _, _, rfl, rfl⟩, rfl⟩; exact Nat.le_of_ble_eq_true (by kernel_rfl))) (by kernel_rfl) (by kernel_rfl) (by kernel_rfl) ?_
                    rintro _ _ ⟨_, _, ⟨_, ⟨v_60, p1_61, h1_62, rfl, rfl⟩, rfl⟩, rfl, rfl⟩
                    refine R.go 1 (R.any1 13 (by kernel_rfl) (by kernel_rfl) ?_)
                    refine R.idxO 9 1 xs_2.length ((v_53).toNat) v_53 (by kernel_rfl) (by omega) (by omega) (by kernel_rfl) ?_
                    refine R.go 1 (R.any1 14 (by kernel_rfl) (by kernel_rfl) ?_)
                    refine R.stI 9 2 xs_2 ((v_53).toNat) v_60 (by kernel_rfl) (by omega) (by kernel_rfl) ?_
                    refine R.go 1 (R.any0 (by kernel_rfl) ?_)
                    exact R.metF (v_53, p1_54, h1_55, v_60, p1_61, h1_62) (by kernel_rfl) (by first | assumption | omega) (by kernel_rfl)
                  · refine R.call true (l01Full_c n_1 (by omega) (by omega)) (by kernel_rfl) rfl (by kernel_rfl) ?_
                    refine R.go 1 (R.any2 1 10 (by kernel_rfl) (by kernel_rfl) ?_ ?_)
                    · refine R.go 2 (R.any1 10 (by kernel_rfl) (by kernel_rfl) ?_)
                      refine R.ar (((shl64 1 n_1) - 1) + 1) (by kernel_rfl) (by omega) (by omega) (by kernel_rfl) ?_
                      refine R.go 1 (R.any1 11 (by kernel_rfl) (by kernel_rfl) ?_)
                      refine R.lit (s := 1) (n := 2) (cs := rows eI [(-1), ((shl64 1 n_1) - 1) + 1]) (by kernel_rfl) (by kernel_rfl) ?_
                      refine R.go 1 (R.any1 12 (by kernel_rfl) (by kernel_rfl) ?_)
                      refine R.callX (CallX.inF 7 usC frC (CallX.box 7 26 [AI 0, .nil] (pickX_c_r8b c p1_54 h1_55 [(-1), ((shl64 1 n_1) - 1) + 1] eo1 so1 no1 co1 eo2 so2 no2 co2 eo3 so3 no3 co3 eo4 so4 no4 co4 eo5 so5 no5 co5 eo6 so6 no6 co6 26 2 1 [AI 0, .nil] 2 1 xs_2.length (rows eI xs_2) 26 n_1 hc (by simp)) (by kernel_rfl) (by kernel_rfl) (by kernel_rfl) (by kernel_rfl) (by rintro _ _ ⟨_, _, _, rfl, rfl⟩; exact ⟨by kernel_rfl, by kernel_rfl, by kernel_rfl⟩)) (Nat.le_of_ble_eq_true (by kernel_rfl)) (by kernel_rfl) (by kernel_rfl) (by rintro _ _ ⟨_, ⟨_, _, _, rfl, rfl⟩, rfl⟩; exact Nat.le_of_ble_eq_true (by kernel_rfl))) (by kernel_rfl) (by kernel_rfl) (by kernel_rfl) ?_
                      rintro _ _ ⟨_, _, ⟨_, ⟨v_63, p1_64, h1_65, rfl, rfl⟩, rfl⟩, rfl, rfl⟩
                      refine R.go 1 (R.any1 13 (by kernel_rfl) (by kernel_rfl) ?_)
                      refine R.idxO 9 1 xs_2.length ((v_53).toNat) v_53 (by kernel_rfl) (by omega) (by omega) (by kernel_rfl) ?_
                      refine R.go 1 (R.any1 14 (by kernel_rfl) (by kernel_rfl) ?_)
                      refine R.stI 9 2 xs_2 ((v_53).toNat) v_63 (by kernel_rfl) (by omega) (by kernel_rfl) ?_
                      refine R.go 1 (R.any0 (by kernel_rfl) ?_)
                      exact R.metF (v_53, p1_54, h1_55, v_63, p1_64, h1_65) (by kernel_rfl) (by first | assumption | omega) (by kernel_rfl)
                    · refine R.ar (((shl64 1 n_1) - 1) + 1) (by kernel_rfl) (by omega) (by omega) (by kernel_rfl) ?_
                      refine R.go 1 (R.any2 1 11 (by kernel_rfl) (by kernel_rfl) ?_ ?_)
                      · refine R.go 2 (R.any1 11 (by kernel_rfl) (by kernel_rfl) ?_)
                        refine R.lit (s := 1) (n := 2) (cs := rows eI [(-1), ((shl64 1 n_1) - 1) + 1]) (by kernel_rfl) (by kernel_rfl) ?_
                        refine R.go 1 (R.any1 12 (by kernel_rfl) (by kernel_rfl) ?_)
                        refine R.callX (CallX.inF 7 usC frC (CallX.box 7 26 [AI 0, .nil] (pickX_c_r8b c p1_54 h1_55 [(-1), ((shl64 1 n_1) - 1) + 1] eo1 so1 no1 co1 eo2 so2 no2 co2 eo3 so3 no3 co3 eo4 so4 no4 co4 eo5 so5 no5 co5 eo6 so6 no6 co6 26 2 1 [AI 0, .nil] 2 1 xs_2.length (rows eI xs_2) 26 n_1 hc (by simp)) (by kernel_rfl) (by kernel_rfl) (by kernel_rfl) (by kernel_rfl) (by rintro _ _ ⟨_, _, _, rfl, rfl⟩; exact ⟨by kernel_rfl, by kernel_rfl, by kernel_rfl⟩)) (Nat.le_of_ble_eq_true (by kernel_rfl)) (by kernel_rfl) (by kernel_rfl) (by rintro _ _ ⟨_, ⟨_, _, _, rfl, rfl⟩, rfl⟩; exact Nat.le_of_ble_eq_true (by kernel_rfl))) (by kernel_rfl) (by kernel_rfl) (by kernel_rfl) ?_
                        rintro _ _ ⟨_, _, ⟨_, ⟨v_66, p1_67, h1_68, rfl, rfl⟩, rfl⟩, rfl, rfl⟩
                        refine R.go 1 (R.any1 13 (by kernel_rfl) (by kernel_rfl) ?_)
                        refine R.idxO 9 1 xs_2.length ((v_53).toNat) v_53 (by kernel_rfl) (by omega) (by omega) (by kernel_rfl) ?_
                        refine R.go 1 (R.any1 14 (by kernel_rfl) (by kernel_rfl) ?_)
                        refine R.stI 9 2 xs_2 ((v_53).toNat) v_66 (by kernel_rfl) (by omega) (by kernel_rfl) ?_
                        refine R.go 1 (R.any0 (by kernel_rfl) ?_)
                        exact R.metF (v_53, p1_54, h1_55, v_66, p1_67, h1_68) (by kernel_rfl) (by first | assumption | omega) (by kernel_rfl)
                      · refine R.lit (s := 1) (n := 2) (cs := rows eI [(-1), ((shl64 1 n_1) - 1) + 1]) (by kernel_rfl) (by kernel_rfl) ?_
                        refine R.go 1 (R.any2 1 12 (by kernel_rfl) (by kernel_rfl) ?_ ?_)
                        · refine R.go 2 (R.any1 12 (by kernel_rfl) (by kernel_rfl) ?_)
                          refine R.callX (CallX.inF 7 usC frC (CallX.box 7 26 [AI 0, .nil] (pickX_c_r8b c p1_54 h1_55 [(-1), ((shl64 1 n_1) - 1) + 1] eo1 so1 no1 co1 eo2 so2 no2 co2 eo3 so3 no3 co3 eo4 so4 no4 co4 eo5 so5 no5 co5 eo6 so6 no6 co6 26 2 1 [AI 0, .nil] 2 1 xs_2.length (rows eI xs_2) 26 n_1 hc (by simp)) (by kernel_rfl) (by kernel_rfl) (by kernel_rfl) (by kernel_rfl) (by rintro _ _ ⟨_, _, _, rfl, rfl⟩; exact ⟨by kernel_rfl, by kernel_rfl, by kernel_rfl⟩)) (Nat.le_of_ble_eq_true (by kernel_rfl)) (by kernel_rfl) (by kernel_rfl) (by rintro _ _ ⟨_, ⟨_, _, _, rfl, rfl⟩, rfl⟩; exact Nat.le_of_ble_eq_true (by kernel_rfl))) (by kernel_rfl) (by kernel_rfl) (by kernel_rfl) ?_
                          rintro _ _ ⟨_, _, ⟨_, ⟨v_69, p1_70, h1_71, rfl, rfl⟩, rfl⟩, rfl, rfl⟩
                          refine R.go 1 (R.any1 13 (by kernel_rfl) (by kernel_rfl) ?_)
                          refine R.idxO 9 1 xs_2.length ((v_53).toNat) v_53 (by kernel_rfl) (by omega) (by omega) (by kernel_rfl) ?_
                          refine R.go 1 (R.any1 14 (by kernel_rfl) (by kernel_rfl) ?_)
                          refine R.stI 9 2 xs_2 ((v_53).toNat) v_69 (by kernel_rfl) (by omega) (by kernel_rfl) ?_
                          refine R.go 1 (R.any0 (by kernel_rfl) ?_)
                          exact R.metF (v_53, p1_54, h1_55, v_69, p1_70, h1_71) (by kernel_rfl) (by first | assumption | omega) (by kernel_rfl)
                        · refine R.callX (CallX.inF 7 usC frC (CallX.box 7 26 [AI 0, .nil] (pickX_c_r8b c p1_54 h1_55 [(-1), ((shl64 1 n_1) - 1) + 1] eo1 so1 no1 co1 eo2 so2 no2 co2 eo3 so3 no3 co3 eo4 so4 no4 co4 eo5 so5 no5 co5 eo6 so6 no6 co6 26 2 1 [AI 0, .nil] 2 1 xs_2.length (rows eI xs_2) 26 n_1 hc (by simp)) (by kernel_rfl) (by kernel_rfl) (by kernel_rfl) (by kernel_rfl) (by rintro _ _ ⟨_, _, _, rfl, rfl⟩; exact ⟨by kernel_rfl, by kernel_rfl, by kernel_rfl⟩)) (Nat.le_of_ble_eq_true (by kernel_rfl)) (by kernel_rfl) (by kernel_rfl) (by rintro _ _ ⟨_, ⟨_, _, _, rfl, rfl⟩, rfl⟩; exact Nat.le_of_ble_eq_true (by kernel_rfl))) (by kernel_rfl) (by kernel_rfl) (by kernel_rfl) ?_
                          rintro _ _ ⟨_, _, ⟨_, ⟨v_72, p1_73, h1_74, rfl, rfl⟩, rfl⟩, rfl, rfl⟩
                          refine R.go 1 (R.any1 1 (by kernel_rfl) (by kernel_rfl) ?_)
                          refine R.go 2 (R.any1 13 (by kernel_rfl) (by kernel_rfl) ?_)
                          refine R.idxO 9 1 xs_2.length ((v_53).toNat) v_53 (by kernel_rfl) (by omega) (by omega) (by kernel_rfl) ?_
                          refine R.go 1 (R.any1 14 (by kernel_rfl) (by kernel_rfl) ?_)
                          refine R.stI 9 2 xs_2 ((v_53).toNat) v_72 (by kernel_rfl) (by omega) (by kernel_rfl) ?_
                          refine R.go 1 (R.any0 (by kernel_rfl) ?_)
                          exact R.metF (v_53, p1_54, h1_55, v_72, p1_73, h1_74) (by kernel_rfl) (by first | assumption | omega) (by kernel_rfl)
              · refine R.go 2 (R.any2 1 5 (by kernel_rfl) (by kernel_rfl) ?_ ?_)
                · refine R.go 2 (R.any1 5 (by kernel_rfl) (by kernel_rfl) ?_)
                  refine R.callX (CallX.inF 7 usC frC (CallX.box 7 26 [AI 0, .nil] (nextX_c_r8b c p1_8 h1_9 n_1 eo1 so1 no1 co1 eo2 so2 no2 co2 eo3 so3 no3 co3 eo4 so4 no4 co4 eo5 so5 no5 co5 eo6 so6 no6 co6 26 2 1 [AI 0, .nil] 2 1 xs_2.length (rows eI xs_2) 26 n_1 hc) (by kernel_rfl) (by kernel_rfl) (by kernel_rfl) (by kernel_rfl) (by rintro _ _ ⟨_, _, _, _, rfl, rfl⟩; exact ⟨by kernel_rfl, by kernel_rfl, by kernel_rfl⟩)) (Nat.le_of_ble_eq_true (by kernel_rfl)) (by kernel_rfl) (by kernel_rfl) (by rintro _ _ ⟨_, ⟨_, _, _, _, rfl, rfl⟩, rfl⟩; exact Nat.le_of_ble_eq_true (by kernel_rfl))) (by kernel_rfl) (by kernel_rfl) (by kernel_rfl) ?_
                  rintro _ _ ⟨_, _, ⟨_, ⟨v_75, p1_76, h1_77, f78, rfl, rfl⟩, rfl⟩, rfl, rfl⟩
                  refine R.go 1 (R.any1 9 (by kernel_rfl) (by kernel_rfl) ?_)
                  refine R.call true (l01Full_c n_1 (by omega) (by omega)) (by kernel_rfl) rfl (by kernel_rfl) ?_
                  refine R.go 1 (R.any1 10 (by kernel_rfl) (by kernel_rfl) ?_)
                  refine R.ar (((shl64 1 n_1) - 1) + 1) (by kernel_rfl) (by omega) (by omega) (by kernel_rfl) ?_
                  refine R.go 1 (R.any1 11 (by kernel_rfl) (by kernel_rfl) ?_)
                  refine R.lit (s := 1) (n := 2) (cs := rows eI [(-1), ((shl64 1 n_1) - 1) + 1]) (by kernel_rfl) (by kernel_rfl) ?_
                  refine R.go 1 (R.any1 12 (by kernel_rfl) (by kernel_rfl) ?_)
                  refine R.callX (CallX.inF 7 usC frC (CallX.box 7 26 [AI 0, .nil] (pickX_c_r8b c p1_76 h1_77 [(-1), ((shl64 1 n_1) - 1) + 1] eo1 so1 no1 co1 eo2 so2 no2 co2 eo3 so3 no3 co3 eo4 so4 no4 co4 eo5 so5 no5 co5 eo6 so6 no6 co6 26 2 1 [AI 0, .nil] 2 1 xs_2.length (rows eI xs_2) 26 n_1 hc (by simp)) (by kernel_rfl) (by kernel_rfl) (by kernel_rfl) (by kernel_rfl) (by rintro _ _ ⟨_, _, _, rfl, rfl⟩; exact ⟨by kernel_rfl, by kernel_rfl, by kernel_rfl⟩)) (Nat.le_of_ble_eq_true (by kernel_rfl)) (by kernel_rfl) (by kernel_rfl) (by rintro _ _ ⟨_, ⟨_, _, _, rfl, rfl⟩, rfl⟩; exact Nat.le_of_ble_eq_true (by kernel_rfl))) (by kernel_rfl) (by kernel_rfl) (by kernel_rfl) ?_
                  rintro _ _ ⟨_, _, ⟨_, ⟨v_79, p1_80, h1_81, rfl, rfl⟩, rfl⟩, rfl, rfl⟩
                  refine R.go 1 (R.any1 13 (by kernel_rfl) (by kernel_rfl) ?_)
                  refine R.idxO 9 1 xs_2.length ((v_75).toNat) v_75 (by kernel_rfl) (by omega) (by omega) (by kernel_rfl) ?_
                  refine R.go 1 (R.any1 14 (by kernel_rfl) (by kernel_rfl) ?_)
                  refine R.stI 9 2 xs_2 ((v_75).toNat) v_79 (by kernel_rfl) (by omega) (by kernel_rfl) ?_
                  refine R.go 1 (R.any0 (by kernel_rfl) ?_)
                  exact R.metF (v_75, p1_76, h1_77, v_79, p1_80, h1_81) (by kernel_rfl) (by first | assumption | omega) (by kernel_rfl)
                · refine R.callX (CallX.inF 7 usC frC (CallX.box 7 26 [AI 0, .nil] (nextX_c_r8b c p1_8 h1_9 n_1 eo1 so1 no1 co1 eo2 so2 no2 co2 eo3 so3 no3 co3 eo4 so4 no4 co4 eo5 so5 no5 co5 eo6 so6 no6 co6 26 2 1 [AI 0, .nil] 2 1 xs_2.length (rows eI xs_2) 26 n_1 hc) (by kernel_rfl) (by kernel_rfl) (by kernel_rfl) (by kernel_rfl) (by rintro _ _ ⟨_, _, _, _, rfl, rfl⟩; exact ⟨by kernel_rfl, by kernel_rfl, by kernel_rfl⟩)) (Nat.le_of_ble_eq_true (by kernel_rfl)) (by kernel_rfl) (by kernel_rfl) (by rintro _ _ ⟨_, ⟨_, _, _, _, rfl, rfl⟩, rfl⟩; exact Nat.le_of_ble_eq_true (by kernel_rfl))) (by kernel_rfl) (by kernel_rfl) (by kernel_rfl) ?_
                  rintro _ _ ⟨_, _, ⟨_, ⟨v_82, p1_83, h1_84, f85, rfl, rfl⟩, rfl⟩, rfl, rfl⟩
                  refine R.go 1 (R.any2 1 9 (by kernel_rfl) (by kernel_rfl) ?_ ?_)
                  · refine R.go 2 (R.any1 9 (by kernel_rfl) (by kernel_rfl) ?_)
                    refine R.call true (l01Full_c n_1 (by omega) (by omega)) (by kernel_rfl) rfl (by kernel_rfl) ?_
                    refine R.go 1 (R.any1 10 (by kernel_rfl) (by kernel_rfl) ?_)
                    refine R.ar (((shl64 1 n_1) - 1) + 1) (by kernel_rfl) (by omega) (by omega) (by kernel_rfl) ?_
                    refine R.go 1 (R.any1 11 (by kernel_rfl) (by kernel_rfl) ?_)
                    refine R.lit (s := 1) (n := 2) (cs := rows eI [(-1), ((shl64 1 n_1) - 1) + 1]) (by kernel_rfl) (by kernel_rfl) ?_
                    refine R.go 1 (R.any1 12 (by kernel_rfl) (by kernel_rfl) ?_)
                    refine R.callX (CallX.inF 7 usC frC (CallX.box 7 26 [AI 0, .nil] (pickX_c_r8b c p1_83 h1_84 [(-1), ((shl64 1 n_1) - 1) + 1] eo1 so1 no1 co1 eo2 so2 no2 co2 eo3 so3 no3 co3 eo4 so4 no4 co4 eo5 so5 no5 co5 eo6 so6 no6 co6 26 2 1 [AI 0, .nil] 2 1 xs_2.length (rows eI xs_2) 26 n_1 hc (by simp)) (by kernel_rfl) (by kernel_rfl) (by kernel_rfl) (by kernel_rfl) (by rintro _ _ ⟨_, _, _, rfl, rfl⟩; exact ⟨by kernel_rfl, by kernel_rfl, by kernel_rfl⟩)) (Nat.le_of_ble_eq_true (by kernel_rfl)) (by kernel_rfl) (by kernel_rfl) (by rintro _ _ ⟨_, ⟨_, _, _, rfl, rfl⟩, rfl⟩; exact Nat.le_of_ble_eq_true (by kernel_rfl))) (by kernel_rfl) (by kernel_rfl) (by kernel_rfl) ?_
                    rintro _ _ ⟨_, _, ⟨_, ⟨v_86, p1_87, h1_88, rfl, rfl⟩, rfl⟩, rfl, rfl⟩
                    refine R.go 1 (R.any1 13 (by kernel_rfl) (by kernel_rfl) ?_)
                    refine R.idxO 9 1 xs_2.length ((v_82).toNat) v_82 (by kernel_rfl) (by omega) (by omega) (by kernel_rfl) ?_
                    refine R.go 1 (R.any1 14 (by kernel_rfl) (by kernel_rfl) ?_)
                    refine R.stI 9 2 xs_2 ((v_82).toNat) v_86 (by kernel_rfl) (by omega) (by kernel_rfl) ?_
                    refine R.go 1 (R.any0 (by kernel_rfl) ?_)
                    exact R.metF (v_82, p1_83, h1_84, v_86, p1_87, h1_88) (by kernel_rfl) (by first | assumption | omega) (by kernel_rfl)
                  · refine R.call true (l01Full_c n_1 (by omega) (by omega)) (by kernel_rfl) rfl (by kernel_rfl) ?_
                    refine R.go 1 (R.any2 1 10 (by kernel_rfl) (by kernel_rfl) ?_ ?_)
                    · refine R.go 2 (R.any1 10 (by kernel_rfl) (by kernel_rfl) ?_)
                      refine R.ar (((shl64 1 n_1) - 1) + 1) (by kernel_rfl) (by omega) (by omega) (by kernel_rfl) ?_
                      refine R.go 1 (R.any1 11 (by kernel_rfl) (by kernel_rfl) ?_)
                      refine R.lit (s := 1) (n := 2) (cs := rows eI [(-1), ((shl64 1 n_1) - 1) + 1]) (by kernel_rfl) (by kernel_rfl) ?_
                      refine R.go 1 (R.any1 12 (by kernel_rfl) (by kernel_rfl) ?_)
                      refine R.callX (CallX.inF 7 usC frC (CallX.box 7 26 [AI 0, .nil] (pickX_c_r8b c p1_83 h1_84 [(-1), ((shl64 1 n_1) - 1) + 1] eo1 so1 no1 co1 eo2 so2 no2 co2 eo3 so3 no3 co3 eo4 so4 no4 co4 eo5 so5 no5 co5 eo6 so6 no6 co6 26 2 1 [AI 0, .nil] 2 1 xs_2.length (rows eI xs_2) 26 n_1 hc (by simp)) (by kernel_rfl) (by kernel_rfl) (by kernel_rfl) (by kernel_rfl) (by rintro _ _ ⟨_, _, _, rfl, rfl⟩; exact ⟨by kernel_rfl, by kernel_rfl, by kernel_rfl⟩)) (Nat.le_of_ble_eq_true (by kernel_rfl)) (by kernel_rfl) (by kernel_rfl) (by rintro _ _ ⟨_, ⟨_, _, _, rfl, rfl⟩, rfl⟩; exact Nat.le_of_ble_eq_true (by kernel_rfl))) (by kernel_rfl) (by kernel_rfl) (by kernel_rfl) ?_
                      rintro _ _ ⟨_, _, ⟨_, ⟨v_89, p1_90, h1_91, rfl, rfl⟩, rfl⟩, rfl, rfl⟩
                      refine R.go 1 (R.any1 13 (by kernel_rfl) (by kernel_rfl) ?_)
                      refine R.idxO 9 1 xs_2.length ((v_82).toNat) v_82 (by kernel_rfl) (by omega) (by omega) (by kernel_rfl) ?_
                      refine R.go 1 (R.any1 14 (by kernel_rfl) (by kernel_rfl) ?_)
                      refine R.stI 9 2 xs_2 ((v_82).toNat) v_89 (by kernel_rfl) (by omega) (by kernel_rfl) ?_
                      refine R.go 1 (R.any0 (by kernel_rfl) ?_)
                      exact R.metF (v_82, p1_83, h1_84, v_89, p1_90, h1_91) (by kernel_rfl) (by first | assumption | omega) (by kernel_rfl)
                    · refine R.ar (((shl64 1 n_1) - 1) + 1) (by kernel_rfl) (by omega) (by omega) (by kernel_rfl) ?_
                      refine R.go 1 (R.any2 1 11 (by kernel_rfl) (by kernel_rfl) ?_ ?_)
                      · refine R.go 2 (R.any1 11 (by kernel_rfl) (by kernel_rfl) ?_)
                        refine R.lit (s := 1) (n := 2) (cs := rows eI [(-1), ((shl64 1 n_1) - 1) + 1]) (by kernel_rfl) (by kernel_rfl) ?_
                        refine R.go 1 (R.any1 12 (by kernel_rfl) (by kernel_rfl) ?_)
                        refine R.callX (CallX.inF 7 usC frC (CallX.box 7 26 [AI 0, .nil] (pickX_c_r8b c p1_83 h1_84 [(-1), ((shl64 1 n_1) - 1) + 1] eo1 so1 no1 co1 eo2 so2 no2 co2 eo3 so3 no3 co3 eo4 so4 no4 co4 eo5 so5 no5 co5 eo6 so6 no6 co6 26 2 1 [AI 0, .nil] 2 1 xs_2.length (rows eI xs_2) 26 n_1 hc (by simp)) (by kernel_rfl) (by kernel_rfl) (by kernel_rfl) (by kernel_rfl) (by rintro _ _ ⟨_, _, _, rfl, rfl⟩; exact ⟨by kernel_rfl, by kernel_rfl, by kernel_rfl⟩)) (Nat.le_of_ble_eq_true (by kernel_rfl)) (by kernel_rfl) (by kernel_rfl) (by rintro _ _ ⟨_, ⟨_, _, _, rfl, rfl⟩, rfl⟩; exact Nat.le_of_ble_eq_true (by kernel_rfl))) (by kernel_rfl) (by kernel_rfl) (by kernel_rfl) ?_
                        rintro _ _ ⟨_, _, ⟨_, ⟨v_92, p1_93, h1_94, rfl, rfl⟩, rfl⟩, rfl, rfl⟩
                        refine R.go 1 (R.any1 13 (by kernel_rfl) (by kernel_rfl) ?_)
                        refine R.idxO 9 1 xs_2.length ((v_82).toNat) v_82 (by kernel_rfl) (by omega) (by omega) (by kernel_rfl) ?_
                        refine R.go 1 (R.any1 14 (by kernel_rfl) (by kernel_rfl) ?_)
                        refine R.stI 9 2 xs_2 ((v_82).toNat) v_92 (by kernel_rfl) (by omega) (by kernel_rfl) ?_
                        refine R.go 1 (R.any0 (by kernel_rfl) ?_)
                        exact R.metF (v_82, p1_83, h1_84, v_92, p1_93, h1_94) (by kernel_rfl) (by first | assumption | omega) (by kernel_rfl)
                      · refine R.lit (s := 1) (n := 2) (cs := rows eI [(-1), ((shl64 1 n_1) - 1) + 1]) (by kernel_rfl) (by kernel_rfl) ?_
                        refine R.go 1 (R.any2 1 12 (by kernel_rfl) (by kernel_rfl) ?_ ?_)
                        · refine R.go 2 (R.any1 12 (by kernel_rfl) (by kernel_rfl) ?_)
                          refine R.callX (CallX.inF 7 usC frC (CallX.box 7 26 [AI 0, .nil] (pickX_c_r8b c p1_83 h1_84 [(-1), ((shl64 1 n_1) - 1) + 1] eo1 so1 no1 co1 eo2 so2 no2 co2 eo3 so3 no3 co3 eo4 so4 no4 co4 eo5 so5 no5 co5 eo6 so6 no6 co6 26 2 1 [AI 0, .nil] 2 1 xs_2.length (rows eI xs_2) 26 n_1 hc (by simp)) (by kernel_rfl) (by kernel_rfl) (by kernel_rfl) (by kernel_rfl) (by rintro _ _ ⟨_, _, _, rfl, rfl⟩; exact ⟨by kernel_rfl, by kernel_rfl, by kernel_rfl⟩)) (Nat.le_of_ble_eq_true (by kernel_rfl)) (by kernel_rfl) (by kernel_rfl) (by rintro _ _ ⟨_, ⟨_, _, _, rfl, rfl⟩, rfl⟩; exact Nat.le_of_ble_eq_true (by kernel_rfl))) (by kernel_rfl) (by kernel_rfl) (by kernel_rfl) ?_
                          rintro _ _ ⟨_, _, ⟨_, ⟨v_95, p1_96, h1_97, rfl, rfl⟩, rfl⟩, rfl, rfl⟩
                          refine R.go 1 (R.any1 13 (by kernel_rfl) (by kernel_rfl) ?_)
                          refine R.idxO 9 1 xs_2.length ((v_82).toNat) v_82 (by kernel_rfl) (by omega) (by omega) (by kernel_rfl) ?_
                          refine R.go 1 (R.any1 14 (by kernel_rfl) (by kernel_rfl) ?_)
                          refine R.stI 9 2 xs_2 ((v_82).toNat) v_95 (by kernel_rfl) (by omega) (by kernel_rfl) ?_
                          refine R.go 1 (R.any0 (by kernel_rfl) ?_)
                          exact R.metF (v_82, p1_83, h1_84, v_95, p1_96, h1_97) (by kernel_rfl) (by first | assumption | omega) (by kernel_rfl)
                        · refine R.callX (CallX.inF 7 usC frC (CallX.box 7 26 [AI 0, .nil] (pickX_c_r8b c p1_83 h1_84 [(-1), ((shl64 1 n_1) - 1) + 1] eo1 so1 no1 co1 eo2 so2 no2 co2 eo3 so3 no3 co3 eo4 so4 no4 co4 eo5 so5 no5 co5 eo6 so6 no6 co6 26 2 1 [AI 0, .nil] 2 1 xs_2.length (rows eI xs_2) 26 n_1 hc (by simp)) (by kernel_rfl) (by kernel_rfl) (by kernel_rfl) (by kernel_rfl) (by rintro _ _ ⟨_, _, _, rfl, rfl⟩; exact ⟨by kernel_rfl, by kernel_rfl, by kernel_rfl⟩)) (Nat.le_of_ble_eq_true (by kernel_rfl)) (by kernel_rfl) (by kernel_rfl) (by rintro _ _ ⟨_, ⟨_, _, _, rfl, rfl⟩, rfl⟩; exact Nat.le_of_ble_eq_true (by kernel_rfl))) (by kernel_rfl) (by kernel_rfl) (by kernel_rfl) ?_
                          rintro _ _ ⟨_, _, ⟨_, ⟨v_98, p1_99, h1_100, rfl, rfl⟩, rfl⟩, rfl, rfl⟩
                          refine R.go 1 (R.any1 1 (by kernel_rfl) (by kernel_rfl) ?_)
                          refine R.go 2 (R.any1 13 (by kernel_rfl) (by kernel_rfl) ?_)
                          refine R.idxO 9 1 xs_2.length ((v_82).toNat) v_82 (by kernel_rfl) (by omega) (by omega) (by kernel_rfl) ?_
                          refine R.go 1 (R.any1 14 (by kernel_rfl) (by kernel_rfl) ?_)
                          refine R.stI 9 2 xs_2 ((v_82).toNat) v_98 (by kernel_rfl) (by omega) (by kernel_rfl) ?_
                          refine R.go 1 (R.any0 (by kernel_rfl) ?_)
                          exact R.metF (v_82, p1_83, h1_84, v_98, p1_99, h1_100) (by kernel_rfl) (by first | assumption | omega) (by kernel_rfl)
            · refine R.go 2 (R.any2 1 4 (by kernel_rfl) (by kernel_rfl) ?_ ?_)
              · refine R.go 2 (R.any1 4 (by kernel_rfl) (by kernel_rfl) ?_)
                refine R.go 2 (R.any1 5 (by kernel_rfl) (by kernel_rfl) ?_)
                refine R.callX (CallX.inF 7 usC frC (CallX.box 7 26 [AI 0, .nil] (nextX_c_r8b c p1_8 h1_9 n_1 eo1 so1 no1 co1 eo2 so2 no2 co2 eo3 so3 no3 co3 eo4 so4 no4 co4 eo5 so5 no5 co5 eo6 so6 no6 co6 26 2 1 [AI 0, .nil] 2 1 xs_2.length (rows eI xs_2) 26 n_1 hc) (by kernel_rfl) (by kernel_rfl) (by kernel_rfl) (by kernel_rfl) (by rintro _ _ ⟨_, _, _, _, rfl, rfl⟩; exact ⟨by kernel_rfl, by kernel_rfl, by kernel_rfl⟩)) (Nat.le_of_ble_eq_true (by kernel_rfl)) (by kernel_rfl) (by kernel_rfl) (by rintro _ _ ⟨_, ⟨_, _, _, _, rfl, rfl⟩, rfl⟩; exact Nat.le_of_ble_eq_true (by kernel_rfl))) (by kernel_rfl) (by kernel_rfl) (by kernel_rfl) ?_
                rintro _ _ ⟨_, _, ⟨_, ⟨v_101, p1_102, h1_103, f104, rfl, rfl⟩, rfl⟩, rfl, rfl⟩
                refine R.go 1 (R.any1 9 (by kernel_rfl) (by kernel_rfl) ?_)
                refine R.call true (l01Full_c n_1 (by omega) (by omega)) (by kernel_rfl) rfl (by kernel_rfl) ?_
                refine R.go 1 (R.any1 10 (by kernel_rfl) (by kernel_rfl) ?_)
                refine R.ar (((shl64 1 n_1) - 1) + 1) (by kernel_rfl) (by omega) (by omega) (by kernel_rfl) ?_
                refine R.go 1 (R.any1 11 (by kernel_rfl) (by kernel_rfl) ?_)
                refine R.lit (s := 1) (n := 2) (cs := rows eI [(-1), ((shl64 1 n_1) - 1) + 1]) (by kernel_rfl) (by kernel_rfl) ?_
                refine R.go 1 (R.any1 12 (by kernel_rfl) (by kernel_rfl) ?_)
                refine R.callX (CallX.inF 7 usC frC (CallX.box 7 26 [AI 0, .nil] (pickX_c_r8b c p1_102 h1_103 [(-1), ((shl64 1 n_1) - 1) + 1] eo1 so1 no1 co1 eo2 so2 no2 co2 eo3 so3 no3 co3 eo4 so4 no4 co4 eo5 so5 no5 co5 eo6 so6 no6 co6 26 2 1 [AI 0, .nil] 2 1 xs_2.length (rows eI xs_2) 26 n_1 hc (by simp)) (by kernel_rfl) (by kernel_rfl) (by kernel_rfl) (by kernel_rfl) (by rintro _ _ ⟨_, _, _, rfl, rfl⟩; exact ⟨by kernel_rfl, by kernel_rfl, by kernel_rfl⟩)) (Nat.le_of_ble_eq_true (by kernel_rfl)) (by kernel_rfl) (by kernel_rfl) (by rintro _ _ ⟨_, ⟨_, _, _, rfl, rfl⟩, rfl⟩; exact Nat.le_of_ble_eq_true (by kernel_rfl))) (by kernel_rfl) (by kernel_rfl) (by kernel_rfl) ?_
                rintro _ _ ⟨_, _, ⟨_, ⟨v_105, p1_106, h1_107, rfl, rfl⟩, rfl⟩, rfl, rfl⟩
                refine R.go 1 (R.any1 13 (by kernel_rfl) (by kernel_rfl) ?_)
                refine R.idxO 9 1 xs_2.length ((v_101).toNat) v_101 (by kernel_rfl) (by omega) (by omega) (by kernel_rfl) ?_
                refine R.go 1 (R.any1 14 (by kernel_rfl) (by kernel_rfl) ?_)
                refine R.stI 9 2 xs_2 ((v_101).toNat) v_105 (by kernel_rfl) (by omega) (by kernel_rfl) ?_
                refine R.go 1 (R.any0 (by kernel_rfl) ?_)
                exact R.metF (v_101, p1_102, h1_103, v_105, p1_106, h1_107) (by kernel_rfl) (by first | assumption | omega) (by kernel_rfl)
              · refine R.go 2 (R.any2 1 5 (by kernel_rfl) (by kernel_rfl) ?_ ?_)
                · refine R.go 2 (R.any1 5 (by kernel_rfl) (by kernel_rfl) ?_)
                  refine R.callX (CallX.inF 7 usC frC (CallX.box 7 26 [AI 0, .nil] (nextX_c_r8b c p1_8 h1_9 n_1 eo1 so1 no1 co1 eo2 so2 no2 co2 eo3 so3 no3 co3 eo4 so4 no4 co4 eo5 so5 no5 co5 eo6 so6 no6 co6 26 2 1 [AI 0, .nil] 2 1 xs_2.length (rows eI xs_2) 26 n_1 hc) (by kernel_rfl) (by kernel_rfl) (by kernel_rfl) (by kernel_rfl) (by rintro _ _ ⟨_, _, _, _, rfl, rfl⟩; exact ⟨by kernel_rfl, by kernel_rfl, by kernel_rfl⟩)) (Nat.le_of_ble_eq_true (by kernel_rfl)) (by kernel_rfl) (by kernel_rfl) (by rintro _ _ ⟨_, ⟨_, _, _, _, rfl, rfl⟩, rfl⟩; exact Nat.le_of_ble_eq_true (by kernel_rfl))) (by kernel_rfl) (by kernel_rfl) (by kernel_rfl) ?_
                  rintro _ _ ⟨_, _, ⟨_, ⟨v_108, p1_109, h1_110, f111, rfl, rfl⟩, rfl⟩, rfl, rfl⟩
                  refine R.go 1 (R.any1 9 (by kernel_rfl) (by kernel_rfl) ?_)
                  refine R.call true (l01Full_c n_1 (by omega) (by omega)) (by kernel_rfl) rfl (by kernel_rfl) ?_
                  refine R.go 1 (R.any1 10 (by kernel_rfl) (by kernel_rfl) ?_)
                  refine R.ar (((shl64 1 n_1) - 1) + 1) (by kernel_rfl) (by omega) (by omega) (by kernel_rfl) ?_
                  refine R.go 1 (R.any1 11 (by kernel_rfl) (by kernel_rfl) ?_)
                  refine R.lit (s := 1) (n := 2) (cs := rows eI [(-1), ((shl64 1 n_1) - 1) + 1]) (by kernel_rfl) (by kernel_rfl) ?_
                  refine R.go 1 (R.any1 12 (by kernel_rfl) (by kernel_rfl) ?_)
                  refine R.callX (CallX.inF 7 usC frC (CallX.box 7 26 [AI 0, .nil] (pickX_c_r8b c p1_109 h1_110 [(-1), ((shl64 1 n_1) - 1) + 1] eo1 so1 no1 co1 eo2 so2 no2 co2 eo3 so3 no3 co3 eo4 so4 no4 co4 eo5 so5 no5 co5 eo6 so6 no6 co6 26 2 1 [AI 0, .nil] 2 1 xs_2.length (rows eI xs_2) 26 n_1 hc (by simp)) (by kernel_rfl) (by kernel_rfl) (by kernel_rfl) (by kernel_rfl) (by rintro _ _ ⟨_, _, _, rfl, rfl⟩; exact ⟨by kernel_rfl, by kernel_rfl, by kernel_rfl⟩)) (Nat.le_of_ble_eq_true (by kernel_rfl)) (by kernel_rfl) (by kernel_rfl) (by rintro _ _ ⟨_, ⟨_, _, _, rfl, rfl⟩, rfl⟩; exact Nat.le_of_ble_eq_true (by kernel_rfl))) (by kernel_rfl) (by kernel_rfl) (by kernel_rfl) ?_
                  rintro _ _ ⟨_, _, ⟨_, ⟨v_112, p1_113, h1_114, rfl, rfl⟩, rfl⟩, rfl, rfl⟩
                  refine R.go 1 (R.any1 13 (by kernel_rfl) (by kernel_rfl) ?_)
                  refine R.idxO 9 1 xs_2.length ((v_108).toNat) v_108 (by kernel_rfl) (by omega) (by omega) (by kernel_rfl) ?_
                  refine R.go 1 (R.any1 14 (by kernel_rfl) (by kernel_rfl) ?_)
                  refine R.stI 9 2 xs_2 ((v_108).toNat) v_112 (by kernel_rfl) (by omega) (by kernel_rfl) ?_
                  refine R.go 1 (R.any0 (by kernel_rfl) ?_)
                  exact R.metF (v_108, p1_109, h1_110, v_112, p1_113, h1_114) (by kernel_rfl) (by first | assumption | omega) (by kernel_rfl)
                · refine R.callX (CallX.inF 7 usC frC (CallX.box 7 26 [AI 0, .nil] (nextX_c_r8b c p1_8 h1_9 n_1 eo1 so1 no1 co1 eo2 so2 no2 co2 eo3 so3 no3 co3 eo4 so4 no4 co4 eo5 so5 no5 co5 eo6 so6 no6 co6 26 2 1 [AI 0, .nil] 2 1 xs_2.length (rows eI xs_2) 26 n_1 hc) (by kernel_rfl) (by kernel_rfl) (by kernel_rfl) (by kernel_rfl) (by rintro _ _ ⟨_, _, _, _, rfl, rfl⟩; exact ⟨by kernel_rfl, by kernel_rfl, by kernel_rfl⟩)) (Nat.le_of_ble_eq_true (by kernel_rfl)) (by kernel_rfl) (by kernel_rfl) (by rintro _ _ ⟨_, ⟨_, _, _, _, rfl, rfl⟩, rfl⟩; exact Nat.le_of_ble_eq_true (by kernel_rfl))) (by kernel_rfl) (by kernel_rfl) (by kernel_rfl) ?_
                  rintro _ _ ⟨_, _, ⟨_, ⟨v_115, p1_116, h1_117, f118, rfl, rfl⟩, rfl⟩, rfl, rfl⟩
                  refine R.go 1 (R.any2 1 9 (by kernel_rfl) (by kernel_rfl) ?_ ?_)
                  · refine R.go 2 (R.any1 9 (by kernel_rfl) (by kernel_rfl) ?_)
                    refine R.call true (l01Full_c n_1 (by omega) (by omega)) (by kernel_rfl) rfl (by kernel_rfl) ?_
                    refine R.go 1 (R.any1 10 (by kernel_rfl) (by kernel_rfl) ?_)
                    refine R.ar (((shl64 1 n_1) - 1) + 1) (by kernel_rfl) (by omega) (by omega) (by kernel_rfl) ?_
                    refine R.go 1 (R.any1 11 (by kernel_rfl) (by kernel_rfl) ?_)
                    refine R.lit (s := 1) (n := 2) (cs := rows eI [(-1), ((shl64 1 n_1) - 1) + 1]) (by kernel_rfl) (by kernel_rfl) ?_
                    refine R.go 1 (R.any1 12 (by kernel_rfl) (by kernel_rfl) ?_)
                    refine R.callX (CallX.inF 7 usC frC (CallX.box 7 26 [AI 0, .nil] (pickX_c_r8b c p1_116 h1_117 [(-1), ((shl64 1 n_1) - 1) + 1] eo1 so1 no1 co1 eo2 so2 no2 co2 eo3 so3 no3 co3 eo4 so4 no4 co4 eo5 so5 no5 co5 eo6 so6 no6 co6 26 2 1 [AI 0, .nil] 2 1 xs_2.length (rows eI xs_2) 26 n_1 hc (by simp)) (by kernel_rfl) (by kernel_rfl) (by kernel_rfl) (by kernel_rfl) (by rintro _ _ ⟨_, _, _, rfl, rfl⟩; exact ⟨by kernel_rfl, by kernel_rfl, by kernel_rfl⟩)) (Nat.le_of_ble_eq_true (by kernel_rfl)) (by kernel_rfl) (by kernel_rfl) (by rintro _ _ ⟨_, ⟨_, _, _, rfl, rfl⟩, rfl⟩; exact Nat.le_of_ble_eq_true (by kernel_rfl))) (by kernel_rfl) (by kernel_rfl) (by kernel_rfl) ?_
                    rintro _ _ ⟨_, _, ⟨_, ⟨v_119, p1_120, h1_121, rfl, rfl⟩, rfl⟩, rfl, rfl⟩
                    refine R.go 1 (R.any1 13 (by kernel_rfl) (by kernel_rfl) ?_)
                    refine R.idxO 9 1 xs_2.length ((v_115).toNat) v_115 (by kernel_rfl) (by omega) (by omega) (by kernel_rfl) ?_
                    refine R.go 1 (R.any1 14 (by kernel_rfl) (by kernel_rfl) ?_)
                    refine R.stI 9 2 xs_2 ((v_115).toNat) v_119 (by kernel_rfl) (by omega) (by kernel_rfl) ?_
                    refine R.go 1 (R.any0 (by kernel_rfl) ?_)
                    exact R.metF (v_115, p1_116, h1_117, v_119, p1_120, h1_121) (by kernel_rfl) (by first | assumption | omega) (by kernel_rfl)
                  · refine R.call true (l01Full_c n_1 (by omega) (by omega)) (by kernel_rfl) rfl (by kernel_rfl) ?_
                    refine R.go 1 (R.any2 1 10 (by kernel_rfl) (by kernel_rfl) ?_ ?_)
                    · refine R.go 2 (R.any1 10 (by kernel_rfl) (by kernel_rfl) ?_)
                      refine R.ar (((shl64 1 n_1) - 1) + 1) (by kernel_rfl) (by omega) (by omega) (by kernel_rfl) ?_
                      refine R.go 1 (R.any1 11 (by kernel_rfl) (by kernel_rfl) ?_)
                      refine R.lit (s := 1) (n := 2) (cs := rows eI [(-1), ((shl64 1 n_1) - 1) + 1]) (by kernel_rfl) (by kernel_rfl) ?_
                      refine R.go 1 (R.any1 12 (by kernel_rfl) (by kernel_rfl) ?_)
                      refine R.callX (CallX.inF 7 usC frC (CallX.box 7 26 [AI 0, .nil] (pickX_c_r8b c p1_116 h1_117 [(-1), ((shl64 1 n_1) - 1) + 1] eo1 so1 no1 co1 eo2 so2 no2 co2 eo3 so3 no3 co3 eo4 so4 no4 co4 eo5 so5 no5 co5 eo6 so6 no6 co6 26 2 1 [AI 0, .nil] 2 1 xs_2.length (rows eI xs_2) 26 n_1 hc (by simp)) (by kernel_rfl) (by kernel_rfl) (by kernel_rfl) (by kernel_rfl) (by rintro _ _ ⟨_, _, _, rfl, rfl⟩; exact ⟨by kernel_rfl, by kernel_rfl, by kernel_rfl⟩)) (Nat.le_of_ble_eq_true (by kernel_rfl)) (by kernel_rfl) (by kernel_rfl) (by rintro _ _ ⟨_, ⟨_, _, _, rfl, rfl⟩, rfl⟩; exact Nat.le_of_ble_eq_true (by kernel_rfl))) (by kernel_rfl) (by kernel_rfl) (by kernel_rfl) ?_
                      rintro _ _ ⟨_, _, ⟨_, ⟨v_122, p1_123, h1_124, rfl, rfl⟩, rfl⟩, rfl, rfl⟩
                      refine R.go 1 (R.any1 13 (by kernel_rfl) (by kernel_rfl) ?_)
                      refine R.idxO 9 1 xs_2.length ((v_115).toNat) v_115 (by kernel_rfl) (by omega) (by omega) (by kernel_rfl) ?_
                      refine R.go 1 (R.any1 14 (by kernel_rfl) (by kernel_rfl) ?_)
                      refine R.stI 9 2 xs_2 ((v_115).toNat) v_122 (by kernel_rfl) (by omega) (by kernel_rfl) ?_
                      refine R.go 1 (R.any0 (by kernel_rfl) ?_)
                      exact R.metF (v_115, p1_116, h1_117, v_122, p1_123, h1_124) (by kernel_rfl) (by first | assumption | omega) (by kernel_rfl)
                    · refine R.ar (((shl64 1 n_1) - 1) + 1) (by kernel_rfl) (by omega) (by omega) (by kernel_rfl) ?_
                      refine R.go 1 (R.any2 1 11 (by kernel_rfl) (by kernel_rfl) ?_ ?_)
                      · refine R.go 2 (R.any1 11 (by kernel_rfl) (by kernel_rfl) ?_)
                        refine R.lit (s := 1) (n := 2) (cs := rows eI [(-1), ((shl64 1 n_1) - 1) + 1]) (by kernel_rfl) (by kernel_rfl) ?_
                        refine R.go 1 (R.any1 12 (by kernel_rfl) (by kernel_rfl) ?_)
                        refine R.callX (CallX.inF 7 usC frC (CallX.box 7 26 [AI 0, .nil] (pickX_c_r8b c p1_116 h1_117 [(-1), ((shl64 1 n_1) - 1) + 1] eo1 so1 no1 co1 eo2 so2 no2 co2 eo3 so3 no3 co3 eo4 so4 no4 co4 eo5 so5 no5 co5 eo6 so6 no6 co6 26 2 1 [AI 0, .nil] 2 1 xs_2.length (rows eI xs_2) 26 n_1 hc (by simp)) (by kernel_rfl) (by kernel_rfl) (by kernel_rfl) (by kernel_rfl) (by rintro _ _ ⟨_, _, _, rfl, rfl⟩; exact ⟨by kernel_rfl, by kernel_rfl, by kernel_rfl⟩)) (Nat.le_of_ble_eq_true (by kernel_rfl)) (by kernel_rfl) (by kernel_rfl) (by rintro _ _ ⟨_, ⟨_, _, _, rfl, rfl⟩, rfl⟩; exact Nat.le_of_ble_eq_true (by kernel_rfl))) (by kernel_rfl) (by kernel_rfl) (by kernel_rfl) ?_
                        rintro _ _ ⟨_, _, ⟨_, ⟨v_125, p1_126, h1_127, rfl, rfl⟩, rfl⟩, rfl, rfl⟩
                        refine R.go 1 (R.any1 13 (by kernel_rfl) (by kernel_rfl) ?_)
                        refine R.idxO 9 1 xs_2.length ((v_115).toNat) v_115 (by kernel_rfl) (by omega) (by omega) (by kernel_rfl) ?_
                        refine R.go 1 (R.any1 14 (by kernel_rfl) (by kernel_rfl) ?_)
                        refine R.stI 9 2 xs_2 ((v_115).toNat) v_125 (by kernel_rfl) (by omega) (by kernel_rfl) ?_
                        refine R.go 1 (R.any0 (by kernel_rfl) ?_)
                        exact R.metF (v_115, p1_116, h1_117, v_125, p1_126, h1_127) (by kernel_rfl) (by first | assumption | omega) (by kernel_rfl)
                      · refine R.lit (s := 1) (n := 2) (cs := rows eI [(-1), ((shl64 1 n_1) - 1) + 1]) (by kernel_rfl) (by kernel_rfl) ?_
                        refine R.go 1 (R.any2 1 12 (by kernel_rfl) (by kernel_rfl) ?_ ?_)
                        · refine R.go 2 (R.any1 12 (by kernel_rfl) (by kernel_rfl) ?_)
                          refine R.callX (CallX.inF 7 usC frC (CallX.box 7 26 [AI 0, .nil] (pickX_c_r8b c p1_116 h1_117 [(-1), ((shl64 1 n_1) - 1) + 1] eo1 so1 no1 co1 eo2 so2 no2 co2 eo3 so3 no3 co3 eo4 so4 no4 co4 eo5 so5 no5 co5 eo6 so6 no6 co6 26 2 1 [AI 0, .nil] 2 1 xs_2.length (rows eI xs_2) 26 n_1 hc (by simp)) (by kernel_rfl) (by kernel_rfl) (by kernel_rfl) (by kernel_rfl) (by rintro _ _ ⟨_, _, _, rfl, rfl⟩; exact ⟨by kernel_rfl, by kernel_rfl, by kernel_rfl⟩)) (Nat.le_of_ble_eq_true (by kernel_rfl)) (by kernel_rfl) (by kernel_rfl) (by rintro _ _ ⟨_, ⟨_, _, _, rfl, rfl⟩, rfl⟩; exact Nat.le_of_ble_eq_true (by kernel_rfl))) (by kernel_rfl) (by kernel_rfl) (by kernel_rfl) ?_
                          rintro _ _ ⟨_, _, ⟨_, ⟨v_128, p1_129, h1_130, rfl, rfl⟩, rfl⟩, rfl, rfl⟩
                          refine R.go 1 (R.any1 13 (by kernel_rfl) (by kernel_rfl) ?_)
                          refine R.idxO 9 1 xs_2.length ((v_115).toNat) v_115 (by kernel_rfl) (by omega) (by omega) (by kernel_rfl) ?_
                          refine R.go 1 (R.any1 14 (by kernel_rfl) (by kernel_rfl) ?_)
                          refine R.stI 9 2 xs_2 ((v_115).toNat) v_128 (by kernel_rfl) (by omega) (by kernel_rfl) ?_
                          refine R.go 1 (R.any0 (by kernel_rfl) ?_)
                          exact R.metF (v_115, p1_116, h1_117, v_128, p1_129, h1_130) (by kernel_rfl) (by first | assumption | omega) (by kernel_rfl)
                        · refine R.callX (CallX.inF 7 usC frC (CallX.box 7 26 [AI 0, .nil] (pickX_c_r8b c p1_116 h1_117 [(-1), ((shl64 1 n_1) - 1) + 1] eo1 so1 no1 co1 eo2 so2 no2 co2 eo3 so3 no3 co3 eo4 so4 no4 co4 eo5 so5 no5 co5 eo6 so6 no6 co6 26 2 1 [AI 0, .nil] 2 1 xs_2.length (rows eI xs_2) 26 n_1 hc (by simp)) (by kernel_rfl) (by kernel_rfl) (by kernel_rfl) (by kernel_rfl) (by rintro _ _ ⟨_, _, _, rfl, rfl⟩; exact ⟨by kernel_rfl, by kernel_rfl, by kernel_rfl⟩)) (Nat.le_of_ble_eq_true (by kernel_rfl)) (by kernel_rfl) (by kernel_rfl) (by rintro _ _ ⟨_, ⟨_, _, _, rfl, rfl⟩, rfl⟩; exact Nat.le_of_ble_eq_true (by kernel_rfl))) (by kernel_rfl) (by kernel_rfl) (by kernel_rfl) ?_
                          rintro _ _ ⟨_, _, ⟨_, ⟨v_131, p1_132, h1_133, rfl, rfl⟩, rfl⟩, rfl, rfl⟩
                          refine R.go 1 (R.any1 1 (by kernel_rfl) (by kernel_rfl) ?_)
                          refine R.go 2 (R.any1 13 (by kernel_rfl) (by kernel_rfl) ?_)
                          refine R.idxO 9 1 xs_2.length ((v_115).toNat) v_115 (by kernel_rfl) (by omega) (by omega) (by kernel_rfl) ?_
                          refine R.go 1 (R.any1 14 (by kernel_rfl) (by kernel_rfl) ?_)
                          refine R.stI 9 2 xs_2 ((v_115).toNat) v_131 (by kernel_rfl) (by omega) (by kernel_rfl) ?_
                          refine R.go 1 (R.any0 (by kernel_rfl) ?_)
                          exact R.metF (v_115, p1_116, h1_117, v_131, p1_132, h1_133) (by kernel_rfl) (by first | assumption | omega) (by kernel_rfl)
          · rintro ⟨v_18, p1_19, h1_20, v_22, p1_23, h1_24⟩ f21
            refine R.go 6 (R.frz 9 (by kernel_rfl) ?_)
            refine R.kfix 7 (us := usC) (by kernel_rfl) (hfC.frz 9 (LI (xs_2.set ((v_18).toNat) v_22)) (Nat.le_of_ble_eq_true (by kernel_rfl))) ?_
            exact R.retX (res := .agg [AI n_1, LI (xs_2.set ((v_18).toNat) v_22)]) (hp' := [.box 120 [LB c, AI (p1_23 : Int), .int .u64 h1_24], .list eo1 so1 no1 co1, .list eo2 so2 no2 co2, .list eo3 so3 no3 co3, .list eo4 so4 no4 co4, .list eo5 so5 no5 co5, .list eo6 so6 no6 co6, .dead, .box 26 [AI n_1, LI (xs_2.set ((v_18).toNat) v_22)], .dead, .box 26 [AI n_1, LI (xs_2.set ((v_18).toNat) v_22)]]) (by kernel_rfl) (by kernel_rfl) (by kernel_rfl) (by kernel_rfl) ⟨[0, 1, 2, 3, 4, 5, 6], by kernel_rfl, by decide, n_1, xs_2.set ((v_18).toNat) v_22, p1_23, h1_24, by first | omega | (simp; done) | (simp only [List.length_append, List.length_cons, List.length_nil, List.length_set]; omega), by kernel_rfl, by kernel_rfl⟩
        · refine R.go 7 (R.frz 9 (by kernel_rfl) ?_)
          refine R.kfix 7 (us := usC) (by kernel_rfl) (hfC.frz 9 (LI xs_2) (Nat.le_of_ble_eq_true (by kernel_rfl))) ?_
          exact R.retX (res := .agg [AI n_1, LI xs_2]) (hp' := [.box 120 [LB c, AI (p1_8 : Int), .int .u64 h1_9], .list eo1 so1 no1 co1, .list eo2 so2 no2 co2, .list eo3 so3 no3 co3, .list eo4 so4 no4 co4, .list eo5 so5 no5 co5, .list eo6 so6 no6 co6, .dead, .box 26 [AI n_1, LI xs_2], .dead, .box 26 [AI n_1, LI xs_2]]) (by kernel_rfl) (by kernel_rfl) (by kernel_rfl) (by kernel_rfl) ⟨[0, 1, 2, 3, 4, 5, 6], by kernel_rfl, by decide, n_1, xs_2, p1_8, h1_9, by first | omega | (simp; done) | (simp only [List.length_append, List.length_cons, List.length_nil, List.length_set]; omega), by kernel_rfl, by kernel_rfl⟩
      · refine R.go 7 (R.frz 9 (by kernel_rfl) ?_)
        refine R.kfix 7 (us := usC) (by kernel_rfl) (hfC.frz 9 (LI xs_2) (Nat.le_of_ble_eq_true (by kernel_rfl))) ?_
        exact R.retX (res := .agg [AI n_1, LI xs_2]) (hp' := [.box 120 [LB c, AI (p1_8 : Int), .int .u64 h1_9], .list eo1 so1 no1 co1, .list eo2 so2 no2 co2, .list eo3 so3 no3 co3, .list eo4 so4 no4 co4, .list eo5 so5 no5 co5, .list eo6 so6 no6 co6, .dead, .box 26 [AI n_1, LI xs_2], .dead, .box 26 [AI n_1, LI xs_2]]) (by kernel_rfl) (by kernel_rfl) (by kernel_rfl) (by kernel_rfl) ⟨[0, 1, 2, 3, 4, 5, 6], by kernel_rfl, by decide, n_1, xs_2, p1_8, h1_9, by first | omega | (simp; done) | (simp only [List.length_append, List.length_cons, List.length_nil, List.length_set]; omega), by kernel_rfl, by kernel_rfl⟩

theorem frameX_c_r7 (c : List Int) (p : Nat) (h : Int) (worlds : Int) (eo1 : Nat) (so1 : Nat) (no1 : Nat) (co1 : List AV) (eo2 : Nat) (so2 : Nat) (no2 : Nat) (co2 : List AV) (eo3 : Nat) (so3 : Nat) (no3 : Nat) (co3 : List AV) (eo4 : Nat) (so4 : Nat) (no4 : Nat) (co4 : List AV) (eo5 : Nat) (so5 : Nat) (no5 : Nat) (co5 : List AV) (eo6 : Nat) (so6 : Nat) (no6 : Nat) (co6 : List AV) (eo7 : Nat) (so7 : Nat) (no7 : Nat) (co7 : List AV) (hc : BY c) (hw : 0 ≤ worlds ∧ worlds ≤ 20) : CallX Tryz.prog 124 [.ptr 0 0, AI worlds] [.box 120 [LB c, AI (p : Int), .int .u64 h], .list eo1 so1 no1 co1, .list eo2 so2 no2 co2, .list eo3 so3 no3 co3, .list eo4 so4 no4 co4, .list eo5 so5 no5 co5, .list eo6 so6 no6 co6, .list eo7 so7 no7 co7] (fun (resX : AV) (objX : List AObj) => ∃ n : Int, ∃ xs : List Int, ∃ p1 : Nat, ∃ h1 : Int, ((xs.length : Int) ≤ worlds + 1) ∧ resX = .agg [AI n, LI xs] ∧ objX = [.box 120 [LB c, AI (p1 : Int), .int .u64 h1], .list eo1 so1 no1 co1, .list eo2 so2 no2 co2, .list eo3 so3 no3 co3, .list eo4 so4 no4 co4, .list eo5 so5 no5 co5, .list eo6 so6 no6 co6, .list eo7 so7 no7 co7]) := by
  have hcl : c.length ≤ 4096 := hc.1
  have hcb := hc.2
  refine CallX.dropE (CallX.ofF Tryz.func124 rfl (by kernel_rfl) ?_)
  intro usC frC hfC
  refine R.go 8 (R.callX (CallX.inF 8 usC frC (CallX.box 8 26 [AI 0, .nil] (someO_c_r8 c p h worlds eo1 so1 no1 co1 eo2 so2 no2 co2 eo3 so3 no3 co3 eo4 so4 no4 co4 eo5 so5 no5 co5 eo6 so6 no6 co6 eo7 so7 no7 co7 26 2 1 [AI 0, .nil] hc hw) (by kernel_rfl) (by kernel_rfl) (by kernel_rfl) (by kernel_rfl) (by rintro _ _ ⟨_, _, _, _, _, _, rfl, rfl⟩; exact ⟨by kernel_rfl, by kernel_rfl, by kernel_rfl⟩)) (Nat.le_of_ble_eq_true (by kernel_rfl)) (by kernel_rfl) (by kernel_rfl) (by rintro _ _ ⟨_, ⟨_, _, _, _, _, _, rfl, rfl⟩, rfl⟩; exact Nat.le_of_ble_eq_true (by kernel_rfl))) (by kernel_rfl) (by kernel_rfl) (by kernel_rfl) ?_)
  rintro _ _ ⟨_, _, ⟨_, ⟨n_1, xs_2, p1_3, h1_4, f5, f6, rfl, rfl⟩, rfl⟩, rfl, rfl⟩
  refine R.go 7 (R.callX (CallX.inF 8 usC frC (CallX.box 8 26 [AI 0, .nil] (nextX_c_r9b c p1_3 h1_4 40 eo1 so1 no1 co1 eo2 so2 no2 co2 eo3 so3 no3 co3 eo4 so4 no4 co4 eo5 so5 no5 co5 eo6 so6 no6 co6 eo7 so7 no7 co7 26 2 1 [AI 0, .nil] 2 1 xs_2.length (rows eI xs_2) 26 n_1 hc) (by kernel_rfl) (by kernel_rfl) (by kernel_rfl) (by kernel_rfl) (by rintro _ _ ⟨_, _, _, _, rfl, rfl⟩; exact ⟨by kernel_rfl, by kernel_rfl, by kernel_rfl⟩)) (Nat.le_of_ble_eq_true (by kernel_rfl)) (by kernel_rfl) (by kernel_rfl) (by rintro _ _ ⟨_, ⟨_, _, _, _, rfl, rfl⟩, rfl⟩; exact Nat.le_of_ble_eq_true (by kernel_rfl))) (by kernel_rfl) (by kernel_rfl) (by kernel_rfl) ?_)
  rintro _ _ ⟨_, _, ⟨_, ⟨v_7, p1_8, h1_9, f10, rfl, rfl⟩, rfl⟩, rfl, rfl⟩
  refine R.go 7 (R.cond (v_7 = 0) (by kernel_rfl) (fun c11 => ?_) (fun c11 => ?_))
  · refine R.go 4 (R.ar (n_1 + 1) (by kernel_rfl) (by omega) (by omega) (by kernel_rfl) ?_)
    refine R.lit (s := 1) (n := 3) (cs := rows eI [(-1), 9, n_1 + 1]) (by kernel_rfl) (by kernel_rfl) ?_
    refine R.callX (CallX.inF 8 usC frC (CallX.box 8 26 [AI 0, .nil] (pickX_c_r9b c p1_8 h1_9 [(-1), 9, n_1 + 1] eo1 so1 no1 co1 eo2 so2 no2 co2 eo3 so3 no3 co3 eo4 so4 no4 co4 eo5 so5 no5 co5 eo6 so6 no6 co6 eo7 so7 no7 co7 26 2 1 [AI 0, .nil] 2 1 xs_2.length (rows eI xs_2) 26 n_1 hc (by simp)) (by kernel_rfl) (by kernel_rfl) (by kernel_rfl) (by kernel_rfl) (by rintro _ _ ⟨_, _, _, rfl, rfl⟩; exact ⟨by kernel_rfl, by kernel_rfl, by kernel_rfl⟩)) (Nat.le_of_ble_eq_true (by kernel_rfl)) (by kernel_rfl) (by kernel_rfl) (by rintro _ _ ⟨_, ⟨_, _, _, rfl, rfl⟩, rfl⟩; exact Nat.le_of_ble_eq_true (by kernel_rfl))) (by kernel_rfl) (by kernel_rfl) (by kernel_rfl) ?_
    rintro _ _ ⟨_, _, ⟨_, ⟨v_12, p1_13, h1_14, rfl, rfl⟩, rfl⟩, rfl, rfl⟩
    refine R.go 9 (R.frz 10 (by kernel_rfl) ?_)
    refine R.kfix 8 (us := usC) (by kernel_rfl) (hfC.frz 10 (LI xs_2) (Nat.le_of_ble_eq_true (by kernel_rfl))) ?_
    exact R.retX (res := .agg [AI v_12, LI xs_2]) (hp' := [.box 120 [LB c, AI (p1_13 : Int), .int .u64 h1_14], .list eo1 so1 no1 co1, .list eo2 so2 no2 co2, .list eo3 so3 no3 co3, .list eo4 so4 no4 co4, .list eo5 so5 no5 co5, .list eo6 so6 no6 co6, .list eo7 so7 no7 co7, .dead, .box 26 [AI v_12, LI xs_2], .dead, .box 26 [AI v_12, LI xs_2]]) (by kernel_rfl) (by kernel_rfl) (by kernel_rfl) (by kernel_rfl) ⟨[0, 1, 2, 3, 4, 5, 6, 7], by kernel_rfl, by decide, v_12, xs_2, p1_13, h1_14, by first | omega | (simp; done) | (simp only [List.length_append, List.length_cons, List.length_nil, List.length_set]; omega), by kernel_rfl, by kernel_rfl⟩
  · refine R.go 5 (R.cond (v_7 = 1) (by kernel_rfl) (fun c15 => ?_) (fun c15 => ?_))
    · refine R.go 3 (R.call false (l01Own_c xs_2 (by first | omega | (simp <;> omega))) (by kernel_rfl) (ownA_closed eI_closed 2 1 xs_2) (by kernel_rfl) ?_)
      refine R.go 1 (R.app eI xs_2 [0] 12 2 1 8 (by kernel_rfl) eI_one (by decide) (by first | omega | (simp <;> omega)) (by kernel_rfl) ?_)
      refine R.kfix 8 (us := usC) (by kernel_rfl) (hfC.kill 12 (Nat.le_of_ble_eq_true (by kernel_rfl))) ?_
      refine R.go 9 (R.frz 12 (by kernel_rfl) ?_)
      refine R.kfix 8 (us := usC) (by kernel_rfl) (hfC.frz 12 (LI (xs_2 ++ [0])) (Nat.le_of_ble_eq_true (by kernel_rfl))) ?_
      exact R.retX (res := .agg [AI n_1, LI (xs_2 ++ [0])]) (hp' := [.box 120 [LB c, AI (p1_8 : Int), .int .u64 h1_9], .list eo1 so1 no1 co1, .list eo2 so2 no2 co2, .list eo3 so3 no3 co3, .list eo4 so4 no4 co4, .list eo5 so5 no5 co5, .list eo6 so6 no6 co6, .list eo7 so7 no7 co7, .dead, .box 26 [AI n_1, LI (xs_2 ++ [0])], rowA eI 2 1 xs_2, .box 26 [AI n_1, LI (xs_2 ++ [0])], .dead, rowA eI 2 1 [0]]) (by kernel_rfl) (by kernel_rfl) (by kernel_rfl) (by kernel_rfl) ⟨[0, 1, 2, 3, 4, 5, 6, 7], by kernel_rfl, by decide, n_1, xs_2 ++ [0], p1_8, h1_9, by first | omega | (simp; done) | (simp only [List.length_append, List.length_cons, List.length_nil, List.length_set]; omega), by kernel_rfl, by kernel_rfl⟩
    · refine R.go 5 (R.cond (v_7 = 2) (by kernel_rfl) (fun c16 => ?_) (fun c16 => ?_))
      · have hb : 1 ≤ shl64 1 n_1 ∧ shl64 1 n_1 ≤ 4611686018427387904 := shl_rng n_1 (by omega) (by omega)
        refine R.go 6 (R.cond (n_1 > 0) (by kernel_rfl) (fun c17 => ?_) (fun c17 => ?_))
        · refine R.meetF (α := Int × Nat × Int × Int × Nat × Int) (fun | (v_18, p1_19, h1_20, v_22, p1_23, h1_24) => ((n_1 < 1 → v_18 = 0) ∧ (1 ≤ n_1 → 0 ≤ v_18 ∧ v_18 < n_1))) (fun | (v_18, p1_19, h1_20, v_22, p1_23, h1_24) => (⟨(frm 48 [(0, .ptr 0 0), (1, AI worlds), (4, .ptr 9 0), (5, .ptr 11 0), (6, .ptr 0 0), (7, AI worlds), (8, .agg [AI n_1, .ref 10]), (9, .ptr 0 0), (10, AI v_7), (11, .bool (decide (v_7 = 0))), (12, .bool (decide (v_7 = 0))), (20, .bool (decide (v_7 = 1))), (21, .bool (decide (v_7 = 1))), (28, .bool (decide (v_7 = 2))), (29, .bool (decide (v_7 = 2))), (30, .ptr 11 0), (31, AI n_1), (32, .bool (decide (n_1 > 0))), (33, .ptr 11 1), (34, .ref 10), (35, .ptr 0 0), (36, .ptr 11 0), (37, AI n_1), (38, AI v_18), (39, .ptr 0 0), (40, .ptr 11 0), (41, AI n_1), (42, AI ((shl64 1 n_1) - 1)), (43, AI (((shl64 1 n_1) - 1) + 1)), (44, LI [(-1), ((shl64 1 n_1) - 1) + 1]), (45, AI v_22), (46, .ptr 10 (((v_18).toNat) * 1))]), [.box 120 [LB c, AI (p1_23 : Int), .int .u64 h1_24], .list eo1 so1 no1 co1, .list eo2 so2 no2 co2, .list eo3 so3 no3 co3, .list eo4 so4 no4 co4, .list eo5 so5 no5 co5, .list eo6 so6 no6 co6, .list eo7 so7 no7 co7, .frame usC frC, .box 26 [AI 0, .nil], rowA eI 2 1 (xs_2.set ((v_18).toNat) v_22), .box 26 [AI n_1, .ref 10]]⟩ : St)) (by kernel_rfl) ?_ ?_
          · refine R.any (by decide +kernel) (by kernel_rfl) ?_
            refine R.anyF 2 (by kernel_rfl) (np_meetF _ _) ?_
            refine R.anyF 6 (by kernel_rfl) (np_meetF _ _) ?_
            refine R.anyA 0 (.ptr 11 1) (by kernel_rfl) (np_meetF _ _) ?_
            refine R.anyA 3 (.ptr 11 0) (by kernel_rfl) (np_meetF _ _) ?_
            refine R.anyA 7 (.ptr 11 0) (by kernel_rfl) (np_meetF _ _) ?_
            refine R.any3 1 4 8 (by kernel_rfl) (by kernel_rfl) ?_ ?_ ?_
            · refine R.go 2 (R.any2 4 8 (by kernel_rfl) (by kernel_rfl) ?_ ?_)
              · refine R.go 2 (R.any2 5 8 (by kernel_rfl) (by kernel_rfl) ?_ ?_)
                · refine R.callX (CallX.inF 8 usC frC (CallX.box 8 26 [AI 0, .nil] (nextX_c_r9b c p1_8 h1_9 n_1 eo1 so1 no1 co1 eo2 so2 no2 co2 eo3 so3 no3 co3 eo4 so4 no4 co4 eo5 so5 no5 co5 eo6 so6 no6 co6 eo7 so7 no7 co7 26 2 1 [AI 0, .nil] 2 1 xs_2.length (rows eI xs_2) 26 n_1 hc) (by kernel_rfl) (by kernel_rfl) (by kernel_rfl) (by kernel_rfl) (by rintro _ _ ⟨_, _, _, _, rfl, rfl⟩; exact ⟨by kernel_rfl, by kernel_rfl, by kernel_rfl⟩)) (Nat.le_of_ble_eq_true (by kernel_rfl)) (by kernel_rfl) (by kernel_rfl) (by rintro _ _ ⟨_, ⟨_, _, _, _, rfl, rfl⟩, rfl⟩; exact Nat.le_of_ble_eq_true (by kernel_rfl))) (by kernel_rfl) (by kernel_rfl) (by kernel_rfl) ?_
                  rintro _ _ ⟨_, _, ⟨_, ⟨v_18, p1_19, h1_20, f21, rfl, rfl⟩, rfl⟩, rfl, rfl⟩
                  refine R.go 1 (R.any1 8 (by kernel_rfl) (by kernel_rfl) ?_)
                  refine R.go 2 (R.any1 9 (by kernel_rfl) (by kernel_rfl) ?_)
                  refine R.call true (l01Full_c n_1 (by omega) (by omega)) (by kernel_rfl) rfl (by kernel_rfl) ?_
                  refine R.go 1 (R.any1 10 (by kernel_rfl) (by kernel_rfl) ?_)
                  refine R.ar (((shl64 1 n_1) - 1) + 1) (by kernel_rfl) (by omega) (by omega) (by kernel_rfl) ?_
                  refine R.go 1 (R.any1 11 (by kernel_rfl) (by kernel_rfl) ?_)
                  refine R.lit (s := 1) (n := 2) (cs := rows eI [(-1), ((shl64 1 n_1) - 1) + 1]) (by kernel_rfl) (by kernel_rfl) ?_
                  refine R.go 1 (R.any1 12 (by kernel_rfl) (by kernel_rfl) ?_)
                  refine R.callX (CallX.inF 8 usC frC (CallX.box 8 26 [AI 0, .nil] (pickX_c_r9b c p1_19 h1_20 [(-1), ((shl64 1 n_1) - 1) + 1] eo1 so1 no1 co1 eo2 so2 no2 co2 eo3 so3 no3 co3 eo4 so4 no4 co4 eo5 so5 no5 co5 eo6 so6 no6 co6 eo7 so7 no7 co7 26 2 1 [AI 0, .nil] 2 1 xs_2.length (rows eI xs_2) 26 n_1 hc (by simp)) (by kernel_rfl) (by kernel_rfl) (by kernel_rfl) (by kernel_rfl) (by rintro _ _ ⟨_, _, _, rfl, rfl⟩; exact ⟨by kernel_rfl, by kernel_rfl, by kernel_rfl⟩)) (Nat.le_of_ble_eq_true (by kernel_rfl)) (by kernel_rfl) (by kernel_rfl) (by rintro _ _ ⟨_, ⟨_, _, _, rfl, rfl⟩, rfl⟩; exact Nat.le_of_ble_eq_true (by kernel_rfl))) (by kernel_rfl) (by kernel_rfl) (by kernel_rfl) ?_
                  rintro _ _ ⟨_, _, ⟨_, ⟨v_22, p1_23, h1_24, rfl, rfl⟩, rfl⟩, rfl, rfl⟩
                  refine R.go 1 (R.any1 13 (by kernel_rfl) (by kernel_rfl) ?_)
                  refine R.idxO 10 1 xs_2.length ((v_18).toNat) v_18 (by kernel_rfl) (by omega) (by omega) (by kernel_rfl) ?_
                  refine R.go 1 (R.any1 14 (by kernel_rfl) (by kernel_rfl) ?_)
                  refine R.stI 10 2 xs_2 ((v_18).toNat) v_22 (by kernel_rfl) (by omega) (by kernel_rfl) ?_
                  refine R.go 1 (R.any0 (by kernel_rfl) ?_)
                  exact R.metF (v_18, p1_19, h1_20, v_22, p1_23, h1_24) (by kernel_rfl) (by first | assumption | omega) (by kernel_rfl)
                · refine R.go 2 (R.any1 5 (by kernel_rfl) (by kernel_rfl) ?_)
                  refine R.callX (CallX.inF 8 usC frC (CallX.box 8 26 [AI 0, .nil] (nextX_c_r9b c p1_8 h1_9 n_1 eo1 so1 no1 co1 eo2 so2 no2 co2 eo3 so3 no3 co3 eo4 so4 no4 co4 eo5 so5 no5 co5 eo6 so6 no6 co6 eo7 so7 no7 co7 26 2 1 [AI 0, .nil] 2 1 xs_2.length (rows eI xs_2) 26 n_1 hc) (by kernel_rfl) (by kernel_rfl) (by kernel_rfl) (by kernel_rfl) (by rintro _ _ ⟨_, _, _, _, rfl, rfl⟩; exact ⟨by kernel_rfl, by kernel_rfl, by kernel_rfl⟩)) (Nat.le_of_ble_eq_true (by kernel_rfl)) (by kernel_rfl) (by kernel_rfl) (by rintro _ _ ⟨_, ⟨_, _, _, _, rfl, rfl⟩, rfl⟩; exact Nat.le_of_ble_eq_true (by kernel_rfl))) (by kernel_rfl) (by kernel_rfl) (by kernel_rfl) ?_
                  rintro _ _ ⟨_, _, ⟨_, ⟨v_25, p1_26, h1_27, f28, rfl, rfl⟩, rfl⟩, rfl, rfl⟩
                  refine R.go 1 (R.any1 9 (by kernel_rfl) (by kernel_rfl) ?_)
                  refine R.call true (l01Full_c n_1 (by omega) (by omega)) (by kernel_rfl) rfl (by kernel_rfl) ?_
                  refine R.go 1 (R.any1 10 (by kernel_rfl) (by kernel_rfl) ?_)
                  refine R.ar (((shl64 1 n_1) - 1) + 1) (by kernel_rfl) (by omega) (by omega) (by kernel_rfl) ?_
                  refine R.go 1 (R.any1 11 (by kernel_rfl) (by kernel_rfl) ?_)
                  refine R.lit (s := 1) (n := 2) (cs := rows eI [(-1), ((shl64 1 n_1) - 1) + 1]) (by kernel_rfl) (by kernel_rfl) ?_
                  refine R.go 1 (R.any1 12 (by kernel_rfl) (by kernel_rfl) ?_)
                  refine R.callX (CallX.inF 8 usC frC (CallX.box 8 26 [AI 0, .nil] (pickX_c_r9b c p1_26 h1_27 [(-1), ((shl64 1 n_1) - 1) + 1] eo1 so1 no1 co1 eo2 so2 no2 co2 eo3 so3 no3 co3 eo4 so4 no4 co4 eo5 so5 no5 co5 eo6 so6 no6 co6 eo7 so7 no7 co7 26 2 1 [AI 0, .nil] 2 1 xs_2.length (rows eI xs_2) 26 n_1 hc (by simp)) (by kernel_rfl) (by kernel_rfl) (by kernel_rfl) (by kernel_rfl) (by rintro _ _ ⟨_, _, _, rfl, rfl⟩; exact ⟨by kernel_rfl, by kernel_rfl, by kernel_rfl⟩)) (Nat.le_of_ble_eq_true (by kernel_rfl)) (by kernel_rfl) (by kernel_rfl) (by rintro _ _ ⟨_, ⟨_, _, _, rfl, rfl⟩, rfl⟩; exact Nat.le_of_ble_eq_true (by kernel_rfl))) (by kernel_rfl) (by kernel_rfl) (by kernel_rfl) ?_
                  rintro _ _ ⟨_, _, ⟨_, ⟨v_29, p1_30, h1_31, rfl, rfl⟩, rfl⟩, rfl, rfl⟩
                  refine R.go 1 (R.any1 13 (by kernel_rfl) (by kernel_rfl) ?_)
                  refine R.idxO 10 1 xs_2.length ((v_25).toNat) v_25 (by kernel_rfl) (by omega) (by omega) (by kernel_rfl) ?_
                  refine R.go 1 (R.any1 14 (by kernel_rfl) (by kernel_rfl) ?_)
                  refine R.stI 10 2 xs_2 ((v_25).toNat) v_29 (by kernel_rfl) (by omega) (by kernel_rfl) ?_
                  refine R.go 1 (R.any0 (by kernel_rfl) ?_)
                  exact R.metF (v_25, p1_26, h1_27, v_29, p1_30, h1_31) (by kernel_rfl) (by first | assumption | omega) (by kernel_rfl)
              · refine R.go 2 (R.any1 4 (by kernel_rfl) (by kernel_rfl) ?_)
                refine R.go 2 (R.any1 5 (by kernel_rfl) (by kernel_rfl) ?_)
                refine R.callX (CallX.inF 8 usC frC (CallX.box 8 26 [AI 0, .nil] (nextX_c_r9b c p1_8 h1_9 n_1 eo1 so1 no1 co1 eo2 so2 no2 co2 eo3 so3 no3 co3 eo4 so4 no4 co4 eo5 so5 no5 co5 eo6 so6 no6 co6 eo7 so7 no7 co7 26 2 1 [AI 0, .nil] 2 1 xs_2.length (rows eI xs_2) 26 n_1 hc) (by kernel_rfl) (by kernel_rfl) (by kernel_rfl) (by kernel_rfl) (by rintro _ _ ⟨_, _, _, _, rfl, rfl⟩; exact ⟨by kernel_rfl, by kernel_rfl, by kernel_rfl⟩)) (Nat.le_of_ble_eq_true (by kernel_rfl)) (by kernel_rfl) (by kernel_rfl) (by rintro _ _ ⟨_, ⟨_, _, _, _, rfl, rfl⟩, rfl⟩; exact Nat.le_of_ble_eq_true (by kernel_rfl))) (by kernel_rfl) (by kernel_rfl) (by kernel_rfl) ?_
                rintro _ _ ⟨_, _, ⟨_, ⟨v_32, p1_33, h1_34, f35, rfl, rfl⟩, rfl⟩, rfl, rfl⟩
                refine R.go 1 (R.any1 9 (by kernel_rfl) (by kernel_rfl) ?_)
                refine R.call true (l01Full_c n_1 (by omega) (by omega)) (by kernel_rfl) rfl (by kernel_rfl) ?_
                refine R.go 1 (R.any1 10 (by kernel_rfl) (by kernel_rfl) ?_)
                refine R.ar (((shl64 1 n_1) - 1) + 1) (by kernel_rfl) (by omega) (by omega) (by kernel_rfl) ?_
                refine R.go 1 (R.any1 11 (by kernel_rfl) (by kernel_rfl) ?_)
                refine R.lit (s := 1) (n := 2) (cs := rows eI [(-1), ((shl64 1 n_1) - 1) + 1]) (by kernel_rfl) (by kernel_rfl) ?_
                refine R.go 1 (R.any1 12 (by kernel_rfl) (by kernel_rfl) ?_)
                refine R.callX (CallX.inF 8 usC frC (CallX.box 8 26 [AI 0, .nil] (pickX_c_r9b c p1_33 h1_34 [(-1), ((shl64 1 n_1) - 1) + 1] eo1 so1 no1 co1 eo2 so2 no2 co2 eo3 so3 no3 co3 eo4 so4 no4 co4 eo5 so5 no5 co5 eo6 so6 no6 co6 eo7 so7 no7 co7 26 2 1 [AI 0, .nil] 2 1 xs_2.length (rows eI xs_2) 26 n_1 hc (by simp)) (by kernel_rfl) (by kernel_rfl) (by kernel_rfl) (by kernel_rfl) (by rintro _ _ ⟨_, _, _, rfl, rfl⟩; exact ⟨by kernel_rfl, by kernel_rfl, by kernel_rfl⟩)) (Nat.le_of_ble_eq_true (by kernel_rfl)) (by kernel_rfl) (by kernel_rfl) (by rintro _ _ ⟨_, ⟨_, _, _, rfl, rfl⟩, rfl⟩; exact Nat.le_of_ble_eq_true (by kernel_rfl))) (by kernel_rfl) (by kernel_rfl) (by kernel_rfl) ?_
                rintro _ _ ⟨_, _, ⟨_, ⟨v_36, p1_37, h1_38, rfl, rfl⟩, rfl⟩, rfl, rfl⟩
                refine R.go 1 (R.any1 13 (by kernel_rfl) (by kernel_rfl) ?_)
                refine R.idxO 10 1 xs_2.length ((v_32).toNat) v_32 (by kernel_rfl) (by omega) (by omega) (by kernel_rfl) ?_
                refine R.go 1 (R.any1 14 (by kernel_rfl) (by kernel_rfl) ?_)
                refine R.stI 10 2 xs_2 ((v_32).toNat) v_36 (by kernel_rfl) (by omega) (by kernel_rfl) ?_
                refine R.go 1 (R.any0 (by kernel_rfl) ?_)
                exact R.metF (v_32, p1_33, h1_34, v_36, p1_37, h1_38) (by kernel_rfl) (by first | assumption | omega) (by kernel_rfl)
            · refine R.go 2 (R.any3 1 5 8 (by kernel_rfl) (by kernel_rfl) ?_ ?_ ?_)
              · refine R.go 2 (R.any2 5 8 (by kernel_rfl) (by kernel_rfl) ?_ ?_)
                · refine R.callX (CallX.inF 8 usC frC (CallX.box 8 26 [AI 0, .nil] (nextX_c_r9b c p1_8 h1_9 n_1 eo1 so1 no1 co1 eo2 so2 no2 co2 eo3 so3 no3 co3 eo4 so4 no4 co4 eo5 so5 no5 co5 eo6 so6 no6 co6 eo7 so7 no7 co7 26 2 1 [AI 0, .nil] 2 1 xs_2.length (rows eI xs_2) 26 n_1 hc) (by kernel_rfl) (by kernel_rfl) (by kernel_rfl) (by kernel_rfl) (by rintro _ _ ⟨_, _, _, _, rfl, rfl⟩; exact ⟨by kernel_rfl, by kernel_rfl, by kernel_rfl⟩)) (Nat.le_of_ble_eq_true (by kernel_rfl)) (by kernel_rfl) (by kernel_rfl) (by rintro _ _ ⟨_, ⟨_, _, _, _, rfl, rfl⟩, rfl⟩; exact Nat.le_of_ble_eq_true (by kernel_rfl))) (by kernel_rfl) (by kernel_rfl) (by kernel_rfl) ?_
                  rintro _ _ ⟨_, _, ⟨_, ⟨v_39, p1_40, h1_41, f42, rfl, rfl⟩, rfl⟩, rfl, rfl⟩
                  refine R.go 1 (R.any1 8 (by kernel_rfl) (by kernel_rfl) ?_)
                  refine R.go 2 (R.any1 9 (by kernel_rfl) (by kernel_rfl) ?_)
                  refine R.call true (l01Full_c n_1 (by omega) (by omega)) (by kernel_rfl) rfl (by kernel_rfl) ?_
                  refine R.go 1 (R.any1 10 (by kernel_rfl) (by kernel_rfl) ?_)
                  refine R.ar (((shl64 1 n_1) - 1) + 1) (by kernel_rfl) (by omega) (by omega) (by kernel_rfl) ?_
                  refine R.go 1 (R.any1 11 (by kernel_rfl) (by kernel_rfl) ?_)
                  refine R.lit (s := 1) (n := 2) (cs := rows eI [(-1), ((shl64 1 n_1) - 1) + 1]) (by kernel_rfl) (by kernel_rfl) ?_
                  refine R.go 1 (R.any1 12 (by kernel_rfl) (by kernel_rfl) ?_)
                  refine R.callX (CallX.inF 8 usC frC (CallX.box 8 26 [AI 0, .nil] (pickX_c_r9b c p1_40 h1_41 [(-1), ((shl64 1 n_1) - 1) + 1] eo1 so1 no1 co1 eo2 so2 no2 co2 eo3 so3 no3 co3 eo4 so4 no4 co4 eo5 so5 no5 co5 eo6 so6 no6 co6 eo7 so7 no7 co7 26 2 1 [AI 0, .nil] 2 1 xs_2.length (rows eI xs_2) 26 n_1 hc (by simp)) (by kernel_rfl) (by kernel_rfl) (by kernel_rfl) (by kernel_rfl) (by rintro _ _ ⟨_, _, _, rfl, rfl⟩; exact ⟨by kernel_rfl, by kernel_rfl, by kernel_rfl⟩)) (Nat.le_of_ble_eq_true (by kernel_rfl)) (by kernel_rfl) (by kernel_rfl) (by rintro _ _ ⟨_, ⟨_, _, _, rfl, rfl⟩, rfl⟩; exact Nat.le_of_ble_eq_true (by kernel_rfl))) (by kernel_rfl) (by kernel_rfl) (by kernel_rfl) ?_
                  rintro _ _ ⟨_, _, ⟨_, ⟨v_43, p1_44, h1_45, rfl, rfl⟩, rfl⟩, rfl, rfl⟩
                  refine R.go 1 (R.any1 13 (by kernel_rfl) (by kernel_rfl) ?_)
                  refine R.idxO 10 1 xs_2.length ((v_39).toNat) v_39 (by kernel_rfl) (by omega) (by omega) (by kernel_rfl) ?_
                  refine R.go 1 (R.any1 14 (by kernel_rfl) (by kernel_rfl) ?_)
                  refine R.stI 10 2 xs_2 ((v_39).toNat) v_43 (by kernel_rfl) (by omega) (by kernel_rfl) ?_
                  refine R.go 1 (R.any0 (by kernel_rfl) ?_)
                  exact R.metF (v_39, p1_40, h1_41, v_43, p1_44, h1_45) (by kernel_rfl) (by first | assumption | omega) (by kernel_rfl)
                · refine R.go 2 (R.any1 5 (by kernel_rfl) (by kernel_rfl) ?_)
                  refine R.callX (CallX.inF 8 usC frC (CallX.box 8 26 [AI 0, .nil] (nextX_c_r9b c p1_8 h1_9 n_1 eo1 so1 no1 co1 eo2 so2 no2 co2 eo3 so3 no3 co3 eo4 so4 no4 co4 eo5 so5 no5 co5 eo6 so6 no6 co6 eo7 so7 no7 co7 26 2 1 [AI 0, .nil] 2 1 xs_2.length (rows eI xs_2) 26 n_1 hc) (by kernel_rfl) (by kernel_rfl) (by kernel_rfl) (by kernel_rfl) (by rintro _ _ ⟨_, _, _, _, rfl, rfl⟩; exact ⟨by kernel_rfl, by kernel_rfl, by kernel_rfl⟩)) (Nat.le_of_ble_eq_true (by kernel_rfl)) (by kernel_rfl) (by kernel_rfl) (by rintro _ _ ⟨_, ⟨_, _, _, _, rfl, rfl⟩, rfl⟩; exact Nat.le_of_ble_eq_true (by kernel_rfl))) (by kernel_rfl) (by kernel_rfl) (by kernel_rfl) ?_
                  rintro _ _ ⟨_, _, ⟨_, ⟨v_46, p1_47, h1_48, f49, rfl, rfl⟩, rfl⟩, rfl, rfl⟩
                  refine R.go 1 (R.any1 9 (by kernel_rfl) (by kernel_rfl) ?_)
                  refine R.call true (l01Full_c n_1 (by omega) (by omega)) (by kernel_rfl) rfl (by kernel_rfl) ?_
                  refine R.go 1 (R.any1 10 (by kernel_rfl) (by kernel_rfl) ?_)
                  refine R.ar (((shl64 1 n_1) - 1) + 1) (by kernel_rfl) (by omega) (by omega) (by kernel_rfl) ?_
                  refine R.go 1 (R.any1 11 (by kernel_rfl) (by kernel_rfl) ?_)
                  refine R.lit (s := 1) (n := 2) (cs := rows eI [(-1), ((shl64 1 n_1) - 1) + 1]) (by kernel_rfl) (by kernel_rfl) ?_
                  refine R.go 1 (R.any1 12 (by kernel_rfl) (by kernel_rfl) ?_)
                  refine R.callX (CallX.inF 8 usC frC (CallX.box 8 26 [AI 0, .nil] (pickX_c_r9b c p1_47 h1_48 [(-1), ((shl64 1 n_1) - 1) + 1] eo1 so1 no1 co1 eo2 so2 no2 co2 eo3 so3 no3 co3 eo4 so4 no4 co4 eo5 so5 no5 co5 eo6 so6 no6 co6 eo7 so7 no7 co7 26 2 1 [AI 0, .nil] 2 1 xs_2.length (rows eI xs_2) 26 n_1 hc (by simp)) (by kernel_rfl) (by kernel_rfl) (by kernel_rfl) (by kernel_rfl) (by rintro _ _ ⟨_, _, _, rfl, rfl⟩; exact ⟨by kernel_rfl, by kernel_rfl, by kernel_rfl⟩)) (Nat.le_of_ble_eq_true (by kernel_rfl)) (by kernel_rfl) (by kernel_rfl) (by rintro _ _ ⟨_, ⟨_, _, _, rfl, rfl⟩, rfl⟩; exact Nat.le_of_ble_eq_true (by kernel_rfl))) (by kernel_rfl) (by kernel_rfl) (by kernel_rfl) ?_
                  rintro _ _ ⟨_, _, ⟨_, ⟨v_50, p1_51, h1_52, rfl, rfl⟩, rfl⟩, rfl, rfl⟩
                  refine R.go 1 (R.any1 13 (by kernel_rfl) (by kernel_rfl) ?_)
                  refine R.idxO 10 1 xs_2.length ((v_46).toNat) v_46 (by kernel_rfl) (by omega) (by omega) (by kernel_rfl) ?_
                  refine R.go 1 (R.any1 14 (by kernel_rfl) (by kernel_rfl) ?_)
                  refine R.stI 10 2 xs_2 ((v_46).toNat) v_50 (by kernel_rfl) (by omega) (by kernel_rfl) ?_
                  refine R.go 1 (R.any0 (by kernel_rfl) ?_)
                  exact R.metF (v_46, p1_47, h1_48, v_50, p1_51, h1_52) (by kernel_rfl) (by first | assumption | omega) (by kernel_rfl)
              · refine R.callX (CallX.inF 8 usC frC (CallX.box 8 26 [AI 0, .nil] (nextX_c_r9b c p1_8 h1_9 n_1 eo1 so1 no1 co1 eo2 so2 no2 co2 eo3 so3 no3 co3 eo4 so4 no4 co4 eo5 so5 no5 co5 eo6 so6 no6 co6 eo7 so7 no7 co7 26 2 1 [AI 0, .nil] 2 1 xs_2.length (rows eI xs_2) 26 n_1 hc) (by kernel_rfl) (by kernel_rfl) (by kernel_rfl) (by kernel_rfl) (by rintro _ _ ⟨_, _, _, _, rfl, rfl⟩; exact ⟨by kernel_rfl, by kernel_rfl, by kernel_rfl⟩)) (Nat.le_of_ble_eq_true (by kernel_rfl)) (by kernel_rfl) (by kernel_rfl) (by rintro _ _ ⟨_, ⟨_, _, _, _, rfl, rfl⟩, rfl⟩; exact Nat.le_of_ble_eq_true (by kernel_rfl))) (by kernel_rfl) (by kernel_rfl) (by kernel_rfl) ?_
                rintro _ _ ⟨_, _, ⟨_, ⟨v_53, p1_54, h1_55, f56, rfl, rfl⟩, rfl⟩, rfl, rfl⟩
                refine R.go 1 (R.any2 1 8 (by kernel_rfl) (by kernel_rfl) ?_ ?_)
                · refine R.go 2 (R.any1 8 (by kernel_rfl) (by kernel_rfl) ?_)
                  refine R.go 2 (R.any1 9 (by kernel_rfl) (by kernel_rfl) ?_)
                  refine R.call true (l01Full_c n_1 (by omega) (by omega)) (by kernel_rfl) rfl (by kernel_rfl) ?_
                  refine R.go 1 (R.any1 10 (by kernel_rfl) (by kernel_rfl) ?_)
                  refine R.ar (((shl64 1 n_1) - 1) + 1) (by kernel_rfl) (by omega) (by omega) (by kernel_rfl) ?_
                  refine R.go 1 (R.any1 11 (by kernel_rfl) (by kernel_rfl) ?_)
                  refine R.lit (s := 1) (n := 2) (cs := rows eI [(-1), ((shl64 1 n_1) - 1) + 1]) (by kernel_rfl) (by kernel_rfl) ?_
                  refine R.go 1 (R.any1 12 (by kernel_rfl) (by kernel_rfl) ?_)
                  refine R.callX (CallX.inF 8 usC frC (CallX.box 8 26 [AI 0, .nil] (pickX_c_r9b c p1_54 h1_55 [(-1), ((shl64 1 n_1) - 1) + 1] eo1 so1 no1 co1 eo2 so2 no2 co2 eo3 so3 no3 co3 eo4 so4 no4 co4 eo5 so5 no5 co5 eo6 so6 no6 co6 eo7 so7 no7 co7 26 2 1 [AI 0, .nil] 2 1 xs_2.length (rows eI xs_2) 26 n_1 hc (by simp)) (by kernel_rfl) (by kernel_rfl) (by kernel_rfl) (by kernel_rfl) (by rintro _ _ ⟨_, _, _, rfl, rfl⟩; exact ⟨by kernel_rfl, by kernel_rfl, by kernel_rfl⟩)) (Nat.le_of_ble_eq_true (by kernel_rfl)) (by kernel_rfl) (by kernel_rfl) (by rintro _ _ ⟨_, ⟨_, _, _, rfl, rfl⟩, rfl⟩; exact Nat.le_of_ble_eq_true (by kernel_rfl))) (by kernel_rfl) (by kernel_rfl) (by kernel_rfl) ?_
                  rintro _ _ ⟨_, _, ⟨_, ⟨v_57, p1_58, h1_59, rfl, rfl⟩, rfl⟩, rfl, rfl⟩
                  refine R.go 1 (R.any1 13 (by kernel_rfl) (by kernel_rfl) ?_)
                  refine R.idxO 10 1 xs_2.length ((v_53).toNat) v_53 (by kernel_rfl) (by omega) (by omega) (by kernel_rfl) ?_
                  refine R.go 1 (R.any1 14 (by kernel_rfl) (by kernel_rfl) ?_)
                  refine R.stI 10 2 xs_2 ((v_53).toNat) v_57 (by kernel_rfl) (by omega) (by kernel_rfl) ?_
                  refine R.go 1 (R.any0 (by kernel_rfl) ?_)
                  exact R.metF (v_53, p1_54, h1_55, v_57, p1_58, h1_59) (by kernel_rfl) (by first | assumption | omega) (by kernel_rfl)
                · refine R.go 2 (R.any2 1 9 (by kernel_rfl) (by kernel_rfl) ?_ ?_)
                  · refine R.go 2 (R.any1 9 (by kernel_rfl) (by kernel_rfl) ?_)
                    refine R.call true (l01Full_c n_1 (by omega) (by omega)) (by kernel_rfl) rfl (by kernel_rfl) ?_
                    refine R.go 1 (R.any1 10 (by kernel_rfl) (by kernel_rfl) ?_)
                    refine R.ar (((shl64 1 n_1) - 1) + 1) (by kernel_rfl) (by omega) (by omega) (by kernel_rfl) ?_
                    refine R.go 1 (R.any1 11 (by kernel_rfl) (by kernel_rfl) ?_)
                    refine R.lit (s := 1) (n := 2) (cs := rows eI [(-1), ((shl64 1 n_1) - 1) + 1]) (by kernel_rfl) (by kernel_rfl) ?_
                    refine R.go 1 (R.any1 12 (by kernel_rfl) (by kernel_rfl) ?_)
                    refine R.callX (CallX.inF 8 usC frC (CallX.box 8 26 [AI 0, .nil] (pickX_c_r9b c p1_54 h1_55 [(-1), ((shl64 1 n_1) - 1) + 1] eo1 so1 no1 co1 eo2 so2 no2 co2 eo3 so3 no3 co3 eo4 so4 no4 co4 eo5 so5 no5 co5 eo6 so6 no6 co6 eo7 so7 no7 co7 26 2 1 [AI 0, .nil] 2 1 xs_2.length (rows eI xs_2) 26 n_1 hc (by simp)) (by kernel_rfl) (by kernel_rfl) (by kernel_rfl) (by kernel_rfl) (by rintro _ _ ⟨_, _, _, rfl, rfl⟩; exact ⟨by kernel_rfl, by kernel_rfl, by kernel_rfl⟩)) (Nat.le_of_ble_eq_true (by kernel_rfl)) (by kernel_rfl) (by kernel_rfl) (by rintro _ _ ⟨_, ⟨_, _, _, rfl, rfl⟩, rfl⟩; exact Nat.le_of_ble_eq_true (by kernel_rfl))) (by kernel_rfl) (by kernel_rfl) (by kernel_rfl) ?_
                    rintro _ _ ⟨_, _, ⟨_, ⟨v_60, p1_61, h1_62, rfl, rfl⟩, rfl⟩, rfl, rfl⟩
                    refine R.go 1 (R.any1 13 (by kernel_rfl) (by kernel_rfl) ?_)
                    refine R.idxO 10 1 xs_2.length ((v_53).toNat) v_53 (by kernel_rfl) (by omega) (by omega) (by kernel_rfl) ?_
                    refine R.go 1 (R.any1 14 (by kernel_rfl) (by kernel_rfl) ?_)
                    refine R.stI 10 2 xs_2 ((v_53).toNat) v_60 (by kernel_rfl) (by omega) (by kernel_rfl) ?_
                    refine R.go 1 (R.any0 (by kernel_rfl) ?_)
                    exact R.metF (v_53, p1_54, h1_55, v_60, p1_61, h1_62) (by kernel_rfl) (by first | assumption | omega) (by kernel_rfl)
                  · refine R.call true (l01Full_c n_1 (by omega) (by omega)) (by kernel_rfl) rfl (by kernel_rfl) ?_
                    refine R.go 1 (R.any2 1 10 (by kernel_rfl) (by kernel_rfl) ?_ ?_)
                    · refine R.go 2 (R.any1 10 (by kernel_rfl) (by kernel_rfl) ?_)
                      refine R.ar (((shl64 1 n_1) - 1) + 1) (by kernel_rfl) (by omega) (by omega) (by kernel_rfl) ?_
                      refine R.go 1 (R.any1 11 (by kernel_rfl) (by kernel_rfl) ?_)
                      refine R.lit (s := 1) (n := 2) (cs := rows eI [(-1), ((shl64 1 n_1) - 1) + 1]) (by kernel_rfl) (by kernel_rfl) ?_
                      refine R.go 1 (R.any1 12 (by kernel_rfl) (by kernel_rfl) ?_)
                      refine R.callX (CallX.inF 8 usC frC (CallX.box 8 26 [AI 0, .nil] (pickX_c_r9b c p1_54 h1_55 [(-1), ((shl64 1 n_1) - 1) + 1] eo1 so1 no1 co1 eo2 so2 no2 co2 eo3 so3 no3 co3 eo4 so4 no4 co4 eo5 so5 no5 co5 eo6 so6 no6 co6 eo7 so7 no7 co7 26 2 1 [AI 0, .nil] 2 1 xs_2.length (rows eI xs_2) 26 n_1 hc (by simp)) (by kernel_rfl) (by kernel_rfl) (by kernel_rfl) (by kernel_rfl) (by rintro _ _ ⟨_, _, _, rfl, rfl⟩; exact ⟨by kernel_rfl, by kernel_rfl, by kernel_rfl⟩)) (Nat.le_of_ble_eq_true (by kernel_rfl)) (by kernel_rfl) (by kernel_rfl) (by rintro _ _ ⟨_, ⟨_, _, _, rfl, rfl⟩, rfl⟩; exact Nat.le_of_ble_eq_true (by kernel_rfl))) (by kernel_rfl) (by kernel_rfl) (by kernel_rfl) ?_
                      rintro _ _ ⟨_, _, ⟨_, ⟨v_63, p1_64, h1_65, rfl, rfl⟩, rfl⟩, rfl, rfl⟩
                      refine R.go 1 (R.any1 13 (by kernel_rfl) (by kernel_rfl) ?_)
                      refine R.idxO 10 1 xs_2.length ((v_53).toNat) v_53 (by kernel_rfl) (by omega) (by omega) (by kernel_rfl) ?_
                      refine R.go 1 (R.any1 14 (by kernel_rfl) (by kernel_rfl) ?_)
                      refine R.stI 10 2 xs_2 ((v_53).toNat) v_63 (by kernel_rfl) (by omega) (by kernel_rfl) ?_
                      refine R.go 1 (R.any0 (by kernel_rfl) ?_)
                      exact R.metF (v_53, p1_54, h1_55, v_63, p1_64, h1_65) (by kernel_rfl) (by first | assumption | omega) (by kernel_rfl)
                    · refine R.ar (((shl64 1 n_1) - 1) + 1) (by kernel_rfl) (by omega) (by omega) (by kernel_rfl) ?_
                      refine R.go 1 (R.any2 1 11 (by kernel_rfl) (by kernel_rfl) ?_ ?_)
                      · refine R.go 2 (R.any1 11 (by kernel_rfl) (by kernel_rfl) ?_)
                        refine R.lit (s := 1) (n := 2) (cs := rows eI [(-1), ((shl64 1 n_1) - 1) + 1]) (by kernel_rfl) (by kernel_rfl) ?_
                        refine R.go 1 (R.any1 12 (by kernel_rfl) (by kernel_rfl) ?_)
                        refine R.callX (CallX.inF 8 usC frC (CallX.box 8 26 [AI 0, .nil] (pickX_c_r9b c p1_54 h1_55 [(-1), ((shl64 1 n_1) - 1) + 1] eo1 so1 no1 co1 eo2 so2 no2 co2 eo3 so3 no3 co3 eo4 so4 no4 co4 eo5 so5 no5 co5 eo6 so6 no6 co6 eo7 so7 no7 co7 26 2 1 [AI 0, .nil] 2 1 xs_2.length (rows eI xs_2) 26 n_1 hc (by simp)) (by kernel_rfl) (by kernel_rfl) (by kernel_rfl) (by kernel_rfl) (by rintro _ _ ⟨_, _, _, rfl, rfl⟩; exact ⟨by kernel_rfl, by kernel_rfl, by kernel_rfl⟩)) (Nat.le_of_ble_eq_true (by kernel_rfl)) (by kernel_rfl) (by kernel_rfl) (by rintro _ _ ⟨_, ⟨_, _, _, rfl, rfl⟩, rfl⟩; exact Nat.le_of_ble_eq_true (by kernel_rfl))) (by kernel_rfl) (by kernel_rfl) (by kernel_rfl) ?_
                        rintro _ _ ⟨_, _, ⟨_, ⟨v_66, p1_67, h1_68, rfl, rfl⟩, rfl⟩, rfl, rfl⟩
                        refine R.go 1 (R.any1 13 (by kernel_rfl) (by kernel_rfl) ?_)
                        refine R.idxO 10 1 xs_2.length ((v_53).toNat) v_53 (by kernel_rfl) (by omega) (by omega) (by kernel_rfl) ?_
                        refine R.go 1 (R.any1 14 (by kernel_rfl) (by kernel_rfl) ?_)
                        refine R.stI 10 2 xs_2 ((v_53).toNat) v_66 (by kernel_rfl) (by omega) (by kernel_rfl) ?_
                        refine R.go 1 (R.any0 (by kernel_rfl) ?_)
                        exact R.metF (v_53, p1_54, h1_55, v_66, p1_67, h1_68) (by kernel_rfl) (by first | assumption | omega) (by kernel_rfl)
                      · refine R.lit (s := 1) (n := 2) (cs := rows eI [(-1), ((shl64 1 n_1) - 1) + 1]) (by kernel_rfl) (by kernel_rfl) ?_
                        refine R.go 1 (R.any2 1 12 (by kernel_rfl) (by kernel_rfl) ?_ ?_)
                        · refine R.go 2 (R.any1 12 (by kernel_rfl) (by kernel_rfl) ?_)
                          refine R.callX (CallX.inF 8 usC frC (CallX.box 8 26 [AI 0, .nil] (pickX_c_r9b c p1_54 h1_55 [(-1), ((shl64 1 n_1) - 1) + 1] eo1 so1 no1 co1 eo2 so2 no2 co2 eo3 so3 no3 co3 eo4 so4 no4 co4 eo5 so5 no5 co5 eo6 so6 no6 co6 eo7 so7 no7 co7 26 2 1 [AI 0, .nil] 2 1 xs_2.length (rows eI xs_2) 26 n_1 hc (by simp)) (by kernel_rfl) (by kernel_rfl) (by kernel_rfl) (by kernel_rfl) (by rintro _ _ ⟨_, _, _, rfl, rfl⟩; exact ⟨by kernel_rfl, by kernel_rfl, by kernel_rfl⟩)) (Nat.le_of_ble_eq_true (by kernel_rfl)) (by kernel_rfl) (by kernel_rfl) (by rintro _ _ ⟨_, ⟨_, _, _, rfl, rfl⟩, rfl⟩; exact Nat.le_of_ble_eq_true (by kernel_rfl))) (by kernel_rfl) (by kernel_rfl) (by kernel_rfl) ?_
                          rintro _ _ ⟨_, _, ⟨_, ⟨v_69, p1_70, h1_71, rfl, rfl⟩, rfl⟩, rfl, rfl⟩
                          refine R.go 1 (R.any1 13 (by kernel_rfl) (by kernel_rfl) ?_)
                          refine R.idxO 10 1 xs_2.length ((v_53).toNat) v_53 (by kernel_rfl) (by omega) (by omega) (by kernel_rfl) ?_
                          refine R.go 1 (R.any1 14 (by kernel_rfl) (by kernel_rfl) ?_)
                          refine R.stI 10 2 xs_2 ((v_53).toNat) v_69 (by kernel_rfl) (by omega) (by kernel_rfl) ?_
                          refine R.go 1 (R.any0 (by kernel_rfl) ?_)
                          exact R.metF (v_53, p1_54, h1_55, v_69, p1_70, h1_71) (by kernel_rfl) (by first | assumption | omega) (by kernel_rfl)
                        · refine R.callX (CallX.inF 8 usC frC (CallX.box 8 26 [AI 0, .nil] (pickX_c_r9b c p1_54 h1_55 [(-1), ((shl64 1 n_1) - 1) + 1] eo1 so1 no1 co1 eo2 so2 no2 co2 eo3 so3 no3 co3 eo4 so4 no4 co4 eo5 so5 no5 co5 eo6 so6 no6 co6 eo7 so7 no7 co7 26 2 1 [AI 0, .nil] 2 1 xs_2.length (rows eI xs_2) 26 n_1 hc (by simp)) (by kernel_rfl) (by kernel_rfl) (by kernel_rfl) (by kernel_rfl) (by rintro _ _ ⟨_, _, _, rfl, rfl⟩; exact ⟨by kernel_rfl, by kernel_rfl, by kernel_rfl⟩)) (Nat.le_of_ble_eq_true (by kernel_rfl)) (by kernel_rfl) (by kernel_rfl) (by rintro _ _ ⟨_, ⟨_, _, _, rfl, rfl⟩, rfl⟩; exact Nat.le_of_ble_eq_true (by kernel_rfl))) (by kernel_rfl) (by kernel_rfl) (by kernel_rfl) ?_
                          rintro _ _ ⟨_, _, ⟨_, ⟨v_72, p1_73, h1_74, rfl, rfl⟩, rfl⟩, rfl, rfl⟩
                          refine R.go 1 (R.any1 1 (by kernel_rfl) (by kernel_rfl) ?_)
                          refine R.go 2 (R.any1 13 (by kernel_rfl) (by kernel_rfl) ?_)
                          refine R.idxO 10 1 xs_2.length ((v_53).toNat) v_53 (by kernel_rfl) (by omega) (by omega) (by kernel_rfl) ?_
                          refine R.go 1 (R.any1 14 (by kernel_rfl) (by kernel_rfl) ?_)
                          refine R.stI 10 2 xs_2 ((v_53).toNat) v_72 (by kernel_rfl) (by omega) (by kernel_rfl) ?_
                          refine R.go 1 (R.any0 (by kernel_rfl) ?_)
                          exact R.metF (v_53, p1_54, h1_55, v_72, p1_73, h1_74) (by kernel_rfl) (by first | assumption | omega) (by kernel_rfl)
              · refine R.go 2 (R.any2 1 5 (by kernel_rfl) (by kernel_rfl) ?_ ?_)
                · refine R.go 2 (R.any1 5 (by kernel_rfl) (by kernel_rfl) ?_)
                  refine R.callX (CallX.inF 8 usC frC (CallX.box 8 26 [AI 0, .nil] (nextX_c_r9b c p1_8 h1_9 n_1 eo1 so1 no1 co1 eo2 so2 no2 co2 eo3 so3 no3 co3 eo4 so4 no4 co4 eo5 so5 no5 co5 eo6 so6 no6 co6 eo7 so7 no7 co7 26 2 1 [AI 0, .nil] 2 1 xs_2.length (rows eI xs_2) 26 n_1 hc) (by kernel_rfl) (by kernel_rfl) (by kernel_rfl) (by kernel_rfl) (by rintro _ _ ⟨_, _, _, _, rfl, rfl⟩; exact ⟨by kernel_rfl, by kernel_rfl, by kernel_rfl⟩)) (Nat.le_of_ble_eq_true (by kernel_rfl)) (by kernel_rfl) (by kernel_rfl) (by rintro _ _ ⟨_, ⟨_, _, _, _, rfl, rfl⟩, rfl⟩; exact Nat.le_of_ble_eq_true (by kernel_rfl))) (by kernel_rfl) (by kernel_rfl) (by kernel_rfl) ?_
                  rintro _ _ ⟨_, _, ⟨_, ⟨v_75, p1_76, h1_77, f78, rfl, rfl⟩, rfl⟩, rfl, rfl⟩
                  refine R.go 1 (R.any1 9 (by kernel_rfl) (by kernel_rfl) ?_)
                  refine R.call true (l01Full_c n_1 (by omega) (by omega)) (by kernel_rfl) rfl (by kernel_rfl) ?_
                  refine R.go 1 (R.any1 10 (by kernel_rfl) (by kernel_rfl) ?_)
                  refine R.ar (((shl64 1 n_1) - 1) + 1) (by kernel_rfl) (by omega) (by omega) (by kernel_rfl) ?_
                  refine R.go 1 (R.any1 11 (by kernel_rfl) (by kernel_rfl) ?_)
                  refine R.lit (s := 1) (n := 2) (cs := rows eI [(-1), ((shl64 1 n_1) - 1) + 1]) (by kernel_rfl) (by kernel_rfl) ?_
                  refine R.go 1 (R.any1 12 (by kernel_rfl) (by kernel_rfl) ?_)
                  refine R.callX (CallX.inF 8 usC frC (CallX.box 8 26 [AI 0, .nil] (pickX_c_r9b c p1_76 h1_77 [(-1), ((shl64 1 n_1) - 1) + 1] eo1 so1 no1 co1 eo2 so2 no2 co2 eo3 so3 no3 co3 eo4 so4 no4 co4 eo5 so5 no5 co5 eo6 so6 no6 co6 eo7 so7 no7 co7 26 2 1 [AI 0, .nil] 2 1 xs_2.length (rows eI xs_2) 26 n_1 hc (by simp)) (by kernel_rfl) (by kernel_rfl) (by kernel_rfl) (by kernel_rfl) (by rintro _ _ ⟨_, _, _, rfl, rfl⟩; exact ⟨by kernel_rfl, by kernel_rfl, by kernel_rfl⟩)) (Nat.le_of_ble_eq_true (by kernel_rfl)) (by kernel_rfl) (by kernel_rfl) (by rintro _ _ ⟨_, ⟨_, _, _, rfl, rfl⟩, rfl⟩; exact Nat.le_of_ble_eq_true (by kernel_rfl))) (by kernel_rfl) (by kernel_rfl) (by kernel_rfl) ?_
                  rintro _ _ ⟨_, _, ⟨_, ⟨v_79, p1_80, h1_81, rfl, rfl⟩, rfl⟩, rfl, rfl⟩
                  refine R.go 1 (R.any1 13 (by kernel_rfl) (by kernel_rfl) ?_)
                  refine R.idxO 10 1 xs_2.length ((v_75).toNat) v_75 (by kernel_rfl) (by omega) (by omega) (by kernel_rfl) ?_
                  refine R.go 1 (R.any1 14 (by kernel_rfl) (by kernel_rfl) ?_)
                  refine R.stI 10 2 xs_2 ((v_75).toNat) v_79 (by kernel_rfl) (by omega) (by kernel_rfl) ?_
                  refine R.go 1 (R.any0 (by kernel_rfl) ?_)
                  exact R.metF (v_75, p1_76, h1_77, v_79, p1_80, h1_81) (by kernel_rfl) (by first | assumption | omega) (by kernel_rfl)
                · refine R.callX (CallX.inF 8 usC frC (CallX.box 8 26 [AI 0, .nil] (nextX_c_r9b c p1_8 h1_9 n_1 eo1 so1 no1 co1 eo2 so2 no2 co2 eo3 so3 no3 co3 eo4 so4 no4 co4 eo5 so5 no5 co5 eo6 so6 no6 co6 eo7 so7 no7 co7 26 2 1 [AI 0, .nil] 2 1 xs_2.length (rows eI xs_2) 26 n_1 hc) (by kernel_rfl) (by kernel_rfl) (by kernel_rfl) (by kernel_rfl) (by rintro _ _ ⟨_, _, _, _, rfl, rfl⟩; exact ⟨by kernel_rfl, by kernel_rfl, by kernel_rfl⟩)) (Nat.le_of_ble_eq_true (by kernel_rfl)) (by kernel_rfl) (by kernel_rfl) (by rintro _ _ ⟨_, ⟨_, _, _, _, rfl, rfl⟩, rfl⟩; exact Nat.le_of_ble_eq_true (by kernel_rfl))) (by kernel_rfl) (by kernel_rfl) (by kernel_rfl) ?_
                  rintro _ _ ⟨_, _, ⟨_, ⟨v_82, p1_83, h1_84, f85, rfl, rfl⟩, rfl⟩, rfl, rfl⟩
                  refine R.go 1 (R.any2 1 9 (by kernel_rfl) (by kernel_rfl) ?_ ?_)
                  · refine R.go 2 (R.any1 9 (by kernel_rfl) (by kernel_rfl) ?_)
                    refine R.call true (l01Full_c n_1 (by omega) (by omega)) (by kernel_rfl) rfl (by kernel_rfl) ?_
                    refine R.go 1 (R.any1 10 (by kernel_rfl) (by kernel_rfl) ?_)
                    refine R.ar (((shl64 1 n_1) - 1) + 1) (by kernel_rfl) (by omega) (by omega) (by kernel_rfl) ?_
                    refine R.go 1 (R.any1 11 (by kernel_rfl) (by kernel_rfl) ?_)
                    refine R.lit (s := 1) (n := 2) (cs := rows eI [(-1), ((shl64 1 n_1) - 1) + 1]) (by kernel_rfl) (by kernel_rfl) ?_
                    refine R.go 1 (R.any1 12 (by kernel_rfl) (by kernel_rfl) ?_)
                    refine R.callX (CallX.inF 8 usC frC (CallX.box 8 26 [AI 0, .nil] (pickX_c_r9b c p1_83 h1_84 [(-1), ((shl64 1 n_1) - 1) + 1] eo1 so1 no1 co1 eo2 so2 no2 co2 eo3 so3 no3 co3 eo4 so4 no4 co4 eo5 so5 no5 co5 eo6 so6 no6 co6 eo7 so7 no7 co7 26 2 1 [AI 0, .nil] 2 1 xs_2.length (rows eI xs_2) 26 n_1 hc (by simp)) (by kernel_rfl) (by kernel_rfl) (by kernel_rfl) (by kernel_rfl) (by rintro _ _ ⟨_, _, _, rfl, rfl⟩; exact ⟨by kernel_rfl, by kernel_rfl, by kernel_rfl⟩)) (Nat.le_of_ble_eq_true (by kernel_rfl)) (by kernel_rfl) (by kernel_rfl) (by rintro _ _ ⟨_, ⟨_, _, _, rfl, rfl⟩, rfl⟩; exact Nat.le_of_ble_eq_true (by kernel_rfl))) (by kernel_rfl) (by kernel_rfl) (by kernel_rfl) ?_
                    rintro _ _ ⟨_, _, ⟨_, ⟨v_86, p1_87, h1_88, rfl, rfl⟩, rfl⟩, rfl, rfl⟩
                    refine R.go 1 (R.any1 13 (by kernel_rfl) (by kernel_rfl) ?_)
                    refine R.idxO 10 1 xs_2.length ((v_82).toNat) v_82 (by kernel_rfl) (by omega) (by omega) (by kernel_rfl) ?_
                    refine R.go 1 (R.any1 14 (by kernel_rfl) (by kernel_rfl) ?_)
                    refine R.stI 10 2 xs_2 ((v_82).toNat) v_86 (by kernel_rfl) (by omega) (by kernel_rfl) ?_
                    refine R.go 1 (R.any0 (by kernel_rfl) ?_)
                    exact R.metF (v_82, p1_83, h1_84, v_86, p1_87, h1_88) (by kernel_rfl) (by first | assumption | omega) (by kernel_rfl)
                  · refine R.call true (l01Full_c n_1 (by omega) (by omega)) (by kernel_rfl) rfl (by kernel_rfl) ?_
                    refine R.go 1 (R.any2 1 10 (by kernel_rfl) (by kernel_rfl) ?_ ?_)
                    · refine R.go 2 (R.any1 10 (by kernel_rfl) (by kernel_rfl) ?_)
                      refine R.ar (((shl64 1 n_1) - 1) + 1) (by kernel_rfl) (by omega) (by omega) (by kernel_rfl) ?_
                      refine R.go 1 (R.any1 11 (by kernel_rfl) (by kernel_rfl) ?_)
                      refine R.lit (s := 1) (n := 2) (cs := rows eI [(-1), ((shl64 1 n_1) - 1) + 1]) (by kernel_rfl) (by kernel_rfl) ?_
                      refine R.go 1 (R.any1 12 (by kernel_rfl) (by kernel_rfl) ?_)
                      refine R.callX (CallX.inF 8 usC frC (CallX.box 8 26 [AI 0, .nil] (pickX_c_r9b c p1_83 h1_84 [(-1), ((shl64 1 n_1) - 1) + 1] eo1 so1 no1 co1 eo2 so2 no2 co2 eo3 so3 no3 co3 eo4 so4 no4 co4 eo5 so5 no5 co5 eo6 so6 no6 co6 eo7 so7 no7 co7 26 2 1 [AI 0, .nil] 2 1 xs_2.length (rows eI xs_2) 26 n_1 hc (by simp)) (by kernel_rfl) (by kernel_rfl) (by kernel_rfl) (by kernel_rfl) (by rintro _ _ ⟨_, _, _, rfl, rfl⟩; exact ⟨by kernel_rfl, by kernel_rfl, by kernel_rfl⟩)) (Nat.le_of_ble_eq_true (by kernel_rfl)) (by kernel_rfl) (by kernel_rfl) (by rintro _ _ ⟨_, ⟨_, _, _, rfl, rfl⟩, rfl⟩; exact Nat.le_of_ble_eq_true (by kernel_rfl))) (by kernel_rfl) (by kernel_rfl) (by kernel_rfl) ?_
                      rintro _ _ ⟨_, _, ⟨_, ⟨v_89, p1_90, h1_91, rfl, rfl⟩, rfl⟩, rfl, rfl⟩
                      refine R.go 1 (R.any1 13 (by kernel_rfl) (by kernel_rfl) ?_)
                      refine R.idxO 10 1 xs_2.length ((v_82).toNat) v_82 (by kernel_rfl) (by omega) (by omega) (by kernel_rfl) ?_
                      refine R.go 1 (R.any1 14 (by kernel_rfl) (by kernel_rfl) ?_)
                      refine R.stI 10 2 xs_2 ((v_82).toNat) v_89 (by kernel_rfl) (by omega) (by kernel_rfl) ?_
                      refine R.go 1 (R.any0 (by kernel_rfl) ?_)
                      exact R.metF (v_82, p1_83, h1_84, v_89, p1_90, h1_91) (by kernel_rfl) (by first | assumption | omega) (by kernel_rfl)
                    · refine R.ar (((shl64 1 n_1) - 1) + 1) (by kernel_rfl) (by omega) (by omega) (by kernel_rfl) ?_
                      refine R.go 1 (R.any2 1 11 (by kernel_rfl) (by kernel_rfl) ?_ ?_)
                      · refine R.go 2 (R.any1 11 (by kernel_rfl) (by kernel_rfl) ?_)
                        refine R.lit (s := 1) (n := 2) (cs := rows eI [(-1), ((shl64 1 n_1) - 1) + 1]) (by kernel_rfl) (by kernel_rfl) ?_
                        refine R.go 1 (R.any1 12 (by kernel_rfl) (by kernel_rfl) ?_)
                        refine R.callX (CallX.inF 8 usC frC (CallX.box 8 26 [AI 0, .nil] (pickX_c_r9b c p1_83 h1_84 [(-1), ((shl64 1 n_1) - 1) + 1] eo1 so1 no1 co1 eo2 so2 no2 co2 eo3 so3 no3 co3 eo4 so4 no4 co4 eo5 so5 no5 co5 eo6 so6 no6 co6 eo7 so7 no7 co7 26 2 1 [AI 0, .nil] 2 1 xs_2.length (rows eI xs_2) 26 n_1 hc (by simp)) (by kernel_rfl) (by kernel_rfl) (by kernel_rfl) (by kernel_rfl) (by rintro _ _ ⟨_, _, _, rfl, rfl⟩; exact ⟨by kernel_rfl, by kernel_rfl, by kernel_rfl⟩)) (Nat.le_of_ble_eq_true (by kernel_rfl)) (by kernel_rfl) (by kernel_rfl) (by rintro _ _ ⟨_, ⟨_, _, _, rfl, rfl⟩, rfl⟩; exact Nat.le_of_ble_eq_true (by kernel_rfl))) (by kernel_rfl) (by kernel_rfl) (by kernel_rfl) ?_
                        rintro _ _ ⟨_, _, ⟨_, ⟨v_92, p1_93, h1_94, rfl, rfl⟩, rfl⟩, rfl, rfl⟩
                        refine R.go 1 (R.any1 13 (by kernel_rfl) (by kernel_rfl) ?_)
                        refine R.idxO 10 1 xs_2.length ((v_82).toNat) v_82 (by kernel_rfl) (by omega) (by omega) (by kernel_rfl) ?_
                        refine R.go 1 (R.any1 14 (by kernel_rfl) (by kernel_rfl) ?_)
                        refine R.stI 10 2 xs_2 ((v_82).toNat) v_92 (by kernel_rfl) (by omega) (by kernel_rfl) ?_
                        refine R.go 1 (R.any0 (by kernel_rfl) ?_)
                        exact R.metF (v_82, p1_83, h1_84, v_92, p1_93, h1_94) (by kernel_rfl) (by first | assumption | omega) (by kernel_rfl)
                      · refine R.lit (s := 1) (n := 2) (cs := rows eI [(-1), ((shl64 1 n_1) - 1) + 1]) (by kernel_rfl) (by kernel_rfl) ?_
                        refine R.go 1 (R.any2 1 12 (by kernel_rfl) (by kernel_rfl) ?_ ?_)
                        · refine R.go 2 (R.any1 12 (by kernel_rfl) (by kernel_rfl) ?_)
                          refine R.callX (CallX.inF 8 usC frC (CallX.box 8 26 [AI 0, .nil] (pickX_c_r9b c p1_83 h1_84 [(-1), ((shl64 1 n_1) - 1) + 1] eo1 so1 no1 co1 eo2 so2 no2 co2 eo3 so3 no3 co3 eo4 so4 no4 co4 eo5 so5 no5 co5 eo6 so6 no6 co6 eo7 so7 no7 co7 26 2 1 [AI 0, .nil] 2 1 xs_2.length (rows eI xs_2) 26 n_1 hc (by simp)) (by kernel_rfl) (by kernel_rfl) (by kernel_rfl) (by kernel_rfl) (by rintro _ _ ⟨_, _, _, rfl, rfl⟩; exact ⟨by kernel_rfl, by kernel_rfl, by kernel_rfl⟩)) (Nat.le_of_ble_eq_true (by kernel_rfl)) (by kernel_rfl) (by kernel_rfl) (by rintro _ _ ⟨_, ⟨_, _, _, rfl, rfl⟩, rfl⟩; exact Nat.le_of_ble_eq_true (by kernel_rfl))) (by kernel_rfl) (by kernel_rfl) (by kernel_rfl) ?_
                          rintro _ _ ⟨_, _, ⟨_, ⟨v_95, p1_96, h1_97, rfl, rfl⟩, rfl⟩, rfl, rfl⟩
                          refine R.go 1 (R.any1 13 (by kernel_rfl) (by kernel_rfl) ?_)
                          refine R.idxO 10 1 xs_2.length ((v_82).toNat) v_82 (by kernel_rfl) (by omega) (by omega) (by kernel_rfl) ?_
                          refine R.go 1 (R.any1 14 (by kernel_rfl) (by kernel_rfl) ?_)
                          refine R.stI 10 2 xs_2 ((v_82).toNat) v_95 (by kernel_rfl) (by omega) (by kernel_rfl) ?_
                          refine R.go 1 (R.any0 (by kernel_rfl) ?_)
                          exact R.metF (v_82, p1_83, h1_84, v_95, p1_96, h1_97) (by kernel_rfl) (by first | assumption | omega) (by kernel_rfl)
                        · refine R.callX (CallX.inF 8 usC frC (CallX.box 8 26 [AI 0, .nil] (pickX_c_r9b c p1_83 h1_84 [(-1), ((shl64 1 n_1) - 1) + 1] eo1 so1 no1 co1 eo2 so2 no2 co2 eo3 so3 no3 co3 eo4 so4 no4 co4 eo5 so5 no5 co5 eo6 so6 no6 co6 eo7 so7 no7 co7 26 2 1 [AI 0, .nil] 2 1 xs_2.length (rows eI xs_2) 26 n_1 hc (by simp)) (by kernel_rfl) (by kernel_rfl) (by kernel_rfl) (by kernel_rfl) (by rintro _ _ ⟨_, _, _, rfl, rfl⟩; exact ⟨by kernel_rfl, by kernel_rfl, by kernel_rfl⟩)) (Nat.le_of_ble_eq_true (by kernel_rfl)) (by kernel_rfl) (by kernel_rfl) (by rintro _ _ ⟨_, ⟨_, _, _, rfl, rfl⟩, rfl⟩; exact Nat.le_of_ble_eq_true (by kernel_rfl))) (by kernel_rfl) (by kernel_rfl) (by kernel_rfl) ?_
                          rintro _ _ ⟨_, _, ⟨_, ⟨v_98, p1_99, h1_100, rfl, rfl⟩, rfl⟩, rfl, rfl⟩
                          refine R.go 1 (R.any1 1 (by kernel_rfl) (by kernel_rfl) ?_)
                          refine R.go 2 (R.any1 13 (by kernel_rfl) (by kernel_rfl) ?_)
                          refine R.idxO 10 1 xs_2.length ((v_82).toNat) v_82 (by kernel_rfl) (by omega) (by omega) (by kernel_rfl) ?_
                          refine R.go 1 (R.any1 14 (by kernel_rfl) (by kernel_rfl) ?_)
                          refine R.stI 10 2 xs_2 ((v_82).toNat) v_98 (by kernel_rfl) (by omega) (by kernel_rfl) ?_
                          refine R.go 1 (R.any0 (by kernel_rfl) ?_)
                          exact R.metF (v_82, p1_83, h1_84, v_98, p1_99, h1_100) (by kernel_rfl) (by first | assumption | omega) (by kernel_rfl)
            · refine R.go 2 (R.any2 1 4 (by kernel_rfl) (by kernel_rfl) ?_ ?_)
              · refine R.go 2 (R.any1 4 (by kernel_rfl) (by kernel_rfl) ?_)
                refine R.go 2 (R.any1 5 (by kernel_rfl) (by kernel_rfl) ?_)
                refine R.callX (CallX.inF 8 usC frC (CallX.box 8 26 [AI 0, .nil] (nextX_c_r9b c p1_8 h1_9 n_1 eo1 so1 no1 co1 eo2 so2 no2 co2 eo3 so3 no3 co3 eo4 so4 no4 co4 eo5 so5 no5 co5 eo6 so6 no6 co6 eo7 so7 no7 co7 26 2 1 [AI 0, .nil] 2 1 xs_2.length (rows eI xs_2) 26 n_1 hc) (by kernel_rfl) (by kernel_rfl) (by kernel_rfl) (by kernel_rfl) (by rintro _ _ ⟨_, _, _, _, rfl, rfl⟩; exact ⟨by kernel_rfl, by kernel_rfl, by kernel_rfl⟩)) (Nat.le_of_ble_eq_true (by kernel_rfl)) (by kernel_rfl) (by kernel_rfl) (by rintro _ _ ⟨_, ⟨_, _, _, _, rfl, rfl⟩, rfl⟩; exact Nat.le_of_ble_eq_true (by kernel_rfl))) (by kernel_rfl) (by kernel_rfl) (by kernel_rfl) ?_
                rintro _ _ ⟨_, _, ⟨_, ⟨v_101, p1_102, h1_103, f104, rfl, rfl⟩, rfl⟩, rfl, rfl⟩
                refine R.go 1 (R.any1 9 (by kernel_rfl) (by kernel_rfl) ?_)
                refine R.call true (l01Full_c n_1 (by omega) (by omega)) (by kernel_rfl) rfl (by kernel_rfl) ?_
                refine R.go 1 (R.any1 10 (by kernel_rfl) (by kernel_rfl) ?_)
                refine R.ar (((shl64 1 n_1) - 1) + 1) (by kernel_rfl) (by omega) (by omega) (by kernel_rfl) ?_
                refine R.go 1 (R.any1 11 (by kernel_rfl) (by kernel_rfl) ?_)
                refine R.lit (s := 1) (n := 2) (cs := rows eI [(-1), ((shl64 1 n_1) - 1) + 1]) (by kernel_rfl) (by kernel_rfl) ?_
                refine R.go 1 (R.any1 12 (by kernel_rfl) (by kernel_rfl) ?_)
                refine R.callX (CallX.inF 8 usC frC (CallX.box 8 26 [AI 0, .nil] (pickX_c_r9b c p1_102 h1_103 [(-1), ((shl64 1 n_1) - 1) + 1] eo1 so1 no1 co1 eo2 so2 no2 co2 eo3 so3 no3 co3 eo4 so4 no4 co4 eo5 so5 no5 co5 eo6 so6 no6 co6 eo7 so7 no7 co7 26 2 1 [AI 0, .nil] 2 1 xs_2.length (rows eI xs_2) 26 n_1 hc (by simp)) (by kernel_rfl) (by kernel_rfl) (by kernel_rfl) (by kernel_rfl) (by rintro _ _ ⟨_, _, _, rfl, rfl⟩; exact ⟨by kernel_rfl, by kernel_rfl, by kernel_rfl⟩)) (Nat.le_of_ble_eq_true (by kernel_rfl)) (by kernel_rfl) (by kernel_rfl) (by rintro _ _ ⟨_, ⟨_, _, _, rfl, rfl⟩, rfl⟩; exact Nat.le_of_ble_eq_true (by kernel_rfl))) (by kernel_rfl) (by kernel_rfl) (by kernel_rfl) ?_
                rintro _ _ ⟨_, _, ⟨_, ⟨v_105, p1_106, h1_107, rfl, rfl⟩, rfl⟩, rfl, rfl⟩
                refine R.go 1 (R.any1 13 (by kernel_rfl) (by kernel_rfl) ?_)
                refine R.idxO 10 1 xs_2.length ((v_101).toNat) v_101 (by kernel_rfl) (by omega) (by omega) (by kernel_rfl) ?_
                refine R.go 1 (R.any1 14 (by kernel_rfl) (by kernel_rfl) ?_)
                refine R.stI 10 2 xs_2 ((v_101).toNat) v_105 (by kernel_rfl) (by omega) (by kernel_rfl) ?_
                refine R.go 1 (R.any0 (by kernel_rfl) ?_)
                exact R.metF (v_101, p1_102, h1_103, v_105, p1_106, h1_107) (by kernel_rfl) (by first | assumption | omega) (by kernel_rfl)
              · refine R.go 2 (R.any2 1 5 (by kernel_rfl) (by kernel_rfl) ?_ ?_)
                · refine R.go 2 (R.any1 5 (by kernel_rfl) (by kernel_rfl) ?_)
                  refine R.callX (CallX.inF 8 usC frC (CallX.box 8 26 [AI 0, .nil] (nextX_c_r9b c p1_8 h1_9 n_1 eo1 so1 no1 co1 eo2 so2 no2 co2 eo3 so3 no3 co3 eo4 so4 no4 co4 eo5 so5 no5 co5 eo6 so6 no6 co6 eo7 so7 no7 co7 26 2 1 [AI 0, .nil] 2 1 xs_2.length (rows eI xs_2) 26 n_1 hc) (by kernel_rfl) (by kernel_rfl) (by kernel_rfl) (by kernel_rfl) (by rintro _ _ ⟨_, _, _, _, rfl, rfl⟩; exact ⟨by kernel_rfl, by kernel_rfl, by kernel_rfl⟩)) (Nat.le_of_ble_eq_true (by kernel_rfl)) (by kernel_rfl) (by kernel_rfl) (by rintro _ _ ⟨_, ⟨_, _, _, _, rfl, rfl⟩, rfl⟩; exact Nat.le_of_ble_eq_true (by kernel_rfl))) (by kernel_rfl) (by kernel_rfl) (by kernel_rfl) ?_
                  rintro _ _ ⟨_, _, ⟨_, ⟨v_108, p1_109, h1_110, f111, rfl, rfl⟩, rfl⟩, rfl, rfl⟩
                  refine R.go 1 (R.any1 9 (by kernel_rfl) (by kernel_rfl) ?_)
                  refine R.call true (l01Full_c n_1 (by omega) (by omega)) (by kernel_rfl) rfl (by kernel_rfl) ?_
                  refine R.go 1 (R.any1 10 (by kernel_rfl) (by kernel_rfl) ?_)
                  refine R.ar (((shl64 1 n_1) - 1) + 1) (by kernel_rfl) (by omega) (by omega) (by kernel_rfl) ?_
                  refine R.go 1 (R.any1 11 (by kernel_rfl) (by kernel_rfl) ?_)
                  refine R.lit (s := 1) (n := 2) (cs := rows eI [(-1), ((shl64 1 n_1) - 1) + 1]) (by kernel_rfl) (by kernel_rfl) ?_
                  refine R.go 1 (R.any1 12 (by kernel_rfl) (by kernel_rfl) ?_)
                  refine R.callX (CallX.inF 8 usC frC (CallX.box 8 26 [AI 0, .nil] (pickX_c_r9b c p1_109 h1_110 [(-1), ((shl64 1 n_1) - 1) + 1] eo1 so1 no1 co1 eo2 so2 no2 co2 eo3 so3 no3 co3 eo4 so4 no4 co4 eo5 so5 no5 co5 eo6 so6 no6 co6 eo7 so7 no7 co7 26 2 1 [AI 0, .nil] 2 1 xs_2.length (rows eI xs_2) 26 n_1 hc (by simp)) (by kernel_rfl) (by kernel_rfl) (by kernel_rfl) (by kernel_rfl) (by rintro _ _ ⟨_, _, _, rfl, rfl⟩; exact ⟨by kernel_rfl, by kernel_rfl, by kernel_rfl⟩)) (Nat.le_of_ble_eq_true (by kernel_rfl)) (by kernel_rfl) (by kernel_rfl) (by rintro _ _ ⟨_, ⟨_, _, _, rfl, rfl⟩, rfl⟩; exact Nat.le_of_ble_eq_true (by kernel_rfl))) (by kernel_rfl) (by kernel_rfl) (by kernel_rfl) ?_
                  rintro _ _ ⟨_, _, ⟨_, ⟨v_112, p1_113, h1_114, rfl, rfl⟩, rfl⟩, rfl, rfl⟩
                  refine R.go 1 (R.any1 13 (by kernel_rfl) (by kernel_rfl) ?_)
                  refine R.idxO 10 1 xs_2.length ((v_108).toNat) v_108 (by kernel_rfl) (by omega) (by omega) (by kernel_rfl) ?_
                  refine R.go 1 (R.any1 14 (by kernel_rfl) (by kernel_rfl) ?_)
                  refine R.stI 10 2 xs_2 ((v_108).toNat) v_112 (by kernel_rfl) (by omega) (by kernel_rfl) ?_
                  refine R.go 1 (R.any0 (by kernel_rfl) ?_)
                  exact R.metF (v_108, p1_109, h1_110, v_112, p1_113, h1_114) (by kernel_rfl) (by first | assumption | omega) (by kernel_rfl)
                · refine R.callX (CallX.inF 8 usC frC (CallX.box 8 26 [AI 0, .nil] (nextX_c_r9b c p1_8 h1_9 n_1 eo1 so1 no1 co1 eo2 so2 no2 co2 eo3 so3 no3 co3 eo4 so4 no4 co4 eo5 so5 no5 co5 eo6 so6 no6 co6 eo7 so7 no7 co7 26 2 1 [AI 0, .nil] 2 1 xs_2.length (rows eI xs_2) 26 n_1 hc) (by kernel_rfl) (by kernel_rfl) (by kernel_rfl) (by kernel_rfl) (by rintro _ _ ⟨_, _, _, _, rfl, rfl⟩; exact ⟨by kernel_rfl, by kernel_rfl, by kernel_rfl⟩)) (Nat.le_of_ble_eq_true (by kernel_rfl)) (by kernel_rfl) (by kernel_rfl) (by rintro _ _ ⟨_, ⟨_, _, _, _, rfl, rfl⟩, rfl⟩; exact Nat.le_of_ble_eq_true (by kernel_rfl))) (by kernel_rfl) (by kernel_rfl) (by kernel_rfl) ?_
                  rintro _ _ ⟨_, _, ⟨_, ⟨v_115, p1_116, h1_117, f118, rfl, rfl⟩, rfl⟩, rfl, rfl⟩
                  refine R.go 1 (R.any2 1 9 (by kernel_rfl) (by kernel_rfl) ?_ ?_)
                  · refine R.go 2 (R.any1 9 (by kernel_rfl) (by kernel_rfl) ?_)
                    refine R.call true (l01Full_c n_1 (by omega) (by omega)) (by kernel_rfl) rfl (by kernel_rfl) ?_
                    refine R.go 1 (R.any1 10 (by kernel_rfl) (by kernel_rfl) ?_)
                    refine R.ar (((shl64 1 n_1) - 1) + 1) (by kernel_rfl) (by omega) (by omega) (by kernel_rfl) ?_
                    refine R.go 1 (R.any1 11 (by kernel_rfl) (by kernel_rfl) ?_)
                    refine R.lit (s := 1) (n := 2) (cs := rows eI [(-1), ((shl64 1 n_1) - 1) + 1]) (by kernel_rfl) (by kernel_rfl) ?_
                    refine R.go 1 (R.any1 12 (by kernel_rfl) (by kernel_rfl) ?_)
                    refine R.callX (CallX.inF 8 usC frC (CallX.box 8 26 [AI 0, .nil] (pickX_c_r9b c p1_116 h1_117 [(-1), ((shl64 1 n_1) - 1) + 1] eo1 so1 no1 co1 eo2 so2 no2 co2 eo3 so3 no3 co3 eo4 so4 no4 co4 eo5 so5 no5 co5 eo6 so6 no6 co6 eo7 so7 no7 co7 26 2 1 [AI 0, .nil] 2 1 xs_2.length (rows eI xs_2) 26 n_1 hc (by simp)) (by kernel_rfl) (by kernel_rfl) (by kernel_rfl) (by kernel_rfl) (by rintro _ _ ⟨_, _, _, rfl, rfl⟩; exact ⟨by kernel_rfl, by kernel_rfl, by kernel_rfl⟩)) (Nat.le_of_ble_eq_true (by kernel_rfl)) (by kernel_rfl) (by kernel_rfl) (by rintro _ _ ⟨_, ⟨_, _, _, rfl, rfl⟩, rfl⟩; exact Nat.le_of_ble_eq_true (by kernel_rfl))) (by kernel_rfl) (by kernel_rfl) (by kernel_rfl) ?_
                    rintro _ _ ⟨_, _, ⟨_, ⟨v_119, p1_120, h1_121, rfl, rfl⟩, rfl⟩, rfl, rfl⟩
                    refine R.go 1 (R.any1 13 (by kernel_rfl) (by kernel_rfl) ?_)
                    refine R.idxO 10 1 xs_2.length ((v_115).toNat) v_115 (by kernel_rfl) (by omega) (by omega) (by kernel_rfl) ?_
                    refine R.go 1 (R.any1 14 (by kernel_rfl) (by kernel_rfl) ?_)
                    refine R.stI 10 2 xs_2 ((v_115).toNat) v_119 (by kernel_rfl) (by omega) (by kernel_rfl) ?_
                    refine R.go 1 (R.any0 (by kernel_rfl) ?_)
                    exact R.metF (v_115, p1_116, h1_117, v_119, p1_120, h1_121) (by kernel_rfl) (by first | assumption | omega) (by kernel_rfl)
                  · refine R.call true (l01Full_c n_1 (by omega) (by omega)) (by kernel_rfl) rfl (by kernel_rfl) ?_
                    refine R.go 1 (R.any2 1 10 (by kernel_rfl) (by kernel_rfl) ?_ ?_)
                    · refine R.go 2 (R.any1 10 (by kernel_rfl) (by kernel_rfl) ?_)
                      refine R.ar (((shl64 1 n_1) - 1) + 1) (by kernel_rfl) (by omega) (by omega) (by kernel_rfl) ?_
                      refine R.go 1 (R.any1 11 (by kernel_rfl) (by kernel_rfl) ?_)
                      refine R.lit (s := 1) (n := 2) (cs := rows eI [(-1), ((shl64 1 n_1) - 1) + 1]) (by kernel_rfl) (by kernel_rfl) ?_
                      refine R.go 1 (R.any1 12 (by kernel_rfl) (by kernel_rfl) ?_)
                      refine R.callX (CallX.inF 8 usC frC (CallX.box 8 26 [AI 0, .nil] (pickX_c_r9b c p1_116 h1_117 [(-1), ((shl64 1 n_1) - 1) + 1] eo1 so1 no1 co1 eo2 so2 no2 co2 eo3 so3 no3 co3 eo4 so4 no4 co4 eo5 so5 no5 co5 eo6 so6 no6 co6 eo7 so7 no7 co7 26 2 1 [AI 0, .nil] 2 1 xs_2.length (rows eI xs_2) 26 n_1 hc (by simp)) (by kernel_rfl) (by kernel_rfl) (by kernel_rfl) (by kernel_rfl) (by rintro _ _ ⟨_, _, _, rfl, rfl⟩; exact ⟨by kernel_rfl, by kernel_rfl, by kernel_rfl⟩)) (Nat.le_of_ble_eq_true (by kernel_rfl)) (by kernel_rfl) (by kernel_rfl) (by rintro _ _ ⟨_, ⟨_, _, _, rfl, rfl⟩, rfl⟩; exact Nat.le_of_ble_eq_true (by kernel_rfl))) (by kernel_rfl) (by kernel_rfl) (by kernel_rfl) ?_
                      rintro _ _ ⟨_, _, ⟨_, ⟨v_122, p1_123, h1_124, rfl, rfl⟩, rfl⟩, rfl, rfl⟩
                      refine R.go 1 (R.any1 13 (by kernel_rfl) (by kernel_rfl) ?_)
                      refine R.idxO 10 1 xs_2.length ((v_115).toNat) v_115 (by kernel_rfl) (by omega) (by omega) (by kernel_rfl) ?_
                      refine R.go 1 (R.any1 14 (by kernel_rfl) (by kernel_rfl) ?_)
                      refine R.stI 10 2 xs_2 ((v_115).toNat) v_122 (by kernel_rfl) (by omega) (by kernel_rfl) ?_
                      refine R.go 1 (R.any0 (by kernel_rfl) ?_)
                      exact R.metF (v_115, p1_116, h1_117, v_122, p1_123, h1_124) (by kernel_rfl) (by first | assumption | omega) (by kernel_rfl)
                    · refine R.ar (((shl64 1 n_1) - 1) + 1) (by kernel_rfl) (by omega) (by omega) (by kernel_rfl) ?_
                      refine R.go 1 (R.any2 1 11 (by kernel_rfl) (by kernel_rfl) ?_ ?_)
                      · refine R.go 2 (R.any1 11 (by kernel_rfl) (by kernel_rfl) ?_)
                        refine R.lit (s := 1) (n := 2) (cs := rows eI [(-1), ((shl64 1 n_1) - 1) + 1]) (by kernel_rfl) (by kernel_rfl) ?_
                        refine R.go 1 (R.any1 12 (by kernel_rfl) (by kernel_rfl) ?_)
                        refine R.callX (CallX.inF 8 usC frC (CallX.box 8 26 [AI 0, .nil] (pickX_c_r9b c p1_116 h1_117 [(-1), ((shl64 1 n_1) - 1) + 1] eo1 so1 no1 co1 eo2 so2 no2 co2 eo3 so3 no3 co3 eo4 so4 no4 co4 eo5 so5 no5 co5 eo6 so6 no6 co6 eo7 so7 no7 co7 26 2 1 [AI 0, .nil] 2 1 xs_2.length (rows eI xs_2) 26 n_1 hc (by simp)) (by kernel_rfl) (by kernel_rfl) (by kernel_rfl) (by kernel_rfl) (by rintro _ _ ⟨_, _, _, rfl, rfl⟩; exact ⟨by kernel_rfl, by kernel_rfl, by kernel_rfl⟩)) (Nat.le_of_ble_eq_true (by kernel_rfl)) (by kernel_rfl) (by kernel_rfl) (by rintro _ _ ⟨_, ⟨_, _, _, rfl, rfl⟩, rfl⟩; exact Nat.le_of_ble_eq_true (by kernel_rfl))) (by kernel_rfl) (by kernel_rfl) (by kernel_rfl) ?_
                        rintro _ _ ⟨_, _, ⟨_, ⟨v_125, p1_126, h1_127, rfl, rfl⟩, rfl⟩, rfl, rfl⟩
                        refine R.go 1 (R.any1 13 (by kernel_rfl) (by kernel_rfl) ?_)
                        refine R.idxO 10 1 xs_2.length ((v_115).toNat) v_115 (by kernel_rfl) (by omega) (by omega) (by kernel_rfl) ?_
                        refine R.go 1 (R.any1 14 (by kernel_rfl) (by kernel_rfl) ?_)
                        refine R.stI 10 2 xs_2 ((v_115).toNat) v_125 (by kernel_rfl) (by omega) (by kernel_rfl) ?_
                        refine R.go 1 (R.any0 (by kernel_rfl) ?_)
                        exact R.metF (v_115, p1_116, h1_117, v_125, p1_126, h1_127) (by kernel_rfl) (by first | assumption | omega) (by kernel_rfl)
                      · refine R.lit (s := 1) (n := 2) (cs := rows eI [(-1), ((shl64 1 n_1) - 1) + 1]) (by kernel_rfl) (by kernel_rfl) ?_
                        refine R.go 1 (R.any2 1 12 (by kernel_rfl) (by kernel_rfl) ?_ ?_)
                        · refine R.go 2 (R.any1 12 (by kernel_rfl) (by kernel_rfl) ?_)
                          refine R.callX (CallX.inF 8 usC frC (CallX.box 8 26 [AI 0, .nil] (pickX_c_r9b c p1_116 h1_117 [(-1), ((shl64 1 n_1) - 1) + 1] eo1 so1 no1 co1 eo2 so2 no2 co2 eo3 so3 no3 co3 eo4 so4 no4 co4 eo5 so5 no5 co5 eo6 so6 no6 co6 eo7 so7 no7 co7 26 2 1 [AI 0, .nil] 2 1 xs_2.length (rows eI xs_2) 26 n_1 hc (by simp)) (by kernel_rfl) (by kernel_rfl) (by kernel_rfl) (by kernel_rfl) (by rintro _ _ ⟨_, _, _, rfl, rfl⟩; exact ⟨by kernel_rfl, by kernel_rfl, by kernel_rfl⟩)) (Nat.le_of_ble_eq_true (by kernel_rfl)) (by kernel_rfl) (by kernel_rfl) (by rintro _ _ ⟨_, ⟨_, _, _, rfl, rfl⟩, rfl⟩; exact Nat.le_of_ble_eq_true (by kernel_rfl))) (by kernel_rfl) (by kernel_rfl) (by kernel_rfl) ?_
                          rintro _ _ ⟨_, _, ⟨_, ⟨v_128, p1_129, h1_130, rfl, rfl⟩, rfl⟩, rfl, rfl⟩
                          refine R.go 1 (R.any1 13 (by kernel_rfl) (by kernel_rfl) ?_)
                          refine R.idxO 10 1 xs_2.length ((v_115).toNat) v_115 (by kernel_rfl) (by omega) (by omega) (by kernel_rfl) ?_
                          refine R.go 1 (R.any1 14 (by kernel_rfl) (by kernel_rfl) ?_)
                          refine R.stI 10 2 xs_2 ((v_115).toNat) v_128 (by kernel_rfl) (by omega) (by kernel_rfl) ?_
                          refine R.go 1 (R.any0 (by kernel_rfl) ?_)
                          exact R.metF (v_115, p1_116, h1_117, v_128, p1_129, h1_130) (by kernel_rfl) (by first | assumption | omega) (by kernel_rfl)
                        · refine R.callX (CallX.inF 8 usC frC (CallX.box 8 26 [AI 0, .nil] (pickX_c_r9b c p1_116 h1_117 [(-1), ((shl64 1 n_1) - 1) + 1] eo1 so1 no1 co1 eo2 so2 no2 co2 eo3 so3 no3 co3 eo4 so4 no4 co4 eo5 so5 no5 co5 eo6 so6 no6 co6 eo7 so7 no7 co7 26 2 1 [AI 0, .nil] 2 1 xs_2.length (rows eI xs_2) 26 n_1 hc (by simp)) (by kernel_rfl) (by kernel_rfl) (by kernel_rfl) (by kernel_rfl) (by rintro _ _ ⟨_, _, _, rfl, rfl⟩; exact ⟨by kernel_rfl, by kernel_rfl, by kernel_rfl⟩)) (Nat.le_of_ble_eq_true (by kernel_rfl)) (by kernel_rfl) (by kernel_rfl) (by rintro _ _ ⟨_, ⟨_, _, _, rfl, rfl⟩, rfl⟩; exact Nat.le_of_ble_eq_true (by kernel_rfl))) (by kernel_rfl) (by kernel_rfl) (by kernel_rfl) ?_
                          rintro _ _ ⟨_, _, ⟨_, ⟨v_131, p1_132, h1_133, rfl, rfl⟩, rfl⟩, rfl, rfl⟩
                          refine R.go 1 (R.any1 1 (by kernel_rfl) (by kernel_rfl) ?_)
                          refine R.go 2 (R.any1 13 (by kernel_rfl) (by kernel_rfl) ?_)
                          refine R.idxO 10 1 xs_2.length ((v_115).toNat) v_115 (by kernel_rfl) (by omega) (by omega) (by kernel_rfl) ?_
                          refine R.go 1 (R.any1 14 (by kernel_rfl) (by kernel_rfl) ?_)
                          refine R.stI 10 2 xs_2 ((v_115).toNat) v_131 (by kernel_rfl) (by omega) (by kernel_rfl) ?_
                          refine R.go 1 (R.any0 (by kernel_rfl) ?_)
                          exact R.metF (v_115, p1_116, h1_117, v_131, p1_132, h1_133) (by kernel_rfl) (by first | assumption | omega) (by kernel_rfl)
          · rintro ⟨v_18, p1_19, h1_20, v_22, p1_23, h1_24⟩ f21
            refine R.go 6 (R.frz 10 (by kernel_rfl) ?_)
            refine R.kfix 8 (us := usC) (by kernel_rfl) (hfC.frz 10 (LI (xs_2.set ((v_18).toNat) v_22)) (Nat.le_of_ble_eq_true (by kernel_rfl))) ?_
            exact R.retX (res := .agg [AI n_1, LI (xs_2.set ((v_18).toNat) v_22)]) (hp' := [.box 120 [LB c, AI (p1_23 : Int), .int .u64 h1_24], .list eo1 so1 no1 co1, .list eo2 so2 no2 co2, .list eo3 so3 no3 co3, .list eo4 so4 no4 co4, .list eo5 so5 no5 co5, .list eo6 so6 no6 co6, .list eo7 so7 no7 co7, .dead, .box 26 [AI n_1, LI (xs_2.set ((v_18).toNat) v_22)], .dead, .box 26 [AI n_1, LI (xs_2.set ((v_18).toNat) v_22)]]) (by kernel_rfl) (by kernel_rfl) (by kernel_rfl) (by kernel_rfl) ⟨[0, 1, 2, 3, 4, 5, 6, 7], by kernel_rfl, by decide, n_1, xs_2.set ((v_18).toNat) v_22, p1_23, h1_24, by first | omega | (simp; done) | (simp only [List.length_append, List.length_cons, List.length_nil, List.length_set]; omega), by kernel_rfl, by kernel_rfl⟩
        · refine R.go 7 (R.frz 10 (by kernel_rfl) ?_)
          refine R.kfix 8 (us := usC) (by kernel_rfl) (hfC.frz 10 (LI xs_2) (Nat.le_of_ble_eq_true (by kernel_rfl))) ?_
          exact R.retX (res := .agg [AI n_1, LI xs_2]) (hp' := [.box 120 [LB c, AI (p1_8 : Int), .int .u64 h1_9], .list eo1 so1 no1 co1, .list eo2 so2 no2 co2, .list eo3 so3 no3 co3, .list eo4 so4 no4 co4, .list eo5 so5 no5 co5, .list eo6 so6 no6 co6, .list eo7 so7 no7 co7, .dead, .box 26 [AI n_1, LI xs_2], .dead, .box 26 [AI n_1, LI xs_2]]) (by kernel_rfl) (by kernel_rfl) (by kernel_rfl) (by kernel_rfl) ⟨[0, 1, 2, 3, 4, 5, 6, 7], by kernel_rfl, by decide, n_1, xs_2, p1_8, h1_9, by first | omega | (simp; done) | (simp only [List.length_append, List.length_cons, List.length_nil, List.length_set]; omega), by kernel_rfl, by kernel_rfl⟩
      · refine R.go 7 (R.frz 10 (by kernel_rfl) ?_)
        refine R.kfix 8 (us := usC) (by kernel_rfl) (hfC.frz 10 (LI xs_2) (Nat.le_of_ble_eq_true (by kernel_rfl))) ?_
        exact R.retX (res := .agg [AI n_1, LI xs_2]) (hp' := [.box 120 [LB c, AI (p1_8 : Int), .int .u64 h1_9], .list eo1 so1 no1 co1, .list eo2 so2 no2 co2, .list eo3 so3 no3 co3, .list eo4 so4 no4 co4, .list eo5 so5 no5 co5, .list eo6 so6 no6 co6, .list eo7 so7 no7 co7, .dead, .box 26 [AI n_1, LI xs_2], .dead, .box 26 [AI n_1, LI xs_2]]) (by kernel_rfl) (by kernel_rfl) (by kernel_rfl) (by kernel_rfl) ⟨[0, 1, 2, 3, 4, 5, 6, 7], by kernel_rfl, by decide, n_1, xs_2, p1_8, h1_9, by first | omega | (simp; done) | (simp only [List.length_append, List.length_cons, List.length_nil, List.length_set]; omega), by kernel_rfl, by kernel_rfl⟩

theorem numX_c_r7 (c : List Int) (p : Nat) (h : Int) (n : Int) (eo1 : Nat) (so1 : Nat) (no1 : Nat) (co1 : List AV) (eo2 : Nat) (so2 : Nat) (no2 : Nat) (co2 : List AV) (eo3 : Nat) (so3 : Nat) (no3 : Nat) (co3 : List AV) (eo4 : Nat) (so4 : Nat) (no4 : Nat) (co4 : List AV) (eo5 : Nat) (so5 : Nat) (no5 : Nat) (co5 : List AV) (eo6 : Nat) (so6 : Nat) (no6 : Nat) (co6 : List AV) (eo7 : Nat) (so7 : Nat) (no7 : Nat) (co7 : List AV) (hc : BY c) : CallX Tryz.prog 63 [.ptr 0 0, AI n] [.box 120 [LB c, AI (p : Int), .int .u64 h], .list eo1 so1 no1 co1, .list eo2 so2 no2 co2, .list eo3 so3 no3 co3, .list eo4 so4 no4 co4, .list eo5 so5 no5 co5, .list eo6 so6 no6 co6, .list eo7 so7 no7 co7] (fun (resX : AV) (objX : List AObj) => ∃ v : Int, ∃ p1 : Nat, ∃ h1 : Int, resX = AI v ∧ objX = [.box 120 [LB c, AI (p1 : Int), .int .u64 h1], .list eo1 so1 no1 co1, .list eo2 so2 no2 co2, .list eo3 so3 no3 co3, .list eo4 so4 no4 co4, .list eo5 so5 no5 co5, .list eo6 so6 no6 co6, .list eo7 so7 no7 co7]) := by
  have hcl : c.length ≤ 4096 := hc.1
  have hcb := hc.2
  refine CallX.dropE (CallX.ofF Tryz.func63 rfl (by kernel_rfl) ?_)
  intro usC frC hfC
  refine R.go 8 (R.callX (CallX.inF 8 usC frC (nextX_c_r7 c p h 40 eo1 so1 no1 co1 eo2 so2 no2 co2 eo3 so3 no3 co3 eo4 so4 no4 co4 eo5 so5 no5 co5 eo6 so6 no6 co6 eo7 so7 no7 co7 hc) (Nat.le_of_ble_eq_true (by kernel_rfl)) (by kernel_rfl) (by kernel_rfl) (by rintro _ _ ⟨_, _, _, _, rfl, rfl⟩; exact Nat.le_of_ble_eq_true (by kernel_rfl))) (by kernel_rfl) (by kernel_rfl) (by kernel_rfl) ?_)
  rintro _ _ ⟨_, _, ⟨v_1, p1_2, h1_3, f4, rfl, rfl⟩, rfl, rfl⟩
  refine R.go 2 (R.cond (v_1 = 0) (by kernel_rfl) (fun c5 => ?_) (fun c5 => ?_))
  · refine R.go 4 (R.lit (s := 1) (n := 4) (cs := rows eI [(-1), n, 9223372036854775807, (-9223372036854775808)]) (by kernel_rfl) (by kernel_rfl) ?_)
    refine R.callX (CallX.inF 8 usC frC (pickX_c_r7 c p1_2 h1_3 [(-1), n, 9223372036854775807, (-9223372036854775808)] eo1 so1 no1 co1 eo2 so2 no2 co2 eo3 so3 no3 co3 eo4 so4 no4 co4 eo5 so5 no5 co5 eo6 so6 no6 co6 eo7 so7 no7 co7 hc (by simp)) (Nat.le_of_ble_eq_true (by kernel_rfl)) (by kernel_rfl) (by kernel_rfl) (by rintro _ _ ⟨_, _, _, rfl, rfl⟩; exact Nat.le_of_ble_eq_true (by kernel_rfl))) (by kernel_rfl) (by kernel_rfl) (by kernel_rfl) ?_
    rintro _ _ ⟨_, _, ⟨v_6, p1_7, h1_8, rfl, rfl⟩, rfl, rfl⟩
    exact R.go 2 (R.retX (res := AI v_6) (hp' := [.box 120 [LB c, AI (p1_7 : Int), .int .u64 h1_8], .list eo1 so1 no1 co1, .list eo2 so2 no2 co2, .list eo3 so3 no3 co3, .list eo4 so4 no4 co4, .list eo5 so5 no5 co5, .list eo6 so6 no6 co6, .list eo7 so7 no7 co7, .dead]) (by kernel_rfl) (by kernel_rfl) (by kernel_rfl) (by kernel_rfl) ⟨[0, 1, 2, 3, 4, 5, 6, 7], by kernel_rfl, by decide, v_6, p1_7, h1_8, by kernel_rfl, by kernel_rfl⟩)
  · refine R.go 5 (R.callX (CallX.inF 8 usC frC (nextX_c_r7 c p1_2 h1_3 n eo1 so1 no1 co1 eo2 so2 no2 co2 eo3 so3 no3 co3 eo4 so4 no4 co4 eo5 so5 no5 co5 eo6 so6 no6 co6 eo7 so7 no7 co7 hc) (Nat.le_of_ble_eq_true (by kernel_rfl)) (by kernel_rfl) (by kernel_rfl) (by rintro _ _ ⟨_, _, _, _, rfl, rfl⟩; exact Nat.le_of_ble_eq_true (by kernel_rfl))) (by kernel_rfl) (by kernel_rfl) (by kernel_rfl) ?_)
    rintro _ _ ⟨_, _, ⟨v_9, p1_10, h1_11, f12, rfl, rfl⟩, rfl, rfl⟩
    exact R.go 2 (R.retX (res := AI v_9) (hp' := [.box 120 [LB c, AI (p1_10 : Int), .int .u64 h1_11], .list eo1 so1 no1 co1, .list eo2 so2 no2 co2, .list eo3 so3 no3 co3, .list eo4 so4 no4 co4, .list eo5 so5 no5 co5, .list eo6 so6 no6 co6, .list eo7 so7 no7 co7, .dead]) (by kernel_rfl) (by kernel_rfl) (by kernel_rfl) (by kernel_rfl) ⟨[0, 1, 2, 3, 4, 5, 6, 7], by kernel_rfl, by decide, v_9, p1_10, h1_11, by kernel_rfl, by kernel_rfl⟩)

end Go.Proofs.YtgebepfdphmjcaaGreat
