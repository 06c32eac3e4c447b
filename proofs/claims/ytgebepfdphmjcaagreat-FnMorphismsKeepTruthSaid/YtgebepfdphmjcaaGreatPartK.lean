/- Texts of the proof: E03, DICE. -/
import Derived.Test.YtgebepfdphmjcaaGreatPartJ

/-! Draws of frames. -/
namespace Go.Proofs.YtgebepfdphmjcaaGreat
open Go.RowKit Go.Abs

def refI (xs : List Int) : Nat → List Int
  | 0 => []
  | i + 1 => refI xs i ++ [bor (xs.getD i 0) (shl64 1 (i : Int))]
theorem refI_len (xs : List Int) : ∀ i, (refI xs i).length = i
  | 0 => rfl
  | i + 1 => by simp [refI, refI_len xs i]

theorem l05Make_c (xs : List Int) (hl : xs.length ≤ 1000000000) : CallA Tryz.prog 144 [LI xs] (.agg [AI xs.length, ownA eI 2 1 xs]) := by
  refine CallA.of Tryz.func144 rfl (by kernel_rfl) ?_
  refine R.go 9 (R.call true (l01Own_c xs hl) (by kernel_rfl) rfl (by kernel_rfl) ?_)
  exact R.go 3 (R.retE (.agg [AI xs.length, ownA eI 2 1 xs]) (by kernel_rfl) (by kernel_rfl) (by rfl))

theorem l01Refl_c (xs : List Int) (hl : xs.length ≤ 60) : CallA Tryz.prog 194 [LI xs] (ownA eI 2 1 (refI xs xs.length)) := by
  refine CallA.of Tryz.func194 rfl (by kernel_rfl) ?_
  refine R.go 15 (R.loop ((fun | (i, ys) => (⟨(frm 23 [(0, LI xs), (3, .ref 0), (4, AI (i : Int))]), [rowA eI 2 1 ys]⟩ : St) : Nat × (List Int) → St)) (fun | (i, ys) => (i ≤ xs.length) ∧ (ys.length = i) ∧ (ys = refI xs i)) (fun | (i, ys) => xs.length - i) (0, []) [0, 3, 4] none (by kernel_rfl) (by kernel_rfl) (by kernel_rfl) ⟨(by omega), (by rfl), (by rfl)⟩ ?_)
  rintro ⟨i, ys⟩ ⟨h4_1, h4_2, h4_3⟩ R1 N2
  refine R.go 8 (R.cond ((i : Int) < (xs.length : Int)) (by kernel_rfl) (fun c5 => ?_) (fun c5 => ?_))
  · refine R.go 7 (R.idx eI xs 0 i (i : Int) (by kernel_rfl) rfl eI_len (by omega) (by kernel_rfl) ?_)
    refine R.go 2 (R.call true (l01One_c (i : Int) (by omega) (by omega)) (by kernel_rfl) rfl (by kernel_rfl) ?_)
    refine R.go 2 (R.app eI ys [bor (xs.getD i 0) (shl64 1 (i : Int))] 0 2 1 8 (by kernel_rfl) eI_one (by decide) (by first | omega | (simp <;> omega)) (by kernel_rfl) ?_)
    refine R.go 5 (R.ar ((i : Int) + 1) (by kernel_rfl) (by omega) (by omega) (by kernel_rfl) ?_)
    exact R.go 2 (R.stop R1 (by kernel_rfl) (N2 (i + 1, ys ++ [bor (xs.getD i 0) (shl64 1 (i : Int))]) [0, 3, 4] (some [0]) _ (by kernel_rfl) (by kernel_rfl) ⟨(by omega), (by (simp <;> omega)), (by rw [refI, ← ‹ys = refI xs i›])⟩ (by show (xs.length - (i + 1)) < (xs.length - i); omega)))
  · exact R.go 6 (R.retE (ownA eI 2 1 ys) (by kernel_rfl) (by kernel_rfl) (by first | (rw [‹ys = refI xs i›, show xs.length = i by omega]) | (exfalso; omega)))

theorem l01Clos_c (xs : List Int) (hl : xs.length ≤ 60) : CallA Tryz.prog 195 [LI xs] (ownA eI 2 1 (wout xs xs.length)) := by
  refine CallA.of Tryz.func195 rfl (by kernel_rfl) ?_
  refine R.go 7 (R.call true (l01Own_c xs (by first | omega | (simp <;> omega))) (by kernel_rfl) rfl (by kernel_rfl) ?_)
  refine R.go 8 (R.loop ((fun | (j, out) => (⟨(frm 39 [(3, .ref 0), (4, AI (j : Int))]), [rowA eI 2 1 out]⟩ : St) : Nat × (List Int) → St)) (fun | (j, out) => (j ≤ xs.length) ∧ (out = wout xs j)) (fun | (j, out) => xs.length - j) (0, xs) [3, 4] none (by kernel_rfl) (by kernel_rfl) (by kernel_rfl) ⟨(by omega), (by rfl)⟩ ?_)
  rintro ⟨j, out⟩ ⟨h4_1, h4_2⟩ R1 N2
  have hlen : out.length = xs.length := by rw [‹out = wout xs j›]; exact wout_len xs j
  refine R.go 8 (R.cond ((j : Int) < (out.length : Int)) (by kernel_rfl) (fun c5 => ?_) (fun c5 => ?_))
  · refine R.go 8 (R.loop ((fun | (i, o2) => (⟨(frm 39 [(3, .ref 0), (4, AI (j : Int)), (5, AI (i : Int))]), [rowA eI 2 1 o2]⟩ : St) : Nat × (List Int) → St)) (fun | (i, o2) => (i ≤ xs.length) ∧ (o2 = win out j i)) (fun | (i, o2) => xs.length - i) (0, out) [3, 4, 5] none (by kernel_rfl) (by kernel_rfl) (by kernel_rfl) ⟨(by omega), (by rfl)⟩ ?_)
    rintro ⟨i, o2⟩ ⟨h9_1, h9_2⟩ R6 N7
    have hlen2 : o2.length = xs.length := by rw [‹o2 = win out j i›, win_len]; exact hlen
    refine R.go 8 (R.cond ((i : Int) < (o2.length : Int)) (by kernel_rfl) (fun c10 => ?_) (fun c10 => ?_))
    · refine R.go 7 (R.idxO 0 1 o2.length i (i : Int) (by kernel_rfl) rfl (by omega) (by kernel_rfl) ?_)
      refine R.ldI o2 i (by kernel_rfl) (by omega) (by kernel_rfl) ?_
      refine R.go 1 (R.call true (l01Bit_c (o2.getD i 0) (j : Int) (by omega) (by omega)) (by kernel_rfl) rfl (by kernel_rfl) ?_)
      refine R.go 1 (R.cond (band (shr64 (o2.getD i 0) (j : Int)) 1 = 1) (by kernel_rfl) (fun c11 => ?_) (fun c11 => ?_))
      · refine R.go 5 (R.idxO 0 1 o2.length i (i : Int) (by kernel_rfl) rfl (by omega) (by kernel_rfl) ?_)
        refine R.ldI o2 i (by kernel_rfl) (by omega) (by kernel_rfl) ?_
        refine R.go 2 (R.idxO 0 1 o2.length j (j : Int) (by kernel_rfl) rfl (by omega) (by kernel_rfl) ?_)
        refine R.ldI o2 j (by kernel_rfl) (by omega) (by kernel_rfl) ?_
        refine R.go 1 (R.idxO 0 1 o2.length i (i : Int) (by kernel_rfl) rfl (by omega) (by kernel_rfl) ?_)
        refine R.stI 0 2 o2 i (bor (o2.getD i 0) (o2.getD j 0)) (by kernel_rfl) (by omega) (by kernel_rfl) ?_
        refine R.go 4 (R.ar ((i : Int) + 1) (by kernel_rfl) (by omega) (by omega) (by kernel_rfl) ?_)
        exact R.go 2 (R.stop R6 (by kernel_rfl) (N7 (i + 1, o2.set i (bor (o2.getD i 0) (o2.getD j 0))) [3, 4, 5] none _ (by kernel_rfl) (by kernel_rfl) ⟨(by omega), (by first | (rw [win, wrow, ← ‹o2 = win out j i›, if_pos ‹band (shr64 (o2.getD i 0) (j : Int)) 1 = 1›]) | (rw [win, wrow, ← ‹o2 = win out j i›, if_neg ‹¬ band (shr64 (o2.getD i 0) (j : Int)) 1 = 1›]))⟩ (by show (xs.length - (i + 1)) < (xs.length - i); omega)))
      · refine R.go 4 (R.ar ((i : Int) + 1) (by kernel_rfl) (by omega) (by omega) (by kernel_rfl) ?_)
        exact R.go 2 (R.stop R6 (by kernel_rfl) (N7 (i + 1, o2) [3, 4, 5] none _ (by kernel_rfl) (by kernel_rfl) ⟨(by omega), (by first | (rw [win, wrow, ← ‹o2 = win out j i›, if_pos ‹band (shr64 (o2.getD i 0) (j : Int)) 1 = 1›]) | (rw [win, wrow, ← ‹o2 = win out j i›, if_neg ‹¬ band (shr64 (o2.getD i 0) (j : Int)) 1 = 1›]))⟩ (by show (xs.length - (i + 1)) < (xs.length - i); omega)))
    · refine R.go 4 (R.ar ((j : Int) + 1) (by kernel_rfl) (by omega) (by omega) (by kernel_rfl) ?_)
      exact R.go 2 (R.stop R1 (by kernel_rfl) (N2 (j + 1, o2) [3, 4] none _ (by kernel_rfl) (by kernel_rfl) ⟨(by omega), (by rw [wout, ← ‹out = wout xs j›, ← show i = xs.length by omega]; assumption)⟩ (by show (xs.length - (j + 1)) < (xs.length - j); omega)))
  · exact R.go 6 (R.retE (ownA eI 2 1 out) (by kernel_rfl) (by kernel_rfl) (by first | (rw [‹out = wout xs j›, show j = xs.length by omega]) | (exfalso; omega)))

end Go.Proofs.YtgebepfdphmjcaaGreat


/-! Dice of the laws: a roll, and a number below another one. -/
namespace Go.Proofs.YtgebepfdphmjcaaGreat
open Go.RowKit Go.Abs

theorem belowX_c_r3 (c : List Int) (p : Nat) (h : Int) (n : Int) (eo1 : Nat) (so1 : Nat) (no1 : Nat) (co1 : List AV) (eo2 : Nat) (so2 : Nat) (no2 : Nat) (co2 : List AV) (eo3 : Nat) (so3 : Nat) (no3 : Nat) (co3 : List AV) (hc : BY c) : CallX Tryz.prog 11 [.ptr 0 0, AI n] [.box 73 [LB c, AI (p : Int), .int .u64 h], .list eo1 so1 no1 co1, .list eo2 so2 no2 co2, .list eo3 so3 no3 co3] (fun (resX : AV) (objX : List AObj) => ∃ v : Int, ∃ p1 : Nat, ∃ h1 : Int, ((n < 1 → v = 0) ∧ (1 ≤ n → 0 ≤ v ∧ v < n)) ∧ resX = AI v ∧ objX = [.box 73 [LB c, AI (p1 : Int), .int .u64 h1], .list eo1 so1 no1 co1, .list eo2 so2 no2 co2, .list eo3 so3 no3 co3]) := by
  have hcl : c.length ≤ 4096 := hc.1
  have hcb := hc.2
  have hxr := fun h => u64and (shr64 (IntKind.u64.wrap (IntKind.u64.wrap (h * 6364136223846793005) + 1442695040888963407)) 33)
  have hxh := hxr h
  refine CallX.dropE (CallX.ofF Tryz.func11 rfl (by kernel_rfl) ?_)
  intro usC frC hfC
  refine R.go 10 (R.cond (n < 1) (by kernel_rfl) (fun c1 => ?_) (fun c1 => ?_))
  · exact R.go 4 (R.retX (res := AI 0) (hp' := [.box 73 [LB c, AI (p : Int), .int .u64 h], .list eo1 so1 no1 co1, .list eo2 so2 no2 co2, .list eo3 so3 no3 co3, .dead]) (by kernel_rfl) (by kernel_rfl) (by kernel_rfl) (by kernel_rfl) ⟨[0, 1, 2, 3], by kernel_rfl, by decide, 0, p, h, by first | exact mod_rng (by assumption) | exact ⟨fun _ => rfl, fun h1 => by omega⟩, by kernel_rfl, by kernel_rfl⟩)
  · refine R.go 22 (R.cv .i64 (bits .and .u64 (shr64 (IntKind.u64.wrap ((IntKind.u64.wrap (h * 6364136223846793005)) + 1442695040888963407)) 33) 16777215) (by kernel_rfl) (wrap_id (by omega) (by omega)) (by kernel_rfl) ?_)
    refine R.go 16 (R.cond ((p : Int) < (c.length : Int)) (by kernel_rfl) (fun c2 => ?_) (fun c2 => ?_))
    · have hbp := hcb p (by omega)
      refine R.go 11 (R.idx eB c 0 p (p : Int) (by kernel_rfl) rfl eB_len (by omega) (by kernel_rfl) ?_)
      refine R.go 1 (R.cv .i64 (c.getD p 0) (by kernel_rfl) (wrap_id (by omega) (by omega)) (by kernel_rfl) ?_)
      refine R.ar ((bits .and .u64 (shr64 (IntKind.u64.wrap ((IntKind.u64.wrap (h * 6364136223846793005)) + 1442695040888963407)) 33) 16777215) + (c.getD p 0)) (by kernel_rfl) (by omega) (by omega) (by kernel_rfl) ?_
      refine R.go 8 (R.ar ((p : Int) + 1) (by kernel_rfl) (by omega) (by omega) (by kernel_rfl) ?_)
      refine R.go 8 (R.rem ((bits .and .u64 (shr64 (IntKind.u64.wrap ((IntKind.u64.wrap (h * 6364136223846793005)) + 1442695040888963407)) 33) 16777215) + (c.getD p 0)) n (by kernel_rfl) (by omega) (by omega) (by kernel_rfl) ?_)
      exact R.go 2 (R.retX (res := AI (((bits .and .u64 (shr64 (IntKind.u64.wrap ((IntKind.u64.wrap (h * 6364136223846793005)) + 1442695040888963407)) 33) 16777215) + (c.getD p 0)) % n)) (hp' := [.box 73 [LB c, AI ((p : Int) + 1), .int .u64 (IntKind.u64.wrap ((IntKind.u64.wrap (h * 6364136223846793005)) + 1442695040888963407))], .list eo1 so1 no1 co1, .list eo2 so2 no2 co2, .list eo3 so3 no3 co3, .dead]) (by kernel_rfl) (by kernel_rfl) (by kernel_rfl) (by kernel_rfl) ⟨[0, 1, 2, 3], by kernel_rfl, by decide, ((bits .and .u64 (shr64 (IntKind.u64.wrap ((IntKind.u64.wrap (h * 6364136223846793005)) + 1442695040888963407)) 33) 16777215) + (c.getD p 0)) % n, p + 1, IntKind.u64.wrap ((IntKind.u64.wrap (h * 6364136223846793005)) + 1442695040888963407), by first | exact mod_rng (by assumption) | exact ⟨fun _ => rfl, fun h1 => by omega⟩, by kernel_rfl, by kernel_rfl⟩)
    · refine R.go 5 (R.rem (bits .and .u64 (shr64 (IntKind.u64.wrap ((IntKind.u64.wrap (h * 6364136223846793005)) + 1442695040888963407)) 33) 16777215) n (by kernel_rfl) (by omega) (by omega) (by kernel_rfl) ?_)
      exact R.go 2 (R.retX (res := AI ((bits .and .u64 (shr64 (IntKind.u64.wrap ((IntKind.u64.wrap (h * 6364136223846793005)) + 1442695040888963407)) 33) 16777215) % n)) (hp' := [.box 73 [LB c, AI (p : Int), .int .u64 (IntKind.u64.wrap ((IntKind.u64.wrap (h * 6364136223846793005)) + 1442695040888963407))], .list eo1 so1 no1 co1, .list eo2 so2 no2 co2, .list eo3 so3 no3 co3, .dead]) (by kernel_rfl) (by kernel_rfl) (by kernel_rfl) (by kernel_rfl) ⟨[0, 1, 2, 3], by kernel_rfl, by decide, (bits .and .u64 (shr64 (IntKind.u64.wrap ((IntKind.u64.wrap (h * 6364136223846793005)) + 1442695040888963407)) 33) 16777215) % n, p, IntKind.u64.wrap ((IntKind.u64.wrap (h * 6364136223846793005)) + 1442695040888963407), by first | exact mod_rng (by assumption) | exact ⟨fun _ => rfl, fun h1 => by omega⟩, by kernel_rfl, by kernel_rfl⟩)

theorem rollX_c_r2 (c : List Int) (sd : Int) (eo1 : Nat) (so1 : Nat) (no1 : Nat) (co1 : List AV) (eo2 : Nat) (so2 : Nat) (no2 : Nat) (co2 : List AV) (hc : BY c) : CallX Tryz.prog 10 [LB c, .int .u64 sd] [.list eo1 so1 no1 co1, .list eo2 so2 no2 co2] (fun (resX : AV) (objX : List AObj) => ∃ h : Int, resX = .ptr 2 0 ∧ objX = [.list eo1 so1 no1 co1, .list eo2 so2 no2 co2, .box 73 [LB c, AI 0, .int .u64 h]]) := by
  have hcl : c.length ≤ 4096 := hc.1
  have hcb := hc.2
  refine CallX.dropE (CallX.ofF Tryz.func10 rfl (by kernel_rfl) ?_)
  intro usC frC hfC
  refine R.go 11 (R.cv .u64 (c.length : Int) (by kernel_rfl) (u64_id (by omega) (by omega)) (by kernel_rfl) ?_)
  refine R.go 11 (R.loop ((fun | (i, hh) => (⟨(frm 38 [(0, LB c), (5, .ptr 3 0), (6, AI (i : Int))]), [.list eo1 so1 no1 co1, .list eo2 so2 no2 co2, .frame usC frC, .box 73 [LB c, AI 0, .int .u64 hh]]⟩ : St) : Nat × Int → St)) (fun | (i, hh) => i ≤ c.length) (fun | (i, hh) => c.length - i) (0, (IntKind.u64.wrap ((IntKind.u64.wrap (sd * 7681)) + (c.length : Int)))) [0, 5, 6] none (by kernel_rfl) (by kernel_rfl) (by kernel_rfl) (by omega) ?_)
  rintro ⟨i, hh⟩ h4_1 R1 N2
  refine R.go 8 (R.cond ((i : Int) < (c.length : Int)) (by kernel_rfl) (fun c5 => ?_) (fun c5 => ?_))
  · have hbi := hcb i (by omega)
    refine R.go 12 (R.idx eB c 0 i (i : Int) (by kernel_rfl) rfl eB_len (by omega) (by kernel_rfl) ?_)
    refine R.go 1 (R.cv .u64 (c.getD i 0) (by kernel_rfl) (u64_id (by omega) (by omega)) (by kernel_rfl) ?_)
    refine R.go 9 (R.ar ((i : Int) + 1) (by kernel_rfl) (by omega) (by omega) (by kernel_rfl) ?_)
    exact R.go 2 (R.stop R1 (by kernel_rfl) (N2 (i + 1, IntKind.u64.wrap ((IntKind.u64.wrap ((IntKind.u64.wrap (hh * 1099511628211)) + (c.getD i 0))) + 5)) [0, 5, 6] none _ (by kernel_rfl) (by kernel_rfl) (by omega) (by show (c.length - (i + 1)) < (c.length - i); omega)))
  · exact R.go 6 (R.retX (res := .ptr 3 0) (hp' := [.list eo1 so1 no1 co1, .list eo2 so2 no2 co2, .dead, .box 73 [LB c, AI 0, .int .u64 hh]]) (by kernel_rfl) (by kernel_rfl) (by kernel_rfl) (by kernel_rfl) ⟨[0, 1, 3], by kernel_rfl, by decide, hh, by kernel_rfl, by kernel_rfl⟩)

end Go.Proofs.YtgebepfdphmjcaaGreat
