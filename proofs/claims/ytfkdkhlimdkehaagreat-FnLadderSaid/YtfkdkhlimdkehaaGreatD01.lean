/- Draws: numbers out of a code. -/
import Derived.Test.YtfkdkhlimdkehaaGreatS01
import Derived.Test.YtfkdkhlimdkehaaGreatSymK
import Derived.Test.YtfkdkhlimdkehaaGreatSym2
namespace Go.Proofs.YtfkdkhlimdkehaaGreat
open Go.RowKit Go.Abs

theorem u64and (a : Int) : 0 ≤ bits .and .u64 a 16777215 ∧ bits .and .u64 a 16777215 ≤ 16777215 := by
  show 0 ≤ IntKind.u64.wrap _ ∧ IntKind.u64.wrap _ ≤ 16777215
  rw [IntKind.wrap_u64]
  have h : (BitVec.ofInt 64 a &&& BitVec.ofInt 64 16777215).toNat ≤ 16777215 := by
    rw [BitVec.toNat_and]
    exact Nat.le_trans Nat.and_le_right (by decide)
  have e : ∀ k : Nat, k ≤ 16777215 → 0 ≤ ((k : Int) % 18446744073709551616) ∧ ((k : Int) % 18446744073709551616) ≤ 16777215 := fun k hk => by omega
  exact e _ h
def nxH (h : Int) : Int := IntKind.u64.wrap (IntKind.u64.wrap (h * 6364136223846793005) + 1442695040888963407)
def nxX (h : Int) : Int := bits .and .u64 (shr64 (nxH h) 33) 16777215
/-- The number, the place and the word behind a draw below n. -/
def nxV (c : List Int) (p : Nat) (h n : Int) : Int := if n < 1 then 0 else if (p : Int) < (c.length : Int) then (nxX h + c.getD p 0) % n else nxX h % n
def nxA (c : List Int) (p : Nat) (n : Int) : Nat := if n < 1 then p else if (p : Int) < (c.length : Int) then p + 1 else p
def nxS (h n : Int) : Int := if n < 1 then h else nxH h
def BY (c : List Int) : Prop := c.length ≤ 4096 ∧ ∀ j : Nat, j < c.length → 0 ≤ c.getD j 0 ∧ c.getD j 0 ≤ 255
theorem nxV_rng {c : List Int} (hc : BY c) {p : Nat} {h n : Int} (hn : 1 ≤ n) : 0 ≤ nxV c p h n ∧ nxV c p h n < n := by
  have hx := u64and (shr64 (nxH h) 33)
  rw [nxV, if_neg (by omega)]
  split
  · exact ⟨Int.emod_nonneg _ (by omega), Int.emod_lt_of_pos _ (by omega)⟩
  · exact ⟨Int.emod_nonneg _ (by omega), Int.emod_lt_of_pos _ (by omega)⟩
theorem nr_0 {c : List Int} {p : Nat} {h n : Int} (hn : n < 1) : AI 0 = AI (nxV c p h n) := by rw [nxV, if_pos hn]
theorem nr_1 {c : List Int} {p : Nat} {h n : Int} (hn : ¬ n < 1) (hp : (p : Int) < (c.length : Int)) : AI ((nxX h + c.getD p 0) % n) = AI (nxV c p h n) := by rw [nxV, if_neg hn, if_pos hp]
theorem nr_2 {c : List Int} {p : Nat} {h n : Int} (hn : ¬ n < 1) (hp : ¬ (p : Int) < (c.length : Int)) : AI (nxX h % n) = AI (nxV c p h n) := by rw [nxV, if_neg hn, if_neg hp]
theorem ne_0 {t : Nat} {c : List Int} {p : Nat} {h n : Int} (hn : n < 1) : [AObj.dead, AObj.box t [LB c, AI (p : Int), .int .u64 h], .dead] = [AObj.dead, AObj.box t [LB c, AI (nxA c p n : Int), .int .u64 (nxS h n)], .dead] := by rw [nxA, nxS, if_pos hn, if_pos hn]
theorem ne_1 {t : Nat} {c : List Int} {p : Nat} {h n : Int} (hn : ¬ n < 1) (hp : (p : Int) < (c.length : Int)) : [AObj.dead, AObj.box t [LB c, AI ((p : Int) + 1), .int .u64 (nxH h)], .dead] = [AObj.dead, AObj.box t [LB c, AI (nxA c p n : Int), .int .u64 (nxS h n)], .dead] := by rw [nxA, nxS, if_neg hn, if_neg hn, if_pos hp]; rfl
theorem ne_2 {t : Nat} {c : List Int} {p : Nat} {h n : Int} (hn : ¬ n < 1) (hp : ¬ (p : Int) < (c.length : Int)) : [AObj.dead, AObj.box t [LB c, AI (p : Int), .int .u64 (nxH h)], .dead] = [AObj.dead, AObj.box t [LB c, AI (nxA c p n : Int), .int .u64 (nxS h n)], .dead] := by rw [nxA, nxS, if_neg hn, if_neg hn, if_neg hp]
/-- The word of a code. -/
def hTo (c : List Int) : Nat → Int
  | 0 => IntKind.u64.wrap (7129 + (c.length : Int))
  | i + 1 => IntKind.u64.wrap (IntKind.u64.wrap (IntKind.u64.wrap (hTo c i * 1099511628211) + c.getD i 0) + 11)
def h0 (c : List Int) : Int := hTo c c.length
/-! A number of the ladder. -/
def nuV (c : List Int) (p : Nat) (h : Int) : Int :=
  if nxV c p h 12 = 0 then ([-2, 41, 40, -1] : List Int).getD (nxV c (nxA c p 12) (nxS h 12) 4).toNat 0
  else if nxV c p h 12 = 1 then nxV c (nxA c p 12) (nxS h 12) 41 else nxV c (nxA c p 12) (nxS h 12) 12 - 1
def nuA (c : List Int) (p : Nat) (h : Int) : Nat :=
  if nxV c p h 12 = 0 then nxA c (nxA c p 12) 4 else if nxV c p h 12 = 1 then nxA c (nxA c p 12) 41 else nxA c (nxA c p 12) 12
def nuS (c : List Int) (p : Nat) (h : Int) : Int :=
  if nxV c p h 12 = 0 then nxS (nxS h 12) 4 else if nxV c p h 12 = 1 then nxS (nxS h 12) 41 else nxS (nxS h 12) 12
theorem ur_0 {c : List Int} {p : Nat} {h : Int} (h1 : nxV c p h 12 = 0) : AI (([-2, 41, 40, -1] : List Int).getD (nxV c (nxA c p 12) (nxS h 12) 4).toNat 0) = AI (nuV c p h) := by rw [nuV, if_pos h1]
theorem ur_1 {c : List Int} {p : Nat} {h : Int} (h1 : nxV c p h 12 = 1) : AI (nxV c (nxA c p 12) (nxS h 12) 41) = AI (nuV c p h) := by
  have h0 : ¬ nxV c p h 12 = 0 := by omega
  rw [nuV, if_neg h0, if_pos h1]
theorem ur_2 {c : List Int} {p : Nat} {h : Int} (h1 : ¬ nxV c p h 12 = 0) (h2 : ¬ nxV c p h 12 = 1) : AI (nxV c (nxA c p 12) (nxS h 12) 12 - 1) = AI (nuV c p h) := by rw [nuV, if_neg h1, if_neg h2]
theorem ue_0 {t : Nat} {c : List Int} {p : Nat} {h : Int} (h1 : nxV c p h 12 = 0) : [AObj.dead, AObj.box t [LB c, AI (nxA c (nxA c p 12) 4 : Int), .int .u64 (nxS (nxS h 12) 4)], .dead] = [AObj.dead, AObj.box t [LB c, AI (nuA c p h : Int), .int .u64 (nuS c p h)], .dead] := by rw [nuA, nuS, if_pos h1, if_pos h1]
theorem ue_1 {t : Nat} {c : List Int} {p : Nat} {h : Int} (h1 : nxV c p h 12 = 1) : [AObj.dead, AObj.box t [LB c, AI (nxA c (nxA c p 12) 41 : Int), .int .u64 (nxS (nxS h 12) 41)], .dead] = [AObj.dead, AObj.box t [LB c, AI (nuA c p h : Int), .int .u64 (nuS c p h)], .dead] := by
  have h0 : ¬ nxV c p h 12 = 0 := by omega
  rw [nuA, nuS, if_neg h0, if_neg h0, if_pos h1, if_pos h1]
theorem ue_2 {t : Nat} {c : List Int} {p : Nat} {h : Int} (h1 : ¬ nxV c p h 12 = 0) (h2 : ¬ nxV c p h 12 = 1) : [AObj.dead, AObj.box t [LB c, AI (nxA c (nxA c p 12) 12 : Int), .int .u64 (nxS (nxS h 12) 12)], .dead] = [AObj.dead, AObj.box t [LB c, AI (nuA c p h : Int), .int .u64 (nuS c p h)], .dead] := by rw [nuA, nuS, if_neg h1, if_neg h1, if_neg h2, if_neg h2]

theorem l01Next_c (c : List Int) (p : Nat) (h : Int) (n : Int) (hc : BY c) : CallS Tryz.prog 39 [.ptr 1 0, AI n] [.dead, .box 92 [LB c, AI (p : Int), .int .u64 h]] (AI (nxV c p h n)) [.dead, .box 92 [LB c, AI (nxA c p n : Int), .int .u64 (nxS h n)]] := by
  have hcl : c.length ≤ 4096 := hc.1
  have hcb := hc.2
  have hxr := u64and (shr64 (nxH h) 33)
  simp only [nxH] at hxr
  refine CallS.cast (CallS.drop [0, 1] (CallS.of (res := AI (nxV c p h n)) (hp' := [.dead, .box 92 [LB c, AI (nxA c p n : Int), .int .u64 (nxS h n)], .dead]) Tryz.func39 rfl (by kernel_rfl) ?_) (by kernel_rfl) (by decide)) (by kernel_rfl) (by kernel_rfl)
  intro usC frC
  refine R.go 10 (R.cond (n < 1) (by kernel_rfl) (fun c1 => ?_) (fun c1 => ?_))
  · exact R.go 4 (R.retSE (res := AI 0) (hp1 := [.dead, .box 92 [LB c, AI (p : Int), .int .u64 h], .dead]) (by kernel_rfl) (by kernel_rfl) (by kernel_rfl) (by kernel_rfl) (by first | rfl | (first | exact nr_0 (by assumption) | exact nr_1 (by assumption) (by assumption) | exact nr_2 (by assumption) (by assumption)) | (exfalso; omega)) (by first | rfl | (first | exact ne_0 (by assumption) | exact ne_1 (by assumption) (by assumption) | exact ne_2 (by assumption) (by assumption)) | (exfalso; omega)))
  · refine R.go 22 (R.cv .i64 (bits .and .u64 (shr64 (IntKind.u64.wrap ((IntKind.u64.wrap (h * 6364136223846793005)) + 1442695040888963407)) 33) 16777215) (by kernel_rfl) (wrap_id (by omega) (by omega)) (by kernel_rfl) ?_)
    refine R.go 16 (R.cond ((p : Int) < (c.length : Int)) (by kernel_rfl) (fun c2 => ?_) (fun c2 => ?_))
    · have hbp := hcb p (by omega)
      refine R.go 11 (R.idx eB c 0 p (p : Int) (by kernel_rfl) rfl eB_len (by omega) (by kernel_rfl) ?_)
      refine R.go 1 (R.cv .i64 (c.getD p 0) (by kernel_rfl) (wrap_id (by omega) (by omega)) (by kernel_rfl) ?_)
      refine R.ar ((bits .and .u64 (shr64 (IntKind.u64.wrap ((IntKind.u64.wrap (h * 6364136223846793005)) + 1442695040888963407)) 33) 16777215) + (c.getD p 0)) (by kernel_rfl) (by omega) (by omega) (by kernel_rfl) ?_
      refine R.go 8 (R.ar ((p : Int) + 1) (by kernel_rfl) (by omega) (by omega) (by kernel_rfl) ?_)
      refine R.go 8 (R.rem ((bits .and .u64 (shr64 (IntKind.u64.wrap ((IntKind.u64.wrap (h * 6364136223846793005)) + 1442695040888963407)) 33) 16777215) + (c.getD p 0)) n (by kernel_rfl) (by omega) (by omega) (by kernel_rfl) ?_)
      exact R.go 2 (R.retSE (res := AI (((bits .and .u64 (shr64 (IntKind.u64.wrap ((IntKind.u64.wrap (h * 6364136223846793005)) + 1442695040888963407)) 33) 16777215) + (c.getD p 0)) % n)) (hp1 := [.dead, .box 92 [LB c, AI ((p : Int) + 1), .int .u64 (IntKind.u64.wrap ((IntKind.u64.wrap (h * 6364136223846793005)) + 1442695040888963407))], .dead]) (by kernel_rfl) (by kernel_rfl) (by kernel_rfl) (by kernel_rfl) (by first | rfl | (first | exact nr_0 (by assumption) | exact nr_1 (by assumption) (by assumption) | exact nr_2 (by assumption) (by assumption)) | (exfalso; omega)) (by first | rfl | (first | exact ne_0 (by assumption) | exact ne_1 (by assumption) (by assumption) | exact ne_2 (by assumption) (by assumption)) | (exfalso; omega)))
    · refine R.go 5 (R.rem (bits .and .u64 (shr64 (IntKind.u64.wrap ((IntKind.u64.wrap (h * 6364136223846793005)) + 1442695040888963407)) 33) 16777215) n (by kernel_rfl) (by omega) (by omega) (by kernel_rfl) ?_)
      exact R.go 2 (R.retSE (res := AI ((bits .and .u64 (shr64 (IntKind.u64.wrap ((IntKind.u64.wrap (h * 6364136223846793005)) + 1442695040888963407)) 33) 16777215) % n)) (hp1 := [.dead, .box 92 [LB c, AI (p : Int), .int .u64 (IntKind.u64.wrap ((IntKind.u64.wrap (h * 6364136223846793005)) + 1442695040888963407))], .dead]) (by kernel_rfl) (by kernel_rfl) (by kernel_rfl) (by kernel_rfl) (by first | rfl | (first | exact nr_0 (by assumption) | exact nr_1 (by assumption) (by assumption) | exact nr_2 (by assumption) (by assumption)) | (exfalso; omega)) (by first | rfl | (first | exact ne_0 (by assumption) | exact ne_1 (by assumption) (by assumption) | exact ne_2 (by assumption) (by assumption)) | (exfalso; omega)))

theorem l01Pick_c (c : List Int) (p : Nat) (h : Int) (L : List Int) (hc : BY c) (hL : 1 ≤ L.length ∧ L.length ≤ 100) : CallS Tryz.prog 40 [.ptr 1 0, LI L] [.dead, .box 92 [LB c, AI (p : Int), .int .u64 h]] (AI (L.getD (nxV c p h L.length).toNat 0)) [.dead, .box 92 [LB c, AI (nxA c p L.length : Int), .int .u64 (nxS h L.length)]] := by
  have hcl : c.length ≤ 4096 := hc.1
  have hcb := hc.2
  have hnr := nxV_rng hc (p := p) (h := h) (n := L.length) (by omega)
  refine CallS.cast (CallS.drop [0, 1] (CallS.of (res := AI (L.getD (nxV c p h L.length).toNat 0)) (hp' := [.dead, .box 92 [LB c, AI (nxA c p L.length : Int), .int .u64 (nxS h L.length)], .dead]) Tryz.func40 rfl (by kernel_rfl) ?_) (by kernel_rfl) (by decide)) (by kernel_rfl) (by kernel_rfl)
  intro usC frC
  refine R.go 10 (R.callS (CallS.frame usC frC (l01Next_c c p h L.length hc) (by kernel_rfl) (by kernel_rfl) (Nat.le_of_ble_eq_true (by kernel_rfl))) (by kernel_rfl) (by kernel_rfl) (by kernel_rfl) ?_)
  refine R.idx eI L 0 ((nxV c p h L.length).toNat) (nxV c p h L.length) (by kernel_rfl) (by omega) eI_len (by omega) (by kernel_rfl) ?_
  exact R.go 3 (R.retSE (res := AI (L.getD ((nxV c p h L.length).toNat) 0)) (hp1 := [.dead, .box 92 [LB c, AI (nxA c p L.length : Int), .int .u64 (nxS h L.length)], .dead]) (by kernel_rfl) (by kernel_rfl) (by kernel_rfl) (by kernel_rfl) (by first | rfl | (first | rfl | omega) | (exfalso; omega)) (by first | rfl | (first | rfl | omega) | (exfalso; omega)))

theorem l20Number_c (c : List Int) (p : Nat) (h : Int) (hc : BY c) : CallS Tryz.prog 41 [.ptr 1 0] [.dead, .box 92 [LB c, AI (p : Int), .int .u64 h]] (AI (nuV c p h)) [.dead, .box 92 [LB c, AI (nuA c p h : Int), .int .u64 (nuS c p h)]] := by
  have hn1 := nxV_rng hc (p := p) (h := h) (n := 12) (by omega)
  have hn2 := fun n (hn : 1 ≤ n) => nxV_rng hc (p := nxA c p 12) (h := nxS h 12) (n := n) hn
  have hn3 := hn2 12 (by omega)
  refine CallS.cast (CallS.drop [0, 1] (CallS.of (res := AI (nuV c p h)) (hp' := [.dead, .box 92 [LB c, AI (nuA c p h : Int), .int .u64 (nuS c p h)], .dead]) Tryz.func41 rfl (by kernel_rfl) ?_) (by kernel_rfl) (by decide)) (by kernel_rfl) (by kernel_rfl)
  intro usC frC
  refine R.go 8 (R.callS (CallS.frame usC frC (l01Next_c c p h 12 hc) (by kernel_rfl) (by kernel_rfl) (Nat.le_of_ble_eq_true (by kernel_rfl))) (by kernel_rfl) (by kernel_rfl) (by kernel_rfl) ?_)
  refine R.go 7 (R.cond ((nxV c p h 12) = 0) (by kernel_rfl) (fun c1 => ?_) (fun c1 => ?_))
  · refine R.go 3 (R.lit (s := 1) (n := 4) (cs := rows eI [(-2), 41, 40, (-1)]) (by kernel_rfl) (by kernel_rfl) ?_)
    refine R.callS (CallS.frame usC frC (l01Pick_c c (nxA c p 12) (nxS h 12) [(-2), 41, 40, (-1)] hc (by simp)) (by kernel_rfl) (by kernel_rfl) (Nat.le_of_ble_eq_true (by kernel_rfl))) (by kernel_rfl) (by kernel_rfl) (by kernel_rfl) ?_
    exact R.go 2 (R.retSE (res := AI ([(-2), 41, 40, (-1)].getD (nxV c (nxA c p 12) (nxS h 12) [(-2), 41, 40, (-1)].length).toNat 0)) (hp1 := [.dead, .box 92 [LB c, AI (nxA c (nxA c p 12) [(-2), 41, 40, (-1)].length : Int), .int .u64 (nxS (nxS h 12) [(-2), 41, 40, (-1)].length)], .dead]) (by kernel_rfl) (by kernel_rfl) (by kernel_rfl) (by kernel_rfl) (by first | rfl | (first | exact ur_0 (by assumption) | exact ur_1 (by assumption) | exact ur_2 (by assumption) (by assumption)) | (exfalso; omega)) (by first | rfl | (first | exact ue_0 (by assumption) | exact ue_1 (by assumption) | exact ue_2 (by assumption) (by assumption)) | (exfalso; omega)))
  · refine R.go 5 (R.cond ((nxV c p h 12) = 1) (by kernel_rfl) (fun c2 => ?_) (fun c2 => ?_))
    · refine R.go 3 (R.callS (CallS.frame usC frC (l01Next_c c (nxA c p 12) (nxS h 12) 41 hc) (by kernel_rfl) (by kernel_rfl) (Nat.le_of_ble_eq_true (by kernel_rfl))) (by kernel_rfl) (by kernel_rfl) (by kernel_rfl) ?_)
      exact R.go 2 (R.retSE (res := AI (nxV c (nxA c p 12) (nxS h 12) 41)) (hp1 := [.dead, .box 92 [LB c, AI (nxA c (nxA c p 12) 41 : Int), .int .u64 (nxS (nxS h 12) 41)], .dead]) (by kernel_rfl) (by kernel_rfl) (by kernel_rfl) (by kernel_rfl) (by first | rfl | (first | exact ur_0 (by assumption) | exact ur_1 (by assumption) | exact ur_2 (by assumption) (by assumption)) | (exfalso; omega)) (by first | rfl | (first | exact ue_0 (by assumption) | exact ue_1 (by assumption) | exact ue_2 (by assumption) (by assumption)) | (exfalso; omega)))
    · refine R.go 5 (R.callS (CallS.frame usC frC (l01Next_c c (nxA c p 12) (nxS h 12) 12 hc) (by kernel_rfl) (by kernel_rfl) (Nat.le_of_ble_eq_true (by kernel_rfl))) (by kernel_rfl) (by kernel_rfl) (by kernel_rfl) ?_)
      refine R.ar ((nxV c (nxA c p 12) (nxS h 12) 12) - 1) (by kernel_rfl) (by omega) (by omega) (by kernel_rfl) ?_
      exact R.go 2 (R.retSE (res := AI ((nxV c (nxA c p 12) (nxS h 12) 12) - 1)) (hp1 := [.dead, .box 92 [LB c, AI (nxA c (nxA c p 12) 12 : Int), .int .u64 (nxS (nxS h 12) 12)], .dead]) (by kernel_rfl) (by kernel_rfl) (by kernel_rfl) (by kernel_rfl) (by first | rfl | (first | exact ur_0 (by assumption) | exact ur_1 (by assumption) | exact ur_2 (by assumption) (by assumption)) | (exfalso; omega)) (by first | rfl | (first | exact ue_0 (by assumption) | exact ue_1 (by assumption) | exact ue_2 (by assumption) (by assumption)) | (exfalso; omega)))

end Go.Proofs.YtfkdkhlimdkehaaGreat
