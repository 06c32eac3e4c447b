/- Numbers, masks, boxes. -/
import Derived.Test.YtkanjgmocmhlkaaProg
import Derived.Test.YtkanjgmocmhlkaaSymV
namespace Go.Proofs.Ytkanjgmocmhlkaa
open Go.RowKit Go.Abs

def inR (n lo hi : Int) : Bool := decide (lo ≤ n) && decide (n ≤ hi)
theorem inR_iff (n lo hi : Int) : inR n lo hi = true ↔ lo ≤ n ∧ n ≤ hi := by simp [inR]
theorem inR_not (n lo hi : Int) : inR n lo hi = false ↔ ¬ (lo ≤ n ∧ n ≤ hi) := by
  rw [← inR_iff]; simp

theorem shl_one (n : Int) (h0 : 0 ≤ n) (h1 : n ≤ 62) : shl64 1 n = 2 ^ n.toNat := by
  obtain ⟨k, rfl⟩ := Int.eq_ofNat_of_zero_le h0
  unfold shl64
  rw [show min (k : Int).toNat 64 = k by omega, Int.one_mul, show (k : Int).toNat = k from rfl]
  have h2 : (2 : Int) ^ k ≤ 2 ^ 62 := by
    have := Nat.pow_le_pow_right (n := 2) (by decide) (show k ≤ 62 by omega)
    have h := Int.ofNat_le.2 this
    simpa using h
  have h3 : (0 : Int) ≤ 2 ^ k := Int.pow_nonneg (by decide)
  exact wrap_id (by omega) (by omega)
theorem shl_rng (n : Int) (h0 : 0 ≤ n) (h1 : n ≤ 62) : 1 ≤ shl64 1 n ∧ shl64 1 n ≤ 4611686018427387904 := by
  rw [shl_one n h0 h1]
  have h2 := Nat.pow_le_pow_right (n := 2) (by decide) (show n.toNat ≤ 62 by omega)
  have h3 : 0 < 2 ^ n.toNat := Nat.two_pow_pos _
  have e : (2 : Int) ^ n.toNat = ((2 ^ n.toNat : Nat) : Int) := by simp
  rw [e]
  generalize 2 ^ n.toNat = q at h2 h3
  omega

def boxB (xs : List Int) (m : Int) : Nat → Int
  | 0 => 0
  | i + 1 => if bnot (xs.getD i 0) m = 0 then bor (boxB xs m i) (shl64 1 i) else boxB xs m i
def boxA (xs : List Int) (m : Int) : Nat → Int
  | 0 => 0
  | i + 1 => if band (xs.getD i 0) m = xs.getD i 0 then bor (boxA xs m i) (shl64 1 i) else boxA xs m i

theorem inRange_c (n : Int) (lo : Int) (hi : Int) : CallA Try.prog 79 [AI n, AI lo, AI hi] (.bool (inR n lo hi)) := by
  refine CallA.of Try.func79 rfl (by kernel_rfl) ?_
  refine R.go 10 ?_
  by_cases c1 : lo ≤ n
  · refine R.want (decide (lo ≤ n)) true (by kernel_rfl) (dT c1) ?_
    refine R.go 1 (R.want (decide (lo ≤ n)) true (by kernel_rfl) (dT c1) ?_)
    refine R.go 1 (R.want (decide (lo ≤ n)) true (by kernel_rfl) (dT c1) ?_)
    refine R.go 1 (R.pick (decide (lo ≤ n)) true (by kernel_rfl) (dT c1) (by kernel_rfl) ?_)
    exact R.go 2 (R.retE (.bool (decide (n ≤ hi))) (by kernel_rfl) (by kernel_rfl) (by first | (simp [inR, *]) | (exfalso; omega)))
  · refine R.skp (decide (lo ≤ n)) true (by kernel_rfl) (dF c1) (by kernel_rfl) ?_
    refine R.skp (decide (lo ≤ n)) true (by kernel_rfl) (dF c1) (by kernel_rfl) ?_
    refine R.skp (decide (lo ≤ n)) true (by kernel_rfl) (dF c1) (by kernel_rfl) ?_
    refine R.pick (decide (lo ≤ n)) false (by kernel_rfl) (dF c1) (by kernel_rfl) ?_
    exact R.go 2 (R.retE (.bool false) (by kernel_rfl) (by kernel_rfl) (by first | (simp [inR, *]) | (exfalso; omega)))

theorem l01In_c (n : Int) (lo : Int) (hi : Int) : CallA Try.prog 83 [AI n, AI lo, AI hi] (.bool (inR n lo hi)) := by
  refine CallA.of Try.func83 rfl (by kernel_rfl) ?_
  refine R.go 10 ?_
  by_cases c1 : n ≥ lo
  · refine R.want (decide (n ≥ lo)) true (by kernel_rfl) (dT c1) ?_
    refine R.go 1 (R.want (decide (n ≥ lo)) true (by kernel_rfl) (dT c1) ?_)
    refine R.go 1 (R.want (decide (n ≥ lo)) true (by kernel_rfl) (dT c1) ?_)
    refine R.go 1 (R.pick (decide (n ≥ lo)) true (by kernel_rfl) (dT c1) (by kernel_rfl) ?_)
    exact R.go 2 (R.retE (.bool (decide (n ≤ hi))) (by kernel_rfl) (by kernel_rfl) (by first | (simp [inR, *]) | (exfalso; omega)))
  · refine R.skp (decide (n ≥ lo)) true (by kernel_rfl) (dF c1) (by kernel_rfl) ?_
    refine R.skp (decide (n ≥ lo)) true (by kernel_rfl) (dF c1) (by kernel_rfl) ?_
    refine R.skp (decide (n ≥ lo)) true (by kernel_rfl) (dF c1) (by kernel_rfl) ?_
    refine R.pick (decide (n ≥ lo)) false (by kernel_rfl) (dF c1) (by kernel_rfl) ?_
    exact R.go 2 (R.retE (.bool false) (by kernel_rfl) (by kernel_rfl) (by first | (simp [inR, *]) | (exfalso; omega)))

theorem within_c (a : Int) (b : Int) : CallA Try.prog 91 [AI a, AI b] (.bool (decide (bnot a b = 0))) := by
  refine CallA.of Try.func91 rfl (by kernel_rfl) ?_
  exact R.go 12 (R.retE (.bool (decide ((bnot a b) = 0))) (by kernel_rfl) (by kernel_rfl) (by first | (rfl) | (exfalso; omega)))

theorem size_c (xs : List Int) : CallA Try.prog 80 [LI xs] (AI xs.length) := by
  refine CallA.of Try.func80 rfl (by kernel_rfl) ?_
  exact R.go 10 (R.retE (AI xs.length) (by kernel_rfl) (by kernel_rfl) (by rfl))

theorem l01One_c (n : Int) (h0 : 0 ≤ n) (h1 : n ≤ 62) : CallA Try.prog 86 [AI n] (AI (shl64 1 n)) := by
  refine CallA.of Try.func86 rfl (by kernel_rfl) ?_
  refine R.go 7 (R.cv .u64 n (by kernel_rfl) (u64_id (by omega) (by omega)) (by kernel_rfl) ?_)
  refine R.shl 1 n (by kernel_rfl) (by omega) (by kernel_rfl) ?_
  exact R.go 2 (R.retE (AI (shl64 1 n)) (by kernel_rfl) (by kernel_rfl) (by rfl))

theorem l01Full_c (n : Int) (h0 : 0 ≤ n) (h1 : n ≤ 62) : CallA Try.prog 46 [AI n] (AI ((shl64 1 n) - 1)) := by
  have hb : 1 ≤ shl64 1 n ∧ shl64 1 n ≤ 4611686018427387904 := shl_rng n h0 h1
  refine CallA.of Try.func46 rfl (by kernel_rfl) ?_
  refine R.go 7 (R.call true (l01One_c n h0 h1) (by kernel_rfl) rfl (by kernel_rfl) ?_)
  refine R.ar ((shl64 1 n) - 1) (by kernel_rfl) (by omega) (by omega) (by kernel_rfl) ?_
  exact R.go 2 (R.retE (AI ((shl64 1 n) - 1)) (by kernel_rfl) (by kernel_rfl) (by rfl))

theorem l01Own_c (xs : List Int) (hl : xs.length ≤ 1000000000) : CallA Try.prog 102 [LI xs] (ownA eI 2 1 xs) := by
  refine CallA.of Try.func102 rfl (by kernel_rfl) ?_
  refine R.go 8 (R.app eI [] xs 0 2 1 8 (by kernel_rfl) eI_one (by decide) (by first | omega | (simp <;> omega)) (by kernel_rfl) ?_)
  exact R.go 2 (R.retE (ownA eI 2 1 ([] ++ xs)) (by kernel_rfl) (by kernel_rfl) (by first | (rfl) | (exfalso; omega)))

/-- How many parts a node of a kind has. -/
def partsN (k : Int) : Nat := if k = 2 ∨ k = 3 ∨ k = 4 then 2 else if k = 5 ∨ k = 6 then 1 else 0
theorem partsN_two (k : Int) : partsN k = 2 ↔ k = 2 ∨ k = 3 ∨ k = 4 := by
  unfold partsN
  split
  · simp_all
  · split <;> simp_all
theorem partsI_two (k : Int) : (partsN k : Int) = 2 ↔ k = 2 ∨ k = 3 ∨ k = 4 := by rw [← partsN_two]; omega
theorem partsN_le (k : Int) : partsN k ≤ 2 := by
  unfold partsN
  split
  · omega
  · split <;> omega

end Go.Proofs.Ytkanjgmocmhlkaa
