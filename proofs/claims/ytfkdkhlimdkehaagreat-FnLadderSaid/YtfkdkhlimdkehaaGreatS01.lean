/- Numbers, masks, boxes. -/
import Derived.Test.YtfkdkhlimdkehaaGreatProg
import Derived.Test.YtfkdkhlimdkehaaGreatSymV
namespace Go.Proofs.YtfkdkhlimdkehaaGreat
open Go.RowKit Go.Abs

def inR (n lo hi : Int) : Bool := decide (lo ≤ n) && decide (n ≤ hi)
theorem inR_iff (n lo hi : Int) : inR n lo hi = true ↔ lo ≤ n ∧ n ≤ hi := by simp [inR]
theorem inR_not (n lo hi : Int) : inR n lo hi = false ↔ ¬ (lo ≤ n ∧ n ≤ hi) := by
  rw [← inR_iff]; simp

theorem shl_one (n : Int) (h0 : 0 ≤ n) (h1 : n ≤ 62) : shl64 1 n = 2 ^ n.toNat := by
  obtain ⟨k, rfl⟩ := Int.eq_ofNat_of_zero_le h0
  unfold shl64
  rw [show min (k : Int).toNat 64 = k by omega, Int.one_mul, show (k : Int).toNat = k from rfl]
  have h2 : (2 : Int) ^ k ≤ 2 ^ 62 := by
    have := Nat.pow_le_pow_right (n := 2) (by decide) (show k ≤ 62 by omega)
    have h := Int.ofNat_le.2 this
    simpa using h
  have h3 : (0 : Int) ≤ 2 ^ k := Int.pow_nonneg (by decide)
  exact wrap_id (by omega) (by omega)
theorem shl_rng (n : Int) (h0 : 0 ≤ n) (h1 : n ≤ 62) : 1 ≤ shl64 1 n ∧ shl64 1 n ≤ 4611686018427387904 := by
  rw [shl_one n h0 h1]
  have h2 := Nat.pow_le_pow_right (n := 2) (by decide) (show n.toNat ≤ 62 by omega)
  have h3 : 0 < 2 ^ n.toNat := Nat.two_pow_pos _
  have e : (2 : Int) ^ n.toNat = ((2 ^ n.toNat : Nat) : Int) := by simp
  rw [e]
  generalize 2 ^ n.toNat = q at h2 h3
  omega

def boxB (xs : List Int) (m : Int) : Nat → Int
  | 0 => 0
  | i + 1 => if bnot (xs.getD i 0) m = 0 then bor (boxB xs m i) (shl64 1 i) else boxB xs m i
def boxA (xs : List Int) (m : Int) : Nat → Int
  | 0 => 0
  | i + 1 => if band (xs.getD i 0) m = xs.getD i 0 then bor (boxA xs m i) (shl64 1 i) else boxA xs m i

theorem inRange_c (n : Int) (lo : Int) (hi : Int) : CallA Tryz.prog 54 [AI n, AI lo, AI hi] (.bool (inR n lo hi)) := by
  refine CallA.of Tryz.func54 rfl (by kernel_rfl) ?_
  refine R.go 10 ?_
  by_cases c1 : lo ≤ n
  · refine R.want (decide (lo ≤ n)) true (by kernel_rfl) (dT c1) ?_
    refine R.go 1 (R.want (decide (lo ≤ n)) true (by kernel_rfl) (dT c1) ?_)
    refine R.go 1 (R.want (decide (lo ≤ n)) true (by kernel_rfl) (dT c1) ?_)
    refine R.go 1 (R.pick (decide (lo ≤ n)) true (by kernel_rfl) (dT c1) (by kernel_rfl) ?_)
    exact R.go 2 (R.retE (.bool (decide (n ≤ hi))) (by kernel_rfl) (by kernel_rfl) (by first | (simp [inR, *]) | (exfalso; omega)))
  · refine R.skp (decide (lo ≤ n)) true (by kernel_rfl) (dF c1) (by kernel_rfl) ?_
    refine R.skp (decide (lo ≤ n)) true (by kernel_rfl) (dF c1) (by kernel_rfl) ?_
    refine R.skp (decide (lo ≤ n)) true (by kernel_rfl) (dF c1) (by kernel_rfl) ?_
    refine R.pick (decide (lo ≤ n)) false (by kernel_rfl) (dF c1) (by kernel_rfl) ?_
    exact R.go 2 (R.retE (.bool false) (by kernel_rfl) (by kernel_rfl) (by first | (simp [inR, *]) | (exfalso; omega)))

theorem l01In_c (n : Int) (lo : Int) (hi : Int) : CallA Tryz.prog 80 [AI n, AI lo, AI hi] (.bool (inR n lo hi)) := by
  refine CallA.of Tryz.func80 rfl (by kernel_rfl) ?_
  refine R.go 10 ?_
  by_cases c1 : n ≥ lo
  · refine R.want (decide (n ≥ lo)) true (by kernel_rfl) (dT c1) ?_
    refine R.go 1 (R.want (decide (n ≥ lo)) true (by kernel_rfl) (dT c1) ?_)
    refine R.go 1 (R.want (decide (n ≥ lo)) true (by kernel_rfl) (dT c1) ?_)
    refine R.go 1 (R.pick (decide (n ≥ lo)) true (by kernel_rfl) (dT c1) (by kernel_rfl) ?_)
    exact R.go 2 (R.retE (.bool (decide (n ≤ hi))) (by kernel_rfl) (by kernel_rfl) (by first | (simp [inR, *]) | (exfalso; omega)))
  · refine R.skp (decide (n ≥ lo)) true (by kernel_rfl) (dF c1) (by kernel_rfl) ?_
    refine R.skp (decide (n ≥ lo)) true (by kernel_rfl) (dF c1) (by kernel_rfl) ?_
    refine R.skp (decide (n ≥ lo)) true (by kernel_rfl) (dF c1) (by kernel_rfl) ?_
    refine R.pick (decide (n ≥ lo)) false (by kernel_rfl) (dF c1) (by kernel_rfl) ?_
    exact R.go 2 (R.retE (.bool false) (by kernel_rfl) (by kernel_rfl) (by first | (simp [inR, *]) | (exfalso; omega)))

theorem within_c (a : Int) (b : Int) : CallA Tryz.prog 53 [AI a, AI b] (.bool (decide (bnot a b = 0))) := by
  refine CallA.of Tryz.func53 rfl (by kernel_rfl) ?_
  exact R.go 12 (R.retE (.bool (decide ((bnot a b) = 0))) (by kernel_rfl) (by kernel_rfl) (by first | (rfl) | (exfalso; omega)))

theorem size_c (xs : List Int) : CallA Tryz.prog 102 [LI xs] (AI xs.length) := by
  refine CallA.of Tryz.func102 rfl (by kernel_rfl) ?_
  exact R.go 10 (R.retE (AI xs.length) (by kernel_rfl) (by kernel_rfl) (by rfl))

theorem l01One_c (n : Int) (h0 : 0 ≤ n) (h1 : n ≤ 62) : CallA Tryz.prog 82 [AI n] (AI (shl64 1 n)) := by
  refine CallA.of Tryz.func82 rfl (by kernel_rfl) ?_
  refine R.go 7 (R.cv .u64 n (by kernel_rfl) (u64_id (by omega) (by omega)) (by kernel_rfl) ?_)
  refine R.shl 1 n (by kernel_rfl) (by omega) (by kernel_rfl) ?_
  exact R.go 2 (R.retE (AI (shl64 1 n)) (by kernel_rfl) (by kernel_rfl) (by rfl))

theorem l01Full_c (n : Int) (h0 : 0 ≤ n) (h1 : n ≤ 62) : CallA Tryz.prog 81 [AI n] (AI ((shl64 1 n) - 1)) := by
  have hb : 1 ≤ shl64 1 n ∧ shl64 1 n ≤ 4611686018427387904 := shl_rng n h0 h1
  refine CallA.of Tryz.func81 rfl (by kernel_rfl) ?_
  refine R.go 7 (R.call true (l01One_c n h0 h1) (by kernel_rfl) rfl (by kernel_rfl) ?_)
  refine R.ar ((shl64 1 n) - 1) (by kernel_rfl) (by omega) (by omega) (by kernel_rfl) ?_
  exact R.go 2 (R.retE (AI ((shl64 1 n) - 1)) (by kernel_rfl) (by kernel_rfl) (by rfl))

theorem l01Own_c (xs : List Int) (hl : xs.length ≤ 1000000000) : CallA Tryz.prog 110 [LI xs] (ownA eI 2 1 xs) := by
  refine CallA.of Tryz.func110 rfl (by kernel_rfl) ?_
  refine R.go 8 (R.app eI [] xs 0 2 1 8 (by kernel_rfl) eI_one (by decide) (by first | omega | (simp <;> omega)) (by kernel_rfl) ?_)
  exact R.go 2 (R.retE (ownA eI 2 1 ([] ++ xs)) (by kernel_rfl) (by kernel_rfl) (by first | (rfl) | (exfalso; omega)))

/-- How many parts a node of a kind has. -/
def partsN (k : Int) : Nat := if k = 2 ∨ k = 3 ∨ k = 4 then 2 else if k = 5 ∨ k = 6 then 1 else 0
theorem partsN_two (k : Int) : partsN k = 2 ↔ k = 2 ∨ k = 3 ∨ k = 4 := by
  unfold partsN
  split
  · simp_all
  · split <;> simp_all
theorem partsI_two (k : Int) : (partsN k : Int) = 2 ↔ k = 2 ∨ k = 3 ∨ k = 4 := by rw [← partsN_two]; omega
theorem partsN_le (k : Int) : partsN k ≤ 2 := by
  unfold partsN
  split
  · omega
  · split <;> omega

theorem partsOf_c (k : Int) : CallA Tryz.prog 43 [AI k] (AI (partsN k : Int)) := by
  refine CallA.of Tryz.func43 rfl (by kernel_rfl) ?_
  refine R.go 16 (R.cond (k = 2) (by kernel_rfl) (fun c1 => ?_) (fun c1 => ?_))
  · refine R.go 1 (R.thn (decide (k = 2)) (by kernel_rfl) (dT c1) ?_)
    exact R.go 4 (R.retE (AI 2) (by kernel_rfl) (by kernel_rfl) (by first | (simp [partsN, *]) | (exfalso; omega)))
  · refine R.go 5 (R.cond (k = 3) (by kernel_rfl) (fun c2 => ?_) (fun c2 => ?_))
    · refine R.go 1 (R.thn (decide (k = 3)) (by kernel_rfl) (dT c2) ?_)
      exact R.go 4 (R.retE (AI 2) (by kernel_rfl) (by kernel_rfl) (by first | (simp [partsN, *]) | (exfalso; omega)))
    · refine R.go 4 (R.cond (k = 4) (by kernel_rfl) (fun c3 => ?_) (fun c3 => ?_))
      · exact R.go 4 (R.retE (AI 2) (by kernel_rfl) (by kernel_rfl) (by first | (simp [partsN, *]) | (exfalso; omega)))
      · refine R.go 6 (R.cond (k = 5) (by kernel_rfl) (fun c4 => ?_) (fun c4 => ?_))
        · refine R.go 1 (R.thn (decide (k = 5)) (by kernel_rfl) (dT c4) ?_)
          exact R.go 4 (R.retE (AI 1) (by kernel_rfl) (by kernel_rfl) (by first | (simp [partsN, *]) | (exfalso; omega)))
        · refine R.go 4 (R.cond (k = 6) (by kernel_rfl) (fun c5 => ?_) (fun c5 => ?_))
          · exact R.go 4 (R.retE (AI 1) (by kernel_rfl) (by kernel_rfl) (by first | (simp [partsN, *]) | (exfalso; omega)))
          · exact R.go 6 (R.retE (AI 0) (by kernel_rfl) (by kernel_rfl) (by first | (simp [partsN, *]) | (exfalso; omega)))

theorem box_c (xs : List Int) (m : Int) (hb : xs.length ≤ 60) : CallA Tryz.prog 78 [LI xs, AI m] (AI (boxB xs m xs.length)) := by
  refine CallA.of Tryz.func78 rfl (by kernel_rfl) ?_
  refine R.go 16 (R.loop ((fun | (i, r) => (⟨(frm 24 [(1, AI m), (5, AI r), (8, LI xs), (9, AI xs.length), (10, AI (i : Int))]), []⟩ : St) : Nat × Int → St)) (fun | (i, r) => (i ≤ xs.length) ∧ (r = boxB xs m i)) (fun | (i, r) => xs.length - i) (0, 0) [1, 5, 8, 9, 10] none (by kernel_rfl) (by kernel_rfl) (by kernel_rfl) ⟨(by omega), (by rfl)⟩ ?_)
  rintro ⟨i, r⟩ ⟨h4_1, rfl⟩ R1 N2
  refine R.go 5 (R.cond ((i : Int) < (xs.length : Int)) (by kernel_rfl) (fun c5 => ?_) (fun c5 => ?_))
  · refine R.go 6 (R.idx eI xs 0 i (i : Int) (by kernel_rfl) rfl eI_len (by omega) (by kernel_rfl) ?_)
    refine R.go 8 (R.call true (within_c (xs.getD i 0) m) (by kernel_rfl) rfl (by kernel_rfl) ?_)
    refine R.go 1 (R.cond (bnot (xs.getD i 0) m = 0) (by kernel_rfl) (fun c6 => ?_) (fun c6 => ?_))
    · refine R.go 3 (R.shl 1 (i : Int) (by kernel_rfl) (by omega) (by kernel_rfl) ?_)
      refine R.go 5 (R.ar ((i : Int) + 1) (by kernel_rfl) (by omega) (by omega) (by kernel_rfl) ?_)
      exact R.go 2 (R.stop R1 (by kernel_rfl) (N2 (i + 1, bor (boxB xs m i) (shl64 1 (i : Int))) [1, 5, 8, 9, 10] none _ (by kernel_rfl) (by kernel_rfl) ⟨(by omega), (by simp only [boxB]; split <;> first | rfl | contradiction)⟩ (by show (xs.length - (i + 1)) < (xs.length - i); omega)))
    · refine R.go 3 (R.ar ((i : Int) + 1) (by kernel_rfl) (by omega) (by omega) (by kernel_rfl) ?_)
      exact R.go 2 (R.stop R1 (by kernel_rfl) (N2 (i + 1, boxB xs m i) [1, 5, 8, 9, 10] none _ (by kernel_rfl) (by kernel_rfl) ⟨(by omega), (by simp only [boxB]; split <;> first | rfl | contradiction)⟩ (by show (xs.length - (i + 1)) < (xs.length - i); omega)))
  · exact R.go 6 (R.retE (AI (boxB xs m i)) (by kernel_rfl) (by kernel_rfl) (by first | (rw [show i = xs.length by omega]) | (exfalso; omega)))

theorem l01Box_c (xs : List Int) (m : Int) (hb : xs.length ≤ 60) : CallA Tryz.prog 83 [LI xs, AI m] (AI (boxA xs m xs.length)) := by
  refine CallA.of Tryz.func83 rfl (by kernel_rfl) ?_
  refine R.go 14 (R.loop ((fun | (i, r) => (⟨(frm 29 [(0, LI xs), (1, AI m), (5, AI r), (6, AI (i : Int))]), []⟩ : St) : Nat × Int → St)) (fun | (i, r) => (i ≤ xs.length) ∧ (r = boxA xs m i)) (fun | (i, r) => xs.length - i) (0, 0) [0, 1, 5, 6] none (by kernel_rfl) (by kernel_rfl) (by kernel_rfl) ⟨(by omega), (by rfl)⟩ ?_)
  rintro ⟨i, r⟩ ⟨h4_1, rfl⟩ R1 N2
  refine R.go 8 (R.cond ((i : Int) < (xs.length : Int)) (by kernel_rfl) (fun c5 => ?_) (fun c5 => ?_))
  · refine R.go 7 (R.idx eI xs 0 i (i : Int) (by kernel_rfl) rfl eI_len (by omega) (by kernel_rfl) ?_)
    refine R.go 5 (R.idx eI xs 0 i (i : Int) (by kernel_rfl) rfl eI_len (by omega) (by kernel_rfl) ?_)
    refine R.go 3 (R.cond ((band (xs.getD i 0) m) = (xs.getD i 0)) (by kernel_rfl) (fun c6 => ?_) (fun c6 => ?_))
    · refine R.go 3 (R.call true (l01One_c (i : Int) (by omega) (by omega)) (by kernel_rfl) rfl (by kernel_rfl) ?_)
      refine R.go 6 (R.ar ((i : Int) + 1) (by kernel_rfl) (by omega) (by omega) (by kernel_rfl) ?_)
      exact R.go 2 (R.stop R1 (by kernel_rfl) (N2 (i + 1, bor (boxA xs m i) (shl64 1 (i : Int))) [0, 1, 5, 6] none _ (by kernel_rfl) (by kernel_rfl) ⟨(by omega), (by simp only [boxA]; split <;> first | rfl | contradiction)⟩ (by show (xs.length - (i + 1)) < (xs.length - i); omega)))
    · refine R.go 4 (R.ar ((i : Int) + 1) (by kernel_rfl) (by omega) (by omega) (by kernel_rfl) ?_)
      exact R.go 2 (R.stop R1 (by kernel_rfl) (N2 (i + 1, boxA xs m i) [0, 1, 5, 6] none _ (by kernel_rfl) (by kernel_rfl) ⟨(by omega), (by simp only [boxA]; split <;> first | rfl | contradiction)⟩ (by show (xs.length - (i + 1)) < (xs.length - i); omega)))
  · exact R.go 6 (R.retE (AI (boxA xs m i)) (by kernel_rfl) (by kernel_rfl) (by first | (rw [show i = xs.length by omega]) | (exfalso; omega)))

end Go.Proofs.YtfkdkhlimdkehaaGreat
