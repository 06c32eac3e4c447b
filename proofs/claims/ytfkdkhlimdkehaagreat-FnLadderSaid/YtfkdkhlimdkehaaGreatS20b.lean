/- The ladder, indices and their sets. -/
import Derived.Test.YtfkdkhlimdkehaaGreatM01
namespace Go.Proofs.YtfkdkhlimdkehaaGreat
open Go.RowKit Go.Abs

/-- The rows of the ladder. -/
def ladM (xs : List Int) (x : Nat) : Int :=
  if 3 ≤ x then bor (bor (shl64 1 x) (xs.getD (x - 2) 0)) (xs.getD (x - 3) 0) else if 2 ≤ x then bor (shl64 1 x) (xs.getD (x - 2) 0) else shl64 1 x
def lad : Nat → List Int
  | 0 => []
  | x + 1 => lad x ++ [ladM (lad x) x]
@[simp] theorem lad_length : ∀ x, (lad x).length = x
  | 0 => rfl
  | x + 1 => by simp [lad, lad_length x]
def ladM' (xs : List Int) (x : Nat) : Int :=
  if x = 2 then bor (shl64 1 x) (xs.getD 0 0) else if 2 < x then bor (shl64 1 x) (bor (xs.getD (x - 2) 0) (xs.getD (x - 3) 0)) else shl64 1 x
theorem ladM_same (x : Nat) (h : x < 28) : ladM' (lad x) x = ladM (lad x) x := by
  have : ∀ x, x < 28 → ladM' (lad x) x = ladM (lad x) x := by decide +kernel
  exact this x h

/-- The set of an index. -/
def setI (i : Int) : Int :=
  if i < 0 then (shl64 1 28) - 1 else if i = 0 then 0 else if i % 2 = 1 then (shl64 1 ((i + 1) / 2)) - 1 else bor ((shl64 1 (i / 2 - 1)) - 1) (shl64 1 (i / 2))
/-- The index from 0 on with a set. -/
def ixN (m : Int) : Option Nat := (List.range 54).find? fun k => decide (setI (k : Int) = m)
def idx (m : Int) : Int := if m = (shl64 1 28) - 1 then -1 else match ixN m with | some k => (k : Int) | none => -1
def okM (m : Int) : Bool := decide (m = (shl64 1 28) - 1) || (ixN m).isSome

theorem idx_full {m : Int} (h : m = (shl64 1 28) - 1) : idx m = -1 := by simp only [idx]; rw [if_pos h]
theorem ixN_none {m : Int} (h : ∀ k : Nat, k < 54 → setI (k : Int) ≠ m) : ixN m = none := by
  simp only [ixN, List.find?_eq_none, List.mem_range, decide_eq_true_eq]
  exact h
theorem idx_at {m : Int} {k : Nat} (hf : m ≠ (shl64 1 28) - 1) (hk : k < 54) (h : setI (k : Int) = m) (hmin : ∀ j : Nat, j < k → setI (j : Int) ≠ m) : idx m = k := by
  simp only [idx]
  rw [if_neg hf]
  have : ixN m = some k := by
    simp only [ixN, List.find?_range_eq_some, decide_eq_true_eq, List.mem_range]
    exact ⟨h, hk, fun j hj => by simpa using hmin j hj⟩
  rw [this]
theorem ok_some {m : Int} (h : okM m = true) (hf : m ≠ (shl64 1 28) - 1) : ∃ k : Nat, k < 54 ∧ setI (k : Int) = m := by
  simp only [okM, Bool.or_eq_true, decide_eq_true_eq] at h
  rcases h with h | h
  · exact absurd h hf
  · obtain ⟨k, hk⟩ := Option.isSome_iff_exists.1 h
    simp only [ixN] at hk
    have h1 := List.find?_some hk
    have h2 := List.mem_of_find?_eq_some hk
    exact ⟨k, List.mem_range.1 h2, by simpa using h1⟩

theorem l16Make_c (xs : List Int) (hl : xs.length ≤ 1000000000) : CallA Tryz.prog 84 [LI xs] (.agg [AI xs.length, ownA eI 2 1 xs]) := by
  refine CallA.of Tryz.func84 rfl (by kernel_rfl) ?_
  refine R.go 9 (R.call true (l01Own_c xs hl) (by kernel_rfl) rfl (by kernel_rfl) ?_)
  exact R.go 3 (R.retE (.agg [AI xs.length, ownA eI 2 1 xs]) (by kernel_rfl) (by kernel_rfl) (by rfl))

theorem posetOf_c (xs : List Int) : CallA Tryz.prog 77 [LI xs] (.agg [AI xs.length, LI xs]) := by
  refine CallA.of Tryz.func77 rfl (by kernel_rfl) ?_
  refine R.go 7 (R.call true (size_c xs) (by kernel_rfl) rfl (by kernel_rfl) ?_)
  exact R.go 4 (R.retE (.agg [AI xs.length, LI xs]) (by kernel_rfl) (by kernel_rfl) (by rfl))

theorem l20Ladder_c (n : Nat) (hn : n ≤ 60) : CallA Tryz.prog 52 [AI (n : Int)] (.agg [AI (n : Int), ownA eI 2 1 (lad n)]) := by
  refine CallA.of Tryz.func52 rfl (by kernel_rfl) ?_
  refine R.go 15 (R.loop ((fun | (x, ys) => (⟨(frm 38 [(0, AI (n : Int)), (2, .ptr 0 0), (3, .ref 1), (4, AI (x : Int))]), [.box 29 [AI 0, .nil], rowA eI 2 1 ys]⟩ : St) : Nat × (List Int) → St)) (fun | (x, ys) => (x ≤ n) ∧ (ys = lad x)) (fun | (x, ys) => n - x) (0, []) [0, 2, 3, 4] none (by kernel_rfl) (by kernel_rfl) (by kernel_rfl) ⟨(by omega), (by rfl)⟩ ?_)
  rintro ⟨x, ys⟩ ⟨h4_1, rfl⟩ R1 N2
  have hl : (lad x).length = x := lad_length x
  refine R.go 7 (R.cond ((x : Int) < (n : Int)) (by kernel_rfl) (fun c5 => ?_) (fun c5 => ?_))
  · refine R.go 6 (R.call true (l01One_c (x : Int) (by omega) (by omega)) (by kernel_rfl) rfl (by kernel_rfl) ?_)
    refine R.go 8 (R.cond ((x : Int) ≥ 2) (by kernel_rfl) (fun c6 => ?_) (fun c6 => ?_))
    · refine R.go 4 (R.arE ((x : Int) - 2) ((x - 2 : Nat) : Int) (by kernel_rfl) (by omega) (by omega) (by omega) (by kernel_rfl) ?_)
      refine R.idxO 1 1 (lad x).length (x - 2) ((x - 2 : Nat) : Int) (by kernel_rfl) (by omega) (by omega) (by kernel_rfl) ?_
      refine R.ldI (lad x) (x - 2) (by kernel_rfl) (by omega) (by kernel_rfl) ?_
      refine R.go 9 (R.cond ((x : Int) ≥ 3) (by kernel_rfl) (fun c7 => ?_) (fun c7 => ?_))
      · refine R.go 4 (R.arE ((x : Int) - 3) ((x - 3 : Nat) : Int) (by kernel_rfl) (by omega) (by omega) (by omega) (by kernel_rfl) ?_)
        refine R.idxO 1 1 (lad x).length (x - 3) ((x - 3 : Nat) : Int) (by kernel_rfl) (by omega) (by omega) (by kernel_rfl) ?_
        refine R.ldI (lad x) (x - 3) (by kernel_rfl) (by omega) (by kernel_rfl) ?_
        refine R.go 7 (R.app eI (lad x) [bor (bor (shl64 1 (x : Int)) ((lad x).getD (x - 2) 0)) ((lad x).getD (x - 3) 0)] 1 2 1 8 (by kernel_rfl) eI_one (by decide) (by first | omega | (simp <;> omega)) (by kernel_rfl) ?_)
        refine R.go 5 (R.ar ((x : Int) + 1) (by kernel_rfl) (by omega) (by omega) (by kernel_rfl) ?_)
        exact R.go 2 (R.stop R1 (by kernel_rfl) (N2 (x + 1, (lad x) ++ [bor (bor (shl64 1 (x : Int)) ((lad x).getD (x - 2) 0)) ((lad x).getD (x - 3) 0)]) [0, 2, 3, 4] (some [0, 1]) _ (by kernel_rfl) (by kernel_rfl) ⟨(by omega), (by simp only [lad, ladM]; first | (exfalso; omega) | rw [if_pos (by omega)] | rw [if_neg (by omega), if_pos (by omega)] | rw [if_neg (by omega), if_neg (by omega)])⟩ (by show (n - (x + 1)) < (n - x); omega)))
      · refine R.go 5 (R.app eI (lad x) [bor (shl64 1 (x : Int)) ((lad x).getD (x - 2) 0)] 1 2 1 8 (by kernel_rfl) eI_one (by decide) (by first | omega | (simp <;> omega)) (by kernel_rfl) ?_)
        refine R.go 5 (R.ar ((x : Int) + 1) (by kernel_rfl) (by omega) (by omega) (by kernel_rfl) ?_)
        exact R.go 2 (R.stop R1 (by kernel_rfl) (N2 (x + 1, (lad x) ++ [bor (shl64 1 (x : Int)) ((lad x).getD (x - 2) 0)]) [0, 2, 3, 4] (some [0, 1]) _ (by kernel_rfl) (by kernel_rfl) ⟨(by omega), (by simp only [lad, ladM]; first | (exfalso; omega) | rw [if_pos (by omega)] | rw [if_neg (by omega), if_pos (by omega)] | rw [if_neg (by omega), if_neg (by omega)])⟩ (by show (n - (x + 1)) < (n - x); omega)))
    · refine R.go 7 (R.cond ((x : Int) ≥ 3) (by kernel_rfl) (fun c8 => ?_) (fun c8 => ?_))
      · refine R.go 4 (R.arE ((x : Int) - 3) ((x - 3 : Nat) : Int) (by kernel_rfl) (by omega) (by omega) (by omega) (by kernel_rfl) ?_)
        refine R.idxO 1 1 (lad x).length (x - 3) ((x - 3 : Nat) : Int) (by kernel_rfl) (by omega) (by omega) (by kernel_rfl) ?_
        refine R.ldI (lad x) (x - 3) (by kernel_rfl) (by omega) (by kernel_rfl) ?_
        refine R.go 7 (R.app eI (lad x) [bor (shl64 1 (x : Int)) ((lad x).getD (x - 3) 0)] 1 2 1 8 (by kernel_rfl) eI_one (by decide) (by first | omega | (simp <;> omega)) (by kernel_rfl) ?_)
        refine R.go 5 (R.ar ((x : Int) + 1) (by kernel_rfl) (by omega) (by omega) (by kernel_rfl) ?_)
        exact R.go 2 (R.stop R1 (by kernel_rfl) (N2 (x + 1, (lad x) ++ [bor (shl64 1 (x : Int)) ((lad x).getD (x - 3) 0)]) [0, 2, 3, 4] (some [0, 1]) _ (by kernel_rfl) (by kernel_rfl) ⟨(by omega), (by simp only [lad, ladM]; first | (exfalso; omega) | rw [if_pos (by omega)] | rw [if_neg (by omega), if_pos (by omega)] | rw [if_neg (by omega), if_neg (by omega)])⟩ (by show (n - (x + 1)) < (n - x); omega)))
      · refine R.go 5 (R.app eI (lad x) [shl64 1 (x : Int)] 1 2 1 8 (by kernel_rfl) eI_one (by decide) (by first | omega | (simp <;> omega)) (by kernel_rfl) ?_)
        refine R.go 5 (R.ar ((x : Int) + 1) (by kernel_rfl) (by omega) (by omega) (by kernel_rfl) ?_)
        exact R.go 2 (R.stop R1 (by kernel_rfl) (N2 (x + 1, (lad x) ++ [shl64 1 (x : Int)]) [0, 2, 3, 4] (some [0, 1]) _ (by kernel_rfl) (by kernel_rfl) ⟨(by omega), (by simp only [lad, ladM]; first | (exfalso; omega) | rw [if_pos (by omega)] | rw [if_neg (by omega), if_pos (by omega)] | rw [if_neg (by omega), if_neg (by omega)])⟩ (by show (n - (x + 1)) < (n - x); omega)))
  · refine R.go 4 (R.call false (l16Make_c (lad x) (by first | omega | (simp <;> omega))) (by kernel_rfl) (by simp [AV.closed, closedL, AI, ownA_closed eI_closed]) (by kernel_rfl) ?_)
    exact R.go 2 (R.retE (.agg [AI ((lad x).length), ownA eI 2 1 (lad x)]) (by kernel_rfl) (by kernel_rfl) (by first | (simp only [lad_length]; rw [show x = n by omega]) | (exfalso; omega)))

theorem ladder_c (n : Nat) (hn : n ≤ 28) : CallA Tryz.prog 46 [AI (n : Int)] (.agg [AI (n : Int), LI (lad n)]) := by
  refine CallA.of Tryz.func46 rfl (by kernel_rfl) ?_
  refine R.go 15 (R.nil 3 2 1 (by kernel_rfl) ?_)
  refine R.loop ((fun | (x, ys) => (⟨(frm 43 [(2, .ptr 0 0), (3, .ref 1), (6, AI (n : Int)), (7, AI (x : Int))]), [.box 29 [AI 0, .nil], rowA eI 2 1 ys]⟩ : St) : Nat × (List Int) → St)) (fun | (x, ys) => (x ≤ n) ∧ (ys = lad x)) (fun | (x, ys) => n - x) (0, []) [2, 3, 6, 7] none (by kernel_rfl) (by kernel_rfl) (by kernel_rfl) ⟨(by omega), (by rfl)⟩ ?_
  rintro ⟨x, ys⟩ ⟨h4_1, rfl⟩ R1 N2
  have hl : (lad x).length = x := lad_length x
  refine R.go 5 (R.cond ((x : Int) < (n : Int)) (by kernel_rfl) (fun c5 => ?_) (fun c5 => ?_))
  · refine R.go 11 (R.shl 1 (x : Int) (by kernel_rfl) (by omega) (by kernel_rfl) ?_)
    refine R.go 10 (R.cond ((x : Int) = 2) (by kernel_rfl) (fun c6 => ?_) (fun c6 => ?_))
    · refine R.go 3 (R.idxO 1 1 (lad x).length 0 0 (by kernel_rfl) rfl (by omega) (by kernel_rfl) ?_)
      refine R.ldI (lad x) 0 (by kernel_rfl) (by omega) (by kernel_rfl) ?_
      refine R.go 8 (R.app eI (lad x) [bor (shl64 1 (x : Int)) ((lad x).getD 0 0)] 1 2 1 8 (by kernel_rfl) eI_one (by decide) (by first | omega | (simp <;> omega)) (by kernel_rfl) ?_)
      refine R.go 4 (R.ar ((x : Int) + 1) (by kernel_rfl) (by omega) (by omega) (by kernel_rfl) ?_)
      exact R.go 2 (R.stop R1 (by kernel_rfl) (N2 (x + 1, (lad x) ++ [bor (shl64 1 (x : Int)) ((lad x).getD 0 0)]) [2, 3, 6, 7] (some [0, 1]) _ (by kernel_rfl) (by kernel_rfl) ⟨(by omega), (by rw [lad, ← ladM_same x (by omega), ladM']; first | rw [if_pos (by omega)] | rw [if_neg (by omega), if_pos (by omega)] | rw [if_neg (by omega), if_neg (by omega)])⟩ (by show (n - (x + 1)) < (n - x); omega)))
    · refine R.go 6 (R.cond ((x : Int) > 2) (by kernel_rfl) (fun c7 => ?_) (fun c7 => ?_))
      · refine R.go 4 (R.arE ((x : Int) - 2) ((x - 2 : Nat) : Int) (by kernel_rfl) (by omega) (by omega) (by omega) (by kernel_rfl) ?_)
        refine R.idxO 1 1 (lad x).length (x - 2) ((x - 2 : Nat) : Int) (by kernel_rfl) (by omega) (by omega) (by kernel_rfl) ?_
        refine R.ldI (lad x) (x - 2) (by kernel_rfl) (by omega) (by kernel_rfl) ?_
        refine R.go 2 (R.arE ((x : Int) - 3) ((x - 3 : Nat) : Int) (by kernel_rfl) (by omega) (by omega) (by omega) (by kernel_rfl) ?_)
        refine R.idxO 1 1 (lad x).length (x - 3) ((x - 3 : Nat) : Int) (by kernel_rfl) (by omega) (by omega) (by kernel_rfl) ?_
        refine R.ldI (lad x) (x - 3) (by kernel_rfl) (by omega) (by kernel_rfl) ?_
        refine R.go 9 (R.app eI (lad x) [bor (shl64 1 (x : Int)) (bor ((lad x).getD (x - 2) 0) ((lad x).getD (x - 3) 0))] 1 2 1 8 (by kernel_rfl) eI_one (by decide) (by first | omega | (simp <;> omega)) (by kernel_rfl) ?_)
        refine R.go 4 (R.ar ((x : Int) + 1) (by kernel_rfl) (by omega) (by omega) (by kernel_rfl) ?_)
        exact R.go 2 (R.stop R1 (by kernel_rfl) (N2 (x + 1, (lad x) ++ [bor (shl64 1 (x : Int)) (bor ((lad x).getD (x - 2) 0) ((lad x).getD (x - 3) 0))]) [2, 3, 6, 7] (some [0, 1]) _ (by kernel_rfl) (by kernel_rfl) ⟨(by omega), (by rw [lad, ← ladM_same x (by omega), ladM']; first | rw [if_pos (by omega)] | rw [if_neg (by omega), if_pos (by omega)] | rw [if_neg (by omega), if_neg (by omega)])⟩ (by show (n - (x + 1)) < (n - x); omega)))
      · refine R.go 6 (R.app eI (lad x) [shl64 1 (x : Int)] 1 2 1 8 (by kernel_rfl) eI_one (by decide) (by first | omega | (simp <;> omega)) (by kernel_rfl) ?_)
        refine R.go 4 (R.ar ((x : Int) + 1) (by kernel_rfl) (by omega) (by omega) (by kernel_rfl) ?_)
        exact R.go 2 (R.stop R1 (by kernel_rfl) (N2 (x + 1, (lad x) ++ [shl64 1 (x : Int)]) [2, 3, 6, 7] (some [0, 1]) _ (by kernel_rfl) (by kernel_rfl) ⟨(by omega), (by rw [lad, ← ladM_same x (by omega), ladM']; first | rw [if_pos (by omega)] | rw [if_neg (by omega), if_pos (by omega)] | rw [if_neg (by omega), if_neg (by omega)])⟩ (by show (n - (x + 1)) < (n - x); omega)))
  · refine R.go 4 (R.frz 1 (by kernel_rfl) ?_)
    refine R.call true (posetOf_c (lad x)) (by kernel_rfl) rfl (by kernel_rfl) ?_
    exact R.go 2 (R.retE (.agg [AI ((lad x).length), LI (lad x)]) (by kernel_rfl) (by kernel_rfl) (by first | (simp only [lad_length]; rw [show x = n by omega]) | (exfalso; omega)))

theorem l20In_c (i : Int) : CallA Tryz.prog 48 [AI i] (.bool (inR i (-1) 40)) := by
  refine CallA.of Tryz.func48 rfl (by kernel_rfl) ?_
  refine R.go 7 (R.call true (l01In_c i (-1) 40) (by kernel_rfl) rfl (by kernel_rfl) ?_)
  exact R.go 2 (R.retE (.bool (inR i (-1) 40)) (by kernel_rfl) (by kernel_rfl) (by rfl))

theorem isIndex_c (i : Int) : CallA Tryz.prog 42 [AI i] (.bool (inR i (-1) 40)) := by
  refine CallA.of Tryz.func42 rfl (by kernel_rfl) ?_
  refine R.go 7 (R.call true (inRange_c i (-1) 40) (by kernel_rfl) rfl (by kernel_rfl) ?_)
  exact R.go 2 (R.retE (.bool (inR i (-1) 40)) (by kernel_rfl) (by kernel_rfl) (by rfl))

theorem l20Set_c (i : Int) (h0 : -1 ≤ i) (h1 : i ≤ 100) : CallA Tryz.prog 49 [AI i] (AI (setI i)) := by
  refine CallA.of Tryz.func49 rfl (by kernel_rfl) ?_
  skip
  refine R.go 12 (R.cond (i < 0) (by kernel_rfl) (fun c1 => ?_) (fun c1 => ?_))
  · refine R.go 2 (R.call true (l01Full_c 28 (by omega) (by omega)) (by kernel_rfl) rfl (by kernel_rfl) ?_)
    exact R.go 2 (R.retE (AI ((shl64 1 28) - 1)) (by kernel_rfl) (by kernel_rfl) (by first | (simp only [setI]; first | rw [if_pos (by omega)] | rw [if_neg (by omega), if_pos (by omega)] | rw [if_neg (by omega), if_neg (by omega), if_pos (by omega)] | rw [if_neg (by omega), if_neg (by omega), if_neg (by omega)]) | (exfalso; omega)))
  · refine R.go 6 (R.cond (i = 0) (by kernel_rfl) (fun c2 => ?_) (fun c2 => ?_))
    · exact R.go 4 (R.retE (AI 0) (by kernel_rfl) (by kernel_rfl) (by first | (simp only [setI]; first | rw [if_pos (by omega)] | rw [if_neg (by omega), if_pos (by omega)] | rw [if_neg (by omega), if_neg (by omega), if_pos (by omega)] | rw [if_neg (by omega), if_neg (by omega), if_neg (by omega)]) | (exfalso; omega)))
    · refine R.go 3 (R.rem i 2 (by kernel_rfl) (by omega) (by omega) (by kernel_rfl) ?_)
      refine R.go 3 (R.cond ((i % 2) = 1) (by kernel_rfl) (fun c3 => ?_) (fun c3 => ?_))
      · refine R.go 3 (R.ar (i + 1) (by kernel_rfl) (by omega) (by omega) (by kernel_rfl) ?_)
        refine R.quo (i + 1) 2 (by kernel_rfl) (by omega) (by omega) (by omega) (by kernel_rfl) ?_
        refine R.call true (l01Full_c ((i + 1) / 2) (by omega) (by omega)) (by kernel_rfl) rfl (by kernel_rfl) ?_
        exact R.go 2 (R.retE (AI ((shl64 1 ((i + 1) / 2)) - 1)) (by kernel_rfl) (by kernel_rfl) (by first | (simp only [setI]; first | rw [if_pos (by omega)] | rw [if_neg (by omega), if_pos (by omega)] | rw [if_neg (by omega), if_neg (by omega), if_pos (by omega)] | rw [if_neg (by omega), if_neg (by omega), if_neg (by omega)]) | (exfalso; omega)))
      · refine R.go 5 (R.quo i 2 (by kernel_rfl) (by omega) (by omega) (by omega) (by kernel_rfl) ?_)
        refine R.ar ((i / 2) - 1) (by kernel_rfl) (by omega) (by omega) (by kernel_rfl) ?_
        refine R.call true (l01Full_c ((i / 2) - 1) (by omega) (by omega)) (by kernel_rfl) rfl (by kernel_rfl) ?_
        refine R.go 1 (R.quo i 2 (by kernel_rfl) (by omega) (by omega) (by omega) (by kernel_rfl) ?_)
        refine R.call true (l01One_c (i / 2) (by omega) (by omega)) (by kernel_rfl) rfl (by kernel_rfl) ?_
        exact R.go 3 (R.retE (AI (bor ((shl64 1 ((i / 2) - 1)) - 1) (shl64 1 (i / 2)))) (by kernel_rfl) (by kernel_rfl) (by first | (simp only [setI]; first | rw [if_pos (by omega)] | rw [if_neg (by omega), if_pos (by omega)] | rw [if_neg (by omega), if_neg (by omega), if_pos (by omega)] | rw [if_neg (by omega), if_neg (by omega), if_neg (by omega)]) | (exfalso; omega)))

theorem indexSet_c (i : Int) (h0 : -1 ≤ i) (h1 : i ≤ 100) : CallA Tryz.prog 44 [AI i] (AI (setI i)) := by
  refine CallA.of Tryz.func44 rfl (by kernel_rfl) ?_
  refine R.go 12 (R.cond (i = (-1)) (by kernel_rfl) (fun c1 => ?_) (fun c1 => ?_))
  · exact R.go 4 (R.retE (AI 268435455) (by kernel_rfl) (by kernel_rfl) (by first | (simp only [setI]; first | (rw [if_pos (by omega)]; rfl) | rw [if_neg (by omega), if_pos (by omega)] | rw [if_neg (by omega), if_neg (by omega), if_pos (by omega), show (i + 1) / 2 = i / 2 + 1 by omega] | rw [if_neg (by omega), if_neg (by omega), if_neg (by omega), show i / 2 - 1 + 1 = i / 2 by omega]) | (exfalso; omega)))
  · refine R.go 6 (R.cond (i = 0) (by kernel_rfl) (fun c2 => ?_) (fun c2 => ?_))
    · exact R.go 4 (R.retE (AI 0) (by kernel_rfl) (by kernel_rfl) (by first | (simp only [setI]; first | (rw [if_pos (by omega)]; rfl) | rw [if_neg (by omega), if_pos (by omega)] | rw [if_neg (by omega), if_neg (by omega), if_pos (by omega), show (i + 1) / 2 = i / 2 + 1 by omega] | rw [if_neg (by omega), if_neg (by omega), if_neg (by omega), show i / 2 - 1 + 1 = i / 2 by omega]) | (exfalso; omega)))
    · refine R.go 3 (R.rem i 2 (by kernel_rfl) (by omega) (by omega) (by kernel_rfl) ?_)
      refine R.go 3 (R.cond ((i % 2) = 1) (by kernel_rfl) (fun c3 => ?_) (fun c3 => ?_))
      · refine R.go 3 (R.quo i 2 (by kernel_rfl) (by omega) (by omega) (by omega) (by kernel_rfl) ?_)
        refine R.ar ((i / 2) + 1) (by kernel_rfl) (by omega) (by omega) (by kernel_rfl) ?_
        refine R.shl 1 ((i / 2) + 1) (by kernel_rfl) (by omega) (by kernel_rfl) ?_
        have hs1 : 1 ≤ shl64 1 (i / 2 + 1) ∧ shl64 1 (i / 2 + 1) ≤ 4611686018427387904 := shl_rng _ (by omega) (by omega)
        refine R.ar ((shl64 1 ((i / 2) + 1)) - 1) (by kernel_rfl) (by omega) (by omega) (by kernel_rfl) ?_
        exact R.go 2 (R.retE (AI ((shl64 1 ((i / 2) + 1)) - 1)) (by kernel_rfl) (by kernel_rfl) (by first | (simp only [setI]; first | (rw [if_pos (by omega)]; rfl) | rw [if_neg (by omega), if_pos (by omega)] | rw [if_neg (by omega), if_neg (by omega), if_pos (by omega), show (i + 1) / 2 = i / 2 + 1 by omega] | rw [if_neg (by omega), if_neg (by omega), if_neg (by omega), show i / 2 - 1 + 1 = i / 2 by omega]) | (exfalso; omega)))
      · refine R.go 5 (R.quo i 2 (by kernel_rfl) (by omega) (by omega) (by omega) (by kernel_rfl) ?_)
        refine R.ar ((i / 2) - 1) (by kernel_rfl) (by omega) (by omega) (by kernel_rfl) ?_
        refine R.go 5 (R.shl 1 ((i / 2) - 1) (by kernel_rfl) (by omega) (by kernel_rfl) ?_)
        have hs2 : 1 ≤ shl64 1 (i / 2 - 1) ∧ shl64 1 (i / 2 - 1) ≤ 4611686018427387904 := shl_rng _ (by omega) (by omega)
        refine R.ar ((shl64 1 ((i / 2) - 1)) - 1) (by kernel_rfl) (by omega) (by omega) (by kernel_rfl) ?_
        refine R.go 1 (R.ar (((i / 2) - 1) + 1) (by kernel_rfl) (by omega) (by omega) (by kernel_rfl) ?_)
        refine R.shl 1 (((i / 2) - 1) + 1) (by kernel_rfl) (by omega) (by kernel_rfl) ?_
        exact R.go 3 (R.retE (AI (bor ((shl64 1 ((i / 2) - 1)) - 1) (shl64 1 (((i / 2) - 1) + 1)))) (by kernel_rfl) (by kernel_rfl) (by first | (simp only [setI]; first | (rw [if_pos (by omega)]; rfl) | rw [if_neg (by omega), if_pos (by omega)] | rw [if_neg (by omega), if_neg (by omega), if_pos (by omega), show (i + 1) / 2 = i / 2 + 1 by omega] | rw [if_neg (by omega), if_neg (by omega), if_neg (by omega), show i / 2 - 1 + 1 = i / 2 by omega]) | (exfalso; omega)))

end Go.Proofs.YtfkdkhlimdkehaaGreat
