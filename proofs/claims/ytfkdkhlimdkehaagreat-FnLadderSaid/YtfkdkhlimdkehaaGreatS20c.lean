/- Joins of indices. -/
import Derived.Test.YtfkdkhlimdkehaaGreatS20b
namespace Go.Proofs.YtfkdkhlimdkehaaGreat
open Go.RowKit Go.Abs

theorem okM_full : okM ((shl64 1 28) - 1) = true := by decide +kernel

theorem indexOf_c (m : Int) (hk : okM m = true) : CallA Tryz.prog 45 [AI m] (AI (idx m)) := by
  refine CallA.of Tryz.func45 rfl (by kernel_rfl) ?_
  refine R.go 10 (R.loop (fun (q : Int) => (⟨(frm 13 [(0, AI m), (3, AI q)]), []⟩ : St)) (fun (q : Int) => (-1 ≤ q) ∧ (q ≤ 54) ∧ (-1 < q → m ≠ (shl64 1 28) - 1) ∧ (∀ j : Nat, (j : Int) < q → setI (j : Int) ≠ m)) (fun (q : Int) => (54 - q).toNat) (-1) [0, 3] none (by kernel_rfl) (by kernel_rfl) (by kernel_rfl) ⟨(by omega), (by omega), (by omega), (by intro j hj; omega)⟩ ?_)
  rintro q ⟨h3_1, h3_2, h3_3, h3_4⟩ R1 N2
  refine R.go 6 (R.cond (q < 54) (by kernel_rfl) (fun c4 => ?_) (fun c4 => ?_))
  · refine R.go 6 (R.call true (indexSet_c q h3_1 (by omega)) (by kernel_rfl) rfl (by kernel_rfl) ?_)
    refine R.go 3 (R.cond ((setI q) = m) (by kernel_rfl) (fun c5 => ?_) (fun c5 => ?_))
    · exact R.go 5 (R.retE (AI q) (by kernel_rfl) (by kernel_rfl) (by first | (first | exact congrArg AI (by rcases Int.lt_or_le (-1) q with hq | hq; obtain ⟨k, rfl⟩ := Int.eq_ofNat_of_zero_le (show 0 ≤ q by omega); exact (idx_at (‹-1 < (k : Int) → m ≠ (shl64 1 28) - 1› hq) (by omega) ‹setI (k : Int) = m› (fun j hj => (‹∀ j : Nat, (j : Int) < (k : Int) → setI (j : Int) ≠ m› j (by omega)))).symm; have h := ‹setI q = m›; rw [show q = -1 by omega] at h ⊢; exact (idx_full h.symm).symm) | (exfalso; obtain ⟨k, hk1, hk2⟩ := ok_some hk (‹-1 < q → m ≠ (shl64 1 28) - 1› (by omega)); exact (‹∀ j : Nat, (j : Int) < q → setI (j : Int) ≠ m› k (by omega)) hk2)) | (exfalso; omega)))
    · refine R.go 4 (R.ar (q + 1) (by kernel_rfl) (by omega) (by omega) (by kernel_rfl) ?_)
      exact R.go 2 (R.stop R1 (by kernel_rfl) (N2 (q + 1) [0, 3] none _ (by kernel_rfl) (by kernel_rfl) ⟨(by omega), (by omega), (by intro _ hf; rcases Int.lt_or_le (-1) q with hq | hq; exact (‹-1 < q → m ≠ (shl64 1 28) - 1› hq) hf; exact ‹¬ setI q = m› (by rw [show q = -1 by omega, hf]; rfl)), (by intro j hj he; rcases Int.lt_or_le (j : Int) q with hq | hq; exact (‹∀ j : Nat, (j : Int) < q → setI (j : Int) ≠ m› j hq) he; exact ‹¬ setI q = m› (by rw [← he, show q = (j : Int) by omega]))⟩ (by show ((54 - (q + 1)).toNat) < ((54 - q).toNat); omega)))
  · exact R.go 5 (R.retE (AI (-1)) (by kernel_rfl) (by kernel_rfl) (by first | (first | exact congrArg AI (by rcases Int.lt_or_le (-1) q with hq | hq; obtain ⟨k, rfl⟩ := Int.eq_ofNat_of_zero_le (show 0 ≤ q by omega); exact (idx_at (‹-1 < (k : Int) → m ≠ (shl64 1 28) - 1› hq) (by omega) ‹setI (k : Int) = m› (fun j hj => (‹∀ j : Nat, (j : Int) < (k : Int) → setI (j : Int) ≠ m› j (by omega)))).symm; have h := ‹setI q = m›; rw [show q = -1 by omega] at h ⊢; exact (idx_full h.symm).symm) | (exfalso; obtain ⟨k, hk1, hk2⟩ := ok_some hk (‹-1 < q → m ≠ (shl64 1 28) - 1› (by omega)); exact (‹∀ j : Nat, (j : Int) < q → setI (j : Int) ≠ m› k (by omega)) hk2)) | (exfalso; omega)))

theorem l20Index_c (m : Int) (hk : okM m = true) : CallA Tryz.prog 50 [AI m] (AI (idx m)) := by
  refine CallA.of Tryz.func50 rfl (by kernel_rfl) ?_
  refine R.go 8 (R.call true (l01Full_c 28 (by omega) (by omega)) (by kernel_rfl) rfl (by kernel_rfl) ?_)
  refine R.go 2 (R.cond (m = ((shl64 1 28) - 1)) (by kernel_rfl) (fun c1 => ?_) (fun c1 => ?_))
  · exact R.go 4 (R.retE (AI (-1)) (by kernel_rfl) (by kernel_rfl) (by first | (first | exact congrArg AI (idx_full (by assumption)).symm | exact congrArg AI (idx_at (by assumption) (by omega) (by assumption) (by assumption)).symm) | (exfalso; omega)))
  · refine R.go 7 (R.loop (fun (q : Nat) => (⟨(frm 14 [(0, AI m), (3, AI (q : Int))]), []⟩ : St)) (fun (q : Nat) => (q ≤ 53) ∧ (∀ j : Nat, j < q → setI (j : Int) ≠ m)) (fun (q : Nat) => 54 - q) 0 [0, 3] none (by kernel_rfl) (by kernel_rfl) (by kernel_rfl) ⟨(by omega), (by intro j hj; omega)⟩ ?_)
    rintro q ⟨h4_1, h4_2⟩ R2 N3
    obtain ⟨k, hk1, hk2⟩ := ok_some hk (by assumption)
    have hq : q ≤ k := by rcases Nat.lt_or_ge k q with h | h; exact absurd hk2 (‹∀ j : Nat, j < q → setI (j : Int) ≠ m› k h); exact h
    refine R.go 4 (R.call true (l20Set_c (q : Int) (by omega) (by omega)) (by kernel_rfl) rfl (by kernel_rfl) ?_)
    refine R.go 3 (R.condN ((setI (q : Int)) = m) (by kernel_rfl) (fun c5 => ?_) (fun c5 => ?_))
    · refine R.go 4 (R.ar ((q : Int) + 1) (by kernel_rfl) (by omega) (by omega) (by kernel_rfl) ?_)
      exact R.go 3 (R.stop R2 (by kernel_rfl) (N3 (q + 1) [0, 3] none _ (by kernel_rfl) (by kernel_rfl) ⟨(by rcases Nat.lt_or_ge q k with h | h; omega; exact absurd hk2 (by rw [show k = q by omega]; assumption)), (by intro j hj he; rcases Nat.lt_or_ge j q with h | h; exact (‹∀ j : Nat, j < q → setI (j : Int) ≠ m› j h) he; exact ‹¬ setI (q : Int) = m› (by rw [← he, show q = j by omega]))⟩ (by show (54 - (q + 1)) < (54 - q); omega)))
    · exact R.go 6 (R.retE (AI (q : Int)) (by kernel_rfl) (by kernel_rfl) (by first | (first | exact congrArg AI (idx_full (by assumption)).symm | exact congrArg AI (idx_at (by assumption) (by omega) (by assumption) (by assumption)).symm) | (exfalso; omega)))

end Go.Proofs.YtfkdkhlimdkehaaGreat
