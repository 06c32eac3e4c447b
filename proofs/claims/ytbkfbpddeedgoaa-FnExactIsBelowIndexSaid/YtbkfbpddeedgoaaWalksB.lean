/- The walks of IsBelowIndex's functions (impl and spec): each returns the stated number or bool, for the stated range of arguments. -/
import Derived.Test.YtbkfbpddeedgoaaRows
import Derived.WalkKit
import Derived.WalkSpells
import Derived.WalkLawsBesides
import Derived.BigQuiet
import Derived.Deep.QuietTactic
namespace Go.Proofs.Ytbkfbpddeedgoaa
open Go.RowKit

def inB (lo hi x : Int) : Bool := decide (lo ≤ x) && decide (x ≤ hi)

theorem inB_true {lo hi x : Int} (h : inB lo hi x = true) : lo ≤ x ∧ x ≤ hi := by simpa [inB] using h

set_option maxHeartbeats 400000 in
theorem inRange_any (x lo hi : Int) (w : World) :
    Calls Try.prog 42 #[.int .i64 x, .int .i64 lo, .int .i64 hi] w fun e w' => e = .returned (.bool (inB lo hi x)) ∧ w = w' := by
  go_enter Try.func42, Try.ntmps42
  go_wp2
  all_goals go_ret
  all_goals refine ⟨?_, rfl⟩
  · have h1 : lo ≤ x := by assumption
    simp [inB, h1]
  · have h1 : x < lo := by assumption
    have h2 : ¬ lo ≤ x := by omega
    simp [inB, h2]

set_option maxHeartbeats 400000 in
theorem l01In_any (x lo hi : Int) (w : World) :
    Calls Try.prog 40 #[.int .i64 x, .int .i64 lo, .int .i64 hi] w fun e w' => e = .returned (.bool (inB lo hi x)) ∧ w = w' := by
  go_enter Try.func40, Try.ntmps40
  go_wp2
  all_goals go_ret
  all_goals refine ⟨?_, rfl⟩
  · have h1 : lo ≤ x := by assumption
    simp [inB, h1]
  · have h1 : x < lo := by assumption
    have h2 : ¬ lo ≤ x := by omega
    simp [inB, h2]

set_option maxHeartbeats 400000 in
theorem isIndex_any (x : Int) (w : World) :
    Calls Try.prog 37 #[.int .i64 x] w fun e w' => e = .returned (.bool (inB (-1) 40 x)) ∧ w = w' := by
  go_enter Try.func37, Try.ntmps37
  go_wp2_with (go_at_call 42; refine (inRange_any _ _ _ _).mono ?_; rintro e w' ⟨rfl, rfl⟩)
  go_ret
  exact ⟨rfl, rfl⟩

set_option maxHeartbeats 400000 in
theorem l20In_any (x : Int) (w : World) :
    Calls Try.prog 35 #[.int .i64 x] w fun e w' => e = .returned (.bool (inB (-1) 40 x)) ∧ w = w' := by
  go_enter Try.func35, Try.ntmps35
  go_wp2_with (go_at_call 40; refine (l01In_any _ _ _ _).mono ?_; rintro e w' ⟨rfl, rfl⟩)
  go_ret
  exact ⟨rfl, rfl⟩

set_option maxHeartbeats 400000 in
theorem l01One_any (i : Int) (w : World) (h0 : 0 ≤ i) (h1 : i ≤ 62):
    Calls Try.prog 58 #[.int .i64 i] w fun e w' => e = .returned (.int .i64 (wrap64 (2 ^ i.toNat))) ∧ w = w' := by
  go_enter Try.func58, Try.ntmps58
  go_wp2
  go_ret
  exact ⟨rfl, rfl⟩

set_option maxHeartbeats 400000 in
theorem l01Full_any (i : Int) (w : World) (h0 : 0 ≤ i) (h1 : i ≤ 62):
    Calls Try.prog 59 #[.int .i64 i] w fun e w' => e = .returned (.int .i64 (wrap64 (wrap64 (2 ^ i.toNat) - 1))) ∧ w = w' := by
  go_enter Try.func59, Try.ntmps59
  go_wp2_with (go_at_call 58; refine (l01One_any _ _ h0 h1).mono ?_; rintro e w' ⟨rfl, rfl⟩)
  go_ret
  exact ⟨rfl, rfl⟩

set_option maxHeartbeats 400000 in
theorem within_any (a b : Int) (w : World) :
    Calls Try.prog 38 #[.int .i64 a, .int .i64 b] w fun e w' => e = .returned (.bool (bits .andNot .i64 a b == 0)) ∧ w = w' := by
  go_enter Try.func38, Try.ntmps38
  go_wp2
  go_ret
  exact ⟨rfl, rfl⟩

theorem small_cases (i : Int) (h0 : -1 ≤ i) (h1 : i ≤ 40) : i = -1 ∨ ∃ k : Nat, k ≤ 40 ∧ i = k := by
  by_cases h : i = -1
  · exact .inl h
  · exact .inr ⟨i.toNat, by omega, by omega⟩

end Go.Proofs.Ytbkfbpddeedgoaa
