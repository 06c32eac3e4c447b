/- The walks of IsBelowIndex of both packages and of the law. -/
import Derived.Test.YtbkfbpddeedgoaaWalksC
import Derived.Lib.Hide
namespace Go.Proofs.Ytbkfbpddeedgoaa
open Go.RowKit

def belowB (i j : Int) : Bool := bits .andNot .i64 (setF i) (setF j) == 0

set_option maxHeartbeats 400000 in
theorem implBelow_in (i j : Int) (w : World) (hi : inB (-1) 40 i = true) (hj : inB (-1) 40 j = true) :
    Calls Try.prog 11 #[.int .i64 i, .int .i64 j] w fun e w' => e = .returned (.tuple #[.bool (belowB i j), .int .i64 0]) ∧ Below w.heap.size w w' := by
  have bi := inB_true hi
  have bj := inB_true hj
  go_enter Try.func11, Try.ntmps11
  go_wp2_with (go_at_call 37; refine (isIndex_any _ _).mono ?_; rintro e w' ⟨rfl, rfl⟩)
  all_goals refine (indexSet_any _ _ (by omega) (by omega)).mono ?_
  all_goals rintro e w1 ⟨rfl, hb1⟩
  all_goals go_wp2_with fail
  all_goals refine (indexSet_any _ _ (by omega) (by omega)).mono ?_
  all_goals rintro e w2 ⟨rfl, hb2⟩
  all_goals go_wp2_with (go_at_call 38; refine (within_any _ _ _).mono ?_; rintro e w' ⟨rfl, rfl⟩)
  go_ret2
  exact ⟨rfl, hb1.trans (hb2.mono hb1.size)⟩

set_option maxHeartbeats 400000 in
theorem specBelow_in (i j : Int) (w : World) (hi : inB (-1) 40 i = true) (hj : inB (-1) 40 j = true) :
    Calls Try.prog 10 #[.int .i64 i, .int .i64 j] w fun e w' => e = .returned (.tuple #[.bool (belowB i j), .int .i64 0]) ∧ Below w.heap.size w w' := by
  have bi := inB_true hi
  have bj := inB_true hj
  go_enter Try.func10, Try.ntmps10
  go_wp2_with (go_at_call 35; refine (l20In_any _ _).mono ?_; rintro e w' ⟨rfl, rfl⟩)
  all_goals refine (l20Set_any _ _ (by omega) (by omega)).mono ?_
  all_goals rintro e w1 ⟨rfl, hb1⟩
  all_goals go_wp2_with fail
  all_goals refine (l20Set_any _ _ (by omega) (by omega)).mono ?_
  all_goals rintro e w2 ⟨rfl, hb2⟩
  all_goals go_wp2_with fail
  go_ret2
  exact ⟨rfl, hb1.trans (hb2.mono hb1.size)⟩

set_option maxHeartbeats 400000 in
theorem implBelow_out1 (i j : Int) (w : World) (hi : inB (-1) 40 i = false) :
    Calls Try.prog 11 #[.int .i64 i, .int .i64 j] w fun e w' => e = .returned (.tuple #[.bool false, .int .i64 2]) ∧ Below w.heap.size w w' := by
  go_enter Try.func11, Try.ntmps11
  go_wp2_with (go_at_call 37; refine (isIndex_any _ _).mono ?_; rintro e w' ⟨rfl, rfl⟩)
  go_ret2
  exact ⟨rfl, Below.refl _ _⟩

set_option maxHeartbeats 400000 in
theorem implBelow_out2 (i j : Int) (w : World) (hi : inB (-1) 40 i = true) (hj : inB (-1) 40 j = false) :
    Calls Try.prog 11 #[.int .i64 i, .int .i64 j] w fun e w' => e = .returned (.tuple #[.bool false, .int .i64 2]) ∧ Below w.heap.size w w' := by
  go_enter Try.func11, Try.ntmps11
  go_wp2_with (go_at_call 37; refine (isIndex_any _ _).mono ?_; rintro e w' ⟨rfl, rfl⟩)
  go_ret2
  exact ⟨rfl, Below.refl _ _⟩

set_option maxHeartbeats 400000 in
theorem specBelow_out1 (i j : Int) (w : World) (hi : inB (-1) 40 i = false) :
    Calls Try.prog 10 #[.int .i64 i, .int .i64 j] w fun e w' => e = .returned (.tuple #[.bool false, .int .i64 2]) ∧ Below w.heap.size w w' := by
  go_enter Try.func10, Try.ntmps10
  go_wp2_with (go_at_call 35; refine (l20In_any _ _).mono ?_; rintro e w' ⟨rfl, rfl⟩)
  go_ret2
  exact ⟨rfl, Below.refl _ _⟩

set_option maxHeartbeats 400000 in
theorem specBelow_out2 (i j : Int) (w : World) (hi : inB (-1) 40 i = true) (hj : inB (-1) 40 j = false) :
    Calls Try.prog 10 #[.int .i64 i, .int .i64 j] w fun e w' => e = .returned (.tuple #[.bool false, .int .i64 2]) ∧ Below w.heap.size w w' := by
  go_enter Try.func10, Try.ntmps10
  go_wp2_with (go_at_call 35; refine (l20In_any _ _).mono ?_; rintro e w' ⟨rfl, rfl⟩)
  go_ret2
  exact ⟨rfl, Below.refl _ _⟩

/-- what both return: a bool and a code -/
theorem below_both (i j : Int) : ∃ b : Bool, ∃ c : Int,
    (∀ w, Calls Try.prog 10 #[.int .i64 i, .int .i64 j] w fun e w' => e = .returned (.tuple #[.bool b, .int .i64 c]) ∧ Below w.heap.size w w') ∧
    (∀ w, Calls Try.prog 11 #[.int .i64 i, .int .i64 j] w fun e w' => e = .returned (.tuple #[.bool b, .int .i64 c]) ∧ Below w.heap.size w w') := by
  cases hi : inB (-1) 40 i
  · exact ⟨false, 2, fun w => specBelow_out1 i j w hi, fun w => implBelow_out1 i j w hi⟩
  · cases hj : inB (-1) 40 j
    · exact ⟨false, 2, fun w => specBelow_out2 i j w hi hj, fun w => implBelow_out2 i j w hi hj⟩
    · exact ⟨belowB i j, 0, fun w => specBelow_in i j w hi hj, fun w => implBelow_in i j w hi hj⟩

set_option maxHeartbeats 400000 in
theorem law_any (i j : Int) (w : World) :
    Calls Try.prog 3 #[.int .i64 i, .int .i64 j] w fun e w' => e = .returned (.bool true) ∧ Below w.heap.size w w' := by
  obtain ⟨b, c, h1, h2⟩ := below_both i j
  have H1 := Lib.hid h1
  have H2 := Lib.hid h2
  clear h1 h2
  go_enter Try.func3, Try.ntmps3
  go_wp2_with fail
  refine (H1.out _).mono ?_
  rintro e w1 ⟨rfl, hb1⟩
  go_wp2_with fail
  refine (H2.out _).mono ?_
  rintro e w2 ⟨rfl, hb2⟩
  go_wp2_with fail
  go_ret
  exact ⟨rfl, hb1.trans (hb2.mono hb1.size)⟩

end Go.Proofs.Ytbkfbpddeedgoaa
