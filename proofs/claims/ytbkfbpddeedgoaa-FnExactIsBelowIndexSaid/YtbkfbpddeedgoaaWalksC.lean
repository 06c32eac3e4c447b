/- The walks of indexSet and l20Set: for an index from -1 to 40 both return the same number, setF. -/
import Derived.Test.YtbkfbpddeedgoaaWalksB
namespace Go.Proofs.Ytbkfbpddeedgoaa
open Go.RowKit

def setI (k : Nat) : Int :=
  if k = 0 then 0
  else if k % 2 = 1 then wrap64 (wrap64 (2 ^ (k / 2 + 1)) - 1)
  else bits .or .i64 (wrap64 (wrap64 (2 ^ (k / 2 - 1)) - 1)) (wrap64 (2 ^ (k / 2)))

def setF (i : Int) : Int := if i = -1 then 268435455 else setI i.toNat

theorem setF_odd (k : Nat) (ho : k % 2 = 1) : setF k = wrap64 (wrap64 (2 ^ (k / 2 + 1)) - 1) := by
  have h0 : ¬ k = 0 := by omega
  have h1 : ¬ (k : Int) = -1 := by omega
  simp [setF, setI, ho, h0, h1]

theorem setF_even (k : Nat) (ho : ¬ k % 2 = 1) (h2 : 2 ≤ k) : setF k = bits .or .i64 (wrap64 (wrap64 (2 ^ (k / 2 - 1)) - 1)) (wrap64 (2 ^ (k / 2))) := by
  have h0 : ¬ k = 0 := by omega
  have h1 : ¬ (k : Int) = -1 := by omega
  simp only [setF, setI, ho, h0, h1, if_false, Int.toNat_natCast]

theorem ret_int {k : IntKind} {a b : Int} (h : a = b) : Ending.returned (.int k a) = .returned (.int k b) := by rw [h]

theorem odd_b (k : Nat) (h : k % 2 = 1) : (((k : Int) % 2) == 1) = true := by
  have : (k : Int) % 2 = 1 := by omega
  simp [this]
theorem even_b (k : Nat) (h : ¬ k % 2 = 1) : (((k : Int) % 2) == 1) = false := by
  have : (k : Int) % 2 ≠ 1 := by omega
  simpa using this
theorem pos_b (k : Nat) (h : 1 ≤ k) : ((k : Int) == 0) = false := by
  have : (k : Int) ≠ 0 := by omega
  simpa using this

theorem drewN_below (w : World) (n : Nat) : Below w.heap.size w (w.drewN n) := ⟨rfl, rfl, rfl, Nat.le_refl _, fun _ _ => rfl⟩

set_option maxHeartbeats 400000 in
theorem indexSet_neg (w : World) :
    Calls Try.prog 39 #[.int .i64 (-1)] w fun e w' => e = .returned (.int .i64 (setF (-1))) ∧ Below w.heap.size w w' := by
  go_enter Try.func39, Try.ntmps39
  go_wp2
  go_ret
  exact ⟨rfl, Below.refl _ _⟩

set_option maxHeartbeats 400000 in
theorem indexSet_zero (w : World) :
    Calls Try.prog 39 #[.int .i64 0] w fun e w' => e = .returned (.int .i64 (setF 0)) ∧ Below w.heap.size w w' := by
  go_enter Try.func39, Try.ntmps39
  go_wp2
  go_ret
  exact ⟨rfl, Below.refl _ _⟩

set_option maxHeartbeats 400000 in
theorem indexSet_odd (k : Nat) (hk : k ≤ 40) (ho : (((k : Int) % 2) == 1) = true) (hz : ((k : Int) == 0) = false) (hn : k % 2 = 1) (w : World) :
    Calls Try.prog 39 #[.int .i64 k] w fun e w' => e = .returned (.int .i64 (setF k)) ∧ Below w.heap.size w w' := by
  have HN : Hid (setF k = wrap64 (wrap64 (2 ^ (k / 2 + 1)) - 1)) := setF_odd k hn
  clear hn
  go_enter Try.func39, Try.ntmps39
  go_wp2
  go_ret
  exact ⟨ret_int HN.out.symm, Below.refl _ _⟩

set_option maxHeartbeats 400000 in
theorem indexSet_even (k : Nat) (hk : k ≤ 40) (ho : (((k : Int) % 2) == 1) = false) (hz : ((k : Int) == 0) = false) (hn : ¬ k % 2 = 1) (h2 : 2 ≤ k) (w : World) :
    Calls Try.prog 39 #[.int .i64 k] w fun e w' => e = .returned (.int .i64 (setF k)) ∧ Below w.heap.size w w' := by
  have HN : Hid (setF k = bits .or .i64 (wrap64 (wrap64 (2 ^ (k / 2 - 1)) - 1)) (wrap64 (2 ^ (k / 2)))) := setF_even k hn h2
  clear hn
  go_enter Try.func39, Try.ntmps39
  go_wp2
  go_quiet (fail)
  go_wp2
  go_ret
  exact ⟨ret_int HN.out.symm, drewN_below _ _⟩

theorem indexSet_any (i : Int) (w : World) (h0 : -1 ≤ i) (h1 : i ≤ 40) :
    Calls Try.prog 39 #[.int .i64 i] w fun e w' => e = .returned (.int .i64 (setF i)) ∧ Below w.heap.size w w' := by
  rcases small_cases i h0 h1 with rfl | ⟨k, hk, rfl⟩
  · exact indexSet_neg w
  · by_cases hz : k = 0
    · subst hz; exact indexSet_zero w
    · by_cases ho : k % 2 = 1
      · exact indexSet_odd k hk (odd_b k ho) (pos_b k (by omega)) ho w
      · exact indexSet_even k hk (even_b k ho) (pos_b k (by omega)) ho (by omega) w

set_option maxHeartbeats 400000 in
theorem l20Set_neg (w : World) :
    Calls Try.prog 36 #[.int .i64 (-1)] w fun e w' => e = .returned (.int .i64 (setF (-1))) ∧ Below w.heap.size w w' := by
  go_enter Try.func36, Try.ntmps36
  go_wp2_with (go_at_call 59; refine (l01Full_any _ _ (by omega) (by omega)).mono ?_; rintro e w' ⟨rfl, rfl⟩)
  go_ret
  exact ⟨ret_int (by simp [setF, wrap64]), Below.refl _ _⟩

set_option maxHeartbeats 400000 in
theorem l20Set_zero (w : World) :
    Calls Try.prog 36 #[.int .i64 0] w fun e w' => e = .returned (.int .i64 (setF 0)) ∧ Below w.heap.size w w' := by
  go_enter Try.func36, Try.ntmps36
  go_wp2
  go_ret
  exact ⟨rfl, Below.refl _ _⟩

set_option maxHeartbeats 400000 in
theorem l20Set_odd (k : Nat) (hk : k ≤ 40) (ho : (((k : Int) % 2) == 1) = true) (hz : ((k : Int) == 0) = false) (hn : k % 2 = 1) (w : World) :
    Calls Try.prog 36 #[.int .i64 k] w fun e w' => e = .returned (.int .i64 (setF k)) ∧ Below w.heap.size w w' := by
  have e1 : (((k : Int) + 1) / 2).toNat = k / 2 + 1 := by omega
  have HN : Hid (wrap64 (wrap64 (2 ^ (((k : Int) + 1) / 2).toNat) - 1) = setF k) := by rw [e1]; exact (setF_odd k hn).symm
  clear hn e1
  go_enter Try.func36, Try.ntmps36
  go_wp2_with (go_at_call 59; refine (l01Full_any _ _ (by omega) (by omega)).mono ?_; rintro e w' ⟨rfl, rfl⟩)
  go_ret
  exact ⟨ret_int HN.out, Below.refl _ _⟩

set_option maxHeartbeats 400000 in
theorem l20Set_even (k : Nat) (hk : k ≤ 40) (ho : (((k : Int) % 2) == 1) = false) (hz : ((k : Int) == 0) = false) (hn : ¬ k % 2 = 1) (h2 : 2 ≤ k) (w : World) :
    Calls Try.prog 36 #[.int .i64 k] w fun e w' => e = .returned (.int .i64 (setF k)) ∧ Below w.heap.size w w' := by
  have HN : Hid (bits .or .i64 (wrap64 (wrap64 (2 ^ (k / 2 - 1)) - 1)) (wrap64 (2 ^ (k / 2))) = setF k) := (setF_even k hn h2).symm
  clear hn
  go_enter Try.func36, Try.ntmps36
  go_wp2_with (first | (go_at_call 59; refine (l01Full_any _ _ (by omega) (by omega)).mono ?_; rintro e w' ⟨rfl, rfl⟩) | (go_at_call 58; refine (l01One_any _ _ (by omega) (by omega)).mono ?_; rintro e w' ⟨rfl, rfl⟩))
  go_ret
  exact ⟨ret_int HN.out, Below.refl _ _⟩

theorem l20Set_any (i : Int) (w : World) (h0 : -1 ≤ i) (h1 : i ≤ 40) :
    Calls Try.prog 36 #[.int .i64 i] w fun e w' => e = .returned (.int .i64 (setF i)) ∧ Below w.heap.size w w' := by
  rcases small_cases i h0 h1 with rfl | ⟨k, hk, rfl⟩
  · exact l20Set_neg w
  · by_cases hz : k = 0
    · subst hz; exact l20Set_zero w
    · by_cases ho : k % 2 = 1
      · exact l20Set_odd k hk (odd_b k ho) (pos_b k (by omega)) ho w
      · exact l20Set_even k hk (even_b k ho) (pos_b k (by omega)) ho (by omega) w

end Go.Proofs.Ytbkfbpddeedgoaa
