/- Members of masks. -/
import Derived.Test.YtfkdkhlimdkehaaGreatR05
namespace Go.Proofs.YtfkdkhlimdkehaaGreat
open Go.RowKit Go.Abs

/-- The members of a mask below i. -/
def memN (m : Int) : Nat → List Int
  | 0 => []
  | i + 1 => if tb m i = true then memN m i ++ [(i : Int)] else memN m i
def mem (m : Int) : List Int := memN m 62
theorem memN_yes {m : Int} {i : Nat} (h : tb m i = true) : memN m (i + 1) = memN m i ++ [(i : Int)] := by rw [memN, if_pos h]
theorem memN_no {m : Int} {i : Nat} (h : ¬ tb m i = true) : memN m (i + 1) = memN m i := by rw [memN, if_neg h]
theorem memN_mem {m : Int} {v : Int} : ∀ {i : Nat}, v ∈ memN m i ↔ ∃ j : Nat, j < i ∧ tb m j = true ∧ v = (j : Int)
  | 0 => by simp [memN]
  | i + 1 => by
    have ih := memN_mem (m := m) (v := v) (i := i)
    by_cases h : tb m i = true
    · rw [memN_yes h, List.mem_append, ih, List.mem_singleton]
      constructor
      · rintro (⟨j, a, b, c⟩ | h2)
        · exact ⟨j, by omega, b, c⟩
        · exact ⟨i, by omega, h, h2⟩
      · rintro ⟨j, a, b, c⟩
        by_cases hji : j = i
        · subst hji; exact .inr c
        · exact .inl ⟨j, by omega, b, c⟩
    · rw [memN_no h, ih]
      constructor
      · rintro ⟨j, a, b, c⟩; exact ⟨j, by omega, b, c⟩
      · rintro ⟨j, a, b, c⟩
        by_cases hji : j = i
        · subst hji; exact absurd b h
        · exact ⟨j, by omega, b, c⟩
theorem memN_len (m : Int) : ∀ i : Nat, (memN m i).length ≤ i
  | 0 => Nat.le_refl _
  | i + 1 => by
    have ih := memN_len m i
    rw [memN]
    split
    · simp; omega
    · omega
theorem memN_asc (m : Int) : ∀ i : Nat, (memN m i).Pairwise (· < ·)
  | 0 => List.Pairwise.nil
  | i + 1 => by
    have ih := memN_asc m i
    rw [memN]
    split
    · refine List.pairwise_append.2 ⟨ih, List.pairwise_singleton _ _, fun a ha b hb => ?_⟩
      rw [List.mem_singleton] at hb
      obtain ⟨j, h1, _, rfl⟩ := memN_mem.1 ha
      omega
    · exact ih
theorem memN_nodup (m : Int) (i : Nat) : (memN m i).Nodup := (memN_asc m i).imp fun h => by omega
theorem memN_stop {m : Int} {i : Nat} (h : ∀ j, i ≤ j → tb m j = false) : ∀ {k : Nat}, i ≤ k → memN m k = memN m i := by
  intro k hk
  induction k with
  | zero => rw [show i = 0 by omega]
  | succ k ih =>
    by_cases hki : i = k + 1
    · rw [hki]
    · rw [memN_no (by rw [h k (by omega)]; decide), ih (by omega)]
theorem inM61 {m : Int} (h0 : 0 ≤ m) (h1 : m ≤ 2305843009213693951) : InM 61 m := ⟨h0, by
  have : (2 : Nat) ^ 61 = 2305843009213693952 := by decide
  omega⟩
theorem inM61_le {m : Int} (h : InM 61 m) : 0 ≤ m ∧ m ≤ 2305843009213693951 := ⟨h.1, by
  have : (2 : Nat) ^ 61 = 2305843009213693952 := by decide
  have := h.2
  omega⟩
theorem inM_mono {n n' : Nat} {m : Int} (hn : n ≤ n') (h : InM n m) : InM n' m := ⟨h.1, Nat.lt_of_lt_of_le h.2 (Nat.pow_le_pow_right (by decide) hn)⟩
theorem shr_rng {m : Int} (h : InM 61 m) {i : Nat} (hi : i ≤ 62) : 0 ≤ shr64 m (i : Int) ∧ shr64 m (i : Int) ≤ m := by
  obtain ⟨a, rfl, ha⟩ := inM_nat h
  rw [shr_nat hi]
  exact ⟨Int.natCast_nonneg _, Int.ofNat_le.2 (Nat.div_le_self a (2 ^ i))⟩
theorem shr_pos {m : Int} (h : InM 61 m) {i : Nat} (hi : i ≤ 62) (hp : shr64 m (i : Int) > 0) : i < 61 := by
  obtain ⟨a, rfl, ha⟩ := inM_nat h
  rw [shr_nat hi] at hp
  have h1 : 0 < a / 2 ^ i := by
    generalize a / 2 ^ i = q at hp ⊢
    omega
  rw [Nat.div_pos_iff] at h1
  have h2 : 2 ^ i < 2 ^ 61 := by omega
  exact (Nat.pow_lt_pow_iff_right (by decide)).1 h2
theorem mem_end {m : Int} (h : InM 61 m) {i : Nat} (hi : i ≤ 61) (hp : ¬ shr64 m (i : Int) > 0) : memN m i = mem m := by
  refine (memN_stop (fun j hj => ?_) (by omega)).symm
  obtain ⟨a, rfl, ha⟩ := inM_nat h
  rw [shr_nat (by omega)] at hp
  have h1 : a < 2 ^ i := by
    have h2 : a / 2 ^ i = 0 := by
      generalize a / 2 ^ i = q at hp ⊢
      omega
    rcases Nat.div_eq_zero_iff.1 h2 with h | h
    · exact absurd h (Nat.ne_of_gt (Nat.two_pow_pos i))
    · exact h
  exact Nat.testBit_lt_two_pow (Nat.lt_of_lt_of_le h1 (Nat.pow_le_pow_right (by decide) hj))
theorem shr_half {m : Int} (h : InM 61 m) {i : Nat} (hi : i ≤ 61) : shr64 m (i : Int) / 2 = shr64 m ((i : Int) + 1) := by
  obtain ⟨a, rfl, ha⟩ := inM_nat h
  rw [shr_nat (by omega), show (i : Int) + 1 = ((i + 1 : Nat) : Int) by omega, shr_nat (by omega), Nat.pow_succ, ← Nat.div_div_eq_div_mul]
  omega
theorem shr_odd {m : Int} (h : InM 61 m) {i : Nat} (hi : i ≤ 61) : shr64 m (i : Int) % 2 = 1 ↔ tb m i = true := by
  obtain ⟨a, rfl, ha⟩ := inM_nat h
  rw [shr_nat (by omega)]
  simp only [tb, Int.toNat_natCast, Nat.testBit_eq_decide_div_mod_eq, decide_eq_true_eq]
  omega
theorem shr_0 {m : Int} (h : InM 61 m) : shr64 m ((0 : Nat) : Int) = m := by
  obtain ⟨a, rfl, ha⟩ := inM_nat h
  rw [shr_nat (by omega)]
  simp
theorem mem_le (m : Int) : (mem m).length ≤ 62 := memN_len m 62

theorem membersOf_c (m : Int) (hm : InM 61 m) : CallA Tryz.prog 149 [AI m] (ownA eI 2 1 (mem m)) := by
  refine CallA.of Tryz.func149 rfl (by kernel_rfl) ?_
  refine R.go 14 (R.nil 3 2 1 (by kernel_rfl) ?_)
  refine R.loop ((fun | (i, out) => (⟨(frm 19 [(0, AI m), (3, .ref 0), (4, AI (i : Int))]), [rowA eI 2 1 out]⟩ : St) : Nat × (List Int) → St)) (fun | (i, out) => (i ≤ 61) ∧ (out = memN m i) ∧ (out.length ≤ i)) (fun | (i, out) => 61 - i) (0, []) [0, 3, 4] none (by kernel_rfl) (by kernel_rfl) (by kernel_rfl) ⟨(by omega), (by rfl), (by simp)⟩ ?_
  rintro ⟨i, out⟩ ⟨h4_1, h4_2, h4_3⟩ R1 N2
  refine R.go 5 (R.shr m (i : Int) (by kernel_rfl) (by omega) (by kernel_rfl) ?_)
  refine R.go 2 (R.cond ((shr64 m (i : Int)) > 0) (by kernel_rfl) (fun c5 => ?_) (fun c5 => ?_))
  · refine R.go 7 (R.call true (has_c m (i : Int) (by omega)) (by kernel_rfl) rfl (by kernel_rfl) ?_)
    refine R.go 1 (R.cond (band (shr64 m (i : Int)) 1 = 1) (by kernel_rfl) (fun c6 => ?_) (fun c6 => ?_))
    · refine R.go 4 (R.app eI out [(i : Int)] 0 2 1 8 (by kernel_rfl) eI_one (by decide) (by first | omega | (simp <;> omega)) (by kernel_rfl) ?_)
      refine R.go 5 (R.ar ((i : Int) + 1) (by kernel_rfl) (by omega) (by omega) (by kernel_rfl) ?_)
      exact R.go 2 (R.stop R1 (by kernel_rfl) (N2 (i + 1, out ++ [(i : Int)]) [0, 3, 4] (some [0]) _ (by kernel_rfl) (by kernel_rfl) ⟨(by have := shr_pos hm (by omega) ‹shr64 m (i : Int) > 0›; omega), (by first | (rw [‹out = memN m i›, memN_yes ((has_tb (by decide) hm (by omega)).1 ‹band (shr64 m (i : Int)) 1 = 1›)]) | (rw [‹out = memN m i›, memN_no (fun h => ‹¬ band (shr64 m (i : Int)) 1 = 1› ((has_tb (by decide) hm (by omega)).2 h))])), (by first | omega | (simp <;> omega))⟩ (by show (61 - (i + 1)) < (61 - i); have := shr_pos hm (by omega) ‹shr64 m (i : Int) > 0›; omega)))
    · refine R.go 4 (R.ar ((i : Int) + 1) (by kernel_rfl) (by omega) (by omega) (by kernel_rfl) ?_)
      exact R.go 2 (R.stop R1 (by kernel_rfl) (N2 (i + 1, out) [0, 3, 4] none _ (by kernel_rfl) (by kernel_rfl) ⟨(by have := shr_pos hm (by omega) ‹shr64 m (i : Int) > 0›; omega), (by first | (rw [‹out = memN m i›, memN_yes ((has_tb (by decide) hm (by omega)).1 ‹band (shr64 m (i : Int)) 1 = 1›)]) | (rw [‹out = memN m i›, memN_no (fun h => ‹¬ band (shr64 m (i : Int)) 1 = 1› ((has_tb (by decide) hm (by omega)).2 h))])), (by first | omega | (simp <;> omega))⟩ (by show (61 - (i + 1)) < (61 - i); have := shr_pos hm (by omega) ‹shr64 m (i : Int) > 0›; omega)))
  · exact R.go 6 (R.retE (ownA eI 2 1 out) (by kernel_rfl) (by kernel_rfl) (by first | (rw [‹out = memN m i›, mem_end hm (by omega) (by assumption)]) | (exfalso; omega)))

end Go.Proofs.YtfkdkhlimdkehaaGreat
