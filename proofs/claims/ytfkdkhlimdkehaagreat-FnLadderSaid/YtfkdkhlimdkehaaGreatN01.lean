/- The values of formulas with one variable on the ladder; their indices. -/
import Derived.Test.YtfkdkhlimdkehaaGreatF04
namespace Go.Proofs.YtfkdkhlimdkehaaGreat
open Go.RowKit Go.Abs

/-- The values that a formula with at most 40 nodes has, with the least numbers of nodes. -/
def tabN : List (Int × Nat) := [(268435455, 3), (0, 1), (1, 1), (2, 3), (3, 5), (5, 5), (7, 9), (11, 7), (15, 13), (23, 13), (31, 21), (47, 23), (63, 37), (95, 37)]
theorem tabN_ok : (tabN.all fun x => okM x.1) = true := by decide +kernel
theorem tabN_step : (tabN.all fun x => tabN.all fun y => decide (40 < x.2 + y.2 + 1) || [band x.1 y.1, bor x.1 y.1, impI x.1 y.1].all fun r => tabN.any fun z => decide (z.1 = r) && decide (z.2 ≤ x.2 + y.2 + 1)) = true := by kernel_rfl
def costs (v : Int) (k : Nat) : Prop := ∃ c : Nat, (v, c) ∈ tabN ∧ c ≤ k
theorem costs_two {v w : Int} {k l : Nat} (hv : costs v k) (hw : costs w l) (h : k + l + 1 ≤ 40) (r : Int) (hr : r = band v w ∨ r = bor v w ∨ r = impI v w) : costs r (k + l + 1) := by
  obtain ⟨c, hc, hck⟩ := hv
  obtain ⟨d, hd, hdl⟩ := hw
  have h1 := tabN_step
  rw [List.all_eq_true] at h1
  have h2 := h1 _ hc
  rw [List.all_eq_true] at h2
  have h3 := h2 _ hd
  rw [Bool.or_eq_true] at h3
  rcases h3 with h3 | h3
  · have := of_decide_eq_true h3
    omega
  · rw [List.all_eq_true] at h3
    have h4 := h3 r (by rcases hr with h | h | h <;> rw [h] <;> simp only [List.mem_cons, true_or, or_true])
    rw [List.any_eq_true] at h4
    obtain ⟨z, hz, h5⟩ := h4
    rw [Bool.and_eq_true, decide_eq_true_eq, decide_eq_true_eq] at h5
    exact ⟨z.2, by rw [← h5.1]; exact hz, by omega⟩
theorem costs_ok {v : Int} {k : Nat} (h : costs v k) : okM v = true := by
  obtain ⟨c, hc, _⟩ := h
  have h1 := tabN_ok
  rw [List.all_eq_true] at h1
  exact h1 _ hc
theorem fv_costs : ∀ (k : Nat) (a : List (Int × Int)), a.length = k → OKF 1 a → a.length ≤ 40 → costs (fv impI [1] a) k := by
  intro k
  induction k using Nat.strongRecOn with
  | ind k ih =>
    intro a hk hok hl
    have h0 := okf_pos hok
    have hg := okf_get hok 0 (by omega)
    have two : partsN (a.getD 0 (0, 0)).1 = 2 → ∀ r, (r = band (fv impI [1] (lef a)) (fv impI [1] (rig a)) ∨ r = bor (fv impI [1] (lef a)) (fv impI [1] (rig a)) ∨ r = impI (fv impI [1] (lef a)) (fv impI [1] (rig a))) → costs r k := fun hp r hr => by
      have hl2 := len_lef hok hp
      have e1 : (lef a).length = (peX 1 a 1).toNat - 1 := by simp [lef]; omega
      have e2 : (rig a).length = a.length - (peX 1 a 1).toNat := by simp [rig]
      have hL := ih (lef a).length (by omega) (lef a) rfl (okf_lef hok hp) (by omega)
      have hR := ih (rig a).length (by omega) (rig a) rfl (okf_rig hok hp) (by omega)
      have := costs_two hL hR (by omega) r hr
      rwa [show (lef a).length + (rig a).length + 1 = k by omega] at this
    have hc : (a.getD 0 (0, 0)).1 = 0 ∨ (a.getD 0 (0, 0)).1 = 1 ∨ (a.getD 0 (0, 0)).1 = 2 ∨ (a.getD 0 (0, 0)).1 = 3 ∨ (a.getD 0 (0, 0)).1 = 4 := by omega
    rcases hc with hc | hc | hc | hc | hc
    · have e := fv_var impI [1] hok hc
      have : (a.getD 0 (0, 0)).2 = 0 := by have := hg.2.2 hc; omega
      rw [← e, this]
      exact ⟨1, by simp [tabN], by omega⟩
    · rw [← fv_bot impI [1] hok hc]
      exact ⟨1, by simp [tabN], by omega⟩
    · exact two ((partsN_two _).2 (by omega)) _ (.inl (fv_and impI [1] hok hc).symm)
    · exact two ((partsN_two _).2 (by omega)) _ (.inr (.inl (fv_or impI [1] hok hc).symm))
    · exact two ((partsN_two _).2 (by omega)) _ (.inr (.inr (fv_imp impI [1] hok (by omega)).symm))
theorem fv_okM {a : List (Int × Int)} (h : lcode a = 0) : okM (fv impI [1] a) = true := by
  have h1 := lcode_ok h
  exact costs_ok (fv_costs a.length a rfl h1.1 h1.2)
theorem fv_okM6 {a : List (Int × Int)} (h : lcode a = 0) : okM (fv impI [1, 0, 0, 0, 0, 0] a) = true := by
  rw [fv_one impI (vs := [1, 0, 0, 0, 0, 0]) (vs' := [1]) (lcode_ok h).1 rfl]
  exact fv_okM h

end Go.Proofs.YtfkdkhlimdkehaaGreat
