/- Values of formulas that keep within a set; words that agree on a set. -/
import Derived.Test.YtkanjgmocmhlkaaGreatP01
namespace Go.Proofs.YtkanjgmocmhlkaaGreat
open Go.RowKit Go.Abs

section
variable {G : Int → Prop} {b : Int → Int → Int → Int} {u u' : Int → Int → Int} {vs : List Int}
/-- On values within G two words agree, and stay within G. -/
theorem stkg_in (g0 : G 0) (hb : ∀ k p q, G p → G q → G (b k p q)) (hu : ∀ k p, (k = 5 ∨ k = 6) → G p → G (u k p) ∧ u k p = u' k p) :
    ∀ {l : List (Int × Int)} {o : Nat}, (∀ x ∈ l, 0 ≤ x.1 ∧ x.1 ≤ 6 ∧ (x.1 = 0 → G (vs.getD x.2.toNat 0))) → pe o l = some l.length → (∀ v ∈ stkG b u vs l, G v) ∧ stkG b u vs l = stkG b u' vs l
  | [], _, _, _ => ⟨fun v hv => by simp [stkG] at hv, rfl⟩
  | x :: l, 0, _, h => by rw [pe_zero] at h; cases h
  | x :: l, o + 1, hx, h => by
    obtain ⟨k, hk, h⟩ := pe_cons h
    have h' : pe (o + partsN x.1) l = some l.length := by rw [h]; congr 1; simpa using hk.symm
    obtain ⟨i1, i2⟩ := stkg_in g0 hb hu (fun y hy => hx y (List.mem_cons_of_mem _ hy)) h'
    obtain ⟨ws, w1, w2⟩ := stkg_parts b u vs (fun y hy => ⟨(hx y (List.mem_cons_of_mem _ hy)).1, (hx y (List.mem_cons_of_mem _ hy)).2.1⟩) h'
    have hw : stkG b u vs l = ws := by unfold stkG; rw [w2, List.append_nil]
    have hx0 := hx x (List.mem_cons_self ..)
    have e1 : ∀ f : Int → Int → Int, stkG b f vs (x :: l) = stepG b f vs x (stkG b f vs l) := fun _ => rfl
    rw [e1, e1, ← i2, hw]
    rw [hw] at i1
    have hc : x.1 = 0 ∨ x.1 = 1 ∨ (x.1 = 2 ∨ x.1 = 3 ∨ x.1 = 4) ∨ (x.1 = 5 ∨ x.1 = 6) := by omega
    rcases hc with hc | hc | hc | hc
    · rw [stepG_var _ _ _ hc, stepG_var _ _ _ hc]
      exact ⟨fun v hv => by rcases List.mem_cons.1 hv with rfl | hv; exact hx0.2.2 hc; exact i1 v hv, rfl⟩
    · rw [stepG_bot _ _ _ hc, stepG_bot _ _ _ hc]
      exact ⟨fun v hv => by rcases List.mem_cons.1 hv with rfl | hv; exact g0; exact i1 v hv, rfl⟩
    · rw [(partsN_two _).2 hc] at w1
      match ws, w1, i1 with
      | p :: q :: ws, _, i1 =>
        rw [stepG_two _ _ _ hc, stepG_two _ _ _ hc]
        exact ⟨fun v hv => by rcases List.mem_cons.1 hv with rfl | hv; exact hb _ _ _ (i1 p (by simp)) (i1 q (by simp)); exact i1 v (by simp [hv]), rfl⟩
    · rw [partsN_1 hc] at w1
      match ws, w1, i1 with
      | p :: ws, _, i1 =>
        rw [stepG_one _ _ _ hc, stepG_one _ _ _ hc]
        have hp := hu x.1 p hc (i1 p (by simp))
        exact ⟨fun v hv => by rcases List.mem_cons.1 hv with rfl | hv; exact hp.1; exact i1 v (by simp [hv]), by rw [hp.2]⟩
theorem gv_in {nv : Nat} {a : List (Int × Int)} (h : OKM nv a) (g0 : G 0) (hv : ∀ j : Nat, j < nv → G (vs.getD j 0)) (hb : ∀ k p q, G p → G q → G (b k p q)) (hu : ∀ k p, (k = 5 ∨ k = 6) → G p → G (u k p) ∧ u k p = u' k p) : G (gv b u vs a) ∧ gv b u vs a = gv b u' vs a := by
  obtain ⟨h1, h2⟩ := stkg_in (vs := vs) g0 hb hu (fun x hx => ⟨(h.2 x hx).1, (h.2 x hx).2.1, fun h0 => hv _ (by have := (h.2 x hx).2.2 h0; omega)⟩) h.1
  refine ⟨?_, by unfold gv; rw [h2]⟩
  have h3 : stkG b u vs a = [gv b u vs a] := by
    have := okm_stk b u vs h []
    simpa [stkG] using this
  exact h1 _ (by rw [h3]; simp)
end

end Go.Proofs.YtkanjgmocmhlkaaGreat
