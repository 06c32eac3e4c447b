/- Given models as abstract values: a frame (a number, a row) and a row. -/
import Derived.Test.YtfkdkhlimdkehaaGreatSymV
namespace Go.Abs
open Go.RowKit Go.ChangeShapes Go.WideShapes Go.Deep

section
variable {H : Type} {enc : TypeId × Value → H} {P : Program} {w : World} {base : Nat} {spare : Nat → Bool} {held : Bool}

theorem trod_int_row {t e : TypeId} {f0 f1 : Field} {fuel : Nat} {cs : List Value} {x : DataW H × List MemPlace} (ht : P.underlying t = some (.struct #[f0, f1])) (hc : cs.length = 2)
    (o0 : f0.offset = 0) (o1 : f1.offset = 1) (c0 : P.cellsOf f0.type = 1) (c1 : P.cellsOf f1.type = 1) (u0 : P.underlying f0.type = some (.int .i64)) (u1 : P.underlying f1.type = some (.slice e)) (ue : P.underlying e = some (.int .i64)) (ce : P.cellsOf e = 1)
    (h : DataW.trod enc P w base spare held fuel t cs = some x) : ∃ (n : Int) (v : Value) (xs : List Int), cs = [.int .i64 n, v] ∧ xs.length ≤ maxLen ∧ Rel w (Z0 w) [] (LI xs) v := by
  obtain ⟨ys, k, _, _, _, hyl, hfs⟩ := DataW.trod_struct ht h
  match ys, hyl, cs, hc with
  | [y0, y1], _, [v0, v1], _ =>
    have g0 := hfs 0 f0 rfl
    have g1 := hfs 1 f1 rfl
    simp [o0, o1, c0, c1] at g0 g1
    obtain ⟨n, hn, _⟩ := DataW.trod_int u0 g0
    simp at hn
    subst hn
    obtain ⟨v, hv, xs, hx, hr⟩ := trod_ints u1 ue ce g1
    simp at hv
    subst hv
    exact ⟨n, _, xs, rfl, hx, hr⟩

theorem open_model {r : Reach} {b0 : Nat} {t e e' : TypeId} {f0 f1 f2 f3 : Field} {v : Value} {d : DataW H} {ps : List MemPlace} (ht : P.underlying t = some (.struct #[f0, f1])) (ct : P.cellsOf t = 3)
    (o0 : f0.offset = 0) (o1 : f1.offset = 2) (c0 : P.cellsOf f0.type = 2) (c1 : P.cellsOf f1.type = 1)
    (hf : P.underlying f0.type = some (.struct #[f2, f3])) (o2 : f2.offset = 0) (o3 : f3.offset = 1) (c2 : P.cellsOf f2.type = 1) (c3 : P.cellsOf f3.type = 1)
    (u2 : P.underlying f2.type = some (.int .i64)) (u3 : P.underlying f3.type = some (.slice e)) (ue : P.underlying e = some (.int .i64)) (ce : P.cellsOf e = 1)
    (u1 : P.underlying f1.type = some (.slice e')) (ue' : P.underlying e' = some (.int .i64)) (ce' : P.cellsOf e' = 1)
    (hval : Value.okWide P w r b0 t v) (hd : DataW.Trod enc P w base spare held t v d ps) : ∃ (n : Int) (xs vs : List Int), xs.length ≤ maxLen ∧ vs.length ≤ maxLen ∧ Rel w (Z0 w) [] (.agg [AI n, LI xs, LI vs]) v := by
  obtain ⟨cs, rfl, hcs⟩ := okWide_struct ht hval
  rw [ct] at hcs
  obtain ⟨fuel, hfu⟩ := hd
  simp only [Value.cells] at hfu
  obtain ⟨ys, k, _, _, _, hyl, hfs⟩ := DataW.trod_struct ht hfu
  obtain ⟨cl⟩ := cs
  match ys, hyl, cl, hcs with
  | [y0, y1], _, [v0, v1, v2], _ =>
    have g0 := hfs 0 f0 rfl
    have g1 := hfs 1 f1 rfl
    simp [o0, o1, c0, c1] at g0 g1
    obtain ⟨n, v, xs, hv, hx, hr⟩ := trod_int_row hf (by rfl) o2 o3 c2 c3 u2 u3 ue ce g0
    obtain ⟨v', hv', vs, hx', hr'⟩ := trod_ints u1 ue' ce' g1
    simp at hv hv'
    obtain ⟨rfl, rfl⟩ := hv
    subst hv'
    exact ⟨n, xs, vs, hx, hx', [_, _, _], rfl, RelL.cons (by simp [AI, Rel]) (RelL.cons hr (RelL.cons hr' RelL.nil))⟩

end
end Go.Abs
