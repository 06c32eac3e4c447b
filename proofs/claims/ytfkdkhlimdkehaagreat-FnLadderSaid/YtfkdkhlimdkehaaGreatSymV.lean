/- Given arguments as abstract values: rows of integers, rows of pairs, structs. -/
import Derived.Test.YtfkdkhlimdkehaaGreatSymU
import Derived.Deep.SlicePairs
namespace Go.Abs
open Go.RowKit Go.ChangeShapes Go.WideShapes Go.Deep

/-! ### A whole element is written -/
theorem rows_setN {α : Type} {E : α → List AV} {s : Nat} (hE : ∀ x, (E x).length = s) (xs : List α) (j : Nat) (y : α) (hj : j < xs.length) : setMany (rows E xs) (j * s) (E y) = rows E (xs.set j y) := by
  induction xs generalizing j with
  | nil => simp at hj
  | cons x xs ih =>
    cases j with
    | zero =>
      simp only [setMany, Nat.zero_mul, Nat.zero_add, List.take_zero, List.nil_append, rows, List.set_cons_zero]
      rw [hE y, ← hE x, List.drop_left]
    | succ j =>
      have e : (j + 1) * s = (E x).length + j * s := by rw [hE, Nat.add_mul]; omega
      have := ih j (by simpa using hj)
      simp only [setMany] at this ⊢
      simp only [rows, List.set_cons_succ]
      rw [e, List.take_length_add_append, Nat.add_assoc, List.drop_length_add_append, ← this]
      simp only [List.append_assoc]

section
variable {rd : Option Nat} {P : Program} {m : M} {Q : Exit → St → Prop} {α : Type}
def stnAt (P : Program) (m : M) : Option (Nat × Nat × Nat × Nat × List AV × Nat × List AV) :=
  match opM m with
  | some (.store t p x) => match ev m.st.fr p, ev m.st.fr x, sizeB P t with
    | .ptr i o, .agg vs, some k => match m.st.hp[i]? with
      | some (.list el s n cs) => if decide (k = vs.length) && vs.all AV.one && leafyL vs && !vs.isEmpty then some (i, el, s, n, cs, o, vs) else none
      | _ => none
    | _, _, _ => none
  | _ => none

theorem R.stN (E : α → List AV) (i el s : Nat) (xs : List α) (j : Nat) (y : α) (h : stnAt P m = some (i, el, s, xs.length, rows E xs, j * s, E y)) (hE : ∀ x, (E x).length = s) (hj : j < xs.length) (ht : writeOk m = true)
    (h' : Runs rd P (putM m none .top (m.st.hp.set i (.list el s (xs.set j y).length (rows E (xs.set j y))))) Q) : Runs rd P m Q := by
  unfold stnAt at h
  split at h
  · rename_i t p x hop
    split at h
    · rename_i i0 o0 vs k hx hv hsz
      split at h
      · rename_i el0 s0 n0 cs hi
        split at h
        · rename_i hc
          simp only [Bool.and_eq_true, decide_eq_true_eq] at hc
          obtain ⟨⟨⟨hk, hone⟩, hleaf⟩, hne⟩ := hc
          simp only [Option.some.injEq, Prod.mk.injEq] at h
          obtain ⟨rfl, rfl, rfl, rfl, rfl, rfl, rfl⟩ := h
          have hlt : j * s0 + (E y).length ≤ xs.length * s0 := by
            have : (j + 1) * s0 ≤ xs.length * s0 := Nat.mul_le_mul_right _ hj
            rw [Nat.add_mul] at this
            rw [hE]
            omega
          have h2 := EffW.storeN (P := P) (e := ev m.st.fr) (hp := m.st.hp) (t := t) (p := p) (x := x) i0 (j * s0) _ (E y) hx hv hi (by rw [hsz, hk]) (by simpa using hone) (by simp only [AObj.cells]; rw [rows_length hE]; exact hlt) (by simpa using hne) (by simp [hleaf])
          simp only [AObj.cells, AObj.withCells] at h2
          rw [rows_setN hE xs j y hj] at h2
          rw [List.length_set] at h'
          exact R.effW hop h2 ht h'
        · cases h
      · cases h
    · cases h
  · cases h
end

section
variable {H : Type} {enc : TypeId × Value → H} {P : Program} {w : World} {base : Nat} {spare : Nat → Bool} {held : Bool}

def Z0 (w : World) : Nat → Prop := Zone (fun _ => False) NoF w.heap.size

theorem not_Z0 {w : World} {ad : Addr} {u : Value} (h : w.cell? ad = some u) : ¬ Z0 w ad.block := by
  intro hz
  rcases hz with ⟨_, h1⟩ | ⟨h1, _⟩
  · exact h1
  · unfold World.cell? at h
    rw [Array.getElem?_eq_none_iff.2 h1] at h
    simp at h

theorem choose_list {α : Type} [Inhabited α] {n : Nat} {p : Nat → α → Prop} (h : ∀ i, i < n → ∃ x, p i x) : ∃ xs : List α, xs.length = n ∧ ∀ i, i < n → p i (xs.getD i default) := by
  induction n with
  | zero => exact ⟨[], rfl, fun i hi => by omega⟩
  | succ n ih =>
    obtain ⟨xs, h1, h2⟩ := ih fun i hi => h i (by omega)
    obtain ⟨x, hx⟩ := h n (by omega)
    refine ⟨xs ++ [x], by simp [h1], fun i hi => ?_⟩
    by_cases hin : i < n
    · rw [List.getD_eq_getElem?_getD, List.getElem?_append_left (by omega), ← List.getD_eq_getElem?_getD]
      exact h2 i hin
    · rw [show i = n by omega, List.getD_eq_getElem?_getD, List.getElem?_append_right (by omega), h1]
      simpa using hx

theorem RelL_ints {Z : Nat → Prop} {μ : List Value} : ∀ xs : List Int, RelL w Z μ (rows eI xs) (xs.map fun n => .int .i64 n)
  | [] => RelL.nil
  | x :: xs => RelL.cons (by simp [AI, Rel]) (RelL_ints xs)
theorem RelL_pairs {Z : Nat → Prop} {μ : List Value} : ∀ xs : List (Int × Int), RelL w Z μ (rows eN xs) (xs.flatMap fun p => [.int .i64 p.1, .int .i64 p.2])
  | [] => RelL.nil
  | x :: xs => RelL.cons (by simp [AI, Rel]) (RelL.cons (by simp [AI, Rel]) (RelL_pairs xs))

theorem trod_ints {t e : TypeId} {fuel : Nat} {cs : List Value} {x : DataW H × List MemPlace} (ht : P.underlying t = some (.slice e)) (he : P.underlying e = some (.int .i64)) (hc : P.cellsOf e = 1)
    (h : DataW.trod enc P w base spare held fuel t cs = some x) : ∃ v, cs = [v] ∧ ∃ xs : List Int, xs.length ≤ maxLen ∧ Rel w (Z0 w) [] (LI xs) v := by
  rcases open_slice1 ht hc h with ⟨rfl, _⟩ | ⟨a, len, cap, m, n, V, D, Pl, rfl, _, hl, hm, hmm, _, hx⟩
  · exact ⟨_, rfl, [], Nat.zero_le _, none, 0, [], rfl, rfl, Nat.le_refl _, fun h => absurd rfl h, RelL.nil⟩
  · have hlm : len ≤ m := by rw [hmm]; split <;> omega
    obtain ⟨xs, h1, h2⟩ := choose_list (n := len) (p := fun i y => w.cell? (a.add i) = some (.int .i64 y)) fun i hi => by
      obtain ⟨g1, g2⟩ := hx i (by omega)
      obtain ⟨y, hy, _⟩ := DataW.trod_int he g2
      simp at hy
      exact ⟨y, by rw [g1, hy]⟩
    refine ⟨_, rfl, xs, by omega, ⟨some a, cap, xs.map fun n => .int .i64 n, by rw [h1], by rw [rows_length eI_len, h1], by omega, fun hne => ⟨a, rfl, ?_, fun j u hj => ?_⟩, RelL_ints xs⟩⟩
    · have : 0 < len := by
        rw [← h1]
        cases xs with
        | nil => exact absurd rfl hne
        | cons x xs => simp
      have := not_Z0 (h2 0 this)
      simpa [Addr.add] using this
    · rw [List.getElem?_map, Option.map_eq_some_iff] at hj
      obtain ⟨y, hy, rfl⟩ := hj
      have hj := (List.getElem?_eq_some_iff.1 hy).1
      rw [h2 j (by omega), List.getD_eq_getElem?_getD, hy]
      rfl

theorem trod_pairs {t e : TypeId} {f0 f1 : Field} {fuel : Nat} {cs : List Value} {x : DataW H × List MemPlace} (ht : P.underlying t = some (.slice e)) (he : P.underlying e = some (.struct #[f0, f1]))
    (ce : P.cellsOf e = 2) (o0 : f0.offset = 0) (o1 : f1.offset = 1) (c0 : P.cellsOf f0.type = 1) (c1 : P.cellsOf f1.type = 1) (u0 : P.underlying f0.type = some (.int .i64)) (u1 : P.underlying f1.type = some (.int .i64))
    (h : DataW.trod enc P w base spare held fuel t cs = some x) : ∃ v, cs = [v] ∧ ∃ xs : List (Int × Int), xs.length ≤ maxLen ∧ Rel w (Z0 w) [] (LN xs) v := by
  rcases open_slice_pairs ht he ce o0 o1 c0 c1 h with ⟨rfl, _⟩ | ⟨a, len, cap, m, n, V0, V1, D0, D1, P0, P1, rfl, _, hl, hm, hmm, _, hx⟩
  · exact ⟨_, rfl, [], Nat.zero_le _, none, 0, [], rfl, rfl, Nat.le_refl _, fun h => absurd rfl h, RelL.nil⟩
  · have hlm : len ≤ m := by rw [hmm]; split <;> omega
    obtain ⟨xs, h1, h2⟩ := choose_list (n := len) (p := fun i (y : Int × Int) => w.cell? (a.add (i * 2)) = some (.int .i64 y.1) ∧ w.cell? (a.add (i * 2 + 1)) = some (.int .i64 y.2)) fun i hi => by
      obtain ⟨g0, g1, g2, g3⟩ := hx i (by omega)
      obtain ⟨y, hy, _⟩ := DataW.trod_int u0 g2
      obtain ⟨z, hz, _⟩ := DataW.trod_int u1 g3
      simp at hy hz
      exact ⟨(y, z), by rw [g0, hy], by rw [g1, hz]⟩
    have hlen : ∀ xs : List (Int × Int), (xs.flatMap fun p => [Value.int .i64 p.1, Value.int .i64 p.2]).length = xs.length * 2 := fun xs => by
      induction xs with
      | nil => rfl
      | cons x xs ih => simp only [List.flatMap_cons, List.length_append, ih, List.length_cons, List.length_nil]; omega
    have hget : ∀ (xs : List (Int × Int)) (j : Nat) u, (xs.flatMap fun p => [Value.int .i64 p.1, Value.int .i64 p.2])[j]? = some u → j / 2 < xs.length ∧ u = .int .i64 (if j % 2 = 0 then (xs.getD (j / 2) default).1 else (xs.getD (j / 2) default).2) := fun xs => by
      induction xs with
      | nil => intro j u h; simp at h
      | cons x xs ih =>
        intro j u h
        simp only [List.flatMap_cons] at h
        match j, h with
        | 0, h => simp at h; exact ⟨by simp, by simp [← h]⟩
        | 1, h => simp at h; exact ⟨by simp, by simp [← h]⟩
        | j + 2, h =>
          simp at h
          obtain ⟨h1, h2⟩ := ih j u (by simpa using h)
          rw [show (j + 2) / 2 = j / 2 + 1 by omega, show (j + 2) % 2 = j % 2 by omega]
          exact ⟨by simpa using h1, by simpa using h2⟩
    refine ⟨_, rfl, xs, by omega, ⟨some a, cap, xs.flatMap fun p => [.int .i64 p.1, .int .i64 p.2], by rw [h1], by rw [rows_length eN_len, h1], by omega, fun hne => ⟨a, rfl, ?_, fun j u hj => ?_⟩, RelL_pairs xs⟩⟩
    · have : 0 < len := by
        rw [← h1]
        cases xs with
        | nil => exact absurd rfl hne
        | cons x xs => simp
      have := not_Z0 (h2 0 this).1
      simpa [Addr.add] using this
    · obtain ⟨g1, g2⟩ := hget xs j u hj
      obtain ⟨g3, g4⟩ := h2 (j / 2) (by omega)
      by_cases hp : j % 2 = 0
      · rw [if_pos hp] at g2
        rw [show j / 2 * 2 = j by omega] at g3
        rw [g3, g2]
      · rw [if_neg hp] at g2
        rw [show j / 2 * 2 + 1 = j by omega] at g4
        rw [g4, g2]

theorem open_ints {r : Reach} {b0 : Nat} {t e : TypeId} {v : Value} {d : DataW H} {ps : List MemPlace} (ht : P.underlying t = some (.slice e)) (he : P.underlying e = some (.int .i64)) (hc : P.cellsOf e = 1)
    (hval : Value.okWide P w r b0 t v) (hd : DataW.Trod enc P w base spare held t v d ps) : ∃ xs : List Int, xs.length ≤ maxLen ∧ Rel w (Z0 w) [] (LI xs) v := by
  obtain ⟨A, n, c, rfl⟩ := okWide_slice ht hval
  obtain ⟨fuel, hf⟩ := hd
  obtain ⟨v, h1, h2⟩ := trod_ints ht he hc hf
  simp [Value.cells] at h1
  subst h1
  exact h2

theorem open_pairs {r : Reach} {b0 : Nat} {t e : TypeId} {f0 f1 : Field} {v : Value} {d : DataW H} {ps : List MemPlace} (ht : P.underlying t = some (.slice e)) (he : P.underlying e = some (.struct #[f0, f1]))
    (ce : P.cellsOf e = 2) (o0 : f0.offset = 0) (o1 : f1.offset = 1) (c0 : P.cellsOf f0.type = 1) (c1 : P.cellsOf f1.type = 1) (u0 : P.underlying f0.type = some (.int .i64)) (u1 : P.underlying f1.type = some (.int .i64))
    (hval : Value.okWide P w r b0 t v) (hd : DataW.Trod enc P w base spare held t v d ps) : ∃ xs : List (Int × Int), xs.length ≤ maxLen ∧ Rel w (Z0 w) [] (LN xs) v := by
  obtain ⟨A, n, c, rfl⟩ := okWide_slice ht hval
  obtain ⟨fuel, hf⟩ := hd
  obtain ⟨v, h1, h2⟩ := trod_pairs ht he ce o0 o1 c0 c1 u0 u1 hf
  simp [Value.cells] at h1
  subst h1
  exact h2

/-- A struct of an integer and a row of integers. -/
theorem open_int_row {r : Reach} {b0 : Nat} {t e : TypeId} {f0 f1 : Field} {v : Value} {d : DataW H} {ps : List MemPlace} (ht : P.underlying t = some (.struct #[f0, f1])) (ct : P.cellsOf t = 2)
    (o0 : f0.offset = 0) (o1 : f1.offset = 1) (c0 : P.cellsOf f0.type = 1) (c1 : P.cellsOf f1.type = 1) (u0 : P.underlying f0.type = some (.int .i64)) (u1 : P.underlying f1.type = some (.slice e)) (ue : P.underlying e = some (.int .i64)) (ce : P.cellsOf e = 1)
    (hval : Value.okWide P w r b0 t v) (hd : DataW.Trod enc P w base spare held t v d ps) : ∃ (n : Int) (xs : List Int), xs.length ≤ maxLen ∧ Rel w (Z0 w) [] (.agg [AI n, LI xs]) v := by
  obtain ⟨cs, rfl, hcs⟩ := okWide_struct ht hval
  rw [ct] at hcs
  obtain ⟨fuel, hf⟩ := hd
  simp only [Value.cells] at hf
  obtain ⟨ys, k, _, _, _, hyl, hfs⟩ := DataW.trod_struct ht hf
  obtain ⟨cl⟩ := cs
  match ys, hyl, cl, hcs with
  | [y0, y1], _, [v0, v1], _ =>
    have g0 := hfs 0 f0 rfl
    have g1 := hfs 1 f1 rfl
    simp [o0, o1, c0, c1] at g0 g1
    obtain ⟨n, hn, _⟩ := DataW.trod_int u0 g0
    simp at hn
    subst hn
    obtain ⟨v, hv, xs, hx, hr⟩ := trod_ints u1 ue ce g1
    simp at hv
    subst hv
    exact ⟨n, xs, hx, [_, _], rfl, RelL.cons (by simp [AI, Rel]) (RelL.cons hr RelL.nil)⟩

end
end Go.Abs
