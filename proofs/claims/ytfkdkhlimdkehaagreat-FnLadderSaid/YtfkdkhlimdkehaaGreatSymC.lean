/- Soundness of the operations that write to no old memory. -/
import Derived.Test.YtfkdkhlimdkehaaGreatSymB
namespace Go.Abs
open Go.RowKit

theorem ofConst_rel (w : World) (Z : Nat → Prop) (μ : List Value) (v : Value) : Rel w Z μ (ofConst v) v := by
  unfold ofConst
  split <;> simp [Rel]

theorem ev_rel {w : World} {Z : Nat → Prop} {μ : List Value} {fr : List AV} {a : Act} (h : RelL w Z μ fr a.tmps.toList) (x : Operand) : Rel w Z μ (ev fr x) (a.eval x) := by
  cases x with
  | tmp t =>
    have := h.getD t undef
    simpa [ev, Act.eval, Array.getD_eq_getD_getElem?, List.getD_eq_getElem?_getD] using this
  | const v => exact ofConst_rel _ _ _ _
  | global g => simp [ev, Rel]
  | func f => exact ⟨[], rfl, RelL.nil⟩

theorem rel_int {w Z μ k n v} (h : Rel w Z μ (.int k n) v) : v = .int k n := by simpa [Rel] using h
theorem rel_bool {w Z μ b v} (h : Rel w Z μ (.bool b) v) : v = .bool b := by simpa [Rel] using h

theorem run_cells_box {P : Program} (t : TypeId) (i : TypeInfo) (z : Value) (hi : P.info? t = some i) (hz : i.zero = some z) (W : World) :
    (zeroValue t).run P W = .ok z W := by simp [zeroValue, typeInfo, hi, hz]

theorem HRel.extend1 {w w' : World} {Z : Nat → Prop} {B : Nat} {μ : List Value} {hp : List AObj} {u : Value} {o : AObj} (h : HRel w Z B μ hp) (hZ : ∀ b, w.heap.size ≤ b → Z b)
    (hb : Below w.heap.size w w') (hnew : ObjRel w' Z (μ ++ [u]) B u o) (hge : ∀ g, blk u = some g → w.heap.size ≤ g) (hone : u.oneCell' = true) : HRel w' Z B (μ ++ [u]) (hp ++ [o]) := by
  have hold : ∀ (i : Nat) (x : Value), μ[i]? = some x → (μ ++ [u])[i]? = some x := fun i x hx => by
    rw [List.getElem?_append_left (List.getElem?_eq_some_iff.1 hx).1]; exact hx
  have hbk : ∀ (i : Nat) oi ui g, hp[i]? = some oi → oi.alive = true → μ[i]? = some ui → blk ui = some g → g < w.heap.size := fun i oi ui g h1 h2 h3 h4 => ((h.obj i oi ui h1 h3).blk_ge h2 h4).2
  have split : ∀ (i : Nat) oi ui, (hp ++ [o])[i]? = some oi → (μ ++ [u])[i]? = some ui → (hp[i]? = some oi ∧ μ[i]? = some ui) ∨ (i = hp.length ∧ oi = o ∧ ui = u) := by
    intro i oi ui h1 h2
    rcases Nat.lt_trichotomy i hp.length with hi | hi | hi
    · rw [List.getElem?_append_left hi] at h1
      rw [List.getElem?_append_left (by rw [h.len]; exact hi)] at h2
      exact .inl ⟨h1, h2⟩
    · subst hi
      rw [List.getElem?_append_right (Nat.le_refl _)] at h1
      rw [List.getElem?_append_right (by rw [h.len]; exact Nat.le_refl _), h.len] at h2
      simp at h1 h2
      exact .inr ⟨rfl, h1.symm, h2.symm⟩
    · rw [List.getElem?_eq_none (by simp; omega)] at h1
      cases h1
  refine ⟨by simp [h.len], fun i oi ui g h1 ha h2 hg => ?_, fun i x hx => ?_, fun i oi ui h1 h2 => ?_, fun i j oi oj ui uj g hne h1 h2 a1 a2 m1 m2 b1 b2 => ?_⟩
  · rcases split i oi ui h1 h2 with ⟨e1, e2⟩ | ⟨_, rfl, rfl⟩
    · exact h.zone i oi ui g e1 ha e2 hg
    · exact hZ g (hge g hg)
  · rcases Nat.lt_or_ge i μ.length with hi | hi
    · rw [List.getElem?_append_left hi] at hx
      exact h.one i x hx
    · rw [List.getElem?_append_right hi] at hx
      have : x = u := by
        rcases Nat.eq_zero_or_pos (i - μ.length) with h0 | h0
        · rw [h0] at hx; simpa using hx.symm
        · rw [List.getElem?_eq_none (by simp; omega)] at hx; cases hx
      subst this
      exact hone
  · rcases split i oi ui h1 h2 with ⟨e1, e2⟩ | ⟨_, rfl, rfl⟩
    · cases ho : oi.alive with
      | true => exact (h.obj i oi ui e1 e2).keep (fun b hb1 _ => hb.block b hb1) hold (fun g hg => hb.block g (hbk i oi ui g e1 ho e2 hg))
      | false => exact (h.obj i oi ui e1 e2).keep_dead (fun b hb1 _ => hb.block b hb1) hold ho
    · exact hnew
  · rcases split i oi ui h1 m1 with ⟨e1, e2⟩ | ⟨hi, rfl, rfl⟩ <;> rcases split j oj uj h2 m2 with ⟨e3, e4⟩ | ⟨hj, rfl, rfl⟩
    · exact h.sep i j oi oj ui uj g hne e1 e3 a1 a2 e2 e4 b1 b2
    · have := hbk i oi ui g e1 a1 e2 b1
      have := hge g b2
      omega
    · have := hbk j oj uj g e3 a2 e4 b2
      have := hge g b1
      omega
    · omega

theorem obj_cell {w : World} {Z : Nat → Prop} {μ : List Value} {B : Nat} {u : Value} {ob : AObj} (h : ObjRel w Z μ B u ob) {g : Nat} (hg : blk u = some g) {j : Nat} {c : AV} (hc : ob.cells[j]? = some c) :
    ∃ x, w.cell? ⟨g, j, none⟩ = some x ∧ Rel w Z μ c x := by
  cases ob with
  | box t cs =>
    obtain ⟨g', xs, rfl, _, hh, hr⟩ := h
    simp only [blk, Option.some.injEq] at hg
    subst hg
    obtain ⟨x, hx, hrx⟩ := hr.get hc
    exact ⟨x, by rw [cell_of_row w _ j _ _ _ hh]; simpa using hx, hrx⟩
  | list e s n cs =>
    obtain ⟨xs, hown, hr⟩ := h
    obtain ⟨x, hx, hrx⟩ := hr.get hc
    have hown2 := hown
    rcases hown.2 with ⟨rfl, _⟩ | ⟨g', cap, cur, rfl, _⟩
    · simp [blk] at hg
    · simp only [blk, Option.some.injEq] at hg
      subst hg
      have hj : j < n * s := by
        have h1 := (List.getElem?_eq_some_iff.1 hx).1
        rw [hown2.1] at h1
        exact h1
      exact ⟨x, by rw [hown2.cellAt j hj]; exact hx, hrx.lift⟩
  | dead => simp [AObj.cells] at hc
  | frame us cs => simp [AObj.cells] at hc
  | inert x => simp [AObj.cells] at hc

theorem obj_cells {w : World} {Z : Nat → Prop} {μ : List Value} {B : Nat} {u : Value} {ob : AObj} (h : ObjRel w Z μ B u ob) : ∃ xs, RelL w Z μ ob.cells xs ∧ ∀ g, blk u = some g → ∀ (j : Nat) x, xs[j]? = some x → w.cell? ⟨g, j, none⟩ = some x := by
  cases ob with
  | box t cs =>
    obtain ⟨g', xs, rfl, _, hh, hr⟩ := h
    refine ⟨xs, hr, fun g hg j x hx => ?_⟩
    simp only [blk, Option.some.injEq] at hg
    subst hg
    rw [cell_of_row w _ j _ _ _ hh]; simpa using hx
  | list e s n cs =>
    obtain ⟨xs, hown, hr⟩ := h
    refine ⟨xs, hr.lift, fun g hg j x hx => ?_⟩
    have hown2 := hown
    rcases hown.2 with ⟨rfl, _⟩ | ⟨g', cap, cur, rfl, _⟩
    · simp [blk] at hg
    · simp only [blk, Option.some.injEq] at hg
      subst hg
      have hj : j < n * s := by
        have h1 := (List.getElem?_eq_some_iff.1 hx).1
        rw [hown2.1] at h1
        exact h1
      rw [hown2.cellAt j hj]; exact hx
  | dead => exact ⟨[], RelL.nil, fun _ _ _ _ hx => by simp at hx⟩
  | frame us cs => exact ⟨[], RelL.nil, fun _ _ _ _ hx => by simp at hx⟩
  | inert x => exact ⟨[], RelL.nil, fun _ _ _ _ hx => by simp at hx⟩

theorem add_lit' (g o n : Nat) : Addr.add ⟨g, o, none⟩ n = ⟨g, o + n, none⟩ := Addr.add_lit g o n

theorem run_isAgg {P : Program} {t : TypeId} {b : Bool} (h : aggB P t = some b) (w : World) : (isAgg t).run P w = .ok b w := by
  unfold aggB at h
  cases hu : P.underlying t with
  | none => simp [hu] at h
  | some d =>
    simp only [hu, Option.map_some, Option.some.injEq] at h
    subst h
    cases d <;> simp [isAgg, run_underlying hu]

theorem run_size {P : Program} {t : TypeId} {k : Nat} (h : sizeB P t = some k) (w : World) : (sizeOf t).run P w = .ok k w := by
  unfold sizeB at h
  cases hi : P.info? t with
  | none => simp [hi] at h
  | some i =>
    simp only [hi, Option.map_some, Option.some.injEq] at h
    subst h
    simp [sizeOf, typeInfo, hi]

theorem run_load_cell {P : Program} {w : World} {a : Addr} {x : Value} (h : w.cell? a = some x) : (load a).run P w = .ok x w := by
  simp only [load, Sem.run, h]

theorem run_loadVar1 {P : Program} {w : World} {t : TypeId} {a : Addr} {x : Value} (ht : aggB P t = some false) (h : w.cell? a = some x) : (loadVar t a).run P w = .ok x w := by
  simp only [loadVar, Sem.run_bind, run_isAgg ht, Result.andThen_ok, Bool.false_eq_true, if_false, run_load_cell h]

theorem run_loadVarN {P : Program} {w : World} {t : TypeId} {a : Addr} {k : Nat} {xs : List Value} (ht : aggB P t = some true) (hk : sizeB P t = some k) (hl : xs.length = k)
    (h : ∀ (j : Nat) v, xs[j]? = some v → w.cell? (a.add j) = some v) : (loadVar t a).run P w = .ok (.agg xs.toArray) w := by
  subst hl
  simp only [loadVar, Sem.run_bind, run_isAgg ht, Result.andThen_ok, if_true, run_size hk]
  rw [run_loadCells_list (P := P) w a xs h]
  simp

/-- What an operation that writes to no old memory comes to. -/
def Good (w : World) (Z : Nat → Prop) (B : Nat) (μ : List Value) (hp : List AObj) (v : AV) (news : List AObj) (r : Result Next) : Prop :=
  ∃ x w' μs, r = .ok (.value x) w' ∧ Below w.heap.size w w' ∧ HRel w' Z B (μ ++ μs) (hp ++ news) ∧ Rel w' Z (μ ++ μs) v x

theorem Good.pure {w Z B μ hp v} {x : Value} {r : Result Next} (hH : HRel w Z B μ hp) (hr : r = .ok (.value x) w) (hv : Rel w Z μ v x) : Good w Z B μ hp v [] r :=
  ⟨x, w, [], hr, Below.refl _ _, by simpa using hH, by simpa using hv⟩

theorem Good.new {w Z B μ hp v} {x u : Value} {o : AObj} {ob : Obj} {r : Result Next} (hH : HRel w Z B μ hp) (hZ : ∀ b, w.heap.size ≤ b → Z b) (hr : r = .ok (.value x) (w.alloc ob))
    (hnew : ObjRel (w.alloc ob) Z (μ ++ [u]) B u o) (hge : ∀ g, blk u = some g → w.heap.size ≤ g) (hone : u.oneCell' = true) (hv : Rel (w.alloc ob) Z (μ ++ [u]) v x) : Good w Z B μ hp v [o] r :=
  ⟨x, w.alloc ob, [u], hr, (Below.refl _ _).alloc (Nat.le_refl _) _, hH.extend1 hZ ((Below.refl _ _).alloc (Nat.le_refl _) _) hnew hge hone, hv⟩

theorem cells_rel {w Z μ} (hone : ∀ (i : Nat) u, μ[i]? = some u → u.oneCell' = true) {c : AV} {v : Value} (h : Rel w Z μ c v) (hc : ∀ b, c ≠ .tup b) (ht : c ≠ .top ∨ ∀ xs, v ≠ .agg xs) : RelL w Z μ c.cells v.cells.toList := by
  cases c with
  | agg cs =>
    simp only [Rel] at h
    obtain ⟨xs, rfl, hr⟩ := h
    simpa [AV.cells, Value.cells] using hr
  | tup cs => exact absurd rfl (hc cs)
  | top =>
    rcases ht with ht | ht
    · exact absurd rfl ht
    · have : v.cells = #[v] := by cases v <;> simp_all [Value.cells]
      rw [this]
      exact RelL.cons h RelL.nil
  | own => simp [Rel] at h
  | lst s n cs =>
    have h2 := h
    simp only [Rel] at h2
    obtain ⟨A, c, xs, rfl, _⟩ := h2
    exact RelL.cons h RelL.nil
  | clp s n cs =>
    have h2 := h
    simp only [Rel] at h2
    obtain ⟨A, c, xs, rfl, _⟩ := h2
    exact RelL.cons h RelL.nil
  | rptr cs =>
    have h2 := h
    simp only [Rel] at h2
    obtain ⟨ad, xs, rfl, _⟩ := h2
    exact RelL.cons h RelL.nil
  | fn f cs =>
    have h2 := h
    simp only [Rel] at h2
    obtain ⟨xs, rfl, _⟩ := h2
    exact RelL.cons h RelL.nil
  | ptr i o =>
    have h2 := h
    simp only [Rel] at h2
    obtain ⟨u, g, _, _, rfl⟩ := h2
    exact RelL.cons h RelL.nil
  | int k n => obtain rfl := rel_int h; exact RelL.cons h RelL.nil
  | bool b => obtain rfl := rel_bool h; exact RelL.cons h RelL.nil
  | str s => have h2 := h; simp only [Rel] at h2; subst h2; exact RelL.cons h RelL.nil
  | nil => have h2 := h; simp only [Rel] at h2; subst h2; exact RelL.cons h RelL.nil
  | ref i =>
    have h1 := hone i v (by simpa [Rel] using h)
    have : v.cells = #[v] := by cases v <;> simp_all [Value.cells, Value.oneCell']
    rw [this]
    exact RelL.cons h RelL.nil

end Go.Abs
