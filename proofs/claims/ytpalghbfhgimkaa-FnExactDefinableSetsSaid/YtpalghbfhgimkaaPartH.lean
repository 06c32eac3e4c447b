/- Texts of the proof: Syma, Symb, Symc, Symf, Symg, DS1, SRT. -/
import Derived.Shelf.SortM.Plain
import Derived.Shelf.SortM.SortNone
import Derived.Sort.OwnSortedInts
import Derived.Laws.Concat
import Derived.Laws.BytesString
import Derived.Test.YtpalghbfhgimkaaPartG

/-! Named slices: rows of one's own laid into rows; a named row taken back to be written; slots read by names. -/
namespace Go.Abs
open Go.RowKit

/-! ### Names -/
mutual
/-- u stands named in c, with a block that is read. -/
def InN (u : Value) : AV → Prop
  | .nam v o _ _ cs => (u = v ∧ (cs ≠ [] ∨ o ≠ none)) ∨ InNL u cs
  | .lst _ _ cs => InNL u cs
  | .clp _ _ cs => InNL u cs
  | .rptr cs => InNL u cs
  | .agg cs => InNL u cs
  | .tup cs => InNL u cs
  | .fn _ cs => InNL u cs
  | .int _ _ => False
  | .bool _ => False
  | .str _ => False
  | .nil => False
  | .ref _ => False
  | .ptr _ _ => False
  | .own _ _ _ _ => False
  | .top => False
def InNL (u : Value) : List AV → Prop
  | [] => False
  | c :: cs => InN u c ∨ InNL u cs
end

mutual
/-- Nothing is read but by a name. -/
def NoRaw : AV → Bool
  | .nam _ _ _ _ cs => NoRawL cs
  | .lst _ _ cs => cs.isEmpty
  | .clp _ _ cs => cs.isEmpty
  | .rptr _ => false
  | .agg cs => NoRawL cs
  | .tup cs => NoRawL cs
  | .fn _ cs => NoRawL cs
  | .int _ _ => true
  | .bool _ => true
  | .str _ => true
  | .nil => true
  | .ref _ => true
  | .ptr _ _ => true
  | .own _ _ _ _ => true
  | .top => true
def NoRawL : List AV → Bool
  | [] => true
  | c :: cs => NoRaw c && NoRawL cs
end

theorem inNL_iff {u : Value} : ∀ {cs : List AV}, InNL u cs ↔ ∃ c ∈ cs, InN u c
  | [] => by simp [InNL]
  | c :: cs => by rw [InNL, inNL_iff]; simp
theorem add_block' (a : Addr) (j : Nat) : (a.add j).block = a.block := by unfold Addr.add; split <;> rfl

section
variable {w : World}
mutual
/-- A name's block is there, and is not written. -/
theorem InN.of {Z : Nat → Prop} {μ : List Value} {u : Value} {g : Nat} (hg : blk u = some g) : ∀ {c : AV} {v : Value}, Rel w Z μ c v → InN u c → g < w.heap.size ∧ ¬ Z g
  | .nam v' o s n cs, v, h, hn => by
    simp only [Rel] at h
    simp only [InN] at hn
    obtain ⟨⟨h0, h00⟩, A, c, xs, h1, h2, h3, h4, h5⟩ := h
    rcases hn with ⟨rfl, hn⟩ | hn
    · subst h0
      by_cases ho : o = none
      · have hcs : cs ≠ [] := by
          rcases hn with hn | hn
          · exact hn
          · exact absurd ho hn
        have hx : xs ≠ [] := by
          intro e
          have h6 := h5.length
          rw [e] at h6
          exact hcs (List.eq_nil_of_length_eq_zero (by simpa using h6.symm))
        obtain ⟨ad, rfl, hz, hc⟩ := h4 hx
        rw [h1] at hg
        simp only [blk, Option.some.injEq] at hg
        subst hg
        cases xs with
        | nil => exact absurd rfl hx
        | cons y ys =>
          have h6 := World.block_lt_of_cell? w _ (hc 0 y rfl)
          rw [add_block'] at h6
          exact ⟨h6, hz⟩
      · cases o with
        | none => exact absurd rfl ho
        | some e =>
          obtain ⟨xs', hown, hz⟩ := h00 e rfl
          exact ⟨ownsRow_lt' hown hg, hz g hg⟩
    · exact InNL.of hg h5 hn
  | .lst s n cs, v, h, hn => by
    simp only [Rel] at h
    simp only [InN] at hn
    obtain ⟨A, c, xs, h1, h2, h3, h4, h5⟩ := h
    exact InNL.of hg h5 hn
  | .clp s n cs, v, h, hn => by
    simp only [Rel] at h
    simp only [InN] at hn
    obtain ⟨A, c, xs, h1, h2, h3, h4, h5⟩ := h
    exact InNL.of hg h5 hn
  | .rptr cs, v, h, hn => by
    simp only [Rel] at h
    simp only [InN] at hn
    obtain ⟨ad, xs, h1, h4, h5⟩ := h
    exact InNL.of hg h5 hn
  | .agg cs, v, h, hn => by
    simp only [Rel] at h
    simp only [InN] at hn
    obtain ⟨xs, h1, h5⟩ := h
    exact InNL.of hg h5 hn
  | .tup cs, v, h, hn => by
    simp only [Rel] at h
    simp only [InN] at hn
    obtain ⟨xs, h1, h5⟩ := h
    exact InNL.of hg h5 hn
  | .fn f cs, v, h, hn => by
    simp only [Rel] at h
    simp only [InN] at hn
    obtain ⟨xs, h1, h5⟩ := h
    exact InNL.of hg h5 hn
  | .int _ _, _, _, hn => by simp [InN] at hn
  | .bool _, _, _, hn => by simp [InN] at hn
  | .str _, _, _, hn => by simp [InN] at hn
  | .nil, _, _, hn => by simp [InN] at hn
  | .ref _, _, _, hn => by simp [InN] at hn
  | .ptr _ _, _, _, hn => by simp [InN] at hn
  | .own _ _ _ _, _, _, hn => by simp [InN] at hn
  | .top, _, _, hn => by simp [InN] at hn
theorem InNL.of {Z : Nat → Prop} {μ : List Value} {u : Value} {g : Nat} (hg : blk u = some g) : ∀ {cs : List AV} {vs : List Value}, RelL w Z μ cs vs → InNL u cs → g < w.heap.size ∧ ¬ Z g
  | [], _, _, hn => by simp [InNL] at hn
  | c :: cs, _, h, hn => by
    simp only [RelL] at h
    simp only [InNL] at hn
    obtain ⟨x, xs, rfl, h1, h2⟩ := h
    rcases hn with hn | hn
    · exact InN.of hg h1 hn
    · exact InNL.of hg h2 hn
end

mutual
/-- What does not read block g stays what it is where that may be written. -/
theorem Rel.thaw {Z Z' : Nat → Prop} {g : Option Nat} (hz : ∀ b, ¬ Z b → g ≠ some b → ¬ Z' b) : ∀ {μ μ' : List Value} (_ : ∀ (i : Nat) (u : Value), μ[i]? = some u → μ'[i]? = some u) {c : AV} {v : Value}, NoRaw c = true → (∀ u, InN u c → ∀ b, g = some b → blk u ≠ some b) → Rel w Z μ c v → Rel w Z' μ' c v
  | μ, μ', hm, .nam u o s n cs, v, hr, hn, h => by
    simp only [Rel] at h ⊢
    simp only [NoRaw] at hr
    obtain ⟨⟨h0, h00⟩, A, c, xs, h1, h2, h3, h4, h5⟩ := h
    refine ⟨⟨h0, fun e he => ?_⟩, A, c, xs, h1, h2, h3, fun hx => ?_, RelL.thaw hz (μ := []) (μ' := []) (fun _ _ h => h) hr (fun u' hu' => hn u' (by simp only [InN]; exact .inr hu')) h5⟩
    · obtain ⟨ys, k1, k2⟩ := h00 e he
      refine ⟨ys, k1, fun b hb => hz b (k2 b hb) (fun hgb => hn u (by rw [InN]; exact .inl ⟨rfl, .inr (by rw [he]; simp)⟩) b hgb (by rw [← h0]; exact hb))⟩
    · obtain ⟨ad, rfl, k1, k2⟩ := h4 hx
      refine ⟨ad, rfl, hz _ k1 (fun hgb => hn u (by rw [InN]; exact .inl ⟨rfl, .inl (fun e => hx (List.eq_nil_of_length_eq_zero (by have h6 := h5.length; rw [e] at h6; simpa using h6)))⟩) _ hgb (by rw [← h0, h1]; rfl)), k2⟩
  | μ, μ', hm, .lst s n cs, v, hr, hn, h => by
    simp only [Rel] at h ⊢
    simp only [NoRaw, List.isEmpty_iff] at hr
    subst hr
    obtain ⟨A, c, xs, h1, h2, h3, h4, h5⟩ := h
    rw [RelL] at h5
    subst h5
    exact ⟨A, c, [], h1, h2, h3, fun h => absurd rfl h, RelL.nil⟩
  | μ, μ', hm, .clp s n cs, v, hr, hn, h => by
    simp only [Rel] at h ⊢
    simp only [NoRaw, List.isEmpty_iff] at hr
    subst hr
    obtain ⟨A, c, xs, h1, h2, h3, h4, h5⟩ := h
    rw [RelL] at h5
    subst h5
    exact ⟨A, c, [], h1, h2, h3, fun h => absurd rfl h, RelL.nil⟩
  | μ, μ', hm, .rptr cs, v, hr, hn, h => by simp [NoRaw] at hr
  | μ, μ', hm, .agg cs, v, hr, hn, h => by
    simp only [Rel] at h ⊢
    simp only [NoRaw] at hr
    obtain ⟨xs, h1, h5⟩ := h
    exact ⟨xs, h1, RelL.thaw hz hm hr (fun u' hu' => hn u' (by simp only [InN]; exact hu')) h5⟩
  | μ, μ', hm, .tup cs, v, hr, hn, h => by
    simp only [Rel] at h ⊢
    simp only [NoRaw] at hr
    obtain ⟨xs, h1, h5⟩ := h
    exact ⟨xs, h1, RelL.thaw hz hm hr (fun u' hu' => hn u' (by simp only [InN]; exact hu')) h5⟩
  | μ, μ', hm, .fn f cs, v, hr, hn, h => by
    simp only [Rel] at h ⊢
    simp only [NoRaw] at hr
    obtain ⟨xs, h1, h5⟩ := h
    exact ⟨xs, h1, RelL.thaw hz hm hr (fun u' hu' => hn u' (by simp only [InN]; exact hu')) h5⟩
  | μ, μ', hm, .int _ _, _, _, _, h => by simpa [Rel] using h
  | μ, μ', hm, .bool _, _, _, _, h => by simpa [Rel] using h
  | μ, μ', hm, .str _, _, _, _, h => by simpa [Rel] using h
  | μ, μ', hm, .nil, _, _, _, h => by simpa [Rel] using h
  | μ, μ', hm, .ref i, v, _, _, h => by simp only [Rel] at h ⊢; exact hm i v h
  | μ, μ', hm, .ptr i o, v, _, _, h => by
    simp only [Rel] at h ⊢
    obtain ⟨u, g, h1, h2, h3⟩ := h
    exact ⟨u, g, hm i u h1, h2, h3⟩
  | μ, μ', hm, .own _ _ _ _, _, _, _, h => by simp [Rel] at h
  | μ, μ', hm, .top, _, _, _, h => by simp [Rel]
theorem RelL.thaw {Z Z' : Nat → Prop} {g : Option Nat} (hz : ∀ b, ¬ Z b → g ≠ some b → ¬ Z' b) : ∀ {μ μ' : List Value} (_ : ∀ (i : Nat) (u : Value), μ[i]? = some u → μ'[i]? = some u) {cs : List AV} {vs : List Value}, NoRawL cs = true → (∀ u, InNL u cs → ∀ b, g = some b → blk u ≠ some b) → RelL w Z μ cs vs → RelL w Z' μ' cs vs
  | μ, μ', hm, [], vs, _, _, h => by simpa [RelL] using h
  | μ, μ', hm, c :: cs, vs, hr, hn, h => by
    simp only [RelL] at h ⊢
    simp only [NoRawL, Bool.and_eq_true] at hr
    obtain ⟨x, xs, h1, h2, h3⟩ := h
    exact ⟨x, xs, h1, Rel.thaw hz hm hr.1 (fun u' hu' => hn u' (by simp only [InNL]; exact .inl hu')) h2, RelL.thaw hz hm hr.2 (fun u' hu' => hn u' (by simp only [InNL]; exact .inr hu')) h3⟩
end
end

/-- c reads nothing of v's block. -/
def Safe (v : Value) (c : AV) : Prop := NoRaw c = true ∧ ∀ u, InN u c → ∀ g, blk v = some g → blk u ≠ some g
def SafeL (v : Value) (cs : List AV) : Prop := NoRawL cs = true ∧ ∀ u, InNL u cs → ∀ g, blk v = some g → blk u ≠ some g
def SafeO (v : Value) : AObj → Prop
  | .box _ cs => SafeL v cs
  | .list _ _ _ cs => SafeL v cs
  | .frame _ cs => SafeL v cs
  | .dead => True
  | .inert (.base _) => True
  | .inert _ => False

theorem safeL_nil {v : Value} : SafeL v [] := ⟨rfl, fun u h => by simp [InNL] at h⟩
theorem safeL_cons {v : Value} {c : AV} {cs : List AV} : SafeL v (c :: cs) ↔ Safe v c ∧ SafeL v cs := by
  simp only [SafeL, Safe, NoRawL, Bool.and_eq_true, InNL]
  exact ⟨fun ⟨h1, h2⟩ => ⟨⟨h1.1, fun u hu => h2 u (.inl hu)⟩, h1.2, fun u hu => h2 u (.inr hu)⟩, fun ⟨h1, h2⟩ => ⟨⟨h1.1, h2.1⟩, fun u hu => hu.elim (h1.2 u) (h2.2 u)⟩⟩
theorem safeL_iff {v : Value} {cs : List AV} : SafeL v cs ↔ ∀ c ∈ cs, Safe v c := by
  induction cs with
  | nil => simp [safeL_nil]
  | cons c cs ih => rw [safeL_cons, ih]; simp

theorem safe_int {v : Value} {k : IntKind} {n : Int} : Safe v (.int k n) := ⟨rfl, fun u h => by simp [InN] at h⟩
theorem safe_bool {v : Value} {b : Bool} : Safe v (.bool b) := ⟨rfl, fun u h => by simp [InN] at h⟩
theorem safe_nil {v : Value} : Safe v .nil := ⟨rfl, fun u h => by simp [InN] at h⟩
theorem safe_ref {v : Value} {i : Nat} : Safe v (.ref i) := ⟨rfl, fun u h => by simp [InN] at h⟩
theorem safe_ptr {v : Value} {i o : Nat} : Safe v (.ptr i o) := ⟨rfl, fun u h => by simp [InN] at h⟩
theorem safe_top {v : Value} : Safe v .top := ⟨rfl, fun u h => by simp [InN] at h⟩
theorem safe_agg {v : Value} {cs : List AV} (h : SafeL v cs) : Safe v (.agg cs) := ⟨by simpa [NoRaw] using h.1, fun u hu => h.2 u (by simpa [InN] using hu)⟩
theorem safe_tup {v : Value} {cs : List AV} (h : SafeL v cs) : Safe v (.tup cs) := ⟨by simpa [NoRaw] using h.1, fun u hu => h.2 u (by simpa [InN] using hu)⟩
theorem safe_nam {v u : Value} {o : Option Nat} {s n : Nat} {cs : List AV} (h : SafeL v cs) (hu : ∀ g, blk v = some g → blk u ≠ some g) : Safe v (.nam u o s n cs) :=
  ⟨by simpa [NoRaw] using h.1, fun u' hu' => by
    simp only [InN] at hu'
    rcases hu' with ⟨rfl, _⟩ | hu'
    · exact hu
    · exact h.2 u' hu'⟩

/-- The owned row behind a name is what is read. -/
theorem own_read {w : World} {Z : Nat → Prop} {B e s n c : Nat} {v : Value} {A : Option Addr} {xs ys : List Value} (h : w.ownsRow B e s v n ys) (hv : v = .slice A n c) (hl : xs.length = n * s) (hr : Rd w Z A xs) : xs = ys := by
  have hl2 := h.1
  rcases h.2 with ⟨h1, rfl⟩ | ⟨g, cap, cur, h1, h2, h3, h4, h5, h6, h7⟩
  · simp at hl hl2
    rw [hl, hl2]
  · subst h1
    simp only [Value.slice.injEq] at hv
    obtain ⟨rfl, _, rfl⟩ := hv
    apply List.ext_getElem?
    intro j
    rcases Nat.lt_or_ge j (n * s) with hj | hj
    · obtain ⟨x, hx⟩ : ∃ x, xs[j]? = some x := ⟨_, List.getElem?_eq_getElem (by omega)⟩
      obtain ⟨ad, e1, _, e2⟩ := hr (by rintro rfl; simp at hx)
      cases e1
      have h8 := e2 j x hx
      rw [add_lit', Nat.zero_add, h.cellAt j hj] at h8
      rw [hx, h8]
    · rw [List.getElem?_eq_none (by omega), List.getElem?_eq_none (by omega)]

theorem ownsRow_from {w : World} {B B' e s n : Nat} {v : Value} {xs : List Value} (h : w.ownsRow B e s v n xs) (hg : ∀ g, blk v = some g → B' ≤ g) : w.ownsRow B' e s v n xs := by
  refine ⟨h.1, h.2.imp id ?_⟩
  rintro ⟨g, cap, cur, h1, h2, h3⟩
  exact ⟨g, cap, cur, h1, hg g (by rw [h1]; rfl), h3⟩

/-! ### One of several states -/
def SubE {ι : Type} (st : St) (st' : ι → St) (Φ : ι → Prop) : Prop := ∀ (Z0 : Nat → Prop) (w0 : World) (a : Act) (w : World), Sim Z0 w0 st a w → ∃ x, Φ x ∧ Sim Z0 w0 (st' x) a w

section
variable {rd : Option Nat} {P : Program} {m : M} {Q : Exit → St → Prop}
theorem R.subE {ι : Type} (st' : ι → St) (Φ : ι → Prop) (h : subOk m = true) (hs : SubE m.st st' Φ) (h' : ∀ x, Φ x → Runs rd P ⟨m.ks, st' x⟩ Q) : Runs rd P m Q := by
  obtain ⟨ks, st⟩ := m
  unfold subOk at h
  simp only [runs_iff] at h' ⊢
  try simp only at h hs h' ⊢
  split at h
  · intro Z0 w0 a w hS
    obtain ⟨x, hx, hS'⟩ := hs Z0 w0 a w hS
    exact h' x hx Z0 w0 a w hS'
  · intro _ Z0 w0 a w hS
    obtain ⟨x, hx, hS'⟩ := hs Z0 w0 a w hS
    exact h' x hx headW_false Z0 w0 a w hS'
  · cases h
end

/-! ### A row of one's own gets a name -/
/-- u stands named in the state. -/
def InS (u : Value) (st : St) : Prop := InNL u st.fr ∨ ∃ (j : Nat) (o : AObj), st.hp[j]? = some o ∧ InNL u o.cells

theorem InS.of {w : World} {Z : Nat → Prop} {B : Nat} {μ : List Value} {st : St} {vs : List Value} {u : Value} {g : Nat} (hH : HRel w Z B μ st.hp) (hF : RelL w Z μ st.fr vs) (hg : blk u = some g) (h : InS u st) : g < w.heap.size ∧ ¬ Z g := by
  rcases h with h | ⟨j, o, ho, h⟩
  · exact InNL.of hg hF h
  · have hjl : j < μ.length := by rw [hH.len]; exact (List.getElem?_eq_some_iff.1 ho).1
    obtain ⟨xs, hx, _⟩ := obj_cells (hH.obj j o _ ho (List.getElem?_eq_getElem hjl))
    exact InNL.of hg hx h

/-- What is told of a new name. -/
def NewN (st : St) (v : Value) : Prop :=
  (∀ u, InS u st → ∀ g, blk v = some g → blk u ≠ some g) ∧ ∀ (k b : Nat), st.hp[k]? = some (.inert (.base b)) → ∀ g, blk v = some g → b ≤ g

theorem SubE.pin (i e s n : Nat) (cs : List AV) (st : St) (hi : st.hp[i]? = some (.list e s n cs)) : SubE st (fun u => frzS i (.nam u (some e) s n cs) st) (NewN st) := by
  rintro Z0 w0 a w ⟨μ, F, hFb, hH, hF, hd, hb⟩
  have hil : i < μ.length := by rw [hH.len]; exact (List.getElem?_eq_some_iff.1 hi).1
  obtain ⟨u, hu⟩ : ∃ u, μ[i]? = some u := ⟨_, List.getElem?_eq_getElem hil⟩
  obtain ⟨xs, hown, hx⟩ := hH.obj i _ u hi hu
  have hge : ∀ g, blk u = some g → w0.heap.size ≤ g := fun g hg => ((hH.obj i _ u hi hu).blk_ge rfl hg).1
  refine ⟨u, ⟨fun u' hu' g hg hg' => (InS.of hH hF hg' hu').2 (hH.zone i _ u g hi rfl hu hg), fun k b hk g hg => ?_⟩, ?_⟩
  · have hkl : k < μ.length := by rw [hH.len]; exact (List.getElem?_eq_some_iff.1 hk).1
    have h1 := hH.obj k _ _ hk (List.getElem?_eq_getElem hkl)
    obtain ⟨_, rfl⟩ := h1
    exact hge g hg
  have hz : ∀ b, b < w.heap.size → ¬ Zone Z0 F w0.heap.size b → ¬ Zone Z0 (fun b => F b ∨ blk u = some b) w0.heap.size b := fun b _ h => zone_more b h
  have hr0 : Rel w (Zone Z0 (fun b => F b ∨ blk u = some b) w0.heap.size) μ (.lst s n cs) u := own_lst hown hx hz (fun g hg hzz => hzz.elim (fun h => by
    have := hge g hg
    omega) (fun h => h.2 (.inr hg)))
  have hr : Rel w (Zone Z0 (fun b => F b ∨ blk u = some b) w0.heap.size) μ (.nam u (some e) s n cs) u := by
    simp only [Rel] at hr0 ⊢
    refine ⟨⟨trivial, fun e' he' => ?_⟩, hr0⟩
    cases he'
    refine ⟨xs, ownsRow_from hown (fun _ _ => Nat.zero_le _), fun g hg hzz => ?_⟩
    exact hzz.elim (fun h => by
      have := hge g hg
      omega) (fun h => h.2 (.inr hg))
  refine ⟨μ, fun b => F b ∨ blk u = some b, fun b h => h.elim (hFb b) (fun h => (hH.obj i _ u hi hu).blk_ge rfl h), ?_, RelL.frz i _ u hz hu hr hF, hd.keep (fun j x hj => ⟨?_, fun u hu => hu⟩), hb⟩
  rotate_left
  · have hne : i ≠ j := by
      rintro rfl
      rw [hi] at hj
      cases hj
    show ((st.hp.map (AObj.frz i _)).set i .dead)[j]? = _
    rw [List.getElem?_set_ne hne, List.getElem?_map, hj]
    rfl
  have get : ∀ (j : Nat) o, ((st.hp.map (AObj.frz i (.nam u (some e) s n cs))).set i .dead)[j]? = some o → o = .dead ∨ (j ≠ i ∧ ∃ o', st.hp[j]? = some o' ∧ o = o'.frz i (.nam u (some e) s n cs)) := by
    intro j o ho
    by_cases hj : j = i
    · subst hj
      rw [List.getElem?_set_self (by simpa using (List.getElem?_eq_some_iff.1 hi).1)] at ho
      simp at ho
      exact .inl ho.symm
    · rw [List.getElem?_set_ne (Ne.symm hj), List.getElem?_map, Option.map_eq_some_iff] at ho
      obtain ⟨o', h1, rfl⟩ := ho
      exact .inr ⟨hj, o', h1, rfl⟩
  refine ⟨by simp [frzS, hH.len], fun j o v g h1 ha h2 hg => ?_, hH.one, fun j o v h1 h2 => ?_, fun j k oj ok uj uk g hne h1 h2 a1 a2 m1 m2 b1 b2 => ?_⟩
  · rcases get j o h1 with rfl | ⟨hj, o', ho, rfl⟩
    · cases ha
    · rw [AObj.frz_alive] at ha
      have h3 := hH.zone j o' v g ho ha h2 hg
      exact h3.elim .inl (fun h => .inr ⟨h.1, fun hf => hf.elim h.2 (fun h4 => hH.sep i j _ o' u v g (Ne.symm hj) hi ho rfl ha hu h2 h4 hg)⟩)
  · rcases get j o h1 with rfl | ⟨hj, o', ho, rfl⟩
    · trivial
    · have hO := hH.obj j o' v ho h2
      cases o' with
      | box t ds => obtain ⟨g, ys, e1, e2, e3, e4⟩ := hO; exact ⟨g, ys, e1, e2, e3, RelL.frz i _ u hz hu hr e4⟩
      | list e s n ds => obtain ⟨ys, e1, e2⟩ := hO; exact ⟨ys, e1, e2.weak hz⟩
      | dead => trivial
      | frame us ds => exact RelL.frz i _ u hz hu hr hO
      | inert x => exact InertRel.keep (fun b h1 h2 => ⟨rfl, hz b h1 h2⟩) hO
  · rcases get j oj h1 with rfl | ⟨hj, o1, ho1, rfl⟩
    · cases a1
    · rcases get k ok h2 with rfl | ⟨hk, o2, ho2, rfl⟩
      · cases a2
      · rw [AObj.frz_alive] at a1 a2
        exact hH.sep j k o1 o2 uj uk g hne ho1 ho2 a1 a2 m1 m2 b1 b2

section
variable {rd : Option Nat} {P : Program} {m : M} {Q : Exit → St → Prop}
theorem R.pin (i e s n : Nat) (cs : List AV) (h : subOk m = true) (hi : m.st.hp[i]? = some (.list e s n cs)) (h' : ∀ u, NewN m.st u → Runs rd P ⟨m.ks, frzS i (.nam u (some e) s n cs) m.st⟩ Q) : Runs rd P m Q :=
  R.subE _ _ h (SubE.pin i e s n cs m.st hi) h'
end

/-! ### Objects told otherwise -/
theorem HRel.swapO {w : World} {Z : Nat → Prop} {B : Nat} {μ : List Value} {hp : List AObj} {i : Nat} {o o' : AObj} (h : HRel w Z B μ hp) (hi : hp[i]? = some o) (ha : o'.alive = true → o.alive = true) (ho : ∀ u, μ[i]? = some u → ObjRel w Z μ B u o → ObjRel w Z μ B u o') : HRel w Z B μ (hp.set i o') := by
  have hil := (List.getElem?_eq_some_iff.1 hi).1
  have get : ∀ (j : Nat) oj, (hp.set i o')[j]? = some oj → (j = i ∧ oj = o') ∨ (j ≠ i ∧ hp[j]? = some oj) := by
    intro j oj hj
    by_cases hji : j = i
    · subst hji
      rw [List.getElem?_set_self hil] at hj
      simp at hj
      exact .inl ⟨rfl, hj.symm⟩
    · rw [List.getElem?_set_ne (Ne.symm hji)] at hj
      exact .inr ⟨hji, hj⟩
  have old : ∀ (j : Nat) oj, (hp.set i o')[j]? = some oj → ∃ o1, hp[j]? = some o1 ∧ (oj.alive = true → o1.alive = true) := by
    intro j oj hj
    rcases get j oj hj with ⟨rfl, rfl⟩ | ⟨_, h1⟩
    · exact ⟨o, hi, ha⟩
    · exact ⟨oj, h1, id⟩
  refine ⟨by simpa using h.len, fun j oj u g h1 h2 h3 hg => ?_, h.one, fun j oj u h1 h2 => ?_, fun j k oj ok uj uk g hne h1 h2 a1 a2 m1 m2 b1 b2 => ?_⟩
  · obtain ⟨o1, e1, f1⟩ := old j oj h1
    exact h.zone j o1 u g e1 (f1 h2) h3 hg
  · rcases get j oj h1 with ⟨rfl, rfl⟩ | ⟨_, e1⟩
    · exact ho u h2 (h.obj j o u hi h2)
    · exact h.obj j oj u e1 h2
  · obtain ⟨o1, e1, f1⟩ := old j oj h1
    obtain ⟨o2, e2, f2⟩ := old k ok h2
    exact h.sep j k o1 o2 uj uk g hne e1 e2 (f1 a1) (f2 a2) m1 m2 b1 b2

/-! ### A named row taken back -/
/-- The name alone: nothing is read. -/
def weakN (v : Value) (n : Nat) : AV := .nam v none 0 n []

theorem weakN_of {w : World} {Z Z' : Nat → Prop} {μ μ' : List Value} {v x : Value} {o : Option Nat} {s n : Nat} {cs : List AV} (h : Rel w Z μ (.nam v o s n cs) x) : Rel w Z' μ' (weakN v n) x := by
  simp only [Rel, weakN] at h ⊢
  obtain ⟨⟨h0, _⟩, A, c, xs, h1, h2, h3, h4, h5⟩ := h
  exact ⟨⟨h0, fun e he => by cases he⟩, A, c, [], h1, by simp, h3, fun h => absurd rfl h, RelL.nil⟩

def thawS (j p t e s n : Nat) (v : Value) (cs : List AV) (el s1 n1 : Nat) (cells : List AV) (st : St) : St :=
  ⟨st.fr.set t (.ref st.hp.length), st.hp.set j (.list el s1 n1 (cells.set p (weakN v n))) ++ [.list e s n cs, .frame [v] [.ref st.hp.length]]⟩

theorem Sub.thaw (j p t k e s n el s1 n1 b : Nat) (v : Value) (cs cells : List AV) (st : St) (hj : st.hp[j]? = some (.list el s1 n1 cells)) (hp : cells[p]? = some (.nam v (some e) s n cs)) (ht : st.fr[t]? = some (.nam v (some e) s n cs)) (hcs : closedL cs = true)
    (hk : st.hp[k]? = some (.inert (.base b))) (hge : ∀ g, blk v = some g → b ≤ g) (hfr : ∀ i c, st.fr[i]? = some c → i ≠ t → Safe v c) (hcell : ∀ q c, cells[q]? = some c → q ≠ p → Safe v c) (hoth : ∀ i o, st.hp[i]? = some o → i ≠ j → SafeO v o) :
    Sub st (thawS j p t e s n v cs el s1 n1 cells st) := by
  rintro Z0 w0 a w ⟨μ, F, hFb, hH, hF, hd, hb⟩
  have hjl := (List.getElem?_eq_some_iff.1 hj).1
  obtain ⟨x, hx, hrx⟩ := hF.get ht
  simp only [Rel] at hrx
  obtain ⟨⟨rfl, h00⟩, A, c, xs, h1, h2, h3, h4, h5⟩ := hrx
  obtain ⟨ys, hown, hyz⟩ := h00 e rfl
  have hxy : xs = ys := own_read hown h1 (by rw [h5.length, h2]) h4
  subst hxy
  have hB : ∀ g, blk x = some g → w0.heap.size ≤ g := fun g hg => by
    have hkl : k < μ.length := by rw [hH.len]; exact (List.getElem?_eq_some_iff.1 hk).1
    have h1 := hH.obj k _ _ hk (List.getElem?_eq_getElem hkl)
    obtain ⟨_, rfl⟩ := h1
    exact hge g hg
  have hz : ∀ b, ¬ Zone Z0 F w0.heap.size b → blk x ≠ some b → ¬ Zone Z0 (fun b => F b ∧ blk x ≠ some b) w0.heap.size b := fun b h1 h2 hzz => h1 (hzz.elim .inl (fun h => .inr ⟨h.1, fun hf => h.2 ⟨hf, h2⟩⟩))
  have hzz : ∀ b, Zone Z0 F w0.heap.size b → Zone Z0 (fun b => F b ∧ blk x ≠ some b) w0.heap.size b := fun b h => h.elim .inl (fun h => .inr ⟨h.1, fun hf => h.2 hf.1⟩)
  have hm : ∀ (i : Nat) (u : Value), μ[i]? = some u → (μ ++ [x, .bool false])[i]? = some u := fun i u h => append_old i u h
  have hml : (μ ++ [x, .bool false])[st.hp.length]? = some x := by rw [← hH.len]; simp
  have hSc : ∀ {μ1 μ2 : List Value}, (∀ (i : Nat) (u : Value), μ1[i]? = some u → μ2[i]? = some u) → ∀ {c : AV} {v : Value}, Safe x c → Rel w (Zone Z0 F w0.heap.size) μ1 c v → Rel w (Zone Z0 (fun b => F b ∧ blk x ≠ some b) w0.heap.size) μ2 c v := fun hm _ _ hs hr => Rel.thaw (g := blk x) hz hm hs.1 hs.2 hr
  have hSl : ∀ {μ1 μ2 : List Value}, (∀ (i : Nat) (u : Value), μ1[i]? = some u → μ2[i]? = some u) → ∀ {c : List AV} {v : List Value}, SafeL x c → RelL w (Zone Z0 F w0.heap.size) μ1 c v → RelL w (Zone Z0 (fun b => F b ∧ blk x ≠ some b) w0.heap.size) μ2 c v := fun hm _ _ hs hr => RelL.thaw (g := blk x) hz hm hs.1 hs.2 hr
  refine ⟨μ ++ [x, .bool false], fun b => F b ∧ blk x ≠ some b, fun b h => hFb b h.1, ?_, ?_, hd.keep (fun i y hi => ⟨?_, fun u hu => hm i u hu⟩), hb⟩
  rotate_left
  · refine relL_of_get (by rw [hF.length]; simp [thawS]) (fun i c y hi hy => ?_)
    simp only [thawS] at hi
    by_cases hit : i = t
    · subst hit
      rw [List.getElem?_set_self (List.getElem?_eq_some_iff.1 ht).1] at hi
      simp only [Option.some.injEq] at hi
      subst hi
      rw [hx] at hy
      cases hy
      simp only [Rel]
      exact hml
    · rw [List.getElem?_set_ne (Ne.symm hit)] at hi
      obtain ⟨y', hy', hr⟩ := hF.get hi
      rw [hy] at hy'
      cases hy'
      exact hSc hm (hfr i c hi hit) hr
  · have hne : j ≠ i := by
      rintro rfl
      rw [hj] at hi
      cases hi
    simp only [thawS]
    rw [List.getElem?_append_left (by simpa using (List.getElem?_eq_some_iff.1 hi).1), List.getElem?_set_ne hne]
    exact hi
  -- objects
  have get : ∀ (i : Nat) o u, (thawS j p t e s n x cs el s1 n1 cells st).hp[i]? = some o → (μ ++ [x, .bool false])[i]? = some u →
      (i ≠ j ∧ st.hp[i]? = some o ∧ μ[i]? = some u) ∨ (i = j ∧ o = .list el s1 n1 (cells.set p (weakN x n)) ∧ μ[i]? = some u) ∨ (i = st.hp.length ∧ o = .list e s n cs ∧ u = x) ∨ (i = st.hp.length + 1 ∧ o = .frame [x] [.ref st.hp.length] ∧ u = .bool false) := by
    intro i o u h1 h2
    simp only [thawS] at h1
    rcases Nat.lt_or_ge i st.hp.length with hi | hi
    · rw [List.getElem?_append_left (by simpa using hi)] at h1
      rw [List.getElem?_append_left (by rw [hH.len]; exact hi)] at h2
      by_cases hij : i = j
      · subst hij
        rw [List.getElem?_set_self hi] at h1
        simp only [Option.some.injEq] at h1
        exact .inr (.inl ⟨rfl, h1.symm, h2⟩)
      · rw [List.getElem?_set_ne (Ne.symm hij)] at h1
        exact .inl ⟨hij, h1, h2⟩
    · rw [List.getElem?_append_right (by simpa using hi)] at h1
      rw [List.getElem?_append_right (by rw [hH.len]; exact hi), hH.len] at h2
      simp only [List.length_set] at h1
      rcases Nat.lt_trichotomy (i - st.hp.length) 1 with h | h | h
      · have h0 : i - st.hp.length = 0 := by omega
        rw [h0] at h1 h2
        simp at h1 h2
        exact .inr (.inr (.inl ⟨by omega, h1.symm, h2.symm⟩))
      · rw [h] at h1 h2
        simp at h1 h2
        exact .inr (.inr (.inr ⟨by omega, h1.symm, h2.symm⟩))
      · rw [List.getElem?_eq_none (by simp; omega)] at h1
        cases h1
  have old : ∀ (i : Nat) o u, (thawS j p t e s n x cs el s1 n1 cells st).hp[i]? = some o → (μ ++ [x, .bool false])[i]? = some u → o.alive = true → (∃ o', st.hp[i]? = some o' ∧ o'.alive = true ∧ μ[i]? = some u) ∨ (i = st.hp.length ∧ u = x) := by
    intro i o u h1 h2 ha
    rcases get i o u h1 h2 with ⟨_, e1, e2⟩ | ⟨rfl, rfl, e2⟩ | ⟨e1, rfl, e2⟩ | ⟨_, rfl, _⟩
    · exact .inl ⟨o, e1, ha, e2⟩
    · exact .inl ⟨_, hj, rfl, e2⟩
    · exact .inr ⟨e1, e2⟩
    · cases ha
  refine ⟨by simp [thawS, hH.len], fun i o u g h1 ha h2 hg => ?_, fun i u hu => ?_, fun i o u h1 h2 => ?_, fun i i2 o o2 u u2 g hne h1 h2 a1 a2 m1 m2 b1 b2 => ?_⟩
  · rcases old i o u h1 h2 ha with ⟨o', e1, e2, e3⟩ | ⟨_, rfl⟩
    · exact hzz g (hH.zone i o' u g e1 e2 e3 hg)
    · exact .inr ⟨hB g hg, fun hf => hf.2 hg⟩
  · rcases Nat.lt_or_ge i μ.length with hi | hi
    · rw [List.getElem?_append_left hi] at hu
      exact hH.one i u hu
    · rw [List.getElem?_append_right hi] at hu
      rcases Nat.lt_trichotomy (i - μ.length) 1 with h | h | h
      · have h0 : i - μ.length = 0 := by omega
        rw [h0] at hu
        simp at hu
        subst hu
        rw [h1]; rfl
      · rw [h] at hu
        simp at hu
        subst hu
        rfl
      · rw [List.getElem?_eq_none (by simp; omega)] at hu
        cases hu
  · rcases get i o u h1 h2 with ⟨hij, e1, e2⟩ | ⟨rfl, rfl, e2⟩ | ⟨_, rfl, rfl⟩ | ⟨_, rfl, rfl⟩
    · have hO := hH.obj i o u e1 e2
      have hs := hoth i o e1 hij
      cases o with
      | box t ds => obtain ⟨g, zs, e1, e2, e3, e4⟩ := hO; exact ⟨g, zs, e1, e2, e3, hSl hm hs e4⟩
      | list e s n ds => obtain ⟨zs, e1, e2⟩ := hO; exact ⟨zs, e1, hSl (fun _ _ h => h) hs e2⟩
      | dead => trivial
      | frame us ds => exact hSl hm hs hO
      | inert y =>
        cases y with
        | base b' => exact hO
        | mark D => exact hs.elim
        | lrec D s us ps asg bd => exact hs.elim
    · obtain ⟨zs, e1, e3⟩ := hH.obj i _ u hj e2
      refine ⟨zs, e1, relL_of_get (by rw [e3.length]; simp) (fun q c y hq hy => ?_)⟩
      by_cases hqp : q = p
      · subst hqp
        rw [List.getElem?_set_self (List.getElem?_eq_some_iff.1 hp).1] at hq
        simp only [Option.some.injEq] at hq
        subst hq
        obtain ⟨y', hy', hr⟩ := e3.get hp
        rw [hy] at hy'
        cases hy'
        exact weakN_of hr
      · rw [List.getElem?_set_ne (Ne.symm hqp)] at hq
        obtain ⟨y', hy', hr⟩ := e3.get hq
        rw [hy] at hy'
        cases hy'
        exact hSc (fun _ _ h => h) (hcell q c hq hqp) hr
    · exact ⟨xs, ownsRow_from hown hB, RelL.shut hcs h5⟩
    · exact RelL.cons (by simp only [Rel]; exact hml) RelL.nil
  · rcases old i o u h1 m1 a1 with ⟨o', e1, e2, e3⟩ | ⟨e1, rfl⟩ <;> rcases old i2 o2 u2 h2 m2 a2 with ⟨o2', f1, f2, f3⟩ | ⟨f1, rfl⟩
    · exact hH.sep i i2 o' o2' u u2 g hne e1 f1 e2 f2 e3 f3 b1 b2
    · exact hyz g b2 (hH.zone i o' u g e1 e2 e3 b1)
    · exact hyz g b1 (hH.zone i2 o2' u2 g f1 f2 f3 b2)
    · omega

def pinS (j p k e s n : Nat) (v : Value) (cs : List AV) (el s1 n1 : Nat) (cells : List AV) (st : St) : St :=
  ⟨(frzS k (.nam v (some e) s n cs) st).fr, ((frzS k (.nam v (some e) s n cs) st).hp.set j (.list el s1 n1 (cells.set p (.nam v (some e) s n cs)))).set (k + 1) .dead⟩

theorem Sub.repin (j p k e s n el s1 n1 n0 : Nat) (v : Value) (cs cells : List AV) (st : St) (hj : st.hp[j]? = some (.list el s1 n1 cells)) (hp : cells[p]? = some (weakN v n0)) (hk : st.hp[k]? = some (.list e s n cs)) (hk1 : st.hp[k + 1]? = some (.frame [v] [.ref k])) (hjk : j ≠ k) :
    Sub st (pinS j p k e s n v cs el s1 n1 cells st) := by
  intro Z0 w0 a w hS
  obtain ⟨u, _, μ, F, hFb, hH, hF, hd, hb⟩ := SubE.pin k e s n cs st hk Z0 w0 a w hS
  have hml : μ.length = (frzS k (.nam u (some e) s n cs) st).hp.length := hH.len
  have hkl := (List.getElem?_eq_some_iff.1 hk1).1
  have hjl := (List.getElem?_eq_some_iff.1 hj).1
  have hL : (frzS k (.nam u (some e) s n cs) st).hp.length = st.hp.length := by simp [frzS]
  have hfr : (frzS k (.nam u (some e) s n cs) st).hp[k + 1]? = some (.frame [v] [.nam u (some e) s n cs]) := by
    simp only [frzS]
    rw [List.getElem?_set_ne (by omega), List.getElem?_map, hk1]
    simp [AObj.frz, frzL, frzV]
  have hjj : (frzS k (.nam u (some e) s n cs) st).hp[j]? = some (.list el s1 n1 cells) := by
    simp only [frzS]
    rw [List.getElem?_set_ne (Ne.symm hjk), List.getElem?_map, hj]
    rfl
  have hO := hH.obj (k + 1) _ _ hfr (List.getElem?_eq_getElem (by omega))
  obtain ⟨y, ys, hy, hr, hys⟩ := hO
  cases hy
  have huv : v = u := by
    have h2 := hr
    simp only [Rel] at h2
    exact h2.1.1
  subst huv
  have hr0 := Rel.leafy (by rfl) hr
  refine ⟨μ, F, hFb, ?_, hF, hd.keep (fun i x hi => ⟨?_, fun u hu => hu⟩), hb⟩
  · have h1 := hH.swapO (i := j) (o' := .list el s1 n1 (cells.set p (.nam v (some e) s n cs))) hjj (fun _ => rfl) (fun u hu hO => ?_)
    · exact h1.swapO (i := k + 1) (o' := .dead) (o := .frame [v] [.nam v (some e) s n cs]) (by rw [List.getElem?_set_ne (by rintro rfl; rw [hfr] at hjj; cases hjj)]; exact hfr) (fun h => by cases h) (fun _ _ _ => trivial)
    · obtain ⟨zs, e1, e3⟩ := hO
      refine ⟨zs, e1, relL_of_get (by rw [e3.length]; simp) (fun q c y hq hy => ?_)⟩
      by_cases hqp : q = p
      · subst hqp
        rw [List.getElem?_set_self (List.getElem?_eq_some_iff.1 hp).1] at hq
        simp only [Option.some.injEq] at hq
        subst hq
        obtain ⟨y', hy', hr2⟩ := e3.get hp
        rw [hy] at hy'
        cases hy'
        have h3 := hr2
        simp only [weakN, Rel] at h3
        rw [h3.1.1]
        exact hr0
      · rw [List.getElem?_set_ne (Ne.symm hqp)] at hq
        obtain ⟨y', hy', hr⟩ := e3.get hq
        rw [hy] at hy'
        cases hy'
        exact hr
  · have h1 : j ≠ i := by rintro rfl; rw [hjj] at hi; cases hi
    have h2 : k + 1 ≠ i := by rintro rfl; rw [hfr] at hi; cases hi
    simp only [pinS]
    rw [List.getElem?_set_ne h2, List.getElem?_set_ne h1]
    exact hi

section
variable {rd : Option Nat} {P : Program} {m : M} {Q : Exit → St → Prop}
theorem R.thaw (j p t k e s n el s1 n1 b : Nat) (v : Value) (cs cells : List AV) (h : subOk m = true) (hj : m.st.hp[j]? = some (.list el s1 n1 cells)) (hp : cells[p]? = some (.nam v (some e) s n cs)) (ht : m.st.fr[t]? = some (.nam v (some e) s n cs)) (hcs : closedL cs = true)
    (hk : m.st.hp[k]? = some (.inert (.base b))) (hge : ∀ g, blk v = some g → b ≤ g) (hfr : SafeL v (m.st.fr.set t .top)) (hcell : ∀ q c, cells[q]? = some c → q ≠ p → Safe v c) (hoth : ∀ o ∈ m.st.hp.set j .dead, SafeO v o)
    (h' : Runs rd P ⟨m.ks, thawS j p t e s n v cs el s1 n1 cells m.st⟩ Q) : Runs rd P m Q :=
  R.sub _ h (Sub.thaw j p t k e s n el s1 n1 b v cs cells m.st hj hp ht hcs hk hge (fun i c hi hit => safeL_iff.1 hfr c (List.mem_of_getElem? (i := i) (by rw [List.getElem?_set_ne (Ne.symm hit)]; exact hi))) hcell
    (fun i o hi hij => hoth o (List.mem_of_getElem? (i := i) (by rw [List.getElem?_set_ne (Ne.symm hij)]; exact hi)))) h'

theorem R.repin (j p k e s n el s1 n1 n0 : Nat) (v : Value) (cs cells : List AV) (h : subOk m = true) (hj : m.st.hp[j]? = some (.list el s1 n1 cells)) (hp : cells[p]? = some (weakN v n0)) (hk : m.st.hp[k]? = some (.list e s n cs)) (hk1 : m.st.hp[k + 1]? = some (.frame [v] [.ref k])) (hjk : j ≠ k)
    (h' : Runs rd P ⟨m.ks, pinS j p k e s n v cs el s1 n1 cells m.st⟩ Q) : Runs rd P m Q :=
  R.sub _ h (Sub.repin j p k e s n el s1 n1 n0 v cs cells m.st hj hp hk hk1 hjk) h'
end

/-! ### A slot read by names -/
mutual
def nameable : AV → Bool
  | .lst _ _ cs => nameableL cs
  | .agg cs => nameableL cs
  | .int _ _ => true
  | .bool _ => true
  | .nil => true
  | .nam _ _ _ _ _ => false
  | .clp _ _ _ => false
  | .rptr _ => false
  | .tup _ => false
  | .fn _ _ => false
  | .str _ => true
  | .ref _ => false
  | .ptr _ _ => false
  | .own _ _ _ _ => false
  | .top => true
def nameableL : List AV → Bool
  | [] => true
  | c :: cs => nameable c && nameableL cs
end

/-- c' is c, read by names. -/
structure ByN (c' c : AV) : Prop where
  leafy : c'.leafy = true
  raw : NoRaw c' = true
  fgt : ∀ (w : World) (Z : Nat → Prop) v, Rel w Z [] c' v → Rel w Z [] c v

structure ByNL (c' c : List AV) : Prop where
  leafy : leafyL c' = true
  raw : NoRawL c' = true
  fgt : ∀ (w : World) (Z : Nat → Prop) v, RelL w Z [] c' v → RelL w Z [] c v

mutual
theorem name_of {w : World} {Z : Nat → Prop} : ∀ {c : AV} {v : Value}, nameable c = true → Rel w Z [] c v → ∃ c', ByN c' c ∧ Rel w Z [] c' v
  | .lst s n cs, v, h, hr => by
    simp only [nameable] at h
    simp only [Rel] at hr
    obtain ⟨A, c, xs, h1, h2, h3, h4, h5⟩ := hr
    obtain ⟨cs', ⟨k1, k2, k3⟩, k4⟩ := nameL_of h h5
    refine ⟨.nam v none s n cs', ⟨rfl, by simpa [NoRaw] using k2, fun w Z x hx => ?_⟩, ?_⟩
    · simp only [Rel] at hx ⊢
      obtain ⟨_, A, c, xs', e1, e2, e3, e4, e5⟩ := hx
      exact ⟨A, c, xs', e1, by rw [← h2, ← h5.length, k4.length, e2, ← e2, ← k4.length, h5.length, h2] , e3, e4, k3 _ _ _ e5⟩
    · simp only [Rel]
      exact ⟨⟨trivial, fun e he => by cases he⟩, A, c, xs, h1, by rw [← k4.length, h5.length, h2], h3, h4, k4⟩
  | .agg cs, v, h, hr => by
    simp only [nameable] at h
    simp only [Rel] at hr
    obtain ⟨xs, h1, h5⟩ := hr
    obtain ⟨cs', ⟨k1, k2, k3⟩, k4⟩ := nameL_of h h5
    refine ⟨.agg cs', ⟨by simpa [AV.leafy] using k1, by simpa [NoRaw] using k2, fun w Z x hx => ?_⟩, ?_⟩
    · simp only [Rel] at hx ⊢
      obtain ⟨xs', e1, e5⟩ := hx
      exact ⟨xs', e1, k3 _ _ _ e5⟩
    · simp only [Rel]
      exact ⟨xs, h1, k4⟩
  | .int k n, v, _, hr => ⟨.int k n, ⟨rfl, rfl, fun _ _ _ h => h⟩, hr⟩
  | .bool b, v, _, hr => ⟨.bool b, ⟨rfl, rfl, fun _ _ _ h => h⟩, hr⟩
  | .str b, v, _, hr => ⟨.str b, ⟨rfl, rfl, fun _ _ _ h => h⟩, hr⟩
  | .nil, v, _, hr => ⟨.nil, ⟨rfl, rfl, fun _ _ _ h => h⟩, hr⟩
  | .top, v, _, hr => ⟨.top, ⟨rfl, rfl, fun _ _ _ h => h⟩, hr⟩
  | .nam _ _ _ _ _, _, h, _ => by simp [nameable] at h
  | .clp _ _ _, _, h, _ => by simp [nameable] at h
  | .rptr _, _, h, _ => by simp [nameable] at h
  | .tup _, _, h, _ => by simp [nameable] at h
  | .fn _ _, _, h, _ => by simp [nameable] at h
  | .ref _, _, h, _ => by simp [nameable] at h
  | .ptr _ _, _, h, _ => by simp [nameable] at h
  | .own _ _ _ _, _, h, _ => by simp [nameable] at h
theorem nameL_of {w : World} {Z : Nat → Prop} : ∀ {c : List AV} {v : List Value}, nameableL c = true → RelL w Z [] c v → ∃ c', ByNL c' c ∧ RelL w Z [] c' v
  | [], v, _, hr => ⟨[], ⟨rfl, rfl, fun _ _ _ h => h⟩, hr⟩
  | c :: cs, v, h, hr => by
    simp only [nameableL, Bool.and_eq_true] at h
    simp only [RelL] at hr
    obtain ⟨x, xs, rfl, h1, h2⟩ := hr
    obtain ⟨c', ⟨k1, k2, k3⟩, k4⟩ := name_of h.1 h1
    obtain ⟨cs', ⟨l1, l2, l3⟩, l4⟩ := nameL_of h.2 h2
    refine ⟨c' :: cs', ⟨by simp [leafyL, k1, l1], by simp [NoRawL, k2, l2], fun w Z v hv => ?_⟩, RelL.cons k4 l4⟩
    simp only [RelL] at hv ⊢
    obtain ⟨x, xs, e1, e2, e3⟩ := hv
    exact ⟨x, xs, e1, k3 _ _ _ e2, l3 _ _ _ e3⟩
end

theorem SubE.name (t : Nat) (c : AV) (st : St) (ht : st.fr[t]? = some c) (hn : nameable c = true) (hl : c.leafy = true) : SubE st (fun c' => ⟨st.fr.set t c', st.hp⟩) (fun c' => ByN c' c) := by
  rintro Z0 w0 a w ⟨μ, F, hFb, hH, hF, hd, hb⟩
  obtain ⟨x, hx, hr⟩ := hF.get ht
  obtain ⟨c', h1, h2⟩ := name_of hn (Rel.leafy hl hr)
  refine ⟨c', h1, μ, F, hFb, hH, ?_, hd, hb⟩
  have h3 := hF.set t h2.lift
  rwa [show a.tmps.toList.set t x = a.tmps.toList by
    apply List.ext_getElem?
    intro i
    by_cases hi : i = t
    · subst hi; rw [List.getElem?_set_self (List.getElem?_eq_some_iff.1 hx).1, hx]
    · rw [List.getElem?_set_ne (Ne.symm hi)]] at h3

section
variable {rd : Option Nat} {P : Program} {m : M} {Q : Exit → St → Prop}
theorem R.name (t : Nat) (c : AV) (h : subOk m = true) (ht : m.st.fr[t]? = some c) (hn : nameable c = true) (hl : c.leafy = true) (h' : ∀ c', ByN c' c → Runs rd P ⟨m.ks, ⟨m.st.fr.set t c', m.st.hp⟩⟩ Q) : Runs rd P m Q :=
  R.subE _ _ h (SubE.name t c m.st ht hn hl) h'
end

end Go.Abs


/-! Calls of which is told that there is a result with some facts, which may speak of the first block that the call made; calls by value whose arguments are told less of. -/
namespace Go.Abs
open Go.RowKit

def CallE (P : Program) (f : FuncId) (args : List AV) (Φ : Nat → AV → Prop) : Prop :=
  Enters P f ∧ ∀ (Z0 : Nat → Prop) (w : World) (vs : List Value), RelL w (Zone Z0 NoF w.heap.size) [] args vs →
    Calls P f vs.toArray w fun e w' => ∃ res v bs F', Φ w.heap.size res ∧ e = .returned v ∧ (∀ b, F' b → w.heap.size ≤ b ∧ b < w'.heap.size) ∧ RF w' (Zone Z0 F' w.heap.size) w.heap.size res v bs ∧ bs.Nodup ∧ (∀ b ∈ bs, ¬ F' b) ∧ Below w.heap.size w w'

theorem CallE.toA {P : Program} {f : FuncId} {args : List AV} {res : AV} (h : CallE P f args fun _ r => r = res) : CallA P f args res := by
  refine ⟨h.1, fun Z0 w vs hvs => (h.2 Z0 w vs hvs).mono ?_⟩
  rintro e w' ⟨r, v, bs, F', hr, hh⟩
  subst hr
  exact ⟨v, bs, F', hh⟩

theorem CallE.mono {P : Program} {f : FuncId} {args : List AV} {Φ Ψ : Nat → AV → Prop} (h : CallE P f args Φ) (h' : ∀ b r, Φ b r → Ψ b r) : CallE P f args Ψ := by
  refine ⟨h.1, fun Z0 w vs hvs => (h.2 Z0 w vs hvs).mono ?_⟩
  rintro e w' ⟨r, v, bs, F', hr, h⟩
  exact ⟨r, v, bs, F', h' _ _ hr, h⟩

/-- A result; object 0 is the base. -/
def resB (P : Program) (fn : Func) (st : St) : Option AV :=
  match st.hp[0]? with
  | some (AObj.inert (Inert.base _)) => if noMark st.hp then resOf P fn ⟨st.fr, st.hp.set 0 AObj.dead⟩ else none
  | _ => none

/-- How a function's body ends that hands back something with Φ. -/
def retE (P : Program) (fn : Func) (b : Nat) (Φ : Nat → AV → Prop) : Exit → St → Prop := fun e st' => (e = .normal ∨ e = .ret) ∧ ∃ res, Φ b res ∧ resB P fn st' = some res

theorem R.retB {P : Program} {m : M} {fn : Func} {b : Nat} {Φ : Nat → AV → Prop} (res : AV) (h : (edAt m).isSome = true) (hr : resB P fn m.st = some res) (hΦ : Φ b res) : Runs none P m (Go.Abs.retE P fn b Φ) :=
  R.fin h ⟨.inl rfl, res, hΦ, hr⟩ ⟨.inr rfl, res, hΦ, hr⟩

theorem CallE.of {P : Program} {f : FuncId} {fn : Func} {c : Code} {args : List AV} {Φ : Nat → AV → Prop} (hf : P.funcs[f]? = some fn) (hb : fn.body = some c) (hnm : (fn.name == "runtime.NumGoroutine") = false)
    (h : ∀ b, Runs none P ⟨[.code c], ⟨frameOf fn.ntmps args, [.inert (.base b)]⟩⟩ (retE P fn b Φ)) : CallE P f args Φ := by
  refine ⟨enters_of hf hnm (by rw [hb]; rfl), ?_⟩
  intro Z0 w vs hvs
  have hlen := hvs.length
  refine callsIn_wide.1 (callsIn_of_wp_marks (F := Fence.wide) (n := 0) hf hb trivial ?_)
  have hS : Sim Z0 w ⟨args ++ List.replicate (fn.ntmps - args.length) .top, [.inert (.base w.heap.size)]⟩ { tmps := vs.toArray ++ Array.replicate (fn.ntmps - vs.toArray.size) undef, defers := [] } w := by
    have one : ∀ {i : Nat} {α : Type} {x y : α}, ([x] : List α)[i]? = some y → i = 0 ∧ y = x := by
      intro i α x y h
      cases i with
      | zero => simp at h; exact ⟨rfl, h.symm⟩
      | succ i => simp at h
    refine ⟨[.bool false], NoF, fun b h => h.elim, ⟨rfl, fun i o u g h1 h2 h3 hg => ?_, fun i u h => ?_, fun i o u h1 h2 => ?_, fun i j oi oj ui uj g hne h1 h2 => ?_⟩, ?_, .inl rfl, Below.refl _ _⟩
    · obtain ⟨_, rfl⟩ := one h3
      cases hg
    · obtain ⟨_, rfl⟩ := one h
      rfl
    · obtain ⟨_, rfl⟩ := one h1
      obtain ⟨_, rfl⟩ := one h2
      exact ⟨rfl, rfl⟩
    · exact absurd ((one h1).1.trans (one h2).1.symm) hne
    simp only [Array.toList_append, Array.toList_replicate, List.size_toArray, hlen]
    refine (RelL.lift hvs).append ?_
    generalize fn.ntmps - args.length = n
    induction n with
    | zero => exact RelL.nil
    | succ n ih => exact RelL.cons (by simp [Rel]) ih
  refine wpIn_mono ((h w.heap.size).out Z0 w _ w hS) ?_
  have fin : ∀ (st' : St) (a' : Act) (w' : World) res, Φ w.heap.size res → resB P fn st' = some res → Sim Z0 w st' a' w' → LeavesInM Fence.wide 0 P fn a'.tmps (fun e w'' => ∃ res v' bs F', Φ w.heap.size res ∧ e = .returned v' ∧ (∀ b, F' b → w.heap.size ≤ b ∧ b < w''.heap.size) ∧ RF w'' (Zone Z0 F' w.heap.size) w.heap.size res v' bs ∧ bs.Nodup ∧ (∀ b ∈ bs, ¬ F' b) ∧ Below w.heap.size w w'') a'.defers .returning w' := by
    rintro st' a' w' res hΦ hr ⟨μ, F, hFb, hH, hF, hd, hbel⟩
    unfold resB at hr
    split at hr
    · rename_i b hb0
      split at hr
      · rename_i hnm
        have hr := resOf_parts hr
        rw [hd.none hnm]
        obtain ⟨x, bs, h1, h2, h3, h4⟩ := resOf_run (st := ⟨st'.fr, st'.hp.set 0 .dead⟩) (hH.bury 0) hF hr.1
        have hge := RF.ge h2
        refine ⟨x, h1, res, x, bs, F, hΦ, rfl, hFb, h2, h3, fun b hb hf => ?_, hbel⟩
        have := hge b hb
        exact (h4 b hb).elim (fun h => absurd h.1 (by omega)) (fun h => h.2 hf)
      · cases hr
    · cases hr
  rintro e a' w' ⟨st', ⟨hq, res, hΦ, hr⟩, hS'⟩
  rcases hq with rfl | rfl
  · exact fin st' a' w' res hΦ hr hS'
  · exact fin st' a' w' res hΦ hr hS'

/-! ### Results that lead into new blocks alone -/
mutual
def ClosedN (b : Nat) : AV → Prop
  | .nam v _ _ _ cs => closedL cs = true ∧ ∀ g, blk v = some g → b ≤ g
  | .own _ _ _ cs => ClosedNL b cs
  | .agg cs => ClosedNL b cs
  | .tup cs => ClosedNL b cs
  | .int _ _ => True
  | .bool _ => True
  | .str _ => True
  | .nil => True
  | .top => True
  | .lst _ _ _ => False
  | .clp _ _ _ => False
  | .rptr _ => False
  | .fn _ _ => False
  | .ref _ => False
  | .ptr _ _ => False
def ClosedNL (b : Nat) : List AV → Prop
  | [] => True
  | c :: cs => ClosedN b c ∧ ClosedNL b cs
end

theorem closedNL_iff {b : Nat} : ∀ {cs : List AV}, ClosedNL b cs ↔ ∀ c ∈ cs, ClosedN b c
  | [] => by simp [ClosedNL]
  | c :: cs => by rw [ClosedNL, closedNL_iff]; simp

mutual
theorem Rel.shutN {w : World} {Z Z' : Nat → Prop} {b : Nat} (hz : ∀ g, b ≤ g → ¬ Z g → ¬ Z' g) : ∀ {c : AV} {v : Value}, ClosedN b c → Rel w Z [] c v → Rel w Z' [] c v
  | .nam u o s n cs, v, hc, h => by
    simp only [Rel] at h ⊢
    simp only [ClosedN] at hc
    obtain ⟨⟨rfl, h00⟩, A, c, xs, h1, h2, h3, h4, h5⟩ := h
    refine ⟨⟨rfl, fun e he => ?_⟩, A, c, xs, h1, h2, h3, fun hx => ?_, RelL.shut hc.1 h5⟩
    · obtain ⟨ys, k1, k2⟩ := h00 e he
      exact ⟨ys, k1, fun g hg => hz g (hc.2 g hg) (k2 g hg)⟩
    · obtain ⟨ad, rfl, k1, k2⟩ := h4 hx
      exact ⟨ad, rfl, hz _ (hc.2 _ (by rw [h1]; rfl)) k1, k2⟩
  | .agg cs, v, hc, h => by
    simp only [Rel] at h ⊢
    simp only [ClosedN] at hc
    obtain ⟨xs, h1, h2⟩ := h
    exact ⟨xs, h1, RelL.shutN hz hc h2⟩
  | .tup cs, v, hc, h => by
    simp only [Rel] at h ⊢
    simp only [ClosedN] at hc
    obtain ⟨xs, h1, h2⟩ := h
    exact ⟨xs, h1, RelL.shutN hz hc h2⟩
  | .int _ _, _, _, h => by simpa [Rel] using h
  | .bool _, _, _, h => by simpa [Rel] using h
  | .str _, _, _, h => by simpa [Rel] using h
  | .nil, _, _, h => by simpa [Rel] using h
  | .top, _, _, h => by simp [Rel]
  | .own _ _ _ _, _, _, h => by simp [Rel] at h
  | .lst _ _ _, _, hc, _ => by simp [ClosedN] at hc
  | .clp _ _ _, _, hc, _ => by simp [ClosedN] at hc
  | .rptr _, _, hc, _ => by simp [ClosedN] at hc
  | .fn _ _, _, hc, _ => by simp [ClosedN] at hc
  | .ref _, _, hc, _ => by simp [ClosedN] at hc
  | .ptr _ _, _, hc, _ => by simp [ClosedN] at hc
theorem RelL.shutN {w : World} {Z Z' : Nat → Prop} {b : Nat} (hz : ∀ g, b ≤ g → ¬ Z g → ¬ Z' g) : ∀ {cs : List AV} {vs : List Value}, ClosedNL b cs → RelL w Z [] cs vs → RelL w Z' [] cs vs
  | [], _, _, h => by simpa [RelL] using h
  | c :: cs, _, hc, h => by
    simp only [RelL] at h ⊢
    simp only [ClosedNL] at hc
    obtain ⟨x, xs, h1, h2, h3⟩ := h
    exact ⟨x, xs, h1, Rel.shutN hz hc.1 h2, RelL.shutN hz hc.2 h3⟩
end

mutual
theorem RF.shutN {w : World} {Z Z' : Nat → Prop} {b B' : Nat} (hB : B' ≤ b) (hz : ∀ g, b ≤ g → ¬ Z g → ¬ Z' g) : ∀ {c : AV} {v : Value} {bs : List Nat}, ClosedN b c → RF w Z b c v bs → RF w Z' B' c v bs
  | .own e s n cs, v, bs, hc, h => by
    simp only [RF] at h ⊢
    simp only [ClosedN] at hc
    obtain ⟨xs, h1, h2, h3⟩ := h
    exact ⟨xs, ownsRow_from h1 (fun g hg => by
      rcases h1.2 with ⟨rfl, _⟩ | ⟨g', cap, cur, rfl, k1, _⟩
      · cases hg
      · cases hg; exact Nat.le_trans hB k1), RelL.shutN hz hc h2, h3⟩
  | .agg cs, v, bs, hc, h => by
    simp only [RF] at h ⊢
    simp only [ClosedN] at hc
    obtain ⟨xs, h1, h2⟩ := h
    exact ⟨xs, h1, RFL.shutN hB hz hc h2⟩
  | .tup cs, v, bs, hc, h => by
    simp only [RF] at h ⊢
    simp only [ClosedN] at hc
    obtain ⟨xs, h1, h2⟩ := h
    exact ⟨xs, h1, RFL.shutN hB hz hc h2⟩
  | .nam u o s n cs, v, bs, hc, h => by
    simp only [RF] at h ⊢
    exact ⟨Rel.shutN hz hc h.1, h.2⟩
  | .int _ _, _, _, _, h => by simpa [RF] using h
  | .bool _, _, _, _, h => by simpa [RF] using h
  | .str _, _, _, _, h => by simpa [RF] using h
  | .nil, _, _, _, h => by simpa [RF] using h
  | .top, _, _, _, h => by simpa [RF] using h
  | .lst _ _ _, _, _, hc, _ => by simp [ClosedN] at hc
  | .clp _ _ _, _, _, hc, _ => by simp [ClosedN] at hc
  | .rptr _, _, _, hc, _ => by simp [ClosedN] at hc
  | .fn _ _, _, _, hc, _ => by simp [ClosedN] at hc
  | .ref _, _, _, hc, _ => by simp [ClosedN] at hc
  | .ptr _ _, _, _, hc, _ => by simp [ClosedN] at hc
theorem RFL.shutN {w : World} {Z Z' : Nat → Prop} {b B' : Nat} (hB : B' ≤ b) (hz : ∀ g, b ≤ g → ¬ Z g → ¬ Z' g) : ∀ {cs : List AV} {vs : List Value} {bs : List Nat}, ClosedNL b cs → RFL w Z b cs vs bs → RFL w Z' B' cs vs bs
  | [], _, _, _, h => by simpa [RFL] using h
  | c :: cs, _, _, hc, h => by
    simp only [RFL] at h ⊢
    simp only [ClosedNL] at hc
    obtain ⟨x, xs, b1, b2, h1, h2, h3, h4⟩ := h
    exact ⟨x, xs, b1, b2, h1, RF.shutN hB hz hc.1 h2, RFL.shutN hB hz hc.2 h3, h4⟩
end

theorem OpsQ.callE {rd : Option Nat} {P : Program} {all : Array Oper} {o : Oper} {l : List Oper} {fr : List AV} {hp : List AObj} {R : Exit → St → Prop} {c : Operand} {args : Array Operand} {tys : Array TypeId} {f : FuncId} {caps avs : List AV} {Φ : Nat → AV → Prop} (hw : WantedA all o fr)
    (hop : o.op = .call { callee := .value c, args := args, argTypes := tys }) (hc : ev fr c = .fn f caps) (hs : SnapL hp (args.toList.map (ev fr) ++ caps) avs) (hcall : CallE P f avs Φ) (hcl : ∀ b r, Φ b r → ClosedN b r) (hnm : noMark hp = true)
    (h' : ∀ b1, (∀ (k b : Nat), hp[k]? = some (.inert (.base b)) → b ≤ b1) → (∀ u, InS u ⟨fr, hp⟩ → ∀ g, blk u = some g → g < b1) → ∀ res, Φ b1 res → OpsQ rd P all l ⟨putF fr o.dst (imp hp.length res).1, hp ++ (imp hp.length res).2⟩ R) : OpsQ rd P all (o :: l) ⟨fr, hp⟩ R := by
  intro Z0 w0 a w hS
  refine wpListIn_step fun K hK => ?_
  obtain ⟨μ, F, hFb, hH, hF, hd, hb⟩ := hS
  rw [wanted_rel hF hw, if_pos rfl]
  have hB : w0.heap.size ≤ w.heap.size := hb.size
  have hE : ∀ y, Rel w (Zone Z0 F w0.heap.size) μ (ev fr y) (a.eval y) := fun y => ev_rel hF y
  have hcv := hc ▸ hE c
  simp only [Rel] at hcv
  obtain ⟨cv, hcv, hrc⟩ := hcv
  have hargs' : RelL w (Zone Z0 F w0.heap.size) μ (args.toList.map (ev fr)) (args.toList.map a.eval) := by
    generalize args.toList = l
    induction l with
    | nil => exact RelL.nil
    | cons x l ih => exact RelL.cons (hE x) ih
  have hall : RelL w (Zone (fun _ => False) NoF w.heap.size) [] avs (args.toList.map a.eval ++ cv) := RelL.weak (fun b hb hz hz2 => hz2.elim (fun h => h.2) (fun h => hz h.1)) (SnapL.sound hH hs (hargs'.append hrc))
  obtain ⟨hen, hcall⟩ := hcall
  have hC := hcall (fun _ => False) w _ hall
  have hrun : (execOp a.eval o).run P w = .ok (.enter f (args.toList.map a.eval ++ cv).toArray) w := by
    have e1 : (args.map a.eval ++ cv.toArray) = (args.toList.map a.eval ++ cv).toArray := by
      apply Array.toList_inj.1; simp
    simp only [execOp, hop, resolve, Deferred.ofValue, hcv, Sem.run_bind, Sem.run_pure, Result.andThen_ok, invoke, Array.empty_append]
    rw [e1]
    exact hen _ _
  refine wpIn_of_run (fun c' => by rw [hop]; simp) ?_
  rw [hrun]
  refine upon_enter hC ?_
  rintro en w' ⟨res, x, bs, F', hΦ, rfl, hF', hrf, hnd, hbf, hbel⟩
  have hrf2 : RF w' (Zone Z0 (fun b => F b ∨ F' b) w0.heap.size) w0.heap.size res x bs := RF.shutN hB (fun g hg hz hzz => hzz.elim (fun h => by omega) (fun h => h.2 (.inr (Classical.byContradiction fun hf => hz (.inr ⟨hg, hf⟩))))) (hcl _ _ hΦ) hrf
  obtain ⟨μs, ht, hr⟩ := imp_sound μ hp.length hH.len hrf2
  have hzo : ∀ b, b < w.heap.size → ¬ Zone Z0 F w0.heap.size b → ¬ Zone Z0 (fun b => F b ∨ F' b) w0.heap.size b := fun b _ hz => zone_more b hz
  refine ⟨x, rfl, hK _ _ (h' w.heap.size (fun k b hk => ?_) (fun u hu g hg => (InS.of hH hF hg hu).1) res hΦ Z0 w0 _ _ ⟨μ ++ μs, fun b => F b ∨ F' b, fun b hb => hb.elim (fun h => ⟨(hFb b h).1, Nat.lt_of_lt_of_le (hFb b h).2 hbel.size⟩) (fun h => ⟨Nat.le_trans hB (hF' b h).1, (hF' b h).2⟩), ?_, ?_, ?_, ?_⟩)⟩
  · have hkl : k < μ.length := by rw [hH.len]; exact (List.getElem?_eq_some_iff.1 hk).1
    have h1 := hH.obj k _ _ hk (List.getElem?_eq_getElem hkl)
    obtain ⟨_, rfl⟩ := h1
    exact hB
  · refine HRel.extend (bs := bs) (hH.weak hzo (fun b hb hz => ?_)) hbel ht (fun g hg => RF.ge hrf g hg) (fun g hg => ?_) hnd
    · exact hz.elim .inl (fun h2 => .inr ⟨h2.1, fun hf => hf.elim h2.2 (fun h3 => absurd (hF' b h3).1 (by omega))⟩)
    · have := RF.ge hrf g hg
      exact .inr ⟨by omega, fun hf => hf.elim (fun h3 => absurd (hFb g h3).2 (by omega)) (hbf g hg)⟩
  · refine put_rel (RelL.keep (fun b h1 h2 => hbel.block b h1) (fun i u h => append_old i u h) (RelL.weak hzo hF)) _ hr
  · rw [put_defers']
    exact .inl (hd.none hnm)
  · exact hb.trans (hbel.mono hB)

section
variable {rd : Option Nat} {P : Program} {m : M} {Q : Exit → St → Prop}
theorem R.callE {f : FuncId} {avs0 avs : List AV} {Φ : Nat → AV → Prop} (hc : CallE P f avs Φ) (h : csAt m = some (f, avs0)) (hs : SnapL m.st.hp avs0 avs) (hcl : ∀ b r, Φ b r → ClosedN b r) (ht : opsHd m = true)
    (h' : ∀ b1, (∀ (k b : Nat), m.st.hp[k]? = some (.inert (.base b)) → b ≤ b1) → (∀ u, InS u m.st → ∀ g, blk u = some g → g < b1) → ∀ res, Φ b1 res → Runs rd P (putM m none (imp m.st.hp.length res).1 (m.st.hp ++ (imp m.st.hp.length res).2)) Q) : Runs rd P m Q := by
  have hnm := csAt_mark h
  obtain ⟨fo, args, tys, caps, hop, hf, rfl⟩ := csAt_parts h
  obtain ⟨ks, ⟨fr, hp⟩⟩ := m
  unfold opM headOf at hop
  unfold opsHd at ht
  unfold putM at h'
  simp only [runs_iff] at h' ⊢
  try simp only at hop ht h' hf hs hnm ⊢
  split at hop
  · rename_i all o fl t heq
    split at hop
    · rename_i hw
      simp only [Option.some.injEq] at hop
      split at heq
      · cases heq
        intro hW
        exact OpsQ.callE (wantH_true hw hW) hop hf hs hc hcl hnm fun b1 h1 h2 res hΦ => h' b1 h1 h2 res hΦ headW_false
      · simp at ht
      · cases heq
    · cases hop
  · cases hop

theorem R.callW {f : FuncId} {avs0 avs : List AV} {res : AV} (hc : CallA P f avs res) (h : csAt m = some (f, avs0)) (hs : SnapL m.st.hp avs0 avs) (hr : res.closed = true) (ht : quietOk m (imp m.st.hp.length res).2 = true)
    (h' : Runs rd P (putM m none (imp m.st.hp.length res).1 (m.st.hp ++ (imp m.st.hp.length res).2)) Q) : Runs rd P m Q := by
  obtain ⟨fo, args, tys, caps, hop, hf, rfl⟩ := csAt_parts h
  exact R.effM hop (.inr (.snap f caps avs res hf hs hc hr)) ht h'
end

end Go.Abs


/-! Rows of named rows; the rules for them; loops of few rounds. -/
namespace Go.Abs
open Go.RowKit

section
variable {α : Type} {E : α → List AV} {el s b : Nat} {L : List (Value × List α)} {v : Value}

/-- A row of one's own, named: its elements' type el, s cells each. -/
def eV (E : α → List AV) (el s : Nat) (x : Value × List α) : List AV := [.nam x.1 (some el) s x.2.length (rows E x.2)]
theorem eV_len (x : Value × List α) : (eV E el s x).length = 1 := rfl
theorem rowsV_length : ∀ L : List (Value × List α), (rows (eV E el s) L).length = L.length
  | [] => rfl
  | x :: L => by simp [rows, eV, rowsV_length L]
theorem rowsV_get : ∀ (L : List (Value × List α)) (i : Nat) (d : Value × List α), i < L.length → (rows (eV E el s) L)[i]? = some (.nam (L.getD i d).1 (some el) s (L.getD i d).2.length (rows E (L.getD i d).2))
  | [], i, d, h => by simp at h
  | x :: L, 0, d, h => rfl
  | x :: L, i + 1, d, h => by
    have := rowsV_get L i d (by simpa using h)
    simpa [rows, eV] using this
theorem rowsV_set : ∀ (L : List (Value × List α)) (i : Nat) (x : Value × List α), (rows (eV E el s) L).set i (.nam x.1 (some el) s x.2.length (rows E x.2)) = rows (eV E el s) (L.set i x)
  | [], i, x => rfl
  | y :: L, 0, x => rfl
  | y :: L, i + 1, x => by
    have := rowsV_set L i x
    simp [rows, eV] at this ⊢
    exact this
theorem rowsV_mem {c : AV} : ∀ {L : List (Value × List α)}, c ∈ rows (eV E el s) L → ∃ x ∈ L, c = .nam x.1 (some el) s x.2.length (rows E x.2)
  | [], h => by simp [rows] at h
  | x :: L, h => by
    simp only [rows, eV, List.singleton_append, List.mem_cons] at h
    rcases h with h | h
    · exact ⟨x, List.mem_cons_self .., h⟩
    · obtain ⟨y, hy, e⟩ := rowsV_mem h
      exact ⟨y, List.mem_cons_of_mem _ hy, e⟩
theorem rowsV_in {x : Value × List α} : ∀ {L : List (Value × List α)}, x ∈ L → .nam x.1 (some el) s x.2.length (rows E x.2) ∈ rows (eV E el s) L
  | [], h => by simp at h
  | y :: L, h => by
    simp only [rows, eV, List.singleton_append, List.mem_cons]
    rcases List.mem_cons.1 h with rfl | h
    · exact .inl rfl
    · exact .inr (rowsV_in h)

/-- The names are of blocks of their own, from b on. -/
structure NL (b : Nat) (L : List (Value × List α)) : Prop where
  nd : (L.filterMap fun x => blk x.1).Nodup
  ge : ∀ x ∈ L, ∀ g, blk x.1 = some g → b ≤ g

theorem NL.nil : NL b ([] : List (Value × List α)) := ⟨List.nodup_nil, fun x h => by simp at h⟩
theorem NL.mono {b' : Nat} (h : NL b L) (hb : b' ≤ b) : NL b' L := ⟨h.nd, fun x hx g hg => Nat.le_trans hb (h.ge x hx g hg)⟩
theorem NL.set (h : NL b L) (i : Nat) (d : Value × List α) (ys : List α) (hi : i < L.length) : NL b (L.set i ((L.getD i d).1, ys)) := by
  have e : (L.set i ((L.getD i d).1, ys)).map (fun x => x.1) = L.map fun x => x.1 := by
    apply List.ext_getElem?
    intro k
    simp only [List.getElem?_map, List.getElem?_set]
    split
    · rename_i hk
      subst hk
      simp [hi, List.getD_eq_getElem?_getD]
    · rfl
  have e2 : ∀ M : List (Value × List α), (M.filterMap fun x => blk x.1) = (M.map fun x => x.1).filterMap blk := fun M => by rw [List.filterMap_map]; rfl
  refine ⟨by rw [e2, e, ← e2]; exact h.nd, fun x hx g hg => ?_⟩
  have : x.1 ∈ L.map fun x => x.1 := by rw [← e]; exact List.mem_map_of_mem hx
  obtain ⟨y, hy, e3⟩ := List.mem_map.1 this
  exact h.ge y hy g (by rw [e3]; exact hg)

theorem newN_row {st : St} (h : NewN st v) (j : Nat) {e n : Nat} (L : List (Value × List α)) (hj : st.hp[j]? = some (.list e 1 n (rows (eV E el s) L))) : ∀ u ∈ L, ∀ g, blk v = some g → blk u.1 ≠ some g := fun u hu =>
  h.1 u.1 (.inr ⟨j, _, hj, inNL_iff.2 ⟨_, rowsV_in hu, by simp only [InN]; exact .inl ⟨trivial, .inr (by simp)⟩⟩⟩)
theorem newN_base {st : St} (h : NewN st v) (k : Nat) {b : Nat} (hk : st.hp[k]? = some (.inert (.base b))) : ∀ g, blk v = some g → b ≤ g := h.2 k b hk

theorem inS_slot {st : St} {u : Value} (t : Nat) {c : AV} (ht : st.fr[t]? = some c) (hu : InN u c) : InS u st := .inl (inNL_iff.2 ⟨c, List.mem_of_getElem? ht, hu⟩)
theorem closedN_rows (hL : NL b L) (hE : ∀ x, closedL (E x) = true) : ClosedNL b (rows (eV E el s) L) := by
  rw [closedNL_iff]
  intro c hc
  obtain ⟨x, hx, rfl⟩ := rowsV_mem hc
  exact ⟨closedL_rows hE _, hL.ge x hx⟩
theorem closedN_own (e : Nat) (hL : NL b L) (hE : ∀ x, closedL (E x) = true) : ClosedN b (ownA (eV E el s) e 1 L) := by
  simp only [ownA, ClosedN]
  exact closedN_rows hL hE

theorem fgtV_rows {E' : List α → List AV} (hE : ∀ x, E' x = [.lst s x.length (rows E x)]) (w : World) (Z : Nat → Prop) : ∀ (L : List (Value × List α)) (xs : List Value), RelL w Z [] (rows (eV E el s) L) xs → RelL w Z [] (rows E' (L.map Prod.snd)) xs
  | [], xs, h => h
  | x :: L, xs, h => by
    simp only [rows, eV, List.singleton_append, List.map_cons, hE] at h ⊢
    simp only [RelL] at h ⊢
    obtain ⟨y, ys, rfl, h1, h2⟩ := h
    refine ⟨y, ys, rfl, ?_, fgtV_rows hE w Z L ys h2⟩
    simp only [Rel] at h1 ⊢
    exact h1.2
theorem fgtV {E' : List α → List AV} (hE : ∀ x, E' x = [.lst s x.length (rows E x)]) (L : List (Value × List α)) : ∀ (w : World) (Z : Nat → Prop) u, Rel w Z [] (.lst 1 L.length (rows (eV E el s) L)) u → Rel w Z [] (.lst 1 (L.map Prod.snd).length (rows E' (L.map Prod.snd))) u := by
  intro w Z u h
  simp only [Rel] at h ⊢
  obtain ⟨A, c, xs, h1, h2, h3, h4, h5⟩ := h
  have h6 := fgtV_rows hE w Z L xs h5
  refine ⟨A, c, xs, by rw [List.length_map]; exact h1, ?_, by rw [List.length_map]; exact h3, h4, h6⟩
  rw [← h6.length, h5.length, h2, List.length_map]
theorem NL.at (h : NL b L) (d : Value × List α) {i : Nat} (hi : i < L.length) : ∀ g, blk (L.getD i d).1 = some g → b ≤ g :=
  h.ge _ (List.mem_of_getElem? (i := i) (by simp [List.getD_eq_getElem?_getD, List.getElem?_eq_getElem hi]))

theorem nameableL_rows (h : ∀ x, nameableL (E x) = true) : ∀ xs : List α, nameableL (rows E xs) = true
  | [] => rfl
  | x :: xs => by
    have key : ∀ (a b : List AV), nameableL a = true → nameableL b = true → nameableL (a ++ b) = true := by
      intro a b ha hb
      induction a with
      | nil => exact hb
      | cons c a ih =>
        simp only [nameableL, Bool.and_eq_true, List.cons_append] at ha ⊢
        exact ⟨ha.1, ih ha.2⟩
    exact key _ _ (h x) (nameableL_rows h xs)

/-! ### What is safe -/
mutual
theorem closed_safe : ∀ {c : AV}, c.closed = true → Safe v c
  | .int _ _, _ => safe_int
  | .bool _, _ => safe_bool
  | .str _, _ => ⟨rfl, fun u h => by simp [InN] at h⟩
  | .nil, _ => safe_nil
  | .top, _ => safe_top
  | .own _ _ _ _, _ => ⟨rfl, fun u h => by simp [InN] at h⟩
  | .agg cs, h => safe_agg (closedL_safe (by simpa [AV.closed] using h))
  | .tup cs, h => safe_tup (closedL_safe (by simpa [AV.closed] using h))
  | .lst _ _ _, h => by simp [AV.closed] at h
  | .clp _ _ _, h => by simp [AV.closed] at h
  | .nam _ _ _ _ _, h => by simp [AV.closed] at h
  | .rptr _, h => by simp [AV.closed] at h
  | .ref _, h => by simp [AV.closed] at h
  | .ptr _ _, h => by simp [AV.closed] at h
  | .fn _ _, h => by simp [AV.closed] at h
theorem closedL_safe : ∀ {cs : List AV}, closedL cs = true → SafeL v cs
  | [], _ => safeL_nil
  | c :: cs, h => by
    simp only [closedL, Bool.and_eq_true] at h
    exact safeL_cons.2 ⟨closed_safe h.1, closedL_safe h.2⟩
end

theorem safe_rows (hE : ∀ x, closedL (E x) = true) (xs : List α) : SafeL v (rows E xs) := closedL_safe (closedL_rows hE xs)
theorem safe_slot : ∀ {l : List (Nat × AV)} (i : Nat), (∀ x ∈ l, Safe v x.2) → Safe v (slotA i l)
  | [], _, _ => safe_top
  | (j, c) :: l, i, h => by
    simp only [slotA]
    split
    · exact h _ (List.mem_cons_self ..)
    · exact safe_slot i fun x hx => h x (List.mem_cons_of_mem _ hx)
theorem safe_frmA {l : List (Nat × AV)} (h : ∀ x ∈ l, Safe v x.2) : ∀ n i : Nat, SafeL v (frmA n i l)
  | 0, _ => safeL_nil
  | n + 1, i => safeL_cons.2 ⟨safe_slot i h, safe_frmA h n (i + 1)⟩
theorem safe_frm {l : List (Nat × AV)} {n : Nat} (h : ∀ x ∈ l, Safe v x.2) : SafeL v (frm n l) := safe_frmA h n 0

/-- What is read by names that stood below b. -/
theorem safe_old {c' c : AV} (h : ByN c' c) {b : Nat} (hs : ∀ u, InN u c' → ∀ g, blk u = some g → g < b) (hv : ∀ g, blk v = some g → b ≤ g) : Safe v c' :=
  ⟨h.raw, fun u hu g hg hg' => by
    have h1 := hs u hu g hg'
    have h2 := hv g hg
    omega⟩

theorem NL.ne (h : NL b L) {i k : Nat} (d : Value × List α) (hi : i < L.length) (hk : k < L.length) (hik : k ≠ i) : ∀ g, blk (L.getD i d).1 = some g → blk (L.getD k d).1 ≠ some g := by
  intro g h1 h2
  have key : ∀ {M : List (Value × List α)} {p q : Nat} {x y : Value × List α}, (M.filterMap fun x => blk x.1).Nodup → p < q → M[p]? = some x → M[q]? = some y → blk x.1 = some g → blk y.1 = some g → False := by
    intro M
    induction M with
    | nil => intro p q x y _ _ h1; simp at h1
    | cons z M ih =>
      intro p q x y hn hpq h1 h2 h3 h4
      cases q with
      | zero => omega
      | succ q =>
        rw [List.getElem?_cons_succ] at h2
        have hm : g ∈ M.filterMap fun x => blk x.1 := List.mem_filterMap.2 ⟨y, List.mem_of_getElem? h2, h4⟩
        cases p with
        | zero =>
          simp at h1
          subst h1
          rw [List.filterMap_cons, h3] at hn
          exact (List.nodup_cons.1 hn).1 hm
        | succ p =>
          rw [List.getElem?_cons_succ] at h1
          refine ih ?_ (by omega) h1 h2 h3 h4
          rw [List.filterMap_cons] at hn
          split at hn
          · exact hn
          · exact (List.nodup_cons.1 hn).2
  have gi : L[i]? = some (L.getD i d) := by simp [List.getD_eq_getElem?_getD, List.getElem?_eq_getElem hi]
  have gk : L[k]? = some (L.getD k d) := by simp [List.getD_eq_getElem?_getD, List.getElem?_eq_getElem hk]
  rcases Nat.lt_or_ge i k with h | h
  · exact key ‹NL b L›.nd h gi gk h1 h2
  · exact key ‹NL b L›.nd (by omega) gk gi h2 h1
end

section
variable {rd : Option Nat} {P : Program} {m : M} {Q : Exit → St → Prop} {α : Type}

theorem R.keepS (ks : List Nat) (h : subOk m = true) (h' : Runs rd P ⟨m.ks, ⟨keepF ks m.st.fr, m.st.hp⟩⟩ Q) : Runs rd P m Q := R.sub _ h (Sub.keep ks m.st) h'

def weakRow (E : α → List AV) (el s el1 : Nat) (L : List (Value × List α)) (i : Nat) (d : Value × List α) : AObj := .list el1 1 L.length ((rows (eV E el s) L).set i (weakN (L.getD i d).1 (L.getD i d).2.length))

theorem R.thawV (E : α → List AV) (el s el1 : Nat) (L : List (Value × List α)) (i : Nat) (d : Value × List α) (j t k b : Nat) (fr' : List AV) (hp' : List AObj) (h : subOk m = true) (hj : m.st.hp[j]? = some (rowA (eV E el s) el1 1 L)) (hi : i < L.length) (hL : NL b L) (hE : ∀ x, closedL (E x) = true)
    (ht : m.st.fr[t]? = some (.nam (L.getD i d).1 (some el) s (L.getD i d).2.length (rows E (L.getD i d).2))) (hk : m.st.hp[k]? = some (.inert (.base b))) (hf : m.st.fr.set t .top = fr') (hh : m.st.hp.set j .dead = hp') (hfr : SafeL (L.getD i d).1 fr') (hoth : ∀ o ∈ hp', SafeO (L.getD i d).1 o)
    (h' : Runs rd P ⟨m.ks, ⟨m.st.fr.set t (.ref m.st.hp.length), m.st.hp.set j (weakRow E el s el1 L i d) ++ [rowA E el s (L.getD i d).2, .frame [(L.getD i d).1] [.ref m.st.hp.length]]⟩⟩ Q) : Runs rd P m Q := by
  subst hf hh
  refine R.thaw j i t k el s (L.getD i d).2.length el1 1 L.length b (L.getD i d).1 (rows E (L.getD i d).2) (rows (eV E el s) L) h hj (rowsV_get L i d hi) ht (closedL_rows hE _) hk (hL.ge _ ?_) hfr (fun q c hq hne => ?_) hoth h'
  · exact List.mem_of_getElem? (i := i) (by simp [List.getD_eq_getElem?_getD, List.getElem?_eq_getElem hi])
  · have hql : q < L.length := by
      have := (List.getElem?_eq_some_iff.1 hq).1
      rwa [rowsV_length] at this
    rw [rowsV_get L q d hql] at hq
    cases hq
    exact safe_nam (safe_rows hE _) (hL.ne d hi hql hne)

theorem R.repinV (E : α → List AV) (el s el1 : Nat) (L : List (Value × List α)) (i : Nat) (d : Value × List α) (j k : Nat) (ys : List α) (h : subOk m = true) (hj : m.st.hp[j]? = some (weakRow E el s el1 L i d)) (hi : i < L.length) (hk : m.st.hp[k]? = some (rowA E el s ys)) (hk1 : m.st.hp[k + 1]? = some (.frame [(L.getD i d).1] [.ref k])) (hjk : (j != k) = true)
    (h' : Runs rd P ⟨m.ks, ⟨(frzS k (.nam (L.getD i d).1 (some el) s ys.length (rows E ys)) m.st).fr, ((frzS k (.nam (L.getD i d).1 (some el) s ys.length (rows E ys)) m.st).hp.set j (rowA (eV E el s) el1 1 (L.set i ((L.getD i d).1, ys)))).set (k + 1) .dead⟩⟩ Q) : Runs rd P m Q := by
  refine R.repin j i k el s ys.length el1 1 L.length (L.getD i d).2.length (L.getD i d).1 (rows E ys) _ h hj ?_ hk hk1 (by simpa using hjk) ?_
  · rw [List.getElem?_set_self (by rw [rowsV_length]; exact hi)]
  · unfold pinS
    rw [List.set_set]
    have e := rowsV_set (E := E) (el := el) (s := s) L i ((L.getD i d).1, ys)
    simp only at e
    rw [e]
    unfold rowA at h'
    rw [List.length_set] at h'
    exact h'

/-! ### Loops of few rounds -/
def lpC (m : M) : Code :=
  match m.ks with
  | .code (.loop c) :: _ => c
  | _ => .skip
def lpK (m : M) : List Kont :=
  match m.ks with
  | .code (.loop _) :: ks => ks
  | _ => []
def isLp (m : M) : Bool :=
  match m.ks with
  | .code (.loop _) :: _ => true
  | _ => false

def Again (rd : Option Nat) (P : Program) (c : Code) (ks : List Kont) (Q : Exit → St → Prop) : Nat → (St → Prop) → Prop
  | 0, _ => True
  | n + 1, R => ∀ st, (∀ R', Again rd P c ks Q n R' → Runs rd P ⟨.code c :: .stop R' :: ks, st⟩ Q) → R st

def RK (rd : Option Nat) (P : Program) (c : Code) (ks : List Kont) (Q : Exit → St → Prop) : Nat → St → Prop
  | 0, _ => False
  | n + 1, st => Runs rd P ⟨.code c :: .stop (RK rd P c ks Q n) :: ks, st⟩ Q

theorem again_RK {c : Code} {ks : List Kont} : ∀ n, Again rd P c ks Q n (RK rd P c ks Q n)
  | 0 => trivial
  | n + 1 => fun _ h => h _ (again_RK n)

theorem R.rounds (n : Nat) (h : isLp m = true) (h' : ∀ R, Again rd P (lpC m) (lpK m) Q n R → Runs rd P ⟨.code (lpC m) :: .stop R :: lpK m, m.st⟩ Q) : Runs rd P m Q := by
  obtain ⟨ks0, st⟩ := m
  have h2 := h' _ (again_RK n)
  unfold isLp at h
  unfold lpC lpK at h2
  simp only at h h2
  split at h
  · simp only at h2
    rw [runs_iff]
    simp only [RunsK]
    rename_i c ks
    refine RunA.loop (I := fun n st => RK rd P c ks Q n st) (n + 1) h2 (fun k st hk => ?_)
    cases k with
    | zero => exact hk.elim
    | succ k =>
      have h1 := hk.out
      simp only [RunsK] at h1
      refine h1.mono fun e st' hq => ?_
      cases e with
      | normal => exact ⟨st', Sub.refl _, k, Nat.lt_succ_self _, hq⟩
      | ret => exact hq
      | exit id => exact hq
      | goto l => exact hq
      | panic ch => exact hq
      | outgrown => exact hq
  · cases h

theorem R.stopA (R1 : St → Prop) {c : Code} {ks : List Kont} {n : Nat} {Q' : Exit → St → Prop} (h : spAt m = some R1) (hA : Again rd P c ks Q' (n + 1) R1) (h' : ∀ R', Again rd P c ks Q' n R' → Runs rd P ⟨.code c :: .stop R' :: ks, m.st⟩ Q') : Runs rd P m Q :=
  R.stop R1 h (hA m.st h')
end

theorem nameable_LI (xs : List Int) : nameable (LI xs) = true := by simp only [LI, nameable]; exact nameableL_rows (fun _ => rfl) xs
theorem nameable_LN (xs : List (Int × Int)) : nameable (LN xs) = true := by simp only [LN, nameable]; exact nameableL_rows (fun _ => rfl) xs
theorem nameable_LLN (xs : List (List (Int × Int))) : nameable (LLN xs) = true := by simp only [LLN, nameable]; exact nameableL_rows (fun x => by simp only [eLN, nameableL, nameable_LN, Bool.and_self]) xs
theorem nameLst_of {w : World} {Z : Nat → Prop} {s n : Nat} {cs : List AV} {v : Value} (hn : nameable (.lst s n cs) = true) (hr : Rel w Z [] (.lst s n cs) v) : ∃ u cs', ByN (.nam u none s n cs') (.lst s n cs) ∧ Rel w Z [] (.nam u none s n cs') v := by
  simp only [nameable] at hn
  simp only [Rel] at hr
  obtain ⟨A, c, xs, h1, h2, h3, h4, h5⟩ := hr
  obtain ⟨cs', ⟨k1, k2, k3⟩, k4⟩ := nameL_of hn h5
  refine ⟨v, cs', ⟨rfl, by simpa [NoRaw] using k2, fun w Z x hx => ?_⟩, ?_⟩
  · simp only [Rel] at hx ⊢
    obtain ⟨_, A, c, xs', e1, e2, e3, e4, e5⟩ := hx
    exact ⟨A, c, xs', e1, h2, e3, e4, k3 _ _ _ e5⟩
  · simp only [Rel]
    exact ⟨⟨trivial, fun e he => by cases he⟩, A, c, xs, h1, by rw [← k4.length, h5.length, h2], h3, h4, k4⟩

theorem set_same {α : Type} {l : List α} {t : Nat} {x : α} (h : l[t]? = some x) : l.set t x = l := by
  apply List.ext_getElem?
  intro i
  by_cases hi : i = t
  · subst hi; rw [List.getElem?_set_self (List.getElem?_eq_some_iff.1 h).1, h]
  · rw [List.getElem?_set_ne (Ne.symm hi)]

theorem SubE.nameS (t s n : Nat) (cs : List AV) (st : St) (ht : st.fr[t]? = some (.lst s n cs)) (hn : nameable (.lst s n cs) = true) : SubE st (fun p : Value × List AV => ⟨st.fr.set t (.nam p.1 none s n p.2), st.hp⟩) (fun p => ByN (.nam p.1 none s n p.2) (.lst s n cs)) := by
  rintro Z0 w0 a w ⟨μ, F, hFb, hH, hF, hd, hb⟩
  obtain ⟨x, hx, hr⟩ := hF.get ht
  obtain ⟨u, cs', h1, h2⟩ := nameLst_of hn (Rel.leafy rfl hr)
  refine ⟨(u, cs'), h1, μ, F, hFb, hH, ?_, hd, hb⟩
  have h3 := hF.set t h2.lift
  rwa [set_same hx] at h3

section
variable {rd : Option Nat} {P : Program} {m : M} {Q : Exit → St → Prop}
theorem R.nameS (t s n : Nat) (cs : List AV) (h : subOk m = true) (ht : m.st.fr[t]? = some (.lst s n cs)) (hn : nameable (.lst s n cs) = true) (h' : ∀ u cs', ByN (.nam u none s n cs') (.lst s n cs) → Runs rd P ⟨m.ks, ⟨m.st.fr.set t (.nam u none s n cs'), m.st.hp⟩⟩ Q) : Runs rd P m Q :=
  R.subE _ _ h (SubE.nameS t s n cs m.st ht hn) fun p hp => h' p.1 p.2 hp
end

end Go.Abs


/-! slices.Sort at rows of integers of one's own. -/
namespace Go.Abs
open Go.RowKit Go.Proofs Go.ChangeShapes Go.WideShapes Go.Deep

def srtI (xs : List Int) : List Int := xs.mergeSort fun x y => decide (x ≤ y)
theorem srtI_len (xs : List Int) : (srtI xs).length = xs.length := List.length_mergeSort xs

theorem relL_ints_inv {w : World} {Z : Nat → Prop} {μ : List Value} : ∀ {xs : List Int} {vs : List Value}, RelL w Z μ (rows eI xs) vs → vs = xs.map (Value.int .i64)
  | [], vs, h => by simpa [rows, RelL] using h
  | x :: xs, vs, h => by
    simp only [rows, eI, List.cons_append, List.nil_append] at h
    simp only [RelL] at h
    obtain ⟨v, vs', rfl, h1, h2⟩ := h
    simp only [AI, Rel] at h1
    rw [List.map_cons, ← relL_ints_inv (xs := xs) h2, h1]

theorem relL_ints_mk {w : World} {Z : Nat → Prop} {μ : List Value} : ∀ xs : List Int, RelL w Z μ (rows eI xs) (xs.map (Value.int .i64))
  | [] => RelL.nil
  | x :: xs => RelL.cons (by simp [Rel, AI]) (relL_ints_mk xs)

theorem CallS.sort {P : Program} {ρ : Go.Shelf.Ren} (Ly : SlLaysM.n5 P ρ) (hen : Enters P (ρ.f 5)) (e : Nat) (xs : List Int) (hl : xs.length ≤ 1000000000) : CallS P (ρ.f 5) [.ref 0] [rowA eI e 1 xs] (.tup []) [rowA eI e 1 (srtI xs)] := by
  refine ⟨hen, ?_⟩
  intro Z0 F w0 w μ vs us fr hFb hH hvs hus hbel
  have hlen := hvs.length
  obtain ⟨v, rfl⟩ : ∃ v, vs = [v] := by
    cases vs with
    | nil => simp at hlen
    | cons v t => cases t with
      | nil => exact ⟨v, rfl⟩
      | cons _ _ => simp at hlen
  replace hvs : μ[0]? = some v := by
    simp only [RelL, Rel] at hvs
    obtain ⟨x, xs', e1, e2, e3⟩ := hvs
    cases e1; exact e2
  obtain ⟨ys, hown, hrel⟩ : ∃ ys, w.ownsRow w0.heap.size e 1 v xs.length ys ∧ RelL w (Zone Z0 F w0.heap.size) [] (rows eI xs) ys := hH.obj 0 _ v rfl hvs
  have hys := relL_ints_inv hrel
  subst hys
  have hZn := zone_new (Z0 := Z0) hbel.size hFb
  rcases hown with ⟨hyl, ⟨hv, hn⟩ | ⟨g, cap, cur, hv, hbase, hb, hncap, hcap, hsz, htake⟩⟩
  · have hx : xs = [] := List.eq_nil_of_length_eq_zero hn
    subst hx hv
    refine (AnyM.slices_Sort_int_none Ly none 0 w).mono ?_
    rintro en w' ⟨rfl, rfl⟩
    exact ⟨_, μ, F, rfl, hFb, (by rw [show srtI [] = [] from List.mergeSort_nil]; exact hH), by simp [Rel, RelL], hus, hbel⟩
  · subst hv
    have ht2 : cur.toList.take xs.length = xs.map (Value.int .i64) := by rwa [Nat.mul_one] at htake
    have hgl : g < w.heap.size := (Array.getElem?_eq_some_iff.1 hb).1
    refine (AnyM.slices_Sort_int Ly g 0 cap xs w (holds_of_blockI hb ht2) hgl (by omega)).mono ?_
    rintro en w' ⟨rfl, nn, os, rfl⟩
    have hgr := grownBy_sortedI (w := w) (g := g) (n := nn) (os := os) (xs.mergeSort fun x y => decide (x ≤ y)).toArray
    have hro := ownsRow_sortedI (n := nn) (os := os) (ts := xs.mergeSort fun x y => decide (x ≤ y)) (List.length_mergeSort xs) hbase hb hncap hcap hsz
    have hbl : Below w0.heap.size w (Go.Sort.grow (Go.Sort.putRow (Value.int .i64) (Sort.ahead w nn) g 0 (xs.mergeSort fun x y => decide (x ≤ y)).toArray) os) := ⟨hgr.os, hgr.tape, hgr.output, hgr.size, fun k hk => hgr.block k (by have := hbel.size; omega) (by simp; omega)⟩
    refine ⟨_, μ, F, rfl, fun b hb' => ⟨(hFb b hb').1, Nat.lt_of_lt_of_le (hFb b hb').2 hgr.size⟩, ?_, by simp [Rel, RelL], ?_, hbel.trans hbl⟩
    · refine hH.update_same hZn rfl hvs rfl (fun b hb1 hne => hgr.block b hb1 (fun e => hne (by cases e; rfl))) ?_
      exact ⟨_, by rw [srtI_len]; exact hro, relL_ints_mk _⟩
    · refine RelL.keep (w := w) (fun b hb1 hz => hgr.block b hb1 ?_) (fun _ _ h => h) hus
      intro e2
      cases e2
      exact hz (hH.zone 0 _ _ _ rfl rfl hvs rfl)
end Go.Abs


/-! The machine's rules: texts joined, compared, made of bytes. -/
namespace Go.Abs
open Go.RowKit

/-- A text of the digits 0 and 1. -/
def bkey (l : List Bool) : ByteArray := ⟨(l.map fun b => if b then (49 : UInt8) else 48).toArray⟩
theorem bkey_app (l k : List Bool) : bkey l ++ bkey k = bkey (l ++ k) := by
  apply ByteArray.ext
  simp [bkey]
theorem bkey_inj {l k : List Bool} (h : (bkey l).toList == (bkey k).toList) : l = k := by
  have h := eq_of_beq h
  rw [bkey, bkey, ByteArray.toList_mk, ByteArray.toList_mk] at h
  refine List.map_inj_right (f := fun b : Bool => if b then (49 : UInt8) else 48) ?_ |>.1 h
  intro a b
  cases a <;> cases b <;> simp
theorem bkey_eq (l k : List Bool) : ((bkey l).toList == (bkey k).toList) = decide (l = k) := by
  rw [Bool.eq_iff_iff, decide_eq_true_iff]
  exact ⟨fun h => bkey_inj h, fun h => by subst h; exact beq_self_eq_true _⟩
theorem bkey_size (l : List Bool) : (bkey l).size = l.length := by simp [bkey, ByteArray.size]
def eK (l : List Bool) : List AV := [.str (bkey l)]
theorem eK_len (l : List Bool) : (eK l).length = 1 := rfl
inductive StrOp
  | cat | eql | neq
def strAt (m : M) : Option (StrOp × ByteArray × ByteArray) :=
  match opM m with
  | some (.binOp .add _ x y _) => match ev m.st.fr x, ev m.st.fr y with
    | .str a, .str b => some (.cat, a, b)
    | _, _ => none
  | some (.binOp .eql _ x y _) => match ev m.st.fr x, ev m.st.fr y with
    | .str a, .str b => some (.eql, a, b)
    | _, _ => none
  | some (.binOp .neq _ x y _) => match ev m.st.fr x, ev m.st.fr y with
    | .str a, .str b => some (.neq, a, b)
    | _, _ => none
  | _ => none
def strV : StrOp → ByteArray → ByteArray → AV
  | .cat, a, b => .str (a ++ b)
  | .eql, a, b => .bool (a.toList == b.toList)
  | .neq, a, b => .bool !(a.toList == b.toList)

section
variable {rd : Option Nat} {P : Program} {m : M} {Q : Exit → St → Prop}
/-- An operation at the head that only yields a value. -/
theorem R.valG (op : Op) (b : AV) (h : opM m = some op) (ho : opsAt m = true) (hd : ∀ c, op ≠ .defer c)
    (hrun : ∀ (Z : Nat → Prop) (μ : List Value) (a : Act) (w : World) (o : Oper), o.op = op → RelL w Z μ m.st.fr a.tmps.toList → ∃ v, (execOp a.eval o).run P w = .ok (.value v) w ∧ Rel w Z μ b v)
    (h' : Runs rd P (putM m none b m.st.hp) Q) : Runs rd P m Q := by
  obtain ⟨ks, ⟨fr, hp⟩⟩ := m
  unfold opM headOf at h
  unfold opsAt at ho
  simp only [putM, runs_iff] at h ho h' hrun ⊢
  split at ho
  · rename_i all o l fl ks'
    simp only [RunsK] at h' ⊢
    intro hW
    split at h
    · rename_i all' o' f' t' heq
      simp only [Option.some.injEq, Prod.mk.injEq] at heq
      obtain ⟨rfl, rfl, rfl, _⟩ := heq
      split at h
      · rename_i hw
        simp only [Option.some.injEq] at h
        exact OpsQ.val (wantH_true hw hW) (fun c => by rw [h]; exact hd c) (fun Z μ ac w hF => hrun Z μ ac w _ h hF) (h' headW_false)
      · cases h
    · cases h
  · cases ho
theorem R.str (k : StrOp) (a b : ByteArray) (v : AV) (h : strAt m = some (k, a, b)) (ht : quiet0 m = true) (hs : a.size + b.size ≤ 9223372036854775807) (hv : strV k a b = v) (h' : Runs rd P (putM m none v m.st.hp) Q) : Runs rd P m Q := by
  subst hv
  unfold strAt at h
  split at h
  · rename_i t x y ty hop
    split at h
    · rename_i a1 b1 hx hy
      simp only [Option.some.injEq, Prod.mk.injEq] at h
      obtain ⟨rfl, rfl, rfl⟩ := h
      exact R.eff0 hop (.inl (.catS _ _ hx hy hs)) ht h'
    · cases h
  · rename_i t x y ty hop
    split at h
    · rename_i a1 b1 hx hy
      simp only [Option.some.injEq, Prod.mk.injEq] at h
      obtain ⟨rfl, rfl, rfl⟩ := h
      exact R.eff0 hop (.inl (.eqlS _ _ hx hy)) ht h'
    · cases h
  · rename_i t x y ty hop
    split at h
    · rename_i a1 b1 hx hy
      simp only [Option.some.injEq, Prod.mk.injEq] at h
      obtain ⟨rfl, rfl, rfl⟩ := h
      exact R.eff0 hop (.inl (.neqS _ _ hx hy)) ht h'
    · cases h
  · cases h

def u8B (P : Program) (s d : TypeId) : Bool :=
  match P.underlying s, P.underlying d with
  | some (.slice e), some .string => (match P.underlying e with
    | some (.int .u8) => true
    | _ => false)
  | _, _ => false
def bytAt (P : Program) (m : M) : Option (Nat × List AV) :=
  match opM m with
  | some (.convert s d x) => if u8B P s d = true then (match ev m.st.fr x with
    | .lst 1 n cs => some (n, cs)
    | _ => none) else none
  | _ => none
theorem rel_bytes {w : World} {Z : Nat → Prop} {μ : List Value} : ∀ {xs : List Int} {vs : List Value}, RelL w Z μ (rows eB xs) vs → vs = xs.map (Value.int .u8)
  | [], vs, h => by simpa [rows, RelL] using h
  | x :: xs, vs, h => by
    simp only [rows, eB, List.cons_append, List.nil_append] at h
    simp only [RelL] at h
    obtain ⟨v, vs', rfl, h1, h2⟩ := h
    simp only [Rel] at h1
    rw [List.map_cons, ← rel_bytes (xs := xs) h2, h1]
def bytesOf (bs : List Int) : ByteArray := bs.foldl (fun r n => r.push (UInt8.ofNat n.toNat)) ByteArray.empty
/-- A text made of bytes. -/
theorem R.strB (bs : List Int) (h : bytAt P m = some (bs.length, rows eB bs)) (ho : opsAt m = true) (hne : bs ≠ []) (v : ByteArray) (hv : bytesOf bs = v) (h' : Runs rd P (putM m none (.str v) m.st.hp) Q) : Runs rd P m Q := by
  subst hv
  unfold bytAt at h
  split at h
  · rename_i s d x hop
    split at h
    · rename_i hu
      split at h
      · rename_i n cs hx
        simp only [Option.some.injEq, Prod.mk.injEq] at h
        obtain ⟨rfl, rfl⟩ := h
        refine R.valG _ _ hop ho (fun c => by simp) (fun Z μ ac w o hop hF => ⟨.string (bytesOf bs), ?_, by simp [Rel]⟩) h'
        have hr := hx ▸ ev_rel hF x
        simp only [Rel] at hr
        obtain ⟨A, c, vs, he, hl, hc, hrd, hrel⟩ := hr
        have hvs := rel_bytes hrel
        obtain ⟨ad, rfl, _, hcell⟩ := hrd (by rw [hvs]; simpa using hne)
        have hld := run_loadCells_list (P := P) w ad vs hcell
        rw [hvs, List.length_map] at hld
        unfold u8B at hu
        split at hu
        · rename_i e hs hd
          split at hu
          · rename_i he8
            simp [execOp, hop, he, Sem.run_bind, run_convert_bytes_string w s d e _ _ _ hs he8 hd, run_bytesToString w ad _ _ bs hld]
            rfl
          · cases hu
        · cases hu
      · cases h
    · cases h
  · cases h
end
end Go.Abs


/-! Definable sets: atoms, their unions, sorted lists (no program). -/
namespace Go.Proofs.Ytpalghbfhgimkaa
open Go.RowKit Go.Abs

/-- Two ascending lists of the same numbers are the same. -/
theorem asc_eq : ∀ {l k : List Int}, l.Pairwise (· < ·) → k.Pairwise (· < ·) → (∀ x, x ∈ l ↔ x ∈ k) → l = k
  | [], [], _, _, _ => rfl
  | [], y :: k, _, _, h => absurd ((h y).2 (List.mem_cons_self ..)) (List.not_mem_nil)
  | x :: l, [], _, _, h => absurd ((h x).1 (List.mem_cons_self ..)) (List.not_mem_nil)
  | x :: l, y :: k, hl, hk, h => by
    rw [List.pairwise_cons] at hl hk
    have hx := (h x).1 (List.mem_cons_self ..)
    have hy := (h y).2 (List.mem_cons_self ..)
    have e : x = y := by
      rcases List.mem_cons.1 hx with e | hx
      · exact e
      · rcases List.mem_cons.1 hy with e | hy
        · exact e.symm
        · have := hl.1 y hy
          have := hk.1 x hx
          omega
    subst e
    rw [asc_eq hl.2 hk.2 fun z => ?_]
    constructor
    · intro hz
      rcases List.mem_cons.1 ((h z).1 (List.mem_cons_of_mem _ hz)) with e | e
      · have := hl.1 z hz; omega
      · exact e
    · intro hz
      rcases List.mem_cons.1 ((h z).2 (List.mem_cons_of_mem _ hz)) with e | e
      · have := hk.1 z hz; omega
      · exact e
theorem srt_asc {l : List Int} (h : l.Nodup) : (srtI l).Pairwise (· < ·) := by
  have h1 : (srtI l).Pairwise fun a b => decide (a ≤ b) = true := List.pairwise_mergeSort (fun a b c h1 h2 => by simp only [decide_eq_true_eq] at *; omega) (fun a b => by simp only [Bool.or_eq_true, decide_eq_true_eq]; omega) l
  have h2 : (srtI l).Nodup := (List.mergeSort_perm l _).nodup_iff.2 h
  have h3 := List.pairwise_and_iff.2 ⟨h1, h2⟩
  exact h3.imp fun h => by
    have h4 := h.1
    have h5 := h.2
    simp only [decide_eq_true_eq] at h4
    omega
theorem srt_mem {l : List Int} {x : Int} : x ∈ srtI l ↔ x ∈ l := List.mem_mergeSort

/-- Pieces of the atoms: within the set, and without. -/
def pcs (t a : Int) : List Int := (if band a t = 0 then [] else [band a t]) ++ (if bnot a t = 0 then [] else [bnot a t])
def splt (t : Int) (al : List Int) : List Int := al.flatMap (pcs t)
def atmF (n : Nat) (f : Nat → Int) : Nat → List Int
  | 0 => if 0 < n then [(shl64 1 (n : Int)) - 1] else []
  | i + 1 => splt (f i) (atmF n f i)
def kyF (f : Nat → Int) (w : Nat) : Nat → List Bool
  | 0 => []
  | i + 1 => kyF f w i ++ [tb (f i) w]
/-- The atoms of the first i sets. -/
structure ATM (n : Nat) (f : Nat → Int) (i : Nat) (al : List Int) : Prop where
  rng : ∀ a ∈ al, InM n a ∧ ∃ w, tb a w = true
  dis : al.Pairwise fun a b => ∀ w, tb a w = true → tb b w = true → False
  cov : ∀ w, w < n → ∃ a ∈ al, tb a w = true
  cls : ∀ a ∈ al, ∀ w v, tb a w = true → v < n → (tb a v = true ↔ kyF f v i = kyF f w i)
theorem nz_tb {n : Nat} {a : Int} (h : InM n a) (hz : ¬ a = 0) : ∃ w, tb a w = true := by
  refine Classical.byContradiction fun hn => hz (tb_ext h.1 (Int.le_refl _) fun i => ?_)
  rw [tb_zero]
  cases hb : tb a i with
  | false => rfl
  | true => exact absurd ⟨i, hb⟩ hn
theorem pcs_mem {n : Nat} {t a p : Int} (hn : n ≤ 61) (ht : InM n t) (ha : InM n a) (h : p ∈ pcs t a) : InM n p ∧ (∃ w, tb p w = true) ∧ ((p = band a t ∧ ∀ w, tb p w = (tb a w && tb t w)) ∨ (p = bnot a t ∧ ∀ w, tb p w = (tb a w && !tb t w))) := by
  have h1 := inM_band hn ha ht
  have h2 := inM_bnot hn ha ht
  rcases List.mem_append.1 h with h | h
  · split at h
    · exact absurd h (List.not_mem_nil)
    · rename_i hz
      have e := List.mem_singleton.1 h
      subst e
      exact ⟨h1, nz_tb h1 hz, .inl ⟨rfl, fun w => tb_band hn ha ht w⟩⟩
  · split at h
    · exact absurd h (List.not_mem_nil)
    · rename_i hz
      have e := List.mem_singleton.1 h
      subst e
      exact ⟨h2, nz_tb h2 hz, .inr ⟨rfl, fun w => tb_bnot hn ha ht w⟩⟩
theorem tb_nz {a : Int} {w : Nat} (h : tb a w = true) : ¬ a = 0 := fun e => by subst e; rw [tb_zero] at h; cases h
theorem pcs_in {n : Nat} {t a : Int} (hn : n ≤ 61) (ht : InM n t) (ha : InM n a) {w : Nat} (hw : tb a w = true) : ∃ p ∈ pcs t a, tb p w = true := by
  cases hb : tb t w with
  | true =>
    have h : tb (band a t) w = true := by rw [tb_band hn ha ht, hw, hb]; rfl
    exact ⟨_, List.mem_append_left _ (by rw [if_neg (tb_nz h)]; exact List.mem_singleton.2 rfl), h⟩
  | false =>
    have h : tb (bnot a t) w = true := by rw [tb_bnot hn ha ht, hw, hb]; rfl
    exact ⟨_, List.mem_append_right _ (by rw [if_neg (tb_nz h)]; exact List.mem_singleton.2 rfl), h⟩
theorem pcs_sub {n : Nat} {t a p : Int} (hn : n ≤ 61) (ht : InM n t) (ha : InM n a) (h : p ∈ pcs t a) {w : Nat} (hw : tb p w = true) : tb a w = true := by
  rcases (pcs_mem hn ht ha h).2.2 with ⟨_, e⟩ | ⟨_, e⟩ <;> (rw [e w, Bool.and_eq_true] at hw; exact hw.1)
theorem pcs_dis {n : Nat} {t a : Int} (hn : n ≤ 61) (ht : InM n t) (ha : InM n a) : (pcs t a).Pairwise fun p q => ∀ w, tb p w = true → tb q w = true → False := by
  unfold pcs
  split
  · split
    · exact List.Pairwise.nil
    · exact List.pairwise_singleton _ _
  · split
    · exact List.pairwise_singleton _ _
    · refine List.pairwise_cons.2 ⟨fun q hq w h1 h2 => ?_, List.pairwise_singleton _ _⟩
      have e := List.mem_singleton.1 hq
      subst e
      rw [tb_band hn ha ht] at h1
      rw [tb_bnot hn ha ht] at h2
      cases hb : tb t w <;> simp [hb] at h1 h2
theorem splt_dis {n : Nat} {t : Int} (hn : n ≤ 61) (ht : InM n t) : ∀ {al : List Int}, (∀ a ∈ al, InM n a) → al.Pairwise (fun a b => ∀ w, tb a w = true → tb b w = true → False) → (splt t al).Pairwise fun p q => ∀ w, tb p w = true → tb q w = true → False
  | [], _, _ => List.Pairwise.nil
  | a :: al, hr, hd => by
    rw [List.pairwise_cons] at hd
    have ha := hr a (List.mem_cons_self ..)
    have hr' := fun b hb => hr b (List.mem_cons_of_mem _ hb)
    rw [splt, List.flatMap_cons]
    refine List.pairwise_append.2 ⟨pcs_dis hn ht ha, splt_dis hn ht hr' hd.2, fun p hp q hq w h1 h2 => ?_⟩
    obtain ⟨b, hb, hq⟩ := List.mem_flatMap.1 hq
    exact hd.1 b hb w (pcs_sub hn ht ha hp h1) (pcs_sub hn ht (hr' b hb) hq h2)
theorem atm_ok {n : Nat} {f : Nat → Int} (hn : n ≤ 61) : ∀ i : Nat, (∀ j, j < i → InM n (f j)) → ATM n f i (atmF n f i)
  | 0, _ => by
    unfold atmF
    by_cases h0 : 0 < n
    · rw [if_pos h0]
      refine ⟨fun a ha => ?_, List.pairwise_singleton _ _, fun w hw => ⟨_, List.mem_singleton.2 rfl, ?_⟩, fun a ha w v _ hv => ?_⟩
      · have e := List.mem_singleton.1 ha
        subst e
        exact ⟨inM_full hn, 0, by rw [tb_full hn]; simpa using h0⟩
      · rw [tb_full hn]; simpa using hw
      · have e := List.mem_singleton.1 ha
        subst e
        rw [tb_full hn]
        simpa [kyF] using hv
    · rw [if_neg h0]
      exact ⟨fun a ha => absurd ha (List.not_mem_nil), List.Pairwise.nil, fun w hw => absurd hw (by omega), fun a ha => absurd ha (List.not_mem_nil)⟩
  | i + 1, hf' => by
    have ih := atm_ok hn i fun j hj => hf' j (by omega)
    have hf := fun (k : Nat) (hk : k = i) => hf' k (by omega)
    have hr : ∀ a ∈ atmF n f i, InM n a := fun a ha => (ih.rng a ha).1
    refine ⟨fun p hp => ?_, splt_dis hn (hf i rfl) hr ih.dis, fun w hw => ?_, fun p hp w v hw hv => ?_⟩
    · obtain ⟨a, ha, hp⟩ := List.mem_flatMap.1 hp
      have := pcs_mem hn (hf i rfl) (hr a ha) hp
      exact ⟨this.1, this.2.1⟩
    · obtain ⟨a, ha, h⟩ := ih.cov w hw
      obtain ⟨p, hp, h⟩ := pcs_in hn (hf i rfl) (hr a ha) h
      exact ⟨p, List.mem_flatMap.2 ⟨a, ha, hp⟩, h⟩
    · obtain ⟨a, ha, hp⟩ := List.mem_flatMap.1 hp
      have haw := pcs_sub hn (hf i rfl) (hr a ha) hp hw
      have hc := ih.cls a ha w v haw hv
      have hk : kyF f v (i + 1) = kyF f w (i + 1) ↔ kyF f v i = kyF f w i ∧ tb (f i) v = tb (f i) w := by
        simp only [kyF]
        constructor
        · intro h
          obtain ⟨h1, h2⟩ := List.append_inj' h rfl
          exact ⟨h1, by simpa using h2⟩
        · rintro ⟨h1, h2⟩
          rw [h1, h2]
      rw [hk]
      rcases (pcs_mem hn (hf i rfl) (hr a ha) hp).2.2 with ⟨_, e⟩ | ⟨_, e⟩
      · rw [e w] at hw
        rw [e v, ← hc]
        simp only [Bool.and_eq_true] at hw ⊢
        rw [hw.2]
      · rw [e w] at hw
        rw [e v, ← hc]
        simp only [Bool.and_eq_true, Bool.not_eq_true'] at hw ⊢
        rw [hw.2]
/-- Unions of the first k atoms, al the program makes them. -/
def uniF (al : List Int) : Nat → List Int
  | 0 => [0]
  | k + 1 => uniF al k ++ (uniF al k).map fun x => bor x (al.getD k 0)
def UNI (n : Nat) (al : List Int) (k : Nat) (x : Int) : Prop := InM n x ∧ (∀ w, tb x w = true → ∃ j, j < k ∧ tb (al.getD j 0) w = true) ∧ ∀ j, j < k → (∀ w, tb (al.getD j 0) w = true → tb x w = true) ∨ (∀ w, tb (al.getD j 0) w = true → tb x w = false)
theorem getD_mem {al : List Int} {k : Nat} (h : k < al.length) : al.getD k 0 ∈ al := by
  rw [List.getD_eq_getElem?_getD, List.getElem?_eq_getElem h]
  exact List.getElem_mem h
theorem dis_at {al : List Int} (h : al.Pairwise fun a b => ∀ w, tb a w = true → tb b w = true → False) {j k w : Nat} (hj : j < al.length) (hk : k < al.length) (h1 : tb (al.getD j 0) w = true) (h2 : tb (al.getD k 0) w = true) : j = k := by
  rw [List.getD_eq_getElem?_getD, List.getElem?_eq_getElem hj] at h1
  rw [List.getD_eq_getElem?_getD, List.getElem?_eq_getElem hk] at h2
  have hp := List.pairwise_iff_getElem.1 h
  rcases Nat.lt_trichotomy j k with q | q | q
  · exact absurd (hp j k hj hk q w h1 h2) id
  · exact q
  · exact absurd (hp k j hk hj q w h2 h1) id
theorem uni_mem {n : Nat} {al : List Int} (hn : n ≤ 61) (hr : ∀ a ∈ al, InM n a ∧ ∃ w, tb a w = true) (hd : al.Pairwise fun a b => ∀ w, tb a w = true → tb b w = true → False) : ∀ k : Nat, k ≤ al.length → ∀ x, x ∈ uniF al k ↔ UNI n al k x
  | 0, _, x => by
    simp only [uniF, List.mem_singleton]
    constructor
    · intro e; subst e
      exact ⟨inM_zero n, fun w h => (by rw [tb_zero] at h; cases h), fun j hj => absurd hj (by omega)⟩
    · intro h
      refine tb_ext h.1.1 (Int.le_refl _) fun i => ?_
      rw [tb_zero]
      cases hb : tb x i with
      | false => rfl
      | true => obtain ⟨j, hj, _⟩ := h.2.1 i hb; omega
  | k + 1, hk, x => by
    have ih := uni_mem hn hr hd k (by omega)
    have hak := hr _ (getD_mem (al := al) (k := k) (by omega))
    have hdk : ∀ j w, j < k → tb (al.getD j 0) w = true → tb (al.getD k 0) w = false := fun j w hj h => by
      cases hb : tb (al.getD k 0) w with
      | false => rfl
      | true => have := dis_at hd (j := j) (k := k) (by omega) (by omega) h hb; omega
    simp only [uniF, List.mem_append, List.mem_map]
    constructor
    · rintro (h | ⟨y, hy, rfl⟩)
      · have h := (ih x).1 h
        refine ⟨h.1, fun w hw => ?_, fun j hj => ?_⟩
        · obtain ⟨j, hj, h2⟩ := h.2.1 w hw
          exact ⟨j, by omega, h2⟩
        · by_cases e : j = k
          · subst e
            refine .inr fun w hw => ?_
            cases hb : tb x w with
            | false => rfl
            | true =>
              obtain ⟨j', hj', h2⟩ := h.2.1 w hb
              rw [hdk j' w hj' h2] at hw
              cases hw
          · exact h.2.2 j (by omega)
      · have h := (ih y).1 hy
        refine ⟨inM_bor hn h.1 hak.1, fun w hw => ?_, fun j hj => ?_⟩
        · rw [tb_bor hn h.1 hak.1, Bool.or_eq_true] at hw
          rcases hw with hw | hw
          · obtain ⟨j, hj, h2⟩ := h.2.1 w hw
            exact ⟨j, by omega, h2⟩
          · exact ⟨k, by omega, hw⟩
        · by_cases e : j = k
          · subst e
            exact .inl fun w hw => by rw [tb_bor hn h.1 hak.1, hw, Bool.or_true]
          · rcases h.2.2 j (by omega) with h2 | h2
            · exact .inl fun w hw => by rw [tb_bor hn h.1 hak.1, h2 w hw, Bool.true_or]
            · exact .inr fun w hw => by rw [tb_bor hn h.1 hak.1, h2 w hw, hdk j w (by omega) hw]; rfl
    · intro h
      rcases h.2.2 k (by omega) with hin | hout
      · refine .inr ⟨bnot x (al.getD k 0), (ih _).2 ⟨inM_bnot hn h.1 hak.1, fun w hw => ?_, fun j hj => ?_⟩, ?_⟩
        · rw [tb_bnot hn h.1 hak.1, Bool.and_eq_true, Bool.not_eq_true'] at hw
          obtain ⟨j, hj, h2⟩ := h.2.1 w hw.1
          refine ⟨j, ?_, h2⟩
          have : j ≠ k := fun e => by rw [e, hw.2] at h2; cases h2
          omega
        · rcases h.2.2 j (by omega) with h2 | h2
          · exact .inl fun w hw => by rw [tb_bnot hn h.1 hak.1, h2 w hw, hdk j w hj hw]; rfl
          · exact .inr fun w hw => by rw [tb_bnot hn h.1 hak.1, h2 w hw]; rfl
        · refine tb_ext (inM_bor hn (inM_bnot hn h.1 hak.1) hak.1).1 h.1.1 fun i => ?_
          rw [tb_bor hn (inM_bnot hn h.1 hak.1) hak.1, tb_bnot hn h.1 hak.1]
          cases hb : tb (al.getD k 0) i with
          | false => simp
          | true => rw [hin i hb]; rfl
      · refine .inl ((ih x).2 ⟨h.1, fun w hw => ?_, fun j hj => h.2.2 j (by omega)⟩)
        obtain ⟨j, hj, h2⟩ := h.2.1 w hw
        refine ⟨j, ?_, h2⟩
        have : j ≠ k := fun e => by rw [e] at h2; rw [hout w h2] at hw; cases hw
        omega
theorem uni_nodup {n : Nat} {al : List Int} (hn : n ≤ 61) (hr : ∀ a ∈ al, InM n a ∧ ∃ w, tb a w = true) (hd : al.Pairwise fun a b => ∀ w, tb a w = true → tb b w = true → False) : ∀ k : Nat, k ≤ al.length → (uniF al k).Nodup
  | 0, _ => List.pairwise_singleton _ _
  | k + 1, hk => by
    have ih := uni_nodup hn hr hd k (by omega)
    have hm := uni_mem hn hr hd k (by omega)
    have hak := hr _ (getD_mem (al := al) (k := k) (by omega))
    have hoff : ∀ x ∈ uniF al k, ∀ w, tb (al.getD k 0) w = true → tb x w = false := fun x hx w hw => by
      cases hb : tb x w with
      | false => rfl
      | true =>
        obtain ⟨j, hj, h2⟩ := ((hm x).1 hx).2.1 w hb
        have := dis_at hd (j := j) (k := k) (by omega) (by omega) h2 hw
        omega
    refine List.nodup_append.2 ⟨ih, ?_, fun x hx y hy e => ?_⟩
    · refine List.pairwise_map.2 (ih.imp_of_mem fun {x y} hx hy hne e => hne ?_)
      have hx1 := ((hm x).1 hx).1
      have hy1 := ((hm y).1 hy).1
      refine tb_ext hx1.1 hy1.1 fun i => ?_
      have e2 := congrArg (fun z => tb z i) e
      simp only [tb_bor hn hx1 hak.1, tb_bor hn hy1 hak.1] at e2
      cases hb : tb (al.getD k 0) i with
      | false =>
        simp only [hb, Bool.or_false] at e2
        exact e2
      | true => rw [hoff x hx i hb, hoff y hy i hb]
    · obtain ⟨z, hz, rfl⟩ := List.mem_map.1 hy
      subst e
      obtain ⟨w, hw⟩ := hak.2
      have := hoff _ hx w hw
      rw [tb_bor hn ((hm z).1 hz).1 hak.1, hw, Bool.or_true] at this
      cases this
/-- The numbers below q for which a condition holds. -/
def numF (p : Nat → Bool) : Nat → List Int
  | 0 => []
  | q + 1 => numF p q ++ (if p q = true then [(q : Int)] else [])
theorem numF_mem (p : Nat → Bool) : ∀ (q : Nat) (x : Int), x ∈ numF p q ↔ 0 ≤ x ∧ x < q ∧ p x.toNat = true
  | 0, x => by simp [numF]; omega
  | q + 1, x => by
    rw [numF, List.mem_append, numF_mem p q x]
    by_cases h : p q = true
    · rw [if_pos h, List.mem_singleton]
      constructor
      · rintro (h1 | h1)
        · exact ⟨h1.1, by omega, h1.2.2⟩
        · subst h1; exact ⟨by omega, by omega, by simpa using h⟩
      · rintro ⟨h1, h2, h3⟩
        by_cases e : x = q
        · exact .inr e
        · exact .inl ⟨h1, by omega, h3⟩
    · rw [if_neg h]
      constructor
      · rintro (h1 | h1)
        · exact ⟨h1.1, by omega, h1.2.2⟩
        · exact absurd h1 (List.not_mem_nil)
      · rintro ⟨h1, h2, h3⟩
        refine .inl ⟨h1, ?_, h3⟩
        have : x ≠ q := fun e => h (by rw [e] at h3; simpa using h3)
        omega
theorem numF_asc (p : Nat → Bool) : ∀ q : Nat, (numF p q).Pairwise (· < ·)
  | 0 => List.Pairwise.nil
  | q + 1 => by
    rw [numF]
    refine List.pairwise_append.2 ⟨numF_asc p q, ?_, fun x hx y hy => ?_⟩
    · split
      · exact List.pairwise_singleton _ _
      · exact List.Pairwise.nil
    · have := ((numF_mem p q x).1 hx).2.1
      split at hy
      · have := List.mem_singleton.1 hy; omega
      · exact absurd hy (List.not_mem_nil)
/-- Worlds with the same text are both in the set, or none is. -/
def fitB (n : Nat) (f : Nat → Int) (i : Nat) (m : Nat) : Bool := (List.range n).all fun w => (List.range w).all fun v => decide (kyF f w i ≠ kyF f v i ∨ tb (m : Int) w = tb (m : Int) v)
theorem fitB_iff {n : Nat} {f : Nat → Int} {i m : Nat} : fitB n f i m = true ↔ ∀ w, w < n → ∀ v, v < n → kyF f w i = kyF f v i → tb (m : Int) w = tb (m : Int) v := by
  simp only [fitB, List.all_eq_true, List.mem_range, decide_eq_true_eq]
  constructor
  · intro h w hw v hv e
    rcases Nat.lt_trichotomy v w with q | q | q
    · rcases h w hw v q with h1 | h1
      · exact absurd e h1
      · exact h1
    · rw [q]
    · rcases h v hv w q with h1 | h1
      · exact absurd e.symm h1
      · exact h1.symm
  · intro h w hw v hv
    by_cases e : kyF f w i = kyF f v i
    · exact .inr (h w hw v (by omega) e)
    · exact .inl e
theorem uni_fit {n : Nat} {f : Nat → Int} {i : Nat} (hn : n ≤ 61) (hf : ∀ j, j < i → InM n (f j)) {x : Int} : UNI n (atmF n f i) (atmF n f i).length x ↔ InM n x ∧ fitB n f i x.toNat = true := by
  have hA := atm_ok hn i hf
  have hx : ∀ h : 0 ≤ x, ((x.toNat : Nat) : Int) = x := fun h => by omega
  constructor
  · intro h
    refine ⟨h.1, fitB_iff.2 fun w hw v hv e => ?_⟩
    rw [hx h.1.1]
    obtain ⟨a, ha, haw⟩ := hA.cov w hw
    have hav : tb a v = true := (hA.cls a ha w v haw hv).2 e.symm
    obtain ⟨j, hj, rfl⟩ := List.getElem_of_mem ha
    have e2 : (atmF n f i).getD j 0 = (atmF n f i)[j] := by rw [List.getD_eq_getElem?_getD, List.getElem?_eq_getElem hj]; rfl
    rcases h.2.2 j hj with h2 | h2 <;> (rw [e2] at h2; rw [h2 w haw, h2 v hav])
  · rintro ⟨h1, h2⟩
    have h2 := fitB_iff.1 h2
    rw [hx h1.1] at h2
    refine ⟨h1, fun w hw => ?_, fun j hj => ?_⟩
    · obtain ⟨a, ha, haw⟩ := hA.cov w (tb_lt h1 hw)
      obtain ⟨j, hj, rfl⟩ := List.getElem_of_mem ha
      exact ⟨j, hj, by rw [List.getD_eq_getElem?_getD, List.getElem?_eq_getElem hj]; exact haw⟩
    · have ha := getD_mem hj
      obtain ⟨h3, w0, hw0⟩ := hA.rng _ ha
      have key : ∀ w, tb ((atmF n f i).getD j 0) w = true → tb x w = tb x w0 := fun w hw => (h2 w (tb_lt h3 hw) w0 (tb_lt h3 hw0) ((hA.cls _ ha w0 w hw0 (tb_lt h3 hw)).1 hw))
      cases hb : tb x w0 with
      | true => exact .inl fun w hw => by rw [key w hw, hb]
      | false => exact .inr fun w hw => by rw [key w hw, hb]
/-- Both packages find the same sets. -/
theorem ds_eq {n : Nat} {f : Nat → Int} {i : Nat} (hn : n ≤ 61) (hf : ∀ j, j < i → InM n (f j)) : srtI (uniF (atmF n f i) (atmF n f i).length) = numF (fitB n f i) (2 ^ n) := by
  have hA := atm_ok hn i hf
  refine asc_eq (srt_asc (uni_nodup hn hA.rng hA.dis _ (Nat.le_refl _))) (numF_asc _ _) fun x => ?_
  rw [srt_mem, uni_mem hn hA.rng hA.dis _ (Nat.le_refl _), uni_fit hn hf, numF_mem]
  unfold InM
  constructor
  · rintro ⟨⟨h1, h2⟩, h3⟩
    exact ⟨h1, by omega, h3⟩
  · rintro ⟨h1, h2, h3⟩
    exact ⟨⟨h1, by omega⟩, h3⟩

end Go.Proofs.Ytpalghbfhgimkaa


/-! slices.Sort at rows of integers: where the library's functions lie in this program, and its contract. -/
namespace Go.Proofs.Ytpalghbfhgimkaa
open Go.RowKit Go.Abs

def srtR : Go.Shelf.Ren := { f := fun x => match x with | 5 => 69 | 8 => 91 | 7 => 90 | 19 => 114 | 20 => 115 | 10 => 105 | 11 => 106 | 12 => 107 | 13 => 108 | 14 => 109 | 15 => 110 | 16 => 111 | 17 => 112 | 18 => 113 | 30 => 119 | 31 => 120 | 32 => 121 | 33 => 122 | 34 => 123 | 35 => 124 | 40 => 125 | n => n, t := fun x => match x with | 23 => 22 | 25 => 2 | 3 => 3 | 32 => 82 | 22 => 22 | 0 => 0 | 44 => 126 | 46 => 55 | 4 => 4 | 36 => 119 | 35 => 118 | 41 => 123 | 5 => 5 | 9 => 9 | 53 => 129 | 57 => 133 | 63 => 135 | 64 => 136 | n => n, g := fun n => n }
theorem srtLay : SlLaysM.n5 Try.prog srtR where
  mixed := by decide +kernel
  f5 := ⟨Try.f69.name, by decide, Try.func69.trans (congrArg some (by kernel_rfl))⟩
  f7 := ⟨Try.f90.name, by decide, Try.func90.trans (congrArg some (by kernel_rfl))⟩
  f8 := Try.func91.trans (congrArg some (by kernel_rfl))
  f10 := ⟨Try.f105.name, by decide, Try.func105.trans (congrArg some (by kernel_rfl))⟩
  f11 := ⟨Try.f106.name, by decide, Try.func106.trans (congrArg some (by kernel_rfl))⟩
  f12 := ⟨Try.f107.name, by decide, Try.func107.trans (congrArg some (by kernel_rfl))⟩
  f13 := ⟨Try.f108.name, by decide, Try.func108.trans (congrArg some (by kernel_rfl))⟩
  f14 := ⟨Try.f109.name, by decide, Try.func109.trans (congrArg some (by kernel_rfl))⟩
  f15 := ⟨Try.f110.name, by decide, Try.func110.trans (congrArg some (by kernel_rfl))⟩
  f16 := ⟨Try.f111.name, by decide, Try.func111.trans (congrArg some (by kernel_rfl))⟩
  f17 := ⟨Try.f112.name, by decide, Try.func112.trans (congrArg some (by kernel_rfl))⟩
  f18 := ⟨Try.f113.name, by decide, Try.func113.trans (congrArg some (by kernel_rfl))⟩
  f19 := Try.func114.trans (congrArg some (by kernel_rfl))
  f20 := Try.func115.trans (congrArg some (by kernel_rfl))
  f30 := ⟨Try.f119.name, by decide, Try.func119.trans (congrArg some (by kernel_rfl))⟩
  f31 := Try.func120.trans (congrArg some (by kernel_rfl))
  f32 := Try.func121.trans (congrArg some (by kernel_rfl))
  f33 := ⟨Try.f122.name, by decide, Try.func122.trans (congrArg some (by kernel_rfl))⟩
  f34 := ⟨Try.f123.name, by decide, Try.func123.trans (congrArg some (by kernel_rfl))⟩
  f35 := ⟨Try.f124.name, by decide, Try.func124.trans (congrArg some (by kernel_rfl))⟩
  f40 := ⟨Try.f125.name, by decide, Try.func125.trans (congrArg some (by kernel_rfl))⟩
  t0 := Try.underlying0
  a0 := Try.isAgg0
  z0 := Try.sizeOf0
  v0 := Try.zeroValue0
  t3 := Try.underlying3
  a3 := Try.isAgg3
  z3 := Try.sizeOf3
  v3 := Try.zeroValue3
  t4 := Try.underlying4
  a4 := Try.isAgg4
  z4 := Try.sizeOf4
  v4 := Try.zeroValue4
  t5 := Try.underlying5
  a5 := Try.isAgg5
  z5 := Try.sizeOf5
  v5 := Try.zeroValue5
  t9 := Try.underlying9
  a9 := Try.isAgg9
  z9 := Try.sizeOf9
  v9 := Try.zeroValue9
  t22 := Try.underlying22
  a22 := Try.isAgg22
  z22 := Try.sizeOf22
  v22 := Try.zeroValue22
  t23 := Try.underlying22
  a23 := Try.isAgg22
  z23 := Try.sizeOf22
  v23 := Try.zeroValue22
  t25 := Try.underlying2
  a25 := Try.isAgg2
  z25 := Try.sizeOf2
  v25 := Try.zeroValue2
  t32 := Try.underlying82
  a32 := Try.isAgg82
  z32 := Try.sizeOf82
  v32 := Try.zeroValue82
  t35 := Try.underlying118
  a35 := Try.isAgg118
  z35 := Try.sizeOf118
  v35 := Try.zeroValue118
  t36 := Try.underlying119
  a36 := Try.isAgg119
  z36 := Try.sizeOf119
  v36 := Try.zeroValue119
  t41 := Try.underlying123
  a41 := Try.isAgg123
  z41 := Try.sizeOf123
  v41 := Try.zeroValue123
  t44 := Try.underlying126
  a44 := Try.isAgg126
  z44 := Try.sizeOf126
  v44 := Try.zeroValue126
  t46 := Try.underlying55
  a46 := Try.isAgg55
  z46 := Try.sizeOf55
  v46 := Try.zeroValue55
  t53 := Try.underlying129
  a53 := Try.isAgg129
  z53 := Try.sizeOf129
  v53 := Try.zeroValue129
  t57 := Try.underlying133
  a57 := Try.isAgg133
  z57 := Try.sizeOf133
  v57 := Try.zeroValue133
  t63 := Try.underlying135
  a63 := Try.isAgg135
  z63 := Try.sizeOf135
  v63 := Try.zeroValue135
  t64 := Try.underlying136
  a64 := Try.isAgg136
  z64 := Try.sizeOf136
  v64 := Try.zeroValue136

theorem sort_c (xs : List Int) (hl : xs.length ≤ 1000000000) : CallX Try.prog 69 [.ref 0] [rowA eI 2 1 xs] (fun (resX : AV) (objX : List AObj) => resX = .tup [] ∧ objX = [rowA eI 2 1 (srtI xs)]) := (CallS.sort srtLay (enters_of Try.func69 (by kernel_rfl) rfl) 2 xs hl).toX

end Go.Proofs.Ytpalghbfhgimkaa
