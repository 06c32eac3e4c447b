/- The machine's rules: boxes that are written no more. -/
import Derived.Test.YtfkdkhlimdkehaaGreatSymX
namespace Go.Abs
open Go.RowKit

mutual
/-- Object i, a box with the cells ds, is only read from now on. -/
def bxV (i : Nat) (ds : List AV) : AV → AV
  | .ptr j o => if j = i then .rptr (ds.drop o) else .ptr j o
  | .agg cs => .agg (bxL i ds cs)
  | .tup cs => .tup (bxL i ds cs)
  | .fn f cs => .fn f (bxL i ds cs)
  | .ref j => .ref j
  | .lst s n cs => .lst s n cs
  | .clp s n cs => .clp s n cs
  | .rptr cs => .rptr cs
  | .int k n => .int k n
  | .bool b => .bool b
  | .str s => .str s
  | .nil => .nil
  | .own e s n cs => .own e s n cs
  | .top => .top
def bxL (i : Nat) (ds : List AV) : List AV → List AV
  | [] => []
  | c :: cs => bxV i ds c :: bxL i ds cs
end

def AObj.bx (i : Nat) (ds : List AV) : AObj → AObj
  | .box t cs => .box t (bxL i ds cs)
  | .list e s n cs => .list e s n cs
  | .dead => .dead
  | .frame us cs => .frame us (bxL i ds cs)
  | .inert x => .inert x

theorem AObj.bx_alive (i : Nat) (ds : List AV) (o : AObj) : (o.bx i ds).alive = o.alive := by cases o <;> rfl

def bxS (i : Nat) (ds : List AV) (st : St) : St := ⟨bxL i ds st.fr, (st.hp.map (AObj.bx i ds)).set i .dead⟩

theorem RelL.dropN {w : World} {Z : Nat → Prop} {μ : List Value} : ∀ {cs : List AV} {vs : List Value} (k : Nat), RelL w Z μ cs vs → RelL w Z μ (cs.drop k) (vs.drop k)
  | cs, vs, 0, h => by simpa using h
  | [], vs, k + 1, h => by rw [RelL] at h; subst h; simpa using RelL.nil
  | c :: cs, vs, k + 1, h => by
    rw [RelL] at h
    obtain ⟨x, xs, rfl, _, h2⟩ := h
    simpa using RelL.dropN k h2

mutual
theorem Rel.bx {w : World} {Z Z' : Nat → Prop} {μ : List Value} (i : Nat) (ds : List AV) (g : Nat) (xs : List Value) (hz : ∀ b, b < w.heap.size → ¬ Z b → ¬ Z' b) (hu : μ[i]? = some (.pointer (some ⟨g, 0, none⟩))) (hg : ¬ Z' g)
    (hc : ∀ (j : Nat) x, xs[j]? = some x → w.cell? ⟨g, j, none⟩ = some x) (hr : RelL w Z' [] ds xs) : ∀ {c : AV} {v : Value}, Rel w Z μ c v → Rel w Z' μ (bxV i ds c) v
  | .int _ _, _, h => by simpa [Rel, bxV] using h
  | .bool _, _, h => by simpa [Rel, bxV] using h
  | .str _, _, h => by simpa [Rel, bxV] using h
  | .nil, _, h => by simpa [Rel, bxV] using h
  | .top, _, _ => by simp [Rel, bxV]
  | .own _ _ _ _, _, h => by simp [Rel] at h
  | .lst s n cs, v, h => Rel.weak (c := .lst s n cs) hz h
  | .clp s n cs, v, h => Rel.weak (c := .clp s n cs) hz h
  | .rptr cs, v, h => Rel.weak (c := .rptr cs) hz h
  | .ref j, v, h => by simpa [Rel, bxV] using h
  | .ptr j o, v, h => by
    simp only [bxV]
    split
    · rename_i hj
      simp only [Rel] at h ⊢
      obtain ⟨u, g', h1, h2, rfl⟩ := h
      rw [hj, hu] at h1
      cases h1
      simp only [blk, Option.some.injEq] at h2
      subst h2
      refine ⟨⟨g, o, none⟩, xs.drop o, rfl, fun _ => ⟨_, rfl, hg, fun j x hx => ?_⟩, hr.dropN o⟩
      rw [List.getElem?_drop] at hx
      rw [add_lit']
      exact hc _ _ hx
    · simpa [Rel] using h
  | .agg cs, v, h => by
    simp only [Rel, bxV] at h ⊢
    obtain ⟨ys, h1, h2⟩ := h
    exact ⟨ys, h1, RelL.bx i ds g xs hz hu hg hc hr h2⟩
  | .tup cs, v, h => by
    simp only [Rel, bxV] at h ⊢
    obtain ⟨ys, h1, h2⟩ := h
    exact ⟨ys, h1, RelL.bx i ds g xs hz hu hg hc hr h2⟩
  | .fn f cs, v, h => by
    simp only [Rel, bxV] at h ⊢
    obtain ⟨ys, h1, h2⟩ := h
    exact ⟨ys, h1, RelL.bx i ds g xs hz hu hg hc hr h2⟩
theorem RelL.bx {w : World} {Z Z' : Nat → Prop} {μ : List Value} (i : Nat) (ds : List AV) (g : Nat) (xs : List Value) (hz : ∀ b, b < w.heap.size → ¬ Z b → ¬ Z' b) (hu : μ[i]? = some (.pointer (some ⟨g, 0, none⟩))) (hg : ¬ Z' g)
    (hc : ∀ (j : Nat) x, xs[j]? = some x → w.cell? ⟨g, j, none⟩ = some x) (hr : RelL w Z' [] ds xs) : ∀ {cs : List AV} {vs : List Value}, RelL w Z μ cs vs → RelL w Z' μ (bxL i ds cs) vs
  | [], _, h => by simpa [RelL, bxL] using h
  | c :: cs, _, h => by
    simp only [RelL, bxL] at h ⊢
    obtain ⟨x, ys, h1, h2, h3⟩ := h
    exact ⟨x, ys, h1, Rel.bx i ds g xs hz hu hg hc hr h2, RelL.bx i ds g xs hz hu hg hc hr h3⟩
end

theorem Sub.bx (i t : Nat) (ds : List AV) (st : St) (hi : st.hp[i]? = some (.box t ds)) (hl : leafyL ds = true) : Sub st (bxS i ds st) := by
  rintro Z0 w0 a w ⟨μ, F, hFb, hH, hF, hd, hb⟩
  have hil : i < μ.length := by rw [hH.len]; exact (List.getElem?_eq_some_iff.1 hi).1
  obtain ⟨u, hu⟩ : ∃ u, μ[i]? = some u := ⟨_, List.getElem?_eq_getElem hil⟩
  have hO := hH.obj i _ u hi hu
  have hzn := fun g => hH.zone i _ u g hi rfl hu
  obtain ⟨g, xs, rfl, hB, hh, hx⟩ := hO
  have hz : ∀ b, b < w.heap.size → ¬ Zone Z0 F w0.heap.size b → ¬ Zone Z0 (fun b => F b ∨ b = g) w0.heap.size b := fun b _ h => zone_more b h
  have hg : ¬ Zone Z0 (fun b => F b ∨ b = g) w0.heap.size g := fun h => h.elim (fun h => by omega) (fun h => h.2 (.inr rfl))
  have hc : ∀ (j : Nat) x, xs[j]? = some x → w.cell? ⟨g, j, none⟩ = some x := fun j x hx => by
    rw [cell_of_row w _ j _ _ _ hh]; simpa using hx
  have hr : RelL w (Zone Z0 (fun b => F b ∨ b = g) w0.heap.size) [] ds xs := RelL.weak hz (RelL.leafy hl hx)
  refine ⟨μ, fun b => F b ∨ b = g, fun b h => h.elim (hFb b) (fun h => by subst h; exact ⟨hB, (Array.getElem?_eq_some_iff.1 hh).1⟩), ?_, RelL.bx i ds g xs hz hu hg hc hr hF, hd.keep (fun j x hj => ⟨?_, fun u hu => hu⟩), hb⟩
  rotate_left
  · have hne : i ≠ j := by
      rintro rfl
      rw [hi] at hj
      cases hj
    show ((st.hp.map (AObj.bx i ds)).set i .dead)[j]? = _
    rw [List.getElem?_set_ne hne, List.getElem?_map, hj]
    rfl
  have get : ∀ (j : Nat) o, ((st.hp.map (AObj.bx i ds)).set i .dead)[j]? = some o → o = .dead ∨ (j ≠ i ∧ ∃ o', st.hp[j]? = some o' ∧ o = o'.bx i ds) := by
    intro j o ho
    by_cases hj : j = i
    · subst hj
      rw [List.getElem?_set_self (by simpa using (List.getElem?_eq_some_iff.1 hi).1)] at ho
      simp at ho
      exact .inl ho.symm
    · rw [List.getElem?_set_ne (Ne.symm hj), List.getElem?_map, Option.map_eq_some_iff] at ho
      obtain ⟨o', h1, rfl⟩ := ho
      exact .inr ⟨hj, o', h1, rfl⟩
  refine ⟨by simp [bxS, hH.len], fun j o v g' h1 ha h2 hg' => ?_, hH.one, fun j o v h1 h2 => ?_, fun j k oj ok uj uk g' hne h1 h2 a1 a2 m1 m2 b1 b2 => ?_⟩
  · rcases get j o h1 with rfl | ⟨hj, o', ho, rfl⟩
    · cases ha
    · rw [AObj.bx_alive] at ha
      have h3 := hH.zone j o' v g' ho ha h2 hg'
      exact h3.elim .inl (fun h => .inr ⟨h.1, fun hf => hf.elim h.2 (fun h4 => hH.sep i j _ o' _ v g' (Ne.symm hj) hi ho rfl ha hu h2 (by rw [h4]; rfl) hg')⟩)
  · rcases get j o h1 with rfl | ⟨hj, o', ho, rfl⟩
    · trivial
    · have hO := hH.obj j o' v ho h2
      cases o' with
      | box t es => obtain ⟨g', ys, e1, e2, e3, e4⟩ := hO; exact ⟨g', ys, e1, e2, e3, RelL.bx i ds g xs hz hu hg hc hr e4⟩
      | list e s n es => obtain ⟨ys, e1, e2⟩ := hO; exact ⟨ys, e1, e2.weak hz⟩
      | dead => trivial
      | frame us es => exact RelL.bx i ds g xs hz hu hg hc hr hO
      | inert x => exact InertRel.keep (fun b h1 h2 => ⟨rfl, hz b h1 h2⟩) hO
  · rcases get j oj h1 with rfl | ⟨hj, o1, ho1, rfl⟩
    · cases a1
    · rcases get k ok h2 with rfl | ⟨hk, o2, ho2, rfl⟩
      · cases a2
      · rw [AObj.bx_alive] at a1 a2
        exact hH.sep j k o1 o2 uj uk g' hne ho1 ho2 a1 a2 m1 m2 b1 b2

def bxM (i : Nat) (m : M) : M :=
  match m.st.hp[i]? with
  | some (.box _ ds) => if leafyL ds then ⟨m.ks, bxS i ds m.st⟩ else m
  | _ => m

theorem R.bx {rd : Option Nat} {P : Program} {m : M} {Q : Exit → St → Prop} (i : Nat) (h : subOk m = true) (h' : Runs rd P (bxM i m) Q) : Runs rd P m Q := by
  unfold bxM at h'
  split at h'
  · rename_i t ds hi
    split at h'
    · exact R.sub _ h (Sub.bx i t ds m.st hi (by assumption)) h'
    · exact h'
  · exact h'

/-! ### The record of a function's loop over a function -/
def rfOf : Code → Option (Array Tmp × Code × Code)
  | .rangeFunc _ ps as bd => some (ps, as, bd)
  | .seq x y => match rfOf x with
    | some r => some r
    | none => rfOf y
  | .cond _ x y => match rfOf x with
    | some r => some r
    | none => rfOf y
  | .block _ c => rfOf c
  | .loop c => rfOf c
  | .scope c => rfOf c
  | _ => none

def loopObj (fn : Func) (D : Nat) (us : List Value) (s : LSt) : AObj :=
  match fn.body with
  | some c => match rfOf c with
    | some (ps, as, bd) => .inert (.lrec D s us ps as bd)
    | none => .dead
  | none => .dead

end Go.Abs
