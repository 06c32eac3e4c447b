/- States told less of; results; a function's contract from its body. -/
import Derived.Test.YtfkdkhlimdkehaaGreatSymG
import Derived.RangeFuncKeeps
import Derived.RangeFuncLeaves
namespace Go.Abs
open Go.RowKit

/-! ### Slots that are forgotten -/
def keepFrom (ks : List Nat) : Nat → List AV → List AV
  | _, [] => []
  | k, c :: cs => (if ks.contains k then c else .top) :: keepFrom ks (k + 1) cs

def keepF (ks : List Nat) (fr : List AV) : List AV := keepFrom ks 0 fr

theorem keepFrom_rel {w : World} {Z : Nat → Prop} {μ : List Value} (ks : List Nat) : ∀ (k : Nat) {cs : List AV} {vs : List Value}, RelL w Z μ cs vs → RelL w Z μ (keepFrom ks k cs) vs
  | _, [], _, h => by simpa [keepFrom] using h
  | k, c :: cs, _, h => by
    rw [RelL] at h
    obtain ⟨x, xs, rfl, h1, h2⟩ := h
    refine RelL.cons ?_ (keepFrom_rel ks (k + 1) h2)
    split
    · exact h1
    · simp [Rel]

theorem Sub.keep (ks : List Nat) (st : St) : Sub st ⟨keepF ks st.fr, st.hp⟩ := fun _ _ _ _ ⟨μ, F, hFb, hH, hF, hd, hb⟩ => ⟨μ, F, hFb, hH, keepFrom_rel ks 0 hF, hd, hb⟩

/-! ### Objects that are left out, the others numbered anew -/
mutual
def AV.ren (js : List Nat) : AV → AV
  | .ref i => if js.contains i then .ref (js.idxOf i) else .top
  | .ptr i o => if js.contains i then .ptr (js.idxOf i) o else .top
  | .agg cs => .agg (renL js cs)
  | .tup cs => .tup (renL js cs)
  | .fn f cs => .fn f (renL js cs)
  | .int k n => .int k n
  | .bool b => .bool b
  | .str s => .str s
  | .nil => .nil
  | .lst s n cs => .lst s n cs
  | .clp s n cs => .clp s n cs
  | .rptr cs => .rptr cs
  | .own e s n cs => .own e s n cs
  | .top => .top
def renL (js : List Nat) : List AV → List AV
  | [] => []
  | c :: cs => c.ren js :: renL js cs
end

def AObj.ren (js : List Nat) : AObj → AObj
  | .box t cs => .box t (renL js cs)
  | .list e s n cs => .list e s n cs
  | .dead => .dead
  | .frame us cs => .frame us (renL js cs)
  | .inert x => .inert x

def renS (js : List Nat) (st : St) : St := ⟨renL js st.fr, js.map fun i => (st.hp.getD i .dead).ren js⟩

theorem ren_get {μ : List Value} {js : List Nat} {i : Nat} {u : Value} (h : μ[i]? = some u) (hc : js.contains i = true) : (js.map fun i => μ.getD i (.bool false))[js.idxOf i]? = some u := by
  have hm : i ∈ js := by simpa using hc
  have hlt := List.idxOf_lt_length_iff.2 hm
  rw [List.getElem?_map, List.getElem?_eq_getElem hlt]
  simp [List.getD_eq_getElem?_getD, h]

mutual
theorem Rel.ren {w : World} {Z : Nat → Prop} {μ : List Value} (js : List Nat) : ∀ {c : AV} {v : Value}, Rel w Z μ c v → Rel w Z (js.map fun i => μ.getD i (.bool false)) (c.ren js) v
  | .int _ _, _, h => by simpa [Rel, AV.ren] using h
  | .bool _, _, h => by simpa [Rel, AV.ren] using h
  | .str _, _, h => by simpa [Rel, AV.ren] using h
  | .nil, _, h => by simpa [Rel, AV.ren] using h
  | .top, _, _ => by simp [Rel, AV.ren]
  | .own _ _ _ _, _, h => by simp [Rel] at h
  | .lst _ _ _, _, h => by simpa [Rel, AV.ren] using h
  | .clp _ _ _, _, h => by simpa [Rel, AV.ren] using h
  | .rptr _, _, h => by simpa [Rel, AV.ren] using h
  | .ref i, v, h => by
    simp only [AV.ren]
    split
    · rename_i hc
      simp only [Rel] at h ⊢
      exact ren_get h hc
    · simp [Rel]
  | .ptr i o, v, h => by
    simp only [AV.ren]
    split
    · rename_i hc
      simp only [Rel] at h ⊢
      obtain ⟨u, g, h1, h2, h3⟩ := h
      exact ⟨u, g, ren_get h1 hc, h2, h3⟩
    · simp [Rel]
  | .agg cs, v, h => by
    simp only [Rel, AV.ren] at h ⊢
    obtain ⟨xs, h1, h2⟩ := h
    exact ⟨xs, h1, RelL.ren js h2⟩
  | .tup cs, v, h => by
    simp only [Rel, AV.ren] at h ⊢
    obtain ⟨xs, h1, h2⟩ := h
    exact ⟨xs, h1, RelL.ren js h2⟩
  | .fn f cs, v, h => by
    simp only [Rel, AV.ren] at h ⊢
    obtain ⟨xs, h1, h2⟩ := h
    exact ⟨xs, h1, RelL.ren js h2⟩
theorem RelL.ren {w : World} {Z : Nat → Prop} {μ : List Value} (js : List Nat) : ∀ {cs : List AV} {vs : List Value}, RelL w Z μ cs vs → RelL w Z (js.map fun i => μ.getD i (.bool false)) (renL js cs) vs
  | [], _, h => by simpa [RelL, renL] using h
  | c :: cs, _, h => by
    simp only [RelL, renL] at h ⊢
    obtain ⟨x, xs, h1, h2, h3⟩ := h
    exact ⟨x, xs, h1, Rel.ren js h2, RelL.ren js h3⟩
end

theorem AObj.ren_alive (js : List Nat) (o : AObj) : (o.ren js).alive = o.alive := by cases o <;> rfl

theorem HRel.ren {w : World} {Z : Nat → Prop} {B : Nat} {μ : List Value} {hp : List AObj} (h : HRel w Z B μ hp) (js : List Nat) (hn : js.Nodup) :
    HRel w Z B (js.map fun i => μ.getD i (.bool false)) (js.map fun i => (hp.getD i .dead).ren js) := by
  have get : ∀ (j : Nat) o u, (js.map fun i => (hp.getD i .dead).ren js)[j]? = some o → (js.map fun i => μ.getD i (.bool false))[j]? = some u → ∃ i, js[j]? = some i ∧ o = (hp.getD i .dead).ren js ∧ u = μ.getD i (.bool false) := by
    intro j o u h1 h2
    rw [List.getElem?_map, Option.map_eq_some_iff] at h1 h2
    obtain ⟨i, hi, rfl⟩ := h1
    obtain ⟨i', hi', rfl⟩ := h2
    rw [hi] at hi'
    simp only [Option.some.injEq] at hi'
    subst hi'
    exact ⟨i, hi, rfl, rfl⟩
  have alive : ∀ i, (hp.getD i .dead).alive = true → hp[i]? = some (hp.getD i .dead) ∧ μ[i]? = some (μ.getD i (.bool false)) := by
    intro i ha
    rcases Nat.lt_or_ge i hp.length with hi | hi
    · have hi2 : i < μ.length := by rw [h.len]; exact hi
      simp [List.getD_eq_getElem?_getD, List.getElem?_eq_getElem hi, List.getElem?_eq_getElem hi2]
    · simp [List.getD_eq_getElem?_getD, List.getElem?_eq_none hi, AObj.alive] at ha
  refine ⟨by simp, fun j o u g h1 ha h2 hg => ?_, fun j u hu => ?_, fun j o u h1 h2 => ?_, fun j k oj ok uj uk g hne h1 h2 a1 a2 m1 m2 b1 b2 => ?_⟩
  · obtain ⟨i, hi, rfl, rfl⟩ := get j o u h1 h2
    rw [AObj.ren_alive] at ha
    obtain ⟨e1, e2⟩ := alive i ha
    exact h.zone i _ _ g e1 ha e2 hg
  · rw [List.getElem?_map, Option.map_eq_some_iff] at hu
    obtain ⟨i, hi, rfl⟩ := hu
    cases hm : μ[i]? with
    | none => simp [List.getD_eq_getElem?_getD, hm, Value.oneCell']
    | some x => simpa [List.getD_eq_getElem?_getD, hm] using h.one i x hm
  · obtain ⟨i, hi, rfl, rfl⟩ := get j o u h1 h2
    cases ha : (hp.getD i .dead).alive with
    | false =>
      cases ho : hp.getD i .dead with
      | dead => trivial
      | box t cs => rw [ho] at ha; cases ha
      | list e s n cs => rw [ho] at ha; cases ha
      | inert x => rw [ho] at ha; cases ha
      | frame us cs =>
        have hi1 : hp[i]? = some (.frame us cs) := by
          cases hx : hp[i]? with
          | none => simp [List.getD_eq_getElem?_getD, hx] at ho
          | some o => simp [List.getD_eq_getElem?_getD, hx] at ho; rw [ho]
        have hi2 : i < μ.length := by rw [h.len]; exact (List.getElem?_eq_some_iff.1 hi1).1
        exact RelL.ren js (h.obj i _ _ hi1 (List.getElem?_eq_getElem hi2))
    | true =>
      obtain ⟨e1, e2⟩ := alive i ha
      have hO := h.obj i _ _ e1 e2
      cases ho : hp.getD i .dead with
      | dead => trivial
      | box t cs =>
        rw [ho] at hO
        obtain ⟨g, xs, hu, hB, hh, hr⟩ := hO
        exact ⟨g, xs, hu, hB, hh, hr.ren js⟩
      | list e s n cs =>
        rw [ho] at hO
        obtain ⟨xs, hown, hr⟩ := hO
        exact ⟨xs, hown, hr⟩
      | frame us cs =>
        rw [ho] at hO
        exact RelL.ren js hO
      | inert x =>
        rw [ho] at hO
        exact hO
  · obtain ⟨i, hi, rfl, rfl⟩ := get j oj uj h1 m1
    obtain ⟨i', hi', rfl, rfl⟩ := get k ok uk h2 m2
    rw [AObj.ren_alive] at a1 a2
    obtain ⟨e1, e2⟩ := alive i a1
    obtain ⟨e3, e4⟩ := alive i' a2
    refine h.sep i i' _ _ _ _ g (fun e => hne ?_) e1 e3 a1 a2 e2 e4 b1 b2
    subst e
    have hj := (List.getElem?_eq_some_iff.1 hi)
    have hk := (List.getElem?_eq_some_iff.1 hi')
    exact (List.getElem_inj hn).1 (hj.2.trans hk.2.symm)

theorem Sub.ren (js : List Nat) (st : St) (hn : js.Nodup) (hm : noMark st.hp = true) : Sub st (renS js st) := fun _ _ _ _ ⟨_, F, hFb, hH, hF, hd, hb⟩ => ⟨_, F, hFb, hH.ren js hn, hF.ren js, .inl (hd.none hm), hb⟩

/-! ### The nil slice as an owned one -/
theorem Sub.nilRef (t el s : Nat) (st : St) (h : st.fr.getD t .top = .nil) : Sub st ⟨st.fr.set t (.ref st.hp.length), st.hp ++ [.list el s 0 []]⟩ := by
  rintro Z0 w0 a w ⟨μ, F, hFb, hH, hF, hd, hb⟩
  have hbel : Below w.heap.size w w := Below.refl _ _
  have hF' := hF.keep (w' := w) (fun _ _ _ => rfl) (fun i u hu => append_old (μs := [.slice none 0 0]) i u hu)
  refine ⟨μ ++ [.slice none 0 0], F, hFb, hH.extend1 (zone_new hb.size hFb) hbel ⟨[], World.ownsRow_nil _ _ _ _, RelL.nil⟩ (fun g hg => by simp [blk] at hg) rfl, ?_, hd.app, hb⟩
  rcases Nat.lt_or_ge t st.fr.length with ht | ht
  · have e1 : st.fr[t]? = some .nil := by
      rw [List.getElem?_eq_getElem ht]
      simpa [List.getD_eq_getElem?_getD, List.getElem?_eq_getElem ht] using h
    obtain ⟨x, hx, hr⟩ := hF'.get e1
    have hr2 : Rel w (Zone Z0 F w0.heap.size) (μ ++ [.slice none 0 0]) (.ref st.hp.length) x := by
      simp only [Rel] at hr ⊢
      subst hr
      rw [← hH.len]
      simp
    have := hF'.set t hr2
    have e2 : a.tmps.toList.set t x = a.tmps.toList := by
      apply List.ext_getElem?
      intro j
      by_cases hj : j = t
      · subst hj
        rw [List.getElem?_set_self (List.getElem?_eq_some_iff.1 hx).1, hx]
      · rw [List.getElem?_set_ne (Ne.symm hj)]
    rwa [e2] at this
  · rw [List.set_eq_of_length_le ht]
    exact hF'

/-! ### Results -/
inductive ResV (P : Program) (st : St) : ResultVar → AV → Prop
  | tmp {t} : ResV P st (.tmp t) (st.fr.getD t .top)
  | cell1 {p ty v} (i o : Nat) (ob : AObj) (hp : st.fr.getD p .top = .ptr i o) (hi : st.hp[i]? = some ob) (ht : aggB P ty = some false) (hv : ob.cells[o]? = some v) : ResV P st (.cell p ty) v
  | cellN {p ty} (i o k : Nat) (ob : AObj) (hp : st.fr.getD p .top = .ptr i o) (hi : st.hp[i]? = some ob) (ht : aggB P ty = some true) (hk : sizeB P ty = some k) (hl : o + k ≤ ob.cells.length) : ResV P st (.cell p ty) (.agg ((ob.cells.drop o).take k))

inductive ResVs (P : Program) (st : St) : List ResultVar → List AV → Prop
  | nil : ResVs P st [] []
  | cons {r rs v vs} (h : ResV P st r v) (h' : ResVs P st rs vs) : ResVs P st (r :: rs) (v :: vs)

def oneOf : List AV → AV
  | [v] => v
  | vs => .tup vs

mutual
/-- A result as it is handed back: its own slices laid open. -/
def expA (hp : List AObj) : AV → AV
  | .ref i => match hp[i]? with | some (.list e s n cs) => .own e s n cs | _ => .top
  | .agg cs => .agg (expAL hp cs)
  | .tup cs => .tup (expAL hp cs)
  | .int k n => .int k n
  | .bool b => .bool b
  | .str s => .str s
  | .nil => .nil
  | .lst s n cs => .lst s n cs
  | .clp s n cs => .clp s n cs
  | .rptr cs => .rptr cs
  | .own _ _ _ _ => .top
  | .ptr _ _ => .top
  | .fn f cs => if leafyL cs then .fn f cs else .top
  | .top => .top
def expAL (hp : List AObj) : List AV → List AV
  | [] => []
  | c :: cs => expA hp c :: expAL hp cs
end

mutual
/-- Its objects. -/
def idsA : AV → List Nat
  | .ref i => [i]
  | .agg cs => idsAL cs
  | .tup cs => idsAL cs
  | _ => []
def idsAL : List AV → List Nat
  | [] => []
  | c :: cs => idsA c ++ idsAL cs
end

def isRow : AObj → Bool
  | .list .. => true
  | _ => false

mutual
theorem expA_sound {w : World} {Z : Nat → Prop} {B : Nat} {μ : List Value} {hp : List AObj} (hH : HRel w Z B μ hp) : ∀ {c : AV} {v : Value}, (∀ i ∈ idsA c, (hp[i]?.any isRow) = true) → Rel w Z μ c v →
    RF w Z B (expA hp c) v ((idsA c).filterMap fun i => (μ[i]?).bind blk)
  | .ref i, v, hi, hr => by
    simp only [Rel] at hr
    have h1 := hi i (by simp [idsA])
    simp only [expA, idsA]
    cases ho : hp[i]? with
    | none => rw [ho] at h1; simp at h1
    | some o =>
      rw [ho] at h1
      cases o <;> simp [isRow] at h1
      rename_i e s n cs
      obtain ⟨xs, hown, hx⟩ := hH.obj i _ v ho hr
      simp only [RF]
      refine ⟨xs, hown, hx, ?_⟩
      cases hb : blk v with
      | none => rw [List.filterMap_cons_none (by simp [hr, hb])]; rfl
      | some g => rw [List.filterMap_cons_some (b := g) (by simp [hr, hb])]; rfl
  | .agg cs, v, hi, hr => by
    simp only [Rel] at hr
    obtain ⟨xs, h1, hx⟩ := hr
    simp only [expA, idsA, RF]
    exact ⟨xs, h1, expAL_sound hH hi hx⟩
  | .tup cs, v, hi, hr => by
    simp only [Rel] at hr
    obtain ⟨xs, h1, hx⟩ := hr
    simp only [expA, idsA, RF]
    exact ⟨xs, h1, expAL_sound hH hi hx⟩
  | .int _ _, v, _, hr => by simpa [expA, idsA, RF, Rel] using hr
  | .bool _, v, _, hr => by simpa [expA, idsA, RF, Rel] using hr
  | .str _, v, _, hr => by simpa [expA, idsA, RF, Rel] using hr
  | .nil, v, _, hr => by simpa [expA, idsA, RF, Rel] using hr
  | .lst _ _ _, v, _, hr => by simp only [expA, idsA, RF, List.filterMap_nil]; exact ⟨by simpa [Rel] using hr, trivial⟩
  | .clp _ _ _, v, _, hr => by simp only [expA, idsA, RF, List.filterMap_nil]; exact ⟨by simpa [Rel] using hr, trivial⟩
  | .rptr _, v, _, hr => by simp only [expA, idsA, RF, List.filterMap_nil]; exact ⟨by simpa [Rel] using hr, trivial⟩
  | .own _ _ _ _, v, _, hr => by simp [Rel] at hr
  | .ptr _ _, v, _, hr => by simp [expA, idsA, RF]
  | .fn f cs, v, _, hr => by
    simp only [expA, idsA]
    split
    · rename_i hl
      simp only [RF, List.filterMap_nil]
      exact ⟨Rel.leafy (by simpa [AV.leafy] using hl) hr, trivial⟩
    · simp [RF]
  | .top, v, _, hr => by simp [expA, idsA, RF]
theorem expAL_sound {w : World} {Z : Nat → Prop} {B : Nat} {μ : List Value} {hp : List AObj} (hH : HRel w Z B μ hp) : ∀ {cs : List AV} {vs : List Value}, (∀ i ∈ idsAL cs, (hp[i]?.any isRow) = true) → RelL w Z μ cs vs →
    RFL w Z B (expAL hp cs) vs ((idsAL cs).filterMap fun i => (μ[i]?).bind blk)
  | [], vs, _, hr => by simpa [expAL, idsAL, RFL, RelL] using hr
  | c :: cs, vs, hi, hr => by
    rw [RelL] at hr
    obtain ⟨x, xs, rfl, h1, h2⟩ := hr
    simp only [expAL, idsAL, RFL]
    exact ⟨x, xs, _, _, rfl, expA_sound hH (fun i h => hi i (by simp [idsAL, h])) h1, expAL_sound hH (fun i h => hi i (by simp [idsAL, h])) h2, by rw [List.filterMap_append]⟩
end

theorem ids_nodup {w : World} {Z : Nat → Prop} {B : Nat} {μ : List Value} {hp : List AObj} (hH : HRel w Z B μ hp) : ∀ {ids : List Nat}, ids.Nodup → (∀ i ∈ ids, ∃ o, hp[i]? = some o ∧ o.alive = true) → (ids.filterMap fun i => (μ[i]?).bind blk).Nodup
  | [], _, _ => by simp
  | i :: ids, hn, ha => by
    have hn' := List.nodup_cons.1 hn
    have ih := ids_nodup hH hn'.2 (fun j hj => ha j (List.mem_cons_of_mem _ hj))
    cases hb : (μ[i]?).bind blk with
    | none => rw [List.filterMap_cons_none (f := fun i => (μ[i]?).bind blk) hb]; exact ih
    | some g =>
      rw [List.filterMap_cons_some (f := fun i => (μ[i]?).bind blk) hb]
      refine List.nodup_cons.2 ⟨fun hm => ?_, ih⟩
      obtain ⟨j, hj, hg⟩ := List.mem_filterMap.1 hm
      obtain ⟨oi, h1, h2⟩ := ha i (List.mem_cons_self ..)
      obtain ⟨oj, h3, h4⟩ := ha j (List.mem_cons_of_mem _ hj)
      rw [Option.bind_eq_some_iff] at hb hg
      obtain ⟨ui, e1, e2⟩ := hb
      obtain ⟨uj, e3, e4⟩ := hg
      exact hH.sep i j oi oj ui uj g (fun e => hn'.1 (by rw [e]; exact hj)) h1 h3 h2 h4 e1 e3 e2 e4

/-- A result variable's value. -/
def resV (P : Program) (st : St) : ResultVar → Option AV
  | .tmp t => some (st.fr.getD t .top)
  | .cell p ty =>
    match st.fr.getD p .top with
    | .ptr i o =>
      match st.hp[i]?, aggB P ty, sizeB P ty with
      | some ob, some false, _ => ob.cells[o]?
      | some ob, some true, some k => if o + k ≤ ob.cells.length then some (.agg ((ob.cells.drop o).take k)) else none
      | _, _, _ => none
    | _ => none

def resVs (P : Program) (st : St) : List ResultVar → Option (List AV)
  | [] => some []
  | r :: rs => match resV P st r, resVs P st rs with | some v, some vs => some (v :: vs) | _, _ => none

theorem resV_sound {P : Program} {st : St} {r : ResultVar} {v : AV} (h : resV P st r = some v) : ResV P st r v := by
  unfold resV at h
  split at h
  · cases h; exact .tmp
  · split at h
    · rename_i i o hp
      split at h
      · rename_i ob hi ht; exact .cell1 i o ob hp hi ht h
      · rename_i ob k hi ht hk
        split at h
        · cases h; exact .cellN i o k ob hp hi ht hk (by assumption)
        · cases h
      · cases h
    · cases h

theorem resVs_sound {P : Program} {st : St} : ∀ {rs : List ResultVar} {vs : List AV}, resVs P st rs = some vs → ResVs P st rs vs
  | [], vs, h => by simp only [resVs, Option.some.injEq] at h; subst h; exact .nil
  | r :: rs, vs, h => by
    simp only [resVs] at h
    split at h
    · rename_i v vs' h1 h2
      cases h
      exact .cons (resV_sound h1) (resVs_sound h2)
    · cases h

/-- The result of a function at the end of its run, if it can be handed back. -/
def resOf0 (P : Program) (fn : Func) (st : St) : Option AV :=
  match resVs P st fn.results.toList with
  | some vs =>
    match oneOf vs with
    | v => if decide (idsA v).Nodup && (idsA v).all (fun i => st.hp[i]?.any isRow) then some (expA st.hp v) else none
  | none => none

def isInert : AObj → Bool
  | .inert _ => true
  | _ => false
/-- At most one object holds no cells. -/
def oneInert : List AObj → Bool
  | [] => true
  | o :: hp => if isInert o then hp.all fun o => !isInert o else oneInert hp

def resOf (P : Program) (fn : Func) (st : St) : Option AV := if oneInert st.hp then resOf0 P fn st else none

theorem resOf_parts {P : Program} {fn : Func} {st : St} {res : AV} (h : resOf P fn st = some res) : resOf0 P fn st = some res ∧ oneInert st.hp = true := by
  unfold resOf at h
  split at h
  · exact ⟨h, by assumption⟩
  · cases h

/-- How a function hands back the result res. -/
def Returns (P : Program) (fn : Func) (st : St) (res : AV) : Prop := resOf P fn st = some res

theorem resV_run {P : Program} {w : World} {Z : Nat → Prop} {B : Nat} {μ : List Value} {st : St} {a : Act} (hH : HRel w Z B μ st.hp) (hF : RelL w Z μ st.fr a.tmps.toList) {r : ResultVar} {v : AV} (h : ResV P st r v) :
    ∃ x, (match r with | .tmp t => pure (a.tmps.getD t undef) | .cell p t => do loadVar t (← asAddr (a.tmps.getD p undef)) : Sem Value).run P w = .ok x w ∧ Rel w Z μ v x := by
  have hget : ∀ t, Rel w Z μ (st.fr.getD t .top) (a.tmps.getD t undef) := fun t => ev_rel hF (.tmp t)
  cases h with
  | tmp =>
    rename_i t
    exact ⟨_, rfl, hget t⟩
  | cell1 i o ob hp hi ht hv =>
    rename_i p ty
    have h1 := hp ▸ hget p
    simp only [Rel] at h1
    obtain ⟨u, g, hu, hg, h2⟩ := h1
    obtain ⟨y, hy, hry⟩ := obj_cell (hH.obj i ob u hi hu) hg hv
    exact ⟨y, by simp only [h2, asAddr, Sem.run_bind, Sem.run_pure, Result.andThen_ok, run_loadVar1 ht hy], hry⟩
  | cellN i o k ob hp hi ht hk hl =>
    rename_i p ty
    have h1 := hp ▸ hget p
    simp only [Rel] at h1
    obtain ⟨u, g, hu, hg, h2⟩ := h1
    obtain ⟨xs, hr, hc⟩ := obj_cells (hH.obj i ob u hi hu)
    have hlen := hr.length
    have hrun := run_loadVarN (P := P) (w := w) (a := ⟨g, o, none⟩) (xs := (xs.drop o).take k) ht hk (by simp; omega) (fun j v hv => by
      rw [add_lit']
      refine hc g hg (o + j) v ?_
      rw [List.getElem?_take] at hv
      split at hv
      · rwa [List.getElem?_drop] at hv
      · cases hv)
    refine ⟨_, by simp only [h2, asAddr, Sem.run_bind, Sem.run_pure, Result.andThen_ok, hrun]; rfl, ?_⟩
    simp only [Rel]
    exact ⟨_, rfl, (hr.drop _).take _⟩

theorem resVs_run {P : Program} {w : World} {Z : Nat → Prop} {B : Nat} {μ : List Value} {st : St} {a : Act} (hH : HRel w Z B μ st.hp) (hF : RelL w Z μ st.fr a.tmps.toList) : ∀ {rs : List ResultVar} {vs : List AV}, ResVs P st rs vs →
    ∃ xs, (rs.mapM fun r => (match r with | .tmp t => pure (a.tmps.getD t undef) | .cell p t => do loadVar t (← asAddr (a.tmps.getD p undef)) : Sem Value)).run P w = .ok xs w ∧ RelL w Z μ vs xs
  | _, _, .nil => ⟨[], rfl, RelL.nil⟩
  | _, _, .cons h h' => by
    obtain ⟨x, h1, h2⟩ := resV_run hH hF h
    obtain ⟨xs, h3, h4⟩ := resVs_run hH hF h'
    exact ⟨x :: xs, by simp only [List.mapM_cons, Sem.run_bind, h1, Result.andThen_ok, h3, Sem.run_pure], RelL.cons h2 h4⟩

theorem results_run {P : Program} {fn : Func} {w : World} {Z : Nat → Prop} {B : Nat} {μ : List Value} {st : St} {a : Act} (hH : HRel w Z B μ st.hp) (hF : RelL w Z μ st.fr a.tmps.toList) {vs : List AV} (h : ResVs P st fn.results.toList vs) :
    ∃ x, (results fn a.tmps).run P w = .ok x w ∧ Rel w Z μ (oneOf vs) x := by
  obtain ⟨xs, h1, h2⟩ := resVs_run hH hF h
  have hl := h2.length
  refine ⟨if h : xs.toArray.size = 1 then xs.toArray[0] else .tuple xs.toArray, ?_, ?_⟩
  · have h3 : (fn.results.mapM fun r => (match r with | .tmp t => pure (a.tmps.getD t undef) | .cell p t => do loadVar t (← asAddr (a.tmps.getD p undef)) : Sem Value)).run P w = .ok xs.toArray w := by
      rw [Array.mapM_eq_mapM_toList, Sem.run_map, h1]
      rfl
    show (Sem.bind (fn.results.mapM fun r => (match r with | .tmp t => pure (a.tmps.getD t undef) | .cell p t => do loadVar t (← asAddr (a.tmps.getD p undef)) : Sem Value)) _).run P w = _
    rw [Sem.run_bind', h3]
    rfl
  · match vs, xs, h2, hl with
    | [], xs, h2, hl =>
      rw [RelL] at h2
      subst h2
      simp [oneOf, Rel, RelL]
    | [v], [x], h2, _ =>
      rw [RelL] at h2
      obtain ⟨y, ys, e, h3, _⟩ := h2
      simp only [List.cons.injEq] at e
      obtain ⟨rfl, rfl⟩ := e
      simpa [oneOf] using h3
    | v :: v' :: vs, x :: x' :: xs, h2, _ =>
      simp only [oneOf, Rel]
      exact ⟨x :: x' :: xs, by simp, h2⟩

theorem resOf_run {P : Program} {fn : Func} {w : World} {Z : Nat → Prop} {B : Nat} {μ : List Value} {st : St} {a : Act} {res : AV} (hH : HRel w Z B μ st.hp) (hF : RelL w Z μ st.fr a.tmps.toList) (h : resOf0 P fn st = some res) :
    ∃ x bs, (results fn a.tmps).run P w = .ok x w ∧ RF w Z B res x bs ∧ bs.Nodup ∧ ∀ g ∈ bs, Z g := by
  unfold resOf0 at h
  split at h
  · rename_i vs hvs
    simp only at h
    split at h
    · rename_i hc
      simp only [Bool.and_eq_true, decide_eq_true_eq, List.all_eq_true] at hc
      obtain ⟨hn, hall⟩ := hc
      cases h
      obtain ⟨x, h1, h2⟩ := results_run hH hF (resVs_sound hvs)
      have hal : ∀ i ∈ idsA (oneOf vs), ∃ o, st.hp[i]? = some o ∧ o.alive = true := fun i hi => by
        have h3 := hall i hi
        cases ho : st.hp[i]? with
        | none => rw [ho] at h3; simp at h3
        | some o => rw [ho] at h3; cases o <;> simp [isRow] at h3; exact ⟨_, rfl, rfl⟩
      refine ⟨x, _, h1, expA_sound hH hall h2, ids_nodup hH hn hal, fun g hg => ?_⟩
      obtain ⟨i, hi, hg2⟩ := List.mem_filterMap.1 hg
      obtain ⟨o, ho, ha⟩ := hal i hi
      rw [Option.bind_eq_some_iff] at hg2
      obtain ⟨u, hu, hb⟩ := hg2
      exact hH.zone i o u g ho ha hu hb
    · cases h
  · cases h

/-! ### The mark of a loop over a function, at the function's end -/
theorem Rd.cells {w w' : World} {Z : Nat → Prop} (hc : ∀ a u, w.cell? a = some u → w'.cell? a = some u) {A : Option Addr} {xs : List Value} (h : Rd w Z A xs) : Rd w' Z A xs := fun hne => by
  obtain ⟨ad, rfl, hz, hr⟩ := h hne
  exact ⟨ad, rfl, hz, fun j u hu => hc _ _ (hr j u hu)⟩

mutual
theorem Rel.cells {w w' : World} {Z : Nat → Prop} {μ : List Value} (hc : ∀ a u, w.cell? a = some u → w'.cell? a = some u) : ∀ {c : AV} {v : Value}, Rel w Z μ c v → Rel w' Z μ c v
  | .int _ _, _, h => by simpa [Rel] using h
  | .bool _, _, h => by simpa [Rel] using h
  | .str _, _, h => by simpa [Rel] using h
  | .nil, _, h => by simpa [Rel] using h
  | .top, _, _ => by simp [Rel]
  | .own _ _ _ _, _, h => by simp [Rel] at h
  | .ref i, v, h => by simpa [Rel] using h
  | .ptr i o, v, h => by simpa [Rel] using h
  | .lst s n cs, v, h => by
    simp only [Rel] at h ⊢
    obtain ⟨A, c, xs, h1, h2, h3, h4, h5⟩ := h
    exact ⟨A, c, xs, h1, h2, h3, h4.cells hc, RelL.cells hc h5⟩
  | .clp s n cs, v, h => by
    simp only [Rel] at h ⊢
    obtain ⟨A, c, xs, h1, h2, h3, h4, h5⟩ := h
    exact ⟨A, c, xs, h1, h2, h3, h4.cells hc, RelL.cells hc h5⟩
  | .rptr cs, v, h => by
    simp only [Rel] at h ⊢
    obtain ⟨ad, xs, h1, h2, h3⟩ := h
    exact ⟨ad, xs, h1, h2.cells hc, RelL.cells hc h3⟩
  | .agg cs, v, h => by
    simp only [Rel] at h ⊢
    obtain ⟨xs, h1, h2⟩ := h
    exact ⟨xs, h1, RelL.cells hc h2⟩
  | .tup cs, v, h => by
    simp only [Rel] at h ⊢
    obtain ⟨xs, h1, h2⟩ := h
    exact ⟨xs, h1, RelL.cells hc h2⟩
  | .fn f cs, v, h => by
    simp only [Rel] at h ⊢
    obtain ⟨xs, h1, h2⟩ := h
    exact ⟨xs, h1, RelL.cells hc h2⟩
theorem RelL.cells {w w' : World} {Z : Nat → Prop} {μ : List Value} (hc : ∀ a u, w.cell? a = some u → w'.cell? a = some u) : ∀ {cs : List AV} {vs : List Value}, RelL w Z μ cs vs → RelL w' Z μ cs vs
  | [], vs, h => by simpa [RelL] using h
  | c :: cs, vs, h => by
    rw [RelL] at h ⊢
    obtain ⟨x, xs, h1, h2, h3⟩ := h
    exact ⟨x, xs, h1, Rel.cells hc h2, RelL.cells hc h3⟩
end

/-- Block r holds no cells; it becomes o. -/
theorem putObj_cells {w : World} {r : Nat} {o o' : Obj} (h : w.heap[r]? = some o) (hn : o.isCells = false) : ∀ a u, w.cell? a = some u → (w.putObj r o').cell? a = some u := by
  intro a u hu
  have hne : a.block ≠ r := by
    rintro rfl
    unfold World.cell? at hu
    rw [h] at hu
    cases o <;> simp_all [Obj.isCells]
  rw [World.cell?_of_block (w := w) (World.putObj_heap_other hne)]
  exact hu

theorem ObjRel.turn {w : World} {Z : Nat → Prop} {μ : List Value} {B r : Nat} {o o' : Obj} {u : Value} {ob : AObj} (h : w.heap[r]? = some o) (hn : o.isCells = false) (hi : ∀ x, ob ≠ .inert x) (hO : ObjRel w Z μ B u ob) : ObjRel (w.putObj r o') Z μ B u ob := by
  have hc := putObj_cells (o' := o') h hn
  have hg : ∀ (g : Nat) cs t p, w.heap[g]? = some (Obj.cells cs t p) → (w.putObj r o').heap[g]? = w.heap[g]? := fun g cs t p hg => World.putObj_heap_other (by
    rintro rfl
    rw [h] at hg
    cases hg
    cases hn)
  cases ob with
  | box t cs =>
    obtain ⟨g, xs, h1, h2, h3, h4⟩ := hO
    exact ⟨g, xs, h1, h2, (hg _ _ _ _ h3).trans h3, h4.cells hc⟩
  | list e s n cs =>
    obtain ⟨xs, hown, hr⟩ := hO
    refine ⟨xs, ⟨hown.1, ?_⟩, hr.cells hc⟩
    rcases hown.2 with hn' | ⟨g, cap, cur, rfl, hB, hgg, rest⟩
    · exact .inl hn'
    · exact .inr ⟨g, cap, cur, rfl, hB, (hg _ _ _ _ hgg).trans hgg, rest⟩
  | dead => trivial
  | frame us cs => exact RelL.cells hc hO
  | inert x => exact absurd rfl (hi x)

theorem resV_bury {P : Program} {st : St} {i : Nat} {x : Inert} (hi : st.hp[i]? = some (.inert x)) (r : ResultVar) : resV P ⟨st.fr, st.hp.set i .dead⟩ r = resV P st r := by
  have hil := (List.getElem?_eq_some_iff.1 hi).1
  unfold resV
  cases r with
  | tmp t => rfl
  | cell p ty =>
    simp only
    split
    · rename_i j o hp
      by_cases hji : i = j
      · subst hji
        rw [List.getElem?_set_self hil, hi]
        cases aggB P ty with
        | none => rfl
        | some b => cases b <;> cases sizeB P ty <;> rfl
      · rw [List.getElem?_set_ne hji]
    · rfl

theorem resVs_bury {P : Program} {st : St} {i : Nat} {x : Inert} (hi : st.hp[i]? = some (.inert x)) : ∀ rs : List ResultVar, resVs P ⟨st.fr, st.hp.set i .dead⟩ rs = resVs P st rs
  | [] => rfl
  | r :: rs => by simp only [resVs, resV_bury hi r, resVs_bury hi rs]

mutual
theorem expA_bury {hp : List AObj} {i : Nat} {x : Inert} (hi : hp[i]? = some (.inert x)) : ∀ c : AV, expA (hp.set i .dead) c = expA hp c
  | .ref j => by
    simp only [expA]
    by_cases hji : i = j
    · subst hji
      rw [List.getElem?_set_self (List.getElem?_eq_some_iff.1 hi).1, hi]
    · rw [List.getElem?_set_ne hji]
  | .agg cs => by simp only [expA, expAL_bury hi cs]
  | .tup cs => by simp only [expA, expAL_bury hi cs]
  | .int k n => rfl
  | .bool b => rfl
  | .str s => rfl
  | .nil => rfl
  | .lst s n cs => rfl
  | .clp s n cs => rfl
  | .rptr cs => rfl
  | .own _ _ _ _ => rfl
  | .ptr _ _ => rfl
  | .fn _ _ => rfl
  | .top => rfl
theorem expAL_bury {hp : List AObj} {i : Nat} {x : Inert} (hi : hp[i]? = some (.inert x)) : ∀ cs : List AV, expAL (hp.set i .dead) cs = expAL hp cs
  | [] => rfl
  | c :: cs => by simp only [expAL, expA_bury hi c, expAL_bury hi cs]
end

theorem resOf_bury {P : Program} {fn : Func} {st : St} {i : Nat} {x : Inert} (hi : st.hp[i]? = some (.inert x)) : resOf0 P fn ⟨st.fr, st.hp.set i .dead⟩ = resOf0 P fn st := by
  unfold resOf0
  rw [resVs_bury hi]
  cases resVs P st fn.results.toList with
  | none => rfl
  | some vs =>
    simp only [expA_bury hi]
    have : (idsA (oneOf vs)).all (fun j => ((st.hp.set i .dead)[j]?).any isRow) = (idsA (oneOf vs)).all (fun j => (st.hp[j]?).any isRow) := by
      congr 1
      funext j
      by_cases hji : i = j
      · subst hji
        rw [List.getElem?_set_self (List.getElem?_eq_some_iff.1 hi).1, hi]
        rfl
      · rw [List.getElem?_set_ne hji]
    rw [this]

/-- The mark's block is shut: all else lies as it lay. -/
theorem HRel.shut {w : World} {Z : Nat → Prop} {B : Nat} {μ : List Value} {hp : List AObj} {i r : Nat} {o o' : Obj} (h : HRel w Z B μ hp) (hr : w.heap[r]? = some o) (hn : o.isCells = false)
    (hi : ∀ j x, hp[j]? = some (.inert x) → j = i) : HRel (w.putObj r o') Z B μ (hp.set i .dead) := by
  have get : ∀ (j : Nat) oj, (hp.set i .dead)[j]? = some oj → oj = .dead ∨ (hp[j]? = some oj ∧ ∀ x, oj ≠ .inert x) := by
    intro j oj hj
    by_cases hji : j = i
    · subst hji
      rcases Nat.lt_or_ge j hp.length with hlt | hge
      · rw [List.getElem?_set_self hlt] at hj; simp at hj; exact .inl hj.symm
      · rw [List.getElem?_eq_none (by simpa using hge)] at hj; cases hj
    · rw [List.getElem?_set_ne (Ne.symm hji)] at hj
      exact .inr ⟨hj, fun x e => hji (hi j x (by rw [hj, e]))⟩
  refine ⟨by simpa using h.len, fun j o u g h1 ha h2 hg => ?_, h.one, fun j oj u h1 h2 => ?_, fun j k oj ok uj uk g hne h1 h2 a1 a2 m1 m2 b1 b2 => ?_⟩
  · rcases get j o h1 with rfl | ⟨h1, _⟩
    · cases ha
    · exact h.zone j o u g h1 ha h2 hg
  · rcases get j oj h1 with rfl | ⟨h1, hx⟩
    · trivial
    · exact (h.obj j oj u h1 h2).turn hr hn hx
  · rcases get j oj h1 with rfl | ⟨h1, _⟩
    · cases a1
    · rcases get k ok h2 with rfl | ⟨h2, _⟩
      · cases a2
      · exact h.sep j k oj ok uj uk g hne h1 h2 a1 a2 m1 m2 b1 b2

theorem noInert {hp : List AObj} (h : (hp.all fun o => !isInert o) = true) (i : Nat) (x : Inert) (hi : hp[i]? = some (.inert x)) : False := by
  have := List.all_eq_true.1 h _ (List.mem_of_getElem? hi)
  simp [isInert] at this

theorem oneInert_sound : ∀ {hp : List AObj}, oneInert hp = true → ∀ (i j : Nat) x y, hp[i]? = some (.inert x) → hp[j]? = some (.inert y) → i = j
  | [], _, i, j, x, y, h, _ => by simp at h
  | o :: hp, h, i, j, x, y, hi, hj => by
    unfold oneInert at h
    cases i with
    | zero =>
      cases j with
      | zero => rfl
      | succ j =>
        exfalso
        simp only [List.getElem?_cons_zero, List.getElem?_cons_succ, Option.some.injEq] at hi hj
        subst hi
        exact noInert h j y hj
    | succ i =>
      cases j with
      | zero =>
        exfalso
        simp only [List.getElem?_cons_zero, List.getElem?_cons_succ, Option.some.injEq] at hi hj
        subst hj
        exact noInert h i x hi
      | succ j =>
        simp only [List.getElem?_cons_succ] at hi hj
        split at h
        · exact (noInert h i x hi).elim
        · rw [oneInert_sound h i j x y hi hj]

/-- A FUNCTION's CONTRACT FROM ITS BODY. -/
theorem callA_of_run {P : Program} {f : FuncId} {fn : Func} {c : Code} {args : List AV} {res : AV} (hf : P.funcs[f]? = some fn) (hb : fn.body = some c) (hnm : (fn.name == "runtime.NumGoroutine") = false)
    (h : RunA none P c ⟨args ++ List.replicate (fn.ntmps - args.length) .top, []⟩ fun e st' => match e with | .normal => Returns P fn st' res | .ret => Returns P fn st' res | _ => False) : CallA P f args res := by
  refine ⟨enters_of hf hnm (by rw [hb]; rfl), ?_⟩
  intro Z0 w vs hvs
  have hlen := hvs.length
  refine callsIn_wide.1 (callsIn_of_wp_marks (F := Fence.wide) (n := 0) hf hb trivial ?_)
  have hS : Sim Z0 w ⟨args ++ List.replicate (fn.ntmps - args.length) .top, []⟩ { tmps := vs.toArray ++ Array.replicate (fn.ntmps - vs.toArray.size) undef, defers := [] } w := by
    refine ⟨[], NoF, fun b h => h.elim, ⟨rfl, fun i o u g h => by simp at h, fun i u h => by simp at h, fun i o u h => by simp at h, fun i j oi oj ui uj g _ h => by simp at h⟩, ?_, .inl rfl, Below.refl _ _⟩
    simp only [Array.toList_append, Array.toList_replicate, List.size_toArray, hlen]
    refine hvs.append ?_
    generalize fn.ntmps - args.length = n
    induction n with
    | zero => exact RelL.nil
    | succ n ih => exact RelL.cons (by simp [Rel]) ih
  refine wpIn_mono (h Z0 w _ w hS) ?_
  have fin : ∀ (st' : St) (a' : Act) (w' : World), Returns P fn st' res → Sim Z0 w st' a' w' → LeavesInM Fence.wide 0 P fn a'.tmps (fun e w'' => ∃ v' bs F', e = .returned v' ∧ (∀ b, F' b → w.heap.size ≤ b ∧ b < w''.heap.size) ∧ RF w'' (Zone Z0 F' w.heap.size) w.heap.size res v' bs ∧ bs.Nodup ∧ (∀ b ∈ bs, ¬ F' b) ∧ Below w.heap.size w w'') a'.defers .returning w' := by
    rintro st' a' w' hr ⟨μ, F, hFb, hH, hF, hd, hbel⟩
    have hr := resOf_parts hr
    rcases hd with hd | ⟨i, D, u, hi, hu, hd⟩
    · rw [hd]
      obtain ⟨x, bs, h1, h2, h3, h4⟩ := resOf_run hH hF hr.1
      have hge := RF.ge h2
      refine ⟨x, h1, x, bs, F, rfl, hFb, h2, h3, fun b hb hf => ?_, hbel⟩
      have := hge b hb
      exact (h4 b hb).elim (fun h => absurd h.1 (by omega)) (fun h => h.2 hf)
    · rw [hd]
      obtain ⟨_, ⟨hB, hz⟩, hD⟩ := hH.obj i _ _ hi hu
      have hH2 := hH.shut (i := i) (o' := .deferred none) hD rfl (fun j x hj => oneInert_sound hr.2 j i x _ hj hi)
      have hF2 := hF.cells (putObj_cells (o' := .deferred none) hD rfl)
      obtain ⟨x, bs, h1, h2, h3, h4⟩ := resOf_run (st := ⟨st'.fr, st'.hp.set i .dead⟩) hH2 hF2 (by rw [resOf_bury hi]; exact hr.1)
      have hge := RF.ge h2
      refine ⟨by simp, .inl ⟨D, _, rfl, run_takeDeferred hD, x, h1, x, bs, F, rfl, fun b hb => by rw [World.putObj_size]; exact hFb b hb, h2, h3, fun b hb hf => ?_, ?_⟩⟩
      · have := hge b hb
        exact (h4 b hb).elim (fun h => absurd h.1 (by omega)) (fun h => h.2 hf)
      · exact hbel.grown (grownBy_putObj' w' D _) (by have := (Array.getElem?_eq_some_iff.1 hD).1; omega) (fun k e => by cases e; omega)
  rintro e a' w' ⟨st', hq, hS'⟩
  cases e with
  | normal => exact fin st' a' w' hq hS'
  | ret => exact fin st' a' w' hq hS'
  | exit id => exact hq.elim
  | goto l => exact hq.elim
  | panic ch => exact hq.elim
  | outgrown => exact hq.elim

end Go.Abs
