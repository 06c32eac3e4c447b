/- Texts of the proof: SymH, SymI, SymJ, SymN. -/
import Derived.RangeFuncKeeps
import Derived.RangeFuncLeaves
import Derived.OrdersIn
import Derived.IntWalk
import Derived.Test.YtjllngcefoohpaaGreatPartB

/-! States told less of; results; a function's contract from its body. -/
namespace Go.Abs
open Go.RowKit

def keepFrom (ks : List Nat) : Nat → List AV → List AV
 | _, [] => []
 | k, c :: cs => (if ks.contains k then c else .top) :: keepFrom ks (k + 1) cs
def keepF (ks : List Nat) (fr : List AV) : List AV := keepFrom ks 0 fr
theorem keepFrom_rel {w : World} {Z : Nat → Prop} {μ : List Value} (ks : List Nat) : ∀ (k : Nat) {cs : List AV} {vs : List Value}, RelL w Z μ cs vs → RelL w Z μ (keepFrom ks k cs) vs
 | _, [], _, h => by simpa [keepFrom] using h
 | k, c :: cs, _, h => by
  rw [RelL] at h
  obtain ⟨x, xs, rfl, h1, h2⟩ := h
  refine RelL.cons ?_ (keepFrom_rel ks (k + 1) h2)
  split
  ·exact h1
  ·simp [Rel]
theorem Sub.keep (ks : List Nat) (st : St) : Sub st ⟨keepF ks st.fr, st.hp⟩ := fun _ _ _ _ ⟨μ, F, hFb, hH, hF, hd, hb⟩ => ⟨μ, F, hFb, hH, keepFrom_rel ks 0 hF, hd, hb⟩

mutual
def AV.ren (js : List Nat) : AV → AV
 | .ref i => if js.contains i then .ref (js.idxOf i) else .top
 | .ptr i o => if js.contains i then .ptr (js.idxOf i) o else .top
 | .agg cs => .agg (renL js cs)
 | .tup cs => .tup (renL js cs)
 | .fn f cs => .fn f (renL js cs)
 | .int k n => .int k n
 | .bool b => .bool b
 | .str s => .str s
 | .nil => .nil
 | .lst s n cs => .lst s n cs
 | .clp s n cs => .clp s n cs
 | .nam u o s n cs => .nam u o s n cs
 | .rptr cs => .rptr cs
 | .own e s n cs => .own e s n cs
 | .top => .top
def renL (js : List Nat) : List AV → List AV
 | [] => []
 | c :: cs => c.ren js :: renL js cs
end
def AObj.ren (js : List Nat) : AObj → AObj
 | .box t cs => .box t (renL js cs)
 | .list e s n cs => .list e s n cs
 | .dead => .dead
 | .frame us cs => .frame us (renL js cs)
 | .inert x => .inert x
def renS (js : List Nat) (st : St) : St := ⟨renL js st.fr, js.map fun i => (st.hp.getD i .dead).ren js⟩
theorem ren_get {μ : List Value} {js : List Nat} {i : Nat} {u : Value} (h : μ[i]? = some u) (hc : js.contains i = true) : (js.map fun i => μ.getD i (.bool false))[js.idxOf i]? = some u := by
 have hm : i ∈ js := by simpa using hc
 have hlt := List.idxOf_lt_length_iff.2 hm
 rw [List.getElem?_map, List.getElem?_eq_getElem hlt]
 simp [List.getD_eq_getElem?_getD, h]
mutual
theorem Rel.ren {w : World} {Z : Nat → Prop} {μ : List Value} (js : List Nat) : ∀ {c : AV} {v : Value}, Rel w Z μ c v → Rel w Z (js.map fun i => μ.getD i (.bool false)) (c.ren js) v
 | .int _ _, _, h => by simpa [Rel, AV.ren] using h
 | .bool _, _, h => by simpa [Rel, AV.ren] using h
 | .str _, _, h => by simpa [Rel, AV.ren] using h
 | .nil, _, h => by simpa [Rel, AV.ren] using h
 | .top, _, _ => by simp [Rel, AV.ren]
 | .own _ _ _ _, _, h => by simp [Rel] at h
 | .lst _ _ _, _, h => by simpa [Rel, AV.ren] using h
 | .clp _ _ _, _, h => by simpa [Rel, AV.ren] using h
 | .nam _ _ _ _ _, _, h => by simpa [Rel, AV.ren] using h
 | .rptr _, _, h => by simpa [Rel, AV.ren] using h
 | .ref i, v, h => by
  simp only [AV.ren]
  split
  ·rename_i hc
   simp only [Rel] at h ⊢
   exact ren_get h hc
  ·simp [Rel]
 | .ptr i o, v, h => by
  simp only [AV.ren]
  split
  ·rename_i hc
   simp only [Rel] at h ⊢
   obtain ⟨u, g, h1, h2, h3⟩ := h
   exact ⟨u, g, ren_get h1 hc, h2, h3⟩
  ·simp [Rel]
 | .agg cs, v, h => by
  simp only [Rel, AV.ren] at h ⊢
  obtain ⟨xs, h1, h2⟩ := h
  exact ⟨xs, h1, RelL.ren js h2⟩
 | .tup cs, v, h => by
  simp only [Rel, AV.ren] at h ⊢
  obtain ⟨xs, h1, h2⟩ := h
  exact ⟨xs, h1, RelL.ren js h2⟩
 | .fn f cs, v, h => by
  simp only [Rel, AV.ren] at h ⊢
  obtain ⟨xs, h1, h2⟩ := h
  exact ⟨xs, h1, RelL.ren js h2⟩
theorem RelL.ren {w : World} {Z : Nat → Prop} {μ : List Value} (js : List Nat) : ∀ {cs : List AV} {vs : List Value}, RelL w Z μ cs vs → RelL w Z (js.map fun i => μ.getD i (.bool false)) (renL js cs) vs
 | [], _, h => by simpa [RelL, renL] using h
 | c :: cs, _, h => by
  simp only [RelL, renL] at h ⊢
  obtain ⟨x, xs, h1, h2, h3⟩ := h
  exact ⟨x, xs, h1, Rel.ren js h2, RelL.ren js h3⟩
end
theorem AObj.ren_alive (js : List Nat) (o : AObj) : (o.ren js).alive = o.alive := by cases o <;> rfl
theorem HRel.ren {w : World} {Z : Nat → Prop} {B : Nat} {μ : List Value} {hp : List AObj} (h : HRel w Z B μ hp) (js : List Nat) (hn : js.Nodup) :
  HRel w Z B (js.map fun i => μ.getD i (.bool false)) (js.map fun i => (hp.getD i .dead).ren js) := by
 have get : ∀ (j : Nat) o u, (js.map fun i => (hp.getD i .dead).ren js)[j]? = some o → (js.map fun i => μ.getD i (.bool false))[j]? = some u → ∃ i, js[j]? = some i ∧ o = (hp.getD i .dead).ren js ∧ u = μ.getD i (.bool false) := by
  intro j o u h1 h2
  rw [List.getElem?_map, Option.map_eq_some_iff] at h1 h2
  obtain ⟨i, hi, rfl⟩ := h1
  obtain ⟨i', hi', rfl⟩ := h2
  rw [hi] at hi'
  simp only [Option.some.injEq] at hi'
  subst hi'
  exact ⟨i, hi, rfl, rfl⟩
 have alive : ∀ i, (hp.getD i .dead).alive = true → hp[i]? = some (hp.getD i .dead) ∧ μ[i]? = some (μ.getD i (.bool false)) := by
  intro i ha
  rcases Nat.lt_or_ge i hp.length with hi | hi
  ·have hi2 : i < μ.length := by rw [h.len]; exact hi
   simp [List.getD_eq_getElem?_getD, List.getElem?_eq_getElem hi, List.getElem?_eq_getElem hi2]
  ·simp [List.getD_eq_getElem?_getD, List.getElem?_eq_none hi, AObj.alive] at ha
 refine ⟨by simp, fun j o u g h1 ha h2 hg => ?_, fun j u hu => ?_, fun j o u h1 h2 => ?_, fun j k oj ok uj uk g hne h1 h2 a1 a2 m1 m2 b1 b2 => ?_⟩
 ·obtain ⟨i, hi, rfl, rfl⟩ := get j o u h1 h2
  rw [AObj.ren_alive] at ha
  obtain ⟨e1, e2⟩ := alive i ha
  exact h.zone i _ _ g e1 ha e2 hg
 ·rw [List.getElem?_map, Option.map_eq_some_iff] at hu
  obtain ⟨i, hi, rfl⟩ := hu
  cases hm : μ[i]? with
  | none => simp [List.getD_eq_getElem?_getD, hm, Value.oneCell']
  | some x => simpa [List.getD_eq_getElem?_getD, hm] using h.one i x hm
 ·obtain ⟨i, hi, rfl, rfl⟩ := get j o u h1 h2
  cases ha : (hp.getD i .dead).alive with
  | false =>
   cases ho : hp.getD i .dead with
   | dead => trivial
   | box t cs => rw [ho] at ha; cases ha
   | list e s n cs => rw [ho] at ha; cases ha
   | inert x => rw [ho] at ha; cases ha
   | frame us cs =>
    have hi1 : hp[i]? = some (.frame us cs) := by
     cases hx : hp[i]? with
     | none => simp [List.getD_eq_getElem?_getD, hx] at ho
     | some o => simp [List.getD_eq_getElem?_getD, hx] at ho; rw [ho]
    have hi2 : i < μ.length := by rw [h.len]; exact (List.getElem?_eq_some_iff.1 hi1).1
    exact RelL.ren js (h.obj i _ _ hi1 (List.getElem?_eq_getElem hi2))
  | true =>
   obtain ⟨e1, e2⟩ := alive i ha
   have hO := h.obj i _ _ e1 e2
   cases ho : hp.getD i .dead with
   | dead => trivial
   | box t cs =>
    rw [ho] at hO
    obtain ⟨g, xs, hu, hB, hh, hr⟩ := hO
    exact ⟨g, xs, hu, hB, hh, hr.ren js⟩
   | list e s n cs =>
    rw [ho] at hO
    obtain ⟨xs, hown, hr⟩ := hO
    exact ⟨xs, hown, hr⟩
   | frame us cs =>
    rw [ho] at hO
    exact RelL.ren js hO
   | inert x =>
    rw [ho] at hO
    exact hO
 ·obtain ⟨i, hi, rfl, rfl⟩ := get j oj uj h1 m1
  obtain ⟨i', hi', rfl, rfl⟩ := get k ok uk h2 m2
  rw [AObj.ren_alive] at a1 a2
  obtain ⟨e1, e2⟩ := alive i a1
  obtain ⟨e3, e4⟩ := alive i' a2
  refine h.sep i i' _ _ _ _ g (fun e => hne ?_) e1 e3 a1 a2 e2 e4 b1 b2
  subst e
  have hj := (List.getElem?_eq_some_iff.1 hi)
  have hk := (List.getElem?_eq_some_iff.1 hi')
  exact (List.getElem_inj hn).1 (hj.2.trans hk.2.symm)
theorem Sub.ren (js : List Nat) (st : St) (hn : js.Nodup) (hm : noMark st.hp = true) : Sub st (renS js st) := fun _ _ _ _ ⟨_, F, hFb, hH, hF, hd, hb⟩ => ⟨_, F, hFb, hH.ren js hn, hF.ren js, .inl (hd.none hm), hb⟩

theorem Sub.nilRef (t el s : Nat) (st : St) (h : st.fr.getD t .top = .nil) : Sub st ⟨st.fr.set t (.ref st.hp.length), st.hp ++ [.list el s 0 []]⟩ := by
 rintro Z0 w0 a w ⟨μ, F, hFb, hH, hF, hd, hb⟩
 have hbel : Below w.heap.size w w := Below.refl _ _
 have hF' := hF.keep (w' := w) (fun _ _ _ => rfl) (fun i u hu => append_old (μs := [.slice none 0 0]) i u hu)
 refine ⟨μ ++ [.slice none 0 0], F, hFb, hH.extend1 (zone_new hb.size hFb) hbel ⟨[], World.ownsRow_nil _ _ _ _, RelL.nil⟩ (fun g hg => by simp [blk] at hg) rfl, ?_, hd.app, hb⟩
 rcases Nat.lt_or_ge t st.fr.length with ht | ht
 ·have e1 : st.fr[t]? = some .nil := by
   rw [List.getElem?_eq_getElem ht]
   simpa [List.getD_eq_getElem?_getD, List.getElem?_eq_getElem ht] using h
  obtain ⟨x, hx, hr⟩ := hF'.get e1
  have hr2 : Rel w (Zone Z0 F w0.heap.size) (μ ++ [.slice none 0 0]) (.ref st.hp.length) x := by
   simp only [Rel] at hr ⊢
   subst hr
   rw [← hH.len]
   simp
  have := hF'.set t hr2
  have e2 : a.tmps.toList.set t x = a.tmps.toList := by
   apply List.ext_getElem?
   intro j
   by_cases hj : j = t
   ·subst hj
    rw [List.getElem?_set_self (List.getElem?_eq_some_iff.1 hx).1, hx]
   ·rw [List.getElem?_set_ne (Ne.symm hj)]
  rwa [e2] at this
 ·rw [List.set_eq_of_length_le ht]
  exact hF'

inductive ResV (P : Program) (st : St) : ResultVar → AV → Prop
 | tmp {t} : ResV P st (.tmp t) (st.fr.getD t .top)
 | cell1 {p ty v} (i o : Nat) (ob : AObj) (hp : st.fr.getD p .top = .ptr i o) (hi : st.hp[i]? = some ob) (ht : aggB P ty = some false) (hv : ob.cells[o]? = some v) : ResV P st (.cell p ty) v
 | cellN {p ty} (i o k : Nat) (ob : AObj) (hp : st.fr.getD p .top = .ptr i o) (hi : st.hp[i]? = some ob) (ht : aggB P ty = some true) (hk : sizeB P ty = some k) (hl : o + k ≤ ob.cells.length) : ResV P st (.cell p ty) (.agg ((ob.cells.drop o).take k))
inductive ResVs (P : Program) (st : St) : List ResultVar → List AV → Prop
 | nil : ResVs P st [] []
 | cons {r rs v vs} (h : ResV P st r v) (h' : ResVs P st rs vs) : ResVs P st (r :: rs) (v :: vs)
def oneOf : List AV → AV
 | [v] => v
 | vs => .tup vs
mutual
def expA (hp : List AObj) : AV → AV
 | .ref i => match hp[i]? with | some (.list e s n cs) => .own e s n cs | _ => .top
 | .agg cs => .agg (expAL hp cs)
 | .tup cs => .tup (expAL hp cs)
 | .int k n => .int k n
 | .bool b => .bool b
 | .str s => .str s
 | .nil => .nil
 | .lst s n cs => .lst s n cs
 | .clp s n cs => .clp s n cs
 | .nam u o s n cs => .nam u o s n cs
 | .rptr cs => .rptr cs
 | .own _ _ _ _ => .top
 | .ptr _ _ => .top
 | .fn f cs => if leafyL cs then .fn f cs else .top
 | .top => .top
def expAL (hp : List AObj) : List AV → List AV
 | [] => []
 | c :: cs => expA hp c :: expAL hp cs
end
mutual
def idsA : AV → List Nat
 | .ref i => [i]
 | .agg cs => idsAL cs
 | .tup cs => idsAL cs
 | _ => []
def idsAL : List AV → List Nat
 | [] => []
 | c :: cs => idsA c ++ idsAL cs
end
def isRow : AObj → Bool
 | .list .. => true
 | _ => false
mutual
theorem expA_sound {w : World} {Z : Nat → Prop} {B : Nat} {μ : List Value} {hp : List AObj} (hH : HRel w Z B μ hp) : ∀ {c : AV} {v : Value}, (∀ i ∈ idsA c, (hp[i]?.any isRow) = true) → Rel w Z μ c v →
  RF w Z B (expA hp c) v ((idsA c).filterMap fun i => (μ[i]?).bind blk)
 | .ref i, v, hi, hr => by
  simp only [Rel] at hr
  have h1 := hi i (by simp [idsA])
  simp only [expA, idsA]
  cases ho : hp[i]? with
  | none => rw [ho] at h1; simp at h1
  | some o =>
   rw [ho] at h1
   cases o <;> simp [isRow] at h1
   rename_i e s n cs
   obtain ⟨xs, hown, hx⟩ := hH.obj i _ v ho hr
   simp only [RF]
   refine ⟨xs, hown, hx, ?_⟩
   cases hb : blk v with
   | none => rw [List.filterMap_cons_none (by simp [hr, hb])]; rfl
   | some g => rw [List.filterMap_cons_some (b := g) (by simp [hr, hb])]; rfl
 | .agg cs, v, hi, hr => by
  simp only [Rel] at hr
  obtain ⟨xs, h1, hx⟩ := hr
  simp only [expA, idsA, RF]
  exact ⟨xs, h1, expAL_sound hH hi hx⟩
 | .tup cs, v, hi, hr => by
  simp only [Rel] at hr
  obtain ⟨xs, h1, hx⟩ := hr
  simp only [expA, idsA, RF]
  exact ⟨xs, h1, expAL_sound hH hi hx⟩
 | .int _ _, v, _, hr => by simpa [expA, idsA, RF, Rel] using hr
 | .bool _, v, _, hr => by simpa [expA, idsA, RF, Rel] using hr
 | .str _, v, _, hr => by simpa [expA, idsA, RF, Rel] using hr
 | .nil, v, _, hr => by simpa [expA, idsA, RF, Rel] using hr
 | .lst _ _ _, v, _, hr => by simp only [expA, idsA, RF, List.filterMap_nil]; exact ⟨by simpa [Rel] using hr, trivial⟩
 | .clp _ _ _, v, _, hr => by simp only [expA, idsA, RF, List.filterMap_nil]; exact ⟨by simpa [Rel] using hr, trivial⟩
 | .nam _ _ _ _ _, v, _, hr => by simp only [expA, idsA, RF, List.filterMap_nil]; exact ⟨by simpa [Rel] using hr, trivial⟩
 | .rptr _, v, _, hr => by simp only [expA, idsA, RF, List.filterMap_nil]; exact ⟨by simpa [Rel] using hr, trivial⟩
 | .own _ _ _ _, v, _, hr => by simp [Rel] at hr
 | .ptr _ _, v, _, hr => by simp [expA, idsA, RF]
 | .fn f cs, v, _, hr => by
  simp only [expA, idsA]
  split
  ·rename_i hl
   simp only [RF, List.filterMap_nil]
   exact ⟨Rel.leafy (by simpa [AV.leafy] using hl) hr, trivial⟩
  ·simp [RF]
 | .top, v, _, hr => by simp [expA, idsA, RF]
theorem expAL_sound {w : World} {Z : Nat → Prop} {B : Nat} {μ : List Value} {hp : List AObj} (hH : HRel w Z B μ hp) : ∀ {cs : List AV} {vs : List Value}, (∀ i ∈ idsAL cs, (hp[i]?.any isRow) = true) → RelL w Z μ cs vs →
  RFL w Z B (expAL hp cs) vs ((idsAL cs).filterMap fun i => (μ[i]?).bind blk)
 | [], vs, _, hr => by simpa [expAL, idsAL, RFL, RelL] using hr
 | c :: cs, vs, hi, hr => by
  rw [RelL] at hr
  obtain ⟨x, xs, rfl, h1, h2⟩ := hr
  simp only [expAL, idsAL, RFL]
  exact ⟨x, xs, _, _, rfl, expA_sound hH (fun i h => hi i (by simp [idsAL, h])) h1, expAL_sound hH (fun i h => hi i (by simp [idsAL, h])) h2, by rw [List.filterMap_append]⟩
end
theorem ids_nodup {w : World} {Z : Nat → Prop} {B : Nat} {μ : List Value} {hp : List AObj} (hH : HRel w Z B μ hp) : ∀ {ids : List Nat}, ids.Nodup → (∀ i ∈ ids, ∃ o, hp[i]? = some o ∧ o.alive = true) → (ids.filterMap fun i => (μ[i]?).bind blk).Nodup
 | [], _, _ => by simp
 | i :: ids, hn, ha => by
  have hn' := List.nodup_cons.1 hn
  have ih := ids_nodup hH hn'.2 (fun j hj => ha j (List.mem_cons_of_mem _ hj))
  cases hb : (μ[i]?).bind blk with
  | none => rw [List.filterMap_cons_none (f := fun i => (μ[i]?).bind blk) hb]; exact ih
  | some g =>
   rw [List.filterMap_cons_some (f := fun i => (μ[i]?).bind blk) hb]
   refine List.nodup_cons.2 ⟨fun hm => ?_, ih⟩
   obtain ⟨j, hj, hg⟩ := List.mem_filterMap.1 hm
   obtain ⟨oi, h1, h2⟩ := ha i (List.mem_cons_self ..)
   obtain ⟨oj, h3, h4⟩ := ha j (List.mem_cons_of_mem _ hj)
   rw [Option.bind_eq_some_iff] at hb hg
   obtain ⟨ui, e1, e2⟩ := hb
   obtain ⟨uj, e3, e4⟩ := hg
   exact hH.sep i j oi oj ui uj g (fun e => hn'.1 (by rw [e]; exact hj)) h1 h3 h2 h4 e1 e3 e2 e4
def resV (P : Program) (st : St) : ResultVar → Option AV
 | .tmp t => some (st.fr.getD t .top)
 | .cell p ty =>
  match st.fr.getD p .top with
  | .ptr i o =>
   match st.hp[i]?, aggB P ty, sizeB P ty with
   | some ob, some false, _ => ob.cells[o]?
   | some ob, some true, some k => if o + k ≤ ob.cells.length then some (.agg ((ob.cells.drop o).take k)) else none
   | _, _, _ => none
  | _ => none
def resVs (P : Program) (st : St) : List ResultVar → Option (List AV)
 | [] => some []
 | r :: rs => match resV P st r, resVs P st rs with | some v, some vs => some (v :: vs) | _, _ => none
theorem resV_sound {P : Program} {st : St} {r : ResultVar} {v : AV} (h : resV P st r = some v) : ResV P st r v := by
 unfold resV at h
 split at h
 ·cases h; exact .tmp
 ·split at h
  ·rename_i i o hp
   split at h
   ·rename_i ob hi ht; exact .cell1 i o ob hp hi ht h
   ·rename_i ob k hi ht hk
    split at h
    ·cases h; exact .cellN i o k ob hp hi ht hk (by assumption)
    ·cases h
   ·cases h
  ·cases h
theorem resVs_sound {P : Program} {st : St} : ∀ {rs : List ResultVar} {vs : List AV}, resVs P st rs = some vs → ResVs P st rs vs
 | [], vs, h => by simp only [resVs, Option.some.injEq] at h; subst h; exact .nil
 | r :: rs, vs, h => by
  simp only [resVs] at h
  split at h
  ·rename_i v vs' h1 h2
   cases h
   exact .cons (resV_sound h1) (resVs_sound h2)
  ·cases h
def resOf0 (P : Program) (fn : Func) (st : St) : Option AV :=
 match resVs P st fn.results.toList with
 | some vs =>
  match oneOf vs with
  | v => if decide (idsA v).Nodup && (idsA v).all (fun i => st.hp[i]?.any isRow) then some (expA st.hp v) else none
 | none => none
def isInert : AObj → Bool
 | .inert _ => true
 | _ => false
def oneInert : List AObj → Bool
 | [] => true
 | o :: hp => if isInert o then hp.all fun o => !isInert o else oneInert hp
def resOf (P : Program) (fn : Func) (st : St) : Option AV := if oneInert st.hp then resOf0 P fn st else none
theorem resOf_parts {P : Program} {fn : Func} {st : St} {res : AV} (h : resOf P fn st = some res) : resOf0 P fn st = some res ∧ oneInert st.hp = true := by
 unfold resOf at h
 split at h
 ·exact ⟨h, by assumption⟩
 ·cases h
def Returns (P : Program) (fn : Func) (st : St) (res : AV) : Prop := resOf P fn st = some res
theorem resV_run {P : Program} {w : World} {Z : Nat → Prop} {B : Nat} {μ : List Value} {st : St} {a : Act} (hH : HRel w Z B μ st.hp) (hF : RelL w Z μ st.fr a.tmps.toList) {r : ResultVar} {v : AV} (h : ResV P st r v) :
  ∃ x, (match r with | .tmp t => pure (a.tmps.getD t undef) | .cell p t => do loadVar t (← asAddr (a.tmps.getD p undef)) : Sem Value).run P w = .ok x w ∧ Rel w Z μ v x := by
 have hget : ∀ t, Rel w Z μ (st.fr.getD t .top) (a.tmps.getD t undef) := fun t => ev_rel hF (.tmp t)
 cases h with
 | tmp =>
  rename_i t
  exact ⟨_, rfl, hget t⟩
 | cell1 i o ob hp hi ht hv =>
  rename_i p ty
  have h1 := hp ▸ hget p
  simp only [Rel] at h1
  obtain ⟨u, g, hu, hg, h2⟩ := h1
  obtain ⟨y, hy, hry⟩ := obj_cell (hH.obj i ob u hi hu) hg hv
  exact ⟨y, by simp only [h2, asAddr, Sem.run_bind, Sem.run_pure, Result.andThen_ok, run_loadVar1 ht hy], hry⟩
 | cellN i o k ob hp hi ht hk hl =>
  rename_i p ty
  have h1 := hp ▸ hget p
  simp only [Rel] at h1
  obtain ⟨u, g, hu, hg, h2⟩ := h1
  obtain ⟨xs, hr, hc⟩ := obj_cells (hH.obj i ob u hi hu)
  have hlen := hr.length
  have hrun := run_loadVarN (P := P) (w := w) (a := ⟨g, o, none⟩) (xs := (xs.drop o).take k) ht hk (by simp; omega) (fun j v hv => by
   rw [add_lit']
   refine hc g hg (o + j) v ?_
   rw [List.getElem?_take] at hv
   split at hv
   ·rwa [List.getElem?_drop] at hv
   ·cases hv)
  refine ⟨_, by simp only [h2, asAddr, Sem.run_bind, Sem.run_pure, Result.andThen_ok, hrun]; rfl, ?_⟩
  simp only [Rel]
  exact ⟨_, rfl, (hr.drop _).take _⟩
theorem resVs_run {P : Program} {w : World} {Z : Nat → Prop} {B : Nat} {μ : List Value} {st : St} {a : Act} (hH : HRel w Z B μ st.hp) (hF : RelL w Z μ st.fr a.tmps.toList) : ∀ {rs : List ResultVar} {vs : List AV}, ResVs P st rs vs →
  ∃ xs, (rs.mapM fun r => (match r with | .tmp t => pure (a.tmps.getD t undef) | .cell p t => do loadVar t (← asAddr (a.tmps.getD p undef)) : Sem Value)).run P w = .ok xs w ∧ RelL w Z μ vs xs
 | _, _, .nil => ⟨[], rfl, RelL.nil⟩
 | _, _, .cons h h' => by
  obtain ⟨x, h1, h2⟩ := resV_run hH hF h
  obtain ⟨xs, h3, h4⟩ := resVs_run hH hF h'
  exact ⟨x :: xs, by simp only [List.mapM_cons, Sem.run_bind, h1, Result.andThen_ok, h3, Sem.run_pure], RelL.cons h2 h4⟩
theorem results_run {P : Program} {fn : Func} {w : World} {Z : Nat → Prop} {B : Nat} {μ : List Value} {st : St} {a : Act} (hH : HRel w Z B μ st.hp) (hF : RelL w Z μ st.fr a.tmps.toList) {vs : List AV} (h : ResVs P st fn.results.toList vs) :
  ∃ x, (results fn a.tmps).run P w = .ok x w ∧ Rel w Z μ (oneOf vs) x := by
 obtain ⟨xs, h1, h2⟩ := resVs_run hH hF h
 have hl := h2.length
 refine ⟨if h : xs.toArray.size = 1 then xs.toArray[0] else .tuple xs.toArray, ?_, ?_⟩
 ·have h3 : (fn.results.mapM fun r => (match r with | .tmp t => pure (a.tmps.getD t undef) | .cell p t => do loadVar t (← asAddr (a.tmps.getD p undef)) : Sem Value)).run P w = .ok xs.toArray w := by
   rw [Array.mapM_eq_mapM_toList, Sem.run_map, h1]
   rfl
  show (Sem.bind (fn.results.mapM fun r => (match r with | .tmp t => pure (a.tmps.getD t undef) | .cell p t => do loadVar t (← asAddr (a.tmps.getD p undef)) : Sem Value)) _).run P w = _
  rw [Sem.run_bind', h3]
  rfl
 ·match vs, xs, h2, hl with
  | [], xs, h2, hl =>
   rw [RelL] at h2
   subst h2
   simp [oneOf, Rel, RelL]
  | [v], [x], h2, _ =>
   rw [RelL] at h2
   obtain ⟨y, ys, e, h3, _⟩ := h2
   simp only [List.cons.injEq] at e
   obtain ⟨rfl, rfl⟩ := e
   simpa [oneOf] using h3
  | v :: v' :: vs, x :: x' :: xs, h2, _ =>
   simp only [oneOf, Rel]
   exact ⟨x :: x' :: xs, by simp, h2⟩
theorem resOf_run {P : Program} {fn : Func} {w : World} {Z : Nat → Prop} {B : Nat} {μ : List Value} {st : St} {a : Act} {res : AV} (hH : HRel w Z B μ st.hp) (hF : RelL w Z μ st.fr a.tmps.toList) (h : resOf0 P fn st = some res) :
  ∃ x bs, (results fn a.tmps).run P w = .ok x w ∧ RF w Z B res x bs ∧ bs.Nodup ∧ ∀ g ∈ bs, Z g := by
 unfold resOf0 at h
 split at h
 ·rename_i vs hvs
  simp only at h
  split at h
  ·rename_i hc
   simp only [Bool.and_eq_true, decide_eq_true_eq, List.all_eq_true] at hc
   obtain ⟨hn, hall⟩ := hc
   cases h
   obtain ⟨x, h1, h2⟩ := results_run hH hF (resVs_sound hvs)
   have hal : ∀ i ∈ idsA (oneOf vs), ∃ o, st.hp[i]? = some o ∧ o.alive = true := fun i hi => by
    have h3 := hall i hi
    cases ho : st.hp[i]? with
    | none => rw [ho] at h3; simp at h3
    | some o => rw [ho] at h3; cases o <;> simp [isRow] at h3; exact ⟨_, rfl, rfl⟩
   refine ⟨x, _, h1, expA_sound hH hall h2, ids_nodup hH hn hal, fun g hg => ?_⟩
   obtain ⟨i, hi, hg2⟩ := List.mem_filterMap.1 hg
   obtain ⟨o, ho, ha⟩ := hal i hi
   rw [Option.bind_eq_some_iff] at hg2
   obtain ⟨u, hu, hb⟩ := hg2
   exact hH.zone i o u g ho ha hu hb
  ·cases h
 ·cases h

def CK (w w' : World) : Prop := (∀ a u, w.cell? a = some u → w'.cell? a = some u) ∧ ∀ (g : Nat) cs t k, w.heap[g]? = some (.cells cs t k) → w'.heap[g]? = some (.cells cs t k)
theorem NamO.cells {w w' : World} {Z : Nat → Prop} {o : Option Nat} {s n : Nat} {u : Value} (hc : CK w w') (h : NamO w Z o s n u) : NamO w' Z o s n u := by
 intro e he
 obtain ⟨xs, h1, h2⟩ := h e he
 refine ⟨xs, ⟨h1.1, h1.2.imp id ?_⟩, h2⟩
 rintro ⟨g, cap, cur, rfl, k1, k2, k3⟩
 exact ⟨g, cap, cur, rfl, k1, hc.2 _ _ _ _ k2, k3⟩
theorem Rd.cells {w w' : World} {Z : Nat → Prop} (hc : CK w w') {A : Option Addr} {xs : List Value} (h : Rd w Z A xs) : Rd w' Z A xs := fun hne => by
 obtain ⟨ad, rfl, hz, hr⟩ := h hne
 exact ⟨ad, rfl, hz, fun j u hu => hc.1 _ _ (hr j u hu)⟩
mutual
theorem Rel.cells {w w' : World} {Z : Nat → Prop} {μ : List Value} (hc : CK w w') : ∀ {c : AV} {v : Value}, Rel w Z μ c v → Rel w' Z μ c v
 | .int _ _, _, h => by simpa [Rel] using h
 | .bool _, _, h => by simpa [Rel] using h
 | .str _, _, h => by simpa [Rel] using h
 | .nil, _, h => by simpa [Rel] using h
 | .top, _, _ => by simp [Rel]
 | .own _ _ _ _, _, h => by simp [Rel] at h
 | .ref i, v, h => by simpa [Rel] using h
 | .ptr i o, v, h => by simpa [Rel] using h
 | .lst s n cs, v, h => by
  simp only [Rel] at h ⊢
  obtain ⟨A, c, xs, h1, h2, h3, h4, h5⟩ := h
  exact ⟨A, c, xs, h1, h2, h3, h4.cells hc, RelL.cells hc h5⟩
 | .clp s n cs, v, h => by
  simp only [Rel] at h ⊢
  obtain ⟨A, c, xs, h1, h2, h3, h4, h5⟩ := h
  exact ⟨A, c, xs, h1, h2, h3, h4.cells hc, RelL.cells hc h5⟩
 | .nam u o s n cs, v, h => by
  simp only [Rel] at h ⊢
  obtain ⟨⟨h0, h00⟩, A, c, xs, h1, h2, h3, h4, h5⟩ := h
  exact ⟨⟨h0, h00.cells hc⟩, A, c, xs, h1, h2, h3, h4.cells hc, RelL.cells hc h5⟩
 | .rptr cs, v, h => by
  simp only [Rel] at h ⊢
  obtain ⟨ad, xs, h1, h2, h3⟩ := h
  exact ⟨ad, xs, h1, h2.cells hc, RelL.cells hc h3⟩
 | .agg cs, v, h => by
  simp only [Rel] at h ⊢
  obtain ⟨xs, h1, h2⟩ := h
  exact ⟨xs, h1, RelL.cells hc h2⟩
 | .tup cs, v, h => by
  simp only [Rel] at h ⊢
  obtain ⟨xs, h1, h2⟩ := h
  exact ⟨xs, h1, RelL.cells hc h2⟩
 | .fn f cs, v, h => by
  simp only [Rel] at h ⊢
  obtain ⟨xs, h1, h2⟩ := h
  exact ⟨xs, h1, RelL.cells hc h2⟩
theorem RelL.cells {w w' : World} {Z : Nat → Prop} {μ : List Value} (hc : CK w w') : ∀ {cs : List AV} {vs : List Value}, RelL w Z μ cs vs → RelL w' Z μ cs vs
 | [], vs, h => by simpa [RelL] using h
 | c :: cs, vs, h => by
  rw [RelL] at h ⊢
  obtain ⟨x, xs, h1, h2, h3⟩ := h
  exact ⟨x, xs, h1, Rel.cells hc h2, RelL.cells hc h3⟩
end
theorem putObj_cells {w : World} {r : Nat} {o o' : Obj} (h : w.heap[r]? = some o) (hn : o.isCells = false) : CK w (w.putObj r o') := by
 refine ⟨fun a u hu => ?_, fun g cs t k hg => ?_⟩
 rotate_left
 ·have hne : g ≠ r := by
   rintro rfl
   rw [h] at hg
   cases hg
   cases hn
  rw [World.putObj_heap_other hne]
  exact hg
 have hne : a.block ≠ r := by
  rintro rfl
  unfold World.cell? at hu
  rw [h] at hu
  cases o <;> simp_all [Obj.isCells]
 rw [World.cell?_of_block (w := w) (World.putObj_heap_other hne)]
 exact hu
theorem ObjRel.turn {w : World} {Z : Nat → Prop} {μ : List Value} {B r : Nat} {o o' : Obj} {u : Value} {ob : AObj} (h : w.heap[r]? = some o) (hn : o.isCells = false) (hi : ∀ x, ob ≠ .inert x) (hO : ObjRel w Z μ B u ob) : ObjRel (w.putObj r o') Z μ B u ob := by
 have hc := putObj_cells (o' := o') h hn
 have hg : ∀ (g : Nat) cs t p, w.heap[g]? = some (Obj.cells cs t p) → (w.putObj r o').heap[g]? = w.heap[g]? := fun g cs t p hg => World.putObj_heap_other (by
  rintro rfl
  rw [h] at hg
  cases hg
  cases hn)
 cases ob with
 | box t cs =>
  obtain ⟨g, xs, h1, h2, h3, h4⟩ := hO
  exact ⟨g, xs, h1, h2, (hg _ _ _ _ h3).trans h3, h4.cells hc⟩
 | list e s n cs =>
  obtain ⟨xs, hown, hr⟩ := hO
  refine ⟨xs, ⟨hown.1, ?_⟩, hr.cells hc⟩
  rcases hown.2 with hn' | ⟨g, cap, cur, rfl, hB, hgg, rest⟩
  ·exact .inl hn'
  ·exact .inr ⟨g, cap, cur, rfl, hB, (hg _ _ _ _ hgg).trans hgg, rest⟩
 | dead => trivial
 | frame us cs => exact RelL.cells hc hO
 | inert x => exact absurd rfl (hi x)
theorem resV_bury {P : Program} {st : St} {i : Nat} {x : Inert} (hi : st.hp[i]? = some (.inert x)) (r : ResultVar) : resV P ⟨st.fr, st.hp.set i .dead⟩ r = resV P st r := by
 have hil := (List.getElem?_eq_some_iff.1 hi).1
 unfold resV
 cases r with
 | tmp t => rfl
 | cell p ty =>
  simp only
  split
  ·rename_i j o hp
   by_cases hji : i = j
   ·subst hji
    rw [List.getElem?_set_self hil, hi]
    cases aggB P ty with
    | none => rfl
    | some b => cases b <;> cases sizeB P ty <;> rfl
   ·rw [List.getElem?_set_ne hji]
  ·rfl
theorem resVs_bury {P : Program} {st : St} {i : Nat} {x : Inert} (hi : st.hp[i]? = some (.inert x)) : ∀ rs : List ResultVar, resVs P ⟨st.fr, st.hp.set i .dead⟩ rs = resVs P st rs
 | [] => rfl
 | r :: rs => by simp only [resVs, resV_bury hi r, resVs_bury hi rs]
mutual
theorem expA_bury {hp : List AObj} {i : Nat} {x : Inert} (hi : hp[i]? = some (.inert x)) : ∀ c : AV, expA (hp.set i .dead) c = expA hp c
 | .ref j => by
  simp only [expA]
  by_cases hji : i = j
  ·subst hji
   rw [List.getElem?_set_self (List.getElem?_eq_some_iff.1 hi).1, hi]
  ·rw [List.getElem?_set_ne hji]
 | .agg cs => by simp only [expA, expAL_bury hi cs]
 | .tup cs => by simp only [expA, expAL_bury hi cs]
 | .int k n => rfl
 | .bool b => rfl
 | .str s => rfl
 | .nil => rfl
 | .lst s n cs => rfl
 | .clp s n cs => rfl
 | .nam u o s n cs => rfl
 | .rptr cs => rfl
 | .own _ _ _ _ => rfl
 | .ptr _ _ => rfl
 | .fn _ _ => rfl
 | .top => rfl
theorem expAL_bury {hp : List AObj} {i : Nat} {x : Inert} (hi : hp[i]? = some (.inert x)) : ∀ cs : List AV, expAL (hp.set i .dead) cs = expAL hp cs
 | [] => rfl
 | c :: cs => by simp only [expAL, expA_bury hi c, expAL_bury hi cs]
end
theorem resOf_bury {P : Program} {fn : Func} {st : St} {i : Nat} {x : Inert} (hi : st.hp[i]? = some (.inert x)) : resOf0 P fn ⟨st.fr, st.hp.set i .dead⟩ = resOf0 P fn st := by
 unfold resOf0
 rw [resVs_bury hi]
 cases resVs P st fn.results.toList with
 | none => rfl
 | some vs =>
  simp only [expA_bury hi]
  have : (idsA (oneOf vs)).all (fun j => ((st.hp.set i .dead)[j]?).any isRow) = (idsA (oneOf vs)).all (fun j => (st.hp[j]?).any isRow) := by
   congr 1
   funext j
   by_cases hji : i = j
   ·subst hji
    rw [List.getElem?_set_self (List.getElem?_eq_some_iff.1 hi).1, hi]
    rfl
   ·rw [List.getElem?_set_ne hji]
  rw [this]
theorem HRel.shut {w : World} {Z : Nat → Prop} {B : Nat} {μ : List Value} {hp : List AObj} {i r : Nat} {o o' : Obj} (h : HRel w Z B μ hp) (hr : w.heap[r]? = some o) (hn : o.isCells = false)
  (hi : ∀ j x, hp[j]? = some (.inert x) → j = i) : HRel (w.putObj r o') Z B μ (hp.set i .dead) := by
 have get : ∀ (j : Nat) oj, (hp.set i .dead)[j]? = some oj → oj = .dead ∨ (hp[j]? = some oj ∧ ∀ x, oj ≠ .inert x) := by
  intro j oj hj
  by_cases hji : j = i
  ·subst hji
   rcases Nat.lt_or_ge j hp.length with hlt | hge
   ·rw [List.getElem?_set_self hlt] at hj; simp at hj; exact .inl hj.symm
   ·rw [List.getElem?_eq_none (by simpa using hge)] at hj; cases hj
  ·rw [List.getElem?_set_ne (Ne.symm hji)] at hj
   exact .inr ⟨hj, fun x e => hji (hi j x (by rw [hj, e]))⟩
 refine ⟨by simpa using h.len, fun j o u g h1 ha h2 hg => ?_, h.one, fun j oj u h1 h2 => ?_, fun j k oj ok uj uk g hne h1 h2 a1 a2 m1 m2 b1 b2 => ?_⟩
 ·rcases get j o h1 with rfl | ⟨h1, _⟩
  ·cases ha
  ·exact h.zone j o u g h1 ha h2 hg
 ·rcases get j oj h1 with rfl | ⟨h1, hx⟩
  ·trivial
  ·exact (h.obj j oj u h1 h2).turn hr hn hx
 ·rcases get j oj h1 with rfl | ⟨h1, _⟩
  ·cases a1
  ·rcases get k ok h2 with rfl | ⟨h2, _⟩
   ·cases a2
   ·exact h.sep j k oj ok uj uk g hne h1 h2 a1 a2 m1 m2 b1 b2
theorem noInert {hp : List AObj} (h : (hp.all fun o => !isInert o) = true) (i : Nat) (x : Inert) (hi : hp[i]? = some (.inert x)) : False := by
 have := List.all_eq_true.1 h _ (List.mem_of_getElem? hi)
 simp [isInert] at this
theorem oneInert_sound : ∀ {hp : List AObj}, oneInert hp = true → ∀ (i j : Nat) x y, hp[i]? = some (.inert x) → hp[j]? = some (.inert y) → i = j
 | [], _, i, j, x, y, h, _ => by simp at h
 | o :: hp, h, i, j, x, y, hi, hj => by
  unfold oneInert at h
  cases i with
  | zero =>
   cases j with
   | zero => rfl
   | succ j =>
    exfalso
    simp only [List.getElem?_cons_zero, List.getElem?_cons_succ, Option.some.injEq] at hi hj
    subst hi
    exact noInert h j y hj
  | succ i =>
   cases j with
   | zero =>
    exfalso
    simp only [List.getElem?_cons_zero, List.getElem?_cons_succ, Option.some.injEq] at hi hj
    subst hj
    exact noInert h i x hi
   | succ j =>
    simp only [List.getElem?_cons_succ] at hi hj
    split at h
    ·exact (noInert h i x hi).elim
    ·rw [oneInert_sound h i j x y hi hj]
theorem callA_of_run {P : Program} {f : FuncId} {fn : Func} {c : Code} {args : List AV} {res : AV} (hf : P.funcs[f]? = some fn) (hb : fn.body = some c) (hnm : (fn.name == "runtime.NumGoroutine") = false)
  (h : RunA none P c ⟨args ++ List.replicate (fn.ntmps - args.length) .top, []⟩ fun e st' => match e with | .normal => Returns P fn st' res | .ret => Returns P fn st' res | _ => False) : CallA P f args res := by
 refine ⟨enters_of hf hnm (by rw [hb]; rfl), ?_⟩
 intro Z0 w vs hvs
 have hlen := hvs.length
 refine callsIn_wide.1 (callsIn_of_wp_marks (F := Fence.wide) (n := 0) hf hb trivial ?_)
 have hS : Sim Z0 w ⟨args ++ List.replicate (fn.ntmps - args.length) .top, []⟩ { tmps := vs.toArray ++ Array.replicate (fn.ntmps - vs.toArray.size) undef, defers := [] } w := by
  refine ⟨[], NoF, fun b h => h.elim, ⟨rfl, fun i o u g h => by simp at h, fun i u h => by simp at h, fun i o u h => by simp at h, fun i j oi oj ui uj g _ h => by simp at h⟩, ?_, .inl rfl, Below.refl _ _⟩
  simp only [Array.toList_append, Array.toList_replicate, List.size_toArray, hlen]
  refine hvs.append ?_
  generalize fn.ntmps - args.length = n
  induction n with
  | zero => exact RelL.nil
  | succ n ih => exact RelL.cons (by simp [Rel]) ih
 refine wpIn_mono (h Z0 w _ w hS) ?_
 have fin : ∀ (st' : St) (a' : Act) (w' : World), Returns P fn st' res → Sim Z0 w st' a' w' → LeavesInM Fence.wide 0 P fn a'.tmps (fun e w'' => ∃ v' bs F', e = .returned v' ∧ (∀ b, F' b → w.heap.size ≤ b ∧ b < w''.heap.size) ∧ RF w'' (Zone Z0 F' w.heap.size) w.heap.size res v' bs ∧ bs.Nodup ∧ (∀ b ∈ bs, ¬ F' b) ∧ Below w.heap.size w w'') a'.defers .returning w' := by
  rintro st' a' w' hr ⟨μ, F, hFb, hH, hF, hd, hbel⟩
  have hr := resOf_parts hr
  rcases hd with hd | ⟨i, D, u, hi, hu, hd⟩
  ·rw [hd]
   obtain ⟨x, bs, h1, h2, h3, h4⟩ := resOf_run hH hF hr.1
   have hge := RF.ge h2
   refine ⟨x, h1, x, bs, F, rfl, hFb, h2, h3, fun b hb hf => ?_, hbel⟩
   have := hge b hb
   exact (h4 b hb).elim (fun h => absurd h.1 (by omega)) (fun h => h.2 hf)
  ·rw [hd]
   obtain ⟨_, ⟨hB, hz⟩, hD⟩ := hH.obj i _ _ hi hu
   have hH2 := hH.shut (i := i) (o' := .deferred none) hD rfl (fun j x hj => oneInert_sound hr.2 j i x _ hj hi)
   have hF2 := hF.cells (putObj_cells (o' := .deferred none) hD rfl)
   obtain ⟨x, bs, h1, h2, h3, h4⟩ := resOf_run (st := ⟨st'.fr, st'.hp.set i .dead⟩) hH2 hF2 (by rw [resOf_bury hi]; exact hr.1)
   have hge := RF.ge h2
   refine ⟨by simp, .inl ⟨D, _, rfl, run_takeDeferred hD, x, h1, x, bs, F, rfl, fun b hb => by rw [World.putObj_size]; exact hFb b hb, h2, h3, fun b hb hf => ?_, ?_⟩⟩
   ·have := hge b hb
    exact (h4 b hb).elim (fun h => absurd h.1 (by omega)) (fun h => h.2 hf)
   ·exact hbel.grown (grownBy_putObj' w' D _) (by have := (Array.getElem?_eq_some_iff.1 hD).1; omega) (fun k e => by cases e; omega)
 rintro e a' w' ⟨st', hq, hS'⟩
 cases e with
 | normal => exact fin st' a' w' hq hS'
 | ret => exact fin st' a' w' hq hS'
 | exit id => exact hq.elim
 | goto l => exact hq.elim
 | panic ch => exact hq.elim
 | outgrown => exact hq.elim
end Go.Abs

/-! A reckoner: the operations that need no premise, carried out by a function. -/
namespace Go.Abs
open Go.RowKit
def wantedE (ops : Array Oper) (o : Oper) (fr : List AV) : Option Bool :=
 match o.guard with
 | none => some true
 | some (j, w) =>
  match yieldA ops fr j with
  | some b => some (b == w)
  | none => if noA ops fr j w then some false else none
def effE (P : Program) (e : Operand → AV) (hp : List AObj) (op : Op) : Option (AV × List AObj) :=
 match op with
 | .move x | .assign x => some (e x, [])
 | .pick c a b =>
  match e c with
  | .bool t => some (if t then e a else e b, [])
  | _ => none
 | .binOp op t x y _ =>
  match op, e x, e y with
  | .quo, .int k m, .int k' n => if k = k' ∧ n ≠ 0 then some (.int k (k.wrap (m.tdiv n)), []) else none
  | .rem, .int k m, .int k' n => if k = k' ∧ n ≠ 0 then some (.int k (m.tmod n), []) else none
  | .shl, .int k m, .int _ n => if 0 ≤ n then some (.int k (k.wrap (m * 2 ^ (min n.toNat k.bits))), []) else none
  | .shr, .int k m, .int _ n => if 0 ≤ n then some (.int k (m.fdiv (2 ^ (min n.toNat k.bits))), []) else none
  | op, .int k m, .int k' n => if k = k' then (binA op k m n).map fun v => (v, []) else none
  | .eql, .bool a, .bool b => match P.underlying t with | some .bool => some (.bool (a == b), []) | _ => none
  | .neq, .bool a, .bool b => match P.underlying t with | some .bool => some (.bool (!(a == b)), []) | _ => none
  | _, _, _ => none
 | .unOp .not _ x => match e x with | .bool a => some (.bool (!a), []) | _ => none
 | .unOp .neg _ x => match e x with | .int k n => some (.int k (k.wrap (0 - n)), []) | _ => none
 | .convert s d x =>
  match e x, intB P d with
  | .int _ n, some k' => if (P.underlying s).isSome then some (.int k' (k'.wrap n), []) else none
  | _, _ => none
 | .extract x i => match e x with | .tup cs => (cs[i]?).map fun v => (v, []) | _ => none
 | .nilCheck x => match e x with
  | .ptr i o => some (.ptr i o, [])
  | .rptr cs => some (.rptr cs, [])
  | _ => none
 | .fieldAddr s x f =>
  match e x, fieldB P s f with
  | .ptr i o, some (off, k) => if k ≠ 0 then some (.ptr i (o + off), []) else none
  | .rptr cs, some (off, k) => if k ≠ 0 then some (.rptr (cs.drop off), []) else none
  | _, _ => none
 | .field s x f =>
  match e x, fieldC P s f with
  | .agg cs, some (off, _, false) => (cs[off]?).map fun v => (v, [])
  | .agg cs, some (off, k, true) => some (.agg ((cs.drop off).take k), [])
  | _, _ => none
 | .load t x =>
  match e x with
  | .ptr i o =>
   match hp[i]?, aggB P t, sizeB P t with
   | some ob, some false, _ => (ob.cells[o]?).map fun v => (v, [])
   | some ob, some true, some k => if o + k ≤ ob.cells.length then some (.agg ((ob.cells.drop o).take k), []) else none
   | _, _, _ => none
  | .rptr cs =>
   match aggB P t, sizeB P t with
   | some false, _ => (cs[0]?).map fun v => (v, [])
   | some true, some k => if k ≤ cs.length then some (.agg (cs.take k), []) else none
   | _, _ => none
  | _ => none
 | .call c =>
  match c.callee, c.args.toList, c.argTypes.toList with
  | .builtin .len, [x], [t] =>
   if (elemB P t).isSome then
    match e x with
    | .lst _ n _ => some (.int .i64 n, [])
    | .nam _ _ _ n _ => some (.int .i64 n, [])
    | .ref i => match hp[i]? with | some (.list _ _ n _) => some (.int .i64 n, []) | _ => none
    | .nil => some (.int .i64 0, [])
    | _ => none
   else none
  | .builtin .cap, [x], [t] => if (elemB P t).isSome then (match e x with | .nil => some (.int .i64 0, []) | _ => none) else none
  | .builtin .max, [x, y], _ => match e x, e y with
   | .int k m, .int k' n => if k = k' then some (.int k (if n > m then n else m), []) else none
   | _, _ => none
  | .builtin .min, [x, y], _ => match e x, e y with
   | .int k m, .int k' n => if k = k' then some (.int k (if n < m then n else m), []) else none
   | _, _ => none
  | _, _, _ => none
 | .slice t x none (some hi) none => match e x, e hi with
  | .nil, .int _ (.ofNat 0) => if (elemB P t).isSome then some (.nil, []) else none
  | _, _ => none
 | .alloc t => (zeroB P t).map fun cs => (.ptr hp.length 0, [.box t cs])
 | .box t x => if (e x).full then some (.ptr hp.length 0, [.box t (e x).cells]) else none
 | .makeFunc (.func f) first caps => match first.toList with | [] => some (.fn f (caps.toList.map e), []) | _ => none
 | .build t parts =>
  match placesB P t, zeroB P t with
  | some pl, some zs => (fillA (pl[·]?) zs (parts.toList.map fun x => (x.1, e x.2))).map fun cs => (.agg cs, [])
  | _, _ => none
 | .buildSlice t n parts =>
  match rowB P t with
  | some (el, s, zs, _) =>
   if n * s ≤ 16777216 then
    match fillA (fun i => some (i * s, s)) (zerosA zs s n) (parts.toList.map fun x => (x.1, e x.2)) with
    | some cs => if leafyL cs then some (.ref hp.length, [.list el s n cs]) else none
    | none => none
   else none
  | _ => none
 | .indexAddr t x y =>
  match e x, e y, elemB P t with
  | .lst s n cs, .int _ j, some (_, s') => if s' = s ∧ s ≠ 0 ∧ 0 ≤ j ∧ j < n then some (.rptr (cs.drop (j.toNat * s)), []) else none
  | .ref i, .int _ j, some (el', s') => match hp[i]? with | some (.list el s n _) => if el' = el ∧ s' = s ∧ s ≠ 0 ∧ 0 ≤ j ∧ j < n then some (.ptr i (j.toNat * s), []) else none | _ => none
  | _, _, _ => none
 | .makeSlice t x y =>
  match rowB P t, e x, e y with
  | some (el, s, zs, b), .int _ (.ofNat n), .int _ (.ofNat n') => if n' = n ∧ b * n ≤ 140737488355328 ∧ n ≤ maxLen then some (.ref hp.length, [.list el s n (zerosA zs s n)]) else none
  | _, _, _ => none
 | _ => none
def storeE (P : Program) (e : Operand → AV) (hp : List AObj) (op : Op) : Option (List AObj) :=
 match op with
 | .store t p x =>
  match e p with
  | .ptr i o =>
   match hp[i]?, sizeB P t with
   | some ob, some 1 => if (e x).one && decide (o < ob.cells.length) && (!ob.flat || (e x).leafy) then some (hp.set i (ob.withCells (ob.cells.set o (e x)))) else none
   | some ob, some k =>
    match e x with
    | .agg cs => if cs.length = k ∧ cs.all AV.one ∧ o + cs.length ≤ ob.cells.length ∧ (!cs.isEmpty) = true ∧ (!ob.flat || leafyL cs) = true then some (hp.set i (ob.withCells (setMany ob.cells o cs))) else none
    | _ => none
   | _, _ => none
  | _ => none
 | _ => none
theorem wantedE_false {ops : Array Oper} {o : Oper} {fr : List AV} (h : wantedE ops o fr = some false) : ∃ j w, o.guard = some (j, w) ∧ noA ops fr j w = true := by
 unfold wantedE at h
 split at h
 ·cases h
 ·rename_i j w hg
  refine ⟨j, w, hg, ?_⟩
  split at h
  ·rename_i b hy
   simp only [Option.some.injEq, beq_eq_false_iff_ne] at h
   unfold yieldA at hy
   unfold noA
   split at hy
   ·rename_i heq
    cases hy
    rw [heq]
    simpa using h
   ·cases hy
  ·split at h
   ·assumption
   ·cases h
theorem effE_sound {P : Program} {e : Operand → AV} {hp : List AObj} {op : Op} {v : AV} {news : List AObj} (h : effE P e hp op = some (v, news)) : EffR P e hp op v news := by
 unfold effE at h
 split at h
 ·cases h; exact .move
 ·cases h; exact .assign
 ·split at h
  ·rename_i t hc; cases h; exact .pick t hc
  ·cases h
 ·split at h
  ·rename_i k m k' n hx hy
   split at h
   ·rename_i hc; cases h; obtain ⟨rfl, hn⟩ := hc; exact .quo k m n hx hy hn
   ·cases h
  ·rename_i k m k' n hx hy
   split at h
   ·rename_i hc; cases h; obtain ⟨rfl, hn⟩ := hc; exact .rem k m n hx hy hn
   ·cases h
  ·rename_i k m k' n hx hy
   split at h
   ·rename_i hc; cases h; exact .shl k k' m n hx hy hc
   ·cases h
  ·rename_i k m k' n hx hy
   split at h
   ·rename_i hc; cases h; exact .shr k k' m n hx hy hc
   ·cases h
  ·rename_i k m k' n _ _ _ _ hx hy
   split at h
   ·rename_i hc
    subst hc
    simp only [Option.map_eq_some_iff, Prod.mk.injEq] at h
    obtain ⟨v', hv, rfl, rfl⟩ := h
    exact .bin k m n hx hy hv
   ·cases h
  ·rename_i a b hx hy
   split at h
   ·rename_i ht; cases h; exact .eqlB a b hx hy ht
   ·cases h
  ·rename_i a b hx hy
   split at h
   ·rename_i ht; cases h; exact .neqB a b hx hy ht
   ·cases h
  ·cases h
 ·split at h
  ·rename_i a hx; cases h; exact .not a hx
  ·cases h
 ·split at h
  ·rename_i k n hx; cases h; exact .neg k n hx
  ·cases h
 ·split at h
  ·rename_i k n k' hx hd
   split at h
   ·rename_i hs; cases h; exact .conv k k' n hx hs hd
   ·cases h
  ·cases h
 ·split at h
  ·rename_i cs hx
   simp only [Option.map_eq_some_iff, Prod.mk.injEq] at h
   obtain ⟨v', hv, rfl, rfl⟩ := h
   exact .extract cs hx hv
  ·cases h
 ·split at h
  ·rename_i i o hx; cases h; exact .nilP i o hx
  ·rename_i cs hx; cases h; exact .nilR cs hx
  ·cases h
 ·split at h
  ·rename_i i o off k hx hf
   split at h
   ·rename_i hk; cases h; exact .fieldAddr i o off k hx hf hk
   ·cases h
  ·rename_i cs off k hx hf
   split at h
   ·rename_i hk; cases h; exact .fieldAddrR cs off k hx hf hk
   ·cases h
  ·cases h
 ·split at h
  ·rename_i cs off k hx hf
   simp only [Option.map_eq_some_iff, Prod.mk.injEq] at h
   obtain ⟨v', hv, rfl, rfl⟩ := h
   exact .field1 cs off k hx hf hv
  ·rename_i cs off k hx hf
   cases h
   exact .fieldN cs off k hx hf
  ·cases h
 ·split at h
  ·rename_i i o hx
   split at h
   ·rename_i ob hi ht
    simp only [Option.map_eq_some_iff, Prod.mk.injEq] at h
    obtain ⟨v', hv, rfl, rfl⟩ := h
    exact .load i o ob hx hi ht hv
   ·rename_i ob k hi ht hk
    split at h
    ·rename_i hl; cases h; exact .loadN i o k ob hx hi ht hk hl
    ·cases h
   ·cases h
  ·rename_i cs hx
   split at h
   ·rename_i ht
    simp only [Option.map_eq_some_iff, Prod.mk.injEq] at h
    obtain ⟨v', hv, rfl, rfl⟩ := h
    exact .loadR cs hx ht hv
   ·rename_i k ht hk
    split at h
    ·rename_i hl; cases h; exact .loadRN cs k hx ht hk hl
    ·cases h
   ·cases h
  ·cases h
 ·rename_i c
  obtain ⟨callee, args, tys⟩ := c
  split at h
  ·rename_i x t h1 h2 h3
   simp only at h1 h2 h3
   subst h1
   obtain rfl : args = #[x] := Array.toList_inj.1 (by simpa using h2)
   obtain rfl : tys = #[t] := Array.toList_inj.1 (by simpa using h3)
   split at h
   ·rename_i ht
    split at h
    ·rename_i s n cs hx; cases h; exact .lenR s n cs hx ht
    ·rename_i v o s n cs hx; cases h; exact .lenV v o s n cs hx ht
    ·rename_i i hx
     split at h
     ·rename_i el s n cs hi; cases h; exact .lenO i el s n cs hx hi ht
     ·cases h
    ·rename_i hx; cases h; exact .lenN hx ht
    ·cases h
   ·cases h
  ·rename_i x t h1 h2 h3
   simp only at h1 h2 h3
   subst h1
   obtain rfl : args = #[x] := Array.toList_inj.1 (by simpa using h2)
   obtain rfl : tys = #[t] := Array.toList_inj.1 (by simpa using h3)
   split at h
   ·rename_i ht
    split at h
    ·rename_i hx; cases h; exact .capN hx ht
    ·cases h
   ·cases h
  ·rename_i x y h1 h2
   simp only at h1 h2
   subst h1
   obtain rfl : args = #[x, y] := Array.toList_inj.1 (by simpa using h2)
   split at h
   ·rename_i k m k' n hx hy
    split at h
    ·rename_i hk; cases h; subst hk; exact .max2 k m n hx hy
    ·cases h
   ·cases h
  ·rename_i x y h1 h2
   simp only at h1 h2
   subst h1
   obtain rfl : args = #[x, y] := Array.toList_inj.1 (by simpa using h2)
   split at h
   ·rename_i k m k' n hx hy
    split at h
    ·rename_i hk; cases h; subst hk; exact .min2 k m n hx hy
    ·cases h
   ·cases h
  ·cases h
 ·split at h
  ·rename_i k hx hh
   split at h
   ·rename_i ht; cases h; exact .sliceN k hx hh ht
   ·cases h
  ·cases h
 ·simp only [Option.map_eq_some_iff, Prod.mk.injEq] at h
  obtain ⟨cs, hz, rfl, rfl⟩ := h
  exact .alloc cs hz
 ·split at h
  ·rename_i hx; cases h; exact .box hx
  ·cases h
 ·split at h
  ·rename_i f first caps _ h1
   obtain rfl : first = #[] := Array.toList_inj.1 (by simpa using h1)
   cases h; exact .makeFunc
  ·cases h
 ·split at h
  ·rename_i pl zs hp' hz
   simp only [Option.map_eq_some_iff, Prod.mk.injEq] at h
   obtain ⟨cs, hf, rfl, rfl⟩ := h
   exact .build pl zs cs hp' hz hf
  ·cases h
 ·split at h
  ·rename_i el s zs b ht
   split at h
   ·rename_i hn
    split at h
    ·rename_i cs hf
     split at h
     ·rename_i hlf
      cases h
      exact .buildSlice el s b zs cs ht hn hf hlf
     ·cases h
    ·cases h
   ·cases h
  ·cases h
 ·split at h
  ·rename_i s n cs k j el s' hx hy ht
   split at h
   ·rename_i hc
    obtain ⟨rfl, h1, h2, h3⟩ := hc
    cases h
    exact .indexAddr s' n cs k j el hx hy ht h1 h2 h3
   ·cases h
  ·rename_i i k j el' s' hx hy ht
   split at h
   ·rename_i el s n cs hi
    split at h
    ·rename_i hc
     obtain ⟨rfl, rfl, h1, h2, h3⟩ := hc
     cases h
     exact .indexAddrO i el' s' n cs k j hx hi hy ht h1 h2 h3
    ·cases h
   ·cases h
  ·cases h
 ·split at h
  ·rename_i el s zs b k n k' n' ht hx hy
   split at h
   ·rename_i hc
    obtain ⟨rfl, h1, h2⟩ := hc
    cases h
    exact .makeSlice el s b n' k k' zs ht hx hy h1 h2
   ·cases h
  ·cases h
 ·cases h
theorem storeE_sound {P : Program} {e : Operand → AV} {hp hp' : List AObj} {op : Op} (h : storeE P e hp op = some hp') : EffW P e hp op .top none hp' := by
 unfold storeE at h
 split at h
 ·split at h
  ·rename_i i o hx
   split at h
   ·rename_i ob hi hs
    split at h
    ·rename_i hc
     simp only [Bool.and_eq_true, decide_eq_true_eq] at hc
     cases h
     exact .store1 i o ob hx hi hs hc.1.1 hc.1.2 hc.2
    ·cases h
   ·rename_i ob k _ hi hs
    split at h
    ·rename_i cs hcs
     split at h
     ·rename_i hc
      obtain ⟨rfl, h1, h2, h3, h4⟩ := hc
      cases h
      exact .storeN i o ob cs hx hcs hi hs (by simpa using h1) h2 (by simpa using h3) h4
     ·cases h
    ·cases h
   ·cases h
  ·cases h
 ·cases h
theorem wantedE_true {ops : Array Oper} {o : Oper} {fr : List AV} (h : wantedE ops o fr = some true) : WantedA ops o fr := by
 unfold wantedE at h
 split at h
 ·rename_i hg; exact .inl hg
 ·rename_i j w hg
  split at h
  ·rename_i b hy
   simp only [Option.some.injEq, beq_iff_eq] at h
   subst h
   exact .inr ⟨j, b, hg, hy⟩
  ·split at h <;> cases h
end Go.Abs

/-! Regions whose order is drawn: where what may change places does not mind, the order of the text tells all. -/
namespace Go.Abs
open Go.RowKit

section
variable {P : Program} {e e' : Operand → AV} {hp : List AObj}
theorem parts_congr {parts : Array (Nat × Operand)} (h : ∀ x ∈ (parts.toList.map (·.2)), e x = e' x) : (parts.toList.map fun x => (x.1, e x.2)) = parts.toList.map fun x => (x.1, e' x.2) := by
 apply List.map_congr_left
 intro x hx
 rw [h x.2 (List.mem_map.2 ⟨x, hx, rfl⟩)]
theorem EffR.congr {op : Op} {v : AV} {news : List AObj} (hx : ∀ x ∈ op.operands.toList, e x = e' x) (h : EffR P e hp op v news) : EffR P e' hp op v news := by
 cases h
 case move x => rw [hx x (by simp [Op.operands])]; exact .move
 case assign x => rw [hx x (by simp [Op.operands])]; exact .assign
 case pick c a b t h =>
  rw [hx a (by simp [Op.operands]), hx b (by simp [Op.operands])]
  exact .pick t (by rw [← hx c (by simp [Op.operands])]; exact h)
 case bin k m n h1 h2 hv => exact .bin k m n (by rw [← hx _ (by simp [Op.operands])]; exact h1) (by rw [← hx _ (by simp [Op.operands])]; exact h2) hv
 case quo k m n h1 h2 hv => exact .quo k m n (by rw [← hx _ (by simp [Op.operands])]; exact h1) (by rw [← hx _ (by simp [Op.operands])]; exact h2) hv
 case rem k m n h1 h2 hv => exact .rem k m n (by rw [← hx _ (by simp [Op.operands])]; exact h1) (by rw [← hx _ (by simp [Op.operands])]; exact h2) hv
 case shl k k' m n h1 h2 hv => exact .shl k k' m n (by rw [← hx _ (by simp [Op.operands])]; exact h1) (by rw [← hx _ (by simp [Op.operands])]; exact h2) hv
 case shr k k' m n h1 h2 hv => exact .shr k k' m n (by rw [← hx _ (by simp [Op.operands])]; exact h1) (by rw [← hx _ (by simp [Op.operands])]; exact h2) hv
 case eqlB a b h1 h2 ht => exact .eqlB a b (by rw [← hx _ (by simp [Op.operands])]; exact h1) (by rw [← hx _ (by simp [Op.operands])]; exact h2) ht
 case neqB a b h1 h2 ht => exact .neqB a b (by rw [← hx _ (by simp [Op.operands])]; exact h1) (by rw [← hx _ (by simp [Op.operands])]; exact h2) ht
 case catS a b h1 h2 hs => exact .catS a b (by rw [← hx _ (by simp [Op.operands])]; exact h1) (by rw [← hx _ (by simp [Op.operands])]; exact h2) hs
 case eqlS a b h1 h2 => exact .eqlS a b (by rw [← hx _ (by simp [Op.operands])]; exact h1) (by rw [← hx _ (by simp [Op.operands])]; exact h2)
 case neqS a b h1 h2 => exact .neqS a b (by rw [← hx _ (by simp [Op.operands])]; exact h1) (by rw [← hx _ (by simp [Op.operands])]; exact h2)
 case not a h1 => exact .not a (by rw [← hx _ (by simp [Op.operands])]; exact h1)
 case neg k n h1 => exact .neg k n (by rw [← hx _ (by simp [Op.operands])]; exact h1)
 case conv k k' n h1 hs hd => exact .conv k k' n (by rw [← hx _ (by simp [Op.operands])]; exact h1) hs hd
 case extract cs h1 hi => exact .extract cs (by rw [← hx _ (by simp [Op.operands])]; exact h1) hi
 case nilP i o h1 => exact .nilP i o (by rw [← hx _ (by simp [Op.operands])]; exact h1)
 case nilR cs h1 => exact .nilR cs (by rw [← hx _ (by simp [Op.operands])]; exact h1)
 case fieldAddr i o off k h1 hf hk => exact .fieldAddr i o off k (by rw [← hx _ (by simp [Op.operands])]; exact h1) hf hk
 case indexA cs k j n el h1 h2 ht h0 h3 hv => exact .indexA cs k j n el (by rw [← hx _ (by simp [Op.operands])]; exact h1) (by rw [← hx _ (by simp [Op.operands])]; exact h2) ht h0 h3 hv
 case indexAddrA i o k j n el h1 h2 ht h0 h3 => exact .indexAddrA i o k j n el (by rw [← hx _ (by simp [Op.operands])]; exact h1) (by rw [← hx _ (by simp [Op.operands])]; exact h2) ht h0 h3
 case fieldAddrR cs off k h1 hf hk => exact .fieldAddrR cs off k (by rw [← hx _ (by simp [Op.operands])]; exact h1) hf hk
 case field1 cs off k h1 hf hv => exact .field1 cs off k (by rw [← hx _ (by simp [Op.operands])]; exact h1) hf hv
 case fieldN cs off k h1 hf => exact .fieldN cs off k (by rw [← hx _ (by simp [Op.operands])]; exact h1) hf
 case indexAddr s n cs k j el h1 h2 ht hs h0 h3 => exact .indexAddr s n cs k j el (by rw [← hx _ (by simp [Op.operands])]; exact h1) (by rw [← hx _ (by simp [Op.operands])]; exact h2) ht hs h0 h3
 case indexAddrE s n cs k j el ds rest h1 h2 ht hs h0 h3 hd => exact .indexAddrE s n cs k j el ds rest (by rw [← hx _ (by simp [Op.operands])]; exact h1) (by rw [← hx _ (by simp [Op.operands])]; exact h2) ht hs h0 h3 hd
 case indexAddrV v o s n cs k j el ds rest h1 h2 ht hs h0 h3 hd => exact .indexAddrV v o s n cs k j el ds rest (by rw [← hx _ (by simp [Op.operands])]; exact h1) (by rw [← hx _ (by simp [Op.operands])]; exact h2) ht hs h0 h3 hd
 case indexAddrO i el s n cs k j h1 hi h2 ht hs h0 h3 => exact .indexAddrO i el s n cs k j (by rw [← hx _ (by simp [Op.operands])]; exact h1) hi (by rw [← hx _ (by simp [Op.operands])]; exact h2) ht hs h0 h3
 case load i o ob h1 hi ht hv => exact .load i o ob (by rw [← hx _ (by simp [Op.operands])]; exact h1) hi ht hv
 case loadN i o k ob h1 hi ht hk hl => exact .loadN i o k ob (by rw [← hx _ (by simp [Op.operands])]; exact h1) hi ht hk hl
 case loadR cs h1 ht hv => exact .loadR cs (by rw [← hx _ (by simp [Op.operands])]; exact h1) ht hv
 case loadRN cs k h1 ht hk hl => exact .loadRN cs k (by rw [← hx _ (by simp [Op.operands])]; exact h1) ht hk hl
 case lenR s n cs h1 ht => exact .lenR s n cs (by rw [← hx _ (by simp [Op.operands, Call.operands])]; exact h1) ht
 case lenV v o s n cs h1 ht => exact .lenV v o s n cs (by rw [← hx _ (by simp [Op.operands, Call.operands])]; exact h1) ht
 case lenO i el s n cs h1 hi ht => exact .lenO i el s n cs (by rw [← hx _ (by simp [Op.operands, Call.operands])]; exact h1) hi ht
 case lenN h1 ht => exact .lenN (by rw [← hx _ (by simp [Op.operands, Call.operands])]; exact h1) ht
 case capN h1 ht => exact .capN (by rw [← hx _ (by simp [Op.operands, Call.operands])]; exact h1) ht
 case sliceN k h1 h2 ht => exact .sliceN k (by rw [← hx _ (by simp [Op.operands])]; exact h1) (by rw [← hx _ (by simp [Op.operands])]; exact h2) ht
 case max2 k m n h1 h2 => exact .max2 k m n (by rw [← hx _ (by simp [Op.operands, Call.operands])]; exact h1) (by rw [← hx _ (by simp [Op.operands, Call.operands])]; exact h2)
 case min2 k m n h1 h2 => exact .min2 k m n (by rw [← hx _ (by simp [Op.operands, Call.operands])]; exact h1) (by rw [← hx _ (by simp [Op.operands, Call.operands])]; exact h2)
 case makeSliceC el s b n c k k' zs ht h1 h2 hnc hb hn => exact .makeSliceC el s b n c k k' zs ht (by rw [← hx _ (by simp [Op.operands])]; exact h1) (by rw [← hx _ (by simp [Op.operands])]; exact h2) hnc hb hn
 case alloc t cs hz => exact .alloc cs hz
 case box t x h1 =>
  rw [hx x (by simp [Op.operands])] at h1 ⊢
  exact .box h1
 case makeFunc f caps =>
  have : caps.toList.map e = caps.toList.map e' := List.map_congr_left fun x h => hx x (by simp [Op.operands]; simpa using h)
  rw [this]
  exact .makeFunc
 case build t parts pl zs cs h1 hz hf =>
  refine .build pl zs cs h1 hz ?_
  rw [← parts_congr (e := e) (fun x h => hx x (by simpa [Op.operands] using h))]
  exact hf
 case buildA t parts n el zs cs h1 hz hf =>
  refine .buildA n el zs cs h1 hz ?_
  rw [← parts_congr (e := e) (fun x h => hx x (by simpa [Op.operands] using h))]
  exact hf
 case buildSlice t n parts el s b zs cs ht hn hf hlf =>
  refine .buildSlice el s b zs cs ht hn ?_ hlf
  rw [← parts_congr (e := e) (fun x h => hx x (by simpa [Op.operands] using h))]
  exact hf
 case makeSlice el s b n k k' zs ht h1 h2 hb hn => exact .makeSlice el s b n k k' zs ht (by rw [← hx _ (by simp [Op.operands])]; exact h1) (by rw [← hx _ (by simp [Op.operands])]; exact h2) hb hn
 case sliceLH s n el cs k k' l h h1 h2 h3 ht h4 h5 => exact .sliceLH s n el cs k k' l h (by rw [← hx _ (by simp [Op.operands])]; exact h1) (by rw [← hx _ (by simp [Op.operands])]; exact h2) (by rw [← hx _ (by simp [Op.operands])]; exact h3) ht h4 h5
 case sliceL s n el cs k l h1 h2 ht h4 => exact .sliceL s n el cs k l (by rw [← hx _ (by simp [Op.operands])]; exact h1) (by rw [← hx _ (by simp [Op.operands])]; exact h2) ht h4
 case sliceH s n el cs k h h1 h2 ht h4 => exact .sliceH s n el cs k h (by rw [← hx _ (by simp [Op.operands])]; exact h1) (by rw [← hx _ (by simp [Op.operands])]; exact h2) ht h4
 case sliceHM t x hi mx s n el cs k k' h1 h2 h3 ht => exact .sliceHM s n el cs k k' (by rw [← hx _ (by simp [Op.operands])]; exact h1) (by rw [← hx _ (by simp [Op.operands])]; exact h2) (by rw [← hx _ (by simp [Op.operands])]; exact h3) ht
 case sliceLHM s n el cs k k' k'' l h m h1 h2 h3 h6 ht h4 h5 h7 => exact .sliceLHM s n el cs k k' k'' l h m (by rw [← hx _ (by simp [Op.operands])]; exact h1) (by rw [← hx _ (by simp [Op.operands])]; exact h2) (by rw [← hx _ (by simp [Op.operands])]; exact h3) (by rw [← hx _ (by simp [Op.operands])]; exact h6) ht h4 h5 h7
theorem get_more {hp nj : List AObj} {i : Nat} {o : AObj} (h : hp[i]? = some o) : (hp ++ nj)[i]? = some o := by
 rw [List.getElem?_append_left (List.getElem?_eq_some_iff.1 h).1]; exact h
theorem EffR.more (nj : List AObj) {op : Op} {v : AV} {news : List AObj} (h : EffR P e hp op v news) (hn : news = []) : EffR P e (hp ++ nj) op v news := by
 cases h
 case move x => exact .move
 case assign x => exact .assign
 case pick c a b t h => exact .pick t h
 case bin k m n h1 h2 hv => exact .bin k m n h1 h2 hv
 case quo k m n h1 h2 hv => exact .quo k m n h1 h2 hv
 case rem k m n h1 h2 hv => exact .rem k m n h1 h2 hv
 case shl k k' m n h1 h2 hv => exact .shl k k' m n h1 h2 hv
 case shr k k' m n h1 h2 hv => exact .shr k k' m n h1 h2 hv
 case eqlB a b h1 h2 ht => exact .eqlB a b h1 h2 ht
 case neqB a b h1 h2 ht => exact .neqB a b h1 h2 ht
 case catS a b h1 h2 hs => exact .catS a b h1 h2 hs
 case eqlS a b h1 h2 => exact .eqlS a b h1 h2
 case neqS a b h1 h2 => exact .neqS a b h1 h2
 case not a h1 => exact .not a h1
 case neg k n h1 => exact .neg k n h1
 case conv k k' n h1 hs hd => exact .conv k k' n h1 hs hd
 case extract cs h1 hi => exact .extract cs h1 hi
 case nilP i o h1 => exact .nilP i o h1
 case nilR cs h1 => exact .nilR cs h1
 case fieldAddr i o off k h1 hf hk => exact .fieldAddr i o off k h1 hf hk
 case indexA cs k j n el h1 h2 ht h0 h3 hv => exact .indexA cs k j n el h1 h2 ht h0 h3 hv
 case indexAddrA i o k j n el h1 h2 ht h0 h3 => exact .indexAddrA i o k j n el h1 h2 ht h0 h3
 case fieldAddrR cs off k h1 hf hk => exact .fieldAddrR cs off k h1 hf hk
 case field1 cs off k h1 hf hv => exact .field1 cs off k h1 hf hv
 case fieldN cs off k h1 hf => exact .fieldN cs off k h1 hf
 case indexAddr s n cs k j el h1 h2 ht hs h0 h3 => exact .indexAddr s n cs k j el h1 h2 ht hs h0 h3
 case indexAddrE s n cs k j el ds rest h1 h2 ht hs h0 h3 hd => exact .indexAddrE s n cs k j el ds rest h1 h2 ht hs h0 h3 hd
 case indexAddrV v o s n cs k j el ds rest h1 h2 ht hs h0 h3 hd => exact .indexAddrV v o s n cs k j el ds rest h1 h2 ht hs h0 h3 hd
 case indexAddrO i el s n cs k j h1 hi h2 ht hs h0 h3 => exact .indexAddrO i el s n cs k j h1 (get_more hi) h2 ht hs h0 h3
 case load i o ob h1 hi ht hv => exact .load i o ob h1 (get_more hi) ht hv
 case loadN i o k ob h1 hi ht hk hl => exact .loadN i o k ob h1 (get_more hi) ht hk hl
 case loadR cs h1 ht hv => exact .loadR cs h1 ht hv
 case loadRN cs k h1 ht hk hl => exact .loadRN cs k h1 ht hk hl
 case lenR s n cs h1 ht => exact .lenR s n cs h1 ht
 case lenV v o s n cs h1 ht => exact .lenV v o s n cs h1 ht
 case lenO i el s n cs h1 hi ht => exact .lenO i el s n cs h1 (get_more hi) ht
 case lenN h1 ht => exact .lenN h1 ht
 case capN h1 ht => exact .capN h1 ht
 case sliceN k h1 h2 ht => exact .sliceN k h1 h2 ht
 case max2 k m n h1 h2 => exact .max2 k m n h1 h2
 case min2 k m n h1 h2 => exact .min2 k m n h1 h2
 case makeFunc f caps => exact .makeFunc
 case build t parts pl zs cs h1 hz hf => exact .build pl zs cs h1 hz hf
 case buildA t parts n el zs cs h1 hz hf => exact .buildA n el zs cs h1 hz hf
 case sliceLH s n el cs k k' l h h1 h2 h3 ht h4 h5 => exact .sliceLH s n el cs k k' l h h1 h2 h3 ht h4 h5
 case sliceL s n el cs k l h1 h2 ht h4 => exact .sliceL s n el cs k l h1 h2 ht h4
 case sliceH s n el cs k h h1 h2 ht h4 => exact .sliceH s n el cs k h h1 h2 ht h4
 case sliceHM t x hi mx s n el cs k k' h1 h2 h3 ht => exact .sliceHM s n el cs k k' h1 h2 h3 ht
 case sliceLHM s n el cs k k' k'' l h m h1 h2 h3 h6 ht h4 h5 h7 => exact .sliceLHM s n el cs k k' k'' l h m h1 h2 h3 h6 ht h4 h5 h7
 all_goals cases hn
mutual
theorem imp_none : ∀ {c : AV} {k : Nat} (k' : Nat), (imp k c).2 = [] → imp k' c = imp k c
 | .own e s n cs, k, k', h => by simp [imp] at h
 | .agg cs, k, k', h => by
  simp only [imp] at h ⊢
  have := impL_none k' h
  rw [this]
 | .tup cs, k, k', h => by
  simp only [imp] at h ⊢
  have := impL_none k' h
  rw [this]
 | .int _ _, _, _, _ => rfl
 | .bool _, _, _, _ => rfl
 | .str _, _, _, _ => rfl
 | .nil, _, _, _ => rfl
 | .lst _ _ _, _, _, _ => rfl
 | .clp _ _ _, _, _, _ => rfl
 | .nam _ _ _ _ _, _, _, _ => rfl
 | .rptr _, _, _, _ => rfl
 | .top, _, _, _ => rfl
 | .ref _, _, _, _ => rfl
 | .ptr _ _, _, _, _ => rfl
 | .fn _ _, _, _, _ => rfl
theorem impL_none : ∀ {cs : List AV} {k : Nat} (k' : Nat), (impL k cs).2 = [] → impL k' cs = impL k cs
 | [], _, _, _ => rfl
 | c :: cs, k, k', h => by
  simp only [impL, List.append_eq_nil_iff] at h ⊢
  have h1 := imp_none k' h.1
  have h2 := impL_none (k' + (imp k c).2.length) h.2
  rw [h1, h2]
end
mutual
theorem Snap.more {hp : List AObj} (nj : List AObj) : ∀ {c c' : AV}, Snap hp c c' → Snap (hp ++ nj) c c'
 | _, _, .leaf h => .leaf h
 | _, _, .ref hi => .ref (get_more hi)
 | _, _, .ptr hi h => .ptr (get_more hi) (h.more nj)
 | _, _, .agg h => .agg (h.more nj)
 | _, _, .fn h => .fn (h.more nj)
 | _, _, .top => .top
 | _, _, .wk h h2 => .wk (h.more nj) h2
theorem SnapL.more {hp : List AObj} (nj : List AObj) : ∀ {c c' : List AV}, SnapL hp c c' → SnapL (hp ++ nj) c c'
 | _, _, .nil => .nil
 | _, _, .cons h h' => .cons (h.more nj) (h'.more nj)
end
end
theorem CallR.congr {P : Program} {e e' : Operand → AV} {hp : List AObj} {op : Op} {v : AV} {news : List AObj} (hx : ∀ x ∈ op.operands.toList, e x = e' x) (h : CallR P e hp op v news) : CallR P e' hp op v news := by
 cases h
 case pure c args tys f caps res hc hl h =>
  have h1 : args.toList.map e = args.toList.map e' := List.map_congr_left fun x h => hx x (by simp [Op.operands, Call.operands]; exact .inr (by simpa using h))
  have h2 : e c = e' c := hx c (by simp [Op.operands, Call.operands])
  rw [h1] at h hl
  exact .pure f caps res (h2 ▸ hc) hl h
 case snap c args tys f caps avs res hc hs h hcl =>
  have h1 : args.toList.map e = args.toList.map e' := List.map_congr_left fun x h => hx x (by simp [Op.operands, Call.operands]; exact .inr (by simpa using h))
  have h2 : e c = e' c := hx c (by simp [Op.operands, Call.operands])
  rw [h1] at hs
  exact .snap f caps avs res (h2 ▸ hc) hs h hcl
 case lit t n parts el s b zs cs ht hn hf hlf =>
  refine .lit el s b zs cs ht hn ?_ hlf
  rw [← parts_congr (e := e) (fun x h => hx x (by simpa [Op.operands] using h))]
  exact hf
theorem CallR.more {P : Program} {e : Operand → AV} {hp : List AObj} (nj : List AObj) {op : Op} {v : AV} {news : List AObj} (h : CallR P e hp op v news) (hn : news = []) : CallR P e (hp ++ nj) op v news := by
 cases h
 case pure c args tys f caps res hc hl h =>
  have h1 := imp_none (k := hp.length) (hp ++ nj).length hn
  rw [← h1]
  exact .pure f caps res hc hl h
 case snap c args tys f caps avs res hc hs h hcl =>
  have h1 := imp_none (k := hp.length) (hp ++ nj).length hn
  rw [← h1]
  exact .snap f caps avs res hc (hs.more nj) h hcl
 case lit t n parts el s b zs cs ht hn' hf hlf => exact .lit el s b zs cs ht hn' hf hlf

inductive StepN (P : Program) (ops : Array Oper) (o : Oper) (fr : List AV) (hp : List AObj) : AV → List AObj → Prop
 | skip (j : Nat) (want : Bool) (hg : o.guard = some (j, want)) (hn : noA ops fr j want = true) : StepN P ops o fr hp (.tup []) []
 | eff {v news} (hw : WantedA ops o fr) (h : EffR P (ev fr) hp o.op v news) : StepN P ops o fr hp v news
 | call {v news} (hw : WantedA ops o fr) (h : CallR P (ev fr) hp o.op v news) : StepN P ops o fr hp v news
inductive StepT (P : Program) (ops : Array Oper) (o : Oper) : Nat → St → St → Prop
 | quiet {fr hp v} (h : StepN P ops o fr hp v []) : StepT P ops o 0 ⟨fr, hp⟩ ⟨putF fr o.dst v, hp⟩
 | ext {fr hp v news} (h : StepN P ops o fr hp v news) : StepT P ops o 1 ⟨fr, hp⟩ ⟨putF fr o.dst v, hp ++ news⟩
 | write {st st'} (h : StepR P ops o st st') : StepT P ops o 2 st st'
theorem StepT.toR {P : Program} {ops : Array Oper} {o : Oper} {t : Nat} {st st' : St} (h : StepT P ops o t st st') : StepR P ops o st st' := by
 have key : ∀ {fr hp v news}, StepN P ops o fr hp v news → StepR P ops o ⟨fr, hp⟩ ⟨putF fr o.dst v, hp ++ news⟩ := by
  intro fr hp v news h
  cases h
  case skip j want hg hn => simpa using StepR.skip (P := P) (st := ⟨fr, hp⟩) j want hg hn
  case eff hw h => exact .eff hw h
  case call hw h => exact .call hw h
 cases h
 case quiet fr hp v h => simpa using key h
 case ext fr hp v news h => exact key h
 case write h => exact h
theorem ev_putF {fr : List AV} {d : Option Tmp} {v : AV} {x : Operand} (h : ∀ t, d = some t → x ≠ .tmp t) : ev (putF fr d v) x = ev fr x := by
 cases d with
 | none => rfl
 | some t =>
  cases x with
  | tmp u =>
   have hne : t ≠ u := fun e => h t rfl (by rw [e])
   simp [ev, putF, List.getD_eq_getElem?_getD, List.getElem?_set_ne hne]
  | const v => rfl
  | global g => rfl
  | func f => rfl
theorem yield_putF {ops : Array Oper} {fr : List AV} {d : Option Tmp} {v : AV} {j : Nat} (h : ∀ t, d = some t → (ops[j]?).bind (·.dst) ≠ some t) : yieldA ops (putF fr d v) j = yieldA ops fr j := by
 unfold yieldA
 cases hd : (ops[j]?).bind (·.dst) with
 | none => rfl
 | some u =>
  cases d with
  | none => rfl
  | some t =>
   have hne : t ≠ u := fun e => h t rfl (by rw [hd, e])
   simp [putF, List.getElem?_set_ne hne]
theorem no_putF {ops : Array Oper} {fr : List AV} {d : Option Tmp} {v : AV} {j : Nat} {want : Bool} (h : ∀ t, d = some t → (ops[j]?).bind (·.dst) ≠ some t) : noA ops (putF fr d v) j want = noA ops fr j want := by
 unfold noA
 cases hd : (ops[j]?).bind (·.dst) with
 | none => rfl
 | some u =>
  cases d with
  | none => rfl
  | some t =>
   have hne : t ≠ u := fun e => h t rfl (by rw [hd, e])
   simp [putF, List.getElem?_set_ne hne]
theorem StepN.congr {P : Program} {ops : Array Oper} {o : Oper} {fr : List AV} {hp : List AObj} {d : Option Tmp} {u v : AV} {news : List AObj} (hd : ∀ t, d = some t → t ∉ o.looksAt ops) :
  StepN P ops o (putF fr d u) hp v news ↔ StepN P ops o fr hp v news := by
 have hx : ∀ x ∈ o.op.operands.toList, ev (putF fr d u) x = ev fr x := fun x hx => ev_putF fun t ht e => hd t ht (by
  unfold Oper.looksAt
  refine List.mem_append_left _ (List.mem_filterMap.2 ⟨x, hx, by rw [e]⟩))
 have hy : ∀ j b, o.guard = some (j, b) → yieldA ops (putF fr d u) j = yieldA ops fr j := fun j b hg => yield_putF fun t ht e => hd t ht (by
  unfold Oper.looksAt
  refine List.mem_append_right _ ?_
  rw [hg]
  simp [e])
 have hn : ∀ j b, o.guard = some (j, b) → noA ops (putF fr d u) j b = noA ops fr j b := fun j b hg => no_putF fun t ht e => hd t ht (by
  unfold Oper.looksAt
  refine List.mem_append_right _ ?_
  rw [hg]
  simp [e])
 have hw : WantedA ops o (putF fr d u) ↔ WantedA ops o fr := by
  unfold WantedA
  constructor
  ·rintro (h | ⟨j, b, hg, h⟩)
   ·exact .inl h
   ·exact .inr ⟨j, b, hg, by rw [← hy j b hg]; exact h⟩
  ·rintro (h | ⟨j, b, hg, h⟩)
   ·exact .inl h
   ·exact .inr ⟨j, b, hg, by rw [hy j b hg]; exact h⟩
 constructor
 ·intro h
  cases h
  case skip j want hg hyy => exact .skip j want hg (by rw [← hn j want hg]; exact hyy)
  case eff hww h => exact .eff (hw.1 hww) (h.congr hx)
  case call hww h => exact .call (hw.1 hww) (h.congr hx)
 ·intro h
  cases h
  case skip j want hg hyy => exact .skip j want hg (by rw [hn j want hg]; exact hyy)
  case eff hww h => exact .eff (hw.2 hww) (h.congr fun x h => (hx x h).symm)
  case call hww h => exact .call (hw.2 hww) (h.congr fun x h => (hx x h).symm)
theorem StepN.more {P : Program} {ops : Array Oper} {o : Oper} {fr : List AV} {hp : List AObj} (nj : List AObj) {v : AV} (h : StepN P ops o fr hp v []) : StepN P ops o fr (hp ++ nj) v [] := by
 cases h
 case skip j want hg hy => exact .skip j want hg hy
 case eff hw h => exact .eff hw (h.more nj rfl)
 case call hw h => exact .call hw (h.more nj rfl)
theorem putF_comm {fr : List AV} {d d' : Option Tmp} {u v : AV} (h : ∀ t, d = some t → d' ≠ some t) : putF (putF fr d u) d' v = putF (putF fr d' v) d u := by
 cases d with
 | none => rfl
 | some t =>
  cases d' with
  | none => rfl
  | some t' =>
   have hne : t ≠ t' := fun e => h t rfl (by rw [e])
   simp only [putF]
   exact List.set_comm _ _ hne
theorem StepT.swap {P : Program} {ops : Array Oper} {oi oj : Oper} {t : Nat} {a b c : St} (h1 : StepT P ops oi 0 a b) (h2 : StepT P ops oj t b c) (ht : t ≤ 1) (hap : oi.apart ops oj = true) :
  ∃ b', StepT P ops oj t a b' ∧ StepT P ops oi 0 b' c := by
 obtain ⟨k1, k2, k3⟩ := Oper.apart_spec hap
 cases h1
 case quiet fr hp v h =>
  cases h2
  case quiet u h' =>
   refine ⟨_, .quiet ((StepN.congr k1).1 h'), ?_⟩
   rw [putF_comm k2]
   exact .quiet ((StepN.congr k3).2 h)
  case ext u news h' =>
   refine ⟨_, .ext ((StepN.congr k1).1 h'), ?_⟩
   rw [putF_comm k2]
   exact .quiet ((StepN.congr k3).2 (h.more news))
  case write h' => omega

inductive Ahead (ops : Array Oper) : Nat → Nat → Prop
 | edge {i j oi ed} (hi : ops[i]? = some oi) (he : ed ∈ oi.after) (hb : Region.binds .any ed = true) (hj : ed.on = j) : Ahead ops j i
 | trans {i j m oi ed} (h : Ahead ops j m) (hi : ops[i]? = some oi) (he : ed ∈ oi.after) (hb : Region.binds .any ed = true) (hj : ed.on = m) : Ahead ops j i
inductive DrawT (P : Program) (ops : Array Oper) : List (Nat × Nat) → St → St → Prop
 | nil {st} : DrawT P ops [] st st
 | cons {k t o l st st1 st2} (ho : ops[k]? = some o) (h : StepT P ops o t st st1) (h' : DrawT P ops l st1 st2) : DrawT P ops ((k, t) :: l) st st2
def Free (ops : Array Oper) (x y : Nat × Nat) : Prop := Ahead ops x.1 y.1 ∨ (x.2 = 0 ∧ y.2 ≤ 1 ∧ ∀ oi oj, ops[x.1]? = some oi → ops[y.1]? = some oj → oi.apart ops oj = true)
theorem DrawT.front {P : Program} {ops : Array Oper} {x : Nat × Nat} {post : List (Nat × Nat)} {o : Oper} (ho : ops[x.1]? = some o) : ∀ {pre : List (Nat × Nat)} {st st' : St}, DrawT P ops (pre ++ x :: post) st st' →
  (∀ y ∈ pre, y.2 = 0 ∧ x.2 ≤ 1 ∧ ∀ oi oj, ops[y.1]? = some oi → ops[x.1]? = some oj → oi.apart ops oj = true) → ∃ st1, StepT P ops o x.2 st st1 ∧ DrawT P ops (pre ++ post) st1 st'
 | [], st, st', h, _ => by
  cases h with
  | cons ho' h h' =>
   simp only at ho
   rw [ho] at ho'
   obtain rfl := Option.some.inj ho'
   exact ⟨_, h, h'⟩
 | y :: pre, st, st', h, hf => by
  cases h
  case cons st1 k t o' ho' h h' =>
   obtain ⟨st2, g1, g2⟩ := DrawT.front ho h' fun z hz => hf z (List.mem_cons_of_mem _ hz)
   obtain ⟨f1, f2, f3⟩ := hf _ (List.mem_cons_self ..)
   simp only at f1
   subst f1
   obtain ⟨st3, g3, g4⟩ := h.swap g1 f2 (f3 _ _ ho' ho)
   exact ⟨st3, g3, .cons ho' g4 g2⟩
def Back (ops : Array Oper) : List (Nat × Nat) → Prop
 | [] => True
 | x :: l => (∀ o, ops[x.1]? = some o → ∀ ed ∈ o.after, Region.binds .any ed = true → ed.on < ops.size ∧ ∀ y ∈ x :: l, y.1 ≠ ed.on) ∧ Back ops l
theorem Back.drop {ops : Array Oper} {x : Nat × Nat} {post : List (Nat × Nat)} : ∀ {pre : List (Nat × Nat)}, Back ops (pre ++ x :: post) → Back ops (pre ++ post)
 | [], h => h.2
 | y :: pre, h => ⟨fun o ho ed he hb => ⟨(h.1 o ho ed he hb).1, fun z hz => (h.1 o ho ed he hb).2 z (by
   rcases List.mem_cons.1 hz with rfl | hz
   ·exact List.mem_cons_self ..
   ·refine List.mem_cons_of_mem _ ?_
    rcases List.mem_append.1 hz with hz | hz
    ·exact List.mem_append_left _ hz
    ·exact List.mem_append_right _ (List.mem_cons_of_mem _ hz))⟩, Back.drop h.2⟩
def Closed (ops : Array Oper) (listed : Array Bool) : Prop := ∀ k o, ops[k]? = some o → listed.getD k true = true → ∀ ed ∈ o.after, Region.binds .any ed = true → listed.getD ed.on false = true
theorem getD_ft {listed : Array Bool} {k : Nat} (h : listed.getD k false = true) : listed.getD k true = true := by
 rcases Nat.lt_or_ge k listed.size with hlt | hge
 ·simpa [hlt] using h
 ·simp [Array.getElem?_eq_none hge] at h
theorem ahead_listed {ops : Array Oper} {listed : Array Bool} (hc : Closed ops listed) : ∀ {j i : Nat}, Ahead ops j i → (∀ o, ops[i]? = some o → ∀ ed ∈ o.after, Region.binds .any ed = true → listed.getD ed.on false = true) → listed.getD j false = true := by
 intro j i h
 induction h with
 | edge hi he hb hj => intro hd; rw [← hj]; exact hd _ hi _ he hb
 | trans h hi he hb hj ih =>
  intro hd
  have h1 := hd _ hi _ he hb
  rw [hj] at h1
  exact ih fun o ho ed hed hbed => hc _ o ho (getD_ft h1) ed hed hbed
theorem any_sound {rd : Option Nat} {P : Program} {Z0 : Nat → Prop} {w0 : World} {ops : Array Oper} {Q : Exit → Act → World → Prop} {st' : St} (hQ : ∀ a' w', Sim Z0 w0 st' a' w' → Q .normal a' w') : ∀ (l : List (Nat × Nat)) (listed : Array Bool) (st : St) (a : Act) (w : World),
  listed.size = ops.size → (∀ k, k < ops.size → (listed.getD k true = false ↔ k ∈ l.map (·.1))) → (∀ x ∈ l, x.1 < ops.size) → (l.map (·.1)).Nodup → l.Pairwise (Free ops) → Back ops l → Closed ops listed →
  DrawT P ops l st st' → Sim Z0 w0 st a w → wpAnyIn (Fc rd) 0 P .any ops Q l.length listed a w := by
 intro l
 induction hn : l.length generalizing l with
 | zero =>
  intro listed st a w hsz hl _ _ _ _ _ hD hS
  obtain rfl := List.length_eq_zero_iff.1 hn
  cases hD
  refine ⟨?_, hQ _ _ hS⟩
  refine List.eq_nil_iff_forall_not_mem.2 fun j hj => ?_
  obtain ⟨h0, o, ho, _⟩ := mem_ready.1 hj
  have := (hl j (Array.getElem?_eq_some_iff.1 ho).1).1 h0
  simp at this
 | succ n ih =>
  intro listed st a w hsz hl hlt hnd hpw hbk hc hD hS
  refine ⟨fun h => ?_, fun i hi => ?_⟩
  ·exfalso
   obtain ⟨x, l', rfl⟩ := List.exists_cons_of_length_eq_add_one hn
   have hx := hlt x (List.mem_cons_self ..)
   have : x.1 ∈ Region.ready .any ops listed := mem_ready.2 ⟨(hl _ hx).2 (by simp), ops[x.1], Array.getElem?_eq_getElem hx, fun ed he hb => by
    obtain ⟨h1, h2⟩ := hbk.1 _ (Array.getElem?_eq_getElem hx) ed he hb
    cases hg : listed.getD ed.on true with
    | false =>
     have h3 := (hl _ h1).1 hg
     obtain ⟨y, hy, hye⟩ := List.mem_map.1 h3
     exact absurd hye (h2 y hy)
    | true =>
     have hlt' : ed.on < listed.size := by rw [hsz]; exact h1
     simpa [hlt'] using hg⟩
   rw [h] at this
   cases this
  ·obtain ⟨h0, o, ho, hall⟩ := mem_ready.1 hi
   have hilt := (Array.getElem?_eq_some_iff.1 ho).1
   have him := (hl i hilt).1 h0
   obtain ⟨x, hx, hxi⟩ := List.mem_map.1 him
   obtain ⟨pre, post, rfl⟩ := List.append_of_mem hx
   subst hxi
   have hpre : ∀ y ∈ pre, y.2 = 0 ∧ x.2 ≤ 1 ∧ ∀ oi oj, ops[y.1]? = some oi → ops[x.1]? = some oj → oi.apart ops oj = true := by
    intro y hy
    have h1 := (List.pairwise_append.1 hpw).2.2 y hy x (List.mem_cons_self ..)
    rcases h1 with h1 | h1
    ·exfalso
     have h2 := ahead_listed hc h1 fun o' ho' ed he hb => by
      rw [ho] at ho'
      cases ho'
      exact hall ed he hb
     have hylt := hlt y (List.mem_append_left _ hy)
     have h3 := (hl y.1 hylt).2 (List.mem_map.2 ⟨y, List.mem_append_left _ hy, rfl⟩)
     have hlt' : y.1 < listed.size := by rw [hsz]; exact hylt
     simp [hlt'] at h2 h3
     rw [h2] at h3
     cases h3
    ·exact h1
   obtain ⟨st1, hstep, hrest⟩ := hD.front ho hpre
   have hlen : (pre ++ post).length = n := by
    simp only [List.length_append, List.length_cons] at hn ⊢
    omega
   have hnd' : ((pre ++ post).map (·.1)).Nodup ∧ x.1 ∉ (pre ++ post).map (·.1) := by
    have e : ((pre ++ x :: post).map (·.1)) = pre.map (·.1) ++ x.1 :: post.map (·.1) := by simp
    rw [e] at hnd
    have h1 := (List.perm_middle (a := x.1) (l₁ := pre.map (·.1)) (l₂ := post.map (·.1))).nodup_iff.1 hnd
    rw [List.nodup_cons] at h1
    rw [List.map_append]
    exact ⟨h1.2, h1.1⟩
   have sub : ∀ y ∈ pre ++ post, y ∈ pre ++ x :: post := fun y hy => by
    rcases List.mem_append.1 hy with hy | hy
    ·exact List.mem_append_left _ hy
    ·exact List.mem_append_right _ (List.mem_cons_of_mem _ hy)
   have hK : ∀ a' w', Sim Z0 w0 st1 a' w' → wpAnyIn (Fc rd) 0 P .any ops Q n (listed.setIfInBounds x.1 true) a' w' := by
    intro a' w' hS'
    have := ih (pre ++ post) hlen (listed.setIfInBounds x.1 true) st1 a' w' (by simpa using hsz) (fun k hk => ?_) (fun y hy => hlt y (sub y hy)) hnd'.1
     (hpw.sublist (List.Sublist.append_left (List.sublist_cons_self ..) _)) hbk.drop (fun k o' ho' hk ed he hb => ?_) hrest hS'
    ·exact this
    ·by_cases hkx : k = x.1
     ·subst hkx
      have hlt' : x.1 < listed.size := by rw [hsz]; exact hk
      simp only [hnd'.2, iff_false]
      simp [hlt']
     ·rw [getD_set_ne true (Ne.symm hkx), hl k hk]
      simp only [List.map_append, List.map_cons, List.mem_append, List.mem_cons, hkx, false_or]
    ·by_cases hkx : k = x.1
     ·subst hkx
      rw [ho] at ho'
      cases ho'
      exact getD_set_true (hall ed he hb)
     ·rw [getD_set_ne true (Ne.symm hkx)] at hk
      exact getD_set_true (hc k o' ho' hk ed he hb)
   unfold wpOpIn
   simp only [ho]
   have := hstep.toR.sound (rd := rd) (Q := Q) hS hK
   split
   ·rename_i hw
    rw [if_pos hw] at this
    exact this
   ·rename_i hw
    rw [if_neg hw] at this
    exact this
theorem Sim.drew {Z0 : Nat → Prop} {w0 : World} {st : St} {a : Act} {w : World} (h : Sim Z0 w0 st a w) (n : Nat) : Sim Z0 w0 st a { w with drawn := n } := by
 obtain ⟨μ, F, hFb, hH, hF, hd, hb⟩ := h
 have hbel : Below w.heap.size w { w with drawn := n } := ⟨rfl, rfl, rfl, Nat.le_refl _, fun _ _ => rfl⟩
 have hH' := HRel.extend (os := []) (μs := []) (bs := []) hH hbel ⟨rfl, fun i o u ho => by simp at ho, rfl, fun u hu => by simp at hu⟩ (fun g hg => by simp at hg) (fun g hg => by simp at hg) List.nodup_nil
 simp only [List.append_nil] at hH'
 exact ⟨μ, F, hFb, hH', RelL.keep (w := w) (w' := { w with drawn := n }) (fun _ _ _ => rfl) (fun _ _ h => h) hF, hd, hb.trans (hbel.mono hb.size)⟩

def tabOf (l : List Oper) : List Nat :=
 l.foldl (fun acc o => acc ++ [o.after.foldl (fun s e => if Region.binds .any e then s ||| 2 ^ e.on ||| acc.getD e.on 0 else s) 0]) []
def okOne (ops : Array Oper) (tab tags : List Nat) (i : Nat) : Bool :=
 match ops[i]? with
 | none => false
 | some o =>
  (o.after.all fun e => !Region.binds .any e || decide (e.on < i)) &&
  ((List.range i).all fun j => !(tab.getD i 0).testBit j || o.after.any fun e => Region.binds .any e && (e.on == j || (decide (j < e.on) && (tab.getD e.on 0).testBit j))) &&
  ((List.range i).all fun j => (tab.getD i 0).testBit j || ((tags.getD j 2 == 0) && decide (tags.getD i 2 ≤ 1) && match ops[j]? with | some oj => oj.apart ops o | none => true))
def okDraw (ops : Array Oper) (tags : List Nat) : Bool :=
 let tab := tabOf ops.toList
 (List.range ops.size).all (okOne ops tab tags)
theorem okOne_back {ops : Array Oper} {tab tags : List Nat} {i : Nat} (h : okOne ops tab tags i = true) {o : Oper} (ho : ops[i]? = some o) {ed : Edge} (he : ed ∈ o.after) (hb : Region.binds .any ed = true) : ed.on < i := by
 unfold okOne at h
 rw [ho] at h
 simp only [Bool.and_eq_true] at h
 have := Array.all_eq_true_iff_forall_mem.1 h.1.1 ed he
 simpa [hb] using this
theorem okOne_ahead {ops : Array Oper} {tab tags : List Nat} (i : Nat) : (∀ k, k ≤ i → okOne ops tab tags k = true) → ∀ {j : Nat}, j < i → (tab.getD i 0).testBit j = true → Ahead ops j i := by
 induction i using Nat.strongRecOn with
 | _ i ih =>
  intro h j hj ht
  have hi := h i (Nat.le_refl _)
  have hi' := hi
  unfold okOne at hi
  cases ho : ops[i]? with
  | none => rw [ho] at hi; simp at hi
  | some o =>
   rw [ho] at hi
   simp only [Bool.and_eq_true, List.all_eq_true, List.mem_range] at hi
   have h1 := hi.1.2 j hj
   rw [ht] at h1
   simp only [Bool.not_true, Bool.false_or] at h1
   obtain ⟨ed, he, hb⟩ := Array.any_eq_true'.1 h1
   simp only [Bool.and_eq_true, Bool.or_eq_true, beq_iff_eq, decide_eq_true_eq] at hb
   have hlt := okOne_back hi' ho he hb.1
   rcases hb.2 with hb2 | ⟨hb2, hb3⟩
   ·exact .edge ho he hb.1 hb2
   ·exact .trans (ih ed.on hlt (fun k hk => h k (by omega)) hb2 hb3) ho he hb.1 rfl
theorem okOne_free {ops : Array Oper} {tab tags : List Nat} {i j : Nat} (h : ∀ k, k ≤ i → okOne ops tab tags k = true) (hj : j < i) : Free ops (j, tags.getD j 2) (i, tags.getD i 2) := by
 have hi := h i (Nat.le_refl _)
 unfold okOne at hi
 cases ho : ops[i]? with
 | none => rw [ho] at hi; simp at hi
 | some o =>
  rw [ho] at hi
  simp only [Bool.and_eq_true, List.all_eq_true, List.mem_range, Bool.or_eq_true, beq_iff_eq, decide_eq_true_eq] at hi
  rcases hi.2 j hj with h1 | ⟨⟨h1, h2⟩, h3⟩
  ·exact .inl (okOne_ahead i h hj h1)
  ·refine .inr ⟨h1, h2, fun oi oj e1 e2 => ?_⟩
   simp only at e1 e2
   rw [ho] at e2
   obtain rfl := Option.some.inj e2
   rw [e1] at h3
   exact h3
inductive DrawR (P : Program) (ops : Array Oper) : List Oper → List Nat → St → St → Prop
 | nil {st} : DrawR P ops [] [] st st
 | cons {o l t ts st st1 st2} (h : StepT P ops o t st st1) (h' : DrawR P ops l ts st1 st2) : DrawR P ops (o :: l) (t :: ts) st st2
theorem DrawR.toT {P : Program} {ops : Array Oper} {tags : List Nat} : ∀ {l : List Oper} {ts : List Nat} {st st' : St} (k : Nat), DrawR P ops l ts st st' → (∀ j, l[j]? = ops[k + j]?) → (∀ j, ts[j]? = tags[k + j]?) → DrawT P ops ((List.range' k l.length).map fun i => (i, tags.getD i 2)) st st'
 | [], _, st, _, k, .nil, _, _ => by simpa using .nil
 | o :: l, _, st, st', k, .cons (t := t) h h', hl, ht => by
  have h1 := DrawR.toT (k + 1) h' (fun j => by have := hl (j + 1); simpa [Nat.add_assoc, Nat.add_comm 1 j] using this) (fun j => by have := ht (j + 1); simpa [Nat.add_assoc, Nat.add_comm 1 j] using this)
  have h2 : tags.getD k 2 = t := by
   have := ht 0
   simp only [List.getElem?_cons_zero, Nat.add_zero] at this
   simp [List.getD_eq_getElem?_getD, ← this]
  simp only [List.length_cons, List.range'_succ, List.map_cons, h2]
  exact .cons (by have := hl 0; simpa using this.symm) h h1
theorem RunA.draw {rd : Option Nat} {P : Program} {id : Nat} {l : List Oper} {st st' : St} {Q : Exit → St → Prop} (hm : P.follows .mixedOrders = true) (tags : List Nat) (hok : okDraw l.toArray tags = true) (h : DrawR P l.toArray l tags st st') (hQ : Q .normal st') :
  RunA rd P (.region id l.toArray true) st Q := by
 intro Z0 w0 a w hS
 have hok' : ∀ i, i < l.toArray.size → okOne l.toArray (tabOf l) tags i = true := by
  simpa [okDraw] using hok
 refine wpIn_region_any hm ?_
 have hT := DrawR.toT (tags := tags) 0 h (fun j => by simp) (fun j => by simp)
 have hfst : (((List.range' 0 l.length).map fun i => (i, tags.getD i 2)).map (·.1)) = List.range l.length := by
  rw [List.map_map, ← List.range_eq_range']
  exact List.map_id _
 have key := any_sound (rd := rd) (P := P) (Z0 := Z0) (w0 := w0) (ops := l.toArray) (Q := fun e a' w' => ∃ st', Q e st' ∧ Sim Z0 w0 st' a' w') (st' := st') (fun a' w' hS' => ⟨_, hQ, hS'⟩)
  ((List.range' 0 l.length).map fun i => (i, tags.getD i 2)) (Array.replicate l.toArray.size false) st a { w with drawn := w.drawn + 1 } (by simp)
  (fun k hk => by rw [hfst]; simp at hk; simp [hk])
  (fun x hx => by obtain ⟨i, hi, rfl⟩ := List.mem_map.1 hx; simp at hi; simpa using hi)
  (by rw [hfst]; exact List.nodup_range)
  (by
   rw [← List.range_eq_range', List.pairwise_map]
   refine List.Pairwise.imp_of_mem (fun {a b} ha hb hab => ?_) List.pairwise_lt_range
   exact okOne_free (fun k hk => hok' k (by simp at hb ⊢; omega)) hab)
  ?_ ?_ hT (hS.drew _)
 ·simpa using key
 ·
  have : ∀ (m k : Nat), k + m = l.length → Back l.toArray ((List.range' k m).map fun i => (i, tags.getD i 2)) := by
   intro m
   induction m with
   | zero => intro k _; simp [Back]
   | succ m ih =>
    intro k hk
    simp only [List.range'_succ, List.map_cons]
    refine ⟨fun o ho ed he hb => ?_, ih (k + 1) (by omega)⟩
    have hlt := okOne_back (hok' k (by simp; omega)) ho he hb
    refine ⟨by simp; omega, fun y hy => ?_⟩
    rcases List.mem_cons.1 hy with rfl | hy
    ·simp; omega
    ·obtain ⟨i, hi, rfl⟩ := List.mem_map.1 hy
     simp only [List.mem_range'_1] at hi
     simp; omega
  exact this l.length 0 (by omega)
 ·intro k o ho hk
  exfalso
  have hlt := (Array.getElem?_eq_some_iff.1 ho).1
  have hlt' : k < l.length := by simpa using hlt
  have : (Array.replicate l.toArray.size false).getD k true = false := by simp [hlt']
  rw [this] at hk
  cases hk
end Go.Abs

/-! A machine on abstract states: it runs by itself as far as nothing has to be known; rules for what has to be known. -/
namespace Go.Abs
open Go.RowKit
def AI (n : Int) : AV := .int .i64 n
inductive Kont where
 | code (c : Code)
 | ops (all : Array Oper) (l : List Oper) (f : Bool)
 | drw (all : Array Oper) (l : List Oper) (ts : List Nat) (f : Bool)
 | any (ops : Array Oper) (listed : Array Bool) (n : Nat)
 | block (id : Nat)
 | stop (R : St → Prop)
structure M where
 ks : List Kont
 st : St
def OpsQ (rd : Option Nat) (P : Program) (all : Array Oper) (l : List Oper) (st : St) (Q : Exit → St → Prop) : Prop :=
 ∀ (Z0 : Nat → Prop) (w0 : World) (a : Act) (w : World), Sim Z0 w0 st a w → wpListIn (Fc rd) 0 P all (fun e a' w' => ∃ st', Q e st' ∧ Sim Z0 w0 st' a' w') l a w
theorem OpsQ.nil {rd : Option Nat} {P : Program} {all : Array Oper} {st : St} {Q : Exit → St → Prop} (h : Q .normal st) : OpsQ rd P all [] st Q := fun _ _ _ _ hS => wpListIn_nil ⟨st, h, hS⟩
theorem OpsQ.cons {rd : Option Nat} {P : Program} {all : Array Oper} {o : Oper} {l : List Oper} {st st' : St} {Q : Exit → St → Prop} (h : StepR P all o st st') (h' : OpsQ rd P all l st' Q) : OpsQ rd P all (o :: l) st Q :=
 fun Z0 w0 _ _ hS => wpListIn_step fun _ hK => h.sound hS fun a' w' hS' => hK a' w' (h' Z0 w0 a' w' hS')
theorem RunA.regionQ {rd : Option Nat} {P : Program} {id : Nat} {ops : Array Oper} {st : St} {Q : Exit → St → Prop} (h : OpsQ rd P ops ops.toList st Q) : RunA rd P (.region id ops false) st Q := by
 obtain ⟨l⟩ := ops
 exact fun Z0 w0 a w hS => wpIn_region_lit (h Z0 w0 a w hS)
def AnyQ (rd : Option Nat) (P : Program) (ops : Array Oper) (listed : Array Bool) (n : Nat) (st : St) (Q : Exit → St → Prop) : Prop :=
 ∀ (Z0 : Nat → Prop) (w0 : World) (a : Act) (w : World), Sim Z0 w0 st a w → wpAnyIn (Fc rd) 0 P .any ops (fun e a' w' => ∃ st', Q e st' ∧ Sim Z0 w0 st' a' w') n listed a w
def HeadW (all : Array Oper) (l : List Oper) (f : Bool) (fr : List AV) : Prop := f = true → ∀ o rest, l = o :: rest → WantedA all o fr
def RunsK (rd : Option Nat) (P : Program) (Q : Exit → St → Prop) : List Kont → Exit → St → Prop
 | [] => Q
 | .code c :: ks => fun e st => match e with
  | .normal => RunA rd P c st (RunsK rd P Q ks)
  | e => RunsK rd P Q ks e st
 | .ops all l f :: ks => fun e st => match e with
  | .normal => HeadW all l f st.fr → OpsQ rd P all l st (RunsK rd P Q ks)
  | e => RunsK rd P Q ks e st
 | .drw all l ts f :: ks => fun e st => match e with
  | .normal => HeadW all l f st.fr → ∃ st', DrawR P all l ts st st' ∧ RunsK rd P Q ks .normal st'
  | e => RunsK rd P Q ks e st
 | .any ops listed n :: ks => fun e st => match e with
  | .normal => AnyQ rd P ops listed n st (RunsK rd P Q ks)
  | e => RunsK rd P Q ks e st
 | .block id :: ks => fun e st => match e with
  | .exit id' => if id' = id then RunsK rd P Q ks .normal st else RunsK rd P Q ks (.exit id') st
  | e => RunsK rd P Q ks e st
 | .stop R :: ks => fun e st => match e with
  | .normal => R st
  | e => RunsK rd P Q ks e st
structure Runs (rd : Option Nat) (P : Program) (m : M) (Q : Exit → St → Prop) : Prop where
 out : RunsK rd P Q m.ks .normal m.st
theorem runs_iff {rd : Option Nat} {P : Program} {m : M} {Q : Exit → St → Prop} : Runs rd P m Q ↔ RunsK rd P Q m.ks .normal m.st := ⟨fun h => h.out, fun h => ⟨h⟩⟩

def unwind (id : Nat) : List Kont → Option (List Kont)
 | [] => none
 | .block id' :: ks => if id = id' then some ks else unwind id ks
 | _ :: ks => unwind id ks
theorem unwind_sound {rd : Option Nat} {P : Program} {Q : Exit → St → Prop} {id : Nat} {st : St} : ∀ {ks ks' : List Kont}, unwind id ks = some ks' → RunsK rd P Q ks' .normal st → RunsK rd P Q ks (.exit id) st
 | [], _, h, _ => by simp [unwind] at h
 | .block id' :: ks, ks', h, h' => by
  simp only [unwind] at h
  simp only [RunsK]
  split at h
  ·rename_i he
   cases h
   rw [if_pos he]
   exact h'
  ·rename_i he
   rw [if_neg he]
   exact unwind_sound h h'
 | .code _ :: ks, ks', h, h' => by simp only [unwind] at h; simp only [RunsK]; exact unwind_sound h h'
 | .ops _ _ _ :: ks, ks', h, h' => by simp only [unwind] at h; simp only [RunsK]; exact unwind_sound h h'
 | .drw _ _ _ _ :: ks, ks', h, h' => by simp only [unwind] at h; simp only [RunsK]; exact unwind_sound h h'
 | .stop _ :: ks, ks', h, h' => by simp only [unwind] at h; simp only [RunsK]; exact unwind_sound h h'
 | .any _ _ _ :: ks, ks', h, h' => by simp only [unwind] at h; simp only [RunsK]; exact unwind_sound h h'
def tagOf : Op → Nat
 | .alloc _ => 1
 | .box _ _ => 1
 | .buildSlice _ _ _ => 1
 | .makeSlice _ _ _ => 1
 | .store _ _ _ => 2
 | .call c => match c.callee with
  | .builtin .append => 2
  | _ => 0
 | _ => 0
def tagsOf (ops : Array Oper) : List Nat := ops.toList.map fun o => tagOf o.op
def wantH (all : Array Oper) (o : Oper) (f : Bool) (fr : List AV) : Option Bool := if f then some true else wantedE all o fr
def stepD (P : Program) (all : Array Oper) (o : Oper) (t : Nat) (f : Bool) (st : St) : Option St :=
 match wantH all o f st.fr with
 | some true =>
  match effE P (ev st.fr) st.hp o.op with
  | some (v, news) =>
   match t with
   | 0 => match news with
    | [] => some ⟨putF st.fr o.dst v, st.hp⟩
    | _ => none
   | 1 => some ⟨putF st.fr o.dst v, st.hp ++ news⟩
   | 2 => some ⟨putF st.fr o.dst v, st.hp ++ news⟩
   | _ => none
  | none =>
   match t with
   | 2 => (storeE P (ev st.fr) st.hp o.op).map fun hp' => ⟨putF st.fr o.dst .top, hp'⟩
   | _ => none
 | some false => match t with
  | 0 => some ⟨putF st.fr o.dst (.tup []), st.hp⟩
  | 1 => some ⟨putF st.fr o.dst (.tup []), st.hp ++ []⟩
  | 2 => some ⟨putF st.fr o.dst (.tup []), st.hp⟩
  | _ => none
 | none => none
def stepO (P : Program) (all : Array Oper) (o : Oper) (f : Bool) (st : St) : Option St :=
 match wantH all o f st.fr with
 | some true =>
  match effE P (ev st.fr) st.hp o.op with
  | some (v, news) => some ⟨putF st.fr o.dst v, st.hp ++ news⟩
  | none => (storeE P (ev st.fr) st.hp o.op).map fun hp' => ⟨putF st.fr o.dst .top, hp'⟩
 | some false => some ⟨putF st.fr o.dst (.tup []), st.hp⟩
 | none => none
def stepM (P : Program) (m : M) : Option M :=
 match m.ks with
 | .code (.seq x y) :: ks => some ⟨.code x :: .code y :: ks, m.st⟩
 | .code .skip :: ks => some ⟨ks, m.st⟩
 | .code (.block id c) :: ks => some ⟨.code c :: .block id :: ks, m.st⟩
 | .code (.region _ ops false) :: ks => some ⟨.ops ops ops.toList false :: ks, m.st⟩
 | .code (.region _ ops true) :: ks => if P.follows .mixedOrders && okDraw ops (tagsOf ops) then some ⟨.drw ops ops.toList (tagsOf ops) false :: ks, m.st⟩ else none
 | .code (.cond c x y) :: ks =>
  match ev m.st.fr c with
  | .bool true => some ⟨.code x :: ks, m.st⟩
  | .bool false => some ⟨.code y :: ks, m.st⟩
  | _ => none
 | .code (.exit id) :: ks => match unwind id ks with
  | some ks' => some ⟨ks', m.st⟩
  | none => none
 | .ops _ [] _ :: ks => some ⟨ks, m.st⟩
 | .ops all (o :: l) f :: ks => match stepO P all o f m.st with
  | some st' => some ⟨.ops all l false :: ks, st'⟩
  | none => none
 | .drw _ [] [] _ :: ks => some ⟨ks, m.st⟩
 | .drw all (o :: l) (t :: ts) f :: ks => match stepD P all o t f m.st with
  | some st' => some ⟨.drw all l ts false :: ks, st'⟩
  | none => none
 | .block _ :: ks => some ⟨ks, m.st⟩
 | _ => none
theorem headW_false {all : Array Oper} {l : List Oper} {fr : List AV} : HeadW all l false fr := fun h => by cases h
theorem wantH_true {all : Array Oper} {o : Oper} {l : List Oper} {f : Bool} {fr : List AV} (h : wantH all o f fr = some true) (hw : HeadW all (o :: l) f fr) : WantedA all o fr := by
 unfold wantH at h
 split at h
 ·rename_i hf; exact hw hf o l rfl
 ·exact wantedE_true h
theorem wantH_false {all : Array Oper} {o : Oper} {f : Bool} {fr : List AV} (h : wantH all o f fr = some false) : ∃ j w, o.guard = some (j, w) ∧ noA all fr j w = true := by
 unfold wantH at h
 split at h
 ·cases h
 ·exact wantedE_false h
theorem stepO_sound {P : Program} {all : Array Oper} {o : Oper} {l : List Oper} {f : Bool} {st st' : St} (h : stepO P all o f st = some st') (hw : HeadW all (o :: l) f st.fr) : StepR P all o st st' := by
 unfold stepO at h
 split at h
 ·rename_i hw1
  have hw2 := wantH_true hw1 hw
  split at h
  ·rename_i v news he
   cases h
   exact .eff hw2 (effE_sound he)
  ·simp only [Option.map_eq_some_iff] at h
   obtain ⟨hp', hs, rfl⟩ := h
   exact .write (kl := none) hw2 (storeE_sound hs)
 ·rename_i hw1
  cases h
  obtain ⟨j, w, h1, h2⟩ := wantH_false hw1
  exact .skip j w h1 h2
 ·cases h
theorem stepD_sound {P : Program} {all : Array Oper} {o : Oper} {l : List Oper} {t : Nat} {f : Bool} {st st' : St} (h : stepD P all o t f st = some st') (hw : HeadW all (o :: l) f st.fr) : StepT P all o t st st' := by
 obtain ⟨fr, hp⟩ := st
 unfold stepD at h
 split at h
 ·rename_i hw1
  have hw2 := wantH_true hw1 hw
  split at h
  ·rename_i v news he
   have he' := effE_sound he
   split at h
   ·split at h
    ·cases h; exact .quiet (.eff hw2 he')
    ·cases h
   ·cases h; exact .ext (.eff hw2 he')
   ·cases h; exact .write (.eff hw2 he')
   ·cases h
  ·split at h
   ·simp only [Option.map_eq_some_iff] at h
    obtain ⟨hp', hs, rfl⟩ := h
    exact .write (.write (kl := none) hw2 (storeE_sound hs))
   ·cases h
 ·rename_i hw1
  obtain ⟨j, w, h1, h2⟩ := wantH_false hw1
  split at h
  ·cases h; exact .quiet (.skip j w h1 h2)
  ·cases h; exact .ext (.skip j w h1 h2)
  ·cases h; exact .write (.skip j w h1 h2)
  ·cases h
 ·cases h
theorem RunA.drawK {rd : Option Nat} {P : Program} {id : Nat} {ops : Array Oper} {st : St} {Q : Exit → St → Prop} (ts : List Nat) (hm : P.follows .mixedOrders = true) (hok : okDraw ops ts = true) (h : ∃ st', DrawR P ops ops.toList ts st st' ∧ Q .normal st') : RunA rd P (.region id ops true) st Q := by
 obtain ⟨l⟩ := ops
 obtain ⟨st', h1, h2⟩ := h
 exact RunA.draw hm ts hok h1 h2
theorem stepM_sound {rd : Option Nat} {P : Program} {m m' : M} {Q : Exit → St → Prop} (h : stepM P m = some m') (h' : Runs rd P m' Q) : Runs rd P m Q := by
 obtain ⟨ks, st⟩ := m
 unfold stepM at h
 simp only at h
 simp only [runs_iff] at h' ⊢
 try simp only
 split at h
 ·cases h; simp only [RunsK] at h' ⊢
  exact RunA.seq (h'.mono fun e st' hq => by cases e <;> exact hq)
 ·cases h; exact RunA.skip h'
 ·cases h; simp only [RunsK] at h' ⊢
  refine RunA.block (h'.mono fun e st' hq => ?_)
  cases e <;> first | exact hq | (simp only at hq ⊢; exact hq)
 ·cases h; simp only [RunsK] at h' ⊢
  exact RunA.regionQ (h' headW_false)
 ·split at h
  ·rename_i hc
   cases h; simp only [RunsK] at h' ⊢
   simp only [Bool.and_eq_true] at hc
   exact RunA.drawK _ hc.1 hc.2 (h' headW_false)
  ·cases h
 ·split at h
  ·rename_i hc; cases h; simp only [RunsK] at h' ⊢
   exact RunA.cond true hc (fun _ => h') (fun h => by cases h)
  ·rename_i hc; cases h; simp only [RunsK] at h' ⊢
   exact RunA.cond false hc (fun h => by cases h) (fun _ => h')
  ·cases h
 ·split at h
  ·rename_i hu; cases h
   exact RunA.exit (unwind_sound hu h')
  ·cases h
 ·cases h; intro _; exact OpsQ.nil h'
 ·split at h
  ·rename_i hs; cases h
   intro hw
   exact OpsQ.cons (stepO_sound hs hw) (h' headW_false)
  ·cases h
 ·cases h; intro _; exact ⟨st, .nil, h'⟩
 ·split at h
  ·rename_i all o l t ts f ks st' hs; cases h
   intro hw
   obtain ⟨st2, h1, h2⟩ := h' headW_false
   exact ⟨st2, .cons (stepD_sound hs hw) h1, h2⟩
  ·cases h
 ·cases h; exact h'
 ·cases h
end Go.Abs
