/- Texts of the proof: Syma, Symb, Symc, Syme, Symf, Symg, DS1, SRT, DS2. -/
import Derived.Shelf.SortM.Plain
import Derived.Shelf.SortM.SortNone
import Derived.Sort.OwnSortedInts
import Derived.Laws.Concat
import Derived.Laws.BytesString
import Derived.Test.YtpalghbfhgimkaaPartK

/-! Named slices: rows of one's own laid into rows; a named row taken back to be written; slots read by names. -/
namespace Go.Abs
open Go.RowKit

/-! ### Names -/
mutual
/-- u stands named in c, with a block that is read. -/
def InN (u : Value) : AV → Prop
  | .nam v o _ _ cs => (u = v ∧ (cs ≠ [] ∨ o ≠ none)) ∨ InNL u cs
  | .lst _ _ cs => InNL u cs
  | .clp _ _ cs => InNL u cs
  | .rptr cs => InNL u cs
  | .agg cs => InNL u cs
  | .tup cs => InNL u cs
  | .fn _ cs => InNL u cs
  | .int _ _ => False
  | .bool _ => False
  | .str _ => False
  | .nil => False
  | .ref _ => False
  | .ptr _ _ => False
  | .own _ _ _ _ => False
  | .top => False
def InNL (u : Value) : List AV → Prop
  | [] => False
  | c :: cs => InN u c ∨ InNL u cs
end

mutual
/-- Nothing is read but by a name. -/
def NoRaw : AV → Bool
  | .nam _ _ _ _ cs => NoRawL cs
  | .lst _ _ cs => cs.isEmpty
  | .clp _ _ cs => cs.isEmpty
  | .rptr _ => false
  | .agg cs => NoRawL cs
  | .tup cs => NoRawL cs
  | .fn _ cs => NoRawL cs
  | .int _ _ => true
  | .bool _ => true
  | .str _ => true
  | .nil => true
  | .ref _ => true
  | .ptr _ _ => true
  | .own _ _ _ _ => true
  | .top => true
def NoRawL : List AV → Bool
  | [] => true
  | c :: cs => NoRaw c && NoRawL cs
end

theorem add_block' (a : Addr) (j : Nat) : (a.add j).block = a.block := by unfold Addr.add; split <;> rfl

section
variable {w : World}
mutual
/-- A name's block is there, and is not written. -/
theorem InN.of {Z : Nat → Prop} {μ : List Value} {u : Value} {g : Nat} (hg : blk u = some g) : ∀ {c : AV} {v : Value}, Rel w Z μ c v → InN u c → g < w.heap.size ∧ ¬ Z g
  | .nam v' o s n cs, v, h, hn => by
    simp only [Rel] at h
    simp only [InN] at hn
    obtain ⟨⟨h0, h00⟩, A, c, xs, h1, h2, h3, h4, h5⟩ := h
    rcases hn with ⟨rfl, hn⟩ | hn
    · subst h0
      by_cases ho : o = none
      · have hcs : cs ≠ [] := by
          rcases hn with hn | hn
          · exact hn
          · exact absurd ho hn
        have hx : xs ≠ [] := by
          intro e
          have h6 := h5.length
          rw [e] at h6
          exact hcs (List.eq_nil_of_length_eq_zero (by simpa using h6.symm))
        obtain ⟨ad, rfl, hz, hc⟩ := h4 hx
        rw [h1] at hg
        simp only [blk, Option.some.injEq] at hg
        subst hg
        cases xs with
        | nil => exact absurd rfl hx
        | cons y ys =>
          have h6 := World.block_lt_of_cell? w _ (hc 0 y rfl)
          rw [add_block'] at h6
          exact ⟨h6, hz⟩
      · cases o with
        | none => exact absurd rfl ho
        | some e =>
          obtain ⟨xs', hown, hz⟩ := h00 e rfl
          exact ⟨ownsRow_lt' hown hg, hz g hg⟩
    · exact InNL.of hg h5 hn
  | .lst s n cs, v, h, hn => by
    simp only [Rel] at h
    simp only [InN] at hn
    obtain ⟨A, c, xs, h1, h2, h3, h4, h5⟩ := h
    exact InNL.of hg h5 hn
  | .clp s n cs, v, h, hn => by
    simp only [Rel] at h
    simp only [InN] at hn
    obtain ⟨A, c, xs, h1, h2, h3, h4, h5⟩ := h
    exact InNL.of hg h5 hn
  | .rptr cs, v, h, hn => by
    simp only [Rel] at h
    simp only [InN] at hn
    obtain ⟨ad, xs, h1, h4, h5⟩ := h
    exact InNL.of hg h5 hn
  | .agg cs, v, h, hn => by
    simp only [Rel] at h
    simp only [InN] at hn
    obtain ⟨xs, h1, h5⟩ := h
    exact InNL.of hg h5 hn
  | .tup cs, v, h, hn => by
    simp only [Rel] at h
    simp only [InN] at hn
    obtain ⟨xs, h1, h5⟩ := h
    exact InNL.of hg h5 hn
  | .fn f cs, v, h, hn => by
    simp only [Rel] at h
    simp only [InN] at hn
    obtain ⟨xs, h1, h5⟩ := h
    exact InNL.of hg h5 hn
  | .int _ _, _, _, hn => by simp [InN] at hn
  | .bool _, _, _, hn => by simp [InN] at hn
  | .str _, _, _, hn => by simp [InN] at hn
  | .nil, _, _, hn => by simp [InN] at hn
  | .ref _, _, _, hn => by simp [InN] at hn
  | .ptr _ _, _, _, hn => by simp [InN] at hn
  | .own _ _ _ _, _, _, hn => by simp [InN] at hn
  | .top, _, _, hn => by simp [InN] at hn
theorem InNL.of {Z : Nat → Prop} {μ : List Value} {u : Value} {g : Nat} (hg : blk u = some g) : ∀ {cs : List AV} {vs : List Value}, RelL w Z μ cs vs → InNL u cs → g < w.heap.size ∧ ¬ Z g
  | [], _, _, hn => by simp [InNL] at hn
  | c :: cs, _, h, hn => by
    simp only [RelL] at h
    simp only [InNL] at hn
    obtain ⟨x, xs, rfl, h1, h2⟩ := h
    rcases hn with hn | hn
    · exact InN.of hg h1 hn
    · exact InNL.of hg h2 hn
end

end

/-! ### One of several states -/
def SubE {ι : Type} (st : St) (st' : ι → St) (Φ : ι → Prop) : Prop := ∀ (Z0 : Nat → Prop) (w0 : World) (a : Act) (w : World), Sim Z0 w0 st a w → ∃ x, Φ x ∧ Sim Z0 w0 (st' x) a w

section
variable {rd : Option Nat} {P : Program} {m : M} {Q : Exit → St → Prop}
theorem R.subE {ι : Type} (st' : ι → St) (Φ : ι → Prop) (h : subOk m = true) (hs : SubE m.st st' Φ) (h' : ∀ x, Φ x → Runs rd P ⟨m.ks, st' x⟩ Q) : Runs rd P m Q := by
  obtain ⟨ks, st⟩ := m
  unfold subOk at h
  simp only [runs_iff] at h' ⊢
  try simp only at h hs h' ⊢
  split at h
  · intro Z0 w0 a w hS
    obtain ⟨x, hx, hS'⟩ := hs Z0 w0 a w hS
    exact h' x hx Z0 w0 a w hS'
  · intro _ Z0 w0 a w hS
    obtain ⟨x, hx, hS'⟩ := hs Z0 w0 a w hS
    exact h' x hx headW_false Z0 w0 a w hS'
  · cases h
end

/-! ### A row of one's own gets a name -/
/-- u stands named in the state. -/
def InS (u : Value) (st : St) : Prop := InNL u st.fr ∨ ∃ (j : Nat) (o : AObj), st.hp[j]? = some o ∧ InNL u o.cells

theorem InS.of {w : World} {Z : Nat → Prop} {B : Nat} {μ : List Value} {st : St} {vs : List Value} {u : Value} {g : Nat} (hH : HRel w Z B μ st.hp) (hF : RelL w Z μ st.fr vs) (hg : blk u = some g) (h : InS u st) : g < w.heap.size ∧ ¬ Z g := by
  rcases h with h | ⟨j, o, ho, h⟩
  · exact InNL.of hg hF h
  · have hjl : j < μ.length := by rw [hH.len]; exact (List.getElem?_eq_some_iff.1 ho).1
    obtain ⟨xs, hx, _⟩ := obj_cells (hH.obj j o _ ho (List.getElem?_eq_getElem hjl))
    exact InNL.of hg hx h

section
variable {rd : Option Nat} {P : Program} {m : M} {Q : Exit → St → Prop}
end

/-! ### Objects told otherwise -/
/-! ### A named row taken back -/
section
variable {rd : Option Nat} {P : Program} {m : M} {Q : Exit → St → Prop}
end

/-! ### A slot read by names -/
mutual
def nameable : AV → Bool
  | .lst _ _ cs => nameableL cs
  | .agg cs => nameableL cs
  | .int _ _ => true
  | .bool _ => true
  | .nil => true
  | .nam _ _ _ _ _ => false
  | .clp _ _ _ => false
  | .rptr _ => false
  | .tup _ => false
  | .fn _ _ => false
  | .str _ => true
  | .ref _ => false
  | .ptr _ _ => false
  | .own _ _ _ _ => false
  | .top => true
def nameableL : List AV → Bool
  | [] => true
  | c :: cs => nameable c && nameableL cs
end

/-- c' is c, read by names. -/
structure ByN (c' c : AV) : Prop where
  leafy : c'.leafy = true
  raw : NoRaw c' = true
  fgt : ∀ (w : World) (Z : Nat → Prop) v, Rel w Z [] c' v → Rel w Z [] c v

structure ByNL (c' c : List AV) : Prop where
  leafy : leafyL c' = true
  raw : NoRawL c' = true
  fgt : ∀ (w : World) (Z : Nat → Prop) v, RelL w Z [] c' v → RelL w Z [] c v

mutual
theorem name_of {w : World} {Z : Nat → Prop} : ∀ {c : AV} {v : Value}, nameable c = true → Rel w Z [] c v → ∃ c', ByN c' c ∧ Rel w Z [] c' v
  | .lst s n cs, v, h, hr => by
    simp only [nameable] at h
    simp only [Rel] at hr
    obtain ⟨A, c, xs, h1, h2, h3, h4, h5⟩ := hr
    obtain ⟨cs', ⟨k1, k2, k3⟩, k4⟩ := nameL_of h h5
    refine ⟨.nam v none s n cs', ⟨rfl, by simpa [NoRaw] using k2, fun w Z x hx => ?_⟩, ?_⟩
    · simp only [Rel] at hx ⊢
      obtain ⟨_, A, c, xs', e1, e2, e3, e4, e5⟩ := hx
      exact ⟨A, c, xs', e1, by rw [← h2, ← h5.length, k4.length, e2, ← e2, ← k4.length, h5.length, h2] , e3, e4, k3 _ _ _ e5⟩
    · simp only [Rel]
      exact ⟨⟨trivial, fun e he => by cases he⟩, A, c, xs, h1, by rw [← k4.length, h5.length, h2], h3, h4, k4⟩
  | .agg cs, v, h, hr => by
    simp only [nameable] at h
    simp only [Rel] at hr
    obtain ⟨xs, h1, h5⟩ := hr
    obtain ⟨cs', ⟨k1, k2, k3⟩, k4⟩ := nameL_of h h5
    refine ⟨.agg cs', ⟨by simpa [AV.leafy] using k1, by simpa [NoRaw] using k2, fun w Z x hx => ?_⟩, ?_⟩
    · simp only [Rel] at hx ⊢
      obtain ⟨xs', e1, e5⟩ := hx
      exact ⟨xs', e1, k3 _ _ _ e5⟩
    · simp only [Rel]
      exact ⟨xs, h1, k4⟩
  | .int k n, v, _, hr => ⟨.int k n, ⟨rfl, rfl, fun _ _ _ h => h⟩, hr⟩
  | .bool b, v, _, hr => ⟨.bool b, ⟨rfl, rfl, fun _ _ _ h => h⟩, hr⟩
  | .str b, v, _, hr => ⟨.str b, ⟨rfl, rfl, fun _ _ _ h => h⟩, hr⟩
  | .nil, v, _, hr => ⟨.nil, ⟨rfl, rfl, fun _ _ _ h => h⟩, hr⟩
  | .top, v, _, hr => ⟨.top, ⟨rfl, rfl, fun _ _ _ h => h⟩, hr⟩
  | .nam _ _ _ _ _, _, h, _ => by simp [nameable] at h
  | .clp _ _ _, _, h, _ => by simp [nameable] at h
  | .rptr _, _, h, _ => by simp [nameable] at h
  | .tup _, _, h, _ => by simp [nameable] at h
  | .fn _ _, _, h, _ => by simp [nameable] at h
  | .ref _, _, h, _ => by simp [nameable] at h
  | .ptr _ _, _, h, _ => by simp [nameable] at h
  | .own _ _ _ _, _, h, _ => by simp [nameable] at h
theorem nameL_of {w : World} {Z : Nat → Prop} : ∀ {c : List AV} {v : List Value}, nameableL c = true → RelL w Z [] c v → ∃ c', ByNL c' c ∧ RelL w Z [] c' v
  | [], v, _, hr => ⟨[], ⟨rfl, rfl, fun _ _ _ h => h⟩, hr⟩
  | c :: cs, v, h, hr => by
    simp only [nameableL, Bool.and_eq_true] at h
    simp only [RelL] at hr
    obtain ⟨x, xs, rfl, h1, h2⟩ := hr
    obtain ⟨c', ⟨k1, k2, k3⟩, k4⟩ := name_of h.1 h1
    obtain ⟨cs', ⟨l1, l2, l3⟩, l4⟩ := nameL_of h.2 h2
    refine ⟨c' :: cs', ⟨by simp [leafyL, k1, l1], by simp [NoRawL, k2, l2], fun w Z v hv => ?_⟩, RelL.cons k4 l4⟩
    simp only [RelL] at hv ⊢
    obtain ⟨x, xs, e1, e2, e3⟩ := hv
    exact ⟨x, xs, e1, k3 _ _ _ e2, l3 _ _ _ e3⟩
end

theorem SubE.name (t : Nat) (c : AV) (st : St) (ht : st.fr[t]? = some c) (hn : nameable c = true) (hl : c.leafy = true) : SubE st (fun c' => ⟨st.fr.set t c', st.hp⟩) (fun c' => ByN c' c) := by
  rintro Z0 w0 a w ⟨μ, F, hFb, hH, hF, hd, hb⟩
  obtain ⟨x, hx, hr⟩ := hF.get ht
  obtain ⟨c', h1, h2⟩ := name_of hn (Rel.leafy hl hr)
  refine ⟨c', h1, μ, F, hFb, hH, ?_, hd, hb⟩
  have h3 := hF.set t h2.lift
  rwa [show a.tmps.toList.set t x = a.tmps.toList by
    apply List.ext_getElem?
    intro i
    by_cases hi : i = t
    · subst hi; rw [List.getElem?_set_self (List.getElem?_eq_some_iff.1 hx).1, hx]
    · rw [List.getElem?_set_ne (Ne.symm hi)]] at h3

section
variable {rd : Option Nat} {P : Program} {m : M} {Q : Exit → St → Prop}
theorem R.name (t : Nat) (c : AV) (h : subOk m = true) (ht : m.st.fr[t]? = some c) (hn : nameable c = true) (hl : c.leafy = true) (h' : ∀ c', ByN c' c → Runs rd P ⟨m.ks, ⟨m.st.fr.set t c', m.st.hp⟩⟩ Q) : Runs rd P m Q :=
  R.subE _ _ h (SubE.name t c m.st ht hn hl) h'
end

end Go.Abs


/-! Calls of which is told that there is a result with some facts, which may speak of the first block that the call made; calls by value whose arguments are told less of. -/
namespace Go.Abs
open Go.RowKit

def CallE (P : Program) (f : FuncId) (args : List AV) (Φ : Nat → AV → Prop) : Prop :=
  Enters P f ∧ ∀ (Z0 : Nat → Prop) (w : World) (vs : List Value), RelL w (Zone Z0 NoF w.heap.size) [] args vs →
    Calls P f vs.toArray w fun e w' => ∃ res v bs F', Φ w.heap.size res ∧ e = .returned v ∧ (∀ b, F' b → w.heap.size ≤ b ∧ b < w'.heap.size) ∧ RF w' (Zone Z0 F' w.heap.size) w.heap.size res v bs ∧ bs.Nodup ∧ (∀ b ∈ bs, ¬ F' b) ∧ Below w.heap.size w w'

theorem CallE.mono {P : Program} {f : FuncId} {args : List AV} {Φ Ψ : Nat → AV → Prop} (h : CallE P f args Φ) (h' : ∀ b r, Φ b r → Ψ b r) : CallE P f args Ψ := by
  refine ⟨h.1, fun Z0 w vs hvs => (h.2 Z0 w vs hvs).mono ?_⟩
  rintro e w' ⟨r, v, bs, F', hr, h⟩
  exact ⟨r, v, bs, F', h' _ _ hr, h⟩

/-- A result; object 0 is the base. -/
def resB (P : Program) (fn : Func) (st : St) : Option AV :=
  match st.hp[0]? with
  | some (AObj.inert (Inert.base _)) => if noMark st.hp then resOf P fn ⟨st.fr, st.hp.set 0 AObj.dead⟩ else none
  | _ => none

/-- How a function's body ends that hands back something with Φ. -/
def retE (P : Program) (fn : Func) (b : Nat) (Φ : Nat → AV → Prop) : Exit → St → Prop := fun e st' => (e = .normal ∨ e = .ret) ∧ ∃ res, Φ b res ∧ resB P fn st' = some res

theorem CallE.of {P : Program} {f : FuncId} {fn : Func} {c : Code} {args : List AV} {Φ : Nat → AV → Prop} (hf : P.funcs[f]? = some fn) (hb : fn.body = some c) (hnm : (fn.name == "runtime.NumGoroutine") = false)
    (h : ∀ b, Runs none P ⟨[.code c], ⟨frameOf fn.ntmps args, [.inert (.base b)]⟩⟩ (retE P fn b Φ)) : CallE P f args Φ := by
  refine ⟨enters_of hf hnm (by rw [hb]; rfl), ?_⟩
  intro Z0 w vs hvs
  have hlen := hvs.length
  refine callsIn_wide.1 (callsIn_of_wp_marks (F := Fence.wide) (n := 0) hf hb trivial ?_)
  have hS : Sim Z0 w ⟨args ++ List.replicate (fn.ntmps - args.length) .top, [.inert (.base w.heap.size)]⟩ { tmps := vs.toArray ++ Array.replicate (fn.ntmps - vs.toArray.size) undef, defers := [] } w := by
    have one : ∀ {i : Nat} {α : Type} {x y : α}, ([x] : List α)[i]? = some y → i = 0 ∧ y = x := by
      intro i α x y h
      cases i with
      | zero => simp at h; exact ⟨rfl, h.symm⟩
      | succ i => simp at h
    refine ⟨[.bool false], NoF, fun b h => h.elim, ⟨rfl, fun i o u g h1 h2 h3 hg => ?_, fun i u h => ?_, fun i o u h1 h2 => ?_, fun i j oi oj ui uj g hne h1 h2 => ?_⟩, ?_, .inl rfl, Below.refl _ _⟩
    · obtain ⟨_, rfl⟩ := one h3
      cases hg
    · obtain ⟨_, rfl⟩ := one h
      rfl
    · obtain ⟨_, rfl⟩ := one h1
      obtain ⟨_, rfl⟩ := one h2
      exact ⟨rfl, rfl⟩
    · exact absurd ((one h1).1.trans (one h2).1.symm) hne
    simp only [Array.toList_append, Array.toList_replicate, List.size_toArray, hlen]
    refine (RelL.lift hvs).append ?_
    generalize fn.ntmps - args.length = n
    induction n with
    | zero => exact RelL.nil
    | succ n ih => exact RelL.cons (by simp [Rel]) ih
  refine wpIn_mono ((h w.heap.size).out Z0 w _ w hS) ?_
  have fin : ∀ (st' : St) (a' : Act) (w' : World) res, Φ w.heap.size res → resB P fn st' = some res → Sim Z0 w st' a' w' → LeavesInM Fence.wide 0 P fn a'.tmps (fun e w'' => ∃ res v' bs F', Φ w.heap.size res ∧ e = .returned v' ∧ (∀ b, F' b → w.heap.size ≤ b ∧ b < w''.heap.size) ∧ RF w'' (Zone Z0 F' w.heap.size) w.heap.size res v' bs ∧ bs.Nodup ∧ (∀ b ∈ bs, ¬ F' b) ∧ Below w.heap.size w w'') a'.defers .returning w' := by
    rintro st' a' w' res hΦ hr ⟨μ, F, hFb, hH, hF, hd, hbel⟩
    unfold resB at hr
    split at hr
    · rename_i b hb0
      split at hr
      · rename_i hnm
        have hr := resOf_parts hr
        rw [hd.none hnm]
        obtain ⟨x, bs, h1, h2, h3, h4⟩ := resOf_run (st := ⟨st'.fr, st'.hp.set 0 .dead⟩) (hH.bury 0) hF hr.1
        have hge := RF.ge h2
        refine ⟨x, h1, res, x, bs, F, hΦ, rfl, hFb, h2, h3, fun b hb hf => ?_, hbel⟩
        have := hge b hb
        exact (h4 b hb).elim (fun h => absurd h.1 (by omega)) (fun h => h.2 hf)
      · cases hr
    · cases hr
  rintro e a' w' ⟨st', ⟨hq, res, hΦ, hr⟩, hS'⟩
  rcases hq with rfl | rfl
  · exact fin st' a' w' res hΦ hr hS'
  · exact fin st' a' w' res hΦ hr hS'

/-! ### Results that lead into new blocks alone -/
section
variable {rd : Option Nat} {P : Program} {m : M} {Q : Exit → St → Prop}
end

end Go.Abs


/-! Rows of named rows; the rules for them; loops of few rounds. -/
namespace Go.Abs
open Go.RowKit

section
variable {α : Type} {E : α → List AV} {el s b : Nat} {L : List (Value × List α)} {v : Value}

/-- The names are of blocks of their own, from b on. -/
structure NL (b : Nat) (L : List (Value × List α)) : Prop where
  nd : (L.filterMap fun x => blk x.1).Nodup
  ge : ∀ x ∈ L, ∀ g, blk x.1 = some g → b ≤ g

theorem NL.nil : NL b ([] : List (Value × List α)) := ⟨List.nodup_nil, fun x h => by simp at h⟩
theorem NL.mono {b' : Nat} (h : NL b L) (hb : b' ≤ b) : NL b' L := ⟨h.nd, fun x hx g hg => Nat.le_trans hb (h.ge x hx g hg)⟩
theorem NL.set (h : NL b L) (i : Nat) (d : Value × List α) (ys : List α) (hi : i < L.length) : NL b (L.set i ((L.getD i d).1, ys)) := by
  have e : (L.set i ((L.getD i d).1, ys)).map (fun x => x.1) = L.map fun x => x.1 := by
    apply List.ext_getElem?
    intro k
    simp only [List.getElem?_map, List.getElem?_set]
    split
    · rename_i hk
      subst hk
      simp [hi, List.getD_eq_getElem?_getD]
    · rfl
  have e2 : ∀ M : List (Value × List α), (M.filterMap fun x => blk x.1) = (M.map fun x => x.1).filterMap blk := fun M => by rw [List.filterMap_map]; rfl
  refine ⟨by rw [e2, e, ← e2]; exact h.nd, fun x hx g hg => ?_⟩
  have : x.1 ∈ L.map fun x => x.1 := by rw [← e]; exact List.mem_map_of_mem hx
  obtain ⟨y, hy, e3⟩ := List.mem_map.1 this
  exact h.ge y hy g (by rw [e3]; exact hg)

theorem NL.at (h : NL b L) (d : Value × List α) {i : Nat} (hi : i < L.length) : ∀ g, blk (L.getD i d).1 = some g → b ≤ g :=
  h.ge _ (List.mem_of_getElem? (i := i) (by simp [List.getD_eq_getElem?_getD, List.getElem?_eq_getElem hi]))

/-! ### What is safe -/
end

section
variable {rd : Option Nat} {P : Program} {m : M} {Q : Exit → St → Prop} {α : Type}

/-! ### Loops of few rounds -/
def lpC (m : M) : Code :=
  match m.ks with
  | .code (.loop c) :: _ => c
  | _ => .skip
def lpK (m : M) : List Kont :=
  match m.ks with
  | .code (.loop _) :: ks => ks
  | _ => []
def isLp (m : M) : Bool :=
  match m.ks with
  | .code (.loop _) :: _ => true
  | _ => false

def Again (rd : Option Nat) (P : Program) (c : Code) (ks : List Kont) (Q : Exit → St → Prop) : Nat → (St → Prop) → Prop
  | 0, _ => True
  | n + 1, R => ∀ st, (∀ R', Again rd P c ks Q n R' → Runs rd P ⟨.code c :: .stop R' :: ks, st⟩ Q) → R st

def RK (rd : Option Nat) (P : Program) (c : Code) (ks : List Kont) (Q : Exit → St → Prop) : Nat → St → Prop
  | 0, _ => False
  | n + 1, st => Runs rd P ⟨.code c :: .stop (RK rd P c ks Q n) :: ks, st⟩ Q

theorem again_RK {c : Code} {ks : List Kont} : ∀ n, Again rd P c ks Q n (RK rd P c ks Q n)
  | 0 => trivial
  | n + 1 => fun _ h => h _ (again_RK n)

theorem R.rounds (n : Nat) (h : isLp m = true) (h' : ∀ R, Again rd P (lpC m) (lpK m) Q n R → Runs rd P ⟨.code (lpC m) :: .stop R :: lpK m, m.st⟩ Q) : Runs rd P m Q := by
  obtain ⟨ks0, st⟩ := m
  have h2 := h' _ (again_RK n)
  unfold isLp at h
  unfold lpC lpK at h2
  simp only at h h2
  split at h
  · simp only at h2
    rw [runs_iff]
    simp only [RunsK]
    rename_i c ks
    refine RunA.loop (I := fun n st => RK rd P c ks Q n st) (n + 1) h2 (fun k st hk => ?_)
    cases k with
    | zero => exact hk.elim
    | succ k =>
      have h1 := hk.out
      simp only [RunsK] at h1
      refine h1.mono fun e st' hq => ?_
      cases e with
      | normal => exact ⟨st', Sub.refl _, k, Nat.lt_succ_self _, hq⟩
      | ret => exact hq
      | exit id => exact hq
      | goto l => exact hq
      | panic ch => exact hq
      | outgrown => exact hq
  · cases h

theorem R.stopA (R1 : St → Prop) {c : Code} {ks : List Kont} {n : Nat} {Q' : Exit → St → Prop} (h : spAt m = some R1) (hA : Again rd P c ks Q' (n + 1) R1) (h' : ∀ R', Again rd P c ks Q' n R' → Runs rd P ⟨.code c :: .stop R' :: ks, m.st⟩ Q') : Runs rd P m Q :=
  R.stop R1 h (hA m.st h')
end

section
variable {rd : Option Nat} {P : Program} {m : M} {Q : Exit → St → Prop}
end

end Go.Abs


/-! Calls by reference that may move several rows. -/
namespace Go.Abs
open Go.RowKit Go.ChangeShapes Go.WideShapes Go.Deep

/-- The frame names none of these objects. -/
def KillsL : List Nat → List AV → Prop
  | [], _ => True
  | q :: qs, fr => killL q fr = fr ∧ KillsL qs fr
theorem kills_app : ∀ {qs : List Nat} {xs ys : List AV}, KillsL qs xs → KillsL qs ys → KillsL qs (xs ++ ys)
  | [], _, _, _, _ => trivial
  | q :: qs, xs, ys, h1, h2 => ⟨by rw [killL_app, h1.1, h2.1], kills_app h1.2 h2.2⟩
def upQ (k : Nat) (qs : List Nat) : List Nat := qs.map fun q => if q < k then q else q + 1
theorem kills_ren {k n : Nat} (hk : k ≤ n) : ∀ {qs : List Nat} {xs : List AV}, KillsL (upQ k qs) xs → KillsL qs (renL (insI k n) xs)
  | [], _, _ => trivial
  | q :: qs, xs, h => by
    simp only [upQ, List.map_cons, KillsL] at h
    exact ⟨killL_ren (fun i hi e => insI_kill hk i hi e) _ h.1, kills_ren hk h.2⟩
def CallQ (P : Program) (qs : List Nat) (f : FuncId) (args : List AV) (hp : List AObj) (Φ : AV → List AObj → Prop) : Prop :=
  Enters P f ∧ ∀ (Z0 F : Nat → Prop) (w0 w : World) (μ vs us : List Value) (fr : List AV), (∀ b, F b → w0.heap.size ≤ b ∧ b < w.heap.size) → HRel w (Zone Z0 F w0.heap.size) w0.heap.size μ hp → RelL w (Zone Z0 F w0.heap.size) μ args vs → RelL w (Zone Z0 F w0.heap.size) μ fr us → Below w0.heap.size w0 w → KillsL qs fr →
    Calls P f vs.toArray w fun e w' => ∃ v μ' F' res hp', Φ res hp' ∧ e = .returned v ∧ (∀ b, F' b → w0.heap.size ≤ b ∧ b < w'.heap.size) ∧ HRel w' (Zone Z0 F' w0.heap.size) w0.heap.size μ' hp' ∧ Rel w' (Zone Z0 F' w0.heap.size) μ' res v ∧ RelL w' (Zone Z0 F' w0.heap.size) μ' fr us ∧ Below w0.heap.size w0 w'


section
variable {rd : Option Nat} {P : Program} {m : M} {Q : Exit → St → Prop}
end

section
variable {rd : Option Nat} {P : Program} {m : M} {Q : Exit → St → Prop}
theorem CallQ.ofF {qs : List Nat} {f : FuncId} {fn : Func} {c : Code} {args : List AV} {hp : List AObj} {Φ : AV → List AObj → Prop} (hf : P.funcs[f]? = some fn) (hb : fn.body = some c) (hnm : (fn.name == "runtime.NumGoroutine") = false)
    (h : ∀ us fr, Fits hp.length fr → KillsL qs fr → Runs none P ⟨[.code c], ⟨frameOf fn.ntmps args, hp ++ [.frame us fr]⟩⟩ (retX P fn hp.length us fr Φ)) : CallQ P qs f args hp Φ := by
  refine ⟨enters_of hf hnm (by rw [hb]; rfl), ?_⟩
  intro Z0 F w0 w μ vs us fr hFb hH hvs hus hbel hkq
  have hml := hH.len
  have hfit : Fits hp.length fr := ⟨fun js hjs => RelL.fitR (by rw [hml]; exact hjs) hus, fun i hi => RelL.fitK (by rw [hml]; exact hi) hus, fun i r hi => RelL.fitF (by rw [hml]; exact hi) hus⟩
  · have hlen := hvs.length
    refine calls_of_wpIn hf hb ?_
    have hS : Sim Z0 w0 ⟨frameOf fn.ntmps args, hp ++ [.frame us fr]⟩ { tmps := vs.toArray ++ Array.replicate (fn.ntmps - vs.toArray.size) undef, defers := [] } w := by
      refine ⟨μ ++ [.bool false], F, hFb, hH.extend1 (zone_new hbel.size hFb) (Below.refl _ _) ?_ (fun g hg => by simp [blk] at hg) rfl, ?_, .inl rfl, hbel⟩
      · exact RelL.keep (w := w) (fun _ _ _ => rfl) (fun i u hu => append_old i u hu) hus
      · simp only [Array.toList_append, Array.toList_replicate, List.size_toArray, hlen, frameOf]
        refine RelL.append (RelL.keep (w := w) (fun _ _ _ => rfl) (fun i u hu => append_old i u hu) hvs) ?_
        generalize fn.ntmps - args.length = n
        induction n with
        | zero => exact RelL.nil
        | succ n ih => exact RelL.cons (by simp [Rel]) ih
    have hrun2 := h us fr hfit hkq
    simp only [runs_iff] at hrun2
    simp only [RunsK] at hrun2
    refine wpIn_mono (hrun2 Z0 w0 _ w hS) ?_
    have fin : ∀ (e : Exit) (st' : St) (a' : Act) (w' : World), retX P fn hp.length us fr Φ e st' → Sim Z0 w0 st' a' w' → a'.defers = [] ∧ ∃ v, (results fn a'.tmps).run P w' = .ok v w' ∧ ∃ v' μ' F' res hp', Φ res hp' ∧ Ending.returned v = .returned v' ∧ (∀ b, F' b → w0.heap.size ≤ b ∧ b < w'.heap.size) ∧ HRel w' (Zone Z0 F' w0.heap.size) w0.heap.size μ' hp' ∧ Rel w' (Zone Z0 F' w0.heap.size) μ' res v' ∧ RelL w' (Zone Z0 F' w0.heap.size) μ' fr us ∧ Below w0.heap.size w0 w' := by
      rintro e st' a' w' ⟨res, hp', hΦ, _, hres, hfr, hh⟩ ⟨μ', F', hFb', hH', hF', hd', hbel'⟩
      obtain ⟨x, h1, h2⟩ := resIn_run hH' hF' hres
      unfold frameAt at hfr
      split at hfr
      · rename_i us2 fr2 hi
        cases hfr
        have hil : hp.length < μ'.length := by rw [hH'.len]; exact (List.getElem?_eq_some_iff.1 hi).1
        have hfrr : RelL w' (Zone Z0 F' w0.heap.size) μ' fr us := hH'.obj _ _ _ hi (List.getElem?_eq_getElem hil)
        exact ⟨hd'.none (resIn_mark hres), x, h1, x, μ', F', res, hp', hΦ, rfl, hFb', hh ▸ hH'.bury _, h2, hfrr, hbel'⟩
      · cases hfr
    rintro e a' w' ⟨st', hq, hS'⟩
    cases e with
    | normal => exact fin _ st' a' w' hq hS'
    | ret => exact fin _ st' a' w' hq hS'
    | exit id => (obtain ⟨_, _, _, hq, _⟩ := hq; exact absurd hq (by simp))
    | goto l => (obtain ⟨_, _, _, hq, _⟩ := hq; exact absurd hq (by simp))
    | panic ch => (obtain ⟨_, _, _, hq, _⟩ := hq; exact absurd hq (by simp))
    | outgrown => (obtain ⟨_, _, _, hq, _⟩ := hq; exact absurd hq (by simp))
end
section
variable {P : Program}
theorem CallQ.dropE {P : Program} {qs : List Nat} {f : FuncId} {args : List AV} {hp : List AObj} {Φ : AV → List AObj → Prop} (hc : CallQ P qs f args hp fun r h => ∃ js : List Nat, js.take hp.length = List.range hp.length ∧ js.Nodup ∧ Φ (r.ren js) (renH js h)) :
    CallQ P qs f args hp Φ := by
  obtain ⟨hen, hc⟩ := hc
  refine ⟨hen, ?_⟩
  intro Z0 F w0 w μ vs us fr hFb hH hvs hus hbel hkq
  refine (hc Z0 F w0 w μ vs us fr hFb hH hvs hus hbel hkq).mono ?_
  rintro e w' ⟨v, μ1, F1, res, hp', ⟨js, h1, h2, hΦ⟩, rfl, hF1, hH1, hres, hfr1, hb1⟩
  have hm1 := hH1.len
  have hjs : ∀ i, i < hp.length → js[i]? = some i := by
    intro i hi
    have := congrArg (fun l : List Nat => l[i]?) h1
    simp only [List.getElem?_take, if_pos hi] at this
    rw [this]
    simp [hi]
  refine ⟨v, _, F1, _, _, hΦ, rfl, hF1, hH1.ren js h2, Rel.ren js hres, ?_, hb1⟩
  refine RelL.mix (n := hp.length) ?_ ?_ hus (hfr1.ren (List.range hp.length))
  · intro i x hi hx
    rw [List.getElem?_map, hjs i hi]
    rw [List.getElem?_map] at hx
    simpa [hi] using hx
  · intro i x hi hx
    have h4 := (List.getElem?_eq_some_iff.1 hx).1
    have h5 := hH.len
    omega
theorem CallQ.inF {qs : List Nat} {f : FuncId} {args : List AV} {hp : List AObj} {Φ : AV → List AObj → Prop} (k : Nat) (us2 : List Value) (fr2 : List AV) (hc : CallQ P qs f args hp Φ) (hk : k ≤ hp.length)
    (h1 : renH (insI k hp.length) (insF k us2 fr2 hp) = hp) (h2 : renL (insI k hp.length) (renL (insJ k hp.length) args) = args) (h3 : ∀ r h', Φ r h' → hp.length ≤ h'.length) (hkf : KillsL (upQ k qs) fr2) :
    CallQ P (upQ k qs) f (renL (insJ k hp.length) args) (insF k us2 fr2 hp) fun r h => ∃ res hp', Φ res hp' ∧ r = res.ren (insJ k hp'.length) ∧ h = insF k us2 fr2 hp' := by
  obtain ⟨hen, hc⟩ := hc
  refine ⟨hen, ?_⟩
  intro Z0 F w0 w μ vs us fr hFb hH hvs hus hbel hkq
  have hHl : (insF k us2 fr2 hp).length = hp.length + 1 := by
    unfold insF renH insJ
    simp
    omega
  have hml : μ.length = hp.length + 1 := by rw [hH.len, hHl]
  have hH0 := hH.ren (insI k hp.length) (insI_nodup hk)
  have e0 : ((insI k hp.length).map fun i => ((insF k us2 fr2 hp).getD i .dead).ren (insI k hp.length)) = hp := h1
  rw [e0] at hH0
  have hvs0 := hvs.ren (insI k hp.length)
  rw [h2] at hvs0
  have hn2 : (insF k us2 fr2 hp)[k]? = some (.frame us2 fr2) := by
    unfold insF
    rw [List.getElem?_set_self]
    have : (renH (insJ k hp.length) (hp ++ [.dead])).length = hp.length + 1 := by unfold renH insJ; simp; omega
    omega
  obtain ⟨u, hu⟩ : ∃ u, μ[k]? = some u := ⟨_, List.getElem?_eq_getElem (by omega)⟩
  have hf2 : RelL w (Zone Z0 F w0.heap.size) μ fr2 us2 := hH.obj _ _ u hn2 hu
  have hus0 := (hus.append hf2).ren (insI k hp.length)
  refine (hc Z0 F w0 w _ vs (us ++ us2) _ hFb hH0 hvs0 hus0 hbel (kills_ren hk (kills_app hkq hkf))).mono ?_
  rintro e w' ⟨v, μ1, F1, res, hp', hΦ, rfl, hF1, hH1, hres, hfr1, hb1⟩
  have h3 := h3 _ _ hΦ
  have hm1 := hH1.len
  have hHd := hH1.addDead u (hH.one _ u hu)
  have hH2 := hHd.ren (insJ k hp'.length) (insJ_nodup (by omega))
  obtain ⟨μ2, hμ2⟩ : ∃ μ2, μ2 = ((insJ k hp'.length).map fun i => (μ1 ++ [u]).getD i (.bool false)) := ⟨_, rfl⟩
  have hA : ∀ (i : Nat) x, (insI k hp.length).contains i = true → μ1[(insI k hp.length).idxOf i]? = some x → μ2[i]? = some x := by
    intro i x hi hx
    obtain ⟨g1, g2⟩ := insI_idx hk hi
    generalize (insI k hp.length).idxOf i = j at g1 g2 hx
    have hj : (insJ k hp'.length)[i]? = some j := by
      split at g2
      · rw [g2]; exact insJ_lo (by assumption)
      · rw [g2]; exact insJ_hi (by omega) (by omega)
    rw [hμ2, List.getElem?_map, hj]
    simp only [Option.map_some, List.getD_eq_getElem?_getD]
    rw [List.getElem?_append_left (List.getElem?_eq_some_iff.1 hx).1, hx]
    rfl
  have hB : ∀ (i : Nat) x, (insI k hp.length).contains i = false → μ[i]? = some x → μ2[i]? = some x := by
    intro i x hi hx
    have hlt := (List.getElem?_eq_some_iff.1 hx).1
    have hin : i = k := by
      refine Classical.byContradiction fun hne => ?_
      have := insI_mem hk (i := i) (by omega) hne
      rw [this] at hi
      cases hi
    subst hin
    rw [hu] at hx
    rw [hμ2, List.getElem?_map, insJ_at]
    simp only [Option.map_some, List.getD_eq_getElem?_getD]
    rw [List.getElem?_append_right (by omega), hm1]
    simpa using hx
  rw [← hμ2] at hH2
  have hall := RelL.mixJ hA hB (hus.append hf2) hfr1
  have hul := hus.length
  have hfr : RelL w' (Zone Z0 F1 w0.heap.size) μ2 fr us := by
    have := hall.take fr.length
    rwa [List.take_left, ← hul, List.take_left] at this
  have hfr2 : RelL w' (Zone Z0 F1 w0.heap.size) μ2 fr2 us2 := by
    have := hall.drop fr.length
    rwa [List.drop_left, ← hul, List.drop_left] at this
  refine ⟨v, μ2, F1, _, _, ⟨res, hp', hΦ, rfl, rfl⟩, rfl, hF1, ?_, ?_, hfr, hb1⟩
  · refine hH2.frameAt ?_ hfr2
    rw [List.getElem?_map, insJ_at]
    simp [AObj.ren]
  · rw [hμ2]
    exact Rel.ren _ (Rel.keep (w := w') (fun _ _ _ => rfl) (fun i u hu => append_old i u hu) hres)
end
end Go.Abs


/-! slices.Sort at rows of integers of one's own. -/
namespace Go.Abs
open Go.RowKit Go.Proofs Go.ChangeShapes Go.WideShapes Go.Deep

def srtI (xs : List Int) : List Int := xs.mergeSort fun x y => decide (x ≤ y)
theorem srtI_len (xs : List Int) : (srtI xs).length = xs.length := List.length_mergeSort xs

theorem relL_ints_inv {w : World} {Z : Nat → Prop} {μ : List Value} : ∀ {xs : List Int} {vs : List Value}, RelL w Z μ (rows eI xs) vs → vs = xs.map (Value.int .i64)
  | [], vs, h => by simpa [rows, RelL] using h
  | x :: xs, vs, h => by
    simp only [rows, eI, List.cons_append, List.nil_append] at h
    simp only [RelL] at h
    obtain ⟨v, vs', rfl, h1, h2⟩ := h
    simp only [AI, Rel] at h1
    rw [List.map_cons, ← relL_ints_inv (xs := xs) h2, h1]

theorem relL_ints_mk {w : World} {Z : Nat → Prop} {μ : List Value} : ∀ xs : List Int, RelL w Z μ (rows eI xs) (xs.map (Value.int .i64))
  | [] => RelL.nil
  | x :: xs => RelL.cons (by simp [Rel, AI]) (relL_ints_mk xs)

theorem CallS.sort {P : Program} {ρ : Go.Shelf.Ren} (Ly : SlLaysM.n5 P ρ) (hen : Enters P (ρ.f 5)) (e : Nat) (xs : List Int) (hl : xs.length ≤ 1000000000) : CallS P (ρ.f 5) [.ref 0] [rowA eI e 1 xs] (.tup []) [rowA eI e 1 (srtI xs)] := by
  refine ⟨hen, ?_⟩
  intro Z0 F w0 w μ vs us fr hFb hH hvs hus hbel
  have hlen := hvs.length
  obtain ⟨v, rfl⟩ : ∃ v, vs = [v] := by
    cases vs with
    | nil => simp at hlen
    | cons v t => cases t with
      | nil => exact ⟨v, rfl⟩
      | cons _ _ => simp at hlen
  replace hvs : μ[0]? = some v := by
    simp only [RelL, Rel] at hvs
    obtain ⟨x, xs', e1, e2, e3⟩ := hvs
    cases e1; exact e2
  obtain ⟨ys, hown, hrel⟩ : ∃ ys, w.ownsRow w0.heap.size e 1 v xs.length ys ∧ RelL w (Zone Z0 F w0.heap.size) [] (rows eI xs) ys := hH.obj 0 _ v rfl hvs
  have hys := relL_ints_inv hrel
  subst hys
  have hZn := zone_new (Z0 := Z0) hbel.size hFb
  rcases hown with ⟨hyl, ⟨hv, hn⟩ | ⟨g, cap, cur, hv, hbase, hb, hncap, hcap, hsz, htake⟩⟩
  · have hx : xs = [] := List.eq_nil_of_length_eq_zero hn
    subst hx hv
    refine (AnyM.slices_Sort_int_none Ly none 0 w).mono ?_
    rintro en w' ⟨rfl, rfl⟩
    exact ⟨_, μ, F, rfl, hFb, (by rw [show srtI [] = [] from List.mergeSort_nil]; exact hH), by simp [Rel, RelL], hus, hbel⟩
  · subst hv
    have ht2 : cur.toList.take xs.length = xs.map (Value.int .i64) := by rwa [Nat.mul_one] at htake
    have hgl : g < w.heap.size := (Array.getElem?_eq_some_iff.1 hb).1
    refine (AnyM.slices_Sort_int Ly g 0 cap xs w (holds_of_blockI hb ht2) hgl (by omega)).mono ?_
    rintro en w' ⟨rfl, nn, os, rfl⟩
    have hgr := grownBy_sortedI (w := w) (g := g) (n := nn) (os := os) (xs.mergeSort fun x y => decide (x ≤ y)).toArray
    have hro := ownsRow_sortedI (n := nn) (os := os) (ts := xs.mergeSort fun x y => decide (x ≤ y)) (List.length_mergeSort xs) hbase hb hncap hcap hsz
    have hbl : Below w0.heap.size w (Go.Sort.grow (Go.Sort.putRow (Value.int .i64) (Sort.ahead w nn) g 0 (xs.mergeSort fun x y => decide (x ≤ y)).toArray) os) := ⟨hgr.os, hgr.tape, hgr.output, hgr.size, fun k hk => hgr.block k (by have := hbel.size; omega) (by simp; omega)⟩
    refine ⟨_, μ, F, rfl, fun b hb' => ⟨(hFb b hb').1, Nat.lt_of_lt_of_le (hFb b hb').2 hgr.size⟩, ?_, by simp [Rel, RelL], ?_, hbel.trans hbl⟩
    · refine hH.update_same hZn rfl hvs rfl (fun b hb1 hne => hgr.block b hb1 (fun e => hne (by cases e; rfl))) ?_
      exact ⟨_, by rw [srtI_len]; exact hro, relL_ints_mk _⟩
    · refine RelL.keep (w := w) (fun b hb1 hz => hgr.block b hb1 ?_) (fun _ _ h => h) hus
      intro e2
      cases e2
      exact hz (hH.zone 0 _ _ _ rfl rfl hvs rfl)
end Go.Abs


/-! The machine's rules: texts joined, compared, made of bytes. -/
namespace Go.Abs
open Go.RowKit

/-- A text of the digits 0 and 1. -/
def bkey (l : List Bool) : ByteArray := ⟨(l.map fun b => if b then (49 : UInt8) else 48).toArray⟩
theorem bkey_app (l k : List Bool) : bkey l ++ bkey k = bkey (l ++ k) := by
  apply ByteArray.ext
  simp [bkey]
theorem bkey_inj {l k : List Bool} (h : (bkey l).toList == (bkey k).toList) : l = k := by
  have h := eq_of_beq h
  rw [bkey, bkey, ByteArray.toList_mk, ByteArray.toList_mk] at h
  refine List.map_inj_right (f := fun b : Bool => if b then (49 : UInt8) else 48) ?_ |>.1 h
  intro a b
  cases a <;> cases b <;> simp
theorem bkey_eq (l k : List Bool) : ((bkey l).toList == (bkey k).toList) = decide (l = k) := by
  rw [Bool.eq_iff_iff, decide_eq_true_iff]
  exact ⟨fun h => bkey_inj h, fun h => by subst h; exact beq_self_eq_true _⟩
theorem bkey_size (l : List Bool) : (bkey l).size = l.length := by simp [bkey, ByteArray.size]
def eK (l : List Bool) : List AV := [.str (bkey l)]
theorem eK_len (l : List Bool) : (eK l).length = 1 := rfl
inductive StrOp
  | cat | eql | neq
def strAt (m : M) : Option (StrOp × ByteArray × ByteArray) :=
  match opM m with
  | some (.binOp .add _ x y _) => match ev m.st.fr x, ev m.st.fr y with
    | .str a, .str b => some (.cat, a, b)
    | _, _ => none
  | some (.binOp .eql _ x y _) => match ev m.st.fr x, ev m.st.fr y with
    | .str a, .str b => some (.eql, a, b)
    | _, _ => none
  | some (.binOp .neq _ x y _) => match ev m.st.fr x, ev m.st.fr y with
    | .str a, .str b => some (.neq, a, b)
    | _, _ => none
  | _ => none
def strV : StrOp → ByteArray → ByteArray → AV
  | .cat, a, b => .str (a ++ b)
  | .eql, a, b => .bool (a.toList == b.toList)
  | .neq, a, b => .bool !(a.toList == b.toList)

section
variable {rd : Option Nat} {P : Program} {m : M} {Q : Exit → St → Prop}
/-- An operation at the head that only yields a value. -/
theorem R.valG (op : Op) (b : AV) (h : opM m = some op) (ho : opsAt m = true) (hd : ∀ c, op ≠ .defer c)
    (hrun : ∀ (Z : Nat → Prop) (μ : List Value) (a : Act) (w : World) (o : Oper), o.op = op → RelL w Z μ m.st.fr a.tmps.toList → ∃ v, (execOp a.eval o).run P w = .ok (.value v) w ∧ Rel w Z μ b v)
    (h' : Runs rd P (putM m none b m.st.hp) Q) : Runs rd P m Q := by
  obtain ⟨ks, ⟨fr, hp⟩⟩ := m
  unfold opM headOf at h
  unfold opsAt at ho
  simp only [putM, runs_iff] at h ho h' hrun ⊢
  split at ho
  · rename_i all o l fl ks'
    simp only [RunsK] at h' ⊢
    intro hW
    split at h
    · rename_i all' o' f' t' heq
      simp only [Option.some.injEq, Prod.mk.injEq] at heq
      obtain ⟨rfl, rfl, rfl, _⟩ := heq
      split at h
      · rename_i hw
        simp only [Option.some.injEq] at h
        exact OpsQ.val (wantH_true hw hW) (fun c => by rw [h]; exact hd c) (fun Z μ ac w hF => hrun Z μ ac w _ h hF) (h' headW_false)
      · cases h
    · cases h
  · cases ho
theorem R.str (k : StrOp) (a b : ByteArray) (v : AV) (h : strAt m = some (k, a, b)) (ht : quiet0 m = true) (hs : a.size + b.size ≤ 9223372036854775807) (hv : strV k a b = v) (h' : Runs rd P (putM m none v m.st.hp) Q) : Runs rd P m Q := by
  subst hv
  unfold strAt at h
  split at h
  · rename_i t x y ty hop
    split at h
    · rename_i a1 b1 hx hy
      simp only [Option.some.injEq, Prod.mk.injEq] at h
      obtain ⟨rfl, rfl, rfl⟩ := h
      exact R.eff0 hop (.inl (.catS _ _ hx hy hs)) ht h'
    · cases h
  · rename_i t x y ty hop
    split at h
    · rename_i a1 b1 hx hy
      simp only [Option.some.injEq, Prod.mk.injEq] at h
      obtain ⟨rfl, rfl, rfl⟩ := h
      exact R.eff0 hop (.inl (.eqlS _ _ hx hy)) ht h'
    · cases h
  · rename_i t x y ty hop
    split at h
    · rename_i a1 b1 hx hy
      simp only [Option.some.injEq, Prod.mk.injEq] at h
      obtain ⟨rfl, rfl, rfl⟩ := h
      exact R.eff0 hop (.inl (.neqS _ _ hx hy)) ht h'
    · cases h
  · cases h

def u8B (P : Program) (s d : TypeId) : Bool :=
  match P.underlying s, P.underlying d with
  | some (.slice e), some .string => (match P.underlying e with
    | some (.int .u8) => true
    | _ => false)
  | _, _ => false
def bytAt (P : Program) (m : M) : Option (Nat × List AV) :=
  match opM m with
  | some (.convert s d x) => if u8B P s d = true then (match ev m.st.fr x with
    | .lst 1 n cs => some (n, cs)
    | _ => none) else none
  | _ => none
theorem rel_bytes {w : World} {Z : Nat → Prop} {μ : List Value} : ∀ {xs : List Int} {vs : List Value}, RelL w Z μ (rows eB xs) vs → vs = xs.map (Value.int .u8)
  | [], vs, h => by simpa [rows, RelL] using h
  | x :: xs, vs, h => by
    simp only [rows, eB, List.cons_append, List.nil_append] at h
    simp only [RelL] at h
    obtain ⟨v, vs', rfl, h1, h2⟩ := h
    simp only [Rel] at h1
    rw [List.map_cons, ← rel_bytes (xs := xs) h2, h1]
def bytesOf (bs : List Int) : ByteArray := bs.foldl (fun r n => r.push (UInt8.ofNat n.toNat)) ByteArray.empty
/-- A text made of bytes. -/
theorem R.strB (bs : List Int) (h : bytAt P m = some (bs.length, rows eB bs)) (ho : opsAt m = true) (hne : bs ≠ []) (v : ByteArray) (hv : bytesOf bs = v) (h' : Runs rd P (putM m none (.str v) m.st.hp) Q) : Runs rd P m Q := by
  subst hv
  unfold bytAt at h
  split at h
  · rename_i s d x hop
    split at h
    · rename_i hu
      split at h
      · rename_i n cs hx
        simp only [Option.some.injEq, Prod.mk.injEq] at h
        obtain ⟨rfl, rfl⟩ := h
        refine R.valG _ _ hop ho (fun c => by simp) (fun Z μ ac w o hop hF => ⟨.string (bytesOf bs), ?_, by simp [Rel]⟩) h'
        have hr := hx ▸ ev_rel hF x
        simp only [Rel] at hr
        obtain ⟨A, c, vs, he, hl, hc, hrd, hrel⟩ := hr
        have hvs := rel_bytes hrel
        obtain ⟨ad, rfl, _, hcell⟩ := hrd (by rw [hvs]; simpa using hne)
        have hld := run_loadCells_list (P := P) w ad vs hcell
        rw [hvs, List.length_map] at hld
        unfold u8B at hu
        split at hu
        · rename_i e hs hd
          split at hu
          · rename_i he8
            simp [execOp, hop, he, Sem.run_bind, run_convert_bytes_string w s d e _ _ _ hs he8 hd, run_bytesToString w ad _ _ bs hld]
            rfl
          · cases hu
        · cases hu
      · cases h
    · cases h
  · cases h
end
end Go.Abs


/-! Definable sets: atoms, their unions, sorted lists (no program). -/
namespace Go.Proofs.Ytpalghbfhgimkaa
open Go.RowKit Go.Abs

/-- Two ascending lists of the same numbers are the same. -/
theorem asc_eq : ∀ {l k : List Int}, l.Pairwise (· < ·) → k.Pairwise (· < ·) → (∀ x, x ∈ l ↔ x ∈ k) → l = k
  | [], [], _, _, _ => rfl
  | [], y :: k, _, _, h => absurd ((h y).2 (List.mem_cons_self ..)) (List.not_mem_nil)
  | x :: l, [], _, _, h => absurd ((h x).1 (List.mem_cons_self ..)) (List.not_mem_nil)
  | x :: l, y :: k, hl, hk, h => by
    rw [List.pairwise_cons] at hl hk
    have hx := (h x).1 (List.mem_cons_self ..)
    have hy := (h y).2 (List.mem_cons_self ..)
    have e : x = y := by
      rcases List.mem_cons.1 hx with e | hx
      · exact e
      · rcases List.mem_cons.1 hy with e | hy
        · exact e.symm
        · have := hl.1 y hy
          have := hk.1 x hx
          omega
    subst e
    rw [asc_eq hl.2 hk.2 fun z => ?_]
    constructor
    · intro hz
      rcases List.mem_cons.1 ((h z).1 (List.mem_cons_of_mem _ hz)) with e | e
      · have := hl.1 z hz; omega
      · exact e
    · intro hz
      rcases List.mem_cons.1 ((h z).2 (List.mem_cons_of_mem _ hz)) with e | e
      · have := hk.1 z hz; omega
      · exact e
theorem srt_asc {l : List Int} (h : l.Nodup) : (srtI l).Pairwise (· < ·) := by
  have h1 : (srtI l).Pairwise fun a b => decide (a ≤ b) = true := List.pairwise_mergeSort (fun a b c h1 h2 => by simp only [decide_eq_true_eq] at *; omega) (fun a b => by simp only [Bool.or_eq_true, decide_eq_true_eq]; omega) l
  have h2 : (srtI l).Nodup := (List.mergeSort_perm l _).nodup_iff.2 h
  have h3 := List.pairwise_and_iff.2 ⟨h1, h2⟩
  exact h3.imp fun h => by
    have h4 := h.1
    have h5 := h.2
    simp only [decide_eq_true_eq] at h4
    omega
theorem srt_mem {l : List Int} {x : Int} : x ∈ srtI l ↔ x ∈ l := List.mem_mergeSort

/-- Pieces of the atoms: within the set, and without. -/
def pcs (t a : Int) : List Int := (if band a t = 0 then [] else [band a t]) ++ (if bnot a t = 0 then [] else [bnot a t])
def splt (t : Int) (al : List Int) : List Int := al.flatMap (pcs t)
def atmF (n : Nat) (f : Nat → Int) : Nat → List Int
  | 0 => if 0 < n then [(shl64 1 (n : Int)) - 1] else []
  | i + 1 => splt (f i) (atmF n f i)
def kyF (f : Nat → Int) (w : Nat) : Nat → List Bool
  | 0 => []
  | i + 1 => kyF f w i ++ [tb (f i) w]
/-- The atoms of the first i sets. -/
structure ATM (n : Nat) (f : Nat → Int) (i : Nat) (al : List Int) : Prop where
  rng : ∀ a ∈ al, InM n a ∧ ∃ w, tb a w = true
  dis : al.Pairwise fun a b => ∀ w, tb a w = true → tb b w = true → False
  cov : ∀ w, w < n → ∃ a ∈ al, tb a w = true
  cls : ∀ a ∈ al, ∀ w v, tb a w = true → v < n → (tb a v = true ↔ kyF f v i = kyF f w i)
theorem nz_tb {n : Nat} {a : Int} (h : InM n a) (hz : ¬ a = 0) : ∃ w, tb a w = true := by
  refine Classical.byContradiction fun hn => hz (tb_ext h.1 (Int.le_refl _) fun i => ?_)
  rw [tb_zero]
  cases hb : tb a i with
  | false => rfl
  | true => exact absurd ⟨i, hb⟩ hn
theorem pcs_mem {n : Nat} {t a p : Int} (hn : n ≤ 61) (ht : InM n t) (ha : InM n a) (h : p ∈ pcs t a) : InM n p ∧ (∃ w, tb p w = true) ∧ ((p = band a t ∧ ∀ w, tb p w = (tb a w && tb t w)) ∨ (p = bnot a t ∧ ∀ w, tb p w = (tb a w && !tb t w))) := by
  have h1 := inM_band hn ha ht
  have h2 := inM_bnot hn ha ht
  rcases List.mem_append.1 h with h | h
  · split at h
    · exact absurd h (List.not_mem_nil)
    · rename_i hz
      have e := List.mem_singleton.1 h
      subst e
      exact ⟨h1, nz_tb h1 hz, .inl ⟨rfl, fun w => tb_band hn ha ht w⟩⟩
  · split at h
    · exact absurd h (List.not_mem_nil)
    · rename_i hz
      have e := List.mem_singleton.1 h
      subst e
      exact ⟨h2, nz_tb h2 hz, .inr ⟨rfl, fun w => tb_bnot hn ha ht w⟩⟩
theorem tb_nz {a : Int} {w : Nat} (h : tb a w = true) : ¬ a = 0 := fun e => by subst e; rw [tb_zero] at h; cases h
theorem pcs_in {n : Nat} {t a : Int} (hn : n ≤ 61) (ht : InM n t) (ha : InM n a) {w : Nat} (hw : tb a w = true) : ∃ p ∈ pcs t a, tb p w = true := by
  cases hb : tb t w with
  | true =>
    have h : tb (band a t) w = true := by rw [tb_band hn ha ht, hw, hb]; rfl
    exact ⟨_, List.mem_append_left _ (by rw [if_neg (tb_nz h)]; exact List.mem_singleton.2 rfl), h⟩
  | false =>
    have h : tb (bnot a t) w = true := by rw [tb_bnot hn ha ht, hw, hb]; rfl
    exact ⟨_, List.mem_append_right _ (by rw [if_neg (tb_nz h)]; exact List.mem_singleton.2 rfl), h⟩
theorem pcs_sub {n : Nat} {t a p : Int} (hn : n ≤ 61) (ht : InM n t) (ha : InM n a) (h : p ∈ pcs t a) {w : Nat} (hw : tb p w = true) : tb a w = true := by
  rcases (pcs_mem hn ht ha h).2.2 with ⟨_, e⟩ | ⟨_, e⟩ <;> (rw [e w, Bool.and_eq_true] at hw; exact hw.1)
theorem pcs_dis {n : Nat} {t a : Int} (hn : n ≤ 61) (ht : InM n t) (ha : InM n a) : (pcs t a).Pairwise fun p q => ∀ w, tb p w = true → tb q w = true → False := by
  unfold pcs
  split
  · split
    · exact List.Pairwise.nil
    · exact List.pairwise_singleton _ _
  · split
    · exact List.pairwise_singleton _ _
    · refine List.pairwise_cons.2 ⟨fun q hq w h1 h2 => ?_, List.pairwise_singleton _ _⟩
      have e := List.mem_singleton.1 hq
      subst e
      rw [tb_band hn ha ht] at h1
      rw [tb_bnot hn ha ht] at h2
      cases hb : tb t w <;> simp [hb] at h1 h2
theorem splt_dis {n : Nat} {t : Int} (hn : n ≤ 61) (ht : InM n t) : ∀ {al : List Int}, (∀ a ∈ al, InM n a) → al.Pairwise (fun a b => ∀ w, tb a w = true → tb b w = true → False) → (splt t al).Pairwise fun p q => ∀ w, tb p w = true → tb q w = true → False
  | [], _, _ => List.Pairwise.nil
  | a :: al, hr, hd => by
    rw [List.pairwise_cons] at hd
    have ha := hr a (List.mem_cons_self ..)
    have hr' := fun b hb => hr b (List.mem_cons_of_mem _ hb)
    rw [splt, List.flatMap_cons]
    refine List.pairwise_append.2 ⟨pcs_dis hn ht ha, splt_dis hn ht hr' hd.2, fun p hp q hq w h1 h2 => ?_⟩
    obtain ⟨b, hb, hq⟩ := List.mem_flatMap.1 hq
    exact hd.1 b hb w (pcs_sub hn ht ha hp h1) (pcs_sub hn ht (hr' b hb) hq h2)
theorem atm_ok {n : Nat} {f : Nat → Int} (hn : n ≤ 61) : ∀ i : Nat, (∀ j, j < i → InM n (f j)) → ATM n f i (atmF n f i)
  | 0, _ => by
    unfold atmF
    by_cases h0 : 0 < n
    · rw [if_pos h0]
      refine ⟨fun a ha => ?_, List.pairwise_singleton _ _, fun w hw => ⟨_, List.mem_singleton.2 rfl, ?_⟩, fun a ha w v _ hv => ?_⟩
      · have e := List.mem_singleton.1 ha
        subst e
        exact ⟨inM_full hn, 0, by rw [tb_full hn]; simpa using h0⟩
      · rw [tb_full hn]; simpa using hw
      · have e := List.mem_singleton.1 ha
        subst e
        rw [tb_full hn]
        simpa [kyF] using hv
    · rw [if_neg h0]
      exact ⟨fun a ha => absurd ha (List.not_mem_nil), List.Pairwise.nil, fun w hw => absurd hw (by omega), fun a ha => absurd ha (List.not_mem_nil)⟩
  | i + 1, hf' => by
    have ih := atm_ok hn i fun j hj => hf' j (by omega)
    have hf := fun (k : Nat) (hk : k = i) => hf' k (by omega)
    have hr : ∀ a ∈ atmF n f i, InM n a := fun a ha => (ih.rng a ha).1
    refine ⟨fun p hp => ?_, splt_dis hn (hf i rfl) hr ih.dis, fun w hw => ?_, fun p hp w v hw hv => ?_⟩
    · obtain ⟨a, ha, hp⟩ := List.mem_flatMap.1 hp
      have := pcs_mem hn (hf i rfl) (hr a ha) hp
      exact ⟨this.1, this.2.1⟩
    · obtain ⟨a, ha, h⟩ := ih.cov w hw
      obtain ⟨p, hp, h⟩ := pcs_in hn (hf i rfl) (hr a ha) h
      exact ⟨p, List.mem_flatMap.2 ⟨a, ha, hp⟩, h⟩
    · obtain ⟨a, ha, hp⟩ := List.mem_flatMap.1 hp
      have haw := pcs_sub hn (hf i rfl) (hr a ha) hp hw
      have hc := ih.cls a ha w v haw hv
      have hk : kyF f v (i + 1) = kyF f w (i + 1) ↔ kyF f v i = kyF f w i ∧ tb (f i) v = tb (f i) w := by
        simp only [kyF]
        constructor
        · intro h
          obtain ⟨h1, h2⟩ := List.append_inj' h rfl
          exact ⟨h1, by simpa using h2⟩
        · rintro ⟨h1, h2⟩
          rw [h1, h2]
      rw [hk]
      rcases (pcs_mem hn (hf i rfl) (hr a ha) hp).2.2 with ⟨_, e⟩ | ⟨_, e⟩
      · rw [e w] at hw
        rw [e v, ← hc]
        simp only [Bool.and_eq_true] at hw ⊢
        rw [hw.2]
      · rw [e w] at hw
        rw [e v, ← hc]
        simp only [Bool.and_eq_true, Bool.not_eq_true'] at hw ⊢
        rw [hw.2]
/-- Unions of the first k atoms, al the program makes them. -/
def uniF (al : List Int) : Nat → List Int
  | 0 => [0]
  | k + 1 => uniF al k ++ (uniF al k).map fun x => bor x (al.getD k 0)
def UNI (n : Nat) (al : List Int) (k : Nat) (x : Int) : Prop := InM n x ∧ (∀ w, tb x w = true → ∃ j, j < k ∧ tb (al.getD j 0) w = true) ∧ ∀ j, j < k → (∀ w, tb (al.getD j 0) w = true → tb x w = true) ∨ (∀ w, tb (al.getD j 0) w = true → tb x w = false)
theorem getD_mem {al : List Int} {k : Nat} (h : k < al.length) : al.getD k 0 ∈ al := by
  rw [List.getD_eq_getElem?_getD, List.getElem?_eq_getElem h]
  exact List.getElem_mem h
theorem dis_at {al : List Int} (h : al.Pairwise fun a b => ∀ w, tb a w = true → tb b w = true → False) {j k w : Nat} (hj : j < al.length) (hk : k < al.length) (h1 : tb (al.getD j 0) w = true) (h2 : tb (al.getD k 0) w = true) : j = k := by
  rw [List.getD_eq_getElem?_getD, List.getElem?_eq_getElem hj] at h1
  rw [List.getD_eq_getElem?_getD, List.getElem?_eq_getElem hk] at h2
  have hp := List.pairwise_iff_getElem.1 h
  rcases Nat.lt_trichotomy j k with q | q | q
  · exact absurd (hp j k hj hk q w h1 h2) id
  · exact q
  · exact absurd (hp k j hk hj q w h2 h1) id
theorem uni_mem {n : Nat} {al : List Int} (hn : n ≤ 61) (hr : ∀ a ∈ al, InM n a ∧ ∃ w, tb a w = true) (hd : al.Pairwise fun a b => ∀ w, tb a w = true → tb b w = true → False) : ∀ k : Nat, k ≤ al.length → ∀ x, x ∈ uniF al k ↔ UNI n al k x
  | 0, _, x => by
    simp only [uniF, List.mem_singleton]
    constructor
    · intro e; subst e
      exact ⟨inM_zero n, fun w h => (by rw [tb_zero] at h; cases h), fun j hj => absurd hj (by omega)⟩
    · intro h
      refine tb_ext h.1.1 (Int.le_refl _) fun i => ?_
      rw [tb_zero]
      cases hb : tb x i with
      | false => rfl
      | true => obtain ⟨j, hj, _⟩ := h.2.1 i hb; omega
  | k + 1, hk, x => by
    have ih := uni_mem hn hr hd k (by omega)
    have hak := hr _ (getD_mem (al := al) (k := k) (by omega))
    have hdk : ∀ j w, j < k → tb (al.getD j 0) w = true → tb (al.getD k 0) w = false := fun j w hj h => by
      cases hb : tb (al.getD k 0) w with
      | false => rfl
      | true => have := dis_at hd (j := j) (k := k) (by omega) (by omega) h hb; omega
    simp only [uniF, List.mem_append, List.mem_map]
    constructor
    · rintro (h | ⟨y, hy, rfl⟩)
      · have h := (ih x).1 h
        refine ⟨h.1, fun w hw => ?_, fun j hj => ?_⟩
        · obtain ⟨j, hj, h2⟩ := h.2.1 w hw
          exact ⟨j, by omega, h2⟩
        · by_cases e : j = k
          · subst e
            refine .inr fun w hw => ?_
            cases hb : tb x w with
            | false => rfl
            | true =>
              obtain ⟨j', hj', h2⟩ := h.2.1 w hb
              rw [hdk j' w hj' h2] at hw
              cases hw
          · exact h.2.2 j (by omega)
      · have h := (ih y).1 hy
        refine ⟨inM_bor hn h.1 hak.1, fun w hw => ?_, fun j hj => ?_⟩
        · rw [tb_bor hn h.1 hak.1, Bool.or_eq_true] at hw
          rcases hw with hw | hw
          · obtain ⟨j, hj, h2⟩ := h.2.1 w hw
            exact ⟨j, by omega, h2⟩
          · exact ⟨k, by omega, hw⟩
        · by_cases e : j = k
          · subst e
            exact .inl fun w hw => by rw [tb_bor hn h.1 hak.1, hw, Bool.or_true]
          · rcases h.2.2 j (by omega) with h2 | h2
            · exact .inl fun w hw => by rw [tb_bor hn h.1 hak.1, h2 w hw, Bool.true_or]
            · exact .inr fun w hw => by rw [tb_bor hn h.1 hak.1, h2 w hw, hdk j w (by omega) hw]; rfl
    · intro h
      rcases h.2.2 k (by omega) with hin | hout
      · refine .inr ⟨bnot x (al.getD k 0), (ih _).2 ⟨inM_bnot hn h.1 hak.1, fun w hw => ?_, fun j hj => ?_⟩, ?_⟩
        · rw [tb_bnot hn h.1 hak.1, Bool.and_eq_true, Bool.not_eq_true'] at hw
          obtain ⟨j, hj, h2⟩ := h.2.1 w hw.1
          refine ⟨j, ?_, h2⟩
          have : j ≠ k := fun e => by rw [e, hw.2] at h2; cases h2
          omega
        · rcases h.2.2 j (by omega) with h2 | h2
          · exact .inl fun w hw => by rw [tb_bnot hn h.1 hak.1, h2 w hw, hdk j w hj hw]; rfl
          · exact .inr fun w hw => by rw [tb_bnot hn h.1 hak.1, h2 w hw]; rfl
        · refine tb_ext (inM_bor hn (inM_bnot hn h.1 hak.1) hak.1).1 h.1.1 fun i => ?_
          rw [tb_bor hn (inM_bnot hn h.1 hak.1) hak.1, tb_bnot hn h.1 hak.1]
          cases hb : tb (al.getD k 0) i with
          | false => simp
          | true => rw [hin i hb]; rfl
      · refine .inl ((ih x).2 ⟨h.1, fun w hw => ?_, fun j hj => h.2.2 j (by omega)⟩)
        obtain ⟨j, hj, h2⟩ := h.2.1 w hw
        refine ⟨j, ?_, h2⟩
        have : j ≠ k := fun e => by rw [e] at h2; rw [hout w h2] at hw; cases hw
        omega
theorem uni_nodup {n : Nat} {al : List Int} (hn : n ≤ 61) (hr : ∀ a ∈ al, InM n a ∧ ∃ w, tb a w = true) (hd : al.Pairwise fun a b => ∀ w, tb a w = true → tb b w = true → False) : ∀ k : Nat, k ≤ al.length → (uniF al k).Nodup
  | 0, _ => List.pairwise_singleton _ _
  | k + 1, hk => by
    have ih := uni_nodup hn hr hd k (by omega)
    have hm := uni_mem hn hr hd k (by omega)
    have hak := hr _ (getD_mem (al := al) (k := k) (by omega))
    have hoff : ∀ x ∈ uniF al k, ∀ w, tb (al.getD k 0) w = true → tb x w = false := fun x hx w hw => by
      cases hb : tb x w with
      | false => rfl
      | true =>
        obtain ⟨j, hj, h2⟩ := ((hm x).1 hx).2.1 w hb
        have := dis_at hd (j := j) (k := k) (by omega) (by omega) h2 hw
        omega
    refine List.nodup_append.2 ⟨ih, ?_, fun x hx y hy e => ?_⟩
    · refine List.pairwise_map.2 (ih.imp_of_mem fun {x y} hx hy hne e => hne ?_)
      have hx1 := ((hm x).1 hx).1
      have hy1 := ((hm y).1 hy).1
      refine tb_ext hx1.1 hy1.1 fun i => ?_
      have e2 := congrArg (fun z => tb z i) e
      simp only [tb_bor hn hx1 hak.1, tb_bor hn hy1 hak.1] at e2
      cases hb : tb (al.getD k 0) i with
      | false =>
        simp only [hb, Bool.or_false] at e2
        exact e2
      | true => rw [hoff x hx i hb, hoff y hy i hb]
    · obtain ⟨z, hz, rfl⟩ := List.mem_map.1 hy
      subst e
      obtain ⟨w, hw⟩ := hak.2
      have := hoff _ hx w hw
      rw [tb_bor hn ((hm z).1 hz).1 hak.1, hw, Bool.or_true] at this
      cases this
/-- The numbers below q for which a condition holds. -/
def numF (p : Nat → Bool) : Nat → List Int
  | 0 => []
  | q + 1 => numF p q ++ (if p q = true then [(q : Int)] else [])
theorem numF_mem (p : Nat → Bool) : ∀ (q : Nat) (x : Int), x ∈ numF p q ↔ 0 ≤ x ∧ x < q ∧ p x.toNat = true
  | 0, x => by simp [numF]; omega
  | q + 1, x => by
    rw [numF, List.mem_append, numF_mem p q x]
    by_cases h : p q = true
    · rw [if_pos h, List.mem_singleton]
      constructor
      · rintro (h1 | h1)
        · exact ⟨h1.1, by omega, h1.2.2⟩
        · subst h1; exact ⟨by omega, by omega, by simpa using h⟩
      · rintro ⟨h1, h2, h3⟩
        by_cases e : x = q
        · exact .inr e
        · exact .inl ⟨h1, by omega, h3⟩
    · rw [if_neg h]
      constructor
      · rintro (h1 | h1)
        · exact ⟨h1.1, by omega, h1.2.2⟩
        · exact absurd h1 (List.not_mem_nil)
      · rintro ⟨h1, h2, h3⟩
        refine .inl ⟨h1, ?_, h3⟩
        have : x ≠ q := fun e => h (by rw [e] at h3; simpa using h3)
        omega
theorem numF_asc (p : Nat → Bool) : ∀ q : Nat, (numF p q).Pairwise (· < ·)
  | 0 => List.Pairwise.nil
  | q + 1 => by
    rw [numF]
    refine List.pairwise_append.2 ⟨numF_asc p q, ?_, fun x hx y hy => ?_⟩
    · split
      · exact List.pairwise_singleton _ _
      · exact List.Pairwise.nil
    · have := ((numF_mem p q x).1 hx).2.1
      split at hy
      · have := List.mem_singleton.1 hy; omega
      · exact absurd hy (List.not_mem_nil)
/-- Worlds with the same text are both in the set, or none is. -/
def fitB (n : Nat) (f : Nat → Int) (i : Nat) (m : Nat) : Bool := (List.range n).all fun w => (List.range w).all fun v => decide (kyF f w i ≠ kyF f v i ∨ tb (m : Int) w = tb (m : Int) v)
theorem fitB_iff {n : Nat} {f : Nat → Int} {i m : Nat} : fitB n f i m = true ↔ ∀ w, w < n → ∀ v, v < n → kyF f w i = kyF f v i → tb (m : Int) w = tb (m : Int) v := by
  simp only [fitB, List.all_eq_true, List.mem_range, decide_eq_true_eq]
  constructor
  · intro h w hw v hv e
    rcases Nat.lt_trichotomy v w with q | q | q
    · rcases h w hw v q with h1 | h1
      · exact absurd e h1
      · exact h1
    · rw [q]
    · rcases h v hv w q with h1 | h1
      · exact absurd e.symm h1
      · exact h1.symm
  · intro h w hw v hv
    by_cases e : kyF f w i = kyF f v i
    · exact .inr (h w hw v (by omega) e)
    · exact .inl e
theorem uni_fit {n : Nat} {f : Nat → Int} {i : Nat} (hn : n ≤ 61) (hf : ∀ j, j < i → InM n (f j)) {x : Int} : UNI n (atmF n f i) (atmF n f i).length x ↔ InM n x ∧ fitB n f i x.toNat = true := by
  have hA := atm_ok hn i hf
  have hx : ∀ h : 0 ≤ x, ((x.toNat : Nat) : Int) = x := fun h => by omega
  constructor
  · intro h
    refine ⟨h.1, fitB_iff.2 fun w hw v hv e => ?_⟩
    rw [hx h.1.1]
    obtain ⟨a, ha, haw⟩ := hA.cov w hw
    have hav : tb a v = true := (hA.cls a ha w v haw hv).2 e.symm
    obtain ⟨j, hj, rfl⟩ := List.getElem_of_mem ha
    have e2 : (atmF n f i).getD j 0 = (atmF n f i)[j] := by rw [List.getD_eq_getElem?_getD, List.getElem?_eq_getElem hj]; rfl
    rcases h.2.2 j hj with h2 | h2 <;> (rw [e2] at h2; rw [h2 w haw, h2 v hav])
  · rintro ⟨h1, h2⟩
    have h2 := fitB_iff.1 h2
    rw [hx h1.1] at h2
    refine ⟨h1, fun w hw => ?_, fun j hj => ?_⟩
    · obtain ⟨a, ha, haw⟩ := hA.cov w (tb_lt h1 hw)
      obtain ⟨j, hj, rfl⟩ := List.getElem_of_mem ha
      exact ⟨j, hj, by rw [List.getD_eq_getElem?_getD, List.getElem?_eq_getElem hj]; exact haw⟩
    · have ha := getD_mem hj
      obtain ⟨h3, w0, hw0⟩ := hA.rng _ ha
      have key : ∀ w, tb ((atmF n f i).getD j 0) w = true → tb x w = tb x w0 := fun w hw => (h2 w (tb_lt h3 hw) w0 (tb_lt h3 hw0) ((hA.cls _ ha w0 w hw0 (tb_lt h3 hw)).1 hw))
      cases hb : tb x w0 with
      | true => exact .inl fun w hw => by rw [key w hw, hb]
      | false => exact .inr fun w hw => by rw [key w hw, hb]
/-- Both packages find the same sets. -/
theorem ds_eq {n : Nat} {f : Nat → Int} {i : Nat} (hn : n ≤ 61) (hf : ∀ j, j < i → InM n (f j)) : srtI (uniF (atmF n f i) (atmF n f i).length) = numF (fitB n f i) (2 ^ n) := by
  have hA := atm_ok hn i hf
  refine asc_eq (srt_asc (uni_nodup hn hA.rng hA.dis _ (Nat.le_refl _))) (numF_asc _ _) fun x => ?_
  rw [srt_mem, uni_mem hn hA.rng hA.dis _ (Nat.le_refl _), uni_fit hn hf, numF_mem]
  unfold InM
  constructor
  · rintro ⟨⟨h1, h2⟩, h3⟩
    exact ⟨h1, by omega, h3⟩
  · rintro ⟨h1, h2, h3⟩
    exact ⟨⟨h1, by omega⟩, h3⟩

end Go.Proofs.Ytpalghbfhgimkaa


/-! slices.Sort at rows of integers: where the library's functions lie in this program, and its contract. -/
namespace Go.Proofs.Ytpalghbfhgimkaa
open Go.RowKit Go.Abs

def srtR : Go.Shelf.Ren := { f := fun x => match x with | 5 => 69 | 8 => 91 | 7 => 90 | 19 => 114 | 20 => 115 | 10 => 105 | 11 => 106 | 12 => 107 | 13 => 108 | 14 => 109 | 15 => 110 | 16 => 111 | 17 => 112 | 18 => 113 | 30 => 119 | 31 => 120 | 32 => 121 | 33 => 122 | 34 => 123 | 35 => 124 | 40 => 125 | n => n, t := fun x => match x with | 23 => 22 | 25 => 2 | 3 => 3 | 32 => 82 | 22 => 22 | 0 => 0 | 44 => 126 | 46 => 55 | 4 => 4 | 36 => 119 | 35 => 118 | 41 => 123 | 5 => 5 | 9 => 9 | 53 => 129 | 57 => 133 | 63 => 135 | 64 => 136 | n => n, g := fun n => n }
theorem srtLay : SlLaysM.n5 Try.prog srtR where
  mixed := by decide +kernel
  f5 := ⟨Try.f69.name, by decide, Try.func69.trans (congrArg some (by kernel_rfl))⟩
  f7 := ⟨Try.f90.name, by decide, Try.func90.trans (congrArg some (by kernel_rfl))⟩
  f8 := Try.func91.trans (congrArg some (by kernel_rfl))
  f10 := ⟨Try.f105.name, by decide, Try.func105.trans (congrArg some (by kernel_rfl))⟩
  f11 := ⟨Try.f106.name, by decide, Try.func106.trans (congrArg some (by kernel_rfl))⟩
  f12 := ⟨Try.f107.name, by decide, Try.func107.trans (congrArg some (by kernel_rfl))⟩
  f13 := ⟨Try.f108.name, by decide, Try.func108.trans (congrArg some (by kernel_rfl))⟩
  f14 := ⟨Try.f109.name, by decide, Try.func109.trans (congrArg some (by kernel_rfl))⟩
  f15 := ⟨Try.f110.name, by decide, Try.func110.trans (congrArg some (by kernel_rfl))⟩
  f16 := ⟨Try.f111.name, by decide, Try.func111.trans (congrArg some (by kernel_rfl))⟩
  f17 := ⟨Try.f112.name, by decide, Try.func112.trans (congrArg some (by kernel_rfl))⟩
  f18 := ⟨Try.f113.name, by decide, Try.func113.trans (congrArg some (by kernel_rfl))⟩
  f19 := Try.func114.trans (congrArg some (by kernel_rfl))
  f20 := Try.func115.trans (congrArg some (by kernel_rfl))
  f30 := ⟨Try.f119.name, by decide, Try.func119.trans (congrArg some (by kernel_rfl))⟩
  f31 := Try.func120.trans (congrArg some (by kernel_rfl))
  f32 := Try.func121.trans (congrArg some (by kernel_rfl))
  f33 := ⟨Try.f122.name, by decide, Try.func122.trans (congrArg some (by kernel_rfl))⟩
  f34 := ⟨Try.f123.name, by decide, Try.func123.trans (congrArg some (by kernel_rfl))⟩
  f35 := ⟨Try.f124.name, by decide, Try.func124.trans (congrArg some (by kernel_rfl))⟩
  f40 := ⟨Try.f125.name, by decide, Try.func125.trans (congrArg some (by kernel_rfl))⟩
  t0 := Try.underlying0
  a0 := Try.isAgg0
  z0 := Try.sizeOf0
  v0 := Try.zeroValue0
  t3 := Try.underlying3
  a3 := Try.isAgg3
  z3 := Try.sizeOf3
  v3 := Try.zeroValue3
  t4 := Try.underlying4
  a4 := Try.isAgg4
  z4 := Try.sizeOf4
  v4 := Try.zeroValue4
  t5 := Try.underlying5
  a5 := Try.isAgg5
  z5 := Try.sizeOf5
  v5 := Try.zeroValue5
  t9 := Try.underlying9
  a9 := Try.isAgg9
  z9 := Try.sizeOf9
  v9 := Try.zeroValue9
  t22 := Try.underlying22
  a22 := Try.isAgg22
  z22 := Try.sizeOf22
  v22 := Try.zeroValue22
  t23 := Try.underlying22
  a23 := Try.isAgg22
  z23 := Try.sizeOf22
  v23 := Try.zeroValue22
  t25 := Try.underlying2
  a25 := Try.isAgg2
  z25 := Try.sizeOf2
  v25 := Try.zeroValue2
  t32 := Try.underlying82
  a32 := Try.isAgg82
  z32 := Try.sizeOf82
  v32 := Try.zeroValue82
  t35 := Try.underlying118
  a35 := Try.isAgg118
  z35 := Try.sizeOf118
  v35 := Try.zeroValue118
  t36 := Try.underlying119
  a36 := Try.isAgg119
  z36 := Try.sizeOf119
  v36 := Try.zeroValue119
  t41 := Try.underlying123
  a41 := Try.isAgg123
  z41 := Try.sizeOf123
  v41 := Try.zeroValue123
  t44 := Try.underlying126
  a44 := Try.isAgg126
  z44 := Try.sizeOf126
  v44 := Try.zeroValue126
  t46 := Try.underlying55
  a46 := Try.isAgg55
  z46 := Try.sizeOf55
  v46 := Try.zeroValue55
  t53 := Try.underlying129
  a53 := Try.isAgg129
  z53 := Try.sizeOf129
  v53 := Try.zeroValue129
  t57 := Try.underlying133
  a57 := Try.isAgg133
  z57 := Try.sizeOf133
  v57 := Try.zeroValue133
  t63 := Try.underlying135
  a63 := Try.isAgg135
  z63 := Try.sizeOf135
  v63 := Try.zeroValue135
  t64 := Try.underlying136
  a64 := Try.isAgg136
  z64 := Try.sizeOf136
  v64 := Try.zeroValue136

theorem sort_c (xs : List Int) (hl : xs.length ≤ 1000000000) : CallX Try.prog 69 [.ref 0] [rowA eI 2 1 xs] (fun (resX : AV) (objX : List AObj) => resX = .tup [] ∧ objX = [rowA eI 2 1 (srtI xs)]) := (CallS.sort srtLay (enters_of Try.func69 (by kernel_rfl) rfl) 2 xs hl).toX

end Go.Proofs.Ytpalghbfhgimkaa


/-! Definable sets: contracts of both packages. -/
namespace Go.Proofs.Ytpalghbfhgimkaa
open Go.RowKit Go.Abs

/-- The truth set of a formula of the list. -/
def dsf (n : Int) (xs vs : List Int) (l : List (List (Int × Int))) (i : Nat) : Int := tset n xs vs (l.getD i [])
theorem nodup_lt : ∀ (n : Nat) (l : List Nat), l.Nodup → (∀ x ∈ l, x < n) → l.length ≤ n
  | 0, [], _, _ => Nat.le_refl _
  | 0, x :: _, _, h => absurd (h x (List.mem_cons_self ..)) (by omega)
  | n + 1, l, hd, h => by
    have ih := nodup_lt n (l.erase n) (hd.erase n) fun x hx => by
      have h1 := (List.Nodup.mem_erase_iff hd).1 hx
      have := h x h1.2
      have := h1.1
      omega
    have := List.length_erase (a := n) (l := l)
    split at this <;> omega
theorem atm_wit {n : Nat} : ∀ {al : List Int}, (∀ a ∈ al, InM n a ∧ ∃ w, tb a w = true) → al.Pairwise (fun a b => ∀ w, tb a w = true → tb b w = true → False) → ∃ ws : List Nat, ws.length = al.length ∧ ws.Nodup ∧ ∀ w ∈ ws, w < n ∧ ∃ a ∈ al, tb a w = true
  | [], _, _ => ⟨[], rfl, List.Pairwise.nil, fun w h => absurd h (List.not_mem_nil)⟩
  | a :: al, hr, hd => by
    rw [List.pairwise_cons] at hd
    obtain ⟨ws, h1, h2, h3⟩ := atm_wit (fun b hb => hr b (List.mem_cons_of_mem _ hb)) hd.2
    obtain ⟨ha, w, hw⟩ := hr a (List.mem_cons_self ..)
    refine ⟨w :: ws, by simp [h1], List.pairwise_cons.2 ⟨fun v hv e => ?_, h2⟩, fun v hv => ?_⟩
    · subst e
      obtain ⟨_, b, hb, hbw⟩ := h3 w hv
      exact hd.1 b hb w hw hbw
    · rcases List.mem_cons.1 hv with e | e
      · subst e; exact ⟨tb_lt ha hw, a, List.mem_cons_self .., hw⟩
      · obtain ⟨q1, b, hb, q2⟩ := h3 v e
        exact ⟨q1, b, List.mem_cons_of_mem _ hb, q2⟩
theorem atm_len {n : Nat} {f : Nat → Int} {i : Nat} (hn : n ≤ 61) (hf : ∀ j, j < i → InM n (f j)) : (atmF n f i).length ≤ n := by
  have hA := atm_ok hn i hf
  obtain ⟨ws, h1, h2, h3⟩ := atm_wit hA.rng hA.dis
  rw [← h1]
  exact nodup_lt n ws h2 fun x hx => (h3 x hx).1
theorem uni_len (al : List Int) : ∀ k : Nat, (uniF al k).length = 2 ^ k
  | 0 => rfl
  | k + 1 => by rw [uniF, List.length_append, List.length_map, uni_len al k, Nat.pow_succ]; omega
theorem uni_le (al : List Int) {k : Nat} (h : k ≤ 8) : (uniF al k).length ≤ 256 := by
  rw [uni_len]
  exact Nat.le_trans (Nat.pow_le_pow_right (by decide) h) (by decide)
/-- The unions with the first j unions joined to the atom. -/
def uniI (al : List Int) (k j : Nat) : List Int := uniF al k ++ ((uniF al k).take j).map fun x => bor x (al.getD k 0)
theorem uniI_0 (al : List Int) (k : Nat) : uniF al k = uniI al k 0 := by simp [uniI]
theorem take_succ_getD {α : Type} (l : List α) (d : α) {i : Nat} (h : i < l.length) : l.take (i + 1) = l.take i ++ [l.getD i d] := by
  rw [List.take_add_one, List.getD_eq_getElem?_getD, List.getElem?_eq_getElem h]; rfl
theorem uniI_s {al : List Int} {k j : Nat} (h : j < (uniF al k).length) : uniI al k j ++ [bor ((uniF al k).getD j 0) (al.getD k 0)] = uniI al k (j + 1) := by
  rw [uniI, uniI, take_succ_getD _ 0 h, List.map_append, List.append_assoc]; rfl
theorem uniI_e {al : List Int} {k j : Nat} (h : j = (uniF al k).length) : uniI al k j = uniF al (k + 1) := by rw [uniI, h, List.take_length, uniF]
theorem uniI_len (al : List Int) {k j : Nat} (h : k ≤ 8) : (uniI al k j).length ≤ 512 := by
  have := uni_le al h
  rw [uniI, List.length_append, List.length_map, List.length_take]; omega
/-- The pieces of the first j atoms. -/
def splI (t : Int) (al : List Int) (j : Nat) : List Int := splt t (al.take j)
theorem splI_s {t : Int} {al : List Int} {j : Nat} (h : j < al.length) : splI t al (j + 1) = splI t al j ++ pcs t (al.getD j 0) := by
  rw [splI, splI, take_succ_getD _ 0 h, splt, List.flatMap_append, List.flatMap_singleton]; rfl
theorem splI_e {t : Int} {al : List Int} {j : Nat} (h : j = al.length) : splI t al j = splt t al := by rw [splI, h, List.take_length]
theorem pcs_len (t a : Int) : (pcs t a).length ≤ 2 := by
  unfold pcs
  rw [List.length_append]
  split <;> split <;> simp
theorem splI_len (t : Int) (al : List Int) : ∀ j : Nat, j ≤ al.length → (splI t al j).length ≤ 2 * j
  | 0, _ => by simp [splI, splt]
  | j + 1, h => by
    rw [splI_s (by omega), List.length_append]
    have := splI_len t al j (by omega)
    have := pcs_len t (al.getD j 0)
    omega
theorem dsf_in {n : Int} {xs vs : List Int} {l : List (List (Int × Int))} (hM : okMo n xs vs = true) (hv : ∀ j : Nat, j < 6 → InM n.toNat (vs.getD j 0)) {i : Nat} (hl : ∀ j : Nat, j < i → isF (l.getD j []) = true) : ∀ j, j < i → InM n.toNat (dsf n xs vs l j) := fun j hj => tset_in (okMo_fr hM).1 (isF_okm (hl j hj)).1 hv
theorem okMo_in {n : Int} {xs vs : List Int} (h : okMo n xs vs = true) : ∀ j : Nat, j < 6 → InM n.toNat (vs.getD j 0) := by
  intro j hj
  have hf := okMo_fr h
  have hR := okFr_rel hf.1
  simp only [okMo, Bool.and_eq_true, Bool.not_eq_true'] at h
  have h2 := h.2
  rw [List.any_eq_false] at h2
  have := h2 (vs.getD j 0) (getD_mem (by omega))
  rw [Bool.not_eq_true', Bool.not_eq_false] at this
  rw [full_rng (by omega), Int.toNat_of_nonneg hR.1]
  exact this

theorem unionsOf_c (al : List Int) (hl : al.length ≤ 8) : CallA Try.prog 42 [LI al] (ownA eI 2 1 (srtI (uniF al al.length))) := by
  refine CallA.of Try.func42 rfl (by kernel_rfl) ?_
  refine R.go 17 (R.loop ((fun | (k, U) => (⟨(frm 33 [(3, .ref 0), (9, LI al), (10, AI al.length), (11, AI (k : Int))]), [rowA eI 2 1 U]⟩ : St) : Nat × (List Int) → St)) (fun | (k, U) => (k ≤ al.length) ∧ (U = uniF al k)) (fun | (k, U) => al.length - k) (0, [0]) [3, 9, 10, 11] none (by kernel_rfl) (by kernel_rfl) (by kernel_rfl) ⟨(by omega), (by rfl)⟩ ?_)
  rintro ⟨k, U⟩ ⟨h4_1, rfl⟩ R1 N2
  have hul := uni_le al (k := k) (by omega)
  refine R.go 5 (R.cond ((k : Int) < (al.length : Int)) (by kernel_rfl) (fun c5 => ?_) (fun c5 => ?_))
  · refine R.go 5 (R.idx eI al 0 k (k : Int) (by kernel_rfl) rfl eI_len (by omega) (by kernel_rfl) ?_)
    refine R.go 6 (R.call false (clone_c (uniF al k) (by first | omega | (simp <;> omega))) (by kernel_rfl) (ownA_closed eI_closed 2 1 (uniF al k)) (by kernel_rfl) ?_)
    refine R.go 4 (R.loop ((fun | (j, V) => (⟨(frm 33 [(3, .ref 0), (5, AI (al.getD k 0)), (9, LI al), (10, AI al.length), (11, AI (k : Int)), (16, .ref 1), (17, AI ((uniF al k).length)), (18, AI (j : Int))]), [rowA eI 2 1 V, rowA eI 2 1 (uniF al k)]⟩ : St) : Nat × (List Int) → St)) (fun | (j, V) => (j ≤ (uniF al k).length) ∧ (V = uniI al k j)) (fun | (j, V) => (uniF al k).length - j) (0, (uniF al k)) [3, 5, 9, 10, 11, 16, 17, 18] none (by kernel_rfl) (by kernel_rfl) (by kernel_rfl) ⟨(by omega), (by exact uniI_0 al k)⟩ ?_)
    rintro ⟨j, V⟩ ⟨h9_1, rfl⟩ R6 N7
    have hvl := uniI_len al (k := k) (j := j) (by omega)
    refine R.go 5 (R.cond ((j : Int) < ((uniF al k).length : Int)) (by kernel_rfl) (fun c10 => ?_) (fun c10 => ?_))
    · refine R.go 5 (R.idxO 1 1 (uniF al k).length j (j : Int) (by kernel_rfl) rfl (by omega) (by kernel_rfl) ?_)
      refine R.ldI (uniF al k) j (by kernel_rfl) (by omega) (by kernel_rfl) ?_
      refine R.go 8 (R.app eI (uniI al k j) [bor ((uniF al k).getD j 0) (al.getD k 0)] 0 2 1 8 (by kernel_rfl) eI_one (by decide) (by first | omega | (simp <;> omega)) (by kernel_rfl) ?_)
      refine R.go 4 (R.ar ((j : Int) + 1) (by kernel_rfl) (by omega) (by omega) (by kernel_rfl) ?_)
      exact R.go 2 (R.stop R6 (by kernel_rfl) (N7 (j + 1, (uniI al k j) ++ [bor ((uniF al k).getD j 0) (al.getD k 0)]) [3, 5, 9, 10, 11, 16, 17, 18] (some [0, 1]) _ (by kernel_rfl) (by kernel_rfl) ⟨(by omega), (by exact uniI_s (by omega))⟩ (by show ((uniF al k).length - (j + 1)) < ((uniF al k).length - j); omega)))
    · refine R.go 3 (R.ar ((k : Int) + 1) (by kernel_rfl) (by omega) (by omega) (by kernel_rfl) ?_)
      exact R.go 2 (R.stop R1 (by kernel_rfl) (N2 (k + 1, uniI al k j) [3, 9, 10, 11] (some [0]) _ (by kernel_rfl) (by kernel_rfl) ⟨(by omega), (by exact uniI_e (by omega))⟩ (by show (al.length - (k + 1)) < (al.length - k); omega)))
  · refine R.go 4 (R.callX (sort_c (uniF al k) (by omega)) (by kernel_rfl) (by kernel_rfl) (by kernel_rfl) ?_)
    rintro _ _ ⟨rfl, rfl⟩
    exact R.go 6 (R.retE (ownA eI 2 1 (srtI (uniF al k))) (by kernel_rfl) (by kernel_rfl) (by first | (rw [show k = al.length by omega]) | (exfalso; omega)))

/-- What DefinableSets answers. -/
def dsC (n : Int) (xs vs : List Int) (l : List (List (Int × Int))) : Int := if okMo n xs vs = true ∧ allF l = true then 0 else 1
def dsR (n : Int) (xs vs : List Int) (l : List (List (Int × Int))) : List Int := if dsC n xs vs l = 0 then numF (fitB n.toNat (dsf n xs vs l) l.length) (2 ^ n.toNat) else []
theorem ds_1 {n : Int} {xs vs : List Int} {l : List (List (Int × Int))} (h : ¬ (okMo n xs vs = true ∧ allF l = true)) : dsC n xs vs l = 1 ∧ dsR n xs vs l = [] := by
  have : dsC n xs vs l = 1 := if_neg h
  exact ⟨this, by rw [dsR, this]; rfl⟩
theorem ds_0 {n : Int} {xs vs : List Int} {l : List (List (Int × Int))} (h1 : okMo n xs vs = true) (h2 : allF l = true) : dsC n xs vs l = 0 ∧ dsR n xs vs l = numF (fitB n.toNat (dsf n xs vs l) l.length) (2 ^ n.toNat) := by
  have : dsC n xs vs l = 0 := if_pos ⟨h1, h2⟩
  exact ⟨this, by rw [dsR, this]; rfl⟩
theorem DS_impl (n : Int) (xs : List Int) (vs : List Int) (l : List (List (Int × Int))) (l1 : xs.length ≤ 1048576) (l2 : vs.length ≤ 1048576) (hl : l.length ≤ 1048576 ∧ ∀ i0 : Nat, i0 < l.length → (l.getD i0 []).length ≤ 1048576) : CallA Try.prog 10 [.agg [AI n, LI xs, LI vs], LLN l] (.tup [ownA eI 2 1 (dsR n xs vs l), AI (dsC n xs vs l)]) := by
  have hs : shortL l := ⟨by omega, fun i h => by have := hl.2 i h; omega⟩
  refine CallA.of Try.func10 rfl (by kernel_rfl) ?_
  refine R.go 10 (R.call true (isModel_c n xs vs (by first | omega | (simp <;> omega)) (by first | omega | (simp <;> omega))) (by kernel_rfl) rfl (by kernel_rfl) ?_)
  refine R.go 2 ?_
  refine (Bool.eq_false_or_eq_true (okMo n xs vs)).elim (fun c1 => ?_) (fun c1 => ?_)
  · refine R.want (!(okMo n xs vs)) false (by kernel_rfl) (bnF c1) ?_
    refine R.go 1 (R.want (!(okMo n xs vs)) false (by kernel_rfl) (bnF c1) ?_)
    refine R.call true (areFormulas_c l hs) (by kernel_rfl) rfl (by kernel_rfl) ?_
    refine R.want (!(okMo n xs vs)) false (by kernel_rfl) (bnF c1) ?_
    refine R.go 1 (R.pick (!(okMo n xs vs)) false (by kernel_rfl) (bnF c1) (by kernel_rfl) ?_)
    refine R.go 1 (R.condM (allF l) (by kernel_rfl) (fun c2 => ?_) (fun c2 => ?_))
    · obtain ⟨hc1, hc2⟩ := ds_1 (n := n) (xs := xs) (vs := vs) (l := l) (by simp [*])
      refine R.go 5 (R.nil 4 2 1 (by kernel_rfl) ?_)
      exact R.retE (.tup [ownA eI 2 1 [], AI 1]) (by kernel_rfl) (by kernel_rfl) (by first | (first | (rw [hc1, hc2]; done) | (rw [hc1, hc2, show i = l.length by omega, ds_eq (by omega) (hdi l.length (Nat.le_refl _))])) | (exfalso; omega))
    · have hM : okMo n xs vs = true := by assumption
      have hA : allF l = true := by assumption
      obtain ⟨hc1, hc2⟩ := ds_0 hM hA
      have hr0 := okMo_fr hM
      have hr1 := okFr_rel hr0.1
      have hb : 0 ≤ n ∧ n ≤ 8 ∧ (xs.length : Int) = n := ⟨hr1.1, hr1.2.1, hr1.2.2.1⟩
      have hvin := okMo_in hM
      have hF := hr0.1
      have hv6 := hr0.2
      have hff := fun (i : Nat) (h : i < l.length) => (allF_get hA i h : isF (l.getD i []) = true)
      have hdi := fun (i : Nat) (h : i ≤ l.length) => dsf_in hM hvin (i := i) (fun j hj => hff j (by omega))
      have hal := fun (i : Nat) (h : i ≤ l.length) => atm_len (n := n.toNat) (by omega) (hdi i h)
      refine R.go 13 (R.cond (n > 0) (by kernel_rfl) (fun c3 => ?_) (fun c3 => ?_))
      · refine R.go 4 (R.call true (frameAll_c n xs (by omega) (by omega)) (by kernel_rfl) rfl (by kernel_rfl) ?_)
        refine R.go 1 (R.appN eI [(shl64 1 n) - 1] 2 1 8 (by kernel_rfl) eI_one (by decide) (by first | omega | (simp only [List.length_set]; omega) | (simp <;> omega)) (by kernel_rfl) ?_)
        refine R.go 10 (R.loop ((fun | (i, A) => (⟨(frm 72 [(2, .ptr 0 0), (6, .ref 1), (33, LLN l), (34, AI l.length), (35, AI (i : Int))]), [.box 34 [AI n, LI xs, LI vs], rowA eI 2 1 A]⟩ : St) : Nat × (List Int) → St)) (fun | (i, A) => (i ≤ l.length) ∧ (A = atmF n.toNat (dsf n xs vs l) i)) (fun | (i, A) => l.length - i) (0, [(shl64 1 n) - 1]) [2, 6, 33, 34, 35] (some [0, 2]) (by kernel_rfl) (by kernel_rfl) (by kernel_rfl) ⟨(by omega), (by first | (rw [atmF, if_pos (by omega), Int.toNat_of_nonneg hb.1]) | (rw [atmF, if_neg (by omega)]))⟩ ?_)
        rintro ⟨i, A⟩ ⟨h7_1, rfl⟩ R4 N5
        have hali := hal i (by omega)
        refine R.go 5 (R.cond ((i : Int) < (l.length : Int)) (by kernel_rfl) (fun c8 => ?_) (fun c8 => ?_))
        · refine R.go 5 (R.idx eLN l [] i (i : Int) (by kernel_rfl) rfl eLN_len (by omega) (by kernel_rfl) ?_)
          have hok0 := hff i (by omega)
          have hokm := isF_okm hok0
          have hok : OKM vs.length (l.getD i []) := by rw [hv6]; exact hokm.1
          have hlq := hl.2 i (by omega)
          refine R.go 7 (R.call true (truthIn_c n xs vs (l.getD i []) hok (by omega) (by omega) (by first | omega | (simp <;> omega)) (by first | omega | (simp <;> omega))) (by kernel_rfl) rfl (by kernel_rfl) ?_)
          refine R.go 14 (R.nil 10 2 1 (by kernel_rfl) ?_)
          refine R.loop ((fun | (j, N) => (⟨(frm 72 [(2, .ptr 0 0), (9, AI (tset n xs vs (l.getD i []))), (10, .ref 1), (33, LLN l), (34, AI l.length), (35, AI (i : Int)), (42, .ref 2), (43, AI ((atmF n.toNat (dsf n xs vs l) i).length)), (44, AI (j : Int))]), [.box 34 [AI n, LI xs, LI vs], rowA eI 2 1 N, rowA eI 2 1 (atmF n.toNat (dsf n xs vs l) i)]⟩ : St) : Nat × (List Int) → St)) (fun | (j, N) => (j ≤ (atmF n.toNat (dsf n xs vs l) i).length) ∧ (N = splI (dsf n xs vs l i) (atmF n.toNat (dsf n xs vs l) i) j)) (fun | (j, N) => (atmF n.toNat (dsf n xs vs l) i).length - j) (0, []) [2, 9, 10, 33, 34, 35, 42, 43, 44] (some [0, 2, 1]) (by kernel_rfl) (by kernel_rfl) (by kernel_rfl) ⟨(by omega), (by simp [splI, splt])⟩ ?_
          rintro ⟨j, N⟩ ⟨h12_1, rfl⟩ R9 N10
          have hspj := splI_len (dsf n xs vs l i) (atmF n.toNat (dsf n xs vs l) i) j (by omega)
          have hspl := splI_len (dsf n xs vs l i) (atmF n.toNat (dsf n xs vs l) i)
          refine R.go 5 (R.cond ((j : Int) < ((atmF n.toNat (dsf n xs vs l) i).length : Int)) (by kernel_rfl) (fun c13 => ?_) (fun c13 => ?_))
          · refine R.go 5 (R.idxO 2 1 (atmF n.toNat (dsf n xs vs l) i).length j (j : Int) (by kernel_rfl) rfl (by omega) (by kernel_rfl) ?_)
            refine R.ldI (atmF n.toNat (dsf n xs vs l) i) j (by kernel_rfl) (by omega) (by kernel_rfl) ?_
            refine R.go 10 (R.lit (s := 1) (n := 2) (cs := rows eI [band ((atmF n.toNat (dsf n xs vs l) i).getD j 0) (tset n xs vs (l.getD i [])), bnot ((atmF n.toNat (dsf n xs vs l) i).getD j 0) (tset n xs vs (l.getD i []))]) (by kernel_rfl) (by kernel_rfl) ?_)
            refine R.go 4 (R.rounds 2 (by kernel_rfl) ?_)
            intro R14 hA15
            refine R.go 20 (R.condN ((band ((atmF n.toNat (dsf n xs vs l) i).getD j 0) (tset n xs vs (l.getD i []))) = 0) (by kernel_rfl) (fun c16 => ?_) (fun c16 => ?_))
            · refine R.go 4 (R.app eI (splI (dsf n xs vs l i) (atmF n.toNat (dsf n xs vs l) i) j) [band ((atmF n.toNat (dsf n xs vs l) i).getD j 0) (tset n xs vs (l.getD i []))] 1 2 1 8 (by kernel_rfl) eI_one (by decide) (by first | omega | (simp <;> omega)) (by kernel_rfl) ?_)
              refine R.go 7 (R.stopA R14 (by kernel_rfl) hA15 ?_)
              intro R17 hA18
              refine R.go 20 (R.condN ((bnot ((atmF n.toNat (dsf n xs vs l) i).getD j 0) (tset n xs vs (l.getD i []))) = 0) (by kernel_rfl) (fun c19 => ?_) (fun c19 => ?_))
              · refine R.go 4 (R.app eI ((splI (dsf n xs vs l i) (atmF n.toNat (dsf n xs vs l) i) j) ++ [band ((atmF n.toNat (dsf n xs vs l) i).getD j 0) (tset n xs vs (l.getD i []))]) [bnot ((atmF n.toNat (dsf n xs vs l) i).getD j 0) (tset n xs vs (l.getD i []))] 1 2 1 8 (by kernel_rfl) eI_one (by decide) (by first | omega | (simp <;> omega)) (by kernel_rfl) ?_)
                refine R.go 7 (R.stopA R17 (by kernel_rfl) hA18 ?_)
                intro R20 hA21
                refine R.go 9 (R.ar ((j : Int) + 1) (by kernel_rfl) (by omega) (by omega) (by kernel_rfl) ?_)
                exact R.go 2 (R.stop R9 (by kernel_rfl) (N10 (j + 1, (splI (dsf n xs vs l i) (atmF n.toNat (dsf n xs vs l) i) j) ++ [band ((atmF n.toNat (dsf n xs vs l) i).getD j 0) (tset n xs vs (l.getD i []))] ++ [bnot ((atmF n.toNat (dsf n xs vs l) i).getD j 0) (tset n xs vs (l.getD i []))]) [2, 9, 10, 33, 34, 35, 42, 43, 44] (some [0, 1, 2]) _ (by kernel_rfl) (by kernel_rfl) ⟨(by omega), (by rw [splI_s (by omega), pcs]; simp only [dsf, *, if_true, if_false]; simp)⟩ (by show ((atmF n.toNat (dsf n xs vs l) i).length - (j + 1)) < ((atmF n.toNat (dsf n xs vs l) i).length - j); omega)))
              · refine R.go 6 (R.stopA R17 (by kernel_rfl) hA18 ?_)
                intro R22 hA23
                refine R.go 9 (R.ar ((j : Int) + 1) (by kernel_rfl) (by omega) (by omega) (by kernel_rfl) ?_)
                exact R.go 2 (R.stop R9 (by kernel_rfl) (N10 (j + 1, (splI (dsf n xs vs l i) (atmF n.toNat (dsf n xs vs l) i) j) ++ [band ((atmF n.toNat (dsf n xs vs l) i).getD j 0) (tset n xs vs (l.getD i []))]) [2, 9, 10, 33, 34, 35, 42, 43, 44] (some [0, 1, 2]) _ (by kernel_rfl) (by kernel_rfl) ⟨(by omega), (by rw [splI_s (by omega), pcs]; simp only [dsf, *, if_true, if_false]; simp)⟩ (by show ((atmF n.toNat (dsf n xs vs l) i).length - (j + 1)) < ((atmF n.toNat (dsf n xs vs l) i).length - j); omega)))
            · refine R.go 6 (R.stopA R14 (by kernel_rfl) hA15 ?_)
              intro R24 hA25
              refine R.go 20 (R.condN ((bnot ((atmF n.toNat (dsf n xs vs l) i).getD j 0) (tset n xs vs (l.getD i []))) = 0) (by kernel_rfl) (fun c26 => ?_) (fun c26 => ?_))
              · refine R.go 4 (R.app eI (splI (dsf n xs vs l i) (atmF n.toNat (dsf n xs vs l) i) j) [bnot ((atmF n.toNat (dsf n xs vs l) i).getD j 0) (tset n xs vs (l.getD i []))] 1 2 1 8 (by kernel_rfl) eI_one (by decide) (by first | omega | (simp <;> omega)) (by kernel_rfl) ?_)
                refine R.go 7 (R.stopA R24 (by kernel_rfl) hA25 ?_)
                intro R27 hA28
                refine R.go 9 (R.ar ((j : Int) + 1) (by kernel_rfl) (by omega) (by omega) (by kernel_rfl) ?_)
                exact R.go 2 (R.stop R9 (by kernel_rfl) (N10 (j + 1, (splI (dsf n xs vs l i) (atmF n.toNat (dsf n xs vs l) i) j) ++ [bnot ((atmF n.toNat (dsf n xs vs l) i).getD j 0) (tset n xs vs (l.getD i []))]) [2, 9, 10, 33, 34, 35, 42, 43, 44] (some [0, 1, 2]) _ (by kernel_rfl) (by kernel_rfl) ⟨(by omega), (by rw [splI_s (by omega), pcs]; simp only [dsf, *, if_true, if_false]; simp)⟩ (by show ((atmF n.toNat (dsf n xs vs l) i).length - (j + 1)) < ((atmF n.toNat (dsf n xs vs l) i).length - j); omega)))
              · refine R.go 6 (R.stopA R24 (by kernel_rfl) hA25 ?_)
                intro R29 hA30
                refine R.go 9 (R.ar ((j : Int) + 1) (by kernel_rfl) (by omega) (by omega) (by kernel_rfl) ?_)
                exact R.go 2 (R.stop R9 (by kernel_rfl) (N10 (j + 1, splI (dsf n xs vs l i) (atmF n.toNat (dsf n xs vs l) i) j) [2, 9, 10, 33, 34, 35, 42, 43, 44] none _ (by kernel_rfl) (by kernel_rfl) ⟨(by omega), (by rw [splI_s (by omega), pcs]; simp only [dsf, *, if_true, if_false]; simp)⟩ (by show ((atmF n.toNat (dsf n xs vs l) i).length - (j + 1)) < ((atmF n.toNat (dsf n xs vs l) i).length - j); omega)))
          · refine R.go 7 (R.ar ((i : Int) + 1) (by kernel_rfl) (by omega) (by omega) (by kernel_rfl) ?_)
            exact R.go 2 (R.stop R4 (by kernel_rfl) (N5 (i + 1, splI (dsf n xs vs l i) (atmF n.toNat (dsf n xs vs l) i) j) [2, 6, 33, 34, 35] (some [0, 1]) _ (by kernel_rfl) (by kernel_rfl) ⟨(by omega), (by exact splI_e (by omega))⟩ (by show (l.length - (i + 1)) < (l.length - i); omega)))
        · refine R.go 4 (R.call false (unionsOf_c (atmF n.toNat (dsf n xs vs l) i) (by first | omega | (simp <;> omega))) (by kernel_rfl) (ownA_closed eI_closed 2 1 (srtI (uniF (atmF n.toNat (dsf n xs vs l) i) (atmF n.toNat (dsf n xs vs l) i).length))) (by kernel_rfl) ?_)
          exact R.go 3 (R.retE (.tup [ownA eI 2 1 (srtI (uniF (atmF n.toNat (dsf n xs vs l) i) (atmF n.toNat (dsf n xs vs l) i).length)), AI 0]) (by kernel_rfl) (by kernel_rfl) (by first | (first | (rw [hc1, hc2]; done) | (rw [hc1, hc2, show i = l.length by omega, ds_eq (by omega) (hdi l.length (Nat.le_refl _))])) | (exfalso; omega)))
      · refine R.go 9 (R.nil 6 2 1 (by kernel_rfl) ?_)
        refine R.loop ((fun | (i, A) => (⟨(frm 72 [(2, .ptr 0 0), (6, .ref 1), (33, LLN l), (34, AI l.length), (35, AI (i : Int))]), [.box 34 [AI n, LI xs, LI vs], rowA eI 2 1 A]⟩ : St) : Nat × (List Int) → St)) (fun | (i, A) => (i ≤ l.length) ∧ (A = atmF n.toNat (dsf n xs vs l) i)) (fun | (i, A) => l.length - i) (0, []) [2, 6, 33, 34, 35] none (by kernel_rfl) (by kernel_rfl) (by kernel_rfl) ⟨(by omega), (by first | (rw [atmF, if_pos (by omega), Int.toNat_of_nonneg hb.1]) | (rw [atmF, if_neg (by omega)]))⟩ ?_
        rintro ⟨i, A⟩ ⟨h34_1, rfl⟩ R31 N32
        have hali := hal i (by omega)
        refine R.go 5 (R.cond ((i : Int) < (l.length : Int)) (by kernel_rfl) (fun c35 => ?_) (fun c35 => ?_))
        · refine R.go 5 (R.idx eLN l [] i (i : Int) (by kernel_rfl) rfl eLN_len (by omega) (by kernel_rfl) ?_)
          have hok0 := hff i (by omega)
          have hokm := isF_okm hok0
          have hok : OKM vs.length (l.getD i []) := by rw [hv6]; exact hokm.1
          have hlq := hl.2 i (by omega)
          refine R.go 7 (R.call true (truthIn_c n xs vs (l.getD i []) hok (by omega) (by omega) (by first | omega | (simp <;> omega)) (by first | omega | (simp <;> omega))) (by kernel_rfl) rfl (by kernel_rfl) ?_)
          refine R.go 14 (R.nil 10 2 1 (by kernel_rfl) ?_)
          refine R.loop ((fun | (j, N) => (⟨(frm 72 [(2, .ptr 0 0), (9, AI (tset n xs vs (l.getD i []))), (10, .ref 1), (33, LLN l), (34, AI l.length), (35, AI (i : Int)), (42, .ref 2), (43, AI ((atmF n.toNat (dsf n xs vs l) i).length)), (44, AI (j : Int))]), [.box 34 [AI n, LI xs, LI vs], rowA eI 2 1 N, rowA eI 2 1 (atmF n.toNat (dsf n xs vs l) i)]⟩ : St) : Nat × (List Int) → St)) (fun | (j, N) => (j ≤ (atmF n.toNat (dsf n xs vs l) i).length) ∧ (N = splI (dsf n xs vs l i) (atmF n.toNat (dsf n xs vs l) i) j)) (fun | (j, N) => (atmF n.toNat (dsf n xs vs l) i).length - j) (0, []) [2, 9, 10, 33, 34, 35, 42, 43, 44] (some [0, 2, 1]) (by kernel_rfl) (by kernel_rfl) (by kernel_rfl) ⟨(by omega), (by simp [splI, splt])⟩ ?_
          rintro ⟨j, N⟩ ⟨h39_1, rfl⟩ R36 N37
          have hspj := splI_len (dsf n xs vs l i) (atmF n.toNat (dsf n xs vs l) i) j (by omega)
          have hspl := splI_len (dsf n xs vs l i) (atmF n.toNat (dsf n xs vs l) i)
          refine R.go 5 (R.cond ((j : Int) < ((atmF n.toNat (dsf n xs vs l) i).length : Int)) (by kernel_rfl) (fun c40 => ?_) (fun c40 => ?_))
          · refine R.go 5 (R.idxO 2 1 (atmF n.toNat (dsf n xs vs l) i).length j (j : Int) (by kernel_rfl) rfl (by omega) (by kernel_rfl) ?_)
            refine R.ldI (atmF n.toNat (dsf n xs vs l) i) j (by kernel_rfl) (by omega) (by kernel_rfl) ?_
            refine R.go 10 (R.lit (s := 1) (n := 2) (cs := rows eI [band ((atmF n.toNat (dsf n xs vs l) i).getD j 0) (tset n xs vs (l.getD i [])), bnot ((atmF n.toNat (dsf n xs vs l) i).getD j 0) (tset n xs vs (l.getD i []))]) (by kernel_rfl) (by kernel_rfl) ?_)
            refine R.go 4 (R.rounds 2 (by kernel_rfl) ?_)
            intro R41 hA42
            refine R.go 20 (R.condN ((band ((atmF n.toNat (dsf n xs vs l) i).getD j 0) (tset n xs vs (l.getD i []))) = 0) (by kernel_rfl) (fun c43 => ?_) (fun c43 => ?_))
            · refine R.go 4 (R.app eI (splI (dsf n xs vs l i) (atmF n.toNat (dsf n xs vs l) i) j) [band ((atmF n.toNat (dsf n xs vs l) i).getD j 0) (tset n xs vs (l.getD i []))] 1 2 1 8 (by kernel_rfl) eI_one (by decide) (by first | omega | (simp <;> omega)) (by kernel_rfl) ?_)
              refine R.go 7 (R.stopA R41 (by kernel_rfl) hA42 ?_)
              intro R44 hA45
              refine R.go 20 (R.condN ((bnot ((atmF n.toNat (dsf n xs vs l) i).getD j 0) (tset n xs vs (l.getD i []))) = 0) (by kernel_rfl) (fun c46 => ?_) (fun c46 => ?_))
              · refine R.go 4 (R.app eI ((splI (dsf n xs vs l i) (atmF n.toNat (dsf n xs vs l) i) j) ++ [band ((atmF n.toNat (dsf n xs vs l) i).getD j 0) (tset n xs vs (l.getD i []))]) [bnot ((atmF n.toNat (dsf n xs vs l) i).getD j 0) (tset n xs vs (l.getD i []))] 1 2 1 8 (by kernel_rfl) eI_one (by decide) (by first | omega | (simp <;> omega)) (by kernel_rfl) ?_)
                refine R.go 7 (R.stopA R44 (by kernel_rfl) hA45 ?_)
                intro R47 hA48
                refine R.go 9 (R.ar ((j : Int) + 1) (by kernel_rfl) (by omega) (by omega) (by kernel_rfl) ?_)
                exact R.go 2 (R.stop R36 (by kernel_rfl) (N37 (j + 1, (splI (dsf n xs vs l i) (atmF n.toNat (dsf n xs vs l) i) j) ++ [band ((atmF n.toNat (dsf n xs vs l) i).getD j 0) (tset n xs vs (l.getD i []))] ++ [bnot ((atmF n.toNat (dsf n xs vs l) i).getD j 0) (tset n xs vs (l.getD i []))]) [2, 9, 10, 33, 34, 35, 42, 43, 44] (some [0, 1, 2]) _ (by kernel_rfl) (by kernel_rfl) ⟨(by omega), (by rw [splI_s (by omega), pcs]; simp only [dsf, *, if_true, if_false]; simp)⟩ (by show ((atmF n.toNat (dsf n xs vs l) i).length - (j + 1)) < ((atmF n.toNat (dsf n xs vs l) i).length - j); omega)))
              · refine R.go 6 (R.stopA R44 (by kernel_rfl) hA45 ?_)
                intro R49 hA50
                refine R.go 9 (R.ar ((j : Int) + 1) (by kernel_rfl) (by omega) (by omega) (by kernel_rfl) ?_)
                exact R.go 2 (R.stop R36 (by kernel_rfl) (N37 (j + 1, (splI (dsf n xs vs l i) (atmF n.toNat (dsf n xs vs l) i) j) ++ [band ((atmF n.toNat (dsf n xs vs l) i).getD j 0) (tset n xs vs (l.getD i []))]) [2, 9, 10, 33, 34, 35, 42, 43, 44] (some [0, 1, 2]) _ (by kernel_rfl) (by kernel_rfl) ⟨(by omega), (by rw [splI_s (by omega), pcs]; simp only [dsf, *, if_true, if_false]; simp)⟩ (by show ((atmF n.toNat (dsf n xs vs l) i).length - (j + 1)) < ((atmF n.toNat (dsf n xs vs l) i).length - j); omega)))
            · refine R.go 6 (R.stopA R41 (by kernel_rfl) hA42 ?_)
              intro R51 hA52
              refine R.go 20 (R.condN ((bnot ((atmF n.toNat (dsf n xs vs l) i).getD j 0) (tset n xs vs (l.getD i []))) = 0) (by kernel_rfl) (fun c53 => ?_) (fun c53 => ?_))
              · refine R.go 4 (R.app eI (splI (dsf n xs vs l i) (atmF n.toNat (dsf n xs vs l) i) j) [bnot ((atmF n.toNat (dsf n xs vs l) i).getD j 0) (tset n xs vs (l.getD i []))] 1 2 1 8 (by kernel_rfl) eI_one (by decide) (by first | omega | (simp <;> omega)) (by kernel_rfl) ?_)
                refine R.go 7 (R.stopA R51 (by kernel_rfl) hA52 ?_)
                intro R54 hA55
                refine R.go 9 (R.ar ((j : Int) + 1) (by kernel_rfl) (by omega) (by omega) (by kernel_rfl) ?_)
                exact R.go 2 (R.stop R36 (by kernel_rfl) (N37 (j + 1, (splI (dsf n xs vs l i) (atmF n.toNat (dsf n xs vs l) i) j) ++ [bnot ((atmF n.toNat (dsf n xs vs l) i).getD j 0) (tset n xs vs (l.getD i []))]) [2, 9, 10, 33, 34, 35, 42, 43, 44] (some [0, 1, 2]) _ (by kernel_rfl) (by kernel_rfl) ⟨(by omega), (by rw [splI_s (by omega), pcs]; simp only [dsf, *, if_true, if_false]; simp)⟩ (by show ((atmF n.toNat (dsf n xs vs l) i).length - (j + 1)) < ((atmF n.toNat (dsf n xs vs l) i).length - j); omega)))
              · refine R.go 6 (R.stopA R51 (by kernel_rfl) hA52 ?_)
                intro R56 hA57
                refine R.go 9 (R.ar ((j : Int) + 1) (by kernel_rfl) (by omega) (by omega) (by kernel_rfl) ?_)
                exact R.go 2 (R.stop R36 (by kernel_rfl) (N37 (j + 1, splI (dsf n xs vs l i) (atmF n.toNat (dsf n xs vs l) i) j) [2, 9, 10, 33, 34, 35, 42, 43, 44] none _ (by kernel_rfl) (by kernel_rfl) ⟨(by omega), (by rw [splI_s (by omega), pcs]; simp only [dsf, *, if_true, if_false]; simp)⟩ (by show ((atmF n.toNat (dsf n xs vs l) i).length - (j + 1)) < ((atmF n.toNat (dsf n xs vs l) i).length - j); omega)))
          · refine R.go 7 (R.ar ((i : Int) + 1) (by kernel_rfl) (by omega) (by omega) (by kernel_rfl) ?_)
            exact R.go 2 (R.stop R31 (by kernel_rfl) (N32 (i + 1, splI (dsf n xs vs l i) (atmF n.toNat (dsf n xs vs l) i) j) [2, 6, 33, 34, 35] (some [0, 1]) _ (by kernel_rfl) (by kernel_rfl) ⟨(by omega), (by exact splI_e (by omega))⟩ (by show (l.length - (i + 1)) < (l.length - i); omega)))
        · refine R.go 4 (R.call false (unionsOf_c (atmF n.toNat (dsf n xs vs l) i) (by first | omega | (simp <;> omega))) (by kernel_rfl) (ownA_closed eI_closed 2 1 (srtI (uniF (atmF n.toNat (dsf n xs vs l) i) (atmF n.toNat (dsf n xs vs l) i).length))) (by kernel_rfl) ?_)
          exact R.go 3 (R.retE (.tup [ownA eI 2 1 (srtI (uniF (atmF n.toNat (dsf n xs vs l) i) (atmF n.toNat (dsf n xs vs l) i).length)), AI 0]) (by kernel_rfl) (by kernel_rfl) (by first | (first | (rw [hc1, hc2]; done) | (rw [hc1, hc2, show i = l.length by omega, ds_eq (by omega) (hdi l.length (Nat.le_refl _))])) | (exfalso; omega)))
  · refine R.skp (!(okMo n xs vs)) false (by kernel_rfl) (bnT c1) (by kernel_rfl) ?_
    refine R.skp (!(okMo n xs vs)) false (by kernel_rfl) (bnT c1) (by kernel_rfl) ?_
    refine R.skp (!(okMo n xs vs)) false (by kernel_rfl) (bnT c1) (by kernel_rfl) ?_
    refine R.pick (!(okMo n xs vs)) true (by kernel_rfl) (bnT c1) (by kernel_rfl) ?_
    obtain ⟨hc1, hc2⟩ := ds_1 (n := n) (xs := xs) (vs := vs) (l := l) (by simp [*])
    refine R.go 7 (R.nil 4 2 1 (by kernel_rfl) ?_)
    exact R.retE (.tup [ownA eI 2 1 [], AI 1]) (by kernel_rfl) (by kernel_rfl) (by first | (first | (rw [hc1, hc2]; done) | (rw [hc1, hc2, show i = l.length by omega, ds_eq (by omega) (hdi l.length (Nat.le_refl _))])) | (exfalso; omega))

end Go.Proofs.Ytpalghbfhgimkaa
