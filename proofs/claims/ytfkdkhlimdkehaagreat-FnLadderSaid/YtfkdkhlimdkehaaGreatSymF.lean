/- The operations that write: store, append, a slice cut at its end; soundness. -/
import Derived.Test.YtfkdkhlimdkehaaGreatSymE
import Derived.Maps.AppendAt
import Derived.Lib.AppendZeros
namespace Go.Abs
open Go.RowKit

theorem HRel.update {w w' : World} {Z : Nat → Prop} {B : Nat} {μ : List Value} {hp : List AObj} {i : Nat} {u u' : Value} {ob ob' : AObj} (h : HRel w Z B μ hp) (hZ : ∀ b, w.heap.size ≤ b → Z b)
    (hi : hp[i]? = some ob) (hu : μ[i]? = some u) (ha : ob.alive = true) (hoth : ∀ b, b < w.heap.size → blk u ≠ some b → w'.heap[b]? = w.heap[b]?)
    (hnew : ObjRel w' Z (μ.set i u') B u' ob') (hblk : ∀ g, blk u' = some g → blk u = some g ∨ w.heap.size ≤ g) (hone : u'.oneCell' = true) :
    HRel w' Z B (μ.set i u') ((hp.map (AObj.kill i)).set i ob') := by
  have hilt := (List.getElem?_eq_some_iff.1 hi).1
  have hb : ∀ b, b < w.heap.size → ¬ Z b → w'.heap[b]? = w.heap[b]? := fun b hb1 hz => hoth b hb1 (fun e => hz (h.zone i ob u b hi ha hu e))
  have hm : ∀ (j : Nat) (x : Value), j ≠ i → μ[j]? = some x → (μ.set i u')[j]? = some x := fun j x hne hx => by rw [List.getElem?_set_ne (Ne.symm hne)]; exact hx
  have split : ∀ (j : Nat) oj uj, ((hp.map (AObj.kill i)).set i ob')[j]? = some oj → (μ.set i u')[j]? = some uj → (j = i ∧ oj = ob' ∧ uj = u') ∨ (j ≠ i ∧ ∃ o, hp[j]? = some o ∧ oj = o.kill i ∧ μ[j]? = some uj) := by
    intro j oj uj h1 h2
    by_cases hji : j = i
    · subst hji
      rw [List.getElem?_set_self (by simpa using hilt)] at h1
      rw [List.getElem?_set_self (by rw [h.len]; exact hilt)] at h2
      simp at h1 h2
      exact .inl ⟨rfl, h1.symm, h2.symm⟩
    · rw [List.getElem?_set_ne (Ne.symm hji), List.getElem?_map, Option.map_eq_some_iff] at h1
      obtain ⟨o, ho, rfl⟩ := h1
      rw [List.getElem?_set_ne (Ne.symm hji)] at h2
      exact .inr ⟨hji, o, ho, rfl, h2⟩
  refine ⟨by simp [h.len], fun j oj uj g h1 haj h2 hg => ?_, fun j x hx => ?_, fun j oj uj h1 h2 => ?_, fun j k oj ok uj uk g hne h1 h2 a1 a2 m1 m2 b1 b2 => ?_⟩
  · rcases split j oj uj h1 h2 with ⟨rfl, rfl, rfl⟩ | ⟨hji, o, ho, rfl, hx⟩
    · rcases hblk g hg with e | e
      · exact h.zone j ob u g hi ha hu e
      · exact hZ g e
    · rw [AObj.kill_alive] at haj
      exact h.zone j o uj g ho haj hx hg
  · by_cases hji : j = i
    · subst hji
      rw [List.getElem?_set_self (by rw [h.len]; exact hilt)] at hx
      simp at hx
      subst hx
      exact hone
    · rw [List.getElem?_set_ne (Ne.symm hji)] at hx
      exact h.one j x hx
  · rcases split j oj uj h1 h2 with ⟨rfl, rfl, rfl⟩ | ⟨hji, o, ho, rfl, hx⟩
    · exact hnew
    · have hO := h.obj j o uj ho hx
      cases hal : o.alive with
      | true =>
        refine hO.keep_kill i hb hm (fun g hg => ?_)
        have hlt := (hO.blk_ge hal hg).2
        exact hoth g hlt (fun e => h.sep i j ob o u uj g (Ne.symm hji) hi ho ha hal hu hx e hg)
      | false => exact hO.keep_kill_dead i hb hm hal
  · rcases split j oj uj h1 m1 with ⟨rfl, rfl, rfl⟩ | ⟨hji, o, ho, rfl, hx⟩ <;> rcases split k ok uk h2 m2 with ⟨rfl, rfl, rfl⟩ | ⟨hki, o2, ho2, rfl, hx2⟩
    · exact hne rfl
    · rw [AObj.kill_alive] at a2
      rcases hblk g b1 with e | e
      · exact h.sep j k ob o2 u uk g hne hi ho2 ha a2 hu hx2 e b2
      · have := ((h.obj k o2 uk ho2 hx2).blk_ge a2 b2).2
        omega
    · rw [AObj.kill_alive] at a1
      rcases hblk g b2 with e | e
      · exact h.sep j k o ob uj u g hne ho hi a1 ha hx hu b1 e
      · have := ((h.obj j o uj ho hx).blk_ge a1 b1).2
        omega
    · rw [AObj.kill_alive] at a1 a2
      exact h.sep j k o o2 uj uk g hne ho ho2 a1 a2 hx hx2 b1 b2

theorem HRel.update_same {w w' : World} {Z : Nat → Prop} {B : Nat} {μ : List Value} {hp : List AObj} {i : Nat} {u : Value} {ob ob' : AObj} (h : HRel w Z B μ hp) (hZ : ∀ b, w.heap.size ≤ b → Z b)
    (hi : hp[i]? = some ob) (hu : μ[i]? = some u) (ha : ob.alive = true) (hoth : ∀ b, b < w.heap.size → blk u ≠ some b → w'.heap[b]? = w.heap[b]?)
    (hnew : ObjRel w' Z μ B u ob') : HRel w' Z B μ (hp.set i ob') := by
  have hilt := (List.getElem?_eq_some_iff.1 hi).1
  have hb : ∀ b, b < w.heap.size → ¬ Z b → w'.heap[b]? = w.heap[b]? := fun b hb1 hz => hoth b hb1 (fun e => hz (h.zone i ob u b hi ha hu e))
  have split : ∀ (j : Nat) oj, (hp.set i ob')[j]? = some oj → (j = i ∧ oj = ob') ∨ (j ≠ i ∧ hp[j]? = some oj) := by
    intro j oj h1
    by_cases hji : j = i
    · subst hji
      rw [List.getElem?_set_self hilt] at h1
      simp at h1
      exact .inl ⟨rfl, h1.symm⟩
    · rw [List.getElem?_set_ne (Ne.symm hji)] at h1
      exact .inr ⟨hji, h1⟩
  have old : ∀ (j : Nat) oj, (hp.set i ob')[j]? = some oj → ∃ o, hp[j]? = some o ∧ (oj.alive = true → o.alive = true) := fun j oj h1 => by
    rcases split j oj h1 with ⟨rfl, rfl⟩ | ⟨_, h2⟩
    · exact ⟨ob, hi, fun _ => ha⟩
    · exact ⟨oj, h2, id⟩
  refine ⟨by simp [h.len], fun j oj uj g h1 haj h2 hg => ?_, h.one, fun j oj uj h1 h2 => ?_, fun j k oj ok uj uk g hne h1 h2 a1 a2 m1 m2 b1 b2 => ?_⟩
  · obtain ⟨o1, e1, f1⟩ := old j oj h1
    exact h.zone j o1 uj g e1 (f1 haj) h2 hg
  · rcases split j oj h1 with ⟨rfl, rfl⟩ | ⟨hji, ho⟩
    · rw [hu] at h2
      simp at h2
      subst h2
      exact hnew
    · have hO := h.obj j oj uj ho h2
      cases hal : oj.alive with
      | true =>
        refine hO.keep hb (fun _ _ h => h) (fun g hg => ?_)
        have hlt := (hO.blk_ge hal hg).2
        exact hoth g hlt (fun e => h.sep i j ob oj u uj g (Ne.symm hji) hi ho ha hal hu h2 e hg)
      | false => exact hO.keep_dead hb (fun _ _ h => h) hal
  · obtain ⟨o1, e1, f1⟩ := old j oj h1
    obtain ⟨o2, e2, f2⟩ := old k ok h2
    exact h.sep j k o1 o2 uj uk g hne e1 e2 (f1 a1) (f2 a2) m1 m2 b1 b2

def AObj.withCells (cs : List AV) : AObj → AObj
  | .box t _ => .box t cs
  | .list e s n _ => .list e s n cs
  | .dead => .dead
  | .frame us cs => .frame us cs
  | .inert x => .inert x

/-- May the object hold names of objects? -/
def AObj.flat : AObj → Bool
  | .list .. => true
  | _ => false

/-- The cells that an append takes over. -/
inductive SrcR (hp : List AObj) (s : Nat) : AV → Nat → List AV → Prop
  | lst {m ds} : SrcR hp s (.lst s m ds) m ds
  | ref {j e m ds} (h : hp[j]? = some (.list e s m ds)) : SrcR hp s (.ref j) m ds
  | nil : SrcR hp s .nil 0 []

/-- An operation that writes: the value it yields, the object whose names are forgotten, the heap behind it. -/
inductive EffW (P : Program) (e : Operand → AV) (hp : List AObj) : Op → AV → Option Nat → List AObj → Prop
  | store1 {t p x} (i o : Nat) (ob : AObj) (hp' : e p = .ptr i o) (hi : hp[i]? = some ob) (hs : sizeB P t = some 1) (h1 : (e x).one = true) (ho : o < ob.cells.length) (hlf : (!ob.flat || (e x).leafy) = true) : EffW P e hp (.store t p x) .top none (hp.set i (ob.withCells (ob.cells.set o (e x))))
  | storeN {t p x} (i o : Nat) (ob : AObj) (cs : List AV) (hp' : e p = .ptr i o) (hx : e x = .agg cs) (hi : hp[i]? = some ob) (hs : sizeB P t = some cs.length) (h1 : ∀ c ∈ cs, c.one = true) (ho : o + cs.length ≤ ob.cells.length) (h0 : cs ≠ []) (hlf : (!ob.flat || leafyL cs) = true) :
      EffW P e hp (.store t p x) .top none (hp.set i (ob.withCells (setMany ob.cells o cs)))
  | append {t x y} (i el s by_ n m : Nat) (zs cs ds : List AV) (hx : e x = .ref i) (hi : hp[i]? = some (.list el s n cs)) (hy : SrcR hp s (e y) m ds) (ht : rowB P t = some (el, s, zs, by_)) (h1 : ∀ c ∈ ds, c.one = true) (hb : (n + m) * by_ ≤ 140737488355328) (hm : n + m ≤ maxLen) :
      EffW P e hp (.call { callee := .builtin .append, args := #[x, y], argTypes := #[t, t] }) (.ref i) (some i) ((hp.map (AObj.kill i)).set i (.list el s (n + m) (cs ++ ds)))
  | appendN {t x y} (el s by_ m : Nat) (zs ds : List AV) (hx : e x = .nil) (hy : SrcR hp s (e y) m ds) (ht : rowB P t = some (el, s, zs, by_)) (h1 : ∀ c ∈ ds, c.one = true) (hb : m * by_ ≤ 140737488355328) (hm : m ≤ maxLen) :
      EffW P e hp (.call { callee := .builtin .append, args := #[x, y], argTypes := #[t, t] }) (.ref hp.length) none (hp ++ [.list el s m ds])
  | appendC {t x y} (el s by_ n m : Nat) (zs cs ds : List AV) (hx : e x = .clp s n cs) (hy : SrcR hp s (e y) m ds) (ht : rowB P t = some (el, s, zs, by_)) (h1 : ∀ c ∈ ds, c.one = true) (hb : (n + m) * by_ ≤ 140737488355328) (hm : n + m ≤ maxLen) (h0 : 0 < m) :
      EffW P e hp (.call { callee := .builtin .append, args := #[x, y], argTypes := #[t, t] }) (.ref hp.length) none (hp ++ [.list el s (n + m) (cs ++ ds)])
  | appendZ {t tn x y} (el s by_ n : Nat) (k : IntKind) (zs : List AV) (hx : e x = .nil) (hy : e y = .int k n) (ht : rowB P t = some (el, s, zs, by_)) (htn : (intB P tn).isSome = true) (h0 : 0 < n) (hb : n * by_ ≤ 140737488355328) (hm : n ≤ maxLen) :
      EffW P e hp (.call { callee := .builtin .append, args := #[x, y], argTypes := #[t, tn] }) (.ref hp.length) none (hp ++ [.list el s n (zerosA zs s n)])
  | cut {t x hi} (i el s n h : Nat) (cs : List AV) (k : IntKind) (hx : e x = .ref i) (hi' : hp[i]? = some (.list el s n cs)) (hh : e hi = .int k h) (ht : elemB P t = some (el, s)) (hn : h ≤ n) (hs : s ≠ 0) :
      EffW P e hp (.slice t x none (some hi) none) (.ref i) (some i) ((hp.map (AObj.kill i)).set i (.list el s h (cs.take (h * s))))

def killF : Option Nat → List AV → List AV
  | none, fr => fr
  | some i, fr => killL i fr

theorem one_rel {w : World} {Z : Nat → Prop} {μ : List Value} (hone : ∀ (i : Nat) u, μ[i]? = some u → u.oneCell' = true) {c : AV} {v : Value} (h1 : c.one = true) (h : Rel w Z μ c v) : v.oneCell' = true := by
  cases c <;> simp only [AV.one, Bool.false_eq_true] at h1 <;> simp only [Rel] at h
  case int => subst h; rfl
  case bool => subst h; rfl
  case str => subst h; rfl
  case nil => subst h; rfl
  case lst => obtain ⟨A, c, xs, rfl, _⟩ := h; rfl
  case clp => obtain ⟨A, c, xs, rfl, _⟩ := h; rfl
  case ref => exact hone _ _ h
  case ptr => obtain ⟨u, g, _, _, rfl⟩ := h; rfl
  case rptr => obtain ⟨ad, xs, rfl, _⟩ := h; rfl
  case fn => obtain ⟨xs, rfl, _⟩ := h; rfl

theorem ones_rel {w : World} {Z : Nat → Prop} {μ : List Value} (hone : ∀ (i : Nat) u, μ[i]? = some u → u.oneCell' = true) : ∀ {cs : List AV} {vs : List Value}, (∀ c ∈ cs, c.one = true) → RelL w Z μ cs vs → ∀ v ∈ vs, v.oneCell' = true
  | [], vs, _, h => by rw [RelL] at h; subst h; simp
  | c :: cs, vs, h1, h => by
    rw [RelL] at h
    obtain ⟨x, xs, rfl, h2, h3⟩ := h
    intro v hv
    rcases List.mem_cons.1 hv with rfl | hv
    · exact one_rel hone (h1 c (List.mem_cons_self ..)) h2
    · exact ones_rel hone (fun c' hc' => h1 c' (List.mem_cons_of_mem _ hc')) h3 v hv

/-- A store of cells into an object. -/
theorem store_obj {P : Program} {w : World} {Z : Nat → Prop} {B : Nat} {μ : List Value} {hp : List AObj} (hH : HRel w Z B μ hp) (hZ : ∀ b, w.heap.size ≤ b → Z b) {i o : Nat} {ob : AObj} {u : Value} {g : Nat} {cs : List AV} {vs : List Value}
    (hi : hp[i]? = some ob) (hu : μ[i]? = some u) (hg : blk u = some g) (hr : RelL w Z μ cs vs) (h1 : ∀ v ∈ vs, v.oneCell' = true) (ho : o + cs.length ≤ ob.cells.length) (h0 : cs ≠ []) (hlf : (!ob.flat || leafyL cs) = true) :
    ∃ w', (storeCells ⟨g, o, none⟩ vs).run P w = .ok () w' ∧ HRel w' Z B μ (hp.set i (ob.withCells (setMany ob.cells o cs))) ∧ Below B w w' ∧ (∀ b, b < w.heap.size → ¬ Z b → w'.heap[b]? = w.heap[b]?) ∧ w.heap.size ≤ w'.heap.size := by
  have hO := hH.obj i ob u hi hu
  have hal : ob.alive = true := by
    cases ob with
    | dead => cases cs <;> simp [AObj.cells] at ho h0
    | frame us ds => cases cs <;> simp [AObj.cells] at ho h0
    | inert x => cases cs <;> simp [AObj.cells] at ho h0
    | box => rfl
    | list => rfl
  have hge := hO.blk_ge hal hg
  have hlen := hr.length
  -- the block's cells
  have key : ∃ (cur : Array Value) (t : TypeId), w.heap[g]? = some (.cells cur t (0, 0)) ∧ o + vs.length ≤ cur.size ∧
      ∀ w' : World, w'.heap[g]? = some (.cells (cur.toList.take (o + 0) ++ vs ++ cur.toList.drop (o + 0 + vs.length)).toArray t (0, 0)) → (∀ b, b < w.heap.size → ¬ Z b → w'.heap[b]? = w.heap[b]?) →
        ObjRel w' Z μ B u (ob.withCells (setMany ob.cells o cs)) := by
    cases ob with
    | dead => simp [AObj.alive] at hal
    | frame us ds => simp [AObj.alive] at hal
    | inert x => cases cs <;> simp [AObj.cells] at ho h0
    | box t cells =>
      obtain ⟨g', xs, rfl, hB, hh, hx⟩ := hO
      simp only [blk, Option.some.injEq] at hg
      subst hg
      have hxl := hx.length
      simp only [AObj.cells] at ho
      refine ⟨xs.toArray, t, hh, by simp; omega, fun w' hw' hk => ⟨_, xs.take o ++ vs ++ xs.drop (o + vs.length), rfl, hB, by simpa using hw', ?_⟩⟩
      simp only [AObj.cells, setMany, ← hlen]
      exact (((hx.take o).append hr).append (hx.drop _)).keep hk (fun _ _ h => h)
    | list e s n cells =>
      obtain ⟨xs, hown, hx⟩ := hO
      have hxl := hx.length
      simp only [AObj.cells] at ho
      replace hr := RelL.leafy (by simpa [AObj.flat] using hlf) hr
      rcases hown with ⟨hl, ⟨rfl, _⟩ | ⟨g', cap, cur, rfl, hB, hh, hnc, hcm, hcs, ht⟩⟩
      · simp [blk] at hg
      · simp only [blk, Option.some.injEq] at hg
        subst hg
        have hle : n * s ≤ cur.size := by rw [hcs]; exact Nat.mul_le_mul_right s hnc
        refine ⟨cur, e, hh, by omega, fun w' hw' hk => ⟨xs.take o ++ vs ++ xs.drop (o + vs.length), ⟨?_, .inr ⟨g', cap, _, rfl, hB, hw', hnc, hcm, ?_, ?_⟩⟩, ?_⟩⟩
        · simp only [List.length_append, List.length_take, List.length_drop]; omega
        · simp only [List.size_toArray, List.length_append, List.length_take, List.length_drop, Array.length_toList]; omega
        · simp only [Nat.add_zero]
          rw [← ht]
          apply List.ext_getElem?
          intro j
          simp only [List.getElem?_take, List.getElem?_append, List.length_append, List.length_take, List.getElem?_drop, Array.length_toList]
          split
          · rename_i hj
            split
            · rename_i hj2
              split
              · rename_i hj3
                split
                · split
                  · split
                    · rfl
                    · omega
                  · omega
                · omega
              · rename_i hj3
                have e1 : min o cur.size = o := by omega
                have e2 : min o (min (n * s) cur.size) = o := by omega
                rw [if_pos (by omega), if_neg (by omega), e1, e2]
            · rename_i hj2
              have e1 : min o cur.size = o := by omega
              have e2 : min o (min (n * s) cur.size) = o := by omega
              rw [if_neg (by omega), e1, e2, if_pos (by omega)]
          · rename_i hj
            rw [if_neg (by omega), if_neg (by omega)]
        · simp only [AObj.cells, setMany, ← hlen]
          exact (((hx.take o).append hr).append (hx.drop _)).keep hk (fun _ _ h => h)
  obtain ⟨cur, t, hh, hsz, hnew⟩ := key
  have hst := run_storeCells_at P g o t vs 0 cur w hh (by omega) h1
  have hoth : ∀ b, b ≠ g → (w.setRow g (cur.toList.take (o + 0) ++ vs ++ cur.toList.drop (o + 0 + vs.length)).toArray).heap[b]? = w.heap[b]? := fun b hb => setRow_other w g b _ hb
  have hk : ∀ b, b < w.heap.size → ¬ Z b → (w.setRow g (cur.toList.take (o + 0) ++ vs ++ cur.toList.drop (o + 0 + vs.length)).toArray).heap[b]? = w.heap[b]? := fun b _ hz => hoth b (fun e => hz (hH.zone i ob u b hi hal hu (by rw [e]; exact hg)))
  refine ⟨_, hst, hH.update_same hZ hi hu hal (fun b _ hne => hoth b (fun e => hne (by rw [e]; exact hg))) (hnew _ (setRow_heap w g cur _ t _ hh) hk), ⟨rfl, rfl, rfl, by simp, fun b hb => hoth b (by omega)⟩, hk, by simp⟩

/-- What an operation that writes comes to. -/
def Wrote (w : World) (Z : Nat → Prop) (B : Nat) (μ : List Value) (v : AV) (kl : Option Nat) (hp' : List AObj) (r : Result Next) : Prop :=
  ∃ x w' μ' nx, r = .ok nx w' ∧ (nx = .value x ∨ (nx = .skip ∧ x = undef)) ∧ Below B w w' ∧ HRel w' Z B μ' hp' ∧ Rel w' Z μ' v x ∧
    (∀ b, b < w.heap.size → ¬ Z b → w'.heap[b]? = w.heap[b]?) ∧ w.heap.size ≤ w'.heap.size ∧ ∀ (j : Nat) u, kl ≠ some j → μ[j]? = some u → μ'[j]? = some u

theorem src_rel {w : World} {Z : Nat → Prop} {B : Nat} {μ : List Value} {hp : List AObj} (hH : HRel w Z B μ hp) {s m : Nat} {c : AV} {ds : List AV} {v : Value} (h : SrcR hp s c m ds) (hr : Rel w Z μ c v) :
    ∃ A cp ys, v = .slice A m cp ∧ RelL w Z [] ds ys ∧ ys.length = m * s ∧ (ys ≠ [] → ∃ ad, A = some ad ∧ ∀ (j : Nat) u, ys[j]? = some u → w.cell? (ad.add j) = some u) ∧ (A = none → v = .slice none 0 0 ∨ ys = []) := by
  cases h with
  | lst =>
    simp only [Rel] at hr
    obtain ⟨A, cp, ys, rfl, hl, hc, hrd, hx⟩ := hr
    refine ⟨A, cp, ys, rfl, hx, by rw [hx.length]; exact hl, fun hne => ?_, fun hA => .inr ?_⟩
    · obtain ⟨ad, h1, _, h3⟩ := hrd hne
      exact ⟨ad, h1, h3⟩
    · cases ys with
      | nil => rfl
      | cons y ys => obtain ⟨ad, h1, _⟩ := hrd (by simp); rw [hA] at h1; cases h1
  | ref h =>
    simp only [Rel] at hr
    obtain ⟨xs, hown, hx⟩ := hH.obj _ _ v h hr
    have hown2 := hown
    rcases hown.2 with ⟨rfl, rfl⟩ | ⟨g, cap, cur, rfl, hB, hg, hnc, hcm, hcs, ht⟩
    · have : xs = [] := List.eq_nil_of_length_eq_zero (by have := hown.1; simpa using this)
      subst this
      exact ⟨none, 0, [], rfl, hx, by simp, fun h => absurd rfl h, fun _ => .inl rfl⟩
    · refine ⟨some ⟨g, 0, none⟩, cap, xs, rfl, hx, hown2.1, fun _ => ⟨_, rfl, fun j u hu => ?_⟩, fun h => by cases h⟩
      rw [add_lit', Nat.zero_add, hown2.cellAt j (by have := (List.getElem?_eq_some_iff.1 hu).1; have := hown2.1; omega)]
      exact hu
  | nil =>
    simp only [Rel] at hr
    subst hr
    exact ⟨none, 0, [], rfl, RelL.nil, by simp, fun h => absurd rfl h, fun _ => .inl rfl⟩

/-- An append onto a row of one's own, whatever the source. -/
theorem run_append_all {P : Program} {w : World} {B t ty el s by_ n m cp : Nat} {zs : List AV} {v : Value} {A : Option Addr} {xs ys : List Value} (ht : rowB P t = some (el, s, zs, by_)) (hown : w.ownsRow B el s v n xs)
    (hl : ys.length = m * s) (hc : ys ≠ [] → ∃ ad, A = some ad ∧ ∀ (j : Nat) u, ys[j]? = some u → w.cell? (ad.add j) = some u) (hA : A = none → ys = []) (h1 : ∀ u ∈ ys, u.oneCell' = true)
    (hb : (n + m) * by_ ≤ 140737488355328) (hm : n + m ≤ maxLen) (hB : B ≤ w.heap.size) :
    ∃ v' w', (Builtin.append_ #[t, t] ty #[v, .slice A m cp]).run P w = .ok v' w' ∧ w'.ownsRow B el s v' (n + m) (xs ++ ys) ∧ w.grownBy w' v.ownBlock ∧ (v'.ownBlock = v.ownBlock ∨ v'.ownBlock = some w.heap.size) := by
  obtain ⟨i, z, hu, hi, hz, rfl, rfl, hzs, h0, _⟩ := row_parts ht
  cases A with
  | none =>
    have hy := hA rfl
    subst hy
    have hm0 : m = 0 := by
      rcases Nat.eq_zero_or_pos m with h | h
      · exact h
      · have : 0 < m * i.size := Nat.mul_pos h h0
        simp at hl; omega
    subst hm0
    refine ⟨v, w, ?_, by simpa using hown, World.grownBy.refl w _, .inl rfl⟩
    rcases hown.2 with ⟨rfl, rfl⟩ | ⟨g, cap, cur, rfl, _, _, hnc, _⟩
    · simp [Builtin.append_, run_underlying hu, sizeOf, typeInfo, hi, Builtin.lenOf, Builtin.firstCells]
    · simp [Builtin.append_, run_underlying hu, sizeOf, typeInfo, hi, Builtin.lenOf, Builtin.firstCells, hnc, storeCells]
  | some ad =>
    have hcells : ∀ (j : Nat) u, ys[j]? = some u → w.cell? (ad.add j) = some u := fun j u hj => by
      obtain ⟨ad', he, h⟩ := hc (by rintro rfl; simp at hj)
      simp only [Option.some.injEq] at he
      subst he
      exact h j u hj
    obtain ⟨v', w', h2, h3, h4, _, h5⟩ := run_append_own_at (P := P) w B t ty el i z i.size i.bytes hu hi hz rfl rfl hzs h0 v n xs hown ad m cp ys hl hcells h1 hm hb hB
    exact ⟨v', w', h2, h3, h4, h5⟩

/-- An append to a slice of no spare room that is not one's own. -/
theorem run_append_clip {P : Program} {w : World} {B t ty el s by_ n m cp : Nat} {zs : List AV} {A A' : Option Addr} {xs ys : List Value} (ht : rowB P t = some (el, s, zs, by_)) (hlx : xs.length = n * s)
    (hcx : xs ≠ [] → ∃ ad, A' = some ad ∧ ∀ (j : Nat) u, xs[j]? = some u → w.cell? (ad.add j) = some u)
    (hl : ys.length = m * s) (hc : ys ≠ [] → ∃ ad, A = some ad ∧ ∀ (j : Nat) u, ys[j]? = some u → w.cell? (ad.add j) = some u) (h1 : ∀ u ∈ ys, u.oneCell' = true)
    (hb : (n + m) * by_ ≤ 140737488355328) (hm : n + m ≤ maxLen) (hB : B ≤ w.heap.size) (h0 : 0 < m) :
    ∃ v' w', (Builtin.append_ #[t, t] ty #[.slice A' n n, .slice A m cp]).run P w = .ok v' w' ∧ w'.ownsRow B el s v' (n + m) (xs ++ ys) ∧ Below w.heap.size w w' ∧ ∀ g, blk v' = some g → w.heap.size ≤ g := by
  obtain ⟨i, z, hu, hi, hz, rfl, rfl, hzs, hs0, _⟩ := row_parts ht
  have hys : ys ≠ [] := by
    rintro rfl
    have : 0 < m * i.size := Nat.mul_pos h0 hs0
    simp at hl; omega
  obtain ⟨ad, rfl, hcells⟩ := hc hys
  have h63 : ((n + m : Nat) : Int) ≤ 9223372036854775807 := by
    have h := hm
    have h' : maxLen ≤ 9223372036854775807 := by decide
    omega
  cases A' with
  | none =>
    have hx0 : xs = [] := by
      rcases xs with _ | ⟨x, xs⟩
      · rfl
      · obtain ⟨ad', h, _⟩ := hcx (by simp); cases h
    subst hx0
    have hn0 : n = 0 := by
      rcases Nat.eq_zero_or_pos n with h | h
      · exact h
      · have : 0 < n * i.size := Nat.mul_pos h hs0
        simp at hlx; omega
    subst hn0
    obtain ⟨v', w', h2, h3, hg, hblk⟩ := run_append_all (P := P) (ty := ty) (cp := cp) (n := 0) ht (World.ownsRow_nil w B el i.size) hl (fun _ => ⟨ad, rfl, hcells⟩) (fun h => by cases h) h1 hb hm hB
    refine ⟨v', w', h2, h3, ⟨hg.os, hg.tape, hg.output, hg.size, fun b hb1 => hg.block b hb1 (by simp [Value.ownBlock])⟩, fun g hg2 => ?_⟩
    have hbk : blk v' = v'.ownBlock := by rcases h3.2 with ⟨rfl, _⟩ | ⟨g, cap, cur, rfl, _⟩ <;> rfl
    rw [hbk] at hg2
    rcases hblk with e1 | e1
    · rw [e1] at hg2; simp [Value.ownBlock] at hg2
    · rw [e1] at hg2; simp only [Option.some.injEq] at hg2; omega
  | some ad' =>
    have hcx' : ∀ (j : Nat) u, xs[j]? = some u → w.cell? (ad'.add j) = some u := fun j u hj => by
      obtain ⟨ad2, he, h⟩ := hcx (by rintro rfl; simp at hj)
      cases he
      exact h j u hj
    have hrun := run_append_grow (P := P) (w := w) t ty el i z hu hi hz ad' n n xs hlx hcx' ad m cp ys hl hcells (by omega) h63 (growslice_fits (by omega) hb)
    have hge := grownCap_ge w (n + m) n el
    refine ⟨_, _, hrun, ?_, ?_, fun g hg => ?_⟩
    · refine ⟨by simp [hlx, hl, Nat.add_mul], .inr ⟨w.heap.size, grownCap w (n + m) n el, xs.toArray ++ ys.toArray ++ Builtin.zeroCells z.cells (grownCap w (n + m) n el - (n + m)), rfl, hB, ?_, hge, grownCap_le_maxLen w (n + m) n el hm, ?_, ?_⟩⟩
      · show (w.heap.push _)[w.heap.size]? = _
        simp
      · simp only [Array.size_append, List.size_toArray, hlx, hl, size_zeroCells, hzs]
        rw [← Nat.add_mul, ← Nat.add_mul]
        congr 1
        omega
      · simp only [Array.toList_append, List.append_assoc]
        rw [← List.append_assoc]
        exact List.take_left' (by simp [hlx, hl, Nat.add_mul])
    · exact ((Below.refl _ w).drew).alloc (by simp) _
    · simp only [blk, Option.some.injEq] at hg
      omega

theorem blk_own {v : Value} (h : ∀ a, v ≠ .pointer a) : blk v = v.ownBlock := by
  cases v with
  | slice a n c => cases a <;> rfl
  | pointer a => exact absurd rfl (h a)
  | _ => rfl

theorem ownsRow_blk {w : World} {B e s n : Nat} {v : Value} {xs : List Value} (h : w.ownsRow B e s v n xs) : blk v = v.ownBlock := by
  rcases h.2 with ⟨rfl, _⟩ | ⟨g, cap, cur, rfl, _⟩ <;> rfl

theorem killL_append (i : Nat) : ∀ a b : List AV, killL i (a ++ b) = killL i a ++ killL i b
  | [], _ => rfl
  | c :: a, b => by simp [killL, killL_append i a b]

theorem EffW.sound {P : Program} {w : World} {Z : Nat → Prop} {B : Nat} {μ : List Value} {hp hp' : List AObj} {e : Operand → AV} {ρ : Operand → Value} {o : Oper} {v : AV} {kl : Option Nat}
    (hH : HRel w Z B μ hp) (hZ : ∀ b, w.heap.size ≤ b → Z b) (hE : ∀ x, Rel w Z μ (e x) (ρ x)) (hB : B ≤ w.heap.size) (h : EffW P e hp o.op v kl hp') : Wrote w Z B μ v kl hp' ((execOp ρ o).run P w) := by
  obtain ⟨dst, op, ty, pos, after, guard⟩ := o
  simp only at h
  cases h with
  | store1 i o ob hp1 hi hs h1 ho hlf =>
    rename_i t p x
    have hpp := hp1 ▸ hE p
    simp only [Rel] at hpp
    obtain ⟨u, g, hu, hg, hpv⟩ := hpp
    have hx := hE x
    have h1x := one_rel hH.one h1 hx
    have hcells : (ρ x).cells = #[ρ x] := by cases hv : ρ x <;> simp_all [Value.cells, Value.oneCell']
    obtain ⟨w', hrun, hH', hb, hk, hsz⟩ := store_obj (P := P) hH hZ (o := o) (cs := [e x]) (vs := [ρ x]) hi hu hg (RelL.cons hx RelL.nil) (by simpa using h1x) (by simp only [List.length_singleton]; omega) (by simp) (by simpa [leafyL] using hlf)
    refine ⟨undef, w', μ, .skip, ?_, .inr ⟨rfl, rfl⟩, hb, ?_, by simp [Rel], hk, hsz, fun j u _ h => h⟩
    · simp [execOp, hpv, Instr.storeAt, Instr.sureAddr, storeVar, hcells, run_size hs, hrun]
    · have e1 : setMany ob.cells o [e x] = ob.cells.set o (e x) := by
        simp only [setMany, List.length_singleton]
        rw [List.set_eq_take_append_cons_drop, if_pos ho]
        simp
      rw [e1] at hH'
      exact hH'
  | storeN i o ob cs hp1 hx1 hi hs h1 ho h0 hlf =>
    rename_i t p x
    have hpp := hp1 ▸ hE p
    simp only [Rel] at hpp
    obtain ⟨u, g, hu, hg, hpv⟩ := hpp
    have hx := hx1 ▸ hE x
    simp only [Rel] at hx
    obtain ⟨xs, hxv, hr⟩ := hx
    obtain ⟨w', hrun, hH', hb, hk, hsz⟩ := store_obj (P := P) hH hZ hi hu hg hr (ones_rel hH.one h1 hr) ho h0 hlf
    refine ⟨undef, w', μ, .skip, ?_, .inr ⟨rfl, rfl⟩, hb, hH', by simp [Rel], hk, hsz, fun j u _ h => h⟩
    have hl := hr.length
    simp [execOp, hpv, hxv, Instr.storeAt, Instr.sureAddr, storeVar, Value.cells, run_size hs, hl, hrun]
  | append i el s by_ n m zs cs ds hx1 hi hy ht h1 hb hm =>
    rename_i t x y
    have hx := hx1 ▸ hE x
    simp only [Rel] at hx
    obtain ⟨xs, hown, hr⟩ := hH.obj i _ _ hi hx
    obtain ⟨A, cp, ys, hyv, hry, hl, hc, hA⟩ := src_rel hH hy (hE y)
    have h1y := ones_rel (μ := []) (by simp) h1 hry
    obtain ⟨v', w', hrun, hown', hg, hblk⟩ := run_append_all (P := P) (ty := ty) (cp := cp) ht hown hl hc (fun h => by
      rcases hA h with h2 | h2
      · rw [hyv] at h2
        simp only [Value.slice.injEq] at h2
        obtain ⟨_, rfl, _⟩ := h2
        exact List.eq_nil_of_length_eq_zero (by simpa using hl)
      · exact h2) h1y hb hm hB
    have hbu := ownsRow_blk hown
    have hbu' := ownsRow_blk hown'
    have hoth : ∀ b, b < w.heap.size → blk (ρ x) ≠ some b → w'.heap[b]? = w.heap[b]? := fun b hb1 hne => hg.block b hb1 (fun e => hne (by rw [hbu, e]))
    have hge : ∀ b, blk (ρ x) = some b → B ≤ b := fun b hb1 => ((hH.obj i _ _ hi hx).blk_ge rfl hb1).1
    have hk : ∀ b, b < w.heap.size → ¬ Z b → w'.heap[b]? = w.heap[b]? := fun b hb1 hz => hoth b hb1 (fun e => hz (hH.zone i _ _ b hi rfl hx e))
    have hm' : ∀ (j : Nat) (u : Value), j ≠ i → μ[j]? = some u → (μ.set i v')[j]? = some u := fun j u hne hu => by rw [List.getElem?_set_ne (Ne.symm hne)]; exact hu
    refine ⟨v', w', μ.set i v', .value v', ?_, .inl rfl, ⟨hg.os, hg.tape, hg.output, hg.size, fun b hb1 => hoth b (by omega) (fun e => by have := hge b e; omega)⟩, ?_, ?_, hk, hg.size, fun j u hne hu => hm' j u (fun e => hne (by rw [e])) hu⟩
    · simp [execOp, resolve, invoke, builtin, hyv, hrun]
    · refine hH.update hZ hi hx rfl hoth ⟨xs ++ ys, hown', ?_⟩ (fun g hg2 => ?_) (ownsRow_one hown')
      · exact (hr.append hry).keep hk (fun _ _ h => h)
      · rw [hbu'] at hg2
        rcases hblk with e1 | e1
        · left; rw [hbu, ← e1]; exact hg2
        · right; rw [e1] at hg2; simp only [Option.some.injEq] at hg2; omega
    · simp only [Rel]
      have := (List.getElem?_eq_some_iff.1 hi).1
      rw [List.getElem?_set_self (by rw [hH.len]; exact this)]
  | appendN el s by_ m zs ds hx1 hy ht h1 hb hm =>
    rename_i t x y
    have hx := hx1 ▸ hE x
    simp only [Rel] at hx
    obtain ⟨A, cp, ys, hyv, hry, hl, hc, hA⟩ := src_rel hH hy (hE y)
    have h1y := ones_rel (μ := []) (by simp) h1 hry
    have hown := World.ownsRow_nil w B el s
    obtain ⟨v', w', hrun, hown', hg, hblk⟩ := run_append_all (P := P) (ty := ty) (cp := cp) (n := 0) ht hown hl hc (fun h => by
      rcases hA h with h2 | h2
      · rw [hyv] at h2
        simp only [Value.slice.injEq] at h2
        obtain ⟨_, rfl, _⟩ := h2
        exact List.eq_nil_of_length_eq_zero (by simpa using hl)
      · exact h2) h1y (by simpa using hb) (by simpa using hm) hB
    have hbu' := ownsRow_blk hown'
    have hoth : ∀ b, b < w.heap.size → w'.heap[b]? = w.heap[b]? := fun b hb1 => hg.block b hb1 (by simp [Value.ownBlock])
    have hbel : Below w.heap.size w w' := ⟨hg.os, hg.tape, hg.output, hg.size, hoth⟩
    refine ⟨v', w', μ ++ [v'], .value v', ?_, .inl rfl, hbel.mono hB, ?_, ?_, fun b hb1 _ => hoth b hb1, hg.size, fun j u _ hu => append_old j u hu⟩
    · simp [execOp, resolve, invoke, builtin, hx, hyv, hrun]
    · refine hH.extend1 hZ hbel ⟨ys, by simpa using hown', hry.keep (fun b hb1 _ => hoth b hb1) (fun j u hu => hu)⟩ (fun g hg2 => ?_) (ownsRow_one hown')
      rw [hbu'] at hg2
      rcases hblk with e1 | e1
      · rw [e1] at hg2; simp [Value.ownBlock] at hg2
      · rw [e1] at hg2; simp only [Option.some.injEq] at hg2; omega
    · simp only [Rel]
      rw [← hH.len]; simp
  | appendC el s by_ n m zs cs ds hx1 hy ht h1 hb hm h0 =>
    rename_i t x y
    have hx := hx1 ▸ hE x
    simp only [Rel] at hx
    obtain ⟨A', c, xs, hxv, hlx, rfl, hrd, hrx⟩ := hx
    obtain ⟨A, cp, ys, hyv, hry, hl, hc, hA⟩ := src_rel hH hy (hE y)
    have h1y := ones_rel (μ := []) (by simp) h1 hry
    obtain ⟨v', w', hrun, hown', hbel, hblk⟩ := run_append_clip (P := P) (ty := ty) (cp := cp) (A' := A') (B := B) ht (by rw [hrx.length]; exact hlx) (fun hne => by obtain ⟨ad, e1, _, e2⟩ := hrd hne; exact ⟨ad, e1, e2⟩) hl hc h1y hb hm hB h0
    refine ⟨v', w', μ ++ [v'], .value v', ?_, .inl rfl, hbel.mono hB, ?_, ?_, fun b hb1 _ => hbel.block b hb1, hbel.size, fun j u _ hu => append_old j u hu⟩
    · simp [execOp, resolve, invoke, builtin, hxv, hyv, hrun]
    · exact hH.extend1 hZ hbel ⟨_, hown', (hrx.append hry).keep (fun b hb1 _ => hbel.block b hb1) (fun j u hu => hu)⟩ hblk (ownsRow_one hown')
    · simp only [Rel]
      rw [← hH.len]; simp
  | appendZ el s by_ n k zs hx1 hy ht htn h0 hb hm =>
    rename_i t tn x y
    have hx := hx1 ▸ hE x
    simp only [Rel] at hx
    have hyv := rel_int (hy ▸ hE y)
    obtain ⟨i, z, hu, hi, hz, rfl, rfl, hzs, hs0, rfl⟩ := row_parts ht
    obtain ⟨kn, hkn⟩ := Option.isSome_iff_exists.mp htn
    have hun : P.underlying tn = some (.int kn) := by
      unfold intB at hkn
      split at hkn
      · rename_i k' hk; cases hkn; exact hk
      · cases hkn
    have h63 : (n : Int) ≤ 9223372036854775807 := by
      have h := hm
      simp [maxLen] at h
      omega
    have hrun := Go.Lib.run_append_nil_zeros (P := P) w t tn ty el i z k kn hu hun hi hz n h0 hs0 h63 (by omega)
    have hge := grownCap_ge w n 0 el
    have hcm := grownCap_le_maxLen w n 0 el hm
    have hzc : ∀ m, (Builtin.zeroCells z.cells m).toList = (List.range (m * i.size)).map (fun j => z.cells[j % i.size]!) := fun m => by simp [Builtin.zeroCells, hzs]
    have hbel : Below w.heap.size w (w.drew.alloc (.cells (Builtin.zeroCells z.cells n ++ Builtin.zeroCells z.cells (grownCap w n 0 el - n)) el)) := ⟨rfl, rfl, rfl, by simp, fun b hb => heap_alloc_old w.drew _ hb⟩
    refine ⟨_, _, μ ++ [.slice (some ⟨w.heap.size, 0, none⟩) n (grownCap w n 0 el)], .value _, by simp [execOp, resolve, invoke, builtin, hx, hyv, hrun]; rfl, .inl rfl, hbel.mono hB, ?_, ?_, fun b hb1 _ => hbel.block b hb1, hbel.size, fun j u _ hu => append_old j u hu⟩
    · refine hH.extend1 hZ hbel ⟨(List.range (n * i.size)).map (fun j => z.cells[j % i.size]!), ?_, zeros_rel z.cells i.size n hzs hs0 _ (fun j _ => rfl)⟩ (by simp [blk]) rfl
      refine ⟨by simp, .inr ⟨w.heap.size, _, _, rfl, hB, heap_alloc_new w.drew _, hge, hcm, ?_, ?_⟩⟩
      · rw [← Array.length_toList, Array.toList_append, List.length_append, hzc, hzc]
        simp only [List.length_map, List.length_range]
        rw [← Nat.add_mul]; congr 1; omega
      · rw [Array.toList_append, hzc, hzc]
        exact List.take_left' (by simp)
    · simp only [Rel]
      rw [← hH.len]; simp
  | cut i el s n h cs k hx1 hi hh ht hn hs =>
    rename_i t x hi2
    have hx := hx1 ▸ hE x
    simp only [Rel] at hx
    have hhv := rel_int (hh ▸ hE hi2)
    obtain ⟨xs, hown, hr⟩ := hH.obj i _ _ hi hx
    have hlen := hr.length
    obtain ⟨v', hrun, hown', hbv⟩ : ∃ v', (Instr.sliceAt t (ρ x) none (some (.int k h)) none).run P w = .ok v' w ∧ w.ownsRow B el s v' h (xs.take (h * s)) ∧ blk v' = blk (ρ x) := by
      have hl1 := hown.1
      have hle : h * s ≤ n * s := Nat.mul_le_mul_right s hn
      rcases hown.2 with ⟨hv, rfl⟩ | ⟨g, cap, cur, hv, hB2, hg, hnc, hcm, hcs, htk⟩
      · have hh0 : h = 0 := by omega
        subst hh0
        rw [hv]
        refine ⟨.slice none 0 0, ?_, by simpa using World.ownsRow_nil w B el s, rfl⟩
        have := run_sliceAt (P := P) ht none 0 0 none (some (.int k 0)) none 0 0 0 (fun w => by
          have hb0 : (Instr.sliceBound (.int k 0) 0 .sliceAcap).run P w = .ok 0 w := by simpa using run_bound (P := P) k 0 0 .sliceAcap (Nat.le_refl _) w
          simp [Instr.sliceBounds, hb0]) w
        simpa using this
      · rw [hv]
        have := run_sliceAt (P := P) ht (some ⟨g, 0, none⟩) n cap none (some (.int k h)) none 0 h cap (fun w => by simp [Instr.sliceBounds, run_bound (P := P) k h cap _ (by omega)]) w
        refine ⟨.slice (some ⟨g, 0, none⟩) h cap, ?_, ⟨by rw [List.length_take]; omega, .inr ⟨g, cap, cur, rfl, hB2, hg, by omega, hcm, hcs, ?_⟩⟩, rfl⟩
        · simpa [Addr.add_zero'] using this
        · rw [← htk, List.take_take]
          congr 1
          omega
    have hoth : ∀ b, b < w.heap.size → blk (ρ x) ≠ some b → w.heap[b]? = w.heap[b]? := fun _ _ _ => rfl
    have hm' : ∀ (j : Nat) (u : Value), j ≠ i → μ[j]? = some u → (μ.set i v')[j]? = some u := fun j u hne hu => by rw [List.getElem?_set_ne (Ne.symm hne)]; exact hu
    refine ⟨v', w, μ.set i v', .value v', ?_, .inl rfl, Below.refl _ _, ?_, ?_, fun _ _ _ => rfl, Nat.le_refl _, fun j u hne hu => hm' j u (fun e => hne (by rw [e])) hu⟩
    · simp [execOp, hhv, hrun]
    · refine hH.update hZ hi hx rfl hoth ⟨_, hown', (hr.take _)⟩ (fun g hg => .inl (by rw [← hbv]; exact hg)) (ownsRow_one hown')
    · simp only [Rel]
      have := (List.getElem?_eq_some_iff.1 hi).1
      rw [List.getElem?_set_self (by rw [hH.len]; exact this)]

/-- What holds no cells is not touched. -/
theorem EffW.inert {P : Program} {e : Operand → AV} {hp hp' : List AObj} {op : Op} {v : AV} {kl : Option Nat} (h : EffW P e hp op v kl hp') {j : Nat} {x : Inert} (hj : hp[j]? = some (.inert x)) : hp'[j]? = some (.inert x) ∧ kl ≠ some j := by
  have hjl := (List.getElem?_eq_some_iff.1 hj).1
  have hset : ∀ (i : Nat) (ob : AObj) (cs : List AV), hp[i]? = some ob → (hp.set i (ob.withCells cs))[j]? = some (.inert x) := by
    intro i ob cs hi
    by_cases e : i = j
    · subst e
      rw [hi] at hj
      cases hj
      rw [List.getElem?_set_self hjl]
      rfl
    · rw [List.getElem?_set_ne e]; exact hj
  have hkill : ∀ (i el s n m : Nat) (cs ds : List AV), hp[i]? = some (.list el s n cs) → ((hp.map (AObj.kill i)).set i (.list el s m ds))[j]? = some (.inert x) ∧ some i ≠ some j := by
    intro i el s n m cs ds hi
    have hne : i ≠ j := by
      rintro rfl
      rw [hi] at hj
      cases hj
    refine ⟨?_, by simpa using hne⟩
    rw [List.getElem?_set_ne hne, List.getElem?_map, hj]
    rfl
  cases h with
  | store1 i o ob _ hi => exact ⟨hset i ob _ hi, by simp⟩
  | storeN i o ob cs _ _ hi => exact ⟨hset i ob _ hi, by simp⟩
  | append i el s by_ n m zs cs ds _ hi => exact hkill i el s n _ cs _ hi
  | appendN => exact ⟨by rw [List.getElem?_append_left hjl]; exact hj, by simp⟩
  | appendZ => exact ⟨by rw [List.getElem?_append_left hjl]; exact hj, by simp⟩
  | appendC => exact ⟨by rw [List.getElem?_append_left hjl]; exact hj, by simp⟩
  | cut i el s n h cs k _ hi => exact hkill i el s n _ cs _ hi

end Go.Abs
