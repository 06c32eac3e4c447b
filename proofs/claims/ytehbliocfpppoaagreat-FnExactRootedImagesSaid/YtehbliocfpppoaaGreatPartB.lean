/- Texts of the proof: SymE, SymF, SymG. -/
import Derived.Maps.AppendAt
import Derived.Lib.AppendZeros
import Derived.Test.YtehbliocfpppoaaGreatPartA

/-! Calls by value: what a call is handed, what it hands back, and how its results are taken in. -/
namespace Go.Abs
open Go.RowKit
mutual
def RF (w : World) (Z : Nat → Prop) (B : Nat) : AV → Value → List Nat → Prop
 | .own e s n cs, v, bs => ∃ xs, w.ownsRow B e s v n xs ∧ RelL w Z [] cs xs ∧ bs = (blk v).toList
 | .agg cs, v, bs => ∃ xs, v = .agg xs.toArray ∧ RFL w Z B cs xs bs
 | .tup cs, v, bs => ∃ xs, v = .tuple xs.toArray ∧ RFL w Z B cs xs bs
 | .int k n, v, bs => v = .int k n ∧ bs = []
 | .bool b, v, bs => v = .bool b ∧ bs = []
 | .str s, v, bs => v = .string s ∧ bs = []
 | .nil, v, bs => v = .slice none 0 0 ∧ bs = []
 | .lst s n cs, v, bs => Rel w Z [] (.lst s n cs) v ∧ bs = []
 | .clp s n cs, v, bs => Rel w Z [] (.clp s n cs) v ∧ bs = []
 | .nam u o s n cs, v, bs => Rel w Z [] (.nam u o s n cs) v ∧ bs = []
 | .rptr cs, v, bs => Rel w Z [] (.rptr cs) v ∧ bs = []
 | .top, _, bs => bs = []
 | .ref _, _, _ => False
 | .ptr _ _, _, _ => False
 | .fn f cs, v, bs => Rel w Z [] (.fn f cs) v ∧ bs = []
def RFL (w : World) (Z : Nat → Prop) (B : Nat) : List AV → List Value → List Nat → Prop
 | [], vs, bs => vs = [] ∧ bs = []
 | c :: cs, vs, bs => ∃ x xs b1 b2, vs = x :: xs ∧ RF w Z B c x b1 ∧ RFL w Z B cs xs b2 ∧ bs = b1 ++ b2
end
def Enters (P : Program) (f : FuncId) : Prop := ∀ (args : Array Value) (w : World), (callFunc f args).run P w = .ok (.enter f args) w
theorem enters_of {P : Program} {f : FuncId} {fn : Func} (h : P.funcs[f]? = some fn) (hn : (fn.name == "runtime.NumGoroutine") = false) (hb : fn.body.isNone = false) : Enters P f := by
 intro args w
 simp only [callFunc, Sem.run_bind, program, Sem.run, Result.andThen_ok, h, hn, hb, Bool.false_eq_true, if_false, Sem.run_pure]
def CallA (P : Program) (f : FuncId) (args : List AV) (res : AV) : Prop :=
 Enters P f ∧ ∀ (Z0 : Nat → Prop) (w : World) (vs : List Value), RelL w (Zone Z0 NoF w.heap.size) [] args vs →
  Calls P f vs.toArray w fun e w' => ∃ v bs F', e = .returned v ∧ (∀ b, F' b → w.heap.size ≤ b ∧ b < w'.heap.size) ∧ RF w' (Zone Z0 F' w.heap.size) w.heap.size res v bs ∧ bs.Nodup ∧ (∀ b ∈ bs, ¬ F' b) ∧ Below w.heap.size w w'
mutual
def imp (k : Nat) : AV → AV × List AObj
 | .own e s n cs => (.ref k, [.list e s n cs])
 | .agg cs => (.agg (impL k cs).1, (impL k cs).2)
 | .tup cs => (.tup (impL k cs).1, (impL k cs).2)
 | .int kd n => (.int kd n, [])
 | .bool b => (.bool b, [])
 | .str s => (.str s, [])
 | .nil => (.nil, [])
 | .lst s n cs => (.lst s n cs, [])
 | .clp s n cs => (.clp s n cs, [])
 | .nam u o s n cs => (.nam u o s n cs, [])
 | .rptr cs => (.rptr cs, [])
 | .top => (.top, [])
 | .ref _ => (.top, [])
 | .ptr _ _ => (.top, [])
 | .fn f cs => (.fn f cs, [])
def impL (k : Nat) : List AV → List AV × List AObj
 | [] => ([], [])
 | c :: cs => ((imp k c).1 :: (impL (k + (imp k c).2.length) cs).1, (imp k c).2 ++ (impL (k + (imp k c).2.length) cs).2)
end
theorem ownsRow_one {w : World} {B e s n : Nat} {v : Value} {xs : List Value} (h : w.ownsRow B e s v n xs) : v.oneCell' = true := by
 rcases h.2 with ⟨rfl, _⟩ | ⟨g, cap, cur, rfl, _⟩ <;> rfl
theorem append_old {μ μs : List Value} (i : Nat) (u : Value) (h : μ[i]? = some u) : (μ ++ μs)[i]? = some u := by
 rw [List.getElem?_append_left (List.getElem?_eq_some_iff.1 h).1]; exact h
def Taken (w : World) (Z : Nat → Prop) (B : Nat) (μ μs : List Value) (os : List AObj) (bs : List Nat) : Prop :=
 μs.length = os.length ∧ (∀ (i : Nat) o u, os[i]? = some o → μs[i]? = some u → ObjRel w Z (μ ++ μs) B u o) ∧ μs.filterMap blk = bs ∧ ∀ u ∈ μs, u.oneCell' = true
theorem ObjRel.more {w : World} {Z : Nat → Prop} {B : Nat} {μ μs : List Value} {u : Value} {o : AObj} (h : ObjRel w Z μ B u o) : ObjRel w Z (μ ++ μs) B u o :=
 h.keep (fun _ _ _ => rfl) (fun i u hu => append_old i u hu) (fun _ _ => rfl)
mutual
theorem imp_sound {w : World} {Z : Nat → Prop} {B : Nat} : ∀ {c : AV} {v : Value} {bs : List Nat} (μ : List Value) (k : Nat), μ.length = k → RF w Z B c v bs →
  ∃ μs, Taken w Z B μ μs (imp k c).2 bs ∧ Rel w Z (μ ++ μs) (imp k c).1 v
 | .own e s n cs, v, bs, μ, k, hk, h => by
  simp only [RF] at h
  obtain ⟨xs, hown, hr, rfl⟩ := h
  refine ⟨[v], ⟨rfl, ?_, ?_, ?_⟩, ?_⟩
  ·intro i o u ho hu
   cases i with
   | zero =>
    simp only [imp, List.getElem?_cons_zero, Option.some.injEq] at ho hu
    subst ho; subst hu
    exact ⟨xs, hown, hr⟩
   | succ i => simp at hu
  ·cases hb : blk v <;> simp [hb]
  ·intro u hu
   rw [List.mem_singleton] at hu
   subst hu
   exact ownsRow_one hown
  ·simp only [imp, Rel]
   rw [List.getElem?_append_right (by omega)]
   simp [hk]
 | .agg cs, v, bs, μ, k, hk, h => by
  simp only [RF] at h
  obtain ⟨xs, rfl, hr⟩ := h
  obtain ⟨μs, h1, h5⟩ := impL_sound μ k hk hr
  exact ⟨μs, by simpa [imp] using h1, by simp only [imp, Rel]; exact ⟨xs, rfl, h5⟩⟩
 | .tup cs, v, bs, μ, k, hk, h => by
  simp only [RF] at h
  obtain ⟨xs, rfl, hr⟩ := h
  obtain ⟨μs, h1, h5⟩ := impL_sound μ k hk hr
  exact ⟨μs, by simpa [imp] using h1, by simp only [imp, Rel]; exact ⟨xs, rfl, h5⟩⟩
 | .int kd n, v, bs, μ, k, _, h => by
  simp only [RF] at h; obtain ⟨rfl, rfl⟩ := h
  exact ⟨[], ⟨rfl, fun i o u ho => by simp [imp] at ho, rfl, fun u hu => by simp at hu⟩, by simp [imp, Rel]⟩
 | .bool b, v, bs, μ, k, _, h => by
  simp only [RF] at h; obtain ⟨rfl, rfl⟩ := h
  exact ⟨[], ⟨rfl, fun i o u ho => by simp [imp] at ho, rfl, fun u hu => by simp at hu⟩, by simp [imp, Rel]⟩
 | .str s, v, bs, μ, k, _, h => by
  simp only [RF] at h; obtain ⟨rfl, rfl⟩ := h
  exact ⟨[], ⟨rfl, fun i o u ho => by simp [imp] at ho, rfl, fun u hu => by simp at hu⟩, by simp [imp, Rel]⟩
 | .nil, v, bs, μ, k, _, h => by
  simp only [RF] at h; obtain ⟨rfl, rfl⟩ := h
  exact ⟨[], ⟨rfl, fun i o u ho => by simp [imp] at ho, rfl, fun u hu => by simp at hu⟩, by simp [imp, Rel]⟩
 | .lst s n cs, v, bs, μ, k, _, h => by
  simp only [RF] at h; obtain ⟨h1, rfl⟩ := h
  exact ⟨[], ⟨rfl, fun i o u ho => by simp [imp] at ho, rfl, fun u hu => by simp at hu⟩, by simp only [imp]; exact h1.lift⟩
 | .clp s n cs, v, bs, μ, k, _, h => by
  simp only [RF] at h; obtain ⟨h1, rfl⟩ := h
  exact ⟨[], ⟨rfl, fun i o u ho => by simp [imp] at ho, rfl, fun u hu => by simp at hu⟩, by simp only [imp]; exact h1.lift⟩
 | .nam u' o' s n cs, v, bs, μ, k, _, h => by
  simp only [RF] at h; obtain ⟨h1, rfl⟩ := h
  exact ⟨[], ⟨rfl, fun i o u ho => by simp [imp] at ho, rfl, fun u hu => by simp at hu⟩, by simp only [imp]; exact h1.lift⟩
 | .rptr cs, v, bs, μ, k, _, h => by
  simp only [RF] at h; obtain ⟨h1, rfl⟩ := h
  exact ⟨[], ⟨rfl, fun i o u ho => by simp [imp] at ho, rfl, fun u hu => by simp at hu⟩, by simp only [imp]; exact h1.lift⟩
 | .top, v, bs, μ, k, _, h => by
  simp only [RF] at h; subst h
  exact ⟨[], ⟨rfl, fun i o u ho => by simp [imp] at ho, rfl, fun u hu => by simp at hu⟩, by simp [imp, Rel]⟩
 | .ref _, v, bs, μ, k, _, h => by simp [RF] at h
 | .ptr _ _, v, bs, μ, k, _, h => by simp [RF] at h
 | .fn f cs, v, bs, μ, k, _, h => by
  simp only [RF] at h; obtain ⟨h1, rfl⟩ := h
  exact ⟨[], ⟨rfl, fun i o u ho => by simp [imp] at ho, rfl, fun u hu => by simp at hu⟩, by simp only [imp]; exact h1.lift⟩
theorem impL_sound {w : World} {Z : Nat → Prop} {B : Nat} : ∀ {cs : List AV} {vs : List Value} {bs : List Nat} (μ : List Value) (k : Nat), μ.length = k → RFL w Z B cs vs bs →
  ∃ μs, Taken w Z B μ μs (impL k cs).2 bs ∧ RelL w Z (μ ++ μs) (impL k cs).1 vs
 | [], vs, bs, μ, k, _, h => by
  simp only [RFL] at h; obtain ⟨rfl, rfl⟩ := h
  exact ⟨[], ⟨rfl, fun i o u ho => by simp [impL] at ho, rfl, fun u hu => by simp at hu⟩, by simp [impL, RelL]⟩
 | c :: cs, vs, bs, μ, k, hk, h => by
  simp only [RFL] at h
  obtain ⟨x, xs, b1, b2, rfl, hr1, hr2, rfl⟩ := h
  obtain ⟨μ1, ⟨h1, h2, h3, h4⟩, h5⟩ := imp_sound μ k hk hr1
  obtain ⟨μ2, ⟨g1, g2, g3, g4⟩, g5⟩ := impL_sound (μ ++ μ1) (k + (imp k c).2.length) (by simp [hk, h1]) hr2
  refine ⟨μ1 ++ μ2, ⟨by simp [impL, h1, g1], ?_, by simp [h3, g3], ?_⟩, ?_⟩
  ·intro i o u ho hu
   rw [← List.append_assoc]
   rcases Nat.lt_or_ge i μ1.length with hi | hi
   ·rw [List.getElem?_append_left hi] at hu
    simp only [impL] at ho
    rw [List.getElem?_append_left (by omega)] at ho
    exact (h2 i o u ho hu).more
   ·rw [List.getElem?_append_right hi] at hu
    simp only [impL] at ho
    rw [List.getElem?_append_right (by omega)] at ho
    exact g2 (i - μ1.length) o u (by rw [h1]; exact ho) hu
  ·intro u hu
   rcases List.mem_append.1 hu with hu | hu
   ·exact h4 u hu
   ·exact g4 u hu
  ·rw [← List.append_assoc]
   simp only [impL]
   exact RelL.cons (h5.keep (fun _ _ _ => rfl) (fun i u hu => append_old i u hu)) g5
end
theorem nodup_get {μs : List Value} : ∀ {i j : Nat} {ui uj : Value} {g : Nat}, (μs.filterMap blk).Nodup → i < j → μs[i]? = some ui → μs[j]? = some uj → blk ui = some g → blk uj = some g → False := by
 induction μs with
 | nil => intro i j ui uj g _ _ h; simp at h
 | cons u μs ih =>
  intro i j ui uj g hn hij hi hj bi bj
  cases j with
  | zero => omega
  | succ j =>
   have hn' : (μs.filterMap blk).Nodup := by
    cases hb : blk u with
    | none => rw [List.filterMap_cons_none hb] at hn; exact hn
    | some b => rw [List.filterMap_cons_some hb] at hn; exact (List.nodup_cons.1 hn).2
   cases i with
   | zero =>
    simp only [List.getElem?_cons_zero, Option.some.injEq] at hi
    subst hi
    rw [List.filterMap_cons_some bi] at hn
    simp only [List.getElem?_cons_succ] at hj
    exact (List.nodup_cons.1 hn).1 (List.mem_filterMap.2 ⟨uj, List.mem_of_getElem? hj, bj⟩)
   | succ i => exact ih (i := i) (j := j) hn' (by omega) (by simpa using hi) (by simpa using hj) bi bj
theorem HRel.extend {w w' : World} {Z : Nat → Prop} {B : Nat} {μ μs : List Value} {hp os : List AObj} {bs : List Nat} (h : HRel w Z B μ hp) (hb : Below w.heap.size w w')
  (ht : Taken w' Z B μ μs os bs) (hge : ∀ g ∈ bs, w.heap.size ≤ g) (hzn : ∀ g ∈ bs, Z g) (hnd : bs.Nodup) : HRel w' Z B (μ ++ μs) (hp ++ os) := by
 obtain ⟨t1, t2, t3, t4⟩ := ht
 have hbk : ∀ (i : Nat) oi ui g, hp[i]? = some oi → oi.alive = true → μ[i]? = some ui → blk ui = some g → g < w.heap.size := fun i oi ui g h1 h2 h3 h4 => ((h.obj i oi ui h1 h3).blk_ge h2 h4).2
 have hnew : ∀ (i : Nat) ui g, μs[i]? = some ui → blk ui = some g → w.heap.size ≤ g := fun i ui g h1 h2 => hge g (by rw [← t3]; exact List.mem_filterMap.2 ⟨ui, List.mem_of_getElem? h1, h2⟩)
 have split : ∀ (i : Nat) oi ui, (hp ++ os)[i]? = some oi → (μ ++ μs)[i]? = some ui → (hp[i]? = some oi ∧ μ[i]? = some ui) ∨ (hp.length ≤ i ∧ os[i - hp.length]? = some oi ∧ μs[i - hp.length]? = some ui) := by
  intro i oi ui h1 h2
  rcases Nat.lt_or_ge i hp.length with hi | hi
  ·rw [List.getElem?_append_left hi] at h1
   rw [List.getElem?_append_left (by rw [h.len]; exact hi)] at h2
   exact .inl ⟨h1, h2⟩
  ·rw [List.getElem?_append_right hi] at h1
   rw [List.getElem?_append_right (by rw [h.len]; exact hi), h.len] at h2
   exact .inr ⟨hi, h1, h2⟩
 refine ⟨by simp [h.len, t1], fun i oi ui g h1 ha h2 hg => ?_, fun i x hx => ?_, fun i oi ui h1 h2 => ?_, fun i j oi oj ui uj g hne h1 h2 a1 a2 m1 m2 b1 b2 => ?_⟩
 ·rcases split i oi ui h1 h2 with ⟨e1, e2⟩ | ⟨_, e1, e2⟩
  ·exact h.zone i oi ui g e1 ha e2 hg
  ·exact hzn g (by rw [← t3]; exact List.mem_filterMap.2 ⟨ui, List.mem_of_getElem? e2, hg⟩)
 ·rcases Nat.lt_or_ge i μ.length with hi | hi
  ·rw [List.getElem?_append_left hi] at hx
   exact h.one i x hx
  ·rw [List.getElem?_append_right hi] at hx
   exact t4 x (List.mem_of_getElem? hx)
 ·rcases split i oi ui h1 h2 with ⟨e1, e2⟩ | ⟨_, e1, e2⟩
  ·cases ho : oi.alive with
   | true => exact (h.obj i oi ui e1 e2).keep (fun b hb1 _ => hb.block b hb1) (fun i u hu => append_old i u hu) (fun g hg => hb.block g (hbk i oi ui g e1 ho e2 hg))
   | false => exact (h.obj i oi ui e1 e2).keep_dead (fun b hb1 _ => hb.block b hb1) (fun i u hu => append_old i u hu) ho
  ·exact t2 _ oi ui e1 e2
 ·rcases split i oi ui h1 m1 with ⟨e1, e2⟩ | ⟨hi, e1, e2⟩ <;> rcases split j oj uj h2 m2 with ⟨e3, e4⟩ | ⟨hj, e3, e4⟩
  ·exact h.sep i j oi oj ui uj g hne e1 e3 a1 a2 e2 e4 b1 b2
  ·have := hbk i oi ui g e1 a1 e2 b1
   have := hnew _ uj g e4 b2
   omega
  ·have := hbk j oj uj g e3 a2 e4 b2
   have := hnew _ ui g e2 b1
   omega
  ·rw [← t3] at hnd
   rcases Nat.lt_or_gt_of_ne hne with hlt | hlt
   ·exact nodup_get hnd (by omega : i - hp.length < j - hp.length) e2 e4 b1 b2
   ·exact nodup_get hnd (by omega : j - hp.length < i - hp.length) e4 e2 b2 b1

theorem Rd.weak {w : World} {Z Z' : Nat → Prop} {A : Option Addr} {xs : List Value} (hz : ∀ b, b < w.heap.size → ¬ Z b → ¬ Z' b) (h : Rd w Z A xs) : Rd w Z' A xs := by
 intro hne
 obtain ⟨ad, rfl, h1, h2⟩ := h hne
 refine ⟨ad, rfl, hz _ ?_ h1, h2⟩
 cases xs with
 | nil => exact absurd rfl hne
 | cons x xs =>
  have := World.block_lt_of_cell? w _ (h2 0 x rfl)
  rwa [Addr.add_zero'] at this
theorem NamO.weak {w : World} {Z Z' : Nat → Prop} {o : Option Nat} {s n : Nat} {u : Value} (hz : ∀ b, b < w.heap.size → ¬ Z b → ¬ Z' b) (h : NamO w Z o s n u) : NamO w Z' o s n u := by
 intro e he
 obtain ⟨xs, h1, h2⟩ := h e he
 exact ⟨xs, h1, fun g hg => hz g (ownsRow_lt' h1 hg) (h2 g hg)⟩
mutual
theorem Rel.weak {w : World} {Z Z' : Nat → Prop} (hz : ∀ b, b < w.heap.size → ¬ Z b → ¬ Z' b) : ∀ {μ : List Value} {c : AV} {v : Value}, Rel w Z μ c v → Rel w Z' μ c v
 | _, .int _ _, _, h => by simpa [Rel] using h
 | _, .bool _, _, h => by simpa [Rel] using h
 | _, .str _, _, h => by simpa [Rel] using h
 | _, .nil, _, h => by simpa [Rel] using h
 | _, .ref _, _, h => by simpa [Rel] using h
 | _, .ptr _ _, _, h => by simpa [Rel] using h
 | _, .top, _, _ => by simp [Rel]
 | _, .own _ _ _ _, _, h => by simp [Rel] at h
 | _, .lst s n cs, _, h => by
  simp only [Rel] at h ⊢
  obtain ⟨A, c, xs, h1, h2, h3, h4, h5⟩ := h
  exact ⟨A, c, xs, h1, h2, h3, h4.weak hz, RelL.weak hz h5⟩
 | _, .clp s n cs, _, h => by
  simp only [Rel] at h ⊢
  obtain ⟨A, c, xs, h1, h2, h3, h4, h5⟩ := h
  exact ⟨A, c, xs, h1, h2, h3, h4.weak hz, RelL.weak hz h5⟩
 | _, .nam u o s n cs, _, h => by
  simp only [Rel] at h ⊢
  obtain ⟨⟨h0, h00⟩, A, c, xs, h1, h2, h3, h4, h5⟩ := h
  exact ⟨⟨h0, h00.weak hz⟩, A, c, xs, h1, h2, h3, h4.weak hz, RelL.weak hz h5⟩
 | _, .rptr cs, _, h => by
  simp only [Rel] at h ⊢
  obtain ⟨ad, xs, h1, h4, h5⟩ := h
  exact ⟨ad, xs, h1, h4.weak hz, RelL.weak hz h5⟩
 | _, .agg cs, _, h => by
  simp only [Rel] at h ⊢
  obtain ⟨xs, h1, h5⟩ := h
  exact ⟨xs, h1, RelL.weak hz h5⟩
 | _, .tup cs, _, h => by
  simp only [Rel] at h ⊢
  obtain ⟨xs, h1, h5⟩ := h
  exact ⟨xs, h1, RelL.weak hz h5⟩
 | _, .fn f cs, _, h => by
  simp only [Rel] at h ⊢
  obtain ⟨xs, h1, h5⟩ := h
  exact ⟨xs, h1, RelL.weak hz h5⟩
theorem RelL.weak {w : World} {Z Z' : Nat → Prop} (hz : ∀ b, b < w.heap.size → ¬ Z b → ¬ Z' b) : ∀ {μ : List Value} {cs : List AV} {vs : List Value}, RelL w Z μ cs vs → RelL w Z' μ cs vs
 | _, [], _, h => by simpa [RelL] using h
 | _, c :: cs, _, h => by
  simp only [RelL] at h ⊢
  obtain ⟨x, xs, h1, h2, h3⟩ := h
  exact ⟨x, xs, h1, Rel.weak hz h2, RelL.weak hz h3⟩
end
mutual
inductive Snap (hp : List AObj) : AV → AV → Prop
 | leaf {c} (h : c.leafy = true) : Snap hp c c
 | ref {i e s n cs} (hi : hp[i]? = some (.list e s n cs)) : Snap hp (.ref i) (.lst s n cs)
 | ptr {i o ob cs'} (hi : hp[i]? = some ob) (h : SnapL hp (ob.cells.drop o) cs') : Snap hp (.ptr i o) (.rptr cs')
 | agg {cs cs'} (h : SnapL hp cs cs') : Snap hp (.agg cs) (.agg cs')
 | fn {f cs cs'} (h : SnapL hp cs cs') : Snap hp (.fn f cs) (.fn f cs')
 | top {c} : Snap hp c .top
 | wk {c c' c''} (h : Snap hp c c') (h2 : ∀ (w : World) (Z : Nat → Prop) v, Rel w Z [] c' v → Rel w Z [] c'' v) : Snap hp c c''
inductive SnapL (hp : List AObj) : List AV → List AV → Prop
 | nil : SnapL hp [] []
 | cons {c c' cs cs'} (h : Snap hp c c') (h' : SnapL hp cs cs') : SnapL hp (c :: cs) (c' :: cs')
end
mutual
theorem Snap.sound {w : World} {Z : Nat → Prop} {B : Nat} {μ : List Value} {hp : List AObj} (hH : HRel w Z B μ hp) : ∀ {c c' : AV} {v : Value}, Snap hp c c' → Rel w Z μ c v → Rel w (fun b => w.heap.size ≤ b) [] c' v
 | _, _, v, .leaf h, hr => Rel.weak (fun b hb _ hz => absurd hb (by omega)) (Rel.leafy h hr)
 | _, _, v, .ref (i := i) (e := e) (s := s) (n := n) (cs := cs) hi, hr => by
  simp only [Rel] at hr
  obtain ⟨xs, hown, hx⟩ := hH.obj i _ v hi hr
  have hx' := RelL.weak (Z' := fun b => w.heap.size ≤ b) (fun b hb _ hz => absurd hb (by omega)) hx
  have hlen := hx'.length
  have hlen2 := hown.1
  simp only [Rel]
  have hown2 := hown
  rcases hown.2 with ⟨rfl, h0⟩ | ⟨g, cap, cur, rfl, hB, hg, hnc, hcm, hcs, ht⟩
  ·refine ⟨none, 0, xs, by rw [h0], by omega, by omega, ?_, hx'⟩
   intro hne
   subst h0
   simp at hlen2
   exact absurd hlen2 hne
  ·refine ⟨some ⟨g, 0, none⟩, cap, xs, rfl, by omega, hnc, ?_, hx'⟩
   intro _
   refine ⟨_, rfl, ?_, fun j u hu => ?_⟩
   ·have := (Array.getElem?_eq_some_iff.1 hg).1
    simp only; omega
   ·rw [add_lit', Nat.zero_add, hown2.cellAt j (by have := (List.getElem?_eq_some_iff.1 hu).1; omega)]
    exact hu
 | _, _, v, .ptr (i := i) (o := o) (ob := ob) (cs' := cs') hi h, hr => by
  simp only [Rel] at hr
  obtain ⟨u, g, hu, hg, rfl⟩ := hr
  obtain ⟨xs, hx, hc⟩ := obj_cells (hH.obj i ob u hi hu)
  have hx' := SnapL.sound hH h (hx.drop o)
  simp only [Rel]
  refine ⟨⟨g, o, none⟩, xs.drop o, rfl, ?_, hx'⟩
  intro hne
  refine ⟨_, rfl, ?_, fun j u' hu' => ?_⟩
  ·cases hxs : xs.drop o with
   | nil => exact absurd hxs hne
   | cons y ys =>
    have h1 : xs[o]? = some y := by
     have h2 : (xs.drop o)[0]? = some y := by rw [hxs]; rfl
     rwa [List.getElem?_drop, Nat.add_zero] at h2
    have := World.block_lt_of_cell? w _ (hc g hg o y h1)
    simp only at this ⊢
    omega
  ·rw [add_lit']
   rw [List.getElem?_drop] at hu'
   exact hc g hg _ u' hu'
 | _, _, v, .agg h, hr => by
  simp only [Rel] at hr ⊢
  obtain ⟨xs, h1, h2⟩ := hr
  exact ⟨xs, h1, SnapL.sound hH h h2⟩
 | _, _, v, .top, hr => by simp [Rel]
 | _, _, v, .wk h h2, hr => h2 _ _ _ (Snap.sound hH h hr)
 | _, _, v, .fn h, hr => by
  simp only [Rel] at hr ⊢
  obtain ⟨xs, h1, h2⟩ := hr
  exact ⟨xs, h1, SnapL.sound hH h h2⟩
theorem SnapL.sound {w : World} {Z : Nat → Prop} {B : Nat} {μ : List Value} {hp : List AObj} (hH : HRel w Z B μ hp) : ∀ {cs cs' : List AV} {vs : List Value}, SnapL hp cs cs' → RelL w Z μ cs vs → RelL w (fun b => w.heap.size ≤ b) [] cs' vs
 | _, _, _, .nil, hr => by simpa [RelL] using hr
 | _, _, _, .cons h h', hr => by
  simp only [RelL] at hr ⊢
  obtain ⟨x, xs, h1, h2, h3⟩ := hr
  exact ⟨x, xs, h1, Snap.sound hH h h2, SnapL.sound hH h' h3⟩
end

mutual
def AV.closed : AV → Bool
 | .int _ _ | .bool _ | .str _ | .nil | .top => true
 | .own _ _ _ cs | .agg cs | .tup cs => closedL cs
 | _ => false
def closedL : List AV → Bool
 | [] => true
 | c :: cs => c.closed && closedL cs
end
mutual
theorem Rel.shut {w : World} {Z Z' : Nat → Prop} {μ : List Value} : ∀ {c : AV} {v : Value}, c.closed = true → Rel w Z μ c v → Rel w Z' μ c v
 | .own _ _ _ _, _, _, h => by simp [Rel] at h
 | .agg cs, _, hc, h => by
  simp only [Rel] at h ⊢
  obtain ⟨xs, h1, h2⟩ := h
  exact ⟨xs, h1, RelL.shut (by simpa [AV.closed] using hc) h2⟩
 | .tup cs, _, hc, h => by
  simp only [Rel] at h ⊢
  obtain ⟨xs, h1, h2⟩ := h
  exact ⟨xs, h1, RelL.shut (by simpa [AV.closed] using hc) h2⟩
 | .int _ _, _, _, h => by simpa [Rel] using h
 | .bool _, _, _, h => by simpa [Rel] using h
 | .str _, _, _, h => by simpa [Rel] using h
 | .nil, _, _, h => by simpa [Rel] using h
 | .top, _, _, _ => by simp [Rel]
 | .lst _ _ _, _, hc, _ => by simp [AV.closed] at hc
 | .clp _ _ _, _, hc, _ => by simp [AV.closed] at hc
 | .nam _ _ _ _ _, _, hc, _ => by simp [AV.closed] at hc
 | .rptr _, _, hc, _ => by simp [AV.closed] at hc
 | .ref _, _, hc, _ => by simp [AV.closed] at hc
 | .ptr _ _, _, hc, _ => by simp [AV.closed] at hc
 | .fn _ _, _, hc, _ => by simp [AV.closed] at hc
theorem RelL.shut {w : World} {Z Z' : Nat → Prop} {μ : List Value} : ∀ {cs : List AV} {vs : List Value}, closedL cs = true → RelL w Z μ cs vs → RelL w Z' μ cs vs
 | [], _, _, h => by simpa [RelL] using h
 | c :: cs, _, hc, h => by
  simp only [closedL, Bool.and_eq_true] at hc
  simp only [RelL] at h ⊢
  obtain ⟨x, xs, h1, h2, h3⟩ := h
  exact ⟨x, xs, h1, Rel.shut hc.1 h2, RelL.shut hc.2 h3⟩
end
mutual
theorem RF.weak {w : World} {Z Z' : Nat → Prop} {B : Nat} : ∀ {c : AV} {v : Value} {bs : List Nat}, c.closed = true → RF w Z B c v bs → RF w Z' B c v bs
 | .own e s n cs, v, bs, hc, h => by
  simp only [RF] at h ⊢
  obtain ⟨xs, h1, h2, h3⟩ := h
  exact ⟨xs, h1, RelL.shut (by simpa [AV.closed] using hc) h2, h3⟩
 | .agg cs, v, bs, hc, h => by
  simp only [RF] at h ⊢
  obtain ⟨xs, h1, h2⟩ := h
  exact ⟨xs, h1, RFL.weak (by simpa [AV.closed] using hc) h2⟩
 | .tup cs, v, bs, hc, h => by
  simp only [RF] at h ⊢
  obtain ⟨xs, h1, h2⟩ := h
  exact ⟨xs, h1, RFL.weak (by simpa [AV.closed] using hc) h2⟩
 | .int _ _, _, _, _, h => by simpa [RF] using h
 | .bool _, _, _, _, h => by simpa [RF] using h
 | .str _, _, _, _, h => by simpa [RF] using h
 | .nil, _, _, _, h => by simpa [RF] using h
 | .top, _, _, _, h => by simpa [RF] using h
 | .lst _ _ _, _, _, hc, _ => by simp [AV.closed] at hc
 | .clp _ _ _, _, _, hc, _ => by simp [AV.closed] at hc
 | .nam _ _ _ _ _, _, _, hc, _ => by simp [AV.closed] at hc
 | .rptr _, _, _, hc, _ => by simp [AV.closed] at hc
 | .ref _, _, _, hc, _ => by simp [AV.closed] at hc
 | .ptr _ _, _, _, hc, _ => by simp [AV.closed] at hc
 | .fn _ _, _, _, hc, _ => by simp [AV.closed] at hc
theorem RFL.weak {w : World} {Z Z' : Nat → Prop} {B : Nat} : ∀ {cs : List AV} {vs : List Value} {bs : List Nat}, closedL cs = true → RFL w Z B cs vs bs → RFL w Z' B cs vs bs
 | [], _, _, _, h => by simpa [RFL] using h
 | c :: cs, _, _, hc, h => by
  simp only [closedL, Bool.and_eq_true] at hc
  simp only [RFL] at h ⊢
  obtain ⟨x, xs, b1, b2, h1, h2, h3, h4⟩ := h
  exact ⟨x, xs, b1, b2, h1, RF.weak hc.1 h2, RFL.weak hc.2 h3, h4⟩
end

mutual
theorem RF.older {w : World} {Z Z' : Nat → Prop} {B B' : Nat} (hB : B' ≤ B) (hz : ∀ b, b < w.heap.size → ¬ Z b → ¬ Z' b) : ∀ {c : AV} {v : Value} {bs : List Nat}, RF w Z B c v bs → RF w Z' B' c v bs
 | .own e s n cs, v, bs, h => by
  simp only [RF] at h ⊢
  obtain ⟨xs, ⟨h1, h1'⟩, h2, h3⟩ := h
  refine ⟨xs, ⟨h1, ?_⟩, RelL.weak hz h2, h3⟩
  rcases h1' with h1' | ⟨g, cap, cur, e1, e2, e3⟩
  ·exact .inl h1'
  ·exact .inr ⟨g, cap, cur, e1, by omega, e3⟩
 | .agg cs, v, bs, h => by
  simp only [RF] at h ⊢
  obtain ⟨xs, h1, h2⟩ := h
  exact ⟨xs, h1, RFL.older hB hz h2⟩
 | .tup cs, v, bs, h => by
  simp only [RF] at h ⊢
  obtain ⟨xs, h1, h2⟩ := h
  exact ⟨xs, h1, RFL.older hB hz h2⟩
 | .int _ _, _, _, h => by simpa [RF] using h
 | .bool _, _, _, h => by simpa [RF] using h
 | .str _, _, _, h => by simpa [RF] using h
 | .nil, _, _, h => by simpa [RF] using h
 | .top, _, _, h => by simpa [RF] using h
 | .lst _ _ _, _, _, h => by simp only [RF] at h ⊢; exact ⟨Rel.weak hz h.1, h.2⟩
 | .clp _ _ _, _, _, h => by simp only [RF] at h ⊢; exact ⟨Rel.weak hz h.1, h.2⟩
 | .nam _ _ _ _ _, _, _, h => by simp only [RF] at h ⊢; exact ⟨Rel.weak hz h.1, h.2⟩
 | .rptr _, _, _, h => by simp only [RF] at h ⊢; exact ⟨Rel.weak hz h.1, h.2⟩
 | .ref _, _, _, h => by simp [RF] at h
 | .ptr _ _, _, _, h => by simp [RF] at h
 | .fn f cs, _, _, h => by simp only [RF] at h ⊢; exact ⟨Rel.weak (c := .fn f cs) hz h.1, h.2⟩
theorem RFL.older {w : World} {Z Z' : Nat → Prop} {B B' : Nat} (hB : B' ≤ B) (hz : ∀ b, b < w.heap.size → ¬ Z b → ¬ Z' b) : ∀ {cs : List AV} {vs : List Value} {bs : List Nat}, RFL w Z B cs vs bs → RFL w Z' B' cs vs bs
 | [], _, _, h => by simpa [RFL] using h
 | c :: cs, _, _, h => by
  simp only [RFL] at h ⊢
  obtain ⟨x, xs, b1, b2, h1, h2, h3, h4⟩ := h
  exact ⟨x, xs, b1, b2, h1, RF.older hB hz h2, RFL.older hB hz h3, h4⟩
end
mutual
theorem RF.ge {w : World} {Z : Nat → Prop} {B : Nat} : ∀ {c : AV} {v : Value} {bs : List Nat}, RF w Z B c v bs → ∀ g ∈ bs, B ≤ g
 | .own e s n cs, v, bs, h => by
  simp only [RF] at h
  obtain ⟨xs, ⟨h1, h1'⟩, h2, rfl⟩ := h
  intro g hg
  rcases h1' with ⟨rfl, _⟩ | ⟨g', cap, cur, rfl, e2, _⟩
  ·simp [blk] at hg
  ·simp [blk] at hg; omega
 | .agg cs, v, bs, h => by simp only [RF] at h; obtain ⟨xs, h1, h2⟩ := h; exact RFL.ge h2
 | .tup cs, v, bs, h => by simp only [RF] at h; obtain ⟨xs, h1, h2⟩ := h; exact RFL.ge h2
 | .int _ _, _, _, h => by simp only [RF] at h; obtain ⟨_, rfl⟩ := h; simp
 | .bool _, _, _, h => by simp only [RF] at h; obtain ⟨_, rfl⟩ := h; simp
 | .str _, _, _, h => by simp only [RF] at h; obtain ⟨_, rfl⟩ := h; simp
 | .nil, _, _, h => by simp only [RF] at h; obtain ⟨_, rfl⟩ := h; simp
 | .top, _, _, h => by simp only [RF] at h; subst h; simp
 | .lst _ _ _, _, _, h => by simp only [RF] at h; obtain ⟨_, rfl⟩ := h; simp
 | .clp _ _ _, _, _, h => by simp only [RF] at h; obtain ⟨_, rfl⟩ := h; simp
 | .nam _ _ _ _ _, _, _, h => by simp only [RF] at h; obtain ⟨_, rfl⟩ := h; simp
 | .rptr _, _, _, h => by simp only [RF] at h; obtain ⟨_, rfl⟩ := h; simp
 | .ref _, _, _, h => by simp [RF] at h
 | .ptr _ _, _, _, h => by simp [RF] at h
 | .fn _ _, _, _, h => by simp only [RF] at h; obtain ⟨_, rfl⟩ := h; simp
theorem RFL.ge {w : World} {Z : Nat → Prop} {B : Nat} : ∀ {cs : List AV} {vs : List Value} {bs : List Nat}, RFL w Z B cs vs bs → ∀ g ∈ bs, B ≤ g
 | [], _, _, h => by simp only [RFL] at h; obtain ⟨_, rfl⟩ := h; simp
 | c :: cs, _, _, h => by
  simp only [RFL] at h
  obtain ⟨x, xs, b1, b2, _, h2, h3, rfl⟩ := h
  intro g hg
  rcases List.mem_append.1 hg with hg | hg
  ·exact RF.ge h2 g hg
  ·exact RFL.ge h3 g hg
end
theorem ownsRow_blk_lt {w : World} {B e s n : Nat} {v : Value} {xs : List Value} (h : w.ownsRow B e s v n xs) : ∀ g ∈ (blk v).toList, g < w.heap.size := by
 intro g hg
 rcases h.2 with ⟨rfl, _⟩ | ⟨g', cap, cur, rfl, _, hh, _⟩
 ·simp [blk] at hg
 ·simp [blk] at hg
  subst hg
  exact (Array.getElem?_eq_some_iff.1 hh).1
end Go.Abs

/-! The operations that write: store, append, a slice cut at its end; soundness. -/
namespace Go.Abs
open Go.RowKit
theorem HRel.update {w w' : World} {Z : Nat → Prop} {B : Nat} {μ : List Value} {hp : List AObj} {i : Nat} {u u' : Value} {ob ob' : AObj} (h : HRel w Z B μ hp) (hZ : ∀ b, w.heap.size ≤ b → Z b)
  (hi : hp[i]? = some ob) (hu : μ[i]? = some u) (ha : ob.alive = true) (hoth : ∀ b, b < w.heap.size → blk u ≠ some b → w'.heap[b]? = w.heap[b]?)
  (hnew : ObjRel w' Z (μ.set i u') B u' ob') (hblk : ∀ g, blk u' = some g → blk u = some g ∨ w.heap.size ≤ g) (hone : u'.oneCell' = true) :
  HRel w' Z B (μ.set i u') ((hp.map (AObj.kill i)).set i ob') := by
 have hilt := (List.getElem?_eq_some_iff.1 hi).1
 have hb : ∀ b, b < w.heap.size → ¬ Z b → w'.heap[b]? = w.heap[b]? := fun b hb1 hz => hoth b hb1 (fun e => hz (h.zone i ob u b hi ha hu e))
 have hm : ∀ (j : Nat) (x : Value), j ≠ i → μ[j]? = some x → (μ.set i u')[j]? = some x := fun j x hne hx => by rw [List.getElem?_set_ne (Ne.symm hne)]; exact hx
 have split : ∀ (j : Nat) oj uj, ((hp.map (AObj.kill i)).set i ob')[j]? = some oj → (μ.set i u')[j]? = some uj → (j = i ∧ oj = ob' ∧ uj = u') ∨ (j ≠ i ∧ ∃ o, hp[j]? = some o ∧ oj = o.kill i ∧ μ[j]? = some uj) := by
  intro j oj uj h1 h2
  by_cases hji : j = i
  ·subst hji
   rw [List.getElem?_set_self (by simpa using hilt)] at h1
   rw [List.getElem?_set_self (by rw [h.len]; exact hilt)] at h2
   simp at h1 h2
   exact .inl ⟨rfl, h1.symm, h2.symm⟩
  ·rw [List.getElem?_set_ne (Ne.symm hji), List.getElem?_map, Option.map_eq_some_iff] at h1
   obtain ⟨o, ho, rfl⟩ := h1
   rw [List.getElem?_set_ne (Ne.symm hji)] at h2
   exact .inr ⟨hji, o, ho, rfl, h2⟩
 refine ⟨by simp [h.len], fun j oj uj g h1 haj h2 hg => ?_, fun j x hx => ?_, fun j oj uj h1 h2 => ?_, fun j k oj ok uj uk g hne h1 h2 a1 a2 m1 m2 b1 b2 => ?_⟩
 ·rcases split j oj uj h1 h2 with ⟨rfl, rfl, rfl⟩ | ⟨hji, o, ho, rfl, hx⟩
  ·rcases hblk g hg with e | e
   ·exact h.zone j ob u g hi ha hu e
   ·exact hZ g e
  ·rw [AObj.kill_alive] at haj
   exact h.zone j o uj g ho haj hx hg
 ·by_cases hji : j = i
  ·subst hji
   rw [List.getElem?_set_self (by rw [h.len]; exact hilt)] at hx
   simp at hx
   subst hx
   exact hone
  ·rw [List.getElem?_set_ne (Ne.symm hji)] at hx
   exact h.one j x hx
 ·rcases split j oj uj h1 h2 with ⟨rfl, rfl, rfl⟩ | ⟨hji, o, ho, rfl, hx⟩
  ·exact hnew
  ·have hO := h.obj j o uj ho hx
   cases hal : o.alive with
   | true =>
    refine hO.keep_kill i hb hm (fun g hg => ?_)
    have hlt := (hO.blk_ge hal hg).2
    exact hoth g hlt (fun e => h.sep i j ob o u uj g (Ne.symm hji) hi ho ha hal hu hx e hg)
   | false => exact hO.keep_kill_dead i hb hm hal
 ·rcases split j oj uj h1 m1 with ⟨rfl, rfl, rfl⟩ | ⟨hji, o, ho, rfl, hx⟩ <;> rcases split k ok uk h2 m2 with ⟨rfl, rfl, rfl⟩ | ⟨hki, o2, ho2, rfl, hx2⟩
  ·exact hne rfl
  ·rw [AObj.kill_alive] at a2
   rcases hblk g b1 with e | e
   ·exact h.sep j k ob o2 u uk g hne hi ho2 ha a2 hu hx2 e b2
   ·have := ((h.obj k o2 uk ho2 hx2).blk_ge a2 b2).2
    omega
  ·rw [AObj.kill_alive] at a1
   rcases hblk g b2 with e | e
   ·exact h.sep j k o ob uj u g hne ho hi a1 ha hx hu b1 e
   ·have := ((h.obj j o uj ho hx).blk_ge a1 b1).2
    omega
  ·rw [AObj.kill_alive] at a1 a2
   exact h.sep j k o o2 uj uk g hne ho ho2 a1 a2 hx hx2 b1 b2
theorem HRel.update_same {w w' : World} {Z : Nat → Prop} {B : Nat} {μ : List Value} {hp : List AObj} {i : Nat} {u : Value} {ob ob' : AObj} (h : HRel w Z B μ hp) (hZ : ∀ b, w.heap.size ≤ b → Z b)
  (hi : hp[i]? = some ob) (hu : μ[i]? = some u) (ha : ob.alive = true) (hoth : ∀ b, b < w.heap.size → blk u ≠ some b → w'.heap[b]? = w.heap[b]?)
  (hnew : ObjRel w' Z μ B u ob') : HRel w' Z B μ (hp.set i ob') := by
 have hilt := (List.getElem?_eq_some_iff.1 hi).1
 have hb : ∀ b, b < w.heap.size → ¬ Z b → w'.heap[b]? = w.heap[b]? := fun b hb1 hz => hoth b hb1 (fun e => hz (h.zone i ob u b hi ha hu e))
 have split : ∀ (j : Nat) oj, (hp.set i ob')[j]? = some oj → (j = i ∧ oj = ob') ∨ (j ≠ i ∧ hp[j]? = some oj) := by
  intro j oj h1
  by_cases hji : j = i
  ·subst hji
   rw [List.getElem?_set_self hilt] at h1
   simp at h1
   exact .inl ⟨rfl, h1.symm⟩
  ·rw [List.getElem?_set_ne (Ne.symm hji)] at h1
   exact .inr ⟨hji, h1⟩
 have old : ∀ (j : Nat) oj, (hp.set i ob')[j]? = some oj → ∃ o, hp[j]? = some o ∧ (oj.alive = true → o.alive = true) := fun j oj h1 => by
  rcases split j oj h1 with ⟨rfl, rfl⟩ | ⟨_, h2⟩
  ·exact ⟨ob, hi, fun _ => ha⟩
  ·exact ⟨oj, h2, id⟩
 refine ⟨by simp [h.len], fun j oj uj g h1 haj h2 hg => ?_, h.one, fun j oj uj h1 h2 => ?_, fun j k oj ok uj uk g hne h1 h2 a1 a2 m1 m2 b1 b2 => ?_⟩
 ·obtain ⟨o1, e1, f1⟩ := old j oj h1
  exact h.zone j o1 uj g e1 (f1 haj) h2 hg
 ·rcases split j oj h1 with ⟨rfl, rfl⟩ | ⟨hji, ho⟩
  ·rw [hu] at h2
   simp at h2
   subst h2
   exact hnew
  ·have hO := h.obj j oj uj ho h2
   cases hal : oj.alive with
   | true =>
    refine hO.keep hb (fun _ _ h => h) (fun g hg => ?_)
    have hlt := (hO.blk_ge hal hg).2
    exact hoth g hlt (fun e => h.sep i j ob oj u uj g (Ne.symm hji) hi ho ha hal hu h2 e hg)
   | false => exact hO.keep_dead hb (fun _ _ h => h) hal
 ·obtain ⟨o1, e1, f1⟩ := old j oj h1
  obtain ⟨o2, e2, f2⟩ := old k ok h2
  exact h.sep j k o1 o2 uj uk g hne e1 e2 (f1 a1) (f2 a2) m1 m2 b1 b2
def AObj.withCells (cs : List AV) : AObj → AObj
 | .box t _ => .box t cs
 | .list e s n _ => .list e s n cs
 | .dead => .dead
 | .frame us cs => .frame us cs
 | .inert x => .inert x
def AObj.flat : AObj → Bool
 | .list .. => true
 | _ => false
inductive SrcR (hp : List AObj) (s : Nat) : AV → Nat → List AV → Prop
 | lst {m ds} : SrcR hp s (.lst s m ds) m ds
 | ref {j e m ds} (h : hp[j]? = some (.list e s m ds)) : SrcR hp s (.ref j) m ds
 | nil : SrcR hp s .nil 0 []
inductive EffW (P : Program) (e : Operand → AV) (hp : List AObj) : Op → AV → Option Nat → List AObj → Prop
 | store1 {t p x} (i o : Nat) (ob : AObj) (hp' : e p = .ptr i o) (hi : hp[i]? = some ob) (hs : sizeB P t = some 1) (h1 : (e x).one = true) (ho : o < ob.cells.length) (hlf : (!ob.flat || (e x).leafy) = true) : EffW P e hp (.store t p x) .top none (hp.set i (ob.withCells (ob.cells.set o (e x))))
 | storeN {t p x} (i o : Nat) (ob : AObj) (cs : List AV) (hp' : e p = .ptr i o) (hx : e x = .agg cs) (hi : hp[i]? = some ob) (hs : sizeB P t = some cs.length) (h1 : ∀ c ∈ cs, c.one = true) (ho : o + cs.length ≤ ob.cells.length) (h0 : cs ≠ []) (hlf : (!ob.flat || leafyL cs) = true) :
   EffW P e hp (.store t p x) .top none (hp.set i (ob.withCells (setMany ob.cells o cs)))
 | append {t x y} (i el s by_ n m : Nat) (zs cs ds : List AV) (hx : e x = .ref i) (hi : hp[i]? = some (.list el s n cs)) (hy : SrcR hp s (e y) m ds) (ht : rowB P t = some (el, s, zs, by_)) (h1 : ∀ c ∈ ds, c.one = true) (hb : (n + m) * by_ ≤ 140737488355328) (hm : n + m ≤ maxLen) :
   EffW P e hp (.call { callee := .builtin .append, args := #[x, y], argTypes := #[t, t] }) (.ref i) (some i) ((hp.map (AObj.kill i)).set i (.list el s (n + m) (cs ++ ds)))
 | appendN {t x y} (el s by_ m : Nat) (zs ds : List AV) (hx : e x = .nil) (hy : SrcR hp s (e y) m ds) (ht : rowB P t = some (el, s, zs, by_)) (h1 : ∀ c ∈ ds, c.one = true) (hb : m * by_ ≤ 140737488355328) (hm : m ≤ maxLen) :
   EffW P e hp (.call { callee := .builtin .append, args := #[x, y], argTypes := #[t, t] }) (.ref hp.length) none (hp ++ [.list el s m ds])
 | appendC {t x y} (el s by_ n m : Nat) (zs cs ds : List AV) (hx : e x = .clp s n cs) (hy : SrcR hp s (e y) m ds) (ht : rowB P t = some (el, s, zs, by_)) (h1 : ∀ c ∈ ds, c.one = true) (hb : (n + m) * by_ ≤ 140737488355328) (hm : n + m ≤ maxLen) (h0 : 0 < m) :
   EffW P e hp (.call { callee := .builtin .append, args := #[x, y], argTypes := #[t, t] }) (.ref hp.length) none (hp ++ [.list el s (n + m) (cs ++ ds)])
 | appendZ {t tn x y} (el s by_ n : Nat) (k : IntKind) (zs : List AV) (hx : e x = .nil) (hy : e y = .int k n) (ht : rowB P t = some (el, s, zs, by_)) (htn : (intB P tn).isSome = true) (h0 : 0 < n) (hb : n * by_ ≤ 140737488355328) (hm : n ≤ maxLen) :
   EffW P e hp (.call { callee := .builtin .append, args := #[x, y], argTypes := #[t, tn] }) (.ref hp.length) none (hp ++ [.list el s n (zerosA zs s n)])
 | cut {t x hi} (i el s n h : Nat) (cs : List AV) (k : IntKind) (hx : e x = .ref i) (hi' : hp[i]? = some (.list el s n cs)) (hh : e hi = .int k h) (ht : elemB P t = some (el, s)) (hn : h ≤ n) (hs : s ≠ 0) :
   EffW P e hp (.slice t x none (some hi) none) (.ref i) (some i) ((hp.map (AObj.kill i)).set i (.list el s h (cs.take (h * s))))
def killF : Option Nat → List AV → List AV
 | none, fr => fr
 | some i, fr => killL i fr
theorem one_rel {w : World} {Z : Nat → Prop} {μ : List Value} (hone : ∀ (i : Nat) u, μ[i]? = some u → u.oneCell' = true) {c : AV} {v : Value} (h1 : c.one = true) (h : Rel w Z μ c v) : v.oneCell' = true := by
 cases c <;> simp only [AV.one, Bool.false_eq_true] at h1 <;> simp only [Rel] at h
 case int => subst h; rfl
 case bool => subst h; rfl
 case str => subst h; rfl
 case nil => subst h; rfl
 case lst => obtain ⟨A, c, xs, rfl, _⟩ := h; rfl
 case clp => obtain ⟨A, c, xs, rfl, _⟩ := h; rfl
 case nam => obtain ⟨_, A, c, xs, rfl, _⟩ := h; rfl
 case ref => exact hone _ _ h
 case ptr => obtain ⟨u, g, _, _, rfl⟩ := h; rfl
 case rptr => obtain ⟨ad, xs, rfl, _⟩ := h; rfl
 case fn => obtain ⟨xs, rfl, _⟩ := h; rfl
theorem ones_rel {w : World} {Z : Nat → Prop} {μ : List Value} (hone : ∀ (i : Nat) u, μ[i]? = some u → u.oneCell' = true) : ∀ {cs : List AV} {vs : List Value}, (∀ c ∈ cs, c.one = true) → RelL w Z μ cs vs → ∀ v ∈ vs, v.oneCell' = true
 | [], vs, _, h => by rw [RelL] at h; subst h; simp
 | c :: cs, vs, h1, h => by
  rw [RelL] at h
  obtain ⟨x, xs, rfl, h2, h3⟩ := h
  intro v hv
  rcases List.mem_cons.1 hv with rfl | hv
  ·exact one_rel hone (h1 c (List.mem_cons_self ..)) h2
  ·exact ones_rel hone (fun c' hc' => h1 c' (List.mem_cons_of_mem _ hc')) h3 v hv
theorem store_obj {P : Program} {w : World} {Z : Nat → Prop} {B : Nat} {μ : List Value} {hp : List AObj} (hH : HRel w Z B μ hp) (hZ : ∀ b, w.heap.size ≤ b → Z b) {i o : Nat} {ob : AObj} {u : Value} {g : Nat} {cs : List AV} {vs : List Value}
  (hi : hp[i]? = some ob) (hu : μ[i]? = some u) (hg : blk u = some g) (hr : RelL w Z μ cs vs) (h1 : ∀ v ∈ vs, v.oneCell' = true) (ho : o + cs.length ≤ ob.cells.length) (h0 : cs ≠ []) (hlf : (!ob.flat || leafyL cs) = true) :
  ∃ w', (storeCells ⟨g, o, none⟩ vs).run P w = .ok () w' ∧ HRel w' Z B μ (hp.set i (ob.withCells (setMany ob.cells o cs))) ∧ Below B w w' ∧ (∀ b, b < w.heap.size → ¬ Z b → w'.heap[b]? = w.heap[b]?) ∧ w.heap.size ≤ w'.heap.size := by
 have hO := hH.obj i ob u hi hu
 have hal : ob.alive = true := by
  cases ob with
  | dead => cases cs <;> simp [AObj.cells] at ho h0
  | frame us ds => cases cs <;> simp [AObj.cells] at ho h0
  | inert x => cases cs <;> simp [AObj.cells] at ho h0
  | box => rfl
  | list => rfl
 have hge := hO.blk_ge hal hg
 have hlen := hr.length
 -- the block's cells
 have key : ∃ (cur : Array Value) (t : TypeId), w.heap[g]? = some (.cells cur t (0, 0)) ∧ o + vs.length ≤ cur.size ∧
   ∀ w' : World, w'.heap[g]? = some (.cells (cur.toList.take (o + 0) ++ vs ++ cur.toList.drop (o + 0 + vs.length)).toArray t (0, 0)) → (∀ b, b < w.heap.size → ¬ Z b → w'.heap[b]? = w.heap[b]?) →
    ObjRel w' Z μ B u (ob.withCells (setMany ob.cells o cs)) := by
  cases ob with
  | dead => simp [AObj.alive] at hal
  | frame us ds => simp [AObj.alive] at hal
  | inert x => cases cs <;> simp [AObj.cells] at ho h0
  | box t cells =>
   obtain ⟨g', xs, rfl, hB, hh, hx⟩ := hO
   simp only [blk, Option.some.injEq] at hg
   subst hg
   have hxl := hx.length
   simp only [AObj.cells] at ho
   refine ⟨xs.toArray, t, hh, by simp; omega, fun w' hw' hk => ⟨_, xs.take o ++ vs ++ xs.drop (o + vs.length), rfl, hB, by simpa using hw', ?_⟩⟩
   simp only [AObj.cells, setMany, ← hlen]
   exact (((hx.take o).append hr).append (hx.drop _)).keep hk (fun _ _ h => h)
  | list e s n cells =>
   obtain ⟨xs, hown, hx⟩ := hO
   have hxl := hx.length
   simp only [AObj.cells] at ho
   replace hr := RelL.leafy (by simpa [AObj.flat] using hlf) hr
   rcases hown with ⟨hl, ⟨rfl, _⟩ | ⟨g', cap, cur, rfl, hB, hh, hnc, hcm, hcs, ht⟩⟩
   ·simp [blk] at hg
   ·simp only [blk, Option.some.injEq] at hg
    subst hg
    have hle : n * s ≤ cur.size := by rw [hcs]; exact Nat.mul_le_mul_right s hnc
    refine ⟨cur, e, hh, by omega, fun w' hw' hk => ⟨xs.take o ++ vs ++ xs.drop (o + vs.length), ⟨?_, .inr ⟨g', cap, _, rfl, hB, hw', hnc, hcm, ?_, ?_⟩⟩, ?_⟩⟩
    ·simp only [List.length_append, List.length_take, List.length_drop]; omega
    ·simp only [List.size_toArray, List.length_append, List.length_take, List.length_drop, Array.length_toList]; omega
    ·simp only [Nat.add_zero]
     rw [← ht]
     apply List.ext_getElem?
     intro j
     simp only [List.getElem?_take, List.getElem?_append, List.length_append, List.length_take, List.getElem?_drop, Array.length_toList]
     split
     ·rename_i hj
      split
      ·rename_i hj2
       split
       ·rename_i hj3
        split
        ·split
         ·split
          ·rfl
          ·omega
         ·omega
        ·omega
       ·rename_i hj3
        have e1 : min o cur.size = o := by omega
        have e2 : min o (min (n * s) cur.size) = o := by omega
        rw [if_pos (by omega), if_neg (by omega), e1, e2]
      ·rename_i hj2
       have e1 : min o cur.size = o := by omega
       have e2 : min o (min (n * s) cur.size) = o := by omega
       rw [if_neg (by omega), e1, e2, if_pos (by omega)]
     ·rename_i hj
      rw [if_neg (by omega), if_neg (by omega)]
    ·simp only [AObj.cells, setMany, ← hlen]
     exact (((hx.take o).append hr).append (hx.drop _)).keep hk (fun _ _ h => h)
 obtain ⟨cur, t, hh, hsz, hnew⟩ := key
 have hst := run_storeCells_at P g o t vs 0 cur w hh (by omega) h1
 have hoth : ∀ b, b ≠ g → (w.setRow g (cur.toList.take (o + 0) ++ vs ++ cur.toList.drop (o + 0 + vs.length)).toArray).heap[b]? = w.heap[b]? := fun b hb => setRow_other w g b _ hb
 have hk : ∀ b, b < w.heap.size → ¬ Z b → (w.setRow g (cur.toList.take (o + 0) ++ vs ++ cur.toList.drop (o + 0 + vs.length)).toArray).heap[b]? = w.heap[b]? := fun b _ hz => hoth b (fun e => hz (hH.zone i ob u b hi hal hu (by rw [e]; exact hg)))
 refine ⟨_, hst, hH.update_same hZ hi hu hal (fun b _ hne => hoth b (fun e => hne (by rw [e]; exact hg))) (hnew _ (setRow_heap w g cur _ t _ hh) hk), ⟨rfl, rfl, rfl, by simp, fun b hb => hoth b (by omega), run_drawn _ hst⟩, hk, by simp⟩
def Wrote (w : World) (Z : Nat → Prop) (B : Nat) (μ : List Value) (v : AV) (kl : Option Nat) (hp' : List AObj) (r : Result Next) : Prop :=
 ∃ x w' μ' nx, r = .ok nx w' ∧ (nx = .value x ∨ (nx = .skip ∧ x = undef)) ∧ Below B w w' ∧ HRel w' Z B μ' hp' ∧ Rel w' Z μ' v x ∧
  (∀ b, b < w.heap.size → ¬ Z b → w'.heap[b]? = w.heap[b]?) ∧ w.heap.size ≤ w'.heap.size ∧ ∀ (j : Nat) u, kl ≠ some j → μ[j]? = some u → μ'[j]? = some u
theorem src_rel {w : World} {Z : Nat → Prop} {B : Nat} {μ : List Value} {hp : List AObj} (hH : HRel w Z B μ hp) {s m : Nat} {c : AV} {ds : List AV} {v : Value} (h : SrcR hp s c m ds) (hr : Rel w Z μ c v) :
  ∃ A cp ys, v = .slice A m cp ∧ RelL w Z [] ds ys ∧ ys.length = m * s ∧ (ys ≠ [] → ∃ ad, A = some ad ∧ ∀ (j : Nat) u, ys[j]? = some u → w.cell? (ad.add j) = some u) ∧ (A = none → v = .slice none 0 0 ∨ ys = []) := by
 cases h with
 | lst =>
  simp only [Rel] at hr
  obtain ⟨A, cp, ys, rfl, hl, hc, hrd, hx⟩ := hr
  refine ⟨A, cp, ys, rfl, hx, by rw [hx.length]; exact hl, fun hne => ?_, fun hA => .inr ?_⟩
  ·obtain ⟨ad, h1, _, h3⟩ := hrd hne
   exact ⟨ad, h1, h3⟩
  ·cases ys with
   | nil => rfl
   | cons y ys => obtain ⟨ad, h1, _⟩ := hrd (by simp); rw [hA] at h1; cases h1
 | ref h =>
  simp only [Rel] at hr
  obtain ⟨xs, hown, hx⟩ := hH.obj _ _ v h hr
  have hown2 := hown
  rcases hown.2 with ⟨rfl, rfl⟩ | ⟨g, cap, cur, rfl, hB, hg, hnc, hcm, hcs, ht⟩
  ·have : xs = [] := List.eq_nil_of_length_eq_zero (by have := hown.1; simpa using this)
   subst this
   exact ⟨none, 0, [], rfl, hx, by simp, fun h => absurd rfl h, fun _ => .inl rfl⟩
  ·refine ⟨some ⟨g, 0, none⟩, cap, xs, rfl, hx, hown2.1, fun _ => ⟨_, rfl, fun j u hu => ?_⟩, fun h => by cases h⟩
   rw [add_lit', Nat.zero_add, hown2.cellAt j (by have := (List.getElem?_eq_some_iff.1 hu).1; have := hown2.1; omega)]
   exact hu
 | nil =>
  simp only [Rel] at hr
  subst hr
  exact ⟨none, 0, [], rfl, RelL.nil, by simp, fun h => absurd rfl h, fun _ => .inl rfl⟩
theorem run_append_all {P : Program} {w : World} {B t ty el s by_ n m cp : Nat} {zs : List AV} {v : Value} {A : Option Addr} {xs ys : List Value} (ht : rowB P t = some (el, s, zs, by_)) (hown : w.ownsRow B el s v n xs)
  (hl : ys.length = m * s) (hc : ys ≠ [] → ∃ ad, A = some ad ∧ ∀ (j : Nat) u, ys[j]? = some u → w.cell? (ad.add j) = some u) (hA : A = none → ys = []) (h1 : ∀ u ∈ ys, u.oneCell' = true)
  (hb : (n + m) * by_ ≤ 140737488355328) (hm : n + m ≤ maxLen) (hB : B ≤ w.heap.size) :
  ∃ v' w', (Builtin.append_ #[t, t] ty #[v, .slice A m cp]).run P w = .ok v' w' ∧ w'.ownsRow B el s v' (n + m) (xs ++ ys) ∧ w.grownBy w' v.ownBlock ∧ (v'.ownBlock = v.ownBlock ∨ v'.ownBlock = some w.heap.size) := by
 obtain ⟨i, z, hu, hi, hz, rfl, rfl, hzs, h0, _⟩ := row_parts ht
 cases A with
 | none =>
  have hy := hA rfl
  subst hy
  have hm0 : m = 0 := by
   rcases Nat.eq_zero_or_pos m with h | h
   ·exact h
   ·have : 0 < m * i.size := Nat.mul_pos h h0
    simp at hl; omega
  subst hm0
  refine ⟨v, w, ?_, by simpa using hown, World.grownBy.refl w _, .inl rfl⟩
  rcases hown.2 with ⟨rfl, rfl⟩ | ⟨g, cap, cur, rfl, _, _, hnc, _⟩
  ·simp [Builtin.append_, run_underlying hu, sizeOf, typeInfo, hi, Builtin.lenOf, Builtin.firstCells]
  ·simp [Builtin.append_, run_underlying hu, sizeOf, typeInfo, hi, Builtin.lenOf, Builtin.firstCells, hnc, storeCells]
 | some ad =>
  have hcells : ∀ (j : Nat) u, ys[j]? = some u → w.cell? (ad.add j) = some u := fun j u hj => by
   obtain ⟨ad', he, h⟩ := hc (by rintro rfl; simp at hj)
   simp only [Option.some.injEq] at he
   subst he
   exact h j u hj
  obtain ⟨v', w', h2, h3, h4, _, h5⟩ := run_append_own_at (P := P) w B t ty el i z i.size i.bytes hu hi hz rfl rfl hzs h0 v n xs hown ad m cp ys hl hcells h1 hm hb hB
  exact ⟨v', w', h2, h3, h4, h5⟩
theorem run_append_clip {P : Program} {w : World} {B t ty el s by_ n m cp : Nat} {zs : List AV} {A A' : Option Addr} {xs ys : List Value} (ht : rowB P t = some (el, s, zs, by_)) (hlx : xs.length = n * s)
  (hcx : xs ≠ [] → ∃ ad, A' = some ad ∧ ∀ (j : Nat) u, xs[j]? = some u → w.cell? (ad.add j) = some u)
  (hl : ys.length = m * s) (hc : ys ≠ [] → ∃ ad, A = some ad ∧ ∀ (j : Nat) u, ys[j]? = some u → w.cell? (ad.add j) = some u) (h1 : ∀ u ∈ ys, u.oneCell' = true)
  (hb : (n + m) * by_ ≤ 140737488355328) (hm : n + m ≤ maxLen) (hB : B ≤ w.heap.size) (h0 : 0 < m) :
  ∃ v' w', (Builtin.append_ #[t, t] ty #[.slice A' n n, .slice A m cp]).run P w = .ok v' w' ∧ w'.ownsRow B el s v' (n + m) (xs ++ ys) ∧ Below w.heap.size w w' ∧ ∀ g, blk v' = some g → w.heap.size ≤ g := by
 obtain ⟨i, z, hu, hi, hz, rfl, rfl, hzs, hs0, _⟩ := row_parts ht
 have hys : ys ≠ [] := by
  rintro rfl
  have : 0 < m * i.size := Nat.mul_pos h0 hs0
  simp at hl; omega
 obtain ⟨ad, rfl, hcells⟩ := hc hys
 have h63 : ((n + m : Nat) : Int) ≤ 9223372036854775807 := by
  have h := hm
  have h' : maxLen ≤ 9223372036854775807 := by decide
  omega
 cases A' with
 | none =>
  have hx0 : xs = [] := by
   rcases xs with _ | ⟨x, xs⟩
   ·rfl
   ·obtain ⟨ad', h, _⟩ := hcx (by simp); cases h
  subst hx0
  have hn0 : n = 0 := by
   rcases Nat.eq_zero_or_pos n with h | h
   ·exact h
   ·have : 0 < n * i.size := Nat.mul_pos h hs0
    simp at hlx; omega
  subst hn0
  obtain ⟨v', w', h2, h3, hg, hblk⟩ := run_append_all (P := P) (ty := ty) (cp := cp) (n := 0) ht (World.ownsRow_nil w B el i.size) hl (fun _ => ⟨ad, rfl, hcells⟩) (fun h => by cases h) h1 hb hm hB
  refine ⟨v', w', h2, h3, ⟨hg.os, hg.tape, hg.output, hg.size, fun b hb1 => hg.block b hb1 (by simp [Value.ownBlock]), run_drawn _ h2⟩, fun g hg2 => ?_⟩
  have hbk : blk v' = v'.ownBlock := by rcases h3.2 with ⟨rfl, _⟩ | ⟨g, cap, cur, rfl, _⟩ <;> rfl
  rw [hbk] at hg2
  rcases hblk with e1 | e1
  ·rw [e1] at hg2; simp [Value.ownBlock] at hg2
  ·rw [e1] at hg2; simp only [Option.some.injEq] at hg2; omega
 | some ad' =>
  have hcx' : ∀ (j : Nat) u, xs[j]? = some u → w.cell? (ad'.add j) = some u := fun j u hj => by
   obtain ⟨ad2, he, h⟩ := hcx (by rintro rfl; simp at hj)
   cases he
   exact h j u hj
  have hrun := run_append_grow (P := P) (w := w) t ty el i z hu hi hz ad' n n xs hlx hcx' ad m cp ys hl hcells (by omega) h63 (growslice_fits (by omega) hb)
  have hge := grownCap_ge w (n + m) n el
  refine ⟨_, _, hrun, ?_, ?_, fun g hg => ?_⟩
  ·refine ⟨by simp [hlx, hl, Nat.add_mul], .inr ⟨w.heap.size, grownCap w (n + m) n el, xs.toArray ++ ys.toArray ++ Builtin.zeroCells z.cells (grownCap w (n + m) n el - (n + m)), rfl, hB, ?_, hge, grownCap_le_maxLen w (n + m) n el hm, ?_, ?_⟩⟩
   ·show (w.heap.push _)[w.heap.size]? = _
    simp
   ·simp only [Array.size_append, List.size_toArray, hlx, hl, size_zeroCells, hzs]
    rw [← Nat.add_mul, ← Nat.add_mul]
    congr 1
    omega
   ·simp only [Array.toList_append, List.append_assoc]
    rw [← List.append_assoc]
    exact List.take_left' (by simp [hlx, hl, Nat.add_mul])
  ·exact ((Below.refl _ w).drew).alloc (by simp) _
  ·simp only [blk, Option.some.injEq] at hg
   omega
theorem ownsRow_blk {w : World} {B e s n : Nat} {v : Value} {xs : List Value} (h : w.ownsRow B e s v n xs) : blk v = v.ownBlock := by
 rcases h.2 with ⟨rfl, _⟩ | ⟨g, cap, cur, rfl, _⟩ <;> rfl
theorem EffW.sound {P : Program} {w : World} {Z : Nat → Prop} {B : Nat} {μ : List Value} {hp hp' : List AObj} {e : Operand → AV} {ρ : Operand → Value} {o : Oper} {v : AV} {kl : Option Nat}
  (hH : HRel w Z B μ hp) (hZ : ∀ b, w.heap.size ≤ b → Z b) (hE : ∀ x, Rel w Z μ (e x) (ρ x)) (hB : B ≤ w.heap.size) (h : EffW P e hp o.op v kl hp') : Wrote w Z B μ v kl hp' ((execOp ρ o).run P w) := by
 obtain ⟨dst, op, ty, pos, after, guard⟩ := o
 simp only at h
 cases h with
 | store1 i o ob hp1 hi hs h1 ho hlf =>
  rename_i t p x
  have hpp := hp1 ▸ hE p
  simp only [Rel] at hpp
  obtain ⟨u, g, hu, hg, hpv⟩ := hpp
  have hx := hE x
  have h1x := one_rel hH.one h1 hx
  have hcells : (ρ x).cells = #[ρ x] := by cases hv : ρ x <;> simp_all [Value.cells, Value.oneCell']
  obtain ⟨w', hrun, hH', hb, hk, hsz⟩ := store_obj (P := P) hH hZ (o := o) (cs := [e x]) (vs := [ρ x]) hi hu hg (RelL.cons hx RelL.nil) (by simpa using h1x) (by simp only [List.length_singleton]; omega) (by simp) (by simpa [leafyL] using hlf)
  refine ⟨undef, w', μ, .skip, ?_, .inr ⟨rfl, rfl⟩, hb, ?_, by simp [Rel], hk, hsz, fun j u _ h => h⟩
  ·simp [execOp, hpv, Instr.storeAt, Instr.sureAddr, storeVar, hcells, run_size hs, hrun]
  ·have e1 : setMany ob.cells o [e x] = ob.cells.set o (e x) := by
    simp only [setMany, List.length_singleton]
    rw [List.set_eq_take_append_cons_drop, if_pos ho]
    simp
   rw [e1] at hH'
   exact hH'
 | storeN i o ob cs hp1 hx1 hi hs h1 ho h0 hlf =>
  rename_i t p x
  have hpp := hp1 ▸ hE p
  simp only [Rel] at hpp
  obtain ⟨u, g, hu, hg, hpv⟩ := hpp
  have hx := hx1 ▸ hE x
  simp only [Rel] at hx
  obtain ⟨xs, hxv, hr⟩ := hx
  obtain ⟨w', hrun, hH', hb, hk, hsz⟩ := store_obj (P := P) hH hZ hi hu hg hr (ones_rel hH.one h1 hr) ho h0 hlf
  refine ⟨undef, w', μ, .skip, ?_, .inr ⟨rfl, rfl⟩, hb, hH', by simp [Rel], hk, hsz, fun j u _ h => h⟩
  have hl := hr.length
  simp [execOp, hpv, hxv, Instr.storeAt, Instr.sureAddr, storeVar, Value.cells, run_size hs, hl, hrun]
 | append i el s by_ n m zs cs ds hx1 hi hy ht h1 hb hm =>
  rename_i t x y
  have hx := hx1 ▸ hE x
  simp only [Rel] at hx
  obtain ⟨xs, hown, hr⟩ := hH.obj i _ _ hi hx
  obtain ⟨A, cp, ys, hyv, hry, hl, hc, hA⟩ := src_rel hH hy (hE y)
  have h1y := ones_rel (μ := []) (by simp) h1 hry
  obtain ⟨v', w', hrun, hown', hg, hblk⟩ := run_append_all (P := P) (ty := ty) (cp := cp) ht hown hl hc (fun h => by
   rcases hA h with h2 | h2
   ·rw [hyv] at h2
    simp only [Value.slice.injEq] at h2
    obtain ⟨_, rfl, _⟩ := h2
    exact List.eq_nil_of_length_eq_zero (by simpa using hl)
   ·exact h2) h1y hb hm hB
  have hbu := ownsRow_blk hown
  have hbu' := ownsRow_blk hown'
  have hoth : ∀ b, b < w.heap.size → blk (ρ x) ≠ some b → w'.heap[b]? = w.heap[b]? := fun b hb1 hne => hg.block b hb1 (fun e => hne (by rw [hbu, e]))
  have hge : ∀ b, blk (ρ x) = some b → B ≤ b := fun b hb1 => ((hH.obj i _ _ hi hx).blk_ge rfl hb1).1
  have hk : ∀ b, b < w.heap.size → ¬ Z b → w'.heap[b]? = w.heap[b]? := fun b hb1 hz => hoth b hb1 (fun e => hz (hH.zone i _ _ b hi rfl hx e))
  have hm' : ∀ (j : Nat) (u : Value), j ≠ i → μ[j]? = some u → (μ.set i v')[j]? = some u := fun j u hne hu => by rw [List.getElem?_set_ne (Ne.symm hne)]; exact hu
  refine ⟨v', w', μ.set i v', .value v', ?_, .inl rfl, ⟨hg.os, hg.tape, hg.output, hg.size, fun b hb1 => hoth b (by omega) (fun e => by have := hge b e; omega), run_drawn _ hrun⟩, ?_, ?_, hk, hg.size, fun j u hne hu => hm' j u (fun e => hne (by rw [e])) hu⟩
  ·simp [execOp, resolve, invoke, builtin, hyv, hrun]
  ·refine hH.update hZ hi hx rfl hoth ⟨xs ++ ys, hown', ?_⟩ (fun g hg2 => ?_) (ownsRow_one hown')
   ·exact (hr.append hry).keep hk (fun _ _ h => h)
   ·rw [hbu'] at hg2
    rcases hblk with e1 | e1
    ·left; rw [hbu, ← e1]; exact hg2
    ·right; rw [e1] at hg2; simp only [Option.some.injEq] at hg2; omega
  ·simp only [Rel]
   have := (List.getElem?_eq_some_iff.1 hi).1
   rw [List.getElem?_set_self (by rw [hH.len]; exact this)]
 | appendN el s by_ m zs ds hx1 hy ht h1 hb hm =>
  rename_i t x y
  have hx := hx1 ▸ hE x
  simp only [Rel] at hx
  obtain ⟨A, cp, ys, hyv, hry, hl, hc, hA⟩ := src_rel hH hy (hE y)
  have h1y := ones_rel (μ := []) (by simp) h1 hry
  have hown := World.ownsRow_nil w B el s
  obtain ⟨v', w', hrun, hown', hg, hblk⟩ := run_append_all (P := P) (ty := ty) (cp := cp) (n := 0) ht hown hl hc (fun h => by
   rcases hA h with h2 | h2
   ·rw [hyv] at h2
    simp only [Value.slice.injEq] at h2
    obtain ⟨_, rfl, _⟩ := h2
    exact List.eq_nil_of_length_eq_zero (by simpa using hl)
   ·exact h2) h1y (by simpa using hb) (by simpa using hm) hB
  have hbu' := ownsRow_blk hown'
  have hoth : ∀ b, b < w.heap.size → w'.heap[b]? = w.heap[b]? := fun b hb1 => hg.block b hb1 (by simp [Value.ownBlock])
  have hbel : Below w.heap.size w w' := ⟨hg.os, hg.tape, hg.output, hg.size, hoth, run_drawn _ hrun⟩
  refine ⟨v', w', μ ++ [v'], .value v', ?_, .inl rfl, hbel.mono hB, ?_, ?_, fun b hb1 _ => hoth b hb1, hg.size, fun j u _ hu => append_old j u hu⟩
  ·simp [execOp, resolve, invoke, builtin, hx, hyv, hrun]
  ·refine hH.extend1 hZ hbel ⟨ys, by simpa using hown', hry.keep (fun b hb1 _ => hoth b hb1) (fun j u hu => hu)⟩ (fun g hg2 => ?_) (ownsRow_one hown')
   rw [hbu'] at hg2
   rcases hblk with e1 | e1
   ·rw [e1] at hg2; simp [Value.ownBlock] at hg2
   ·rw [e1] at hg2; simp only [Option.some.injEq] at hg2; omega
  ·simp only [Rel]
   rw [← hH.len]; simp
 | appendC el s by_ n m zs cs ds hx1 hy ht h1 hb hm h0 =>
  rename_i t x y
  have hx := hx1 ▸ hE x
  simp only [Rel] at hx
  obtain ⟨A', c, xs, hxv, hlx, rfl, hrd, hrx⟩ := hx
  obtain ⟨A, cp, ys, hyv, hry, hl, hc, hA⟩ := src_rel hH hy (hE y)
  have h1y := ones_rel (μ := []) (by simp) h1 hry
  obtain ⟨v', w', hrun, hown', hbel, hblk⟩ := run_append_clip (P := P) (ty := ty) (cp := cp) (A' := A') (B := B) ht (by rw [hrx.length]; exact hlx) (fun hne => by obtain ⟨ad, e1, _, e2⟩ := hrd hne; exact ⟨ad, e1, e2⟩) hl hc h1y hb hm hB h0
  refine ⟨v', w', μ ++ [v'], .value v', ?_, .inl rfl, hbel.mono hB, ?_, ?_, fun b hb1 _ => hbel.block b hb1, hbel.size, fun j u _ hu => append_old j u hu⟩
  ·simp [execOp, resolve, invoke, builtin, hxv, hyv, hrun]
  ·exact hH.extend1 hZ hbel ⟨_, hown', (hrx.append hry).keep (fun b hb1 _ => hbel.block b hb1) (fun j u hu => hu)⟩ hblk (ownsRow_one hown')
  ·simp only [Rel]
   rw [← hH.len]; simp
 | appendZ el s by_ n k zs hx1 hy ht htn h0 hb hm =>
  rename_i t tn x y
  have hx := hx1 ▸ hE x
  simp only [Rel] at hx
  have hyv := rel_int (hy ▸ hE y)
  obtain ⟨i, z, hu, hi, hz, rfl, rfl, hzs, hs0, rfl⟩ := row_parts ht
  obtain ⟨kn, hkn⟩ := Option.isSome_iff_exists.mp htn
  have hun : P.underlying tn = some (.int kn) := by
   unfold intB at hkn
   split at hkn
   ·rename_i k' hk; cases hkn; exact hk
   ·cases hkn
  have h63 : (n : Int) ≤ 9223372036854775807 := by
   have h := hm
   simp [maxLen] at h
   omega
  have hrun := Go.Lib.run_append_nil_zeros (P := P) w t tn ty el i z k kn hu hun hi hz n h0 hs0 h63 (by omega)
  have hge := grownCap_ge w n 0 el
  have hcm := grownCap_le_maxLen w n 0 el hm
  have hzc : ∀ m, (Builtin.zeroCells z.cells m).toList = (List.range (m * i.size)).map (fun j => z.cells[j % i.size]!) := fun m => by simp [Builtin.zeroCells, hzs]
  have hbel : Below w.heap.size w (w.drew.alloc (.cells (Builtin.zeroCells z.cells n ++ Builtin.zeroCells z.cells (grownCap w n 0 el - n)) el)) := ⟨rfl, rfl, rfl, by simp, fun b hb => heap_alloc_old w.drew _ hb, Nat.le_succ _⟩
  refine ⟨_, _, μ ++ [.slice (some ⟨w.heap.size, 0, none⟩) n (grownCap w n 0 el)], .value _, by simp [execOp, resolve, invoke, builtin, hx, hyv, hrun]; rfl, .inl rfl, hbel.mono hB, ?_, ?_, fun b hb1 _ => hbel.block b hb1, hbel.size, fun j u _ hu => append_old j u hu⟩
  ·refine hH.extend1 hZ hbel ⟨(List.range (n * i.size)).map (fun j => z.cells[j % i.size]!), ?_, zeros_rel z.cells i.size n hzs hs0 _ (fun j _ => rfl)⟩ (by simp [blk]) rfl
   refine ⟨by simp, .inr ⟨w.heap.size, _, _, rfl, hB, heap_alloc_new w.drew _, hge, hcm, ?_, ?_⟩⟩
   ·rw [← Array.length_toList, Array.toList_append, List.length_append, hzc, hzc]
    simp only [List.length_map, List.length_range]
    rw [← Nat.add_mul]; congr 1; omega
   ·rw [Array.toList_append, hzc, hzc]
    exact List.take_left' (by simp)
  ·simp only [Rel]
   rw [← hH.len]; simp
 | cut i el s n h cs k hx1 hi hh ht hn hs =>
  rename_i t x hi2
  have hx := hx1 ▸ hE x
  simp only [Rel] at hx
  have hhv := rel_int (hh ▸ hE hi2)
  obtain ⟨xs, hown, hr⟩ := hH.obj i _ _ hi hx
  have hlen := hr.length
  obtain ⟨v', hrun, hown', hbv⟩ : ∃ v', (Instr.sliceAt t (ρ x) none (some (.int k h)) none).run P w = .ok v' w ∧ w.ownsRow B el s v' h (xs.take (h * s)) ∧ blk v' = blk (ρ x) := by
   have hl1 := hown.1
   have hle : h * s ≤ n * s := Nat.mul_le_mul_right s hn
   rcases hown.2 with ⟨hv, rfl⟩ | ⟨g, cap, cur, hv, hB2, hg, hnc, hcm, hcs, htk⟩
   ·have hh0 : h = 0 := by omega
    subst hh0
    rw [hv]
    refine ⟨.slice none 0 0, ?_, by simpa using World.ownsRow_nil w B el s, rfl⟩
    have := run_sliceAt (P := P) ht none 0 0 none (some (.int k 0)) none 0 0 0 (fun w => by
     have hb0 : (Instr.sliceBound (.int k 0) 0 .sliceAcap).run P w = .ok 0 w := by simpa using run_bound (P := P) k 0 0 .sliceAcap (Nat.le_refl _) w
     simp [Instr.sliceBounds, hb0]) w
    simpa using this
   ·rw [hv]
    have := run_sliceAt (P := P) ht (some ⟨g, 0, none⟩) n cap none (some (.int k h)) none 0 h cap (fun w => by simp [Instr.sliceBounds, run_bound (P := P) k h cap _ (by omega)]) w
    refine ⟨.slice (some ⟨g, 0, none⟩) h cap, ?_, ⟨by rw [List.length_take]; omega, .inr ⟨g, cap, cur, rfl, hB2, hg, by omega, hcm, hcs, ?_⟩⟩, rfl⟩
    ·simpa [Addr.add_zero'] using this
    ·rw [← htk, List.take_take]
     congr 1
     omega
  have hoth : ∀ b, b < w.heap.size → blk (ρ x) ≠ some b → w.heap[b]? = w.heap[b]? := fun _ _ _ => rfl
  have hm' : ∀ (j : Nat) (u : Value), j ≠ i → μ[j]? = some u → (μ.set i v')[j]? = some u := fun j u hne hu => by rw [List.getElem?_set_ne (Ne.symm hne)]; exact hu
  refine ⟨v', w, μ.set i v', .value v', ?_, .inl rfl, Below.refl _ _, ?_, ?_, fun _ _ _ => rfl, Nat.le_refl _, fun j u hne hu => hm' j u (fun e => hne (by rw [e])) hu⟩
  ·simp [execOp, hhv, hrun]
  ·refine hH.update hZ hi hx rfl hoth ⟨_, hown', (hr.take _)⟩ (fun g hg => .inl (by rw [← hbv]; exact hg)) (ownsRow_one hown')
  ·simp only [Rel]
   have := (List.getElem?_eq_some_iff.1 hi).1
   rw [List.getElem?_set_self (by rw [hH.len]; exact this)]
theorem EffW.inert {P : Program} {e : Operand → AV} {hp hp' : List AObj} {op : Op} {v : AV} {kl : Option Nat} (h : EffW P e hp op v kl hp') {j : Nat} {x : Inert} (hj : hp[j]? = some (.inert x)) : hp'[j]? = some (.inert x) ∧ kl ≠ some j := by
 have hjl := (List.getElem?_eq_some_iff.1 hj).1
 have hset : ∀ (i : Nat) (ob : AObj) (cs : List AV), hp[i]? = some ob → (hp.set i (ob.withCells cs))[j]? = some (.inert x) := by
  intro i ob cs hi
  by_cases e : i = j
  ·subst e
   rw [hi] at hj
   cases hj
   rw [List.getElem?_set_self hjl]
   rfl
  ·rw [List.getElem?_set_ne e]; exact hj
 have hkill : ∀ (i el s n m : Nat) (cs ds : List AV), hp[i]? = some (.list el s n cs) → ((hp.map (AObj.kill i)).set i (.list el s m ds))[j]? = some (.inert x) ∧ some i ≠ some j := by
  intro i el s n m cs ds hi
  have hne : i ≠ j := by
   rintro rfl
   rw [hi] at hj
   cases hj
  refine ⟨?_, by simpa using hne⟩
  rw [List.getElem?_set_ne hne, List.getElem?_map, hj]
  rfl
 cases h with
 | store1 i o ob _ hi => exact ⟨hset i ob _ hi, by simp⟩
 | storeN i o ob cs _ _ hi => exact ⟨hset i ob _ hi, by simp⟩
 | append i el s by_ n m zs cs ds _ hi => exact hkill i el s n _ cs _ hi
 | appendN => exact ⟨by rw [List.getElem?_append_left hjl]; exact hj, by simp⟩
 | appendZ => exact ⟨by rw [List.getElem?_append_left hjl]; exact hj, by simp⟩
 | appendC => exact ⟨by rw [List.getElem?_append_left hjl]; exact hj, by simp⟩
 | cut i el s n h cs k _ hi => exact hkill i el s n _ cs _ hi
end Go.Abs

/-! One operation as a step of the abstract machine; regions in the order of the text. -/
namespace Go.Abs
open Go.RowKit
def putF (fr : List AV) (d : Option Tmp) (v : AV) : List AV :=
 match d with
 | some t => fr.set t v
 | none => fr
def yieldA (ops : Array Oper) (fr : List AV) (j : Nat) : Option Bool :=
 match ((ops[j]?).bind (·.dst)).bind (fr[·]?) with
 | some (.bool b) => some b
 | _ => none
def noA (ops : Array Oper) (fr : List AV) (j : Nat) (want : Bool) : Bool :=
 match ((ops[j]?).bind (·.dst)).bind (fr[·]?) with
 | some (.bool b) => b != want
 | some (.tup []) => true
 | _ => false
def WantedA (ops : Array Oper) (o : Oper) (fr : List AV) : Prop := o.guard = none ∨ ∃ j b, o.guard = some (j, b) ∧ yieldA ops fr j = some b
inductive CallR (P : Program) (e : Operand → AV) (hp : List AObj) : Op → AV → List AObj → Prop
 | pure {c args tys} (f : FuncId) (caps : List AV) (res : AV) (hc : e c = .fn f caps) (hl : leafyL (args.toList.map e ++ caps) = true) (h : CallA P f (args.toList.map e ++ caps) res) :
   CallR P e hp (.call { callee := .value c, args := args, argTypes := tys }) (imp hp.length res).1 (imp hp.length res).2
 | snap {c args tys} (f : FuncId) (caps avs : List AV) (res : AV) (hc : e c = .fn f caps) (hs : SnapL hp (args.toList.map e ++ caps) avs) (h : CallA P f avs res) (hcl : res.closed = true) :
   CallR P e hp (.call { callee := .value c, args := args, argTypes := tys }) (imp hp.length res).1 (imp hp.length res).2
 | lit {t n parts} (el s by_ : Nat) (zs cs : List AV) (ht : rowB P t = some (el, s, zs, by_)) (hn : n * s ≤ 16777216) (hf : fillA (fun i => some (i * s, s)) (zerosA zs s n) (parts.toList.map fun x => (x.1, e x.2)) = some cs) (hlf : leafyL cs = true) :
   CallR P e hp (.buildSlice t n parts) (.lst s n cs) []
def CallS (P : Program) (f : FuncId) (args : List AV) (hp : List AObj) (res : AV) (hp' : List AObj) : Prop :=
 Enters P f ∧ ∀ (Z0 F : Nat → Prop) (w0 w : World) (μ vs us : List Value) (fr : List AV), (∀ b, F b → w0.heap.size ≤ b ∧ b < w.heap.size) → HRel w (Zone Z0 F w0.heap.size) w0.heap.size μ hp → RelL w (Zone Z0 F w0.heap.size) μ args vs → RelL w (Zone Z0 F w0.heap.size) μ fr us → Below w0.heap.size w0 w →
  Calls P f vs.toArray w fun e w' => ∃ v μ' F', e = .returned v ∧ (∀ b, F' b → w0.heap.size ≤ b ∧ b < w'.heap.size) ∧ HRel w' (Zone Z0 F' w0.heap.size) w0.heap.size μ' hp' ∧ Rel w' (Zone Z0 F' w0.heap.size) μ' res v ∧ RelL w' (Zone Z0 F' w0.heap.size) μ' fr us ∧ Below w0.heap.size w0 w'
inductive StepR (P : Program) (ops : Array Oper) (o : Oper) (st : St) : St → Prop
 | skip (j : Nat) (want : Bool) (hg : o.guard = some (j, want)) (hn : noA ops st.fr j want = true) : StepR P ops o st ⟨putF st.fr o.dst (.tup []), st.hp⟩
 | eff {v news} (hw : WantedA ops o st.fr) (h : EffR P (ev st.fr) st.hp o.op v news) : StepR P ops o st ⟨putF st.fr o.dst v, st.hp ++ news⟩
 | call {v news} (hw : WantedA ops o st.fr) (h : CallR P (ev st.fr) st.hp o.op v news) : StepR P ops o st ⟨putF st.fr o.dst v, st.hp ++ news⟩
 | write {v kl hp'} (hw : WantedA ops o st.fr) (h : EffW P (ev st.fr) st.hp o.op v kl hp') : StepR P ops o st ⟨putF (killF kl st.fr) o.dst v, hp'⟩
 | callS {c args tys} (hnm : noMark st.hp = true) (hw : WantedA ops o st.fr) (f : FuncId) (caps : List AV) (res : AV) (hp' : List AObj) (hop : o.op = .call { callee := .value c, args := args, argTypes := tys }) (hc : ev st.fr c = .fn f caps)
   (h : CallS P f (args.toList.map (ev st.fr) ++ caps) st.hp res hp') : StepR P ops o st ⟨putF st.fr o.dst res, hp'⟩
theorem yield_rel {w : World} {Z : Nat → Prop} {μ : List Value} {ops : Array Oper} {fr : List AV} {tmps : Array Value} (h : RelL w Z μ fr tmps.toList) {j : Nat} {b : Bool} (hy : yieldA ops fr j = some b) : yielded ops tmps j = some b := by
 unfold yieldA at hy
 unfold yielded
 cases hd : (ops[j]?).bind (·.dst) with
 | none => simp [hd] at hy
 | some t =>
  simp only [hd, Option.bind_some] at hy ⊢
  cases hf : fr[t]? with
  | none => simp [hf] at hy
  | some c =>
   obtain ⟨x, hx, hr⟩ := h.get hf
   simp only [hf] at hy
   cases c <;> simp at hy
   subst hy
   have hx' : tmps[t]? = some x := by simpa using hx
   rw [hx', rel_bool hr]
theorem no_rel {w : World} {Z : Nat → Prop} {μ : List Value} {ops : Array Oper} {fr : List AV} {tmps : Array Value} (h : RelL w Z μ fr tmps.toList) {j : Nat} {want : Bool} (hy : noA ops fr j want = true) : yielded ops tmps j ≠ some want := by
 unfold noA at hy
 unfold yielded
 cases hd : (ops[j]?).bind (·.dst) with
 | none => simp [hd] at hy
 | some t =>
  simp only [hd, Option.bind_some] at hy ⊢
  cases hf : fr[t]? with
  | none => simp [hf] at hy
  | some c =>
   obtain ⟨x, hx, hr⟩ := h.get hf
   simp only [hf] at hy
   have hx' : tmps[t]? = some x := by simpa using hx
   rw [hx']
   cases c with
   | bool b =>
    simp only [bne_iff_ne, ne_eq] at hy
    rw [rel_bool hr]
    simpa using hy
   | tup cs =>
    cases cs with
    | nil =>
     simp only [Rel, RelL] at hr
     obtain ⟨xs, rfl, _⟩ := hr
     simp
    | cons c cs => simp at hy
   | _ => simp at hy
theorem wanted_rel {w : World} {Z : Nat → Prop} {μ : List Value} {ops : Array Oper} {fr : List AV} {tmps : Array Value} {o : Oper} (h : RelL w Z μ fr tmps.toList) (hw : WantedA ops o fr) : Region.wanted o (yielded ops tmps) = true := by
 unfold Region.wanted
 rcases hw with hg | ⟨j, b, hg, hy⟩
 ·rw [hg]
 ·rw [hg]
  simp [yield_rel h hy]
theorem put_rel {w : World} {Z : Nat → Prop} {μ : List Value} {fr : List AV} {a : Act} (h : RelL w Z μ fr a.tmps.toList) (d : Option Tmp) {v : AV} {x : Value} (hv : Rel w Z μ v x) : RelL w Z μ (putF fr d v) (a.put d x).tmps.toList := by
 cases d with
 | none => exact h
 | some t => simpa [putF, Act.put] using h.set t hv
theorem put_defers' (a : Act) (d : Option Tmp) (x : Value) : (a.put d x).defers = a.defers := by cases d <;> rfl
theorem zone_new {Z0 F : Nat → Prop} {B : Nat} {w : World} (hB : B ≤ w.heap.size) (hF : ∀ b, F b → B ≤ b ∧ b < w.heap.size) : ∀ b, w.heap.size ≤ b → Zone Z0 F B b := fun b h => .inr ⟨Nat.le_trans hB h, fun h2 => absurd (hF b h2).2 (by omega)⟩
theorem ObjRel.weak {w : World} {Z Z' : Nat → Prop} {μ : List Value} {B : Nat} {u : Value} {o : AObj} (hz : ∀ b, b < w.heap.size → ¬ Z b → ¬ Z' b) (h : ObjRel w Z μ B u o) : ObjRel w Z' μ B u o := by
 cases o with
 | box t cs => obtain ⟨g, xs, h1, h2, h3, h4⟩ := h; exact ⟨g, xs, h1, h2, h3, h4.weak hz⟩
 | list e s n cs => obtain ⟨xs, h1, h2⟩ := h; exact ⟨xs, h1, h2.weak hz⟩
 | dead => trivial
 | frame us cs => exact RelL.weak hz h
 | inert x => exact InertRel.keep (fun b h1 h2 => ⟨rfl, hz b h1 h2⟩) h
theorem HRel.weak {w : World} {Z Z' : Nat → Prop} {B : Nat} {μ : List Value} {hp : List AObj} (hz : ∀ b, b < w.heap.size → ¬ Z b → ¬ Z' b) (hzz : ∀ b, b < w.heap.size → Z b → Z' b) (h : HRel w Z B μ hp) : HRel w Z' B μ hp :=
 ⟨h.len, fun i o u g h1 ha h2 hg => hzz g ((h.obj i o u h1 h2).blk_ge ha hg).2 (h.zone i o u g h1 ha h2 hg), h.one, fun i o u h1 h2 => (h.obj i o u h1 h2).weak hz, h.sep⟩
theorem zone_more {Z0 F F' : Nat → Prop} {B : Nat} (b : Nat) (h : ¬ Zone Z0 F B b) : ¬ Zone Z0 (fun b => F b ∨ F' b) B b := fun hz => h (hz.elim .inl (fun h2 => .inr ⟨h2.1, fun hf => h2.2 (.inl hf)⟩))
def Fc (rd : Option Nat) : Fence := { Fence.wide with round := rd }
theorem CallsIn.of_calls {rd : Option Nat} {n : Nat} {P : Program} {f : FuncId} {args : Array Value} {w : World} {R : Ending → World → Prop} (h : Calls P f args w R) : CallsIn (Fc rd) n P f args w R := callsIn_wide (n := n).2 h
theorem wpIn_of_run {rd : Option Nat} {P : Program} {o : Oper} {a : Act} {w : World} {K : Act → World → Prop} {Q : Exit → Act → World → Prop} (hnd : ∀ c, o.op ≠ .defer c)
  (h : o.uponIn (Fc rd) 0 P a K Q ((execOp a.eval o).run P w)) : o.wpIn (Fc rd) 0 P a w K Q := by
 refine ⟨fun _ _ => trivial, ?_⟩
 cases rd with
 | none => show o.uponIn (Fc none) 0 P a K Q ((o.semAt none a.eval).run P w); rw [Oper.semAt_none]; exact h
 | some l => show o.uponIn (Fc (some l)) 0 P a K Q ((o.semAt (some l) a.eval).run P w); rw [Oper.semAt_some l _ _ hnd]; exact h
theorem calls_of_wpIn {P : Program} {f : FuncId} {fn : Func} {c : Code} {args : Array Value} {w : World} {R : Ending → World → Prop} (hf : P.funcs[f]? = some fn) (hb : fn.body = some c)
  (h : c.wpIn (Fc none) 0 P (bodyPost P fn R) { tmps := args ++ Array.replicate (fn.ntmps - args.size) undef, defers := [] } w) : Calls P f args w R :=
 callsIn_wide.1 (callsIn_of_wp (F := Fence.wide) (n := 0) hf hb trivial h)
theorem upon_enter {rd : Option Nat} {P : Program} {o : Oper} {a : Act} {w : World} {K : Act → World → Prop} {Q : Exit → Act → World → Prop} {f : FuncId} {args : Array Value} {R : Ending → World → Prop} (h : Calls P f args w R)
  (hR : ∀ e w', R e w' → ∃ v, e = .returned v ∧ K (a.put o.dst v) w') : o.uponIn (Fc rd) 0 P a K Q (.ok (.enter f args) w) := by
 rw [Oper.uponIn_enter]
 refine ⟨fun hd => absurd hd (by simp [Fc, Fence.wide]), CallsIn.of_calls (h.mono ?_)⟩
 intro e w' hr
 obtain ⟨v, rfl, hk⟩ := hR e w' hr
 exact hk
theorem own_lst {w : World} {Z Z' : Nat → Prop} {μ : List Value} {B e s n : Nat} {u : Value} {cs : List AV} {xs : List Value} (hown : w.ownsRow B e s u n xs) (hx : RelL w Z [] cs xs) (hz : ∀ b, b < w.heap.size → ¬ Z b → ¬ Z' b) (hg : ∀ g, blk u = some g → ¬ Z' g) :
  Rel w Z' μ (.lst s n cs) u := by
 have hlen := hx.length
 have hl := hown.1
 simp only [Rel]
 rcases hown.2 with ⟨rfl, rfl⟩ | ⟨g, cap, cur, rfl, hB, hh, hnc, hcm, hcs, ht⟩
 ·have : xs = [] := List.eq_nil_of_length_eq_zero (by simpa using hl)
  subst this
  exact ⟨none, 0, [], rfl, by simp at hlen; simp [← hlen], Nat.le_refl _, fun h => absurd rfl h, hx.weak hz⟩
 ·refine ⟨some ⟨g, 0, none⟩, cap, xs, rfl, by omega, hnc, fun _ => ⟨_, rfl, hg g rfl, fun j v hv => ?_⟩, hx.weak hz⟩
  rw [add_lit', Nat.zero_add, hown.cellAt j (by have := (List.getElem?_eq_some_iff.1 hv).1; omega)]
  exact hv
theorem call_wp {rd : Option Nat} {P : Program} {Z0 F : Nat → Prop} {w0 w : World} {μ : List Value} {hp : List AObj} {e : Operand → AV} {ρ : Operand → Value} {o : Oper} {a : Act} {v : AV} {news : List AObj} {K : Act → World → Prop} {Q : Exit → Act → World → Prop}
  (hρ : ρ = a.eval) (hF : ∀ b, F b → w0.heap.size ≤ b ∧ b < w.heap.size) (hH : HRel w (Zone Z0 F w0.heap.size) w0.heap.size μ hp) (hE : ∀ x, Rel w (Zone Z0 F w0.heap.size) μ (e x) (ρ x)) (hB : w0.heap.size ≤ w.heap.size) (h : CallR P e hp o.op v news)
  (hK : ∀ x w' μs (F' : Nat → Prop), Below w.heap.size w w' → (∀ b, F' b → w0.heap.size ≤ b ∧ b < w'.heap.size) → HRel w' (Zone Z0 (fun b => F b ∨ F' b) w0.heap.size) w0.heap.size (μ ++ μs) (hp ++ news) → Rel w' (Zone Z0 (fun b => F b ∨ F' b) w0.heap.size) (μ ++ μs) v x → K (a.put o.dst x) w') : o.wpIn (Fc rd) 0 P a w K Q := by
 obtain ⟨dst, op, ty, pos, after, guard⟩ := o
 simp only at h hK ⊢
 subst hρ
 -- both ways: the arguments stand for avs, outside Z'
 have main : ∀ {c : Operand} {args : Array Operand} {tys : Array TypeId} (f : FuncId) (caps avs : List AV) (res : AV) (Z' : Nat → Prop), op = .call { callee := .value c, args := args, argTypes := tys } → e c = .fn f caps →
   (∀ vs, RelL w (Zone Z0 F w0.heap.size) μ (args.toList.map e ++ caps) vs → RelL w (Zone Z' NoF w.heap.size) [] avs vs) → CallA P f avs res →
   (∀ w' v bs (F' : Nat → Prop), Below w.heap.size w w' → RF w' (Zone Z' F' w.heap.size) w.heap.size res v bs → RF w' (Zone Z0 (fun b => F b ∨ F' b) w0.heap.size) w0.heap.size res v bs) → v = (imp hp.length res).1 → news = (imp hp.length res).2 →
   Oper.wpIn (Fc rd) 0 P { dst := dst, op := op, type := ty, pos := pos, after := after, guard := guard } a w K Q := by
  intro c args tys f caps avs res Z' hop hc hargs hcall hres hv hn
  subst hop hv hn
  have hcv := hc ▸ hE c
  simp only [Rel] at hcv
  obtain ⟨cv, hcv, hrc⟩ := hcv
  have hargs' : RelL w (Zone Z0 F w0.heap.size) μ (args.toList.map e) (args.toList.map a.eval) := by
   generalize args.toList = l
   induction l with
   | nil => exact RelL.nil
   | cons x l ih => exact RelL.cons (hE x) ih
  have hall := hargs _ (hargs'.append hrc)
  obtain ⟨hen, hcall⟩ := hcall
  have hC := hcall Z' w _ hall
  have hrun : (execOp a.eval { dst := dst, op := .call { callee := .value c, args := args, argTypes := tys }, type := ty, pos := pos, after := after, guard := guard }).run P w = .ok (.enter f (args.toList.map a.eval ++ cv).toArray) w := by
   have e1 : (args.map a.eval ++ cv.toArray) = (args.toList.map a.eval ++ cv).toArray := by
    apply Array.toList_inj.1; simp
   simp only [execOp, resolve, Deferred.ofValue, hcv, Sem.run_bind, Sem.run_pure, Result.andThen_ok, invoke, Array.empty_append]
   rw [e1]
   exact hen _ _
  refine wpIn_of_run (fun c => by simp) ?_
  rw [hrun]
  refine upon_enter hC ?_
  rintro en w' ⟨x, bs, F', rfl, hF', hrf, hnd, hbf, hbel⟩
  refine ⟨x, rfl, ?_⟩
  have hrf2 := hres w' x bs F' hbel hrf
  obtain ⟨μs, ht, hr⟩ := imp_sound μ hp.length hH.len hrf2
  refine hK x w' μs F' hbel (fun b hb => ⟨Nat.le_trans hB (hF' b hb).1, (hF' b hb).2⟩) ?_ hr
  refine HRel.extend (bs := bs) (hH.weak (fun b _ hz => zone_more b hz) (fun b hb hz => ?_)) hbel ht (fun g hg => RF.ge hrf g hg) (fun g hg => ?_) hnd
  ·exact hz.elim .inl (fun h2 => .inr ⟨h2.1, fun hf => hf.elim h2.2 (fun h3 => absurd (hF' b h3).1 (by omega))⟩)
  ·have := RF.ge hrf g hg
   exact .inr ⟨by omega, fun hf => hf.elim (fun h3 => absurd (hF g h3).2 (by omega)) (hbf g hg)⟩
 cases h with
 | pure f caps res hc hl hcall =>
  refine main f caps _ res (Zone Z0 F w0.heap.size) rfl hc (fun vs hvs => ?_) hcall (fun w' v bs F' hbel hrf => hrf.older hB (fun b hb hz hz2 => hz ?_)) rfl rfl
  ·exact RelL.weak (fun b hb hz hz2 => hz2.elim (fun h => hz h.2) (fun h => absurd hb (by omega))) (RelL.leafy hl hvs)
  ·rcases hz2 with h | h
   ·exact .inl ⟨Nat.lt_of_lt_of_le h.1 hB, .inl h⟩
   ·rcases Nat.lt_or_ge b w.heap.size with hlt | hge
    ·exact .inl ⟨hlt, .inr ⟨h.1, fun hf => h.2 (.inl hf)⟩⟩
    ·exact .inr ⟨hge, fun hf => h.2 (.inr hf)⟩
 | snap f caps avs res hc hs hcall hcl =>
  refine main f caps avs res (fun _ => False) rfl hc (fun vs hvs => ?_) hcall (fun w' v bs F' hbel hrf => ?_) rfl rfl
  ·exact RelL.weak (fun b hb hz hz2 => hz2.elim (fun h => h.2) (fun h => hz h.1)) (SnapL.sound hH hs hvs)
  ·exact (hrf.older hB (Z' := Zone (fun _ => False) F' w.heap.size) (fun b _ hz hz2 => hz hz2)).weak hcl
 | lit el s by_ zs cs ht hn hf hlf =>
  rename_i t n parts
  have hEf : EffR P e hp (.buildSlice t n parts) (.ref hp.length) [.list el s n cs] := .buildSlice el s by_ zs cs ht hn hf hlf
  obtain ⟨x, w', μs, hr, hbel, hH', hv⟩ := EffR.sound (o := { dst := dst, op := .buildSlice t n parts, type := ty, pos := pos, after := after, guard := guard }) hH (zone_new (Z0 := Z0) hB hF) hE hB hEf
  refine wpIn_of_run (fun c => by simp) ?_
  rw [hr]
  simp only [Rel] at hv
  have hobj := hH'.obj hp.length (.list el s n cs) x (by simp) hv
  have hbg := fun g => hobj.blk_ge rfl (g := g)
  obtain ⟨ys, hown, hx⟩ := hobj
  have hz : ∀ b, b < w'.heap.size → ¬ Zone Z0 F w0.heap.size b → ¬ Zone Z0 (fun b => F b ∨ blk x = some b) w0.heap.size b := fun b _ h => zone_more b h
  have hr2 : Rel w' (Zone Z0 (fun b => F b ∨ blk x = some b) w0.heap.size) (μ ++ []) (.lst s n cs) x := own_lst hown hx hz (fun g hg hzz => hzz.elim (fun h => by
   have := (hbg g hg).1
   omega) (fun h => h.2 (.inr hg)))
  have hHk := HRel.extend (os := []) (μs := []) (bs := []) hH hbel ⟨rfl, fun i o u ho => by simp at ho, rfl, fun u hu => by simp at hu⟩ (fun g hg => by simp at hg) (fun g hg => by simp at hg) List.nodup_nil
  refine hK x w' [] (fun b => blk x = some b) hbel hbg ⟨hHk.len, fun i oi ui g h1 ha h2 hg => ?_, hHk.one, fun i oi ui h1 h2 => (hHk.obj i oi ui h1 h2).weak hz, hHk.sep⟩ hr2
  have h3 := hHk.zone i oi ui g h1 ha h2 hg
  refine h3.elim .inl fun h => .inr ⟨h.1, fun hf => hf.elim h.2 fun h4 => ?_⟩
  rw [List.append_nil] at h1 h2
  have hil := (List.getElem?_eq_some_iff.1 h1).1
  exact hH'.sep i hp.length oi (.list el s n cs) ui x g (by omega) (by rw [List.getElem?_append_left hil]; exact h1) (by simp) ha rfl (append_old i ui h2) hv hg h4
theorem EffR.not_defer {P : Program} {e : Operand → AV} {hp news : List AObj} {op : Op} {v : AV} (h : EffR P e hp op v news) : ∀ c, op ≠ .defer c := by
 rintro c rfl
 cases h
theorem EffW.not_defer {P : Program} {e : Operand → AV} {hp hp' : List AObj} {op : Op} {v : AV} {kl : Option Nat} (h : EffW P e hp op v kl hp') : ∀ c, op ≠ .defer c := by
 rintro c rfl
 cases h
theorem StepR.sound {rd : Option Nat} {P : Program} {Z0 : Nat → Prop} {w0 : World} {ops : Array Oper} {o : Oper} {st st' : St} {a : Act} {w : World} {K : Act → World → Prop} {Q : Exit → Act → World → Prop}
  (h : StepR P ops o st st') (hS : Sim Z0 w0 st a w) (hK : ∀ a' w', Sim Z0 w0 st' a' w' → K a' w') : if Region.wanted o (yielded ops a.tmps) then o.wpIn (Fc rd) 0 P a w K Q else (∀ f, o.about P w a.eval = some f → (Fc rd).fn f) ∧ K (a.put o.dst undef) w := by
 obtain ⟨μ, F, hFb, hH, hF, hd, hb⟩ := hS
 have hB := hb.size
 have hZn := zone_new (Z0 := Z0) hB hFb
 cases h with
 | skip j want hg hn =>
  have : Region.wanted o (yielded ops a.tmps) = false := by
   unfold Region.wanted
   rw [hg]
   simpa using no_rel hF hn
  rw [this]
  refine ⟨fun _ _ => trivial, ?_⟩
  exact hK _ _ ⟨μ, F, hFb, hH, put_rel hF _ (by simp only [Rel]; exact ⟨[], rfl, RelL.nil⟩), by rw [put_defers']; exact hd, hb⟩
 | eff hw h =>
  rw [wanted_rel hF hw, if_pos rfl]
  obtain ⟨x, w', μs, hr, hbel, hH', hv⟩ := EffR.sound hH hZn (fun y => ev_rel hF y) hB h
  refine wpIn_of_run h.not_defer ?_
  rw [hr]
  exact hK _ _ ⟨μ ++ μs, F, fun b h => ⟨(hFb b h).1, Nat.lt_of_lt_of_le (hFb b h).2 hbel.size⟩, hH', put_rel (hF.keep (fun b hb1 _ => hbel.block b hb1) (fun i u hu => append_old i u hu)) _ hv, by rw [put_defers']; exact hd.app, hb.trans (hbel.mono hB)⟩
 | call hw h =>
  rw [wanted_rel hF hw, if_pos rfl]
  refine call_wp rfl hFb hH (fun y => ev_rel hF y) hB h fun x w' μs F' hbel hF' hH' hv => ?_
  refine hK _ _ ⟨μ ++ μs, _, fun b h => ?_, hH', put_rel ((hF.weak (fun b _ hz => zone_more b hz)).keep (fun b hb1 _ => hbel.block b hb1) (fun i u hu => append_old i u hu)) _ hv, by rw [put_defers']; exact hd.app, hb.trans (hbel.mono hB)⟩
  rcases h with h | h
  ·exact ⟨(hFb b h).1, Nat.lt_of_lt_of_le (hFb b h).2 hbel.size⟩
  ·exact hF' b h
 | write hw h =>
  rename_i v kl hp'
  rw [wanted_rel hF hw, if_pos rfl]
  obtain ⟨x, w', μ', nx, hr, hnx, hbel, hH', hv, hk, hsz, hm⟩ := EffW.sound hH hZn (fun y => ev_rel hF y) hB h
  have hF' : RelL w' (Zone Z0 F w0.heap.size) μ' (killF kl st.fr) a.tmps.toList := by
   cases kl with
   | none => exact hF.keep hk (fun i u hu => hm i u (by simp) hu)
   | some k => exact hF.keep_kill k hk (fun i u hne hu => hm i u (by simpa using Ne.symm hne) hu)
  have hfin : Sim Z0 w0 ⟨putF (killF kl st.fr) o.dst v, hp'⟩ (a.put o.dst x) w' := ⟨μ', F, fun b h => ⟨(hFb b h).1, Nat.lt_of_lt_of_le (hFb b h).2 hsz⟩, hH', put_rel hF' _ hv, by rw [put_defers']; exact hd.keep fun i x hi => ⟨(h.inert hi).1, fun u hu => hm i u (h.inert hi).2 hu⟩, hb.trans hbel⟩
  refine wpIn_of_run h.not_defer ?_
  rw [hr]
  rcases hnx with rfl | ⟨rfl, rfl⟩
  ·exact hK _ _ hfin
  ·exact hK _ _ hfin
 | callS hnm hw f caps res hp' hop hc hcall =>
  rename_i c args tys
  rw [wanted_rel hF hw, if_pos rfl]
  have hE : ∀ y, Rel w (Zone Z0 F w0.heap.size) μ (ev st.fr y) (a.eval y) := fun y => ev_rel hF y
  have hcv := hc ▸ hE c
  simp only [Rel] at hcv
  obtain ⟨cv, hcv, hrc⟩ := hcv
  have hargs' : RelL w (Zone Z0 F w0.heap.size) μ (args.toList.map (ev st.fr)) (args.toList.map a.eval) := by
   generalize args.toList = l
   induction l with
   | nil => exact RelL.nil
   | cons x l ih => exact RelL.cons (hE x) ih
  obtain ⟨hen, hcall⟩ := hcall
  have hC := hcall Z0 F w0 w μ _ _ st.fr hFb hH (hargs'.append hrc) hF hb
  have hrun : (execOp a.eval o).run P w = .ok (.enter f (args.toList.map a.eval ++ cv).toArray) w := by
   have e1 : (args.map a.eval ++ cv.toArray) = (args.toList.map a.eval ++ cv).toArray := by
    apply Array.toList_inj.1; simp
   simp only [execOp, hop, resolve, Deferred.ofValue, hcv, Sem.run_bind, Sem.run_pure, Result.andThen_ok, invoke, Array.empty_append]
   rw [e1]
   exact hen _ _
  refine wpIn_of_run (fun c' => by rw [hop]; simp) ?_
  rw [hrun]
  refine upon_enter hC ?_
  rintro en w' ⟨x, μ', F', rfl, hFb', hH', hr, hF', hbel⟩
  exact ⟨x, rfl, hK _ _ ⟨μ', F', hFb', hH', put_rel hF' _ hr, by rw [put_defers']; exact .inl (hd.none hnm), hbel⟩⟩
inductive OpsR (P : Program) (ops : Array Oper) : List Oper → St → St → Prop
 | nil {st} : OpsR P ops [] st st
 | cons {o rest st st1 st2} (h : StepR P ops o st st1) (h' : OpsR P ops rest st1 st2) : OpsR P ops (o :: rest) st st2
theorem ops_sound {rd : Option Nat} {P : Program} {Z0 : Nat → Prop} {w0 : World} {ops : Array Oper} {Q : Exit → Act → World → Prop} : ∀ {l : List Oper} {st st' : St} {a : Act} {w : World}, OpsR P ops l st st' → Sim Z0 w0 st a w →
  (∀ a' w', Sim Z0 w0 st' a' w' → Q .normal a' w') → wpListIn (Fc rd) 0 P ops Q l a w
 | [], _, _, a, w, .nil, hS, hQ => wpListIn_nil (hQ a w hS)
 | _ :: _, _, _, _, _, .cons h h', hS, hQ => wpListIn_step fun _ hK => h.sound hS fun a' w' hS' => hK a' w' (ops_sound h' hS' hQ)

def RunA (rd : Option Nat) (P : Program) (c : Code) (st : St) (Q : Exit → St → Prop) : Prop :=
 ∀ (Z0 : Nat → Prop) (w0 : World) (a : Act) (w : World), Sim Z0 w0 st a w → c.wpIn (Fc rd) 0 P (fun e a' w' => ∃ st', Q e st' ∧ Sim Z0 w0 st' a' w') a w
theorem RunA.region {rd : Option Nat} {P : Program} {id : Nat} {l : List Oper} {st st' : St} {Q : Exit → St → Prop} (h : OpsR P l.toArray l st st') (hQ : Q .normal st') : RunA rd P (.region id l.toArray false) st Q :=
 fun _ _ _ _ hS => wpIn_region_lit (ops_sound h hS fun _ _ hS' => ⟨_, hQ, hS'⟩)
theorem RunA.seq {rd : Option Nat} {P : Program} {x y : Code} {st : St} {Q : Exit → St → Prop} (h : RunA rd P x st fun e st' => match e with | .normal => RunA rd P y st' Q | e => Q e st') : RunA rd P (.seq x y) st Q := by
 intro Z0 w0 a w hS
 refine wpIn_seq (wpIn_mono (h Z0 w0 a w hS) ?_)
 rintro e a' w' ⟨st', hq, hS'⟩
 cases e with
 | normal => exact hq Z0 w0 a' w' hS'
 | exit id => exact ⟨st', hq, hS'⟩
 | goto l => exact ⟨st', hq, hS'⟩
 | ret => exact ⟨st', hq, hS'⟩
 | panic ch => exact ⟨st', hq, hS'⟩
 | outgrown => exact ⟨st', hq, hS'⟩
theorem RunA.skip {rd : Option Nat} {P : Program} {st : St} {Q : Exit → St → Prop} (h : Q .normal st) : RunA rd P .skip st Q := fun _ _ _ _ hS => wpIn_skip ⟨_, h, hS⟩
theorem RunA.exit {rd : Option Nat} {P : Program} {id : Nat} {st : St} {Q : Exit → St → Prop} (h : Q (.exit id) st) : RunA rd P (.exit id) st Q := fun _ _ _ _ hS => wpIn_exit ⟨_, h, hS⟩
theorem RunA.ret {rd : Option Nat} {P : Program} {st : St} {Q : Exit → St → Prop} (h : Q .ret st) : RunA rd P .ret st Q := fun _ _ _ _ hS => wpIn_ret ⟨_, h, hS⟩
theorem RunA.cond {rd : Option Nat} {P : Program} {c : Operand} {x y : Code} {st : St} {Q : Exit → St → Prop} (b : Bool) (hc : ev st.fr c = .bool b) (ht : b = true → RunA rd P x st Q) (hf : b = false → RunA rd P y st Q) : RunA rd P (.cond c x y) st Q := by
 intro Z0 w0 a w hS
 have hS2 := hS
 obtain ⟨μ, F, hFb, hH, hF, hd, hb⟩ := hS2
 have h1 := rel_bool (hc ▸ ev_rel hF c)
 exact wpIn_cond_split h1 (fun e => ht e Z0 w0 a w hS) (fun e => hf e Z0 w0 a w hS)
theorem RunA.block {rd : Option Nat} {P : Program} {id : Nat} {c : Code} {st : St} {Q : Exit → St → Prop} (h : RunA rd P c st fun e st' => match e with | .exit id' => if id' = id then Q .normal st' else Q (.exit id') st' | e => Q e st') : RunA rd P (.block id c) st Q := by
 intro Z0 w0 a w hS
 refine wpIn_block (wpIn_mono (h Z0 w0 a w hS) ?_)
 rintro e a' w' ⟨st', hq, hS'⟩
 cases e with
 | exit id' =>
  simp only [Exit.inBlock]
  by_cases hid : id' = id
  ·simp only [hid, if_true] at hq ⊢
   exact ⟨st', hq, hS'⟩
  ·simp only [hid, if_false] at hq ⊢
   exact ⟨st', hq, hS'⟩
 | normal => exact ⟨st', hq, hS'⟩
 | goto l => exact ⟨st', hq, hS'⟩
 | ret => exact ⟨st', hq, hS'⟩
 | panic ch => exact ⟨st', hq, hS'⟩
 | outgrown => exact ⟨st', hq, hS'⟩
def Sub (st st' : St) : Prop := ∀ (Z0 : Nat → Prop) (w0 : World) (a : Act) (w : World), Sim Z0 w0 st a w → Sim Z0 w0 st' a w
theorem Sub.refl (st : St) : Sub st st := fun _ _ _ _ h => h
theorem Sub.trans {a b c : St} (h : Sub a b) (h' : Sub b c) : Sub a c := fun _ _ _ _ hS => h' _ _ _ _ (h _ _ _ _ hS)
theorem RunA.sub {rd : Option Nat} {P : Program} {c : Code} {st st' : St} {Q : Exit → St → Prop} (hs : Sub st st') (h : RunA rd P c st' Q) : RunA rd P c st Q := fun Z0 w0 a w hS => h Z0 w0 a w (hs _ _ _ _ hS)
theorem RunA.post {rd : Option Nat} {P : Program} {c : Code} {st : St} {Q Q' : Exit → St → Prop} (h : RunA rd P c st Q) (hq : ∀ e st', Q e st' → ∃ st'', Sub st' st'' ∧ Q' e st'') : RunA rd P c st Q' := fun Z0 w0 a w hS =>
 wpIn_mono (h Z0 w0 a w hS) fun e _ _ ⟨st', h1, h2⟩ => let ⟨st'', h3, h4⟩ := hq e st' h1; ⟨st'', h4, h3 _ _ _ _ h2⟩
theorem RunA.mono {rd : Option Nat} {P : Program} {c : Code} {st : St} {Q Q' : Exit → St → Prop} (h : RunA rd P c st Q) (hq : ∀ e st', Q e st' → Q' e st') : RunA rd P c st Q' := h.post fun e st' h1 => ⟨st', Sub.refl _, hq e st' h1⟩
theorem RunA.loop {rd : Option Nat} {P : Program} {c : Code} {st : St} {Q : Exit → St → Prop} (I : Nat → St → Prop) (n : Nat) (h0 : I n st)
  (round : ∀ n st, I n st → RunA rd P c st fun e st' => match e with | .normal => ∃ st'', Sub st' st'' ∧ ∃ n', n' < n ∧ I n' st'' | e => Q e st') : RunA rd P (.loop c) st Q := by
 intro Z0 w0 a w hS
 intro b k cs hro hb hr
 have key : ∀ (n : Nat) st a w, I n st → Sim Z0 w0 st a w →
   ∃ e a' w', (∃ st', Q e st' ∧ Sim Z0 w0 st' a' w') ∧ ArrivesIn (Machine.fenced P (Fc rd)) P (lone (b.atR a (.code c :: .inLoop c :: k)) cs w) b k cs e a' w' := by
  intro n
  induction n using Nat.strongRecOn with
  | _ n ih =>
   intro st a w hI hS
   obtain ⟨e, a1, w1, ⟨st1, hq, hS1⟩, harr⟩ := round n st hI Z0 w0 a w hS b (.inLoop c :: k) cs hro hb hr
   cases e with
   | normal =>
    obtain ⟨st2, hsub, n', hlt, hI'⟩ := hq
    obtain ⟨e2, a2, w2, hq2, harr2⟩ := ih n' hlt st2 a1 w1 hI' (hsub _ _ _ _ hS1)
    exact ⟨e2, a2, w2, hq2, .of_steps (StepsIn.trans harr (.one (fenced_calm hb hr rfl) stepR_inLoop)) harr2⟩
   | exit id => exact ⟨_, a1, w1, ⟨st1, hq, hS1⟩, .pass (x := .inLoop c) rfl (fun _ _ => .inl (by simp)) harr⟩
   | goto l => exact ⟨_, a1, w1, ⟨st1, hq, hS1⟩, .pass (x := .inLoop c) rfl (fun _ _ => .inl (by simp)) harr⟩
   | ret => exact ⟨_, a1, w1, ⟨st1, hq, hS1⟩, .pass (x := .inLoop c) rfl (fun _ _ => .inl (by simp)) harr⟩
   | panic ch => exact ⟨_, a1, w1, ⟨st1, hq, hS1⟩, .pass (x := .inLoop c) rfl (fun _ _ => .inl (by simp)) harr⟩
   | outgrown => exact ⟨_, a1, w1, ⟨st1, hq, hS1⟩, .pass (x := .inLoop c) rfl (fun _ _ => .inl (by simp)) harr⟩
 obtain ⟨e, a', w', hq, harr⟩ := key n st a w h0 hS
 exact ⟨e, a', w', hq, .of_steps (.one (fenced_calm hb hr rfl) stepR_loop) harr⟩
end Go.Abs
