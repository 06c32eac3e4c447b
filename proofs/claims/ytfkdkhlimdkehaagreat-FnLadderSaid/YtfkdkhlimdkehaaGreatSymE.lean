/- Calls by value: what a call is handed, what it hands back, and how its results are taken in. -/
import Derived.Test.YtfkdkhlimdkehaaGreatSymD
namespace Go.Abs
open Go.RowKit

mutual
/-- A result: v stands for c, in new blocks bs (one for each slice of its own that is not nil). -/
def RF (w : World) (Z : Nat → Prop) (B : Nat) : AV → Value → List Nat → Prop
  | .own e s n cs, v, bs => ∃ xs, w.ownsRow B e s v n xs ∧ RelL w Z [] cs xs ∧ bs = (blk v).toList
  | .agg cs, v, bs => ∃ xs, v = .agg xs.toArray ∧ RFL w Z B cs xs bs
  | .tup cs, v, bs => ∃ xs, v = .tuple xs.toArray ∧ RFL w Z B cs xs bs
  | .int k n, v, bs => v = .int k n ∧ bs = []
  | .bool b, v, bs => v = .bool b ∧ bs = []
  | .str s, v, bs => v = .string s ∧ bs = []
  | .nil, v, bs => v = .slice none 0 0 ∧ bs = []
  | .lst s n cs, v, bs => Rel w Z [] (.lst s n cs) v ∧ bs = []
  | .clp s n cs, v, bs => Rel w Z [] (.clp s n cs) v ∧ bs = []
  | .rptr cs, v, bs => Rel w Z [] (.rptr cs) v ∧ bs = []
  | .top, _, bs => bs = []
  | .ref _, _, _ => False
  | .ptr _ _, _, _ => False
  | .fn f cs, v, bs => Rel w Z [] (.fn f cs) v ∧ bs = []
def RFL (w : World) (Z : Nat → Prop) (B : Nat) : List AV → List Value → List Nat → Prop
  | [], vs, bs => vs = [] ∧ bs = []
  | c :: cs, vs, bs => ∃ x xs b1 b2, vs = x :: xs ∧ RF w Z B c x b1 ∧ RFL w Z B cs xs b2 ∧ bs = b1 ++ b2
end

/-- A function that is entered when it is called. -/
def Enters (P : Program) (f : FuncId) : Prop := ∀ (args : Array Value) (w : World), (callFunc f args).run P w = .ok (.enter f args) w

theorem enters_of {P : Program} {f : FuncId} {fn : Func} (h : P.funcs[f]? = some fn) (hn : (fn.name == "runtime.NumGoroutine") = false) (hb : fn.body.isNone = false) : Enters P f := by
  intro args w
  simp only [callFunc, Sem.run_bind, program, Sem.run, Result.andThen_ok, h, hn, hb, Bool.false_eq_true, if_false, Sem.run_pure]

/-- A call by value: whatever stands for the arguments, the call returns what stands for the result, and old memory is as it was; F': new blocks that nobody will write. -/
def CallA (P : Program) (f : FuncId) (args : List AV) (res : AV) : Prop :=
  Enters P f ∧ ∀ (Z0 : Nat → Prop) (w : World) (vs : List Value), RelL w (Zone Z0 NoF w.heap.size) [] args vs →
    Calls P f vs.toArray w fun e w' => ∃ v bs F', e = .returned v ∧ (∀ b, F' b → w.heap.size ≤ b ∧ b < w'.heap.size) ∧ RF w' (Zone Z0 F' w.heap.size) w.heap.size res v bs ∧ bs.Nodup ∧ (∀ b ∈ bs, ¬ F' b) ∧ Below w.heap.size w w'

mutual
/-- A result taken in: k is the next object's number. -/
def imp (k : Nat) : AV → AV × List AObj
  | .own e s n cs => (.ref k, [.list e s n cs])
  | .agg cs => (.agg (impL k cs).1, (impL k cs).2)
  | .tup cs => (.tup (impL k cs).1, (impL k cs).2)
  | .int kd n => (.int kd n, [])
  | .bool b => (.bool b, [])
  | .str s => (.str s, [])
  | .nil => (.nil, [])
  | .lst s n cs => (.lst s n cs, [])
  | .clp s n cs => (.clp s n cs, [])
  | .rptr cs => (.rptr cs, [])
  | .top => (.top, [])
  | .ref _ => (.top, [])
  | .ptr _ _ => (.top, [])
  | .fn f cs => (.fn f cs, [])
def impL (k : Nat) : List AV → List AV × List AObj
  | [] => ([], [])
  | c :: cs => ((imp k c).1 :: (impL (k + (imp k c).2.length) cs).1, (imp k c).2 ++ (impL (k + (imp k c).2.length) cs).2)
end

theorem ownsRow_one {w : World} {B e s n : Nat} {v : Value} {xs : List Value} (h : w.ownsRow B e s v n xs) : v.oneCell' = true := by
  rcases h.2 with ⟨rfl, _⟩ | ⟨g, cap, cur, rfl, _⟩ <;> rfl

theorem append_old {μ μs : List Value} (i : Nat) (u : Value) (h : μ[i]? = some u) : (μ ++ μs)[i]? = some u := by
  rw [List.getElem?_append_left (List.getElem?_eq_some_iff.1 h).1]; exact h

/-- What a result that is taken in stands for. -/
def Taken (w : World) (Z : Nat → Prop) (B : Nat) (μ μs : List Value) (os : List AObj) (bs : List Nat) : Prop :=
  μs.length = os.length ∧ (∀ (i : Nat) o u, os[i]? = some o → μs[i]? = some u → ObjRel w Z (μ ++ μs) B u o) ∧ μs.filterMap blk = bs ∧ ∀ u ∈ μs, u.oneCell' = true

theorem ObjRel.more {w : World} {Z : Nat → Prop} {B : Nat} {μ μs : List Value} {u : Value} {o : AObj} (h : ObjRel w Z μ B u o) : ObjRel w Z (μ ++ μs) B u o :=
  h.keep (fun _ _ _ => rfl) (fun i u hu => append_old i u hu) (fun _ _ => rfl)

mutual
theorem imp_sound {w : World} {Z : Nat → Prop} {B : Nat} : ∀ {c : AV} {v : Value} {bs : List Nat} (μ : List Value) (k : Nat), μ.length = k → RF w Z B c v bs →
    ∃ μs, Taken w Z B μ μs (imp k c).2 bs ∧ Rel w Z (μ ++ μs) (imp k c).1 v
  | .own e s n cs, v, bs, μ, k, hk, h => by
    simp only [RF] at h
    obtain ⟨xs, hown, hr, rfl⟩ := h
    refine ⟨[v], ⟨rfl, ?_, ?_, ?_⟩, ?_⟩
    · intro i o u ho hu
      cases i with
      | zero =>
        simp only [imp, List.getElem?_cons_zero, Option.some.injEq] at ho hu
        subst ho; subst hu
        exact ⟨xs, hown, hr⟩
      | succ i => simp at hu
    · cases hb : blk v <;> simp [hb]
    · intro u hu
      rw [List.mem_singleton] at hu
      subst hu
      exact ownsRow_one hown
    · simp only [imp, Rel]
      rw [List.getElem?_append_right (by omega)]
      simp [hk]
  | .agg cs, v, bs, μ, k, hk, h => by
    simp only [RF] at h
    obtain ⟨xs, rfl, hr⟩ := h
    obtain ⟨μs, h1, h5⟩ := impL_sound μ k hk hr
    exact ⟨μs, by simpa [imp] using h1, by simp only [imp, Rel]; exact ⟨xs, rfl, h5⟩⟩
  | .tup cs, v, bs, μ, k, hk, h => by
    simp only [RF] at h
    obtain ⟨xs, rfl, hr⟩ := h
    obtain ⟨μs, h1, h5⟩ := impL_sound μ k hk hr
    exact ⟨μs, by simpa [imp] using h1, by simp only [imp, Rel]; exact ⟨xs, rfl, h5⟩⟩
  | .int kd n, v, bs, μ, k, _, h => by
    simp only [RF] at h; obtain ⟨rfl, rfl⟩ := h
    exact ⟨[], ⟨rfl, fun i o u ho => by simp [imp] at ho, rfl, fun u hu => by simp at hu⟩, by simp [imp, Rel]⟩
  | .bool b, v, bs, μ, k, _, h => by
    simp only [RF] at h; obtain ⟨rfl, rfl⟩ := h
    exact ⟨[], ⟨rfl, fun i o u ho => by simp [imp] at ho, rfl, fun u hu => by simp at hu⟩, by simp [imp, Rel]⟩
  | .str s, v, bs, μ, k, _, h => by
    simp only [RF] at h; obtain ⟨rfl, rfl⟩ := h
    exact ⟨[], ⟨rfl, fun i o u ho => by simp [imp] at ho, rfl, fun u hu => by simp at hu⟩, by simp [imp, Rel]⟩
  | .nil, v, bs, μ, k, _, h => by
    simp only [RF] at h; obtain ⟨rfl, rfl⟩ := h
    exact ⟨[], ⟨rfl, fun i o u ho => by simp [imp] at ho, rfl, fun u hu => by simp at hu⟩, by simp [imp, Rel]⟩
  | .lst s n cs, v, bs, μ, k, _, h => by
    simp only [RF] at h; obtain ⟨h1, rfl⟩ := h
    exact ⟨[], ⟨rfl, fun i o u ho => by simp [imp] at ho, rfl, fun u hu => by simp at hu⟩, by simp only [imp]; exact h1.lift⟩
  | .clp s n cs, v, bs, μ, k, _, h => by
    simp only [RF] at h; obtain ⟨h1, rfl⟩ := h
    exact ⟨[], ⟨rfl, fun i o u ho => by simp [imp] at ho, rfl, fun u hu => by simp at hu⟩, by simp only [imp]; exact h1.lift⟩
  | .rptr cs, v, bs, μ, k, _, h => by
    simp only [RF] at h; obtain ⟨h1, rfl⟩ := h
    exact ⟨[], ⟨rfl, fun i o u ho => by simp [imp] at ho, rfl, fun u hu => by simp at hu⟩, by simp only [imp]; exact h1.lift⟩
  | .top, v, bs, μ, k, _, h => by
    simp only [RF] at h; subst h
    exact ⟨[], ⟨rfl, fun i o u ho => by simp [imp] at ho, rfl, fun u hu => by simp at hu⟩, by simp [imp, Rel]⟩
  | .ref _, v, bs, μ, k, _, h => by simp [RF] at h
  | .ptr _ _, v, bs, μ, k, _, h => by simp [RF] at h
  | .fn f cs, v, bs, μ, k, _, h => by
    simp only [RF] at h; obtain ⟨h1, rfl⟩ := h
    exact ⟨[], ⟨rfl, fun i o u ho => by simp [imp] at ho, rfl, fun u hu => by simp at hu⟩, by simp only [imp]; exact h1.lift⟩
theorem impL_sound {w : World} {Z : Nat → Prop} {B : Nat} : ∀ {cs : List AV} {vs : List Value} {bs : List Nat} (μ : List Value) (k : Nat), μ.length = k → RFL w Z B cs vs bs →
    ∃ μs, Taken w Z B μ μs (impL k cs).2 bs ∧ RelL w Z (μ ++ μs) (impL k cs).1 vs
  | [], vs, bs, μ, k, _, h => by
    simp only [RFL] at h; obtain ⟨rfl, rfl⟩ := h
    exact ⟨[], ⟨rfl, fun i o u ho => by simp [impL] at ho, rfl, fun u hu => by simp at hu⟩, by simp [impL, RelL]⟩
  | c :: cs, vs, bs, μ, k, hk, h => by
    simp only [RFL] at h
    obtain ⟨x, xs, b1, b2, rfl, hr1, hr2, rfl⟩ := h
    obtain ⟨μ1, ⟨h1, h2, h3, h4⟩, h5⟩ := imp_sound μ k hk hr1
    obtain ⟨μ2, ⟨g1, g2, g3, g4⟩, g5⟩ := impL_sound (μ ++ μ1) (k + (imp k c).2.length) (by simp [hk, h1]) hr2
    refine ⟨μ1 ++ μ2, ⟨by simp [impL, h1, g1], ?_, by simp [h3, g3], ?_⟩, ?_⟩
    · intro i o u ho hu
      rw [← List.append_assoc]
      rcases Nat.lt_or_ge i μ1.length with hi | hi
      · rw [List.getElem?_append_left hi] at hu
        simp only [impL] at ho
        rw [List.getElem?_append_left (by omega)] at ho
        exact (h2 i o u ho hu).more
      · rw [List.getElem?_append_right hi] at hu
        simp only [impL] at ho
        rw [List.getElem?_append_right (by omega)] at ho
        exact g2 (i - μ1.length) o u (by rw [h1]; exact ho) hu
    · intro u hu
      rcases List.mem_append.1 hu with hu | hu
      · exact h4 u hu
      · exact g4 u hu
    · rw [← List.append_assoc]
      simp only [impL]
      exact RelL.cons (h5.keep (fun _ _ _ => rfl) (fun i u hu => append_old i u hu)) g5
end

theorem nodup_get {μs : List Value} : ∀ {i j : Nat} {ui uj : Value} {g : Nat}, (μs.filterMap blk).Nodup → i < j → μs[i]? = some ui → μs[j]? = some uj → blk ui = some g → blk uj = some g → False := by
  induction μs with
  | nil => intro i j ui uj g _ _ h; simp at h
  | cons u μs ih =>
    intro i j ui uj g hn hij hi hj bi bj
    cases j with
    | zero => omega
    | succ j =>
      have hn' : (μs.filterMap blk).Nodup := by
        cases hb : blk u with
        | none => rw [List.filterMap_cons_none hb] at hn; exact hn
        | some b => rw [List.filterMap_cons_some hb] at hn; exact (List.nodup_cons.1 hn).2
      cases i with
      | zero =>
        simp only [List.getElem?_cons_zero, Option.some.injEq] at hi
        subst hi
        rw [List.filterMap_cons_some bi] at hn
        simp only [List.getElem?_cons_succ] at hj
        exact (List.nodup_cons.1 hn).1 (List.mem_filterMap.2 ⟨uj, List.mem_of_getElem? hj, bj⟩)
      | succ i => exact ih (i := i) (j := j) hn' (by omega) (by simpa using hi) (by simpa using hj) bi bj

theorem HRel.extend {w w' : World} {Z : Nat → Prop} {B : Nat} {μ μs : List Value} {hp os : List AObj} {bs : List Nat} (h : HRel w Z B μ hp) (hb : Below w.heap.size w w')
    (ht : Taken w' Z B μ μs os bs) (hge : ∀ g ∈ bs, w.heap.size ≤ g) (hzn : ∀ g ∈ bs, Z g) (hnd : bs.Nodup) : HRel w' Z B (μ ++ μs) (hp ++ os) := by
  obtain ⟨t1, t2, t3, t4⟩ := ht
  have hbk : ∀ (i : Nat) oi ui g, hp[i]? = some oi → oi.alive = true → μ[i]? = some ui → blk ui = some g → g < w.heap.size := fun i oi ui g h1 h2 h3 h4 => ((h.obj i oi ui h1 h3).blk_ge h2 h4).2
  have hnew : ∀ (i : Nat) ui g, μs[i]? = some ui → blk ui = some g → w.heap.size ≤ g := fun i ui g h1 h2 => hge g (by rw [← t3]; exact List.mem_filterMap.2 ⟨ui, List.mem_of_getElem? h1, h2⟩)
  have split : ∀ (i : Nat) oi ui, (hp ++ os)[i]? = some oi → (μ ++ μs)[i]? = some ui → (hp[i]? = some oi ∧ μ[i]? = some ui) ∨ (hp.length ≤ i ∧ os[i - hp.length]? = some oi ∧ μs[i - hp.length]? = some ui) := by
    intro i oi ui h1 h2
    rcases Nat.lt_or_ge i hp.length with hi | hi
    · rw [List.getElem?_append_left hi] at h1
      rw [List.getElem?_append_left (by rw [h.len]; exact hi)] at h2
      exact .inl ⟨h1, h2⟩
    · rw [List.getElem?_append_right hi] at h1
      rw [List.getElem?_append_right (by rw [h.len]; exact hi), h.len] at h2
      exact .inr ⟨hi, h1, h2⟩
  refine ⟨by simp [h.len, t1], fun i oi ui g h1 ha h2 hg => ?_, fun i x hx => ?_, fun i oi ui h1 h2 => ?_, fun i j oi oj ui uj g hne h1 h2 a1 a2 m1 m2 b1 b2 => ?_⟩
  · rcases split i oi ui h1 h2 with ⟨e1, e2⟩ | ⟨_, e1, e2⟩
    · exact h.zone i oi ui g e1 ha e2 hg
    · exact hzn g (by rw [← t3]; exact List.mem_filterMap.2 ⟨ui, List.mem_of_getElem? e2, hg⟩)
  · rcases Nat.lt_or_ge i μ.length with hi | hi
    · rw [List.getElem?_append_left hi] at hx
      exact h.one i x hx
    · rw [List.getElem?_append_right hi] at hx
      exact t4 x (List.mem_of_getElem? hx)
  · rcases split i oi ui h1 h2 with ⟨e1, e2⟩ | ⟨_, e1, e2⟩
    · cases ho : oi.alive with
      | true => exact (h.obj i oi ui e1 e2).keep (fun b hb1 _ => hb.block b hb1) (fun i u hu => append_old i u hu) (fun g hg => hb.block g (hbk i oi ui g e1 ho e2 hg))
      | false => exact (h.obj i oi ui e1 e2).keep_dead (fun b hb1 _ => hb.block b hb1) (fun i u hu => append_old i u hu) ho
    · exact t2 _ oi ui e1 e2
  · rcases split i oi ui h1 m1 with ⟨e1, e2⟩ | ⟨hi, e1, e2⟩ <;> rcases split j oj uj h2 m2 with ⟨e3, e4⟩ | ⟨hj, e3, e4⟩
    · exact h.sep i j oi oj ui uj g hne e1 e3 a1 a2 e2 e4 b1 b2
    · have := hbk i oi ui g e1 a1 e2 b1
      have := hnew _ uj g e4 b2
      omega
    · have := hbk j oj uj g e3 a2 e4 b2
      have := hnew _ ui g e2 b1
      omega
    · rw [← t3] at hnd
      rcases Nat.lt_or_gt_of_ne hne with hlt | hlt
      · exact nodup_get hnd (by omega : i - hp.length < j - hp.length) e2 e4 b1 b2
      · exact nodup_get hnd (by omega : j - hp.length < i - hp.length) e4 e2 b2 b1

/-! ### The arguments: as they are, or as they read now -/
theorem Rd.weak {w : World} {Z Z' : Nat → Prop} {A : Option Addr} {xs : List Value} (hz : ∀ b, b < w.heap.size → ¬ Z b → ¬ Z' b) (h : Rd w Z A xs) : Rd w Z' A xs := by
  intro hne
  obtain ⟨ad, rfl, h1, h2⟩ := h hne
  refine ⟨ad, rfl, hz _ ?_ h1, h2⟩
  cases xs with
  | nil => exact absurd rfl hne
  | cons x xs =>
    have := World.block_lt_of_cell? w _ (h2 0 x rfl)
    rwa [Addr.add_zero'] at this

mutual
theorem Rel.weak {w : World} {Z Z' : Nat → Prop} (hz : ∀ b, b < w.heap.size → ¬ Z b → ¬ Z' b) : ∀ {μ : List Value} {c : AV} {v : Value}, Rel w Z μ c v → Rel w Z' μ c v
  | _, .int _ _, _, h => by simpa [Rel] using h
  | _, .bool _, _, h => by simpa [Rel] using h
  | _, .str _, _, h => by simpa [Rel] using h
  | _, .nil, _, h => by simpa [Rel] using h
  | _, .ref _, _, h => by simpa [Rel] using h
  | _, .ptr _ _, _, h => by simpa [Rel] using h
  | _, .top, _, _ => by simp [Rel]
  | _, .own _ _ _ _, _, h => by simp [Rel] at h
  | _, .lst s n cs, _, h => by
    simp only [Rel] at h ⊢
    obtain ⟨A, c, xs, h1, h2, h3, h4, h5⟩ := h
    exact ⟨A, c, xs, h1, h2, h3, h4.weak hz, RelL.weak hz h5⟩
  | _, .clp s n cs, _, h => by
    simp only [Rel] at h ⊢
    obtain ⟨A, c, xs, h1, h2, h3, h4, h5⟩ := h
    exact ⟨A, c, xs, h1, h2, h3, h4.weak hz, RelL.weak hz h5⟩
  | _, .rptr cs, _, h => by
    simp only [Rel] at h ⊢
    obtain ⟨ad, xs, h1, h4, h5⟩ := h
    exact ⟨ad, xs, h1, h4.weak hz, RelL.weak hz h5⟩
  | _, .agg cs, _, h => by
    simp only [Rel] at h ⊢
    obtain ⟨xs, h1, h5⟩ := h
    exact ⟨xs, h1, RelL.weak hz h5⟩
  | _, .tup cs, _, h => by
    simp only [Rel] at h ⊢
    obtain ⟨xs, h1, h5⟩ := h
    exact ⟨xs, h1, RelL.weak hz h5⟩
  | _, .fn f cs, _, h => by
    simp only [Rel] at h ⊢
    obtain ⟨xs, h1, h5⟩ := h
    exact ⟨xs, h1, RelL.weak hz h5⟩
theorem RelL.weak {w : World} {Z Z' : Nat → Prop} (hz : ∀ b, b < w.heap.size → ¬ Z b → ¬ Z' b) : ∀ {μ : List Value} {cs : List AV} {vs : List Value}, RelL w Z μ cs vs → RelL w Z' μ cs vs
  | _, [], _, h => by simpa [RelL] using h
  | _, c :: cs, _, h => by
    simp only [RelL] at h ⊢
    obtain ⟨x, xs, h1, h2, h3⟩ := h
    exact ⟨x, xs, h1, Rel.weak hz h2, RelL.weak hz h3⟩
end

mutual
/-- How an argument reads now, as memory that is only read. -/
inductive Snap (hp : List AObj) : AV → AV → Prop
  | leaf {c} (h : c.leafy = true) : Snap hp c c
  | ref {i e s n cs} (hi : hp[i]? = some (.list e s n cs)) : Snap hp (.ref i) (.lst s n cs)
  | ptr {i o ob cs'} (hi : hp[i]? = some ob) (h : SnapL hp (ob.cells.drop o) cs') : Snap hp (.ptr i o) (.rptr cs')
  | agg {cs cs'} (h : SnapL hp cs cs') : Snap hp (.agg cs) (.agg cs')
  | fn {f cs cs'} (h : SnapL hp cs cs') : Snap hp (.fn f cs) (.fn f cs')
  | top {c} : Snap hp c .top
inductive SnapL (hp : List AObj) : List AV → List AV → Prop
  | nil : SnapL hp [] []
  | cons {c c' cs cs'} (h : Snap hp c c') (h' : SnapL hp cs cs') : SnapL hp (c :: cs) (c' :: cs')
end

mutual
theorem Snap.sound {w : World} {Z : Nat → Prop} {B : Nat} {μ : List Value} {hp : List AObj} (hH : HRel w Z B μ hp) : ∀ {c c' : AV} {v : Value}, Snap hp c c' → Rel w Z μ c v → Rel w (fun b => w.heap.size ≤ b) [] c' v
  | _, _, v, .leaf h, hr => Rel.weak (fun b hb _ hz => absurd hb (by omega)) (Rel.leafy h hr)
  | _, _, v, .ref (i := i) (e := e) (s := s) (n := n) (cs := cs) hi, hr => by
    simp only [Rel] at hr
    obtain ⟨xs, hown, hx⟩ := hH.obj i _ v hi hr
    have hx' := RelL.weak (Z' := fun b => w.heap.size ≤ b) (fun b hb _ hz => absurd hb (by omega)) hx
    have hlen := hx'.length
    have hlen2 := hown.1
    simp only [Rel]
    have hown2 := hown
    rcases hown.2 with ⟨rfl, h0⟩ | ⟨g, cap, cur, rfl, hB, hg, hnc, hcm, hcs, ht⟩
    · refine ⟨none, 0, xs, by rw [h0], by omega, by omega, ?_, hx'⟩
      intro hne
      subst h0
      simp at hlen2
      exact absurd hlen2 hne
    · refine ⟨some ⟨g, 0, none⟩, cap, xs, rfl, by omega, hnc, ?_, hx'⟩
      intro _
      refine ⟨_, rfl, ?_, fun j u hu => ?_⟩
      · have := (Array.getElem?_eq_some_iff.1 hg).1
        simp only; omega
      · rw [add_lit', Nat.zero_add, hown2.cellAt j (by have := (List.getElem?_eq_some_iff.1 hu).1; omega)]
        exact hu
  | _, _, v, .ptr (i := i) (o := o) (ob := ob) (cs' := cs') hi h, hr => by
    simp only [Rel] at hr
    obtain ⟨u, g, hu, hg, rfl⟩ := hr
    obtain ⟨xs, hx, hc⟩ := obj_cells (hH.obj i ob u hi hu)
    have hx' := SnapL.sound hH h (hx.drop o)
    simp only [Rel]
    refine ⟨⟨g, o, none⟩, xs.drop o, rfl, ?_, hx'⟩
    intro hne
    refine ⟨_, rfl, ?_, fun j u' hu' => ?_⟩
    · cases hxs : xs.drop o with
      | nil => exact absurd hxs hne
      | cons y ys =>
        have h1 : xs[o]? = some y := by
          have h2 : (xs.drop o)[0]? = some y := by rw [hxs]; rfl
          rwa [List.getElem?_drop, Nat.add_zero] at h2
        have := World.block_lt_of_cell? w _ (hc g hg o y h1)
        simp only at this ⊢
        omega
    · rw [add_lit']
      rw [List.getElem?_drop] at hu'
      exact hc g hg _ u' hu'
  | _, _, v, .agg h, hr => by
    simp only [Rel] at hr ⊢
    obtain ⟨xs, h1, h2⟩ := hr
    exact ⟨xs, h1, SnapL.sound hH h h2⟩
  | _, _, v, .top, hr => by simp [Rel]
  | _, _, v, .fn h, hr => by
    simp only [Rel] at hr ⊢
    obtain ⟨xs, h1, h2⟩ := hr
    exact ⟨xs, h1, SnapL.sound hH h h2⟩
theorem SnapL.sound {w : World} {Z : Nat → Prop} {B : Nat} {μ : List Value} {hp : List AObj} (hH : HRel w Z B μ hp) : ∀ {cs cs' : List AV} {vs : List Value}, SnapL hp cs cs' → RelL w Z μ cs vs → RelL w (fun b => w.heap.size ≤ b) [] cs' vs
  | _, _, _, .nil, hr => by simpa [RelL] using hr
  | _, _, _, .cons h h', hr => by
    simp only [RelL] at hr ⊢
    obtain ⟨x, xs, h1, h2, h3⟩ := hr
    exact ⟨x, xs, h1, Snap.sound hH h h2, SnapL.sound hH h' h3⟩
end

/-! Does a result lead into no old memory? -/
mutual
def AV.closed : AV → Bool
  | .int _ _ | .bool _ | .str _ | .nil | .top => true
  | .own _ _ _ cs | .agg cs | .tup cs => closedL cs
  | _ => false
def closedL : List AV → Bool
  | [] => true
  | c :: cs => c.closed && closedL cs
end

mutual
theorem Rel.shut {w : World} {Z Z' : Nat → Prop} {μ : List Value} : ∀ {c : AV} {v : Value}, c.closed = true → Rel w Z μ c v → Rel w Z' μ c v
  | .own _ _ _ _, _, _, h => by simp [Rel] at h
  | .agg cs, _, hc, h => by
    simp only [Rel] at h ⊢
    obtain ⟨xs, h1, h2⟩ := h
    exact ⟨xs, h1, RelL.shut (by simpa [AV.closed] using hc) h2⟩
  | .tup cs, _, hc, h => by
    simp only [Rel] at h ⊢
    obtain ⟨xs, h1, h2⟩ := h
    exact ⟨xs, h1, RelL.shut (by simpa [AV.closed] using hc) h2⟩
  | .int _ _, _, _, h => by simpa [Rel] using h
  | .bool _, _, _, h => by simpa [Rel] using h
  | .str _, _, _, h => by simpa [Rel] using h
  | .nil, _, _, h => by simpa [Rel] using h
  | .top, _, _, _ => by simp [Rel]
  | .lst _ _ _, _, hc, _ => by simp [AV.closed] at hc
  | .clp _ _ _, _, hc, _ => by simp [AV.closed] at hc
  | .rptr _, _, hc, _ => by simp [AV.closed] at hc
  | .ref _, _, hc, _ => by simp [AV.closed] at hc
  | .ptr _ _, _, hc, _ => by simp [AV.closed] at hc
  | .fn _ _, _, hc, _ => by simp [AV.closed] at hc
theorem RelL.shut {w : World} {Z Z' : Nat → Prop} {μ : List Value} : ∀ {cs : List AV} {vs : List Value}, closedL cs = true → RelL w Z μ cs vs → RelL w Z' μ cs vs
  | [], _, _, h => by simpa [RelL] using h
  | c :: cs, _, hc, h => by
    simp only [closedL, Bool.and_eq_true] at hc
    simp only [RelL] at h ⊢
    obtain ⟨x, xs, h1, h2, h3⟩ := h
    exact ⟨x, xs, h1, Rel.shut hc.1 h2, RelL.shut hc.2 h3⟩
end

mutual
theorem RF.weak {w : World} {Z Z' : Nat → Prop} {B : Nat} : ∀ {c : AV} {v : Value} {bs : List Nat}, c.closed = true → RF w Z B c v bs → RF w Z' B c v bs
  | .own e s n cs, v, bs, hc, h => by
    simp only [RF] at h ⊢
    obtain ⟨xs, h1, h2, h3⟩ := h
    exact ⟨xs, h1, RelL.shut (by simpa [AV.closed] using hc) h2, h3⟩
  | .agg cs, v, bs, hc, h => by
    simp only [RF] at h ⊢
    obtain ⟨xs, h1, h2⟩ := h
    exact ⟨xs, h1, RFL.weak (by simpa [AV.closed] using hc) h2⟩
  | .tup cs, v, bs, hc, h => by
    simp only [RF] at h ⊢
    obtain ⟨xs, h1, h2⟩ := h
    exact ⟨xs, h1, RFL.weak (by simpa [AV.closed] using hc) h2⟩
  | .int _ _, _, _, _, h => by simpa [RF] using h
  | .bool _, _, _, _, h => by simpa [RF] using h
  | .str _, _, _, _, h => by simpa [RF] using h
  | .nil, _, _, _, h => by simpa [RF] using h
  | .top, _, _, _, h => by simpa [RF] using h
  | .lst _ _ _, _, _, hc, _ => by simp [AV.closed] at hc
  | .clp _ _ _, _, _, hc, _ => by simp [AV.closed] at hc
  | .rptr _, _, _, hc, _ => by simp [AV.closed] at hc
  | .ref _, _, _, hc, _ => by simp [AV.closed] at hc
  | .ptr _ _, _, _, hc, _ => by simp [AV.closed] at hc
  | .fn _ _, _, _, hc, _ => by simp [AV.closed] at hc
theorem RFL.weak {w : World} {Z Z' : Nat → Prop} {B : Nat} : ∀ {cs : List AV} {vs : List Value} {bs : List Nat}, closedL cs = true → RFL w Z B cs vs bs → RFL w Z' B cs vs bs
  | [], _, _, _, h => by simpa [RFL] using h
  | c :: cs, _, _, hc, h => by
    simp only [closedL, Bool.and_eq_true] at hc
    simp only [RFL] at h ⊢
    obtain ⟨x, xs, b1, b2, h1, h2, h3, h4⟩ := h
    exact ⟨x, xs, b1, b2, h1, RF.weak hc.1 h2, RFL.weak hc.2 h3, h4⟩
end

/-! Taken results: rows of new blocks are owned from an older bound on, too. -/
mutual
theorem RF.older {w : World} {Z Z' : Nat → Prop} {B B' : Nat} (hB : B' ≤ B) (hz : ∀ b, b < w.heap.size → ¬ Z b → ¬ Z' b) : ∀ {c : AV} {v : Value} {bs : List Nat}, RF w Z B c v bs → RF w Z' B' c v bs
  | .own e s n cs, v, bs, h => by
    simp only [RF] at h ⊢
    obtain ⟨xs, ⟨h1, h1'⟩, h2, h3⟩ := h
    refine ⟨xs, ⟨h1, ?_⟩, RelL.weak hz h2, h3⟩
    rcases h1' with h1' | ⟨g, cap, cur, e1, e2, e3⟩
    · exact .inl h1'
    · exact .inr ⟨g, cap, cur, e1, by omega, e3⟩
  | .agg cs, v, bs, h => by
    simp only [RF] at h ⊢
    obtain ⟨xs, h1, h2⟩ := h
    exact ⟨xs, h1, RFL.older hB hz h2⟩
  | .tup cs, v, bs, h => by
    simp only [RF] at h ⊢
    obtain ⟨xs, h1, h2⟩ := h
    exact ⟨xs, h1, RFL.older hB hz h2⟩
  | .int _ _, _, _, h => by simpa [RF] using h
  | .bool _, _, _, h => by simpa [RF] using h
  | .str _, _, _, h => by simpa [RF] using h
  | .nil, _, _, h => by simpa [RF] using h
  | .top, _, _, h => by simpa [RF] using h
  | .lst _ _ _, _, _, h => by simp only [RF] at h ⊢; exact ⟨Rel.weak hz h.1, h.2⟩
  | .clp _ _ _, _, _, h => by simp only [RF] at h ⊢; exact ⟨Rel.weak hz h.1, h.2⟩
  | .rptr _, _, _, h => by simp only [RF] at h ⊢; exact ⟨Rel.weak hz h.1, h.2⟩
  | .ref _, _, _, h => by simp [RF] at h
  | .ptr _ _, _, _, h => by simp [RF] at h
  | .fn f cs, _, _, h => by simp only [RF] at h ⊢; exact ⟨Rel.weak (c := .fn f cs) hz h.1, h.2⟩
theorem RFL.older {w : World} {Z Z' : Nat → Prop} {B B' : Nat} (hB : B' ≤ B) (hz : ∀ b, b < w.heap.size → ¬ Z b → ¬ Z' b) : ∀ {cs : List AV} {vs : List Value} {bs : List Nat}, RFL w Z B cs vs bs → RFL w Z' B' cs vs bs
  | [], _, _, h => by simpa [RFL] using h
  | c :: cs, _, _, h => by
    simp only [RFL] at h ⊢
    obtain ⟨x, xs, b1, b2, h1, h2, h3, h4⟩ := h
    exact ⟨x, xs, b1, b2, h1, RF.older hB hz h2, RFL.older hB hz h3, h4⟩
end

mutual
theorem RF.ge {w : World} {Z : Nat → Prop} {B : Nat} : ∀ {c : AV} {v : Value} {bs : List Nat}, RF w Z B c v bs → ∀ g ∈ bs, B ≤ g
  | .own e s n cs, v, bs, h => by
    simp only [RF] at h
    obtain ⟨xs, ⟨h1, h1'⟩, h2, rfl⟩ := h
    intro g hg
    rcases h1' with ⟨rfl, _⟩ | ⟨g', cap, cur, rfl, e2, _⟩
    · simp [blk] at hg
    · simp [blk] at hg; omega
  | .agg cs, v, bs, h => by simp only [RF] at h; obtain ⟨xs, h1, h2⟩ := h; exact RFL.ge h2
  | .tup cs, v, bs, h => by simp only [RF] at h; obtain ⟨xs, h1, h2⟩ := h; exact RFL.ge h2
  | .int _ _, _, _, h => by simp only [RF] at h; obtain ⟨_, rfl⟩ := h; simp
  | .bool _, _, _, h => by simp only [RF] at h; obtain ⟨_, rfl⟩ := h; simp
  | .str _, _, _, h => by simp only [RF] at h; obtain ⟨_, rfl⟩ := h; simp
  | .nil, _, _, h => by simp only [RF] at h; obtain ⟨_, rfl⟩ := h; simp
  | .top, _, _, h => by simp only [RF] at h; subst h; simp
  | .lst _ _ _, _, _, h => by simp only [RF] at h; obtain ⟨_, rfl⟩ := h; simp
  | .clp _ _ _, _, _, h => by simp only [RF] at h; obtain ⟨_, rfl⟩ := h; simp
  | .rptr _, _, _, h => by simp only [RF] at h; obtain ⟨_, rfl⟩ := h; simp
  | .ref _, _, _, h => by simp [RF] at h
  | .ptr _ _, _, _, h => by simp [RF] at h
  | .fn _ _, _, _, h => by simp only [RF] at h; obtain ⟨_, rfl⟩ := h; simp
theorem RFL.ge {w : World} {Z : Nat → Prop} {B : Nat} : ∀ {cs : List AV} {vs : List Value} {bs : List Nat}, RFL w Z B cs vs bs → ∀ g ∈ bs, B ≤ g
  | [], _, _, h => by simp only [RFL] at h; obtain ⟨_, rfl⟩ := h; simp
  | c :: cs, _, _, h => by
    simp only [RFL] at h
    obtain ⟨x, xs, b1, b2, _, h2, h3, rfl⟩ := h
    intro g hg
    rcases List.mem_append.1 hg with hg | hg
    · exact RF.ge h2 g hg
    · exact RFL.ge h3 g hg
end

theorem ownsRow_blk_lt {w : World} {B e s n : Nat} {v : Value} {xs : List Value} (h : w.ownsRow B e s v n xs) : ∀ g ∈ (blk v).toList, g < w.heap.size := by
  intro g hg
  rcases h.2 with ⟨rfl, _⟩ | ⟨g', cap, cur, rfl, _, hh, _⟩
  · simp [blk] at hg
  · simp [blk] at hg
    subst hg
    exact (Array.getElem?_eq_some_iff.1 hh).1

end Go.Abs
