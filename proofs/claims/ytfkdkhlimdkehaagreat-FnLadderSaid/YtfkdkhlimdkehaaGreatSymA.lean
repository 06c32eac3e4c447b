/- A machine of abstract values beside the model's: values, objects, and how they stand for the model's values and blocks; how that relation is kept when memory grows. -/
import Derived.WalkKit
import Derived.WalkSpells
import Derived.WalkLawsBesides
namespace Go.Abs
open Go.RowKit

/-- Abstract values. 'lst s n cs': a slice that is only read, n elements of s cells each; 'clp s n cs': the same, of no greater capacity; 'ref i': the slice of object i; 'ptr i o': the address of cell o of object i; 'rptr cs': an address behind which cs can be read; 'own': a new slice (in results alone); 'top': anything. -/
inductive AV where
  | int (k : IntKind) (n : Int)
  | bool (b : Bool)
  | str (s : ByteArray)
  | nil
  | lst (s n : Nat) (cs : List AV)
  | clp (s n : Nat) (cs : List AV)
  | ref (i : Nat)
  | ptr (i o : Nat)
  | rptr (cs : List AV)
  | agg (cs : List AV)
  | tup (cs : List AV)
  | fn (f : FuncId) (cs : List AV)
  | own (e s n : Nat) (cs : List AV)
  | top
  deriving Inhabited

/-- How far a loop over a function has come. -/
inductive LSt where
  | ready
  | busy
  | done (c : Code)

def LSt.state : LSt → LoopState
  | .ready => .ready
  | .busy => .busy
  | .done _ => .done
def LSt.pend : LSt → Option Code
  | .done c => some c
  | _ => none

/-- What holds no cells: the mark of a loop over a function that is over, and the record of one that is under way, whose function's temporaries are us. -/
inductive Inert where
  | mark (D : Nat)
  | lrec (D : Nat) (s : LSt) (us : List Value) (ps : Array Tmp) (assign body : Code)

/-- Objects: a box (a variable in memory), a slice that the call owns, nothing any more; or a caller's frame, which holds the values us; or what holds no cells. -/
inductive AObj where
  | box (t : TypeId) (cs : List AV)
  | list (e s n : Nat) (cs : List AV)
  | dead
  | frame (us : List Value) (cs : List AV)
  | inert (x : Inert)
  deriving Inhabited

def AObj.alive : AObj → Bool
  | .dead => false
  | .frame _ _ => false
  | _ => true

structure St where
  fr : List AV
  hp : List AObj

/-- The block in which a slice or a pointer leads. -/
def blk : Value → Option Nat
  | .slice (some a) _ _ => some a.block
  | .pointer (some a) => some a.block
  | _ => none

/-- The cells xs can be read from A on, in memory that is not to be written (Z: what may be written). -/
def Rd (w : World) (Z : Nat → Prop) (A : Option Addr) (xs : List Value) : Prop :=
  xs ≠ [] → ∃ ad, A = some ad ∧ ¬ Z ad.block ∧ ∀ (j : Nat) u, xs[j]? = some u → w.cell? (ad.add j) = some u

mutual
def Rel (w : World) (Z : Nat → Prop) (μ : List Value) : AV → Value → Prop
  | .int k n, v => v = .int k n
  | .bool b, v => v = .bool b
  | .str s, v => v = .string s
  | .nil, v => v = .slice none 0 0
  | .lst s n cs, v => ∃ A c xs, v = .slice A n c ∧ cs.length = n * s ∧ n ≤ c ∧ Rd w Z A xs ∧ RelL w Z [] cs xs
  | .clp s n cs, v => ∃ A c xs, v = .slice A n c ∧ cs.length = n * s ∧ c = n ∧ Rd w Z A xs ∧ RelL w Z [] cs xs
  | .ref i, v => μ[i]? = some v
  | .ptr i o, v => ∃ u g, μ[i]? = some u ∧ blk u = some g ∧ v = .pointer (some ⟨g, o, none⟩)
  | .rptr cs, v => ∃ ad xs, v = .pointer (some ad) ∧ Rd w Z (some ad) xs ∧ RelL w Z [] cs xs
  | .agg cs, v => ∃ xs, v = .agg xs.toArray ∧ RelL w Z μ cs xs
  | .tup cs, v => ∃ xs, v = .tuple xs.toArray ∧ RelL w Z μ cs xs
  | .fn f cs, v => ∃ xs, v = .func (.func f) #[] xs.toArray ∧ RelL w Z μ cs xs
  | .own _ _ _ _, _ => False
  | .top, _ => True
def RelL (w : World) (Z : Nat → Prop) (μ : List Value) : List AV → List Value → Prop
  | [], vs => vs = []
  | c :: cs, vs => ∃ x xs, vs = x :: xs ∧ Rel w Z μ c x ∧ RelL w Z μ cs xs
end

mutual
/-- Object i is forgotten wherever it is named. -/
def AV.kill (i : Nat) : AV → AV
  | .ref j => if j = i then .top else .ref j
  | .ptr j o => if j = i then .top else .ptr j o
  | .lst s n cs => .lst s n cs
  | .clp s n cs => .clp s n cs
  | .rptr cs => .rptr cs
  | .agg cs => .agg (killL i cs)
  | .tup cs => .tup (killL i cs)
  | .fn f cs => .fn f (killL i cs)
  | .int k n => .int k n
  | .bool b => .bool b
  | .str s => .str s
  | .nil => .nil
  | .own e s n cs => .own e s n cs
  | .top => .top
def killL (i : Nat) : List AV → List AV
  | [] => []
  | c :: cs => c.kill i :: killL i cs
end

theorem killL_length (i : Nat) : ∀ cs, (killL i cs).length = cs.length
  | [] => rfl
  | _ :: cs => by simp [killL, killL_length i cs]

theorem RelL.length {w Z μ} : ∀ {cs : List AV} {vs : List Value}, RelL w Z μ cs vs → vs.length = cs.length
  | [], _, h => by rw [RelL] at h; subst h; rfl
  | c :: cs, _, h => by
    rw [RelL] at h
    obtain ⟨x, xs, rfl, _, h2⟩ := h
    simp [h2.length]

section
variable {w w' : World} {Z : Nat → Prop} {μ μ' : List Value}

theorem Rd.keep {A : Option Addr} {xs : List Value} (hb : ∀ b, b < w.heap.size → ¬ Z b → w'.heap[b]? = w.heap[b]?) (h : Rd w Z A xs) : Rd w' Z A xs := by
  intro hne
  obtain ⟨ad, rfl, hz, hc⟩ := h hne
  refine ⟨ad, rfl, hz, fun j u hu => ?_⟩
  have h1 := hc j u hu
  have hlt := World.block_lt_of_cell? w _ h1
  have hbk : (ad.add j).block = ad.block := by unfold Addr.add; split <;> rfl
  rw [World.cell?_of_block (w := w) (hb _ hlt (by rw [hbk]; exact hz))]
  exact h1

mutual
theorem Rel.keep (hb : ∀ b, b < w.heap.size → ¬ Z b → w'.heap[b]? = w.heap[b]?) {μ μ' : List Value} (hm : ∀ (i : Nat) (u : Value), μ[i]? = some u → μ'[i]? = some u) :
    ∀ {c : AV} {v : Value}, Rel w Z μ c v → Rel w' Z μ' c v
  | .int _ _, _, h => by simpa [Rel] using h
  | .bool _, _, h => by simpa [Rel] using h
  | .str _, _, h => by simpa [Rel] using h
  | .nil, _, h => by simpa [Rel] using h
  | .top, _, _ => by simp [Rel]
  | .own _ _ _ _, _, h => by simp [Rel] at h
  | .ref i, v, h => by simp only [Rel] at h ⊢; exact hm i v h
  | .ptr i o, v, h => by
    simp only [Rel] at h ⊢
    obtain ⟨u, g, h1, h2, h3⟩ := h
    exact ⟨u, g, hm i u h1, h2, h3⟩
  | .lst s n cs, v, h => by
    simp only [Rel] at h ⊢
    obtain ⟨A, c, xs, h1, h2, h3, h4, h5⟩ := h
    exact ⟨A, c, xs, h1, h2, h3, h4.keep hb, RelL.keep hb (μ := []) (μ' := []) (fun _ _ h => h) h5⟩
  | .clp s n cs, v, h => by
    simp only [Rel] at h ⊢
    obtain ⟨A, c, xs, h1, h2, h3, h4, h5⟩ := h
    exact ⟨A, c, xs, h1, h2, h3, h4.keep hb, RelL.keep hb (μ := []) (μ' := []) (fun _ _ h => h) h5⟩
  | .rptr cs, v, h => by
    simp only [Rel] at h ⊢
    obtain ⟨ad, xs, h1, h4, h5⟩ := h
    exact ⟨ad, xs, h1, h4.keep hb, RelL.keep hb (μ := []) (μ' := []) (fun _ _ h => h) h5⟩
  | .agg cs, v, h => by
    simp only [Rel] at h ⊢
    obtain ⟨xs, h1, h5⟩ := h
    exact ⟨xs, h1, RelL.keep hb hm h5⟩
  | .tup cs, v, h => by
    simp only [Rel] at h ⊢
    obtain ⟨xs, h1, h5⟩ := h
    exact ⟨xs, h1, RelL.keep hb hm h5⟩
  | .fn f cs, v, h => by
    simp only [Rel] at h ⊢
    obtain ⟨xs, h1, h5⟩ := h
    exact ⟨xs, h1, RelL.keep hb hm h5⟩
theorem RelL.keep (hb : ∀ b, b < w.heap.size → ¬ Z b → w'.heap[b]? = w.heap[b]?) {μ μ' : List Value} (hm : ∀ (i : Nat) (u : Value), μ[i]? = some u → μ'[i]? = some u) :
    ∀ {cs : List AV} {vs : List Value}, RelL w Z μ cs vs → RelL w' Z μ' cs vs
  | [], _, h => by simpa [RelL] using h
  | c :: cs, _, h => by
    simp only [RelL] at h ⊢
    obtain ⟨x, xs, h1, h2, h3⟩ := h
    exact ⟨x, xs, h1, Rel.keep hb hm h2, RelL.keep hb hm h3⟩
end

mutual
theorem Rel.keep_kill (k : Nat) (hb : ∀ b, b < w.heap.size → ¬ Z b → w'.heap[b]? = w.heap[b]?) (hm : ∀ (i : Nat) (u : Value), i ≠ k → μ[i]? = some u → μ'[i]? = some u) :
    ∀ {c : AV} {v : Value}, Rel w Z μ c v → Rel w' Z μ' (c.kill k) v
  | .int _ _, _, h => by simpa [Rel, AV.kill] using h
  | .bool _, _, h => by simpa [Rel, AV.kill] using h
  | .str _, _, h => by simpa [Rel, AV.kill] using h
  | .nil, _, h => by simpa [Rel, AV.kill] using h
  | .top, _, _ => by simp [Rel, AV.kill]
  | .own _ _ _ _, _, h => by simp [Rel] at h
  | .ref i, v, h => by
    simp only [AV.kill]
    split
    · simp [Rel]
    · rename_i hne
      simp only [Rel] at h ⊢
      exact hm i v hne h
  | .ptr i o, v, h => by
    simp only [AV.kill]
    split
    · simp [Rel]
    · rename_i hne
      simp only [Rel] at h ⊢
      obtain ⟨u, g, h1, h2, h3⟩ := h
      exact ⟨u, g, hm i u hne h1, h2, h3⟩
  | .lst s n cs, v, h => by
    simp only [Rel, AV.kill] at h ⊢
    obtain ⟨A, c, xs, h1, h2, h3, h4, h5⟩ := h
    exact ⟨A, c, xs, h1, h2, h3, h4.keep hb, RelL.keep hb (μ := []) (μ' := []) (fun _ _ h => h) h5⟩
  | .clp s n cs, v, h => by
    simp only [Rel, AV.kill] at h ⊢
    obtain ⟨A, c, xs, h1, h2, h3, h4, h5⟩ := h
    exact ⟨A, c, xs, h1, h2, h3, h4.keep hb, RelL.keep hb (μ := []) (μ' := []) (fun _ _ h => h) h5⟩
  | .rptr cs, v, h => by
    simp only [Rel, AV.kill] at h ⊢
    obtain ⟨ad, xs, h1, h4, h5⟩ := h
    exact ⟨ad, xs, h1, h4.keep hb, RelL.keep hb (μ := []) (μ' := []) (fun _ _ h => h) h5⟩
  | .agg cs, v, h => by
    simp only [Rel, AV.kill] at h ⊢
    obtain ⟨xs, h1, h5⟩ := h
    exact ⟨xs, h1, RelL.keep_kill k hb hm h5⟩
  | .tup cs, v, h => by
    simp only [Rel, AV.kill] at h ⊢
    obtain ⟨xs, h1, h5⟩ := h
    exact ⟨xs, h1, RelL.keep_kill k hb hm h5⟩
  | .fn f cs, v, h => by
    simp only [Rel, AV.kill] at h ⊢
    obtain ⟨xs, h1, h5⟩ := h
    exact ⟨xs, h1, RelL.keep_kill k hb hm h5⟩
theorem RelL.keep_kill (k : Nat) (hb : ∀ b, b < w.heap.size → ¬ Z b → w'.heap[b]? = w.heap[b]?) (hm : ∀ (i : Nat) (u : Value), i ≠ k → μ[i]? = some u → μ'[i]? = some u) :
    ∀ {cs : List AV} {vs : List Value}, RelL w Z μ cs vs → RelL w' Z μ' (killL k cs) vs
  | [], _, h => by simpa [RelL, killL] using h
  | c :: cs, _, h => by
    simp only [RelL, killL] at h ⊢
    obtain ⟨x, xs, h1, h2, h3⟩ := h
    exact ⟨x, xs, h1, Rel.keep_kill k hb hm h2, RelL.keep_kill k hb hm h3⟩
end
end

/-! ### Lists of related cells -/
section
variable {w : World} {Z : Nat → Prop} {μ : List Value}

theorem RelL.get {cs : List AV} {vs : List Value} (h : RelL w Z μ cs vs) {i : Nat} {c : AV} (hc : cs[i]? = some c) : ∃ x, vs[i]? = some x ∧ Rel w Z μ c x := by
  induction cs generalizing vs i with
  | nil => simp at hc
  | cons d cs ih =>
    rw [RelL] at h
    obtain ⟨x, xs, rfl, h1, h2⟩ := h
    cases i with
    | zero => simp at hc; subst hc; exact ⟨x, rfl, h1⟩
    | succ i => exact ih h2 (by simpa using hc)

theorem RelL.getD {cs : List AV} {vs : List Value} (h : RelL w Z μ cs vs) (i : Nat) (d : Value) : Rel w Z μ (cs.getD i .top) (vs.getD i d) := by
  rcases Nat.lt_or_ge i cs.length with hi | hi
  · obtain ⟨x, hx, hr⟩ := h.get (List.getElem?_eq_getElem hi)
    simp only [List.getD_eq_getElem?_getD, hx, List.getElem?_eq_getElem hi, Option.getD_some]
    exact hr
  · simp [List.getD_eq_getElem?_getD, List.getElem?_eq_none hi, Rel]

theorem RelL.set {cs : List AV} {vs : List Value} (h : RelL w Z μ cs vs) (i : Nat) {c : AV} {x : Value} (hc : Rel w Z μ c x) : RelL w Z μ (cs.set i c) (vs.set i x) := by
  induction cs generalizing vs i with
  | nil => rw [RelL] at h; subst h; simp [RelL]
  | cons d cs ih =>
    rw [RelL] at h
    obtain ⟨y, ys, rfl, h1, h2⟩ := h
    cases i with
    | zero => exact ⟨x, ys, rfl, hc, h2⟩
    | succ i => exact ⟨y, ys.set i x, rfl, h1, ih h2 i⟩

theorem RelL.append {cs ds : List AV} {vs us : List Value} (h : RelL w Z μ cs vs) (h' : RelL w Z μ ds us) : RelL w Z μ (cs ++ ds) (vs ++ us) := by
  induction cs generalizing vs with
  | nil => rw [RelL] at h; subst h; exact h'
  | cons d cs ih =>
    rw [RelL] at h
    obtain ⟨y, ys, rfl, h1, h2⟩ := h
    exact ⟨y, ys ++ us, rfl, h1, ih h2⟩

theorem RelL.drop {cs : List AV} {vs : List Value} (h : RelL w Z μ cs vs) (n : Nat) : RelL w Z μ (cs.drop n) (vs.drop n) := by
  induction n generalizing cs vs with
  | zero => simpa using h
  | succ n ih =>
    cases cs with
    | nil => rw [RelL] at h; subst h; simp [RelL]
    | cons d cs =>
      rw [RelL] at h
      obtain ⟨y, ys, rfl, _, h2⟩ := h
      exact ih h2

theorem RelL.take {cs : List AV} {vs : List Value} (h : RelL w Z μ cs vs) (n : Nat) : RelL w Z μ (cs.take n) (vs.take n) := by
  induction n generalizing cs vs with
  | zero => simp [RelL]
  | succ n ih =>
    cases cs with
    | nil => rw [RelL] at h; subst h; simp [RelL]
    | cons d cs =>
      rw [RelL] at h
      obtain ⟨y, ys, rfl, h1, h2⟩ := h
      exact ⟨y, ys.take n, rfl, h1, ih h2⟩

theorem RelL.nil : RelL w Z μ [] [] := by rw [RelL]
theorem RelL.cons {c : AV} {x : Value} {cs : List AV} {vs : List Value} (h : Rel w Z μ c x) (h' : RelL w Z μ cs vs) : RelL w Z μ (c :: cs) (x :: vs) := ⟨x, vs, rfl, h, h'⟩
end

theorem Rel.lift {w : World} {Z : Nat → Prop} {μ : List Value} {c : AV} {v : Value} (h : Rel w Z [] c v) : Rel w Z μ c v := Rel.keep (fun _ _ _ => rfl) (fun i u h => by simp at h) h
theorem RelL.lift {w : World} {Z : Nat → Prop} {μ : List Value} {c : List AV} {v : List Value} (h : RelL w Z [] c v) : RelL w Z μ c v := RelL.keep (fun _ _ _ => rfl) (fun i u h => by simp at h) h

theorem Rd.drop {w : World} {Z : Nat → Prop} {A : Option Addr} {xs : List Value} (h : Rd w Z A xs) (k : Nat) : Rd w Z (A.map (·.add k)) (xs.drop k) := by
  intro hne
  have hx : xs ≠ [] := by rintro rfl; simp at hne
  obtain ⟨ad, rfl, hz, hc⟩ := h hx
  refine ⟨ad.add k, rfl, ?_, fun j u hu => ?_⟩
  · have : (ad.add k).block = ad.block := by unfold Addr.add; split <;> rfl
    rw [this]; exact hz
  · have e : (ad.add k).add j = ad.add (k + j) := by
      unfold Addr.add
      by_cases hi : k = 0 <;> by_cases hj : j = 0 <;> simp [hi, hj, Nat.add_assoc]
    rw [e]
    exact hc _ u (by rw [← hu, List.getElem?_drop])

theorem Rd.take {w : World} {Z : Nat → Prop} {A : Option Addr} {xs : List Value} (h : Rd w Z A xs) (k : Nat) : Rd w Z A (xs.take k) := by
  intro hne
  have hx : xs ≠ [] := by rintro rfl; simp at hne
  obtain ⟨ad, rfl, hz, hc⟩ := h hx
  refine ⟨ad, rfl, hz, fun j u hu => hc j u ?_⟩
  rw [List.getElem?_take] at hu
  split at hu
  · exact hu
  · cases hu

/-! ### Objects -/
def InertRel (w : World) (Z : Nat → Prop) (B : Nat) (u : Value) : Inert → Prop
  | .mark D => u = .func (.yield (D + 1)) #[] #[] ∧ (B ≤ D ∧ ¬ Z D) ∧ w.heap[D]? = some (.deferred (some []))
  | .lrec D s us ps assign body => ∃ fn, u = .func (.yield (D + 1)) #[] #[] ∧ ((B ≤ D ∧ ¬ Z D) ∧ w.heap[D]? = some (.deferred (some []))) ∧ ¬ Z (D + 1) ∧
      w.heap[D + 1]? = some (.loop { state := s.state, pending := s.pend, fn := fn, tmps := us.toArray, params := ps, assign := assign, body := body, defers := D })

theorem InertRel.keep {w w' : World} {Z Z' : Nat → Prop} {B : Nat} {u : Value} {x : Inert} (hb : ∀ b, b < w.heap.size → ¬ Z b → w'.heap[b]? = w.heap[b]? ∧ ¬ Z' b) (h : InertRel w Z B u x) : InertRel w' Z' B u x := by
  cases x with
  | mark D =>
    obtain ⟨h1, h2, h3⟩ := h
    obtain ⟨k1, k2⟩ := hb D (Array.getElem?_eq_some_iff.1 h3).1 h2.2
    exact ⟨h1, ⟨h2.1, k2⟩, k1.trans h3⟩
  | lrec D s us ps as bd =>
    obtain ⟨fn, h1, ⟨h2, h3⟩, h4, h5⟩ := h
    obtain ⟨k1, k2⟩ := hb D (Array.getElem?_eq_some_iff.1 h3).1 h2.2
    obtain ⟨k3, k4⟩ := hb (D + 1) (Array.getElem?_eq_some_iff.1 h5).1 h4
    exact ⟨fn, h1, ⟨⟨h2.1, k2⟩, k1.trans h3⟩, k4, k3.trans h5⟩

theorem InertRel.blk {w : World} {Z : Nat → Prop} {B : Nat} {u : Value} {x : Inert} (h : InertRel w Z B u x) : blk u = none := by
  cases x with
  | mark D => obtain ⟨rfl, _⟩ := h; rfl
  | lrec D s us ps as bd => obtain ⟨fn, rfl, _⟩ := h; rfl

def ObjRel (w : World) (Z : Nat → Prop) (μ : List Value) (B : Nat) (u : Value) : AObj → Prop
  | .box t cs => ∃ g xs, u = .pointer (some ⟨g, 0, none⟩) ∧ B ≤ g ∧ w.heap[g]? = some (.cells xs.toArray t (0, 0)) ∧ RelL w Z μ cs xs
  | .list e s n cs => ∃ xs, w.ownsRow B e s u n xs ∧ RelL w Z [] cs xs
  | .dead => True
  | .frame us cs => RelL w Z μ cs us
  | .inert x => InertRel w Z B u x

structure HRel (w : World) (Z : Nat → Prop) (B : Nat) (μ : List Value) (hp : List AObj) : Prop where
  len : μ.length = hp.length
  zone : ∀ (i : Nat) o u g, hp[i]? = some o → o.alive = true → μ[i]? = some u → blk u = some g → Z g
  one : ∀ (i : Nat) u, μ[i]? = some u → u.oneCell' = true
  obj : ∀ (i : Nat) o u, hp[i]? = some o → μ[i]? = some u → ObjRel w Z μ B u o
  sep : ∀ (i j : Nat) oi oj ui uj g, i ≠ j → hp[i]? = some oi → hp[j]? = some oj → oi.alive = true → oj.alive = true → μ[i]? = some ui → μ[j]? = some uj → blk ui = some g → blk uj = some g → False

/-- What a function may write when its heap began at B: the new blocks but those that are written no more (F), and those that its caller keeps from it. -/
def Zone (Z0 F : Nat → Prop) (B : Nat) : Nat → Prop := fun b => (b < B ∧ Z0 b) ∨ (B ≤ b ∧ ¬ F b)

def NoF : Nat → Prop := fun _ => False

/-- Deferred calls: none; or the mark of a loop over a function that is over. -/
def Defs (μ : List Value) (hp : List AObj) (ds : List Deferred) : Prop :=
  ds = [] ∨ ∃ (i D : Nat) (u : Value), hp[i]? = some (.inert (.mark D)) ∧ μ[i]? = some u ∧ ds = [{ target := .collected D, args := #[] }]

def AObj.isMark : AObj → Bool
  | .inert (.mark _) => true
  | _ => false
/-- No loop over a function is over. -/
def noMark (hp : List AObj) : Bool := !hp.any AObj.isMark

theorem Defs.none {μ : List Value} {hp : List AObj} {ds : List Deferred} (h : Defs μ hp ds) (hn : noMark hp = true) : ds = [] := by
  rcases h with h | ⟨i, D, u, h1, _, _⟩
  · exact h
  · exfalso
    have hm : AObj.inert (.mark D) ∈ hp := List.mem_of_getElem? h1
    simp only [noMark, Bool.not_eq_true', List.any_eq_false] at hn
    exact hn _ hm rfl

theorem Defs.keep {μ μ' : List Value} {hp hp' : List AObj} {ds : List Deferred} (h : Defs μ hp ds) (hk : ∀ (i : Nat) x, hp[i]? = some (.inert x) → hp'[i]? = some (.inert x) ∧ ∀ u, μ[i]? = some u → μ'[i]? = some u) : Defs μ' hp' ds := by
  rcases h with h | ⟨i, D, u, h1, h2, h3⟩
  · exact .inl h
  · exact .inr ⟨i, D, u, (hk i _ h1).1, (hk i _ h1).2 _ h2, h3⟩

theorem Defs.app {μ μs : List Value} {hp os : List AObj} {ds : List Deferred} (h : Defs μ hp ds) : Defs (μ ++ μs) (hp ++ os) ds :=
  h.keep fun i x hi => ⟨by rw [List.getElem?_append_left (List.getElem?_eq_some_iff.1 hi).1]; exact hi, fun u hu => by rw [List.getElem?_append_left (List.getElem?_eq_some_iff.1 hu).1]; exact hu⟩

/-- The state st stands for the frame a and the world w, in a call that began in w0. -/
def Sim (Z0 : Nat → Prop) (w0 : World) (st : St) (a : Act) (w : World) : Prop :=
  ∃ μ F, (∀ b, F b → w0.heap.size ≤ b ∧ b < w.heap.size) ∧ HRel w (Zone Z0 F w0.heap.size) w0.heap.size μ st.hp ∧ RelL w (Zone Z0 F w0.heap.size) μ st.fr a.tmps.toList ∧ Defs μ st.hp a.defers ∧ Below w0.heap.size w0 w

theorem ObjRel.blk_ge {w Z μ B u} {o : AObj} (h : ObjRel w Z μ B u o) (ha : o.alive = true) {g : Nat} (hg : blk u = some g) : B ≤ g ∧ g < w.heap.size := by
  cases o with
  | box t cs =>
    obtain ⟨g', xs, rfl, hB, hh, _⟩ := h
    simp only [blk, Option.some.injEq] at hg
    subst hg
    exact ⟨hB, (Array.getElem?_eq_some_iff.1 hh).1⟩
  | list e s n cs =>
    obtain ⟨xs, hown, _⟩ := h
    have hv : u.ownBlock = some g := by
      rcases hown.2 with ⟨rfl, _⟩ | ⟨g', cap, cur, rfl, _⟩
      · simp [blk] at hg
      · simpa [blk, Value.ownBlock] using hg
    exact hown.lt g hv
  | dead => simp [AObj.alive] at ha
  | frame us cs => simp [AObj.alive] at ha
  | inert x => rw [InertRel.blk h] at hg; cases hg

theorem ownsRow_keep {w w' : World} {B e s n : Nat} {v : Value} {xs : List Value} (h : w.ownsRow B e s v n xs) (hb : ∀ g, blk v = some g → w'.heap[g]? = w.heap[g]?) : w'.ownsRow B e s v n xs := by
  refine ⟨h.1, ?_⟩
  rcases h.2 with hn | ⟨g, cap, cur, rfl, hB, hg, rest⟩
  · exact .inl hn
  · exact .inr ⟨g, cap, cur, rfl, hB, by rw [hb g rfl]; exact hg, rest⟩

theorem ObjRel.keep {w w' : World} {Z : Nat → Prop} {μ μ' : List Value} {B : Nat} {u : Value} {o : AObj} (hb : ∀ b, b < w.heap.size → ¬ Z b → w'.heap[b]? = w.heap[b]?)
    (hm : ∀ (i : Nat) (u : Value), μ[i]? = some u → μ'[i]? = some u) (hg : ∀ g, blk u = some g → w'.heap[g]? = w.heap[g]?) (h : ObjRel w Z μ B u o) : ObjRel w' Z μ' B u o := by
  cases o with
  | box t cs =>
    obtain ⟨g, xs, rfl, hB, hh, hr⟩ := h
    exact ⟨g, xs, rfl, hB, by rw [hg g rfl]; exact hh, hr.keep hb hm⟩
  | list e s n cs =>
    obtain ⟨xs, hown, hr⟩ := h
    exact ⟨xs, ownsRow_keep hown hg, hr.keep hb (fun _ _ h => h)⟩
  | dead => trivial
  | frame us cs => exact RelL.keep hb hm h
  | inert x => exact InertRel.keep (fun b h1 h2 => ⟨hb b h1 h2, h2⟩) h

theorem ObjRel.keep_dead {w w' : World} {Z : Nat → Prop} {μ μ' : List Value} {B B' : Nat} {u u' : Value} {o : AObj} (hb : ∀ b, b < w.heap.size → ¬ Z b → w'.heap[b]? = w.heap[b]?)
    (hm : ∀ (i : Nat) (u : Value), μ[i]? = some u → μ'[i]? = some u) (ha : o.alive = false) (h : ObjRel w Z μ B u o) : ObjRel w' Z μ' B' u' o := by
  cases o with
  | box t cs => cases ha
  | list e s n cs => cases ha
  | dead => trivial
  | frame us cs => exact RelL.keep hb hm h
  | inert x => cases ha

def AObj.kill (i : Nat) : AObj → AObj
  | .box t cs => .box t (killL i cs)
  | .list e s n cs => .list e s n cs
  | .dead => .dead
  | .frame us cs => .frame us (killL i cs)
  | .inert x => .inert x

theorem AObj.kill_alive (i : Nat) (o : AObj) : (o.kill i).alive = o.alive := by cases o <;> rfl

theorem ObjRel.keep_kill {w w' : World} {Z : Nat → Prop} {μ μ' : List Value} {B : Nat} {u : Value} {o : AObj} (k : Nat) (hb : ∀ b, b < w.heap.size → ¬ Z b → w'.heap[b]? = w.heap[b]?)
    (hm : ∀ (i : Nat) (u : Value), i ≠ k → μ[i]? = some u → μ'[i]? = some u) (hg : ∀ g, blk u = some g → w'.heap[g]? = w.heap[g]?) (h : ObjRel w Z μ B u o) : ObjRel w' Z μ' B u (o.kill k) := by
  cases o with
  | box t cs =>
    obtain ⟨g, xs, rfl, hB, hh, hr⟩ := h
    exact ⟨g, xs, rfl, hB, by rw [hg g rfl]; exact hh, hr.keep_kill k hb hm⟩
  | list e s n cs =>
    obtain ⟨xs, hown, hr⟩ := h
    exact ⟨xs, ownsRow_keep hown hg, hr.keep hb (fun _ _ h => h)⟩
  | dead => trivial
  | frame us cs => exact RelL.keep_kill k hb hm h
  | inert x => exact InertRel.keep (fun b h1 h2 => ⟨hb b h1 h2, h2⟩) h

theorem ObjRel.keep_kill_dead {w w' : World} {Z : Nat → Prop} {μ μ' : List Value} {B B' : Nat} {u u' : Value} {o : AObj} (k : Nat) (hb : ∀ b, b < w.heap.size → ¬ Z b → w'.heap[b]? = w.heap[b]?)
    (hm : ∀ (i : Nat) (u : Value), i ≠ k → μ[i]? = some u → μ'[i]? = some u) (ha : o.alive = false) (h : ObjRel w Z μ B u o) : ObjRel w' Z μ' B' u' (o.kill k) := by
  cases o with
  | box t cs => cases ha
  | list e s n cs => cases ha
  | dead => trivial
  | frame us cs => exact RelL.keep_kill k hb hm h
  | inert x => cases ha

/-! ### Values that name no object -/
mutual
def AV.leafy : AV → Bool
  | .int _ _ | .bool _ | .str _ | .nil | .lst .. | .clp .. | .rptr _ | .top => true
  | .agg cs | .fn _ cs => leafyL cs
  | .tup _ | .ref _ | .ptr _ _ | .own .. => false
def leafyL : List AV → Bool
  | [] => true
  | c :: cs => c.leafy && leafyL cs
end

mutual
theorem Rel.leafy {w : World} {Z : Nat → Prop} {μ : List Value} : ∀ {c : AV} {v : Value}, c.leafy = true → Rel w Z μ c v → Rel w Z [] c v
  | .int _ _, _, _, h => by simpa [Rel] using h
  | .bool _, _, _, h => by simpa [Rel] using h
  | .str _, _, _, h => by simpa [Rel] using h
  | .nil, _, _, h => by simpa [Rel] using h
  | .lst _ _ _, _, _, h => by simpa [Rel] using h
  | .clp _ _ _, _, _, h => by simpa [Rel] using h
  | .rptr _, _, _, h => by simpa [Rel] using h
  | .top, _, _, _ => by simp [Rel]
  | .agg cs, _, hl, h => by
    simp only [Rel] at h ⊢
    obtain ⟨xs, h1, h2⟩ := h
    exact ⟨xs, h1, RelL.leafy (by simpa [AV.leafy] using hl) h2⟩
  | .fn f cs, _, hl, h => by
    simp only [Rel] at h ⊢
    obtain ⟨xs, h1, h2⟩ := h
    exact ⟨xs, h1, RelL.leafy (by simpa [AV.leafy] using hl) h2⟩
  | .tup _, _, hl, _ => by simp [AV.leafy] at hl
  | .ref _, _, hl, _ => by simp [AV.leafy] at hl
  | .ptr _ _, _, hl, _ => by simp [AV.leafy] at hl
  | .own _ _ _ _, _, hl, _ => by simp [AV.leafy] at hl
theorem RelL.leafy {w : World} {Z : Nat → Prop} {μ : List Value} : ∀ {cs : List AV} {vs : List Value}, leafyL cs = true → RelL w Z μ cs vs → RelL w Z [] cs vs
  | [], _, _, h => by simpa [RelL] using h
  | c :: cs, _, hl, h => by
    simp only [leafyL, Bool.and_eq_true] at hl
    simp only [RelL] at h ⊢
    obtain ⟨x, xs, h1, h2, h3⟩ := h
    exact ⟨x, xs, h1, Rel.leafy hl.1 h2, RelL.leafy hl.2 h3⟩
end


end Go.Abs
