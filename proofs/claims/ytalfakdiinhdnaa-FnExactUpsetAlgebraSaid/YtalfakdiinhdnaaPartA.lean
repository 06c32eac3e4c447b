/- Texts of the proof: Post, SymA, SymB, SymC, SymD. -/
import Derived.Test.YtalfakdiinhdnaaRows
import Derived.WalkKit
import Derived.ProofKit
import Derived.WalkSpells
import Derived.WalkLawsBesides
import Derived.Laws.MakeOwn

/-! A law that returns true and leaves a world that is as before below the old heap's end meets its row's post; no condition on the arguments' types but that they can be read. -/
namespace Go.Proofs.Ytalfakdiinhdnaa
open Go.ChangeShapes Go.WideShapes Go.ChangeAt Go.RowKit

/-- All arguments read behind the call as before it. -/
theorem trodAll_below {H : Type} {enc : TypeId × Value → H} {P : Program} (hl : laidOutB P = true) {W W' : World} (hb : Below W.heap.size W W') :
    ∀ (ts : List TypeId) (vs : List Value) (ds : List (DataW H)) (ps : List MemPlace), (∀ t ∈ ts, P.readableRec t = true ∧ t < P.types.size) →
      DataW.TrodAll enc P W 0 (fun _ => true) true ts vs ds ps → (∀ x ∈ ps, x.block < W.heap.size) →
      DataW.TrodAll enc P W' 0 (fun b => decide (b < W.heap.size)) true ts vs ds ps
  | [], [], [], _, _, h, _ => h
  | t :: ts, v :: vs, d :: ds, ps, ht, h, hlt => by
    obtain ⟨p, q, h1, h2, rfl⟩ := h
    have hq := trodAll_below hl hb ts vs ds q (fun t' ht' => ht t' (List.mem_cons_of_mem _ ht')) h2 (fun x hx => hlt x (List.mem_append_right _ hx))
    have ht0 := ht t (List.mem_cons_self ..)
    exact ⟨p, q, Below.trod hl ht0.1 ht0.2 h1 hb (fun x hx => hlt x (List.mem_append_left _ hx)), hq, rfl⟩
  | [], [], _ :: _, _, _, h, _ => h.elim
  | [], _ :: _, _, _, _, h, _ => h.elim
  | _ :: _, [], _, _, _, h, _ => h.elim
  | _ :: _, _ :: _, [], _, _, h, _ => h.elim

/-- The post of a law: its one result is true, its arguments read as before, no variable is named. -/
theorem law_post {H : Type} {enc : TypeId × Value → H} {P : Program} {f : Func} {s : ChangeSpec} {apart fresh handsOn : Bool} {W W' : World} {args : Array Value} {ds gs : List (DataW H)} {before : List MemPlace} {tb : TypeId}
    (hl : laidOutB P = true) (ht : ∀ t ∈ f.params.toList, P.readableRec t = true ∧ t < P.types.size)
    (hr : f.resultTypes = #[tb]) (hbool : P.underlying tb = some .bool) (hv : s.vars = [])
    (hW : DataW.Whole enc P f.params.toList s.vars apart W args.toList ds gs before)
    (hs1 : (s.fn H (ds ++ gs)).results = [.lit (.bool true)]) (hs2 : (s.fn H (ds ++ gs)).args = ds) (hs3 : (s.fn H (ds ++ gs)).vars = [])
    (hb : Below W.heap.size W W') : s.post enc P f apart fresh handsOn false W args (.bool true) W' := by
  have hlt : ∀ p ∈ before, p.block < W.heap.size := fun p hp => hW.lt p hp
  have hW2 := hW
  obtain ⟨p, q, hA, hV, rfl, _, _⟩ := hW2
  rw [hv] at hV
  cases gs with
  | cons _ _ => exact hV.elim
  | nil =>
    obtain rfl : q = [] := hV
    rw [List.append_nil] at hlt
    refine ⟨ds, [], p ++ [], [], p, [], hW, ?_, ?_, ?_, World.keptBut_mono (fun p' hp' => ⟨hp', .inr (.inl (by simpa using hp'))⟩) (hb.frame (· ∈ p ++ [])), fun h => by cases h⟩
    · rw [hs1, hr]
      exact trodAll_mk1 (shut_bool hbool true)
    · rw [hs2]
      exact trodAll_below hl hb _ _ _ _ ht hA hlt
    · rw [hs3, hv]
      exact (rfl : ([] : List MemPlace) = [])

end Go.Proofs.Ytalfakdiinhdnaa


/-! A machine of abstract values beside the model's: values, objects, and how they stand for the model's values and blocks; how that relation is kept when memory grows. -/
namespace Go.Abs
open Go.RowKit

/-- Abstract values. 'lst s n cs': a slice that is only read, n elements of s cells each; 'clp s n cs': the same, of no greater capacity; 'ref i': the slice of object i; 'ptr i o': the address of cell o of object i; 'rptr cs': an address behind which cs can be read; 'own': a new slice (in results alone); 'nam v o s n cs': the slice v, that is only read and, if o tells its elements' type, stands at the beginning of a block of its own; 'top': anything. -/
inductive AV where
  | int (k : IntKind) (n : Int)
  | bool (b : Bool)
  | str (s : ByteArray)
  | nil
  | lst (s n : Nat) (cs : List AV)
  | clp (s n : Nat) (cs : List AV)
  | nam (v : Value) (o : Option Nat) (s n : Nat) (cs : List AV)
  | ref (i : Nat)
  | ptr (i o : Nat)
  | rptr (cs : List AV)
  | agg (cs : List AV)
  | tup (cs : List AV)
  | fn (f : FuncId) (cs : List AV)
  | own (e s n : Nat) (cs : List AV)
  | top
  deriving Inhabited

/-- How far a loop over a function has come. -/
inductive LSt where
  | ready
  | busy
  | done (c : Code)

def LSt.state : LSt → LoopState
  | .ready => .ready
  | .busy => .busy
  | .done _ => .done
def LSt.pend : LSt → Option Code
  | .done c => some c
  | _ => none

/-- What holds no cells: the mark of a loop over a function that is over, and the record of one that is under way, whose function's temporaries are us; or the number of the function's first block. -/
inductive Inert where
  | mark (D : Nat)
  | lrec (D : Nat) (s : LSt) (us : List Value) (ps : Array Tmp) (assign body : Code)
  | base (b : Nat)

/-- Objects: a box (a variable in memory), a slice that the call owns, nothing any more; or a caller's frame, which holds the values us; or what holds no cells. -/
inductive AObj where
  | box (t : TypeId) (cs : List AV)
  | list (e s n : Nat) (cs : List AV)
  | dead
  | frame (us : List Value) (cs : List AV)
  | inert (x : Inert)
  deriving Inhabited

def AObj.alive : AObj → Bool
  | .dead => false
  | .frame _ _ => false
  | _ => true

structure St where
  fr : List AV
  hp : List AObj

/-- The block in which a slice or a pointer leads. -/
def blk : Value → Option Nat
  | .slice (some a) _ _ => some a.block
  | .pointer (some a) => some a.block
  | _ => none

/-- The cells xs can be read from A on, in memory that is not to be written (Z: what may be written). -/
def Rd (w : World) (Z : Nat → Prop) (A : Option Addr) (xs : List Value) : Prop :=
  xs ≠ [] → ∃ ad, A = some ad ∧ ¬ Z ad.block ∧ ∀ (j : Nat) u, xs[j]? = some u → w.cell? (ad.add j) = some u

/-- The slice u has a block of its own that is not written. -/
def NamO (w : World) (Z : Nat → Prop) (o : Option Nat) (s n : Nat) (u : Value) : Prop := ∀ e, o = some e → ∃ xs, w.ownsRow 0 e s u n xs ∧ ∀ g, blk u = some g → ¬ Z g

mutual
def Rel (w : World) (Z : Nat → Prop) (μ : List Value) : AV → Value → Prop
  | .int k n, v => v = .int k n
  | .bool b, v => v = .bool b
  | .str s, v => v = .string s
  | .nil, v => v = .slice none 0 0
  | .lst s n cs, v => ∃ A c xs, v = .slice A n c ∧ cs.length = n * s ∧ n ≤ c ∧ Rd w Z A xs ∧ RelL w Z [] cs xs
  | .clp s n cs, v => ∃ A c xs, v = .slice A n c ∧ cs.length = n * s ∧ c = n ∧ Rd w Z A xs ∧ RelL w Z [] cs xs
  | .nam u o s n cs, v => (v = u ∧ NamO w Z o s n v) ∧ ∃ A c xs, v = .slice A n c ∧ cs.length = n * s ∧ n ≤ c ∧ Rd w Z A xs ∧ RelL w Z [] cs xs
  | .ref i, v => μ[i]? = some v
  | .ptr i o, v => ∃ u g, μ[i]? = some u ∧ blk u = some g ∧ v = .pointer (some ⟨g, o, none⟩)
  | .rptr cs, v => ∃ ad xs, v = .pointer (some ad) ∧ Rd w Z (some ad) xs ∧ RelL w Z [] cs xs
  | .agg cs, v => ∃ xs, v = .agg xs.toArray ∧ RelL w Z μ cs xs
  | .tup cs, v => ∃ xs, v = .tuple xs.toArray ∧ RelL w Z μ cs xs
  | .fn f cs, v => ∃ xs, v = .func (.func f) #[] xs.toArray ∧ RelL w Z μ cs xs
  | .own _ _ _ _, _ => False
  | .top, _ => True
def RelL (w : World) (Z : Nat → Prop) (μ : List Value) : List AV → List Value → Prop
  | [], vs => vs = []
  | c :: cs, vs => ∃ x xs, vs = x :: xs ∧ Rel w Z μ c x ∧ RelL w Z μ cs xs
end

mutual
/-- Object i is forgotten wherever it is named. -/
def AV.kill (i : Nat) : AV → AV
  | .ref j => if j = i then .top else .ref j
  | .ptr j o => if j = i then .top else .ptr j o
  | .lst s n cs => .lst s n cs
  | .clp s n cs => .clp s n cs
  | .nam u o s n cs => .nam u o s n cs
  | .rptr cs => .rptr cs
  | .agg cs => .agg (killL i cs)
  | .tup cs => .tup (killL i cs)
  | .fn f cs => .fn f (killL i cs)
  | .int k n => .int k n
  | .bool b => .bool b
  | .str s => .str s
  | .nil => .nil
  | .own e s n cs => .own e s n cs
  | .top => .top
def killL (i : Nat) : List AV → List AV
  | [] => []
  | c :: cs => c.kill i :: killL i cs
end

theorem RelL.length {w Z μ} : ∀ {cs : List AV} {vs : List Value}, RelL w Z μ cs vs → vs.length = cs.length
  | [], _, h => by rw [RelL] at h; subst h; rfl
  | c :: cs, _, h => by
    rw [RelL] at h
    obtain ⟨x, xs, rfl, _, h2⟩ := h
    simp [h2.length]

section
variable {w w' : World} {Z : Nat → Prop} {μ μ' : List Value}

theorem Rd.keep {A : Option Addr} {xs : List Value} (hb : ∀ b, b < w.heap.size → ¬ Z b → w'.heap[b]? = w.heap[b]?) (h : Rd w Z A xs) : Rd w' Z A xs := by
  intro hne
  obtain ⟨ad, rfl, hz, hc⟩ := h hne
  refine ⟨ad, rfl, hz, fun j u hu => ?_⟩
  have h1 := hc j u hu
  have hlt := World.block_lt_of_cell? w _ h1
  have hbk : (ad.add j).block = ad.block := by unfold Addr.add; split <;> rfl
  rw [World.cell?_of_block (w := w) (hb _ hlt (by rw [hbk]; exact hz))]
  exact h1

theorem ownsRow_keep' {w w' : World} {B e s n : Nat} {u : Value} {xs : List Value} (h : w.ownsRow B e s u n xs) (hk : ∀ g, blk u = some g → w'.heap[g]? = w.heap[g]?) : w'.ownsRow B e s u n xs := by
  refine ⟨h.1, h.2.imp id ?_⟩
  rintro ⟨g, cap, cur, rfl, h1, h2, h3⟩
  exact ⟨g, cap, cur, rfl, h1, (hk g rfl).trans h2, h3⟩

theorem ownsRow_lt' {w : World} {B e s n : Nat} {u : Value} {xs : List Value} (h : w.ownsRow B e s u n xs) {g : Nat} (hg : blk u = some g) : g < w.heap.size := by
  rcases h.2 with ⟨rfl, _⟩ | ⟨g', cap, cur, rfl, h1, h2, h3⟩
  · cases hg
  · cases hg
    exact (Array.getElem?_eq_some_iff.1 h2).1

theorem NamO.keep {o : Option Nat} {s n : Nat} {u : Value} (hb : ∀ b, b < w.heap.size → ¬ Z b → w'.heap[b]? = w.heap[b]?) (h : NamO w Z o s n u) : NamO w' Z o s n u := by
  intro e he
  obtain ⟨xs, h1, h2⟩ := h e he
  exact ⟨xs, ownsRow_keep' h1 fun g hg => hb g (ownsRow_lt' h1 hg) (h2 g hg), h2⟩

mutual
theorem Rel.keep (hb : ∀ b, b < w.heap.size → ¬ Z b → w'.heap[b]? = w.heap[b]?) {μ μ' : List Value} (hm : ∀ (i : Nat) (u : Value), μ[i]? = some u → μ'[i]? = some u) :
    ∀ {c : AV} {v : Value}, Rel w Z μ c v → Rel w' Z μ' c v
  | .int _ _, _, h => by simpa [Rel] using h
  | .bool _, _, h => by simpa [Rel] using h
  | .str _, _, h => by simpa [Rel] using h
  | .nil, _, h => by simpa [Rel] using h
  | .top, _, _ => by simp [Rel]
  | .own _ _ _ _, _, h => by simp [Rel] at h
  | .ref i, v, h => by simp only [Rel] at h ⊢; exact hm i v h
  | .ptr i o, v, h => by
    simp only [Rel] at h ⊢
    obtain ⟨u, g, h1, h2, h3⟩ := h
    exact ⟨u, g, hm i u h1, h2, h3⟩
  | .lst s n cs, v, h => by
    simp only [Rel] at h ⊢
    obtain ⟨A, c, xs, h1, h2, h3, h4, h5⟩ := h
    exact ⟨A, c, xs, h1, h2, h3, h4.keep hb, RelL.keep hb (μ := []) (μ' := []) (fun _ _ h => h) h5⟩
  | .clp s n cs, v, h => by
    simp only [Rel] at h ⊢
    obtain ⟨A, c, xs, h1, h2, h3, h4, h5⟩ := h
    exact ⟨A, c, xs, h1, h2, h3, h4.keep hb, RelL.keep hb (μ := []) (μ' := []) (fun _ _ h => h) h5⟩
  | .nam u o s n cs, v, h => by
    simp only [Rel] at h ⊢
    obtain ⟨⟨h0, h00⟩, A, c, xs, h1, h2, h3, h4, h5⟩ := h
    exact ⟨⟨h0, h00.keep hb⟩, A, c, xs, h1, h2, h3, h4.keep hb, RelL.keep hb (μ := []) (μ' := []) (fun _ _ h => h) h5⟩
  | .rptr cs, v, h => by
    simp only [Rel] at h ⊢
    obtain ⟨ad, xs, h1, h4, h5⟩ := h
    exact ⟨ad, xs, h1, h4.keep hb, RelL.keep hb (μ := []) (μ' := []) (fun _ _ h => h) h5⟩
  | .agg cs, v, h => by
    simp only [Rel] at h ⊢
    obtain ⟨xs, h1, h5⟩ := h
    exact ⟨xs, h1, RelL.keep hb hm h5⟩
  | .tup cs, v, h => by
    simp only [Rel] at h ⊢
    obtain ⟨xs, h1, h5⟩ := h
    exact ⟨xs, h1, RelL.keep hb hm h5⟩
  | .fn f cs, v, h => by
    simp only [Rel] at h ⊢
    obtain ⟨xs, h1, h5⟩ := h
    exact ⟨xs, h1, RelL.keep hb hm h5⟩
theorem RelL.keep (hb : ∀ b, b < w.heap.size → ¬ Z b → w'.heap[b]? = w.heap[b]?) {μ μ' : List Value} (hm : ∀ (i : Nat) (u : Value), μ[i]? = some u → μ'[i]? = some u) :
    ∀ {cs : List AV} {vs : List Value}, RelL w Z μ cs vs → RelL w' Z μ' cs vs
  | [], _, h => by simpa [RelL] using h
  | c :: cs, _, h => by
    simp only [RelL] at h ⊢
    obtain ⟨x, xs, h1, h2, h3⟩ := h
    exact ⟨x, xs, h1, Rel.keep hb hm h2, RelL.keep hb hm h3⟩
end

mutual
theorem Rel.keep_kill (k : Nat) (hb : ∀ b, b < w.heap.size → ¬ Z b → w'.heap[b]? = w.heap[b]?) (hm : ∀ (i : Nat) (u : Value), i ≠ k → μ[i]? = some u → μ'[i]? = some u) :
    ∀ {c : AV} {v : Value}, Rel w Z μ c v → Rel w' Z μ' (c.kill k) v
  | .int _ _, _, h => by simpa [Rel, AV.kill] using h
  | .bool _, _, h => by simpa [Rel, AV.kill] using h
  | .str _, _, h => by simpa [Rel, AV.kill] using h
  | .nil, _, h => by simpa [Rel, AV.kill] using h
  | .top, _, _ => by simp [Rel, AV.kill]
  | .own _ _ _ _, _, h => by simp [Rel] at h
  | .ref i, v, h => by
    simp only [AV.kill]
    split
    · simp [Rel]
    · rename_i hne
      simp only [Rel] at h ⊢
      exact hm i v hne h
  | .ptr i o, v, h => by
    simp only [AV.kill]
    split
    · simp [Rel]
    · rename_i hne
      simp only [Rel] at h ⊢
      obtain ⟨u, g, h1, h2, h3⟩ := h
      exact ⟨u, g, hm i u hne h1, h2, h3⟩
  | .lst s n cs, v, h => by
    simp only [Rel, AV.kill] at h ⊢
    obtain ⟨A, c, xs, h1, h2, h3, h4, h5⟩ := h
    exact ⟨A, c, xs, h1, h2, h3, h4.keep hb, RelL.keep hb (μ := []) (μ' := []) (fun _ _ h => h) h5⟩
  | .clp s n cs, v, h => by
    simp only [Rel, AV.kill] at h ⊢
    obtain ⟨A, c, xs, h1, h2, h3, h4, h5⟩ := h
    exact ⟨A, c, xs, h1, h2, h3, h4.keep hb, RelL.keep hb (μ := []) (μ' := []) (fun _ _ h => h) h5⟩
  | .nam u o s n cs, v, h => by
    simp only [Rel, AV.kill] at h ⊢
    obtain ⟨⟨h0, h00⟩, A, c, xs, h1, h2, h3, h4, h5⟩ := h
    exact ⟨⟨h0, h00.keep hb⟩, A, c, xs, h1, h2, h3, h4.keep hb, RelL.keep hb (μ := []) (μ' := []) (fun _ _ h => h) h5⟩
  | .rptr cs, v, h => by
    simp only [Rel, AV.kill] at h ⊢
    obtain ⟨ad, xs, h1, h4, h5⟩ := h
    exact ⟨ad, xs, h1, h4.keep hb, RelL.keep hb (μ := []) (μ' := []) (fun _ _ h => h) h5⟩
  | .agg cs, v, h => by
    simp only [Rel, AV.kill] at h ⊢
    obtain ⟨xs, h1, h5⟩ := h
    exact ⟨xs, h1, RelL.keep_kill k hb hm h5⟩
  | .tup cs, v, h => by
    simp only [Rel, AV.kill] at h ⊢
    obtain ⟨xs, h1, h5⟩ := h
    exact ⟨xs, h1, RelL.keep_kill k hb hm h5⟩
  | .fn f cs, v, h => by
    simp only [Rel, AV.kill] at h ⊢
    obtain ⟨xs, h1, h5⟩ := h
    exact ⟨xs, h1, RelL.keep_kill k hb hm h5⟩
theorem RelL.keep_kill (k : Nat) (hb : ∀ b, b < w.heap.size → ¬ Z b → w'.heap[b]? = w.heap[b]?) (hm : ∀ (i : Nat) (u : Value), i ≠ k → μ[i]? = some u → μ'[i]? = some u) :
    ∀ {cs : List AV} {vs : List Value}, RelL w Z μ cs vs → RelL w' Z μ' (killL k cs) vs
  | [], _, h => by simpa [RelL, killL] using h
  | c :: cs, _, h => by
    simp only [RelL, killL] at h ⊢
    obtain ⟨x, xs, h1, h2, h3⟩ := h
    exact ⟨x, xs, h1, Rel.keep_kill k hb hm h2, RelL.keep_kill k hb hm h3⟩
end
end

/-! ### Lists of related cells -/
section
variable {w : World} {Z : Nat → Prop} {μ : List Value}

theorem RelL.get {cs : List AV} {vs : List Value} (h : RelL w Z μ cs vs) {i : Nat} {c : AV} (hc : cs[i]? = some c) : ∃ x, vs[i]? = some x ∧ Rel w Z μ c x := by
  induction cs generalizing vs i with
  | nil => simp at hc
  | cons d cs ih =>
    rw [RelL] at h
    obtain ⟨x, xs, rfl, h1, h2⟩ := h
    cases i with
    | zero => simp at hc; subst hc; exact ⟨x, rfl, h1⟩
    | succ i => exact ih h2 (by simpa using hc)

theorem RelL.getD {cs : List AV} {vs : List Value} (h : RelL w Z μ cs vs) (i : Nat) (d : Value) : Rel w Z μ (cs.getD i .top) (vs.getD i d) := by
  rcases Nat.lt_or_ge i cs.length with hi | hi
  · obtain ⟨x, hx, hr⟩ := h.get (List.getElem?_eq_getElem hi)
    simp only [List.getD_eq_getElem?_getD, hx, List.getElem?_eq_getElem hi, Option.getD_some]
    exact hr
  · simp [List.getD_eq_getElem?_getD, List.getElem?_eq_none hi, Rel]

theorem RelL.set {cs : List AV} {vs : List Value} (h : RelL w Z μ cs vs) (i : Nat) {c : AV} {x : Value} (hc : Rel w Z μ c x) : RelL w Z μ (cs.set i c) (vs.set i x) := by
  induction cs generalizing vs i with
  | nil => rw [RelL] at h; subst h; simp [RelL]
  | cons d cs ih =>
    rw [RelL] at h
    obtain ⟨y, ys, rfl, h1, h2⟩ := h
    cases i with
    | zero => exact ⟨x, ys, rfl, hc, h2⟩
    | succ i => exact ⟨y, ys.set i x, rfl, h1, ih h2 i⟩

theorem RelL.append {cs ds : List AV} {vs us : List Value} (h : RelL w Z μ cs vs) (h' : RelL w Z μ ds us) : RelL w Z μ (cs ++ ds) (vs ++ us) := by
  induction cs generalizing vs with
  | nil => rw [RelL] at h; subst h; exact h'
  | cons d cs ih =>
    rw [RelL] at h
    obtain ⟨y, ys, rfl, h1, h2⟩ := h
    exact ⟨y, ys ++ us, rfl, h1, ih h2⟩

theorem RelL.drop {cs : List AV} {vs : List Value} (h : RelL w Z μ cs vs) (n : Nat) : RelL w Z μ (cs.drop n) (vs.drop n) := by
  induction n generalizing cs vs with
  | zero => simpa using h
  | succ n ih =>
    cases cs with
    | nil => rw [RelL] at h; subst h; simp [RelL]
    | cons d cs =>
      rw [RelL] at h
      obtain ⟨y, ys, rfl, _, h2⟩ := h
      exact ih h2

theorem RelL.take {cs : List AV} {vs : List Value} (h : RelL w Z μ cs vs) (n : Nat) : RelL w Z μ (cs.take n) (vs.take n) := by
  induction n generalizing cs vs with
  | zero => simp [RelL]
  | succ n ih =>
    cases cs with
    | nil => rw [RelL] at h; subst h; simp [RelL]
    | cons d cs =>
      rw [RelL] at h
      obtain ⟨y, ys, rfl, h1, h2⟩ := h
      exact ⟨y, ys.take n, rfl, h1, ih h2⟩

theorem RelL.nil : RelL w Z μ [] [] := by rw [RelL]
theorem RelL.cons {c : AV} {x : Value} {cs : List AV} {vs : List Value} (h : Rel w Z μ c x) (h' : RelL w Z μ cs vs) : RelL w Z μ (c :: cs) (x :: vs) := ⟨x, vs, rfl, h, h'⟩
end

theorem Rel.lift {w : World} {Z : Nat → Prop} {μ : List Value} {c : AV} {v : Value} (h : Rel w Z [] c v) : Rel w Z μ c v := Rel.keep (fun _ _ _ => rfl) (fun i u h => by simp at h) h
theorem RelL.lift {w : World} {Z : Nat → Prop} {μ : List Value} {c : List AV} {v : List Value} (h : RelL w Z [] c v) : RelL w Z μ c v := RelL.keep (fun _ _ _ => rfl) (fun i u h => by simp at h) h

theorem Rd.drop {w : World} {Z : Nat → Prop} {A : Option Addr} {xs : List Value} (h : Rd w Z A xs) (k : Nat) : Rd w Z (A.map (·.add k)) (xs.drop k) := by
  intro hne
  have hx : xs ≠ [] := by rintro rfl; simp at hne
  obtain ⟨ad, rfl, hz, hc⟩ := h hx
  refine ⟨ad.add k, rfl, ?_, fun j u hu => ?_⟩
  · have : (ad.add k).block = ad.block := by unfold Addr.add; split <;> rfl
    rw [this]; exact hz
  · have e : (ad.add k).add j = ad.add (k + j) := by
      unfold Addr.add
      by_cases hi : k = 0 <;> by_cases hj : j = 0 <;> simp [hi, hj, Nat.add_assoc]
    rw [e]
    exact hc _ u (by rw [← hu, List.getElem?_drop])

theorem Rd.take {w : World} {Z : Nat → Prop} {A : Option Addr} {xs : List Value} (h : Rd w Z A xs) (k : Nat) : Rd w Z A (xs.take k) := by
  intro hne
  have hx : xs ≠ [] := by rintro rfl; simp at hne
  obtain ⟨ad, rfl, hz, hc⟩ := h hx
  refine ⟨ad, rfl, hz, fun j u hu => hc j u ?_⟩
  rw [List.getElem?_take] at hu
  split at hu
  · exact hu
  · cases hu

/-! ### Objects -/
def InertRel (w : World) (Z : Nat → Prop) (B : Nat) (u : Value) : Inert → Prop
  | .base b => u = .bool false ∧ b = B
  | .mark D => u = .func (.yield (D + 1)) #[] #[] ∧ (B ≤ D ∧ ¬ Z D) ∧ w.heap[D]? = some (.deferred (some []))
  | .lrec D s us ps assign body => ∃ fn, u = .func (.yield (D + 1)) #[] #[] ∧ ((B ≤ D ∧ ¬ Z D) ∧ w.heap[D]? = some (.deferred (some []))) ∧ ¬ Z (D + 1) ∧
      w.heap[D + 1]? = some (.loop { state := s.state, pending := s.pend, fn := fn, tmps := us.toArray, params := ps, assign := assign, body := body, defers := D })

theorem InertRel.keep {w w' : World} {Z Z' : Nat → Prop} {B : Nat} {u : Value} {x : Inert} (hb : ∀ b, b < w.heap.size → ¬ Z b → w'.heap[b]? = w.heap[b]? ∧ ¬ Z' b) (h : InertRel w Z B u x) : InertRel w' Z' B u x := by
  cases x with
  | mark D =>
    obtain ⟨h1, h2, h3⟩ := h
    obtain ⟨k1, k2⟩ := hb D (Array.getElem?_eq_some_iff.1 h3).1 h2.2
    exact ⟨h1, ⟨h2.1, k2⟩, k1.trans h3⟩
  | base b => exact h
  | lrec D s us ps asg bd =>
    obtain ⟨fn, h1, ⟨h2, h3⟩, h4, h5⟩ := h
    obtain ⟨k1, k2⟩ := hb D (Array.getElem?_eq_some_iff.1 h3).1 h2.2
    obtain ⟨k3, k4⟩ := hb (D + 1) (Array.getElem?_eq_some_iff.1 h5).1 h4
    exact ⟨fn, h1, ⟨⟨h2.1, k2⟩, k1.trans h3⟩, k4, k3.trans h5⟩

theorem InertRel.blk {w : World} {Z : Nat → Prop} {B : Nat} {u : Value} {x : Inert} (h : InertRel w Z B u x) : blk u = none := by
  cases x with
  | mark D => obtain ⟨rfl, _⟩ := h; rfl
  | base b => obtain ⟨rfl, _⟩ := h; rfl
  | lrec D s us ps asg bd => obtain ⟨fn, rfl, _⟩ := h; rfl

def ObjRel (w : World) (Z : Nat → Prop) (μ : List Value) (B : Nat) (u : Value) : AObj → Prop
  | .box t cs => ∃ g xs, u = .pointer (some ⟨g, 0, none⟩) ∧ B ≤ g ∧ w.heap[g]? = some (.cells xs.toArray t (0, 0)) ∧ RelL w Z μ cs xs
  | .list e s n cs => ∃ xs, w.ownsRow B e s u n xs ∧ RelL w Z [] cs xs
  | .dead => True
  | .frame us cs => RelL w Z μ cs us
  | .inert x => InertRel w Z B u x

structure HRel (w : World) (Z : Nat → Prop) (B : Nat) (μ : List Value) (hp : List AObj) : Prop where
  len : μ.length = hp.length
  zone : ∀ (i : Nat) o u g, hp[i]? = some o → o.alive = true → μ[i]? = some u → blk u = some g → Z g
  one : ∀ (i : Nat) u, μ[i]? = some u → u.oneCell' = true
  obj : ∀ (i : Nat) o u, hp[i]? = some o → μ[i]? = some u → ObjRel w Z μ B u o
  sep : ∀ (i j : Nat) oi oj ui uj g, i ≠ j → hp[i]? = some oi → hp[j]? = some oj → oi.alive = true → oj.alive = true → μ[i]? = some ui → μ[j]? = some uj → blk ui = some g → blk uj = some g → False

/-- What a function may write when its heap began at B: the new blocks but those that are written no more (F), and those that its caller keeps from it. -/
def Zone (Z0 F : Nat → Prop) (B : Nat) : Nat → Prop := fun b => (b < B ∧ Z0 b) ∨ (B ≤ b ∧ ¬ F b)

def NoF : Nat → Prop := fun _ => False

/-- Deferred calls: none; or the mark of a loop over a function that is over. -/
def Defs (μ : List Value) (hp : List AObj) (ds : List Deferred) : Prop :=
  ds = [] ∨ ∃ (i D : Nat) (u : Value), hp[i]? = some (.inert (.mark D)) ∧ μ[i]? = some u ∧ ds = [{ target := .collected D, args := #[] }]

def AObj.isMark : AObj → Bool
  | .inert (.mark _) => true
  | _ => false
/-- No loop over a function is over. -/
def noMark (hp : List AObj) : Bool := !hp.any AObj.isMark

theorem Defs.none {μ : List Value} {hp : List AObj} {ds : List Deferred} (h : Defs μ hp ds) (hn : noMark hp = true) : ds = [] := by
  rcases h with h | ⟨i, D, u, h1, _, _⟩
  · exact h
  · exfalso
    have hm : AObj.inert (.mark D) ∈ hp := List.mem_of_getElem? h1
    simp only [noMark, Bool.not_eq_true', List.any_eq_false] at hn
    exact hn _ hm rfl

theorem Defs.keep {μ μ' : List Value} {hp hp' : List AObj} {ds : List Deferred} (h : Defs μ hp ds) (hk : ∀ (i : Nat) x, hp[i]? = some (.inert x) → hp'[i]? = some (.inert x) ∧ ∀ u, μ[i]? = some u → μ'[i]? = some u) : Defs μ' hp' ds := by
  rcases h with h | ⟨i, D, u, h1, h2, h3⟩
  · exact .inl h
  · exact .inr ⟨i, D, u, (hk i _ h1).1, (hk i _ h1).2 _ h2, h3⟩

theorem Defs.app {μ μs : List Value} {hp os : List AObj} {ds : List Deferred} (h : Defs μ hp ds) : Defs (μ ++ μs) (hp ++ os) ds :=
  h.keep fun i x hi => ⟨by rw [List.getElem?_append_left (List.getElem?_eq_some_iff.1 hi).1]; exact hi, fun u hu => by rw [List.getElem?_append_left (List.getElem?_eq_some_iff.1 hu).1]; exact hu⟩

/-- The state st stands for the frame a and the world w, in a call that began in w0. -/
def Sim (Z0 : Nat → Prop) (w0 : World) (st : St) (a : Act) (w : World) : Prop :=
  ∃ μ F, (∀ b, F b → w0.heap.size ≤ b ∧ b < w.heap.size) ∧ HRel w (Zone Z0 F w0.heap.size) w0.heap.size μ st.hp ∧ RelL w (Zone Z0 F w0.heap.size) μ st.fr a.tmps.toList ∧ Defs μ st.hp a.defers ∧ Below w0.heap.size w0 w

theorem ObjRel.blk_ge {w Z μ B u} {o : AObj} (h : ObjRel w Z μ B u o) (ha : o.alive = true) {g : Nat} (hg : blk u = some g) : B ≤ g ∧ g < w.heap.size := by
  cases o with
  | box t cs =>
    obtain ⟨g', xs, rfl, hB, hh, _⟩ := h
    simp only [blk, Option.some.injEq] at hg
    subst hg
    exact ⟨hB, (Array.getElem?_eq_some_iff.1 hh).1⟩
  | list e s n cs =>
    obtain ⟨xs, hown, _⟩ := h
    have hv : u.ownBlock = some g := by
      rcases hown.2 with ⟨rfl, _⟩ | ⟨g', cap, cur, rfl, _⟩
      · simp [blk] at hg
      · simpa [blk, Value.ownBlock] using hg
    exact hown.lt g hv
  | dead => simp [AObj.alive] at ha
  | frame us cs => simp [AObj.alive] at ha
  | inert x => rw [InertRel.blk h] at hg; cases hg

theorem ownsRow_keep {w w' : World} {B e s n : Nat} {v : Value} {xs : List Value} (h : w.ownsRow B e s v n xs) (hb : ∀ g, blk v = some g → w'.heap[g]? = w.heap[g]?) : w'.ownsRow B e s v n xs := by
  refine ⟨h.1, ?_⟩
  rcases h.2 with hn | ⟨g, cap, cur, rfl, hB, hg, rest⟩
  · exact .inl hn
  · exact .inr ⟨g, cap, cur, rfl, hB, by rw [hb g rfl]; exact hg, rest⟩

theorem ObjRel.keep {w w' : World} {Z : Nat → Prop} {μ μ' : List Value} {B : Nat} {u : Value} {o : AObj} (hb : ∀ b, b < w.heap.size → ¬ Z b → w'.heap[b]? = w.heap[b]?)
    (hm : ∀ (i : Nat) (u : Value), μ[i]? = some u → μ'[i]? = some u) (hg : ∀ g, blk u = some g → w'.heap[g]? = w.heap[g]?) (h : ObjRel w Z μ B u o) : ObjRel w' Z μ' B u o := by
  cases o with
  | box t cs =>
    obtain ⟨g, xs, rfl, hB, hh, hr⟩ := h
    exact ⟨g, xs, rfl, hB, by rw [hg g rfl]; exact hh, hr.keep hb hm⟩
  | list e s n cs =>
    obtain ⟨xs, hown, hr⟩ := h
    exact ⟨xs, ownsRow_keep hown hg, hr.keep hb (fun _ _ h => h)⟩
  | dead => trivial
  | frame us cs => exact RelL.keep hb hm h
  | inert x => exact InertRel.keep (fun b h1 h2 => ⟨hb b h1 h2, h2⟩) h

theorem ObjRel.keep_dead {w w' : World} {Z : Nat → Prop} {μ μ' : List Value} {B B' : Nat} {u u' : Value} {o : AObj} (hb : ∀ b, b < w.heap.size → ¬ Z b → w'.heap[b]? = w.heap[b]?)
    (hm : ∀ (i : Nat) (u : Value), μ[i]? = some u → μ'[i]? = some u) (ha : o.alive = false) (h : ObjRel w Z μ B u o) : ObjRel w' Z μ' B' u' o := by
  cases o with
  | box t cs => cases ha
  | list e s n cs => cases ha
  | dead => trivial
  | frame us cs => exact RelL.keep hb hm h
  | inert x => cases ha

def AObj.kill (i : Nat) : AObj → AObj
  | .box t cs => .box t (killL i cs)
  | .list e s n cs => .list e s n cs
  | .dead => .dead
  | .frame us cs => .frame us (killL i cs)
  | .inert x => .inert x

theorem AObj.kill_alive (i : Nat) (o : AObj) : (o.kill i).alive = o.alive := by cases o <;> rfl

theorem ObjRel.keep_kill {w w' : World} {Z : Nat → Prop} {μ μ' : List Value} {B : Nat} {u : Value} {o : AObj} (k : Nat) (hb : ∀ b, b < w.heap.size → ¬ Z b → w'.heap[b]? = w.heap[b]?)
    (hm : ∀ (i : Nat) (u : Value), i ≠ k → μ[i]? = some u → μ'[i]? = some u) (hg : ∀ g, blk u = some g → w'.heap[g]? = w.heap[g]?) (h : ObjRel w Z μ B u o) : ObjRel w' Z μ' B u (o.kill k) := by
  cases o with
  | box t cs =>
    obtain ⟨g, xs, rfl, hB, hh, hr⟩ := h
    exact ⟨g, xs, rfl, hB, by rw [hg g rfl]; exact hh, hr.keep_kill k hb hm⟩
  | list e s n cs =>
    obtain ⟨xs, hown, hr⟩ := h
    exact ⟨xs, ownsRow_keep hown hg, hr.keep hb (fun _ _ h => h)⟩
  | dead => trivial
  | frame us cs => exact RelL.keep_kill k hb hm h
  | inert x => exact InertRel.keep (fun b h1 h2 => ⟨hb b h1 h2, h2⟩) h

theorem ObjRel.keep_kill_dead {w w' : World} {Z : Nat → Prop} {μ μ' : List Value} {B B' : Nat} {u u' : Value} {o : AObj} (k : Nat) (hb : ∀ b, b < w.heap.size → ¬ Z b → w'.heap[b]? = w.heap[b]?)
    (hm : ∀ (i : Nat) (u : Value), i ≠ k → μ[i]? = some u → μ'[i]? = some u) (ha : o.alive = false) (h : ObjRel w Z μ B u o) : ObjRel w' Z μ' B' u' (o.kill k) := by
  cases o with
  | box t cs => cases ha
  | list e s n cs => cases ha
  | dead => trivial
  | frame us cs => exact RelL.keep_kill k hb hm h
  | inert x => cases ha

/-! ### Values that name no object -/
mutual
def AV.leafy : AV → Bool
  | .int _ _ | .bool _ | .str _ | .nil | .lst .. | .clp .. | .nam .. | .rptr _ | .top => true
  | .agg cs | .fn _ cs => leafyL cs
  | .tup _ | .ref _ | .ptr _ _ | .own .. => false
def leafyL : List AV → Bool
  | [] => true
  | c :: cs => c.leafy && leafyL cs
end

mutual
theorem Rel.leafy {w : World} {Z : Nat → Prop} {μ : List Value} : ∀ {c : AV} {v : Value}, c.leafy = true → Rel w Z μ c v → Rel w Z [] c v
  | .int _ _, _, _, h => by simpa [Rel] using h
  | .bool _, _, _, h => by simpa [Rel] using h
  | .str _, _, _, h => by simpa [Rel] using h
  | .nil, _, _, h => by simpa [Rel] using h
  | .lst _ _ _, _, _, h => by simpa [Rel] using h
  | .clp _ _ _, _, _, h => by simpa [Rel] using h
  | .nam _ _ _ _ _, _, _, h => by simpa [Rel] using h
  | .rptr _, _, _, h => by simpa [Rel] using h
  | .top, _, _, _ => by simp [Rel]
  | .agg cs, _, hl, h => by
    simp only [Rel] at h ⊢
    obtain ⟨xs, h1, h2⟩ := h
    exact ⟨xs, h1, RelL.leafy (by simpa [AV.leafy] using hl) h2⟩
  | .fn f cs, _, hl, h => by
    simp only [Rel] at h ⊢
    obtain ⟨xs, h1, h2⟩ := h
    exact ⟨xs, h1, RelL.leafy (by simpa [AV.leafy] using hl) h2⟩
  | .tup _, _, hl, _ => by simp [AV.leafy] at hl
  | .ref _, _, hl, _ => by simp [AV.leafy] at hl
  | .ptr _ _, _, hl, _ => by simp [AV.leafy] at hl
  | .own _ _ _ _, _, hl, _ => by simp [AV.leafy] at hl
theorem RelL.leafy {w : World} {Z : Nat → Prop} {μ : List Value} : ∀ {cs : List AV} {vs : List Value}, leafyL cs = true → RelL w Z μ cs vs → RelL w Z [] cs vs
  | [], _, _, h => by simpa [RelL] using h
  | c :: cs, _, hl, h => by
    simp only [leafyL, Bool.and_eq_true] at hl
    simp only [RelL] at h ⊢
    obtain ⟨x, xs, h1, h2, h3⟩ := h
    exact ⟨x, xs, h1, Rel.leafy hl.1 h2, RelL.leafy hl.2 h3⟩
end


end Go.Abs


/-! The operations that write to no old memory: what each yields on abstract values, and that the model's operation yields what stands for it. -/
namespace Go.Abs
open Go.RowKit

/-- What a constant reads as. -/
def ofConst : Value → AV
  | .int k n => .int k n
  | .bool b => .bool b
  | .string s => .str s
  | .slice none 0 0 => .nil
  | _ => .top

def ev (fr : List AV) : Operand → AV
  | .tmp t => fr.getD t .top
  | .const v => ofConst v
  | .global _ => .top
  | .func f => .fn f []

/-- Is the type a struct or an array? -/
def aggB (P : Program) (t : TypeId) : Option Bool := (P.underlying t).map fun | .struct _ | .array _ _ => true | _ => false
def sizeB (P : Program) (t : TypeId) : Option Nat := (P.info? t).map (·.size)
/-- A slice type's element type, with its cells. -/
def elemB (P : Program) (t : TypeId) : Option (Nat × Nat) :=
  match P.underlying t with
  | some (.slice e) => (P.info? e).map fun i => (e, i.size)
  | _ => none
/-- A struct's field: where it begins, its type's size. -/
def fieldB (P : Program) (t : TypeId) (f : Nat) : Option (Nat × Nat) :=
  match P.underlying t with
  | some (.struct fs) => (fs[f]?).bind fun fd => (P.info? fd.type).map fun i => (fd.offset, i.size)
  | _ => none
/-- A struct's field: its type, too, and whether that is a struct or an array. -/
def fieldC (P : Program) (t : TypeId) (f : Nat) : Option (Nat × Nat × Bool) :=
  match P.underlying t with
  | some (.struct fs) => (fs[f]?).bind fun fd => (P.info? fd.type).bind fun i => (aggB P fd.type).map fun b => (fd.offset, i.size, b)
  | _ => none
/-- The cells of a type's zero value. -/
def zeroB (P : Program) (t : TypeId) : Option (List AV) := (P.info? t).bind fun i => i.zero.map fun z => z.cells.toList.map ofConst
def intB (P : Program) (t : TypeId) : Option IntKind :=
  match P.underlying t with
  | some (.int k) => some k
  | _ => none

def AV.one : AV → Bool
  | .agg _ | .tup _ | .top | .own .. => false
  | _ => true

def AV.full : AV → Bool
  | .tup _ | .top | .own .. => false
  | _ => true

def AV.cells : AV → List AV
  | .agg cs => cs
  | c => [c]

def AObj.cells : AObj → List AV
  | .box _ cs => cs
  | .list _ _ _ cs => cs
  | .dead => []
  | .frame _ _ => []
  | .inert _ => []

def binA (op : BinOp) (k : IntKind) (m n : Int) : Option AV :=
  match op with
  | .add => some (.int k (k.wrap (m + n)))
  | .sub => some (.int k (k.wrap (m - n)))
  | .mul => some (.int k (k.wrap (m * n)))
  | .and => some (.int k (bits .and k m n))
  | .or => some (.int k (bits .or k m n))
  | .xor => some (.int k (bits .xor k m n))
  | .andNot => some (.int k (bits .andNot k m n))
  | .eql => some (.bool (m == n))
  | .neq => some (.bool (m != n))
  | .lss => some (.bool (m < n))
  | .leq => some (.bool (m ≤ n))
  | .gtr => some (.bool (m > n))
  | .geq => some (.bool (m ≥ n))
  | _ => none

/-- Where a struct's fields begin, and their sizes. -/
def placesB (P : Program) (t : TypeId) : Option (List (Nat × Nat)) :=
  match P.underlying t with
  | some (.struct fs) => fs.toList.mapM fun f => (P.info? f.type).map fun i => (f.offset, i.size)
  | _ => none

def setMany (cells : List AV) (off : Nat) (vs : List AV) : List AV := cells.take off ++ vs ++ cells.drop (off + vs.length)

/-- The parts laid into the cells, in order. -/
def fillA (place : Nat → Option (Nat × Nat)) (cells : List AV) : List (Nat × AV) → Option (List AV)
  | [] => some cells
  | (i, v) :: rest =>
    match place i with
    | none => none
    | some (off, size) => if v.full && (v.cells.length == size) && decide (off + v.cells.length ≤ cells.length) then fillA place (setMany cells off v.cells) rest else none

/-- n elements of zero cells. -/
def zerosA (zs : List AV) (s n : Nat) : List AV := (List.range (n * s)).map fun k => zs.getD (k % s) .top

/-- The element type of a slice type: its number, cells, zero cells, bytes. -/
def rowB (P : Program) (t : TypeId) : Option (Nat × Nat × List AV × Nat) :=
  match P.underlying t with
  | some (.slice e) => (P.info? e).bind fun i => i.zero.bind fun z => if z.cells.size = i.size ∧ 0 < i.size then some (e, i.size, z.cells.toList.map ofConst, i.bytes) else none
  | _ => none

inductive EffR (P : Program) (e : Operand → AV) (hp : List AObj) : Op → AV → List AObj → Prop
  | move {x} : EffR P e hp (.move x) (e x) []
  | assign {x} : EffR P e hp (.assign x) (e x) []
  | pick {c a b} (t : Bool) (h : e c = .bool t) : EffR P e hp (.pick c a b) (if t then e a else e b) []
  | bin {op t x y ty v} (k : IntKind) (m n : Int) (hx : e x = .int k m) (hy : e y = .int k n) (hv : binA op k m n = some v) : EffR P e hp (.binOp op t x y ty) v []
  | quo {t x y ty} (k : IntKind) (m n : Int) (hx : e x = .int k m) (hy : e y = .int k n) (hn : n ≠ 0) : EffR P e hp (.binOp .quo t x y ty) (.int k (k.wrap (m.tdiv n))) []
  | rem {t x y ty} (k : IntKind) (m n : Int) (hx : e x = .int k m) (hy : e y = .int k n) (hn : n ≠ 0) : EffR P e hp (.binOp .rem t x y ty) (.int k (m.tmod n)) []
  | shl {t x y ty} (k k' : IntKind) (m n : Int) (hx : e x = .int k m) (hy : e y = .int k' n) (h0 : 0 ≤ n) : EffR P e hp (.binOp .shl t x y ty) (.int k (k.wrap (m * 2 ^ (min n.toNat k.bits)))) []
  | shr {t x y ty} (k k' : IntKind) (m n : Int) (hx : e x = .int k m) (hy : e y = .int k' n) (h0 : 0 ≤ n) : EffR P e hp (.binOp .shr t x y ty) (.int k (m.fdiv (2 ^ (min n.toNat k.bits)))) []
  | eqlB {t x y ty} (a b : Bool) (hx : e x = .bool a) (hy : e y = .bool b) (ht : P.underlying t = some .bool) : EffR P e hp (.binOp .eql t x y ty) (.bool (a == b)) []
  | neqB {t x y ty} (a b : Bool) (hx : e x = .bool a) (hy : e y = .bool b) (ht : P.underlying t = some .bool) : EffR P e hp (.binOp .neq t x y ty) (.bool (!(a == b))) []
  | not {t x} (a : Bool) (hx : e x = .bool a) : EffR P e hp (.unOp .not t x) (.bool (!a)) []
  | neg {t x} (k : IntKind) (n : Int) (hx : e x = .int k n) : EffR P e hp (.unOp .neg t x) (.int k (k.wrap (0 - n))) []
  | conv {s d x} (k k' : IntKind) (n : Int) (hx : e x = .int k n) (hs : (P.underlying s).isSome = true) (hd : intB P d = some k') : EffR P e hp (.convert s d x) (.int k' (k'.wrap n)) []
  | extract {x i v} (cs : List AV) (hx : e x = .tup cs) (hi : cs[i]? = some v) : EffR P e hp (.extract x i) v []
  | nilP {x} (i o : Nat) (hx : e x = .ptr i o) : EffR P e hp (.nilCheck x) (.ptr i o) []
  | nilR {x} (cs : List AV) (hx : e x = .rptr cs) : EffR P e hp (.nilCheck x) (.rptr cs) []
  | fieldAddr {s x f} (i o off k : Nat) (hx : e x = .ptr i o) (hf : fieldB P s f = some (off, k)) (hk : k ≠ 0) : EffR P e hp (.fieldAddr s x f) (.ptr i (o + off)) []
  | fieldAddrR {s x f} (cs : List AV) (off k : Nat) (hx : e x = .rptr cs) (hf : fieldB P s f = some (off, k)) (hk : k ≠ 0) : EffR P e hp (.fieldAddr s x f) (.rptr (cs.drop off)) []
  | field1 {s x f v} (cs : List AV) (off k : Nat) (hx : e x = .agg cs) (hf : fieldC P s f = some (off, k, false)) (hv : cs[off]? = some v) : EffR P e hp (.field s x f) v []
  | fieldN {s x f} (cs : List AV) (off k : Nat) (hx : e x = .agg cs) (hf : fieldC P s f = some (off, k, true)) : EffR P e hp (.field s x f) (.agg ((cs.drop off).take k)) []
  | indexAddr {t x y} (s n : Nat) (cs : List AV) (k : IntKind) (j : Int) (el : Nat) (hx : e x = .lst s n cs) (hy : e y = .int k j) (ht : elemB P t = some (el, s)) (hs : s ≠ 0) (h0 : 0 ≤ j) (h1 : j < n) : EffR P e hp (.indexAddr t x y) (.rptr (cs.drop (j.toNat * s))) []
  | indexAddrE {t x y} (s n : Nat) (cs : List AV) (k : IntKind) (j : Int) (el : Nat) (ds rest : List AV) (hx : e x = .lst s n cs) (hy : e y = .int k j) (ht : elemB P t = some (el, s)) (hs : s ≠ 0) (h0 : 0 ≤ j) (h1 : j < n) (hd : cs.drop (j.toNat * s) = ds ++ rest) : EffR P e hp (.indexAddr t x y) (.rptr ds) []
  | indexAddrV {t x y} (v : Value) (o : Option Nat) (s n : Nat) (cs : List AV) (k : IntKind) (j : Int) (el : Nat) (ds rest : List AV) (hx : e x = .nam v o s n cs) (hy : e y = .int k j) (ht : elemB P t = some (el, s)) (hs : s ≠ 0) (h0 : 0 ≤ j) (h1 : j < n) (hd : cs.drop (j.toNat * s) = ds ++ rest) : EffR P e hp (.indexAddr t x y) (.rptr ds) []
  | indexAddrO {t x y} (i el s n : Nat) (cs : List AV) (k : IntKind) (j : Int) (hx : e x = .ref i) (hi : hp[i]? = some (.list el s n cs)) (hy : e y = .int k j) (ht : elemB P t = some (el, s)) (hs : s ≠ 0) (h0 : 0 ≤ j) (h1 : j < n) : EffR P e hp (.indexAddr t x y) (.ptr i (j.toNat * s)) []
  | load {t x v} (i o : Nat) (ob : AObj) (hx : e x = .ptr i o) (hi : hp[i]? = some ob) (ht : aggB P t = some false) (hv : ob.cells[o]? = some v) : EffR P e hp (.load t x) v []
  | loadN {t x} (i o k : Nat) (ob : AObj) (hx : e x = .ptr i o) (hi : hp[i]? = some ob) (ht : aggB P t = some true) (hk : sizeB P t = some k) (hl : o + k ≤ ob.cells.length) : EffR P e hp (.load t x) (.agg ((ob.cells.drop o).take k)) []
  | loadR {t x v} (cs : List AV) (hx : e x = .rptr cs) (ht : aggB P t = some false) (hv : cs[0]? = some v) : EffR P e hp (.load t x) v []
  | loadRN {t x} (cs : List AV) (k : Nat) (hx : e x = .rptr cs) (ht : aggB P t = some true) (hk : sizeB P t = some k) (hl : k ≤ cs.length) : EffR P e hp (.load t x) (.agg (cs.take k)) []
  | lenR {x t} (s n : Nat) (cs : List AV) (hx : e x = .lst s n cs) (ht : (elemB P t).isSome = true) : EffR P e hp (.call { callee := .builtin .len, args := #[x], argTypes := #[t] }) (.int .i64 n) []
  | lenV {x t} (v : Value) (o : Option Nat) (s n : Nat) (cs : List AV) (hx : e x = .nam v o s n cs) (ht : (elemB P t).isSome = true) : EffR P e hp (.call { callee := .builtin .len, args := #[x], argTypes := #[t] }) (.int .i64 n) []
  | lenO {x t} (i el s n : Nat) (cs : List AV) (hx : e x = .ref i) (hi : hp[i]? = some (.list el s n cs)) (ht : (elemB P t).isSome = true) : EffR P e hp (.call { callee := .builtin .len, args := #[x], argTypes := #[t] }) (.int .i64 n) []
  | lenN {x t} (hx : e x = .nil) (ht : (elemB P t).isSome = true) : EffR P e hp (.call { callee := .builtin .len, args := #[x], argTypes := #[t] }) (.int .i64 0) []
  | capN {x t} (hx : e x = .nil) (ht : (elemB P t).isSome = true) : EffR P e hp (.call { callee := .builtin .cap, args := #[x], argTypes := #[t] }) (.int .i64 0) []
  | sliceN {t x hi} (k : IntKind) (hx : e x = .nil) (hhi : e hi = .int k 0) (ht : (elemB P t).isSome = true) : EffR P e hp (.slice t x none (some hi) none) .nil []
  | max2 {x y tys} (k : IntKind) (m n : Int) (hx : e x = .int k m) (hy : e y = .int k n) : EffR P e hp (.call { callee := .builtin .max, args := #[x, y], argTypes := tys }) (.int k (if n > m then n else m)) []
  | min2 {x y tys} (k : IntKind) (m n : Int) (hx : e x = .int k m) (hy : e y = .int k n) : EffR P e hp (.call { callee := .builtin .min, args := #[x, y], argTypes := tys }) (.int k (if n < m then n else m)) []
  | makeSliceC {t x y} (el s by_ n c : Nat) (k k' : IntKind) (zs : List AV) (ht : rowB P t = some (el, s, zs, by_)) (hx : e x = .int k n) (hy : e y = .int k' c) (hnc : n ≤ c) (hb : by_ * c ≤ 140737488355328) (hn : c ≤ maxLen) : EffR P e hp (.makeSlice t x y) (.ref hp.length) [.list el s n (zerosA zs s n)]
  | alloc {t} (cs : List AV) (hz : zeroB P t = some cs) : EffR P e hp (.alloc t) (.ptr hp.length 0) [.box t cs]
  | box {t x} (hx : (e x).full = true) : EffR P e hp (.box t x) (.ptr hp.length 0) [.box t (e x).cells]
  | makeFunc {f caps} : EffR P e hp (.makeFunc (.func f) #[] caps) (.fn f (caps.toList.map e)) []
  | build {t parts} (pl : List (Nat × Nat)) (zs cs : List AV) (hp' : placesB P t = some pl) (hz : zeroB P t = some zs) (hf : fillA (pl[·]?) zs (parts.toList.map fun x => (x.1, e x.2)) = some cs) : EffR P e hp (.build t parts) (.agg cs) []
  | buildSlice {t n parts} (el s by_ : Nat) (zs cs : List AV) (ht : rowB P t = some (el, s, zs, by_)) (hn : n * s ≤ 16777216) (hf : fillA (fun i => some (i * s, s)) (zerosA zs s n) (parts.toList.map fun x => (x.1, e x.2)) = some cs) (hlf : leafyL cs = true) : EffR P e hp (.buildSlice t n parts) (.ref hp.length) [.list el s n cs]
  | makeSlice {t x y} (el s by_ n : Nat) (k k' : IntKind) (zs : List AV) (ht : rowB P t = some (el, s, zs, by_)) (hx : e x = .int k n) (hy : e y = .int k' n) (hb : by_ * n ≤ 140737488355328) (hn : n ≤ maxLen) : EffR P e hp (.makeSlice t x y) (.ref hp.length) [.list el s n (zerosA zs s n)]
  | sliceLH {t x lo hi} (s n el : Nat) (cs : List AV) (k k' : IntKind) (l h : Nat) (hx : e x = .lst s n cs) (hlo : e lo = .int k l) (hhi : e hi = .int k' h) (ht : elemB P t = some (el, s)) (h1 : l ≤ h) (h2 : h ≤ n) : EffR P e hp (.slice t x (some lo) (some hi) none) (.lst s (h - l) ((cs.drop (l * s)).take ((h - l) * s))) []
  | sliceL {t x lo} (s n el : Nat) (cs : List AV) (k : IntKind) (l : Nat) (hx : e x = .lst s n cs) (hlo : e lo = .int k l) (ht : elemB P t = some (el, s)) (h1 : l ≤ n) : EffR P e hp (.slice t x (some lo) none none) (.lst s (n - l) (cs.drop (l * s))) []
  | sliceH {t x hi} (s n el : Nat) (cs : List AV) (k : IntKind) (h : Nat) (hx : e x = .lst s n cs) (hhi : e hi = .int k h) (ht : elemB P t = some (el, s)) (h1 : h ≤ n) : EffR P e hp (.slice t x none (some hi) none) (.lst s h (cs.take (h * s))) []
  | sliceHM {t x hi mx} (s n el : Nat) (cs : List AV) (k k' : IntKind) (hx : e x = .lst s n cs) (hhi : e hi = .int k n) (hmx : e mx = .int k' n) (ht : elemB P t = some (el, s)) : EffR P e hp (.slice t x none (some hi) (some mx)) (.clp s n cs) []
  | sliceLHM {t x lo hi mx} (s n el : Nat) (cs : List AV) (k k' k'' : IntKind) (l h m : Nat) (hx : e x = .lst s n cs) (hlo : e lo = .int k l) (hhi : e hi = .int k' h) (hmx : e mx = .int k'' m) (ht : elemB P t = some (el, s)) (h1 : l ≤ h) (h2 : h ≤ m) (h3 : m ≤ n) : EffR P e hp (.slice t x (some lo) (some hi) (some mx)) (.lst s (h - l) ((cs.drop (l * s)).take ((h - l) * s))) []

end Go.Abs


/-! Soundness of the operations that write to no old memory. -/
namespace Go.Abs
open Go.RowKit

theorem ofConst_rel (w : World) (Z : Nat → Prop) (μ : List Value) (v : Value) : Rel w Z μ (ofConst v) v := by
  unfold ofConst
  split <;> simp [Rel]

theorem ev_rel {w : World} {Z : Nat → Prop} {μ : List Value} {fr : List AV} {a : Act} (h : RelL w Z μ fr a.tmps.toList) (x : Operand) : Rel w Z μ (ev fr x) (a.eval x) := by
  cases x with
  | tmp t =>
    have := h.getD t undef
    simpa [ev, Act.eval, Array.getD_eq_getD_getElem?, List.getD_eq_getElem?_getD] using this
  | const v => exact ofConst_rel _ _ _ _
  | global g => simp [ev, Rel]
  | func f => exact ⟨[], rfl, RelL.nil⟩

theorem rel_int {w Z μ k n v} (h : Rel w Z μ (.int k n) v) : v = .int k n := by simpa [Rel] using h
theorem rel_bool {w Z μ b v} (h : Rel w Z μ (.bool b) v) : v = .bool b := by simpa [Rel] using h

theorem run_cells_box {P : Program} (t : TypeId) (i : TypeInfo) (z : Value) (hi : P.info? t = some i) (hz : i.zero = some z) (W : World) :
    (zeroValue t).run P W = .ok z W := by simp [zeroValue, typeInfo, hi, hz]

theorem HRel.extend1 {w w' : World} {Z : Nat → Prop} {B : Nat} {μ : List Value} {hp : List AObj} {u : Value} {o : AObj} (h : HRel w Z B μ hp) (hZ : ∀ b, w.heap.size ≤ b → Z b)
    (hb : Below w.heap.size w w') (hnew : ObjRel w' Z (μ ++ [u]) B u o) (hge : ∀ g, blk u = some g → w.heap.size ≤ g) (hone : u.oneCell' = true) : HRel w' Z B (μ ++ [u]) (hp ++ [o]) := by
  have hold : ∀ (i : Nat) (x : Value), μ[i]? = some x → (μ ++ [u])[i]? = some x := fun i x hx => by
    rw [List.getElem?_append_left (List.getElem?_eq_some_iff.1 hx).1]; exact hx
  have hbk : ∀ (i : Nat) oi ui g, hp[i]? = some oi → oi.alive = true → μ[i]? = some ui → blk ui = some g → g < w.heap.size := fun i oi ui g h1 h2 h3 h4 => ((h.obj i oi ui h1 h3).blk_ge h2 h4).2
  have split : ∀ (i : Nat) oi ui, (hp ++ [o])[i]? = some oi → (μ ++ [u])[i]? = some ui → (hp[i]? = some oi ∧ μ[i]? = some ui) ∨ (i = hp.length ∧ oi = o ∧ ui = u) := by
    intro i oi ui h1 h2
    rcases Nat.lt_trichotomy i hp.length with hi | hi | hi
    · rw [List.getElem?_append_left hi] at h1
      rw [List.getElem?_append_left (by rw [h.len]; exact hi)] at h2
      exact .inl ⟨h1, h2⟩
    · subst hi
      rw [List.getElem?_append_right (Nat.le_refl _)] at h1
      rw [List.getElem?_append_right (by rw [h.len]; exact Nat.le_refl _), h.len] at h2
      simp at h1 h2
      exact .inr ⟨rfl, h1.symm, h2.symm⟩
    · rw [List.getElem?_eq_none (by simp; omega)] at h1
      cases h1
  refine ⟨by simp [h.len], fun i oi ui g h1 ha h2 hg => ?_, fun i x hx => ?_, fun i oi ui h1 h2 => ?_, fun i j oi oj ui uj g hne h1 h2 a1 a2 m1 m2 b1 b2 => ?_⟩
  · rcases split i oi ui h1 h2 with ⟨e1, e2⟩ | ⟨_, rfl, rfl⟩
    · exact h.zone i oi ui g e1 ha e2 hg
    · exact hZ g (hge g hg)
  · rcases Nat.lt_or_ge i μ.length with hi | hi
    · rw [List.getElem?_append_left hi] at hx
      exact h.one i x hx
    · rw [List.getElem?_append_right hi] at hx
      have : x = u := by
        rcases Nat.eq_zero_or_pos (i - μ.length) with h0 | h0
        · rw [h0] at hx; simpa using hx.symm
        · rw [List.getElem?_eq_none (by simp; omega)] at hx; cases hx
      subst this
      exact hone
  · rcases split i oi ui h1 h2 with ⟨e1, e2⟩ | ⟨_, rfl, rfl⟩
    · cases ho : oi.alive with
      | true => exact (h.obj i oi ui e1 e2).keep (fun b hb1 _ => hb.block b hb1) hold (fun g hg => hb.block g (hbk i oi ui g e1 ho e2 hg))
      | false => exact (h.obj i oi ui e1 e2).keep_dead (fun b hb1 _ => hb.block b hb1) hold ho
    · exact hnew
  · rcases split i oi ui h1 m1 with ⟨e1, e2⟩ | ⟨hi, rfl, rfl⟩ <;> rcases split j oj uj h2 m2 with ⟨e3, e4⟩ | ⟨hj, rfl, rfl⟩
    · exact h.sep i j oi oj ui uj g hne e1 e3 a1 a2 e2 e4 b1 b2
    · have := hbk i oi ui g e1 a1 e2 b1
      have := hge g b2
      omega
    · have := hbk j oj uj g e3 a2 e4 b2
      have := hge g b1
      omega
    · omega

theorem obj_cell {w : World} {Z : Nat → Prop} {μ : List Value} {B : Nat} {u : Value} {ob : AObj} (h : ObjRel w Z μ B u ob) {g : Nat} (hg : blk u = some g) {j : Nat} {c : AV} (hc : ob.cells[j]? = some c) :
    ∃ x, w.cell? ⟨g, j, none⟩ = some x ∧ Rel w Z μ c x := by
  cases ob with
  | box t cs =>
    obtain ⟨g', xs, rfl, _, hh, hr⟩ := h
    simp only [blk, Option.some.injEq] at hg
    subst hg
    obtain ⟨x, hx, hrx⟩ := hr.get hc
    exact ⟨x, by rw [cell_of_row w _ j _ _ _ hh]; simpa using hx, hrx⟩
  | list e s n cs =>
    obtain ⟨xs, hown, hr⟩ := h
    obtain ⟨x, hx, hrx⟩ := hr.get hc
    have hown2 := hown
    rcases hown.2 with ⟨rfl, _⟩ | ⟨g', cap, cur, rfl, _⟩
    · simp [blk] at hg
    · simp only [blk, Option.some.injEq] at hg
      subst hg
      have hj : j < n * s := by
        have h1 := (List.getElem?_eq_some_iff.1 hx).1
        rw [hown2.1] at h1
        exact h1
      exact ⟨x, by rw [hown2.cellAt j hj]; exact hx, hrx.lift⟩
  | dead => simp [AObj.cells] at hc
  | frame us cs => simp [AObj.cells] at hc
  | inert x => simp [AObj.cells] at hc

theorem obj_cells {w : World} {Z : Nat → Prop} {μ : List Value} {B : Nat} {u : Value} {ob : AObj} (h : ObjRel w Z μ B u ob) : ∃ xs, RelL w Z μ ob.cells xs ∧ ∀ g, blk u = some g → ∀ (j : Nat) x, xs[j]? = some x → w.cell? ⟨g, j, none⟩ = some x := by
  cases ob with
  | box t cs =>
    obtain ⟨g', xs, rfl, _, hh, hr⟩ := h
    refine ⟨xs, hr, fun g hg j x hx => ?_⟩
    simp only [blk, Option.some.injEq] at hg
    subst hg
    rw [cell_of_row w _ j _ _ _ hh]; simpa using hx
  | list e s n cs =>
    obtain ⟨xs, hown, hr⟩ := h
    refine ⟨xs, hr.lift, fun g hg j x hx => ?_⟩
    have hown2 := hown
    rcases hown.2 with ⟨rfl, _⟩ | ⟨g', cap, cur, rfl, _⟩
    · simp [blk] at hg
    · simp only [blk, Option.some.injEq] at hg
      subst hg
      have hj : j < n * s := by
        have h1 := (List.getElem?_eq_some_iff.1 hx).1
        rw [hown2.1] at h1
        exact h1
      rw [hown2.cellAt j hj]; exact hx
  | dead => exact ⟨[], RelL.nil, fun _ _ _ _ hx => by simp at hx⟩
  | frame us cs => exact ⟨[], RelL.nil, fun _ _ _ _ hx => by simp at hx⟩
  | inert x => exact ⟨[], RelL.nil, fun _ _ _ _ hx => by simp at hx⟩

theorem add_lit' (g o n : Nat) : Addr.add ⟨g, o, none⟩ n = ⟨g, o + n, none⟩ := Addr.add_lit g o n

theorem run_isAgg {P : Program} {t : TypeId} {b : Bool} (h : aggB P t = some b) (w : World) : (isAgg t).run P w = .ok b w := by
  unfold aggB at h
  cases hu : P.underlying t with
  | none => simp [hu] at h
  | some d =>
    simp only [hu, Option.map_some, Option.some.injEq] at h
    subst h
    cases d <;> simp [isAgg, run_underlying hu]

theorem run_size {P : Program} {t : TypeId} {k : Nat} (h : sizeB P t = some k) (w : World) : (sizeOf t).run P w = .ok k w := by
  unfold sizeB at h
  cases hi : P.info? t with
  | none => simp [hi] at h
  | some i =>
    simp only [hi, Option.map_some, Option.some.injEq] at h
    subst h
    simp [sizeOf, typeInfo, hi]

theorem run_load_cell {P : Program} {w : World} {a : Addr} {x : Value} (h : w.cell? a = some x) : (load a).run P w = .ok x w := by
  simp only [load, Sem.run, h]

theorem run_loadVar1 {P : Program} {w : World} {t : TypeId} {a : Addr} {x : Value} (ht : aggB P t = some false) (h : w.cell? a = some x) : (loadVar t a).run P w = .ok x w := by
  simp only [loadVar, Sem.run_bind, run_isAgg ht, Result.andThen_ok, Bool.false_eq_true, if_false, run_load_cell h]

theorem run_loadVarN {P : Program} {w : World} {t : TypeId} {a : Addr} {k : Nat} {xs : List Value} (ht : aggB P t = some true) (hk : sizeB P t = some k) (hl : xs.length = k)
    (h : ∀ (j : Nat) v, xs[j]? = some v → w.cell? (a.add j) = some v) : (loadVar t a).run P w = .ok (.agg xs.toArray) w := by
  subst hl
  simp only [loadVar, Sem.run_bind, run_isAgg ht, Result.andThen_ok, if_true, run_size hk]
  rw [run_loadCells_list (P := P) w a xs h]
  simp

/-- What an operation that writes to no old memory comes to. -/
def Good (w : World) (Z : Nat → Prop) (B : Nat) (μ : List Value) (hp : List AObj) (v : AV) (news : List AObj) (r : Result Next) : Prop :=
  ∃ x w' μs, r = .ok (.value x) w' ∧ Below w.heap.size w w' ∧ HRel w' Z B (μ ++ μs) (hp ++ news) ∧ Rel w' Z (μ ++ μs) v x

theorem Good.pure {w Z B μ hp v} {x : Value} {r : Result Next} (hH : HRel w Z B μ hp) (hr : r = .ok (.value x) w) (hv : Rel w Z μ v x) : Good w Z B μ hp v [] r :=
  ⟨x, w, [], hr, Below.refl _ _, by simpa using hH, by simpa using hv⟩

theorem Good.new {w Z B μ hp v} {x u : Value} {o : AObj} {ob : Obj} {r : Result Next} (hH : HRel w Z B μ hp) (hZ : ∀ b, w.heap.size ≤ b → Z b) (hr : r = .ok (.value x) (w.alloc ob))
    (hnew : ObjRel (w.alloc ob) Z (μ ++ [u]) B u o) (hge : ∀ g, blk u = some g → w.heap.size ≤ g) (hone : u.oneCell' = true) (hv : Rel (w.alloc ob) Z (μ ++ [u]) v x) : Good w Z B μ hp v [o] r :=
  ⟨x, w.alloc ob, [u], hr, (Below.refl _ _).alloc (Nat.le_refl _) _, hH.extend1 hZ ((Below.refl _ _).alloc (Nat.le_refl _) _) hnew hge hone, hv⟩

theorem cells_rel {w Z μ} (hone : ∀ (i : Nat) u, μ[i]? = some u → u.oneCell' = true) {c : AV} {v : Value} (h : Rel w Z μ c v) (hc : ∀ b, c ≠ .tup b) (ht : c ≠ .top ∨ ∀ xs, v ≠ .agg xs) : RelL w Z μ c.cells v.cells.toList := by
  cases c with
  | agg cs =>
    simp only [Rel] at h
    obtain ⟨xs, rfl, hr⟩ := h
    simpa [AV.cells, Value.cells] using hr
  | tup cs => exact absurd rfl (hc cs)
  | top =>
    rcases ht with ht | ht
    · exact absurd rfl ht
    · have : v.cells = #[v] := by cases v <;> simp_all [Value.cells]
      rw [this]
      exact RelL.cons h RelL.nil
  | own => simp [Rel] at h
  | lst s n cs =>
    have h2 := h
    simp only [Rel] at h2
    obtain ⟨A, c, xs, rfl, _⟩ := h2
    exact RelL.cons h RelL.nil
  | clp s n cs =>
    have h2 := h
    simp only [Rel] at h2
    obtain ⟨A, c, xs, rfl, _⟩ := h2
    exact RelL.cons h RelL.nil
  | nam u o s n cs =>
    have h2 := h
    simp only [Rel] at h2
    obtain ⟨_, A, c, xs, rfl, _⟩ := h2
    exact RelL.cons h RelL.nil
  | rptr cs =>
    have h2 := h
    simp only [Rel] at h2
    obtain ⟨ad, xs, rfl, _⟩ := h2
    exact RelL.cons h RelL.nil
  | fn f cs =>
    have h2 := h
    simp only [Rel] at h2
    obtain ⟨xs, rfl, _⟩ := h2
    exact RelL.cons h RelL.nil
  | ptr i o =>
    have h2 := h
    simp only [Rel] at h2
    obtain ⟨u, g, _, _, rfl⟩ := h2
    exact RelL.cons h RelL.nil
  | int k n => obtain rfl := rel_int h; exact RelL.cons h RelL.nil
  | bool b => obtain rfl := rel_bool h; exact RelL.cons h RelL.nil
  | str s => have h2 := h; simp only [Rel] at h2; subst h2; exact RelL.cons h RelL.nil
  | nil => have h2 := h; simp only [Rel] at h2; subst h2; exact RelL.cons h RelL.nil
  | ref i =>
    have h1 := hone i v (by simpa [Rel] using h)
    have : v.cells = #[v] := by cases v <;> simp_all [Value.cells, Value.oneCell']
    rw [this]
    exact RelL.cons h RelL.nil

end Go.Abs


/-! Soundness of the operations that write to no old memory: the theorem. -/
namespace Go.Abs
open Go.RowKit

theorem Good.int {w Z B μ hp k n} {r : Result Next} (hH : HRel w Z B μ hp) (hr : r = .ok (.value (.int k n)) w) : Good w Z B μ hp (.int k n) [] r := Good.pure hH hr (by simp [Rel])
theorem Good.bool {w Z B μ hp b} {r : Result Next} (hH : HRel w Z B μ hp) (hr : r = .ok (.value (.bool b)) w) : Good w Z B μ hp (.bool b) [] r := Good.pure hH hr (by simp [Rel])

theorem field_parts {P : Program} {s f off k : Nat} (h : fieldB P s f = some (off, k)) : ∃ (fs : Array Field) (fd : Field) (i : TypeInfo), P.underlying s = some (.struct fs) ∧ fs[f]? = some fd ∧ P.info? fd.type = some i ∧ fd.offset = off ∧ i.size = k := by
  unfold fieldB at h
  split at h
  · rename_i fs hu
    simp only [Option.bind_eq_some_iff, Option.map_eq_some_iff, Prod.mk.injEq] at h
    obtain ⟨fd, hfd, i, hi, h1, h2⟩ := h
    exact ⟨fs, fd, i, hu, hfd, hi, h1, h2⟩
  · cases h

theorem fieldC_parts {P : Program} {s f off k : Nat} {b : Bool} (h : fieldC P s f = some (off, k, b)) : ∃ (fs : Array Field) (fd : Field), P.underlying s = some (.struct fs) ∧ fs[f]? = some fd ∧ sizeB P fd.type = some k ∧ fd.offset = off ∧ aggB P fd.type = some b := by
  unfold fieldC at h
  split at h
  · rename_i fs hu
    simp only [Option.bind_eq_some_iff, Option.map_eq_some_iff, Prod.mk.injEq] at h
    obtain ⟨fd, hfd, i, hi, b', hb, h1, h2, h3⟩ := h
    subst h3
    exact ⟨fs, fd, hu, hfd, by simp [sizeB, hi, h2], h1, hb⟩
  · cases h

theorem elem_parts {P : Program} {t e s : Nat} (h : elemB P t = some (e, s)) : P.underlying t = some (.slice e) ∧ ∃ i, P.info? e = some i ∧ i.size = s := by
  unfold elemB at h
  split at h
  · rename_i e' hu
    simp only [Option.map_eq_some_iff, Prod.mk.injEq] at h
    obtain ⟨i, hi, h1, h2⟩ := h
    subst h1
    exact ⟨hu, i, hi, h2⟩
  · cases h

theorem run_fieldAt {P : Program} {s f off k : Nat} {a : Addr} (h : fieldB P s f = some (off, k)) (hk : k ≠ 0) (w : World) :
    (Instr.fieldAt s (.pointer (some a)) f).run P w = .ok (.pointer (some (a.add off))) w := by
  obtain ⟨fs, fd, i, hu, hfd, hi, rfl, rfl⟩ := field_parts h
  simp [Instr.fieldAt, run_underlying hu, hfd, Instr.sureAddr, fieldPlace, sizeOf, typeInfo, hi, hk]

theorem run_indexAt {P : Program} {t el s : Nat} {a : Addr} {n c : Nat} {k : IntKind} {j : Int} (h : elemB P t = some (el, s)) (h0 : 0 ≤ j) (h1 : j < n) (w : World) :
    (Instr.indexAt t (.slice (some a) n c) (.int k j)).run P w = .ok (.pointer (some (a.add (j.toNat * s)))) w := by
  obtain ⟨hu, i, hi, rfl⟩ := elem_parts h
  simp [Instr.indexAt, run_underlying hu, asIntOf, h0, h1, sizeOf, typeInfo, hi]

theorem run_part1 {P : Program} {t off : Nat} {cs : Array Value} {x : Value} (ht : aggB P t = some false) (hx : cs[off]? = some x) (w : World) : (part t cs off).run P w = .ok x w := by
  simp [part, run_isAgg ht, hx]

theorem run_partN {P : Program} {t off k : Nat} {cs : Array Value} (ht : aggB P t = some true) (hk : sizeB P t = some k) (w : World) : (part t cs off).run P w = .ok (.agg (cs.extract off (off + k))) w := by
  simp [part, run_isAgg ht, run_size hk]

theorem zero_parts {P : Program} {t : Nat} {cs : List AV} (h : zeroB P t = some cs) : ∃ i z, P.info? t = some i ∧ i.zero = some z ∧ cs = z.cells.toList.map ofConst := by
  unfold zeroB at h
  simp only [Option.bind_eq_some_iff, Option.map_eq_some_iff] at h
  obtain ⟨i, hi, z, hz, h⟩ := h
  exact ⟨i, z, hi, hz, h.symm⟩

theorem ofConst_relL (w : World) (Z : Nat → Prop) (μ : List Value) : ∀ vs : List Value, RelL w Z μ (vs.map ofConst) vs
  | [] => RelL.nil
  | v :: vs => RelL.cons (ofConst_rel w Z μ v) (ofConst_relL w Z μ vs)

theorem run_equalB {P : Program} {t : TypeId} (ht : P.underlying t = some .bool) (a b : Bool) (w : World) : (Op.equal t (.bool a) (.bool b)).run P w = .ok (a == b) w := by
  have h : ∀ d : Nat, (Op.equalIn (d + 1) t (.bool a) (.bool b)).run P w = .ok (a == b) w := fun d => by
    simp only [Op.equalIn, Sem.run_bind, run_underlying ht, Result.andThen_ok]
    rfl
  simp only [Op.equal, Op.maxDepth, h 9999]

theorem relL_of_get {w : World} {Z : Nat → Prop} {μ : List Value} : ∀ {cs : List AV} {vs : List Value}, vs.length = cs.length → (∀ (j : Nat) c x, cs[j]? = some c → vs[j]? = some x → Rel w Z μ c x) → RelL w Z μ cs vs
  | [], vs, hl, _ => by simp at hl; subst hl; exact RelL.nil
  | c :: cs, [], hl, _ => by simp at hl
  | c :: cs, v :: vs, hl, h => RelL.cons (h 0 c v rfl rfl) (relL_of_get (by simpa using hl) fun j c' x hc hx => h (j + 1) c' x (by simpa using hc) (by simpa using hx))

theorem foldl_set (off : Nat) : ∀ (vs : List Value) (k : Nat) (cells : Array Value), off + k + vs.length ≤ cells.size →
    ((vs.zipIdx k).foldl (fun (cs : Array Value) (x : Value × Nat) => cs.setIfInBounds (off + x.2) x.1) cells).toList = cells.toList.take (off + k) ++ vs ++ cells.toList.drop (off + k + vs.length)
  | [], k, cells, _ => by simp
  | v :: vs, k, cells, h => by
    simp only [List.zipIdx_cons, List.foldl_cons, List.length_cons] at h ⊢
    rw [foldl_set off vs (k + 1) (cells.setIfInBounds (off + k) v) (by simp; omega)]
    rw [Array.toList_setIfInBounds]
    have hlt : off + k < cells.toList.length := by simp; omega
    have e1 : off + (k + 1) = off + k + 1 := by omega
    have a1 : (cells.toList.set (off + k) v).take (off + k + 1) = cells.toList.take (off + k) ++ [v] := by
      rw [List.take_add_one, List.take_set, List.set_eq_of_length_le (by rw [List.length_take]; omega)]
      rw [List.getElem?_set_self hlt]
      rfl
    have e2 : off + k + 1 + vs.length = off + k + (vs.length + 1) := by omega
    rw [e1, a1, List.drop_set_of_lt (by omega), e2]
    simp

theorem fill_rel {w : World} {Z : Nat → Prop} {μ : List Value} (hone : ∀ (i : Nat) u, μ[i]? = some u → u.oneCell' = true) {place : Nat → Option (Nat × Nat)} {e : Operand → AV} {ρ : Operand → Value} (hE : ∀ x, Rel w Z μ (e x) (ρ x)) :
    ∀ (parts : List (Nat × Operand)) (cells : List AV) (xs : Array Value) (cs : List AV), RelL w Z μ cells xs.toList → fillA place cells (parts.map fun x => (x.1, e x.2)) = some cs →
      ∃ ys, Instr.fill place xs (parts.map fun x => (x.1, ρ x.2)) = some ys ∧ RelL w Z μ cs ys.toList
  | [], cells, xs, cs, h, hf => by
    simp only [List.map_nil, fillA, Option.some.injEq] at hf
    subst hf
    exact ⟨xs, rfl, h⟩
  | (i, x) :: parts, cells, xs, cs, h, hf => by
    simp only [List.map_cons, fillA] at hf
    split at hf
    · cases hf
    · rename_i off size hpl
      split at hf
      · rename_i hc
        simp only [Bool.and_eq_true, beq_iff_eq, decide_eq_true_eq] at hc
        obtain ⟨⟨hfull, hsize⟩, hle⟩ := hc
        have hr := cells_rel hone (hE x) (by rintro b hb; rw [hb] at hfull; simp [AV.full] at hfull) (.inl (by rintro hb; rw [hb] at hfull; simp [AV.full] at hfull))
        have hl1 := hr.length
        have hl2 := h.length
        simp only [Array.length_toList] at hl1 hl2
        obtain ⟨ys, hy, hry⟩ := fill_rel hone hE parts (setMany cells off (e x).cells) ((ρ x).cells.zipIdx.foldl (fun cs (c, j) => cs.setIfInBounds (off + j) c) xs) cs (by
          have h1 := foldl_set off (ρ x).cells.toList 0 xs (by simp; omega)
          have e1 : ((ρ x).cells.zipIdx.foldl (fun cs (c, j) => cs.setIfInBounds (off + j) c) xs).toList = (((ρ x).cells.toList.zipIdx 0).foldl (fun (cs : Array Value) (x : Value × Nat) => cs.setIfInBounds (off + x.2) x.1) xs).toList := by
            rw [← Array.foldl_toList]; simp
          rw [e1, h1]
          simp only [Nat.add_zero, setMany, Array.length_toList, hl1]
          exact ((h.take off).append hr).append (h.drop _)) hf
        refine ⟨ys, ?_, hry⟩
        simp only [List.map_cons, Instr.fill, hpl]
        rw [if_neg (by simp; omega)]
        exact hy
      · cases hf

theorem fillA_length (place : Nat → Option (Nat × Nat)) : ∀ (parts : List (Nat × AV)) (cells cs : List AV), fillA place cells parts = some cs → cs.length = cells.length
  | [], cells, cs, h => by simp only [fillA, Option.some.injEq] at h; rw [h]
  | (i, v) :: parts, cells, cs, h => by
    simp only [fillA] at h
    split at h
    · cases h
    · split at h
      · rename_i hc
        simp only [Bool.and_eq_true, beq_iff_eq, decide_eq_true_eq] at hc
        rw [fillA_length place parts _ cs h]
        simp only [setMany, List.length_append, List.length_take, List.length_drop]
        omega
      · cases h

theorem run_mapM {P : Program} {α β : Type} (f : α → Sem β) (g : α → Option β) (w : World) (h : ∀ a b, g a = some b → (f a).run P w = .ok b w) : ∀ (l : List α) (bs : List β), l.mapM g = some bs → (l.mapM f).run P w = .ok bs w
  | [], bs, hb => by simp at hb; subst hb; rfl
  | a :: l, bs, hb => by
    simp only [List.mapM_cons, Option.bind_eq_bind, Option.bind_eq_some_iff, Option.pure_def, Option.some.injEq] at hb
    obtain ⟨b, hb1, bs', hb2, rfl⟩ := hb
    simp [List.mapM_cons, h a b hb1, run_mapM f g w h l bs' hb2]

theorem row_parts {P : Program} {t el s b : Nat} {zs : List AV} (h : rowB P t = some (el, s, zs, b)) : ∃ i z, P.underlying t = some (.slice el) ∧ P.info? el = some i ∧ i.zero = some z ∧ i.size = s ∧ i.bytes = b ∧ z.cells.size = s ∧ 0 < s ∧ zs = z.cells.toList.map ofConst := by
  unfold rowB at h
  split at h
  · rename_i e' hu
    simp only [Option.bind_eq_some_iff] at h
    obtain ⟨i, hi, z, hz, h⟩ := h
    split at h
    · rename_i hc
      simp only [Option.some.injEq, Prod.mk.injEq] at h
      obtain ⟨rfl, rfl, rfl, rfl⟩ := h
      exact ⟨i, z, hu, hi, hz, rfl, rfl, hc.1, hc.2, rfl⟩
    · cases h
  · cases h

theorem zeros_rel {w : World} {Z : Nat → Prop} {μ : List Value} (z : Array Value) (s n : Nat) (hs : z.size = s) (h0 : 0 < s) (f : Nat → Value) (hf : ∀ j, j < n * s → f j = z[j % s]!) :
    RelL w Z μ (zerosA (z.toList.map ofConst) s n) ((List.range (n * s)).map f) := by
  refine relL_of_get (by simp [zerosA]) fun j c x hc hx => ?_
  simp only [zerosA, List.getElem?_map, Option.map_eq_some_iff] at hc hx
  obtain ⟨k, hk, rfl⟩ := hc
  obtain ⟨k', hk', rfl⟩ := hx
  have hj := (List.getElem?_eq_some_iff.1 hk).1
  simp only [List.length_range] at hj
  simp only [List.getElem?_range hj, Option.some.injEq] at hk hk'
  subst hk; subst hk'
  have hlt : j % s < z.size := by rw [hs]; exact Nat.mod_lt _ h0
  rw [hf j hj]
  have e1 : (z.toList.map ofConst).getD (j % s) .top = ofConst z[j % s]! := by
    simp [List.getD_eq_getElem?_getD, hlt]
  rw [e1]
  exact ofConst_rel _ _ _ _

theorem run_bound {P : Program} (k : IntKind) (l y : Nat) (code : BoundsCode) (h : l ≤ y) (w : World) : (Instr.sliceBound (.int k l) y code).run P w = .ok l w := by
  have h1 : (0 : Int) ≤ (l : Int) ∧ (l : Int) ≤ (y : Int) := ⟨by omega, by omega⟩
  simp [Instr.sliceBound, asIntOf]
  omega

theorem run_sliceAt {P : Program} {t el s : Nat} (h : elemB P t = some (el, s)) (a : Option Addr) (n c : Nat) (lo hi mx : Option Value) (l h' m : Nat) (hb : ∀ w, (Instr.sliceBounds true n c lo hi mx).run P w = .ok (l, h', m) w) (w : World) :
    (Instr.sliceAt t (.slice a n c) lo hi mx).run P w = .ok (.slice (if m = l then a else a.map (·.add (l * s))) (h' - l) (m - l)) w := by
  obtain ⟨hu, i, hi, rfl⟩ := elem_parts h
  simp [Instr.sliceAt, Instr.slice, run_underlying hu, hb, sizeOf, typeInfo, hi]

theorem lst_cut {w : World} {Z : Nat → Prop} {μ : List Value} {s n l h m : Nat} {cs : List AV} {A : Option Addr} {xs : List Value} (hl : cs.length = n * s) (hrd : Rd w Z A xs) (hr : RelL w Z [] cs xs) (h1 : l ≤ h) (h2 : h ≤ n) (h3 : h ≤ m) :
    Rel w Z μ (.lst s (h - l) ((cs.drop (l * s)).take ((h - l) * s))) (.slice (if m = l then A else A.map (·.add (l * s))) (h - l) (m - l)) := by
  simp only [Rel]
  have hlen : ((cs.drop (l * s)).take ((h - l) * s)).length = (h - l) * s := by
    have e1 : h * s = (h - l) * s + l * s := by rw [← Nat.add_mul]; congr 1; omega
    have e2 : h * s ≤ n * s := Nat.mul_le_mul_right s h2
    simp only [List.length_take, List.length_drop, hl]
    omega
  refine ⟨_, _, (xs.drop (l * s)).take ((h - l) * s), rfl, hlen, by omega, ?_, (hr.drop _).take _⟩
  by_cases hm : m = l
  · have : h - l = 0 := by omega
    simp [this, Rd]
  · rw [if_neg hm]
    exact (hrd.drop _).take _

set_option maxHeartbeats 1000000 in
theorem EffR.sound {P : Program} {w : World} {Z : Nat → Prop} {B : Nat} {μ : List Value} {hp : List AObj} {e : Operand → AV} {ρ : Operand → Value} {o : Oper} {v : AV} {news : List AObj}
    (hH : HRel w Z B μ hp) (hZ : ∀ b, w.heap.size ≤ b → Z b) (hE : ∀ x, Rel w Z μ (e x) (ρ x)) (hB : B ≤ w.heap.size) (h : EffR P e hp o.op v news) : Good w Z B μ hp v news ((execOp ρ o).run P w) := by
  obtain ⟨dst, op, ty, pos, after, guard⟩ := o
  simp only at h
  cases h with
  | move => exact Good.pure hH rfl (hE _)
  | assign => exact Good.pure hH rfl (hE _)
  | pick t h =>
    rename_i c x y
    have hc := rel_bool (h ▸ hE c)
    refine Good.pure (x := if t then ρ x else ρ y) hH (by simp [execOp, hc, asBool]) ?_
    cases t
    · exact hE y
    · exact hE x
  | bin k m n hx hy hv =>
    rename_i op t x y ty
    have h1 := rel_int (hx ▸ hE x)
    have h2 := rel_int (hy ▸ hE y)
    cases op <;> simp only [binA, Option.some.injEq, reduceCtorEq] at hv <;> subst hv <;>
      first
        | exact Good.int hH (by simp [execOp, h1, h2, eqGuard_at_int, binOp_add, binOp_sub, binOp_mul, binOp_and, binOp_or, binOp_xor, binOp_andNot, Op.intArith, intBits_and, intBits_or, intBits_xor, intBits_andNot])
        | exact Good.bool hH (by simp [execOp, h1, h2, eqGuard_at_int, binOp_eql, binOp_neq, binOp_lss, binOp_leq, binOp_gtr, binOp_geq])
  | quo k m n hx hy hn =>
    rename_i t x y ty
    have h1 := rel_int (hx ▸ hE x)
    have h2 := rel_int (hy ▸ hE y)
    exact Good.int hH (by simp [execOp, h1, h2, binOp_quo, eqGuard_quo, Op.intDiv, hn])
  | rem k m n hx hy hn =>
    rename_i t x y ty
    have h1 := rel_int (hx ▸ hE x)
    have h2 := rel_int (hy ▸ hE y)
    exact Good.int hH (by simp [execOp, h1, h2, binOp_rem, eqGuard_rem, Op.intDiv, hn])
  | shl k k' m n hx hy h0 =>
    rename_i t x y ty
    have h1 := rel_int (hx ▸ hE x)
    have h2 := rel_int (hy ▸ hE y)
    have h0' : ¬ n < 0 := by omega
    exact Good.int hH (by simp [execOp, h1, h2, binOp_shl, eqGuard_shl, Op.shift, h0'])
  | shr k k' m n hx hy h0 =>
    rename_i t x y ty
    have h1 := rel_int (hx ▸ hE x)
    have h2 := rel_int (hy ▸ hE y)
    have h0' : ¬ n < 0 := by omega
    exact Good.int hH (by simp [execOp, h1, h2, binOp_shr, eqGuard_shr, Op.shift, h0'])
  | eqlB b c hx hy ht =>
    rename_i t x y ty
    have h1 := rel_bool (hx ▸ hE x)
    have h2 := rel_bool (hy ▸ hE y)
    exact Good.bool hH (by simp only [execOp, h1, h2, eqGuard_at_bool, binOp, Sem.run_bind, Sem.run_pure, Result.andThen_ok, run_equalB ht])
  | neqB b c hx hy ht =>
    rename_i t x y ty
    have h1 := rel_bool (hx ▸ hE x)
    have h2 := rel_bool (hy ▸ hE y)
    exact Good.bool hH (by simp only [execOp, h1, h2, eqGuard_at_bool, binOp, Sem.run_bind, Sem.run_pure, Result.andThen_ok, run_equalB ht])
  | not b hx =>
    rename_i t x
    have h1 := rel_bool (hx ▸ hE x)
    exact Good.bool hH (by simp [execOp, h1, Op.unary])
  | neg k n hx =>
    rename_i t x
    have h1 := rel_int (hx ▸ hE x)
    exact Good.int hH (by simp [execOp, h1, Op.unary, Op.intArith])
  | conv k k' n hx hs hd =>
    rename_i s d x
    have h1 := rel_int (hx ▸ hE x)
    obtain ⟨d1, hd1⟩ := Option.isSome_iff_exists.mp hs
    have hd2 : P.underlying d = some (.int k') := by
      unfold intB at hd
      split at hd
      · rename_i k2 hu; simp only [Option.some.injEq] at hd; subst hd; exact hu
      · cases hd
    exact Good.int hH (by simp [execOp, h1, convert, run_underlying hd1, run_underlying hd2, Conv.intToInt])
  | extract cs hx hi =>
    rename_i x i
    have h1 := hx ▸ hE x
    simp only [Rel] at h1
    obtain ⟨xs, h2, hr⟩ := h1
    obtain ⟨u, hu, hru⟩ := hr.get hi
    exact Good.pure hH (by simp [execOp, h2, Instr.extract, hu] <;> rfl) hru
  | nilP i o hx =>
    rename_i x
    have h1 := hx ▸ hE x
    simp only [Rel] at h1
    obtain ⟨u, g, hu, hg, h2⟩ := h1
    exact Good.pure hH (by simp [execOp, h2] <;> rfl) (by simp only [Rel]; exact ⟨u, g, hu, hg, rfl⟩)
  | nilR cs hx =>
    rename_i x
    have h1 := hx ▸ hE x
    simp only [Rel] at h1
    obtain ⟨ad, xs, h2, hrd, hr⟩ := h1
    exact Good.pure hH (by simp [execOp, h2] <;> rfl) (by simp only [Rel]; exact ⟨ad, xs, rfl, hrd, hr⟩)
  | fieldAddr i o off k hx hf hk =>
    rename_i s x f
    have h1 := hx ▸ hE x
    simp only [Rel] at h1
    obtain ⟨u, g, hu, hg, h2⟩ := h1
    exact Good.pure hH (by simp [execOp, h2, run_fieldAt hf hk] <;> rfl) (by
      simp only [Rel]; exact ⟨u, g, hu, hg, by rw [add_lit']⟩)
  | fieldAddrR cs off k hx hf hk =>
    rename_i s x f
    have h1 := hx ▸ hE x
    simp only [Rel] at h1
    obtain ⟨ad, xs, h2, hrd, hr⟩ := h1
    exact Good.pure hH (by simp [execOp, h2, run_fieldAt hf hk] <;> rfl) (by
      simp only [Rel]; exact ⟨ad.add off, xs.drop off, rfl, hrd.drop off, hr.drop off⟩)
  | field1 cs off k hx hf hv =>
    rename_i s x f
    have h1 := hx ▸ hE x
    simp only [Rel] at h1
    obtain ⟨xs, h2, hr⟩ := h1
    obtain ⟨fs, fd, hu, hfd, _, rfl, hb⟩ := fieldC_parts hf
    obtain ⟨u, hu2, hru⟩ := hr.get hv
    exact Good.pure hH (by simp [execOp, h2, Instr.field, run_underlying hu, hfd, asAgg, run_part1 hb (show xs.toArray[fd.offset]? = some u by simpa using hu2)] <;> rfl) hru
  | fieldN cs off k hx hf =>
    rename_i s x f
    have h1 := hx ▸ hE x
    simp only [Rel] at h1
    obtain ⟨xs, h2, hr⟩ := h1
    obtain ⟨fs, fd, hu, hfd, hk, rfl, hb⟩ := fieldC_parts hf
    exact Good.pure hH (by simp [execOp, h2, Instr.field, run_underlying hu, hfd, asAgg, run_partN hb hk] <;> rfl) (by
      simp only [Rel]; exact ⟨(xs.drop fd.offset).take k, by simp [List.take_drop, Nat.add_comm], (hr.drop _).take _⟩)
  | indexAddr s n cs k j el hx hy ht hs h0 h1 =>
    rename_i t x y
    have hx1 := hx ▸ hE x
    have hy1 := rel_int (hy ▸ hE y)
    simp only [Rel] at hx1
    obtain ⟨A, c, xs, h2, hl, hnc, hrd, hr⟩ := hx1
    have hne : xs ≠ [] := by
      have := hr.length
      have hp : 0 < n * s := Nat.mul_pos (by omega) (by omega)
      intro h0
      rw [h0] at this
      simp at this
      omega
    obtain ⟨ad, rfl, hz, hc⟩ := hrd hne
    refine Good.pure (x := .pointer (some (ad.add (j.toNat * s)))) hH (by simp [execOp, h2, hy1, run_indexAt ht h0 h1]) ?_
    simp only [Rel]
    exact ⟨ad.add (j.toNat * s), xs.drop (j.toNat * s), rfl, Rd.drop (A := some ad) (fun _ => ⟨ad, rfl, hz, hc⟩) _, hr.drop _⟩
  | indexAddrE s n cs k j el ds rest hx hy ht hs h0 h1 hd =>
    rename_i t x y
    have hx1 := hx ▸ hE x
    have hy1 := rel_int (hy ▸ hE y)
    simp only [Rel] at hx1
    obtain ⟨A, c, xs, h2, hl, hnc, hrd, hr⟩ := hx1
    have hne : xs ≠ [] := by
      have := hr.length
      have hp : 0 < n * s := Nat.mul_pos (by omega) (by omega)
      intro h0
      rw [h0] at this
      simp at this
      omega
    obtain ⟨ad, rfl, hz, hc⟩ := hrd hne
    refine Good.pure (x := .pointer (some (ad.add (j.toNat * s)))) hH (by simp [execOp, h2, hy1, run_indexAt ht h0 h1]) ?_
    simp only [Rel]
    have h5 := (hr.drop (j.toNat * s)).take ds.length
    rw [hd, List.take_left' rfl] at h5
    exact ⟨ad.add (j.toNat * s), (xs.drop (j.toNat * s)).take ds.length, rfl, Rd.take (A := some (ad.add (j.toNat * s))) (Rd.drop (A := some ad) (fun _ => ⟨ad, rfl, hz, hc⟩) _) _, h5⟩
  | indexAddrV v o s n cs k j el ds rest hx hy ht hs h0 h1 hd =>
    rename_i t x y
    have hx1 := hx ▸ hE x
    have hy1 := rel_int (hy ▸ hE y)
    simp only [Rel] at hx1
    obtain ⟨_, A, c, xs, h2, hl, hnc, hrd, hr⟩ := hx1
    have hne : xs ≠ [] := by
      have := hr.length
      have hp : 0 < n * s := Nat.mul_pos (by omega) (by omega)
      intro h0
      rw [h0] at this
      simp at this
      omega
    obtain ⟨ad, rfl, hz, hc⟩ := hrd hne
    refine Good.pure (x := .pointer (some (ad.add (j.toNat * s)))) hH (by simp [execOp, h2, hy1, run_indexAt ht h0 h1]) ?_
    simp only [Rel]
    have h5 := (hr.drop (j.toNat * s)).take ds.length
    rw [hd, List.take_left' rfl] at h5
    exact ⟨ad.add (j.toNat * s), (xs.drop (j.toNat * s)).take ds.length, rfl, Rd.take (A := some (ad.add (j.toNat * s))) (Rd.drop (A := some ad) (fun _ => ⟨ad, rfl, hz, hc⟩) _) _, h5⟩
  | indexAddrO i el s n cs k j hx hi hy ht hs h0 h1 =>
    rename_i t x y
    have hx1 := hx ▸ hE x
    have hy1 := rel_int (hy ▸ hE y)
    simp only [Rel] at hx1
    obtain ⟨xs, hown, _⟩ := hH.obj i _ _ hi hx1
    rcases hown.2 with ⟨_, h3⟩ | ⟨g, cap, cur, h2, _⟩
    · omega
    · refine Good.pure (x := .pointer (some ((⟨g, 0, none⟩ : Addr).add (j.toNat * s)))) hH (by simp [execOp, h2, hy1, run_indexAt ht h0 h1]) ?_
      simp only [Rel]
      exact ⟨ρ x, g, hx1, by rw [h2]; rfl, by rw [add_lit']; simp⟩
  | load i o ob hx hi ht hv =>
    rename_i t x
    have h1 := hx ▸ hE x
    simp only [Rel] at h1
    obtain ⟨u, g, hu, hg, h2⟩ := h1
    obtain ⟨y, hy, hry⟩ := obj_cell (hH.obj i ob u hi hu) hg hv
    exact Good.pure hH (by simp [execOp, h2, Instr.loadAt, Instr.sureAddr, run_loadVar1 ht hy] <;> rfl) hry
  | loadN i o k ob hx hi ht hk hl =>
    rename_i t x
    have h1 := hx ▸ hE x
    simp only [Rel] at h1
    obtain ⟨u, g, hu, hg, h2⟩ := h1
    obtain ⟨xs, hr, hc⟩ := obj_cells (hH.obj i ob u hi hu)
    have hlen := hr.length
    have hrun := run_loadVarN (P := P) (w := w) (a := ⟨g, o, none⟩) (xs := (xs.drop o).take k) ht hk (by simp; omega) (fun j v hv => by
      rw [add_lit']
      refine hc g hg (o + j) v ?_
      rw [List.getElem?_take] at hv
      split at hv
      · rwa [List.getElem?_drop] at hv
      · cases hv)
    exact Good.pure hH (by simp [execOp, h2, Instr.loadAt, Instr.sureAddr, hrun] <;> rfl) (by
      simp only [Rel]; exact ⟨_, rfl, (hr.drop _).take _⟩)
  | loadR cs hx ht hv =>
    rename_i t x
    have h1 := hx ▸ hE x
    simp only [Rel] at h1
    obtain ⟨ad, xs, h2, hrd, hr⟩ := h1
    obtain ⟨y, hy, hry⟩ := hr.get hv
    obtain ⟨ad', he, _, hc⟩ := hrd (by rintro rfl; simp at hy)
    simp only [Option.some.injEq] at he
    subst he
    have hcell := hc 0 y hy
    rw [Addr.add_zero'] at hcell
    exact Good.pure hH (by simp [execOp, h2, Instr.loadAt, Instr.sureAddr, run_loadVar1 ht hcell] <;> rfl) hry.lift
  | loadRN cs k hx ht hk hl =>
    rename_i t x
    have h1 := hx ▸ hE x
    simp only [Rel] at h1
    obtain ⟨ad, xs, h2, hrd, hr⟩ := h1
    have hlen := hr.length
    have hrun := run_loadVarN (P := P) (w := w) (a := ad) (xs := xs.take k) ht hk (by simp; omega) (fun j v hv => by
      rw [List.getElem?_take] at hv
      split at hv
      · obtain ⟨ad', he, _, hc⟩ := hrd (by rintro rfl; simp at hv)
        simp only [Option.some.injEq] at he
        subst he
        exact hc j v hv
      · cases hv)
    exact Good.pure hH (by simp [execOp, h2, Instr.loadAt, Instr.sureAddr, hrun] <;> rfl) (by
      simp only [Rel]; exact ⟨_, rfl, (hr.take _).lift⟩)
  | lenR s n cs hx ht =>
    rename_i x t
    have h1 := hx ▸ hE x
    simp only [Rel] at h1
    obtain ⟨A, c, xs, h2, _⟩ := h1
    obtain ⟨⟨e1, e2⟩, he⟩ := Option.isSome_iff_exists.mp ht
    obtain ⟨hu, _⟩ := elem_parts he
    exact Good.int hH (by simp [execOp, resolve, invoke, builtin, h2, Builtin.len_, run_underlying hu, goInt])
  | lenV v o s n cs hx ht =>
    rename_i x t
    have h1 := hx ▸ hE x
    simp only [Rel] at h1
    obtain ⟨_, A, c, xs, h2, _⟩ := h1
    obtain ⟨⟨e1, e2⟩, he⟩ := Option.isSome_iff_exists.mp ht
    obtain ⟨hu, _⟩ := elem_parts he
    exact Good.int hH (by simp [execOp, resolve, invoke, builtin, h2, Builtin.len_, run_underlying hu, goInt])
  | lenO i el s n cs hx hi ht =>
    rename_i x t
    have h1 := hx ▸ hE x
    simp only [Rel] at h1
    obtain ⟨⟨e1, e2⟩, he⟩ := Option.isSome_iff_exists.mp ht
    obtain ⟨hu, _⟩ := elem_parts he
    obtain ⟨xs, hown, _⟩ := hH.obj i _ _ hi h1
    rcases hown.2 with ⟨h2, h3⟩ | ⟨g, cap, cur, h2, _⟩
    · subst h3
      exact Good.int hH (by simp [execOp, resolve, invoke, builtin, h2, Builtin.len_, run_underlying hu, goInt])
    · exact Good.int hH (by simp [execOp, resolve, invoke, builtin, h2, Builtin.len_, run_underlying hu, goInt])
  | lenN hx ht =>
    rename_i x t
    have h1 := hx ▸ hE x
    simp only [Rel] at h1
    obtain ⟨⟨e1, e2⟩, he⟩ := Option.isSome_iff_exists.mp ht
    obtain ⟨hu, _⟩ := elem_parts he
    exact Good.int hH (by simp [execOp, resolve, invoke, builtin, h1, Builtin.len_, run_underlying hu, goInt])
  | capN hx ht =>
    rename_i x t
    have h1 := hx ▸ hE x
    simp only [Rel] at h1
    obtain ⟨⟨e1, e2⟩, he⟩ := Option.isSome_iff_exists.mp ht
    obtain ⟨hu, _⟩ := elem_parts he
    exact Good.int hH (by simp [execOp, resolve, invoke, builtin, h1, Builtin.cap_, run_underlying hu, goInt])
  | sliceN k hx hhi ht =>
    rename_i t x hi
    have h1 := hx ▸ hE x
    simp only [Rel] at h1
    have hh1 := rel_int (hhi ▸ hE hi)
    obtain ⟨⟨e1, e2⟩, he⟩ := Option.isSome_iff_exists.mp ht
    have hb0 : ∀ w, (Instr.sliceBound (.int k 0) 0 .sliceAcap).run P w = .ok 0 w := fun w => by simpa using run_bound (P := P) k 0 0 .sliceAcap (Nat.le_refl _) w
    have hb := run_sliceAt (P := P) he none 0 0 none (some (.int k 0)) none 0 0 0 (fun w => by simp [Instr.sliceBounds, hb0 w]) w
    exact Good.pure (x := .slice none 0 0) hH (by simp only [execOp, h1, hh1, Option.map_some, Option.map_none, Sem.run_bind, hb, Result.andThen_ok, Sem.run_pure]; simp) (by simp [Rel])
  | max2 k m n hx hy =>
    rename_i x y tys
    have h1 := rel_int (hx ▸ hE x)
    have h2 := rel_int (hy ▸ hE y)
    exact Good.int hH (by simp [execOp, resolve, invoke, builtin, h1, h2, Builtin.max_, Builtin.max2])
  | min2 k m n hx hy =>
    rename_i x y tys
    have h1 := rel_int (hx ▸ hE x)
    have h2 := rel_int (hy ▸ hE y)
    exact Good.int hH (by simp [execOp, resolve, invoke, builtin, h1, h2, Builtin.min_, Builtin.min2])
  | makeSliceC el s by_ n c k k' zs ht hx hy hnc hb hn =>
    rename_i t x y
    have hx1 := rel_int (hx ▸ hE x)
    have hy1 := rel_int (hy ▸ hE y)
    obtain ⟨i, z, hu, hi, hz, rfl, rfl, hzs, h0, rfl⟩ := row_parts ht
    have h63 : (c : Int) ≤ 9223372036854775807 := by
      have h := hn
      simp [maxLen] at h
      omega
    have hbi : (i.bytes : Int) * (c : Int) ≤ 281474976710656 := by
      have h : ((i.bytes * c : Nat) : Int) ≤ 281474976710656 := by omega
      rwa [Int.natCast_mul] at h
    have hrun := run_make (P := P) w t el i z hu hi hz k k' n c (by omega) (by omega) hbi h63
    simp only [Int.toNat_natCast] at hrun
    have hbel : Below w.heap.size w (w.alloc (.cells (madeCells z.cells (c * i.size)) el)) := (Below.refl _ _).alloc (Nat.le_refl _) _
    have hle : n * i.size ≤ c * i.size := Nat.mul_le_mul_right _ hnc
    have hml : (madeCells z.cells (c * i.size)).toList = (List.range (c * i.size)).map (fun j => z.cells[j % i.size]!) := by simp [madeCells, hzs]
    have htk : ((List.range (c * i.size)).map (fun j => z.cells[j % i.size]!)).take (n * i.size) = (List.range (n * i.size)).map (fun j => z.cells[j % i.size]!) := by
      rw [← List.map_take]
      congr 1
      apply List.ext_getElem?
      intro j
      rw [List.getElem?_take]
      split
      · rename_i hj
        rw [List.getElem?_range (by omega), List.getElem?_range hj]
      · rename_i hj
        rw [List.getElem?_eq_none (by simpa using hj)]
    refine ⟨_, _, [.slice (some ⟨w.heap.size, 0, none⟩) n c], by simp only [execOp, hx1, hy1, Sem.run_bind, hrun, Result.andThen_ok, Sem.run_pure]; rfl, hbel, hH.extend1 hZ hbel ⟨(List.range (n * i.size)).map (fun j => z.cells[j % i.size]!), ?_, ?_⟩ (by simp [blk]) rfl, ?_⟩
    · refine ⟨by simp, .inr ⟨w.heap.size, c, _, rfl, hB, heap_alloc_new w _, hnc, hn, ?_, ?_⟩⟩
      · rw [← Array.length_toList, hml]; simp
      · rw [hml, htk]
    · exact zeros_rel z.cells i.size n hzs h0 _ (fun j _ => rfl)
    · simp only [Rel]
      rw [← hH.len]; simp
  | alloc cs hz =>
    rename_i t
    obtain ⟨i, z, hi, hzz, rfl⟩ := zero_parts hz
    refine Good.new (u := .pointer (some ⟨w.heap.size, 0, none⟩)) (ob := .cells z.cells t) hH hZ (by simp [execOp, Instr.alloc, zeroValue, typeInfo, hi, hzz, newVar, newRow, newObj] <;> rfl)
      ⟨w.heap.size, z.cells.toList, rfl, hB, by simpa using heap_alloc_new w _, ofConst_relL _ _ _ _⟩ (by simp [blk]) rfl ?_
    simp only [Rel]
    exact ⟨.pointer (some ⟨w.heap.size, 0, none⟩), w.heap.size, by rw [← hH.len]; simp, rfl, rfl⟩
  | box hx =>
    rename_i t x
    have h1 := hE x
    have hc := cells_rel hH.one h1 (by rintro b hb; rw [hb] at hx; simp [AV.full] at hx) (.inl (by rintro hb; rw [hb] at hx; simp [AV.full] at hx))
    refine Good.new (u := .pointer (some ⟨w.heap.size, 0, none⟩)) (ob := .cells (ρ x).cells t) hH hZ (by simp [execOp, Instr.box, newVar, newRow, newObj] <;> rfl)
      ⟨w.heap.size, (ρ x).cells.toList, rfl, hB, by simpa using heap_alloc_new w _, hc.keep (fun b hb _ => Below.heap_alloc w _ b hb) (fun i u hu => by rw [List.getElem?_append_left (List.getElem?_eq_some_iff.1 hu).1]; exact hu)⟩ (by simp [blk]) rfl ?_
    simp only [Rel]
    exact ⟨.pointer (some ⟨w.heap.size, 0, none⟩), w.heap.size, by rw [← hH.len]; simp, rfl, rfl⟩
  | makeFunc =>
    rename_i f caps
    refine Good.pure (x := .func (.func f) #[] (caps.map ρ)) hH (by simp [execOp, Instr.makeFunc]) ?_
    simp only [Rel]
    refine ⟨caps.toList.map ρ, by rw [← Array.toList_map], ?_⟩
    generalize caps.toList = l
    induction l with
    | nil => exact RelL.nil
    | cons x l ih => exact RelL.cons (hE x) ih
  | build pl zs cs hpl hz hf =>
    rename_i t parts
    obtain ⟨i, z, hi, hzz, rfl⟩ := zero_parts hz
    obtain ⟨ys, hy, hry⟩ := fill_rel hH.one hE parts.toList _ z.cells cs (ofConst_relL w Z μ _) hf
    unfold placesB at hpl
    split at hpl
    · rename_i fs hu
      have hm := run_mapM (P := P) (fun f : Field => do pure (f.offset, ← sizeOf f.type)) (fun f => (P.info? f.type).map fun i => (f.offset, i.size)) w (fun f b hb => by
        simp only [Option.map_eq_some_iff] at hb
        obtain ⟨i, hi, rfl⟩ := hb
        simp [sizeOf, typeInfo, hi]) fs.toList pl hpl
      have hm' : (fs.mapM (fun f : Field => do pure (f.offset, ← sizeOf f.type))).run P w = .ok pl.toArray w := by
        rw [Array.mapM_eq_mapM_toList, Sem.run_map, hm]
        rfl
      have hy' : Instr.fill (fun x => pl.toArray[x]?) z.cells (parts.map fun (i, x) => (i, ρ x)).toList = some ys := by
        simpa using hy
      have hb : (Instr.build t (parts.map fun (i, x) => (i, ρ x))).run P w = .ok (.agg ys) w := by
        simp only [Instr.build, Sem.run_bind, run_cells_box t i z hi hzz, Result.andThen_ok, run_underlying hu, hm', hy']
        rfl
      refine Good.pure (x := .agg ys) hH (by simp only [execOp, Sem.run_bind, hb, Result.andThen_ok, Sem.run_pure]) ?_
      simp only [Rel]
      exact ⟨ys.toList, by simp, hry⟩
    · cases hpl
  | buildSlice el s by_ zs cs ht hn hf hlf =>
    rename_i t n parts
    obtain ⟨i, z, hu, hi, hz, rfl, hby, hzs, h0, rfl⟩ := row_parts ht
    obtain ⟨arr, harr⟩ : ∃ arr : Array Value, arr = (Array.range (n * i.size)).map (z.cells[· % z.cells.size]!) := ⟨_, rfl⟩
    obtain ⟨ys, hy, hry⟩ := fill_rel hH.one hE parts.toList _ arr cs (by
      have e1 : arr.toList = (List.range (n * i.size)).map (fun j => z.cells[j % i.size]!) := by rw [harr]; simp [hzs]
      rw [e1]; exact zeros_rel z.cells i.size n hzs h0 _ (fun j _ => rfl)) hf
    have hlen : ys.size = n * i.size := by
      have h1 := hry.length
      rw [fillA_length _ _ _ _ hf, zerosA] at h1
      simpa using h1
    have hb : (Instr.buildSlice t n (parts.map fun (i, x) => (i, ρ x))).run P w = .ok (.slice (some ⟨w.heap.size, 0, none⟩) n n) (w.alloc (.cells ys el)) := by
      have hy' : Instr.fill (fun k => some (k * i.size, i.size)) arr (parts.map fun (i, x) => (i, ρ x)).toList = some ys := by simpa using hy
      have hng : ¬ (n * i.size > 2 ^ 24) := by omega
      by_cases hz0 : n * i.size = 0
      · have ha : arr = #[] := by rw [harr, hz0]; simp
        rw [ha] at hy'
        simp only [Instr.buildSlice, Sem.run_bind, run_underlying hu, Result.andThen_ok, run_size (show sizeB P el = some i.size by simp [sizeB, hi]), hz0, if_true, Array.range_zero', Array.map_empty, hy']
        rfl
      · rw [harr] at hy'
        simp only [Instr.buildSlice, Sem.run_bind, run_underlying hu, Result.andThen_ok, run_size (show sizeB P el = some i.size by simp [sizeB, hi]), if_neg hng, Sem.run_pure, if_neg hz0, run_cells_box el i z hi hz, hy']
        rfl
    refine Good.new (u := .slice (some ⟨w.heap.size, 0, none⟩) n n) (ob := .cells ys el) (x := .slice (some ⟨w.heap.size, 0, none⟩) n n) hH hZ (by simp only [execOp, Sem.run_bind, hb, Result.andThen_ok, Sem.run_pure]) ⟨ys.toList, World.ownsRow_lit w ys n hB ?_ hlen, ?_⟩ (by simp [blk]) rfl ?_
    · have : n ≤ n * i.size := Nat.le_mul_of_pos_right n h0
      unfold maxLen; omega
    · exact (RelL.leafy hlf hry).keep (fun b hb _ => Below.heap_alloc w _ b hb) (fun i u hu => hu)
    · simp only [Rel]
      rw [← hH.len]; simp
  | makeSlice el s by_ n k k' zs ht hx hy hb hn =>
    rename_i t x y
    have hx1 := rel_int (hx ▸ hE x)
    have hy1 := rel_int (hy ▸ hE y)
    obtain ⟨i, z, hu, hi, hz, rfl, rfl, hzs, h0, rfl⟩ := row_parts ht
    obtain ⟨w', hrun, hown, hg⟩ := run_make_full (P := P) w B t el i z i.size hu hi hz rfl k k' n (by omega) hn hB
    have hbel : Below w.heap.size w w' := ⟨hg.os, hg.tape, hg.output, hg.size, fun j hj => hg.block j hj (by simp)⟩
    refine ⟨_, w', [.slice (some ⟨w.heap.size, 0, none⟩) n n], by simp only [execOp, hx1, hy1, Sem.run_bind, hrun, Result.andThen_ok, Sem.run_pure]; rfl, hbel, hH.extend1 hZ hbel ⟨_, hown, ?_⟩ (by simp [blk]) rfl, ?_⟩
    · have e1 : (madeCells z.cells (n * i.size)).toList = (List.range (n * i.size)).map (fun j => z.cells[j % i.size]!) := by simp [madeCells, hzs]
      rw [e1]
      exact zeros_rel z.cells i.size n hzs h0 _ (fun j _ => rfl)
    · simp only [Rel]
      rw [← hH.len]; simp
  | sliceLH s n el cs k k' l h hx hlo hhi ht h1 h2 =>
    rename_i t x lo hi
    have hx1 := hx ▸ hE x
    have hl1 := rel_int (hlo ▸ hE lo)
    have hh1 := rel_int (hhi ▸ hE hi)
    simp only [Rel] at hx1
    obtain ⟨A, c, xs, h3, hl, hnc, hrd, hr⟩ := hx1
    have hb := run_sliceAt (P := P) ht A n c (some (.int k l)) (some (.int k' h)) none l h c (fun w => by simp [Instr.sliceBounds, run_bound (P := P) k' h c _ (by omega), run_bound (P := P) k l h _ h1]) w
    refine Good.pure hH ?_ (lst_cut (m := c) hl hrd hr h1 h2 (by omega))
    simp only [execOp, h3, hl1, hh1, Option.map_some, Option.map_none, Sem.run_bind, hb, Result.andThen_ok, Sem.run_pure]
  | sliceL s n el cs k l hx hlo ht h1 =>
    rename_i t x lo
    have hx1 := hx ▸ hE x
    have hl1 := rel_int (hlo ▸ hE lo)
    simp only [Rel] at hx1
    obtain ⟨A, c, xs, h3, hl, hnc, hrd, hr⟩ := hx1
    have hb := run_sliceAt (P := P) ht A n c (some (.int k l)) none none l n c (fun w => by simp [Instr.sliceBounds, run_bound (P := P) k l n _ h1]) w
    have h5 := lst_cut (μ := μ) (m := c) hl hrd hr h1 (Nat.le_refl n) hnc
    have e1 : (cs.drop (l * s)).take ((n - l) * s) = cs.drop (l * s) := List.take_of_length_le (by rw [List.length_drop, hl, Nat.sub_mul]; exact Nat.le_refl _)
    rw [e1] at h5
    refine Good.pure hH ?_ h5
    simp only [execOp, h3, hl1, Option.map_some, Option.map_none, Sem.run_bind, hb, Result.andThen_ok, Sem.run_pure]
  | sliceH s n el cs k h hx hhi ht h1 =>
    rename_i t x hi
    have hx1 := hx ▸ hE x
    have hh1 := rel_int (hhi ▸ hE hi)
    simp only [Rel] at hx1
    obtain ⟨A, c, xs, h3, hl, hnc, hrd, hr⟩ := hx1
    have hb := run_sliceAt (P := P) ht A n c none (some (.int k h)) none 0 h c (fun w => by simp [Instr.sliceBounds, run_bound (P := P) k h c _ (by omega)]) w
    have h5 := lst_cut (μ := μ) (l := 0) (m := c) hl hrd hr (Nat.zero_le h) h1 (by omega)
    simp only [Nat.zero_mul, List.drop_zero, Nat.sub_zero] at h5 hb
    refine Good.pure hH ?_ h5
    simp only [execOp, h3, hh1, Option.map_some, Option.map_none, Sem.run_bind, hb, Result.andThen_ok, Sem.run_pure]
  | sliceHM s n el cs k k' hx hhi hmx ht =>
    rename_i t x hi mx
    have hx1 := hx ▸ hE x
    have hh1 := rel_int (hhi ▸ hE hi)
    have hm1 := rel_int (hmx ▸ hE mx)
    simp only [Rel] at hx1
    obtain ⟨A, c, xs, h4, hl, hnc, hrd, hr⟩ := hx1
    have hb := run_sliceAt (P := P) ht A n c none (some (.int k n)) (some (.int k' n)) 0 n n (fun w => by simp [Instr.sliceBounds, run_bound (P := P) k' n c _ (by omega), run_bound (P := P) k n n _ (Nat.le_refl _)]) w
    simp only [Nat.zero_mul, Nat.sub_zero] at hb
    refine Good.pure hH (x := .slice (if n = 0 then A else A.map (·.add 0)) n n) ?_ ?_
    · simp only [execOp, h4, hh1, hm1, Option.map_some, Option.map_none, Sem.run_bind, hb, Result.andThen_ok, Sem.run_pure]
    · simp only [Rel]
      refine ⟨_, n, xs, rfl, hl, rfl, ?_, hr⟩
      have hlen := hr.length
      by_cases hn : n = 0
      · subst hn
        intro hne
        exact absurd (List.eq_nil_of_length_eq_zero (by rw [hlen, hl]; simp)) hne
      · rw [if_neg hn]
        have e : A.map (·.add 0) = A := by cases A <;> simp [Addr.add_zero']
        rw [e]
        exact hrd
  | sliceLHM s n el cs k k' k'' l h m hx hlo hhi hmx ht h1 h2 h3 =>
    rename_i t x lo hi mx
    have hx1 := hx ▸ hE x
    have hl1 := rel_int (hlo ▸ hE lo)
    have hh1 := rel_int (hhi ▸ hE hi)
    have hm1 := rel_int (hmx ▸ hE mx)
    simp only [Rel] at hx1
    obtain ⟨A, c, xs, h4, hl, hnc, hrd, hr⟩ := hx1
    have hb := run_sliceAt (P := P) ht A n c (some (.int k l)) (some (.int k' h)) (some (.int k'' m)) l h m (fun w => by simp [Instr.sliceBounds, run_bound (P := P) k'' m c _ (by omega), run_bound (P := P) k' h m _ h2, run_bound (P := P) k l h _ h1]) w
    refine Good.pure hH ?_ (lst_cut (m := m) hl hrd hr h1 (by omega) h2)
    simp only [execOp, h4, hl1, hh1, hm1, Option.map_some, Sem.run_bind, hb, Result.andThen_ok, Sem.run_pure]

end Go.Abs
