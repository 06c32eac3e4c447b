/- Rows of bytes; drawn regions with tags of one's own. -/
import Derived.Test.YtfkdkhlimdkehaaGreatSymZ
namespace Go.Abs
open Go.RowKit Go.ChangeShapes Go.WideShapes Go.Deep

def eB (n : Int) : List AV := [.int .u8 n]
def LB (xs : List Int) : AV := .lst 1 xs.length (rows eB xs)
theorem eB_len (x : Int) : (eB x).length = 1 := rfl
theorem eB_one (x : Int) : (eB x).all AV.one = true := rfl
theorem eB_closed (x : Int) : closedL (eB x) = true := rfl

section
variable {H : Type} {enc : TypeId × Value → H} {P : Program} {w : World} {base : Nat} {spare : Nat → Bool} {held : Bool}

theorem RelL_bytes {Z : Nat → Prop} {μ : List Value} : ∀ xs : List Int, RelL w Z μ (rows eB xs) (xs.map fun n => .int .u8 n)
  | [] => RelL.nil
  | x :: xs => RelL.cons (by simp [Rel]) (RelL_bytes xs)

theorem trod_bytes {t e : TypeId} {fuel : Nat} {cs : List Value} {x : DataW H × List MemPlace} (ht : P.underlying t = some (.slice e)) (he : P.underlying e = some (.int .u8)) (hc : P.cellsOf e = 1)
    (h : DataW.trod enc P w base spare held fuel t cs = some x) : ∃ v, cs = [v] ∧ ∃ xs : List Int, xs.length ≤ maxLen ∧ (∀ j, j < xs.length → 0 ≤ xs.getD j 0 ∧ xs.getD j 0 ≤ 255) ∧ Rel w (Z0 w) [] (LB xs) v := by
  rcases open_slice1 ht hc h with ⟨rfl, _⟩ | ⟨a, len, cap, m, n, V, D, Pl, rfl, _, hl, hm, hmm, _, hx⟩
  · exact ⟨_, rfl, [], Nat.zero_le _, fun j hj => absurd hj (by simp), none, 0, [], rfl, rfl, Nat.le_refl _, fun h => absurd rfl h, RelL.nil⟩
  · have hlm : len ≤ m := by rw [hmm]; split <;> omega
    obtain ⟨xs, h1, h2⟩ := choose_list (n := len) (p := fun i y => w.cell? (a.add i) = some (.int .u8 y) ∧ 0 ≤ y ∧ y ≤ 255) fun i hi => by
      obtain ⟨g1, g2⟩ := hx i (by omega)
      obtain ⟨y, hy, _, hw⟩ := DataW.trod_int he g2
      simp at hy
      simp [Lit.wf, IntKind.min, IntKind.max, IntKind.signed, IntKind.bits] at hw
      exact ⟨y, by rw [g1, hy], by omega, by omega⟩
    refine ⟨_, rfl, xs, by omega, fun j hj => (h2 j (by omega)).2, ⟨some a, cap, xs.map fun n => .int .u8 n, by rw [h1], by rw [rows_length eB_len, h1], by omega, fun hne => ⟨a, rfl, ?_, fun j u hj => ?_⟩, RelL_bytes xs⟩⟩
    · have : 0 < len := by
        rw [← h1]
        cases xs with
        | nil => exact absurd rfl hne
        | cons x xs => simp
      have := not_Z0 (h2 0 this).1
      simpa [Addr.add] using this
    · rw [List.getElem?_map, Option.map_eq_some_iff] at hj
      obtain ⟨y, hy, rfl⟩ := hj
      have hj := (List.getElem?_eq_some_iff.1 hy).1
      rw [(h2 j (by omega)).1, List.getD_eq_getElem?_getD, hy]
      rfl

theorem open_bytes {r : Reach} {b0 : Nat} {t e : TypeId} {v : Value} {d : DataW H} {ps : List MemPlace} (ht : P.underlying t = some (.slice e)) (he : P.underlying e = some (.int .u8)) (hc : P.cellsOf e = 1)
    (hval : Value.okWide P w r b0 t v) (hd : DataW.Trod enc P w base spare held t v d ps) : ∃ xs : List Int, xs.length ≤ maxLen ∧ (∀ j, j < xs.length → 0 ≤ xs.getD j 0 ∧ xs.getD j 0 ≤ 255) ∧ Rel w (Z0 w) [] (LB xs) v := by
  obtain ⟨A, n, c, rfl⟩ := okWide_slice ht hval
  obtain ⟨fuel, hf⟩ := hd
  obtain ⟨v, h1, h2⟩ := trod_bytes ht he hc hf
  simp [Value.cells] at h1
  subst h1
  exact h2
end

section
variable {rd : Option Nat} {P : Program} {m : M} {Q : Exit → St → Prop}
/-- A drawn region's entry, with tags of one's own: 0 for a literal that is only read, 1 for a call that makes objects. -/
def drwOk (P : Program) (ts : List Nat) (m : M) : Bool :=
  match m.ks with
  | .code (.region _ ops true) :: _ => P.follows .mixedOrders && okDraw ops ts
  | _ => false
def drwM (ts : List Nat) (m : M) : M :=
  match m.ks with
  | .code (.region _ ops true) :: ks => ⟨.drw ops ops.toList ts false :: ks, m.st⟩
  | _ => m
theorem R.drwT (ts : List Nat) (h : drwOk P ts m = true) (h' : Runs rd P (drwM ts m) Q) : Runs rd P m Q := by
  obtain ⟨ks, st⟩ := m
  unfold drwOk at h
  simp only at h
  split at h
  · rename_i id ops ks
    simp only [Bool.and_eq_true] at h
    simp only [drwM, runs_iff] at h' ⊢
    simp only [RunsK] at h' ⊢
    exact RunA.drawK ts h.1 h.2 (h' headW_false)
  · cases h
/-- The end of a call by reference, by equations. -/
theorem R.retSE {fn : Func} {n : Nat} {us : List Value} {fr : List AV} {res res' : AV} {hp1 hp' : List AObj} (h : (edAt m).isSome = true) (hr : resIn P fn m.st = some res) (hf : frameAt n m.st = some (us, fr)) (hh : m.st.hp.set n .dead = hp1)
    (e1 : res = res') (e2 : hp1 = hp') : Runs rd P m (Go.Abs.retS P fn n us fr res' hp') := by subst e1 e2; exact R.retS h hr hf hh
end
end Go.Abs
