/- Rules in the form in which the generated proofs use them; lists of integers and of other data as cells. -/
import Derived.Test.YtbkfbpddeedgoaaAbsI
namespace Go.Abs
open Go.RowKit

/-- An int64 or int as a cell. -/
def AI (n : Int) : AV := .int .i64 n

/-- A region's goal, its operations still to come. -/
def Goes (P : Program) (ops : Array Oper) (l : List Oper) (st : St) (Q : St → Prop) : Prop := ∃ st', OpsR P ops l st st' ∧ Q st'

theorem RunA.goes {P : Program} {id : Nat} {l : List Oper} {st : St} {Q : Exit → St → Prop} (h : Goes P l.toArray l st (Q .normal)) : RunA P (.region id l.toArray false) st Q :=
  let ⟨_, h1, h2⟩ := h; RunA.region h1 h2

theorem Goes.nil {P : Program} {ops : Array Oper} {st : St} {Q : St → Prop} (h : Q st) : Goes P ops [] st Q := ⟨st, .nil, h⟩

theorem Goes.run {P : Program} {ops : Array Oper} {l rest : List Oper} {st : St} {Q : St → Prop} (st1 : St) (h : runE P ops l st = some st1) (h' : Goes P ops rest st1 Q) : Goes P ops (l ++ rest) st Q :=
  let ⟨st2, h1, h2⟩ := h'; ⟨st2, runE_sound h h1, h2⟩

/-- n operations without premises. -/
theorem Goes.take {P : Program} {ops : Array Oper} {l : List Oper} {st : St} {Q : St → Prop} (n : Nat) (st1 : St) (h : runE P ops (l.take n) st = some st1) (h' : Goes P ops (l.drop n) st1 Q) : Goes P ops l st Q := by
  have := Goes.run st1 h h'
  rwa [List.take_append_drop] at this

theorem Goes.step {P : Program} {ops : Array Oper} {o : Oper} {l : List Oper} {st : St} {Q : St → Prop} (st1 : St) (h : StepR P ops o st st1) (h' : Goes P ops l st1 Q) : Goes P ops (o :: l) st Q :=
  let ⟨st2, h1, h2⟩ := h'; ⟨st2, .cons h h1, h2⟩

theorem Goes.eff {P : Program} {ops : Array Oper} {o : Oper} {l : List Oper} {st : St} {Q : St → Prop} {v : AV} {news : List AObj} (hw : wantedE ops o st.fr = some true) (h : EffR P (ev st.fr) st.hp o.op v news) (h' : Goes P ops l ⟨putF st.fr o.dst v, st.hp ++ news⟩ Q) : Goes P ops (o :: l) st Q :=
  Goes.step _ (.eff (wantedE_true hw) h) h'

theorem Goes.call {P : Program} {ops : Array Oper} {o : Oper} {l : List Oper} {st : St} {Q : St → Prop} {v : AV} {news : List AObj} (hw : wantedE ops o st.fr = some true) (h : CallR P (ev st.fr) st.hp o.op v news) (h' : Goes P ops l ⟨putF st.fr o.dst v, st.hp ++ news⟩ Q) : Goes P ops (o :: l) st Q :=
  Goes.step _ (.call (wantedE_true hw) h) h'

theorem Goes.write {P : Program} {ops : Array Oper} {o : Oper} {l : List Oper} {st : St} {Q : St → Prop} {v : AV} {kl : Option Nat} {hp' : List AObj} (hw : wantedE ops o st.fr = some true) (h : EffW P (ev st.fr) st.hp o.op v kl hp') (h' : Goes P ops l ⟨putF (killF kl st.fr) o.dst v, hp'⟩ Q) : Goes P ops (o :: l) st Q :=
  Goes.step _ (.write (wantedE_true hw) h) h'

/-- The same state, otherwise spelled. -/
theorem Goes.cast {P : Program} {ops : Array Oper} {l : List Oper} {st : St} {Q : St → Prop} (st1 : St) (h : st = st1) (h' : Goes P ops l st1 Q) : Goes P ops l st Q := h ▸ h'

theorem RunA.cast {P : Program} {c : Code} {st : St} {Q : Exit → St → Prop} (st1 : St) (h : st = st1) (h' : RunA P c st1 Q) : RunA P c st Q := h ▸ h'

theorem Returns.of {P : Program} {fn : Func} {st : St} {res : AV} (vs : List AV) (ids : List Nat) (h : ResVs P st fn.results.toList vs) (c : AV) (he : Exp st.hp (oneOf vs) c ids) (hn : ids.Nodup) (hc : c = res) : Returns P fn st res := hc ▸ ⟨vs, ids, h, he, hn⟩

theorem leafyL_ints (xs : List Int) : leafyL (xs.map AI) = true := by
  induction xs with
  | nil => rfl
  | cons x xs ih => simp [leafyL, AI, AV.leafy, ih]

theorem snapL_leafy {hp : List AObj} : ∀ {cs : List AV}, leafyL cs = true → SnapL hp cs cs
  | [], _ => .nil
  | c :: cs, h => by
    simp only [leafyL, Bool.and_eq_true] at h
    exact .cons (.leaf h.1) (snapL_leafy h.2)

theorem expL_leafy {hp : List AObj} : ∀ {cs : List AV}, (∀ c ∈ cs, c.leafy = true ∧ (∀ ds, c ≠ .agg ds) ∧ ∀ f ds, c ≠ .fn f ds) → ExpL hp cs cs []
  | [], _ => .nil
  | c :: cs, h => by
    obtain ⟨h1, h2, h3⟩ := h c (List.mem_cons_self ..)
    exact ExpL.cons (i1 := []) (.leaf h1 h2 h3) (expL_leafy fun d hd => h d (List.mem_cons_of_mem _ hd))

theorem expL_ints {hp : List AObj} (xs : List Int) : ExpL hp (xs.map AI) (xs.map AI) [] := expL_leafy fun c hc => by
  obtain ⟨x, _, rfl⟩ := List.mem_map.1 hc
  exact ⟨rfl, by intro ds; simp [AI], by intro f ds; simp [AI]⟩

theorem ones_ints (xs : List Int) : ∀ c ∈ xs.map AI, c.one = true := fun c hc => by
  obtain ⟨x, _, rfl⟩ := List.mem_map.1 hc
  rfl

theorem killL_ints (i : Nat) (xs : List Int) : killL i (xs.map AI) = xs.map AI := by
  induction xs with
  | nil => rfl
  | cons x xs ih => simp [killL, AI, AV.kill, ih]

theorem set_ints (xs : List Int) (i : Nat) (v : Int) : (xs.map AI).set i (AI v) = (xs.set i v).map AI := by rw [List.map_set]

theorem get_ints {xs : List Int} {j : Int} {n : Nat} (hn : n = xs.length) (h0 : 0 ≤ j) (h1 : j < n) : ((xs.map AI).drop (j.toNat * 1))[0]? = some (AI (xs.getD j.toNat 0)) := by
  have hlt : j.toNat < xs.length := by omega
  rw [Nat.mul_one, List.getElem?_drop, Nat.add_zero, List.getElem?_map, List.getElem?_eq_getElem hlt]
  simp [List.getD_eq_getElem?_getD, List.getElem?_eq_getElem hlt]

end Go.Abs
