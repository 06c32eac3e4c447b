/- A machine on abstract states: it runs by itself as far as nothing has to be known; rules for what has to be known. -/
import Derived.Test.YtfkdkhlimdkehaaGreatSymJ
import Derived.IntWalk
namespace Go.Abs
open Go.RowKit

/-- An int64 or int as a cell. -/
def AI (n : Int) : AV := .int .i64 n

inductive Kont where
  | code (c : Code)
  | ops (all : Array Oper) (l : List Oper) (f : Bool)
  | drw (all : Array Oper) (l : List Oper) (ts : List Nat) (f : Bool)
  | any (ops : Array Oper) (listed : Array Bool) (n : Nat)
  | block (id : Nat)
  | stop (R : St → Prop)

structure M where
  ks : List Kont
  st : St

/-- The operations l of a region. -/
def OpsQ (rd : Option Nat) (P : Program) (all : Array Oper) (l : List Oper) (st : St) (Q : Exit → St → Prop) : Prop :=
  ∀ (Z0 : Nat → Prop) (w0 : World) (a : Act) (w : World), Sim Z0 w0 st a w → wpListIn (Fc rd) 0 P all (fun e a' w' => ∃ st', Q e st' ∧ Sim Z0 w0 st' a' w') l a w

theorem OpsQ.nil {rd : Option Nat} {P : Program} {all : Array Oper} {st : St} {Q : Exit → St → Prop} (h : Q .normal st) : OpsQ rd P all [] st Q := fun _ _ _ _ hS => wpListIn_nil ⟨st, h, hS⟩

theorem OpsQ.cons {rd : Option Nat} {P : Program} {all : Array Oper} {o : Oper} {l : List Oper} {st st' : St} {Q : Exit → St → Prop} (h : StepR P all o st st') (h' : OpsQ rd P all l st' Q) : OpsQ rd P all (o :: l) st Q :=
  fun Z0 w0 _ _ hS => wpListIn_step fun _ hK => h.sound hS fun a' w' hS' => hK a' w' (h' Z0 w0 a' w' hS')

theorem RunA.regionQ {rd : Option Nat} {P : Program} {id : Nat} {ops : Array Oper} {st : St} {Q : Exit → St → Prop} (h : OpsQ rd P ops ops.toList st Q) : RunA rd P (.region id ops false) st Q := by
  obtain ⟨l⟩ := ops
  exact fun Z0 w0 a w hS => wpIn_region_lit (h Z0 w0 a w hS)

/-- The operations of a drawn region that are still to come, in any order. -/
def AnyQ (rd : Option Nat) (P : Program) (ops : Array Oper) (listed : Array Bool) (n : Nat) (st : St) (Q : Exit → St → Prop) : Prop :=
  ∀ (Z0 : Nat → Prop) (w0 : World) (a : Act) (w : World), Sim Z0 w0 st a w → wpAnyIn (Fc rd) 0 P .any ops (fun e a' w' => ∃ st', Q e st' ∧ Sim Z0 w0 st' a' w') n listed a w

/-- The head is wanted (which only f tells). -/
def HeadW (all : Array Oper) (l : List Oper) (f : Bool) (fr : List AV) : Prop := f = true → ∀ o rest, l = o :: rest → WantedA all o fr

/-- What has to hold at an exit, with the work ks to come. -/
def RunsK (rd : Option Nat) (P : Program) (Q : Exit → St → Prop) : List Kont → Exit → St → Prop
  | [] => Q
  | .code c :: ks => fun e st => match e with
    | .normal => RunA rd P c st (RunsK rd P Q ks)
    | e => RunsK rd P Q ks e st
  | .ops all l f :: ks => fun e st => match e with
    | .normal => HeadW all l f st.fr → OpsQ rd P all l st (RunsK rd P Q ks)
    | e => RunsK rd P Q ks e st
  | .drw all l ts f :: ks => fun e st => match e with
    | .normal => HeadW all l f st.fr → ∃ st', DrawR P all l ts st st' ∧ RunsK rd P Q ks .normal st'
    | e => RunsK rd P Q ks e st
  | .any ops listed n :: ks => fun e st => match e with
    | .normal => AnyQ rd P ops listed n st (RunsK rd P Q ks)
    | e => RunsK rd P Q ks e st
  | .block id :: ks => fun e st => match e with
    | .exit id' => if id' = id then RunsK rd P Q ks .normal st else RunsK rd P Q ks (.exit id') st
    | e => RunsK rd P Q ks e st
  | .stop R :: ks => fun e st => match e with
    | .normal => R st
    | e => RunsK rd P Q ks e st

/-- The machine m ends as Q says. (A structure, so that no tactic looks into it.) -/
structure Runs (rd : Option Nat) (P : Program) (m : M) (Q : Exit → St → Prop) : Prop where
  out : RunsK rd P Q m.ks .normal m.st

theorem runs_iff {rd : Option Nat} {P : Program} {m : M} {Q : Exit → St → Prop} : Runs rd P m Q ↔ RunsK rd P Q m.ks .normal m.st := ⟨fun h => h.out, fun h => ⟨h⟩⟩

/-! ### The machine's own steps -/
def unwind (id : Nat) : List Kont → Option (List Kont)
  | [] => none
  | .block id' :: ks => if id = id' then some ks else unwind id ks
  | _ :: ks => unwind id ks

theorem unwind_sound {rd : Option Nat} {P : Program} {Q : Exit → St → Prop} {id : Nat} {st : St} : ∀ {ks ks' : List Kont}, unwind id ks = some ks' → RunsK rd P Q ks' .normal st → RunsK rd P Q ks (.exit id) st
  | [], _, h, _ => by simp [unwind] at h
  | .block id' :: ks, ks', h, h' => by
    simp only [unwind] at h
    simp only [RunsK]
    split at h
    · rename_i he
      cases h
      rw [if_pos he]
      exact h'
    · rename_i he
      rw [if_neg he]
      exact unwind_sound h h'
  | .code _ :: ks, ks', h, h' => by simp only [unwind] at h; simp only [RunsK]; exact unwind_sound h h'
  | .ops _ _ _ :: ks, ks', h, h' => by simp only [unwind] at h; simp only [RunsK]; exact unwind_sound h h'
  | .drw _ _ _ _ :: ks, ks', h, h' => by simp only [unwind] at h; simp only [RunsK]; exact unwind_sound h h'
  | .stop _ :: ks, ks', h, h' => by simp only [unwind] at h; simp only [RunsK]; exact unwind_sound h h'
  | .any _ _ _ :: ks, ks', h, h' => by simp only [unwind] at h; simp only [RunsK]; exact unwind_sound h h'

/-- 0: makes and changes no object; 1: makes objects; 2: changes objects. -/
def tagOf : Op → Nat
  | .alloc _ => 1
  | .box _ _ => 1
  | .buildSlice _ _ _ => 1
  | .makeSlice _ _ _ => 1
  | .store _ _ _ => 2
  | .call c => match c.callee with
    | .builtin .append => 2
    | _ => 0
  | _ => 0

def tagsOf (ops : Array Oper) : List Nat := ops.toList.map fun o => tagOf o.op

/-- Is the head carried out? -/
def wantH (all : Array Oper) (o : Oper) (f : Bool) (fr : List AV) : Option Bool := if f then some true else wantedE all o fr

def stepD (P : Program) (all : Array Oper) (o : Oper) (t : Nat) (f : Bool) (st : St) : Option St :=
  match wantH all o f st.fr with
  | some true =>
    match effE P (ev st.fr) st.hp o.op with
    | some (v, news) =>
      match t with
      | 0 => match news with
        | [] => some ⟨putF st.fr o.dst v, st.hp⟩
        | _ => none
      | 1 => some ⟨putF st.fr o.dst v, st.hp ++ news⟩
      | 2 => some ⟨putF st.fr o.dst v, st.hp ++ news⟩
      | _ => none
    | none =>
      match t with
      | 2 => (storeE P (ev st.fr) st.hp o.op).map fun hp' => ⟨putF st.fr o.dst .top, hp'⟩
      | _ => none
  | some false => match t with
    | 0 => some ⟨putF st.fr o.dst (.tup []), st.hp⟩
    | 1 => some ⟨putF st.fr o.dst (.tup []), st.hp ++ []⟩
    | 2 => some ⟨putF st.fr o.dst (.tup []), st.hp⟩
    | _ => none
  | none => none

def stepO (P : Program) (all : Array Oper) (o : Oper) (f : Bool) (st : St) : Option St :=
  match wantH all o f st.fr with
  | some true =>
    match effE P (ev st.fr) st.hp o.op with
    | some (v, news) => some ⟨putF st.fr o.dst v, st.hp ++ news⟩
    | none => (storeE P (ev st.fr) st.hp o.op).map fun hp' => ⟨putF st.fr o.dst .top, hp'⟩
  | some false => some ⟨putF st.fr o.dst (.tup []), st.hp⟩
  | none => none

def stepM (P : Program) (m : M) : Option M :=
  match m.ks with
  | .code (.seq x y) :: ks => some ⟨.code x :: .code y :: ks, m.st⟩
  | .code .skip :: ks => some ⟨ks, m.st⟩
  | .code (.block id c) :: ks => some ⟨.code c :: .block id :: ks, m.st⟩
  | .code (.region _ ops false) :: ks => some ⟨.ops ops ops.toList false :: ks, m.st⟩
  | .code (.region _ ops true) :: ks => if P.follows .mixedOrders && okDraw ops (tagsOf ops) then some ⟨.drw ops ops.toList (tagsOf ops) false :: ks, m.st⟩ else none
  | .code (.cond c x y) :: ks =>
    match ev m.st.fr c with
    | .bool true => some ⟨.code x :: ks, m.st⟩
    | .bool false => some ⟨.code y :: ks, m.st⟩
    | _ => none
  | .code (.exit id) :: ks => match unwind id ks with
    | some ks' => some ⟨ks', m.st⟩
    | none => none
  | .ops _ [] _ :: ks => some ⟨ks, m.st⟩
  | .ops all (o :: l) f :: ks => match stepO P all o f m.st with
    | some st' => some ⟨.ops all l false :: ks, st'⟩
    | none => none
  | .drw _ [] [] _ :: ks => some ⟨ks, m.st⟩
  | .drw all (o :: l) (t :: ts) f :: ks => match stepD P all o t f m.st with
    | some st' => some ⟨.drw all l ts false :: ks, st'⟩
    | none => none
  | .block _ :: ks => some ⟨ks, m.st⟩
  | _ => none

theorem headW_false {all : Array Oper} {l : List Oper} {fr : List AV} : HeadW all l false fr := fun h => by cases h

theorem wantH_true {all : Array Oper} {o : Oper} {l : List Oper} {f : Bool} {fr : List AV} (h : wantH all o f fr = some true) (hw : HeadW all (o :: l) f fr) : WantedA all o fr := by
  unfold wantH at h
  split at h
  · rename_i hf; exact hw hf o l rfl
  · exact wantedE_true h

theorem wantH_false {all : Array Oper} {o : Oper} {f : Bool} {fr : List AV} (h : wantH all o f fr = some false) : ∃ j w, o.guard = some (j, w) ∧ noA all fr j w = true := by
  unfold wantH at h
  split at h
  · cases h
  · exact wantedE_false h

theorem stepO_sound {P : Program} {all : Array Oper} {o : Oper} {l : List Oper} {f : Bool} {st st' : St} (h : stepO P all o f st = some st') (hw : HeadW all (o :: l) f st.fr) : StepR P all o st st' := by
  unfold stepO at h
  split at h
  · rename_i hw1
    have hw2 := wantH_true hw1 hw
    split at h
    · rename_i v news he
      cases h
      exact .eff hw2 (effE_sound he)
    · simp only [Option.map_eq_some_iff] at h
      obtain ⟨hp', hs, rfl⟩ := h
      exact .write (kl := none) hw2 (storeE_sound hs)
  · rename_i hw1
    cases h
    obtain ⟨j, w, h1, h2⟩ := wantH_false hw1
    exact .skip j w h1 h2
  · cases h

theorem stepD_sound {P : Program} {all : Array Oper} {o : Oper} {l : List Oper} {t : Nat} {f : Bool} {st st' : St} (h : stepD P all o t f st = some st') (hw : HeadW all (o :: l) f st.fr) : StepT P all o t st st' := by
  obtain ⟨fr, hp⟩ := st
  unfold stepD at h
  split at h
  · rename_i hw1
    have hw2 := wantH_true hw1 hw
    split at h
    · rename_i v news he
      have he' := effE_sound he
      split at h
      · split at h
        · cases h; exact .quiet (.eff hw2 he')
        · cases h
      · cases h; exact .ext (.eff hw2 he')
      · cases h; exact .write (.eff hw2 he')
      · cases h
    · split at h
      · simp only [Option.map_eq_some_iff] at h
        obtain ⟨hp', hs, rfl⟩ := h
        exact .write (.write (kl := none) hw2 (storeE_sound hs))
      · cases h
  · rename_i hw1
    obtain ⟨j, w, h1, h2⟩ := wantH_false hw1
    split at h
    · cases h; exact .quiet (.skip j w h1 h2)
    · cases h; exact .ext (.skip j w h1 h2)
    · cases h; exact .write (.skip j w h1 h2)
    · cases h
  · cases h

theorem RunA.drawK {rd : Option Nat} {P : Program} {id : Nat} {ops : Array Oper} {st : St} {Q : Exit → St → Prop} (ts : List Nat) (hm : P.follows .mixedOrders = true) (hok : okDraw ops ts = true) (h : ∃ st', DrawR P ops ops.toList ts st st' ∧ Q .normal st') : RunA rd P (.region id ops true) st Q := by
  obtain ⟨l⟩ := ops
  obtain ⟨st', h1, h2⟩ := h
  exact RunA.draw hm ts hok h1 h2

theorem stepM_sound {rd : Option Nat} {P : Program} {m m' : M} {Q : Exit → St → Prop} (h : stepM P m = some m') (h' : Runs rd P m' Q) : Runs rd P m Q := by
  obtain ⟨ks, st⟩ := m
  unfold stepM at h
  simp only at h
  simp only [runs_iff] at h' ⊢
  try simp only
  split at h
  · cases h; simp only [RunsK] at h' ⊢
    exact RunA.seq (h'.mono fun e st' hq => by cases e <;> exact hq)
  · cases h; exact RunA.skip h'
  · cases h; simp only [RunsK] at h' ⊢
    refine RunA.block (h'.mono fun e st' hq => ?_)
    cases e <;> first | exact hq | (simp only at hq ⊢; exact hq)
  · cases h; simp only [RunsK] at h' ⊢
    exact RunA.regionQ (h' headW_false)
  · split at h
    · rename_i hc
      cases h; simp only [RunsK] at h' ⊢
      simp only [Bool.and_eq_true] at hc
      exact RunA.drawK _ hc.1 hc.2 (h' headW_false)
    · cases h
  · split at h
    · rename_i hc; cases h; simp only [RunsK] at h' ⊢
      exact RunA.cond true hc (fun _ => h') (fun h => by cases h)
    · rename_i hc; cases h; simp only [RunsK] at h' ⊢
      exact RunA.cond false hc (fun h => by cases h) (fun _ => h')
    · cases h
  · split at h
    · rename_i hu; cases h
      exact RunA.exit (unwind_sound hu h')
    · cases h
  · cases h; intro _; exact OpsQ.nil h'
  · split at h
    · rename_i hs; cases h
      intro hw
      exact OpsQ.cons (stepO_sound hs hw) (h' headW_false)
    · cases h
  · cases h; intro _; exact ⟨st, .nil, h'⟩
  · split at h
    · rename_i all o l t ts f ks st' hs; cases h
      intro hw
      obtain ⟨st2, h1, h2⟩ := h' headW_false
      exact ⟨st2, .cons (stepD_sound hs hw) h1, h2⟩
    · cases h
  · cases h; exact h'
  · cases h

end Go.Abs
