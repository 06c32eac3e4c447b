/- A reckoner: the operations that need no premise, carried out by a function. -/
import Derived.Test.YtfkdkhlimdkehaaGreatSymH
namespace Go.Abs
open Go.RowKit

/-- Is the operation carried out? (none: not known) -/
def wantedE (ops : Array Oper) (o : Oper) (fr : List AV) : Option Bool :=
  match o.guard with
  | none => some true
  | some (j, w) =>
    match yieldA ops fr j with
    | some b => some (b == w)
    | none => if noA ops fr j w then some false else none

def natOf : AV → Option Nat
  | .int _ (.ofNat n) => some n
  | _ => none

def memOf (hp : List AObj) : AV → Option (List AV)
  | .ptr i o => (hp[i]?).map fun ob => ob.cells.drop o
  | .rptr cs => some cs
  | _ => none

/-- What an operation without a premise comes to: its value, its new objects. -/
def effE (P : Program) (e : Operand → AV) (hp : List AObj) (op : Op) : Option (AV × List AObj) :=
  match op with
  | .move x | .assign x => some (e x, [])
  | .pick c a b =>
    match e c with
    | .bool t => some (if t then e a else e b, [])
    | _ => none
  | .binOp op t x y _ =>
    match op, e x, e y with
    | .quo, .int k m, .int k' n => if k = k' ∧ n ≠ 0 then some (.int k (k.wrap (m.tdiv n)), []) else none
    | .rem, .int k m, .int k' n => if k = k' ∧ n ≠ 0 then some (.int k (m.tmod n), []) else none
    | .shl, .int k m, .int _ n => if 0 ≤ n then some (.int k (k.wrap (m * 2 ^ (min n.toNat k.bits))), []) else none
    | .shr, .int k m, .int _ n => if 0 ≤ n then some (.int k (m.fdiv (2 ^ (min n.toNat k.bits))), []) else none
    | op, .int k m, .int k' n => if k = k' then (binA op k m n).map fun v => (v, []) else none
    | .eql, .bool a, .bool b => match P.underlying t with | some .bool => some (.bool (a == b), []) | _ => none
    | .neq, .bool a, .bool b => match P.underlying t with | some .bool => some (.bool (!(a == b)), []) | _ => none
    | _, _, _ => none
  | .unOp .not _ x => match e x with | .bool a => some (.bool (!a), []) | _ => none
  | .unOp .neg _ x => match e x with | .int k n => some (.int k (k.wrap (0 - n)), []) | _ => none
  | .convert s d x =>
    match e x, intB P d with
    | .int _ n, some k' => if (P.underlying s).isSome then some (.int k' (k'.wrap n), []) else none
    | _, _ => none
  | .extract x i => match e x with | .tup cs => (cs[i]?).map fun v => (v, []) | _ => none
  | .nilCheck x => match e x with
    | .ptr i o => some (.ptr i o, [])
    | .rptr cs => some (.rptr cs, [])
    | _ => none
  | .fieldAddr s x f =>
    match e x, fieldB P s f with
    | .ptr i o, some (off, k) => if k ≠ 0 then some (.ptr i (o + off), []) else none
    | .rptr cs, some (off, k) => if k ≠ 0 then some (.rptr (cs.drop off), []) else none
    | _, _ => none
  | .field s x f =>
    match e x, fieldC P s f with
    | .agg cs, some (off, _, false) => (cs[off]?).map fun v => (v, [])
    | .agg cs, some (off, k, true) => some (.agg ((cs.drop off).take k), [])
    | _, _ => none
  | .load t x =>
    match e x with
    | .ptr i o =>
      match hp[i]?, aggB P t, sizeB P t with
      | some ob, some false, _ => (ob.cells[o]?).map fun v => (v, [])
      | some ob, some true, some k => if o + k ≤ ob.cells.length then some (.agg ((ob.cells.drop o).take k), []) else none
      | _, _, _ => none
    | .rptr cs =>
      match aggB P t, sizeB P t with
      | some false, _ => (cs[0]?).map fun v => (v, [])
      | some true, some k => if k ≤ cs.length then some (.agg (cs.take k), []) else none
      | _, _ => none
    | _ => none
  | .call c =>
    match c.callee, c.args.toList, c.argTypes.toList with
    | .builtin .len, [x], [t] =>
      if (elemB P t).isSome then
        match e x with
        | .lst _ n _ => some (.int .i64 n, [])
        | .ref i => match hp[i]? with | some (.list _ _ n _) => some (.int .i64 n, []) | _ => none
        | .nil => some (.int .i64 0, [])
        | _ => none
      else none
    | .builtin .cap, [x], [t] => if (elemB P t).isSome then (match e x with | .nil => some (.int .i64 0, []) | _ => none) else none
    | .builtin .max, [x, y], _ => match e x, e y with
      | .int k m, .int k' n => if k = k' then some (.int k (if n > m then n else m), []) else none
      | _, _ => none
    | .builtin .min, [x, y], _ => match e x, e y with
      | .int k m, .int k' n => if k = k' then some (.int k (if n < m then n else m), []) else none
      | _, _ => none
    | _, _, _ => none
  | .slice t x none (some hi) none => match e x, e hi with
    | .nil, .int _ (.ofNat 0) => if (elemB P t).isSome then some (.nil, []) else none
    | _, _ => none
  | .alloc t => (zeroB P t).map fun cs => (.ptr hp.length 0, [.box t cs])
  | .box t x => if (e x).full then some (.ptr hp.length 0, [.box t (e x).cells]) else none
  | .makeFunc (.func f) first caps => match first.toList with | [] => some (.fn f (caps.toList.map e), []) | _ => none
  | .build t parts =>
    match placesB P t, zeroB P t with
    | some pl, some zs => (fillA (pl[·]?) zs (parts.toList.map fun x => (x.1, e x.2))).map fun cs => (.agg cs, [])
    | _, _ => none
  | .buildSlice t n parts =>
    match rowB P t with
    | some (el, s, zs, _) =>
      if n * s ≤ 16777216 then
        match fillA (fun i => some (i * s, s)) (zerosA zs s n) (parts.toList.map fun x => (x.1, e x.2)) with
        | some cs => if leafyL cs then some (.ref hp.length, [.list el s n cs]) else none
        | none => none
      else none
    | _ => none
  | .indexAddr t x y =>
    match e x, e y, elemB P t with
    | .lst s n cs, .int _ j, some (_, s') => if s' = s ∧ s ≠ 0 ∧ 0 ≤ j ∧ j < n then some (.rptr (cs.drop (j.toNat * s)), []) else none
    | .ref i, .int _ j, some (el', s') => match hp[i]? with | some (.list el s n _) => if el' = el ∧ s' = s ∧ s ≠ 0 ∧ 0 ≤ j ∧ j < n then some (.ptr i (j.toNat * s), []) else none | _ => none
    | _, _, _ => none
  | .makeSlice t x y =>
    match rowB P t, e x, e y with
    | some (el, s, zs, b), .int _ (.ofNat n), .int _ (.ofNat n') => if n' = n ∧ b * n ≤ 140737488355328 ∧ n ≤ maxLen then some (.ref hp.length, [.list el s n (zerosA zs s n)]) else none
    | _, _, _ => none
  | _ => none

/-- A store without a premise. -/
def storeE (P : Program) (e : Operand → AV) (hp : List AObj) (op : Op) : Option (List AObj) :=
  match op with
  | .store t p x =>
    match e p with
    | .ptr i o =>
      match hp[i]?, sizeB P t with
      | some ob, some 1 => if (e x).one && decide (o < ob.cells.length) && (!ob.flat || (e x).leafy) then some (hp.set i (ob.withCells (ob.cells.set o (e x)))) else none
      | some ob, some k =>
        match e x with
        | .agg cs => if cs.length = k ∧ cs.all AV.one ∧ o + cs.length ≤ ob.cells.length ∧ (!cs.isEmpty) = true ∧ (!ob.flat || leafyL cs) = true then some (hp.set i (ob.withCells (setMany ob.cells o cs))) else none
        | _ => none
      | _, _ => none
    | _ => none
  | _ => none

def stepE (P : Program) (ops : Array Oper) (o : Oper) (st : St) : Option St :=
  match wantedE ops o st.fr with
  | some true =>
    match effE P (ev st.fr) st.hp o.op with
    | some (v, news) => some ⟨putF st.fr o.dst v, st.hp ++ news⟩
    | none => (storeE P (ev st.fr) st.hp o.op).map fun hp' => ⟨putF st.fr o.dst .top, hp'⟩
  | some false => some ⟨putF st.fr o.dst (.tup []), st.hp⟩
  | none => none

theorem wantedE_false {ops : Array Oper} {o : Oper} {fr : List AV} (h : wantedE ops o fr = some false) : ∃ j w, o.guard = some (j, w) ∧ noA ops fr j w = true := by
  unfold wantedE at h
  split at h
  · cases h
  · rename_i j w hg
    refine ⟨j, w, hg, ?_⟩
    split at h
    · rename_i b hy
      simp only [Option.some.injEq, beq_eq_false_iff_ne] at h
      unfold yieldA at hy
      unfold noA
      split at hy
      · rename_i heq
        cases hy
        rw [heq]
        simpa using h
      · cases hy
    · split at h
      · assumption
      · cases h

def runE (P : Program) (ops : Array Oper) : List Oper → St → Option St
  | [], st => some st
  | o :: l, st => (stepE P ops o st).bind (runE P ops l)

theorem effE_sound {P : Program} {e : Operand → AV} {hp : List AObj} {op : Op} {v : AV} {news : List AObj} (h : effE P e hp op = some (v, news)) : EffR P e hp op v news := by
  unfold effE at h
  split at h
  · cases h; exact .move
  · cases h; exact .assign
  · split at h
    · rename_i t hc; cases h; exact .pick t hc
    · cases h
  · split at h
    · rename_i k m k' n hx hy
      split at h
      · rename_i hc; cases h; obtain ⟨rfl, hn⟩ := hc; exact .quo k m n hx hy hn
      · cases h
    · rename_i k m k' n hx hy
      split at h
      · rename_i hc; cases h; obtain ⟨rfl, hn⟩ := hc; exact .rem k m n hx hy hn
      · cases h
    · rename_i k m k' n hx hy
      split at h
      · rename_i hc; cases h; exact .shl k k' m n hx hy hc
      · cases h
    · rename_i k m k' n hx hy
      split at h
      · rename_i hc; cases h; exact .shr k k' m n hx hy hc
      · cases h
    · rename_i k m k' n _ _ _ _ hx hy
      split at h
      · rename_i hc
        subst hc
        simp only [Option.map_eq_some_iff, Prod.mk.injEq] at h
        obtain ⟨v', hv, rfl, rfl⟩ := h
        exact .bin k m n hx hy hv
      · cases h
    · rename_i a b hx hy
      split at h
      · rename_i ht; cases h; exact .eqlB a b hx hy ht
      · cases h
    · rename_i a b hx hy
      split at h
      · rename_i ht; cases h; exact .neqB a b hx hy ht
      · cases h
    · cases h
  · split at h
    · rename_i a hx; cases h; exact .not a hx
    · cases h
  · split at h
    · rename_i k n hx; cases h; exact .neg k n hx
    · cases h
  · split at h
    · rename_i k n k' hx hd
      split at h
      · rename_i hs; cases h; exact .conv k k' n hx hs hd
      · cases h
    · cases h
  · split at h
    · rename_i cs hx
      simp only [Option.map_eq_some_iff, Prod.mk.injEq] at h
      obtain ⟨v', hv, rfl, rfl⟩ := h
      exact .extract cs hx hv
    · cases h
  · split at h
    · rename_i i o hx; cases h; exact .nilP i o hx
    · rename_i cs hx; cases h; exact .nilR cs hx
    · cases h
  · split at h
    · rename_i i o off k hx hf
      split at h
      · rename_i hk; cases h; exact .fieldAddr i o off k hx hf hk
      · cases h
    · rename_i cs off k hx hf
      split at h
      · rename_i hk; cases h; exact .fieldAddrR cs off k hx hf hk
      · cases h
    · cases h
  · split at h
    · rename_i cs off k hx hf
      simp only [Option.map_eq_some_iff, Prod.mk.injEq] at h
      obtain ⟨v', hv, rfl, rfl⟩ := h
      exact .field1 cs off k hx hf hv
    · rename_i cs off k hx hf
      cases h
      exact .fieldN cs off k hx hf
    · cases h
  · split at h
    · rename_i i o hx
      split at h
      · rename_i ob hi ht
        simp only [Option.map_eq_some_iff, Prod.mk.injEq] at h
        obtain ⟨v', hv, rfl, rfl⟩ := h
        exact .load i o ob hx hi ht hv
      · rename_i ob k hi ht hk
        split at h
        · rename_i hl; cases h; exact .loadN i o k ob hx hi ht hk hl
        · cases h
      · cases h
    · rename_i cs hx
      split at h
      · rename_i ht
        simp only [Option.map_eq_some_iff, Prod.mk.injEq] at h
        obtain ⟨v', hv, rfl, rfl⟩ := h
        exact .loadR cs hx ht hv
      · rename_i k ht hk
        split at h
        · rename_i hl; cases h; exact .loadRN cs k hx ht hk hl
        · cases h
      · cases h
    · cases h
  · rename_i c
    obtain ⟨callee, args, tys⟩ := c
    split at h
    · rename_i x t h1 h2 h3
      simp only at h1 h2 h3
      subst h1
      obtain rfl : args = #[x] := Array.toList_inj.1 (by simpa using h2)
      obtain rfl : tys = #[t] := Array.toList_inj.1 (by simpa using h3)
      split at h
      · rename_i ht
        split at h
        · rename_i s n cs hx; cases h; exact .lenR s n cs hx ht
        · rename_i i hx
          split at h
          · rename_i el s n cs hi; cases h; exact .lenO i el s n cs hx hi ht
          · cases h
        · rename_i hx; cases h; exact .lenN hx ht
        · cases h
      · cases h
    · rename_i x t h1 h2 h3
      simp only at h1 h2 h3
      subst h1
      obtain rfl : args = #[x] := Array.toList_inj.1 (by simpa using h2)
      obtain rfl : tys = #[t] := Array.toList_inj.1 (by simpa using h3)
      split at h
      · rename_i ht
        split at h
        · rename_i hx; cases h; exact .capN hx ht
        · cases h
      · cases h
    · rename_i x y h1 h2
      simp only at h1 h2
      subst h1
      obtain rfl : args = #[x, y] := Array.toList_inj.1 (by simpa using h2)
      split at h
      · rename_i k m k' n hx hy
        split at h
        · rename_i hk; cases h; subst hk; exact .max2 k m n hx hy
        · cases h
      · cases h
    · rename_i x y h1 h2
      simp only at h1 h2
      subst h1
      obtain rfl : args = #[x, y] := Array.toList_inj.1 (by simpa using h2)
      split at h
      · rename_i k m k' n hx hy
        split at h
        · rename_i hk; cases h; subst hk; exact .min2 k m n hx hy
        · cases h
      · cases h
    · cases h
  · split at h
    · rename_i k hx hh
      split at h
      · rename_i ht; cases h; exact .sliceN k hx hh ht
      · cases h
    · cases h
  · simp only [Option.map_eq_some_iff, Prod.mk.injEq] at h
    obtain ⟨cs, hz, rfl, rfl⟩ := h
    exact .alloc cs hz
  · split at h
    · rename_i hx; cases h; exact .box hx
    · cases h
  · split at h
    · rename_i f first caps _ h1
      obtain rfl : first = #[] := Array.toList_inj.1 (by simpa using h1)
      cases h; exact .makeFunc
    · cases h
  · split at h
    · rename_i pl zs hp' hz
      simp only [Option.map_eq_some_iff, Prod.mk.injEq] at h
      obtain ⟨cs, hf, rfl, rfl⟩ := h
      exact .build pl zs cs hp' hz hf
    · cases h
  · split at h
    · rename_i el s zs b ht
      split at h
      · rename_i hn
        split at h
        · rename_i cs hf
          split at h
          · rename_i hlf
            cases h
            exact .buildSlice el s b zs cs ht hn hf hlf
          · cases h
        · cases h
      · cases h
    · cases h
  · split at h
    · rename_i s n cs k j el s' hx hy ht
      split at h
      · rename_i hc
        obtain ⟨rfl, h1, h2, h3⟩ := hc
        cases h
        exact .indexAddr s' n cs k j el hx hy ht h1 h2 h3
      · cases h
    · rename_i i k j el' s' hx hy ht
      split at h
      · rename_i el s n cs hi
        split at h
        · rename_i hc
          obtain ⟨rfl, rfl, h1, h2, h3⟩ := hc
          cases h
          exact .indexAddrO i el' s' n cs k j hx hi hy ht h1 h2 h3
        · cases h
      · cases h
    · cases h
  · split at h
    · rename_i el s zs b k n k' n' ht hx hy
      split at h
      · rename_i hc
        obtain ⟨rfl, h1, h2⟩ := hc
        cases h
        exact .makeSlice el s b n' k k' zs ht hx hy h1 h2
      · cases h
    · cases h
  · cases h

theorem storeE_sound {P : Program} {e : Operand → AV} {hp hp' : List AObj} {op : Op} (h : storeE P e hp op = some hp') : EffW P e hp op .top none hp' := by
  unfold storeE at h
  split at h
  · split at h
    · rename_i i o hx
      split at h
      · rename_i ob hi hs
        split at h
        · rename_i hc
          simp only [Bool.and_eq_true, decide_eq_true_eq] at hc
          cases h
          exact .store1 i o ob hx hi hs hc.1.1 hc.1.2 hc.2
        · cases h
      · rename_i ob k _ hi hs
        split at h
        · rename_i cs hcs
          split at h
          · rename_i hc
            obtain ⟨rfl, h1, h2, h3, h4⟩ := hc
            cases h
            exact .storeN i o ob cs hx hcs hi hs (by simpa using h1) h2 (by simpa using h3) h4
          · cases h
        · cases h
      · cases h
    · cases h
  · cases h

theorem wantedE_true {ops : Array Oper} {o : Oper} {fr : List AV} (h : wantedE ops o fr = some true) : WantedA ops o fr := by
  unfold wantedE at h
  split at h
  · rename_i hg; exact .inl hg
  · rename_i j w hg
    split at h
    · rename_i b hy
      simp only [Option.some.injEq, beq_iff_eq] at h
      subst h
      exact .inr ⟨j, b, hg, hy⟩
    · split at h <;> cases h

theorem stepE_sound {P : Program} {ops : Array Oper} {o : Oper} {st st' : St} (h : stepE P ops o st = some st') : StepR P ops o st st' := by
  unfold stepE at h
  split at h
  · rename_i hw
    split at h
    · rename_i v news he
      cases h
      exact .eff (wantedE_true hw) (effE_sound he)
    · simp only [Option.map_eq_some_iff] at h
      obtain ⟨hp', hs, rfl⟩ := h
      exact .write (kl := none) (wantedE_true hw) (storeE_sound hs)
  · rename_i hw
    cases h
    obtain ⟨j, w, h1, h2⟩ := wantedE_false hw
    exact .skip j w h1 h2
  · cases h

theorem runE_sound {P : Program} {ops : Array Oper} : ∀ {l : List Oper} {st st' : St} {rest : List Oper} {st2 : St}, runE P ops l st = some st' → OpsR P ops rest st' st2 → OpsR P ops (l ++ rest) st st2
  | [], st, st', rest, st2, h, h' => by simp only [runE, Option.some.injEq] at h; subst h; exact h'
  | o :: l, st, st', rest, st2, h, h' => by
    simp only [runE, Option.bind_eq_some_iff] at h
    obtain ⟨st1, h1, h2⟩ := h
    exact .cons (stepE_sound h1) (runE_sound h2 h')

/-- A whole region without premises. -/
theorem RunA.regionE {rd : Option Nat} {P : Program} {id : Nat} {l : List Oper} {st st' : St} {Q : Exit → St → Prop} (h : runE P l.toArray l st = some st') (hQ : Q .normal st') : RunA rd P (.region id l.toArray false) st Q :=
  RunA.region (by have := runE_sound (rest := []) h .nil; simpa using this) hQ

end Go.Abs
