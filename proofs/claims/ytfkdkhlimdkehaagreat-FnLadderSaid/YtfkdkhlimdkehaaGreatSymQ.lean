/- The machine's rules: calls, loops, ends; rows that are written no more. -/
import Derived.Test.YtfkdkhlimdkehaaGreatSymP
namespace Go.Abs
open Go.RowKit

mutual
theorem snapA_sound {hp : List AObj} : ∀ {c c' : AV}, snapA hp c = some c' → Snap hp c c'
  | .ref i, c', h => by
    simp only [snapA] at h
    split at h
    · rename_i hi; cases h; exact .ref hi
    · cases h
  | .ptr i o, c', h => by
    simp only [snapA] at h
    split at h
    · rename_i t cs hi
      split at h
      · rename_i cs' hs
        cases h
        exact .ptr hi (snapB_sound hs)
      · cases h
    · cases h
  | .agg cs, c', h => by
    simp only [snapA] at h
    split at h
    · rename_i hs; cases h; exact .agg (snapL_sound hs)
    · cases h
  | .fn f cs, c', h => by
    simp only [snapA] at h
    split at h
    · rename_i hs; cases h; exact .fn (snapL_sound hs)
    · cases h
  | .int _ _, c', h => by simp only [snapA] at h; split at h <;> cases h; exact .leaf rfl
  | .bool _, c', h => by simp only [snapA] at h; split at h <;> cases h; exact .leaf rfl
  | .str _, c', h => by simp only [snapA] at h; split at h <;> cases h; exact .leaf rfl
  | .nil, c', h => by simp only [snapA] at h; split at h <;> cases h; exact .leaf rfl
  | .lst _ _ _, c', h => by simp only [snapA] at h; split at h <;> cases h; exact .leaf rfl
  | .clp _ _ _, c', h => by simp only [snapA] at h; split at h <;> cases h; exact .leaf rfl
  | .rptr _, c', h => by simp only [snapA] at h; split at h <;> cases h; exact .leaf rfl
  | .top, c', h => by simp only [snapA] at h; split at h <;> cases h; exact .leaf rfl
  | .tup cs, c', h => by
    simp only [snapA] at h
    split at h
    · rename_i hl; simp [AV.leafy] at hl
    · cases h
  | .own _ _ _ _, c', h => by
    simp only [snapA] at h
    split at h
    · rename_i hl; simp [AV.leafy] at hl
    · cases h
theorem snapL_sound {hp : List AObj} : ∀ {cs cs' : List AV}, snapL hp cs = some cs' → SnapL hp cs cs'
  | [], cs', h => by simp only [snapL, Option.some.injEq] at h; subst h; exact .nil
  | c :: cs, cs', h => by
    simp only [snapL] at h
    split at h
    · rename_i h1 h2; cases h; exact .cons (snapA_sound h1) (snapL_sound h2)
    · cases h
theorem snapB_sound {hp : List AObj} : ∀ {cs cs' : List AV}, snapB hp cs = some cs' → SnapL hp cs cs'
  | [], cs', h => by simp only [snapB, Option.some.injEq] at h; subst h; exact .nil
  | c :: cs, cs', h => by
    simp only [snapB] at h
    split at h
    · rename_i d ds h1 h2
      cases h
      refine .cons ?_ (snapB_sound h2)
      split at h1
      · split at h1
        · rename_i hi; cases h1; exact .ref hi
        · cases h1
      · split at h1
        · rename_i hl; cases h1; exact .leaf hl
        · cases h1; exact .top
    · cases h
end

section
variable {rd : Option Nat} {P : Program} {m : M} {Q : Exit → St → Prop} {α : Type}

/-! ### Calls -/
def clAt (m : M) : Option (FuncId × List AV × Bool) :=
  match opM m with
  | some (.call c) => match c.callee with
    | .value f => match ev m.st.fr f with
      | .fn g caps =>
        if leafyL (c.args.toList.map (ev m.st.fr) ++ caps) then some (g, c.args.toList.map (ev m.st.fr) ++ caps, true)
        else match snapL m.st.hp (c.args.toList.map (ev m.st.fr) ++ caps) with
          | some avs => some (g, avs, false)
          | none => none
      | _ => none
    | _ => none
  | _ => none

theorem clAt_callR {f : FuncId} {avs : List AV} {p : Bool} {res : AV} (h : clAt m = some (f, avs, p)) (hc : CallA P f avs res) (hr : (p || res.closed) = true) :
    ∃ op, opM m = some op ∧ CallR P (ev m.st.fr) m.st.hp op (imp m.st.hp.length res).1 (imp m.st.hp.length res).2 := by
  unfold clAt at h
  split at h
  · rename_i c hop
    obtain ⟨callee, args, tys⟩ := c
    simp only at h
    split at h
    · rename_i fo
      split at h
      · rename_i g caps hf
        split at h
        · rename_i hl
          cases h
          exact ⟨_, hop, .pure f caps res hf hl hc⟩
        · split at h
          · rename_i avs' hs
            cases h
            exact ⟨_, hop, .snap f caps avs res hf (snapL_sound hs) hc (by simpa using hr)⟩
          · cases h
      · cases h
    · cases h
  · cases h

theorem R.call (p : Bool) {f : FuncId} {avs : List AV} {res : AV} (hc : CallA P f avs res) (h : clAt m = some (f, avs, p)) (hr : (p || res.closed) = true) (ht : quietOk m (imp m.st.hp.length res).2 = true)
    (h' : Runs rd P (putM m none (imp m.st.hp.length res).1 (m.st.hp ++ (imp m.st.hp.length res).2)) Q) : Runs rd P m Q := by
  obtain ⟨op, hop, h1⟩ := clAt_callR h hc hr
  exact R.effM hop (.inr h1) ht h'

/-- A literal slice that is only read from now on. -/
def litAt (P : Program) (m : M) : Option (Nat × Nat × List AV) :=
  match opM m with
  | some (.buildSlice t n parts) => match rowB P t with
    | some (_, s, zs, _) => match fillA (fun i => some (i * s, s)) (zerosA zs s n) (parts.toList.map fun x => (x.1, ev m.st.fr x.2)) with
      | some cs => if decide (n * s ≤ 16777216) && leafyL cs then some (s, n, cs) else none
      | none => none
    | none => none
  | _ => none

theorem R.lit {s n : Nat} {cs : List AV} (h : litAt P m = some (s, n, cs)) (ht : quietOk m [] = true) (h' : Runs rd P (putM m none (.lst s n cs) m.st.hp) Q) : Runs rd P m Q := by
  unfold litAt at h
  split at h
  · rename_i t n' parts hop
    split at h
    · rename_i el s' zs b hrow
      split at h
      · rename_i cs' hfill
        split at h
        · rename_i hc
          simp only [Bool.and_eq_true, decide_eq_true_eq] at hc
          cases h
          exact R.effM hop (.inr (.lit el _ b zs _ hrow hc.1 hfill hc.2)) ht (by rw [List.append_nil]; exact h')
        · cases h
      · cases h
    · cases h
  · cases h

/-- The head's call, as it is. -/
def csAt (m : M) : Option (FuncId × List AV) :=
  match opM m with
  | some (.call c) => match c.callee with
    | .value f => match ev m.st.fr f with
      | .fn g caps => if noMark m.st.hp then some (g, c.args.toList.map (ev m.st.fr) ++ caps) else none
      | _ => none
    | _ => none
  | _ => none

theorem csAt_mark {f : FuncId} {avs : List AV} (h : csAt m = some (f, avs)) : noMark m.st.hp = true := by
  unfold csAt at h
  split at h
  · split at h
    · split at h
      · split at h
        · assumption
        · cases h
      · cases h
    · cases h
  · cases h

theorem csAt_parts {f : FuncId} {avs : List AV} (h : csAt m = some (f, avs)) : ∃ fo args tys caps, opM m = some (.call { callee := .value fo, args := args, argTypes := tys }) ∧ ev m.st.fr fo = .fn f caps ∧ avs = args.toList.map (ev m.st.fr) ++ caps := by
  unfold csAt at h
  split at h
  · rename_i c hop
    obtain ⟨callee, args, tys⟩ := c
    simp only at h
    split at h
    · rename_i fo
      split at h
      · rename_i g caps hf
        split at h
        · cases h
          exact ⟨fo, args, tys, caps, hop, hf, rfl⟩
        · cases h
      · cases h
    · cases h
  · cases h

theorem R.callS {f : FuncId} {avs : List AV} {hp : List AObj} {res : AV} {hp' : List AObj} (hc : CallS P f avs hp res hp') (h : csAt m = some (f, avs)) (hh : m.st.hp = hp) (ht : writeOk m = true) (h' : Runs rd P (putM m none res hp') Q) : Runs rd P m Q := by
  have hnm := csAt_mark h
  obtain ⟨fo, args, tys, caps, hop, hf, rfl⟩ := csAt_parts h
  subst hh
  obtain ⟨ks, ⟨fr, hp⟩⟩ := m
  unfold opM headOf at hop
  unfold writeOk headOf at ht
  unfold putM at h'
  simp only [runs_iff] at h' ⊢
  try simp only at hop ht h' hf hc hnm ⊢
  split at hop
  · rename_i all o fl t heq
    split at hop
    · rename_i hw
      simp only [Option.some.injEq] at hop
      have key : WantedA all o fr → StepR P all o ⟨fr, hp⟩ ⟨putF fr o.dst res, hp'⟩ := fun hw => .callS hnm hw f caps res hp' hop hf hc
      split at heq
      · cases heq
        intro hW
        exact OpsQ.cons (key (wantH_true hw hW)) (h' headW_false)
      · rename_i t' _ _ ks'
        cases heq
        intro hW
        obtain ⟨st2, h1, h2⟩ := h' headW_false
        refine ⟨st2, .cons (st1 := ⟨putF fr o.dst res, hp'⟩) ?_ h1, h2⟩
        match t', ht with
        | 2, _ => exact .write (key (wantH_true hw hW))
        | 0, ht => simp at ht
        | 1, ht => simp at ht
        | n + 3, ht => simp at ht
      · cases heq
    · cases hop
  · cases hop

/-! ### Loops -/
/-- Slots that are kept, objects that are kept (none: all, with their numbers). -/
def canon (ks : List Nat) (js : Option (List Nat)) (st : St) : St :=
  match js with
  | some js => renS js ⟨keepF ks st.fr, st.hp⟩
  | none => ⟨keepF ks st.fr, st.hp⟩

def nodupO (js : Option (List Nat)) (hp : List AObj) : Bool :=
  match js with
  | some js => decide js.Nodup && noMark hp
  | none => true

theorem Sub.canon (ks : List Nat) (js : Option (List Nat)) (st : St) (hn : nodupO js st.hp = true) : Sub st (canon ks js st) := by
  cases js with
  | none => exact Sub.keep ks st
  | some js =>
    simp only [nodupO, Bool.and_eq_true, decide_eq_true_eq] at hn
    exact Sub.trans (Sub.keep ks st) (Sub.ren js _ hn.1 hn.2)

def lpAt (m : M) : Bool :=
  match m.ks with
  | .code (.loop _) :: _ => true
  | _ => false

/-- One round, then R. -/
def bodyM (R : St → Prop) (st : St) (m : M) : M :=
  match m.ks with
  | .code (.loop c) :: ks => ⟨.code c :: .stop R :: ks, st⟩
  | _ => m

/-- What ends a round: a state of the family with less to go. -/
def Next {α : Type} (S : α → St) (I : α → Prop) (μ : α → Nat) (a : α) (R : St → Prop) : Prop := ∀ (a' : α) (ks : List Nat) (js : Option (List Nat)) (st' : St), nodupO js st'.hp = true → canon ks js st' = S a' → I a' → μ a' < μ a → R st'

theorem R.loop (S : α → St) (I : α → Prop) (μ : α → Nat) (a0 : α) (ks : List Nat) (js : Option (List Nat)) (hl : lpAt m = true) (hn : nodupO js m.st.hp = true) (hs : canon ks js m.st = S a0) (h0 : I a0)
    (round : ∀ a, I a → ∀ R : St → Prop, Next S I μ a R → Runs rd P (bodyM R (S a) m) Q) : Runs rd P m Q := by
  obtain ⟨k, st⟩ := m
  unfold lpAt at hl
  simp only at hl hs
  split at hl
  · rename_i c ks'
    rw [runs_iff]
    simp only [RunsK]
    refine RunA.sub (Sub.canon ks js st hn) ?_
    rw [hs]
    refine RunA.loop (fun n st => ∃ a, I a ∧ μ a = n ∧ st = S a) (μ a0) ⟨a0, h0, rfl, rfl⟩ ?_
    rintro n st ⟨a, hI, rfl, rfl⟩
    have h1 := round a hI (fun st' => ∃ st'', Sub st' st'' ∧ ∃ n', n' < μ a ∧ ∃ a', I a' ∧ μ a' = n' ∧ st'' = S a') (fun a' ks js st' hn he hI' hlt => ⟨_, Sub.canon ks js st' hn, _, hlt, a', hI', rfl, he⟩)
    simp only [runs_iff, bodyM] at h1
    simp only [RunsK] at h1
    refine h1.mono fun e st' hq => ?_
    cases e <;> exact hq
  · cases hl

def spAt (m : M) : Option (St → Prop) :=
  match m.ks with
  | .stop R :: _ => some R
  | _ => none

theorem R.stop (R : St → Prop) (h : spAt m = some R) (h' : R m.st) : Runs rd P m Q := by
  obtain ⟨ks, st⟩ := m
  unfold spAt at h
  rw [runs_iff]
  simp only at h h' ⊢
  split at h
  · cases h; exact h'
  · cases h

/-! ### Ends -/
theorem runsK_ret : ∀ (ks : List Kont) (st : St), Q .ret st → RunsK rd P Q ks .ret st
  | [], _, h => h
  | .code _ :: ks, st, h => runsK_ret ks st h
  | .ops _ _ _ :: ks, st, h => runsK_ret ks st h
  | .drw _ _ _ _ :: ks, st, h => runsK_ret ks st h
  | .block _ :: ks, st, h => runsK_ret ks st h
  | .stop _ :: ks, st, h => runsK_ret ks st h
  | .any _ _ _ :: ks, st, h => runsK_ret ks st h

def edAt (m : M) : Option Exit :=
  match m.ks with
  | [] => some .normal
  | .code .ret :: _ => some .ret
  | _ => none

theorem R.fin (h : (edAt m).isSome = true) (h1 : Q .normal m.st) (h2 : Q .ret m.st) : Runs rd P m Q := by
  obtain ⟨ks, st⟩ := m
  unfold edAt at h
  rw [runs_iff]
  simp only at h h1 h2 ⊢
  split at h
  · exact h1
  · exact RunA.ret (runsK_ret _ _ h2)
  · cases h

/-- How a function's body ends that hands back res. -/
def retQ (P : Program) (fn : Func) (res : AV) : Exit → St → Prop := fun e st' => match e with | .normal => Returns P fn st' res | .ret => Returns P fn st' res | _ => False

theorem R.ret {fn : Func} {res : AV} (h : (edAt m).isSome = true) (hr : resOf P fn m.st = some res) : Runs rd P m (retQ P fn res) := R.fin h hr hr

theorem R.retE {fn : Func} {res : AV} (res' : AV) (h : (edAt m).isSome = true) (hr : resOf P fn m.st = some res') (he : res' = res) : Runs rd P m (retQ P fn res) := he ▸ R.ret h hr

def frameOf (n : Nat) (args : List AV) : List AV := args ++ List.replicate (n - args.length) .top

theorem CallA.of {f : FuncId} {fn : Func} {c : Code} {args : List AV} {res : AV} (hf : P.funcs[f]? = some fn) (hb : fn.body = some c) (hnm : (fn.name == "runtime.NumGoroutine") = false) (h : Runs none P ⟨[.code c], ⟨frameOf fn.ntmps args, []⟩⟩ (retQ P fn res)) : CallA P f args res :=
  callA_of_run hf hb hnm h.out

/-! ### The state told otherwise -/
def subOk (m : M) : Bool :=
  match m.ks with
  | .code _ :: _ => true
  | .ops _ _ false :: _ => true
  | _ => false

theorem R.sub (st' : St) (h : subOk m = true) (hs : Sub m.st st') (h' : Runs rd P ⟨m.ks, st'⟩ Q) : Runs rd P m Q := by
  obtain ⟨ks, st⟩ := m
  unfold subOk at h
  simp only [runs_iff] at h' ⊢
  try simp only at h hs h' ⊢
  split at h
  · exact RunA.sub hs h'
  · intro _ Z0 w0 a w hS
    exact h' headW_false Z0 w0 a w (hs Z0 w0 a w hS)
  · cases h

/-- The state, spelled otherwise. -/
theorem R.cast (st' : St) (h : m.st = st') (h' : Runs rd P ⟨m.ks, st'⟩ Q) : Runs rd P m Q := by
  subst h; exact h'

end

/-! ### Rows that are written no more -/
mutual
def frzV (i : Nat) (r : AV) : AV → AV
  | .ref j => if j = i then r else .ref j
  | .ptr j o => if j = i then .top else .ptr j o
  | .lst s n cs => .lst s n cs
  | .clp s n cs => .clp s n cs
  | .rptr cs => .rptr cs
  | .agg cs => .agg (frzL i r cs)
  | .tup cs => .tup (frzL i r cs)
  | .fn f cs => .fn f (frzL i r cs)
  | .int k n => .int k n
  | .bool b => .bool b
  | .str s => .str s
  | .nil => .nil
  | .own e s n cs => .own e s n cs
  | .top => .top
def frzL (i : Nat) (r : AV) : List AV → List AV
  | [] => []
  | c :: cs => frzV i r c :: frzL i r cs
end

def AObj.frz (i : Nat) (r : AV) : AObj → AObj
  | .box t cs => .box t (frzL i r cs)
  | .list e s n cs => .list e s n cs
  | .dead => .dead
  | .frame us cs => .frame us (frzL i r cs)
  | .inert x => .inert x

def frzS (i : Nat) (r : AV) (st : St) : St := ⟨frzL i r st.fr, (st.hp.map (AObj.frz i r)).set i .dead⟩

mutual
theorem Rel.frz {w : World} {Z Z' : Nat → Prop} {μ : List Value} (i : Nat) (r : AV) (u : Value) (hz : ∀ b, b < w.heap.size → ¬ Z b → ¬ Z' b) (hu : μ[i]? = some u) (hr : Rel w Z' μ r u) : ∀ {c : AV} {v : Value}, Rel w Z μ c v → Rel w Z' μ (frzV i r c) v
  | .int _ _, _, h => by simpa [Rel, frzV] using h
  | .bool _, _, h => by simpa [Rel, frzV] using h
  | .str _, _, h => by simpa [Rel, frzV] using h
  | .nil, _, h => by simpa [Rel, frzV] using h
  | .top, _, _ => by simp [Rel, frzV]
  | .own _ _ _ _, _, h => by simp [Rel] at h
  | .lst s n cs, v, h => Rel.weak (c := .lst s n cs) hz h
  | .clp s n cs, v, h => Rel.weak (c := .clp s n cs) hz h
  | .rptr cs, v, h => Rel.weak (c := .rptr cs) hz h
  | .ref j, v, h => by
    simp only [frzV]
    split
    · rename_i hj
      simp only [Rel] at h
      rw [hj, hu] at h
      cases h
      exact hr
    · simpa [Rel] using h
  | .ptr j o, v, h => by
    simp only [frzV]
    split
    · simp [Rel]
    · simpa [Rel] using h
  | .agg cs, v, h => by
    simp only [Rel, frzV] at h ⊢
    obtain ⟨xs, h1, h2⟩ := h
    exact ⟨xs, h1, RelL.frz i r u hz hu hr h2⟩
  | .tup cs, v, h => by
    simp only [Rel, frzV] at h ⊢
    obtain ⟨xs, h1, h2⟩ := h
    exact ⟨xs, h1, RelL.frz i r u hz hu hr h2⟩
  | .fn f cs, v, h => by
    simp only [Rel, frzV] at h ⊢
    obtain ⟨xs, h1, h2⟩ := h
    exact ⟨xs, h1, RelL.frz i r u hz hu hr h2⟩
theorem RelL.frz {w : World} {Z Z' : Nat → Prop} {μ : List Value} (i : Nat) (r : AV) (u : Value) (hz : ∀ b, b < w.heap.size → ¬ Z b → ¬ Z' b) (hu : μ[i]? = some u) (hr : Rel w Z' μ r u) : ∀ {cs : List AV} {vs : List Value}, RelL w Z μ cs vs → RelL w Z' μ (frzL i r cs) vs
  | [], _, h => by simpa [RelL, frzL] using h
  | c :: cs, _, h => by
    simp only [RelL, frzL] at h ⊢
    obtain ⟨x, xs, h1, h2, h3⟩ := h
    exact ⟨x, xs, h1, Rel.frz i r u hz hu hr h2, RelL.frz i r u hz hu hr h3⟩
end

theorem AObj.frz_alive (i : Nat) (r : AV) (o : AObj) : (o.frz i r).alive = o.alive := by cases o <;> rfl

theorem Sub.frz (i e s n : Nat) (cs : List AV) (st : St) (hi : st.hp[i]? = some (.list e s n cs)) : Sub st (frzS i (.lst s n cs) st) := by
  rintro Z0 w0 a w ⟨μ, F, hFb, hH, hF, hd, hb⟩
  have hil : i < μ.length := by rw [hH.len]; exact (List.getElem?_eq_some_iff.1 hi).1
  obtain ⟨u, hu⟩ : ∃ u, μ[i]? = some u := ⟨_, List.getElem?_eq_getElem hil⟩
  obtain ⟨xs, hown, hx⟩ := hH.obj i _ u hi hu
  have hz : ∀ b, b < w.heap.size → ¬ Zone Z0 F w0.heap.size b → ¬ Zone Z0 (fun b => F b ∨ blk u = some b) w0.heap.size b := fun b _ h => zone_more b h
  have hr : Rel w (Zone Z0 (fun b => F b ∨ blk u = some b) w0.heap.size) μ (.lst s n cs) u := own_lst hown hx hz (fun g hg hzz => hzz.elim (fun h => by
    have := ((hH.obj i _ u hi hu).blk_ge rfl hg).1
    omega) (fun h => h.2 (.inr hg)))
  refine ⟨μ, fun b => F b ∨ blk u = some b, fun b h => h.elim (hFb b) (fun h => (hH.obj i _ u hi hu).blk_ge rfl h), ?_, RelL.frz i _ u hz hu hr hF, hd.keep (fun j x hj => ⟨?_, fun u hu => hu⟩), hb⟩
  rotate_left
  · have hne : i ≠ j := by
      rintro rfl
      rw [hi] at hj
      cases hj
    show ((st.hp.map (AObj.frz i (.lst s n cs))).set i .dead)[j]? = _
    rw [List.getElem?_set_ne hne, List.getElem?_map, hj]
    rfl
  have get : ∀ (j : Nat) o, ((st.hp.map (AObj.frz i (.lst s n cs))).set i .dead)[j]? = some o → o = .dead ∨ (j ≠ i ∧ ∃ o', st.hp[j]? = some o' ∧ o = o'.frz i (.lst s n cs)) := by
    intro j o ho
    by_cases hj : j = i
    · subst hj
      rw [List.getElem?_set_self (by simpa using (List.getElem?_eq_some_iff.1 hi).1)] at ho
      simp at ho
      exact .inl ho.symm
    · rw [List.getElem?_set_ne (Ne.symm hj), List.getElem?_map, Option.map_eq_some_iff] at ho
      obtain ⟨o', h1, rfl⟩ := ho
      exact .inr ⟨hj, o', h1, rfl⟩
  refine ⟨by simp [frzS, hH.len], fun j o v g h1 ha h2 hg => ?_, hH.one, fun j o v h1 h2 => ?_, fun j k oj ok uj uk g hne h1 h2 a1 a2 m1 m2 b1 b2 => ?_⟩
  · rcases get j o h1 with rfl | ⟨hj, o', ho, rfl⟩
    · cases ha
    · rw [AObj.frz_alive] at ha
      have h3 := hH.zone j o' v g ho ha h2 hg
      exact h3.elim .inl (fun h => .inr ⟨h.1, fun hf => hf.elim h.2 (fun h4 => hH.sep i j _ o' u v g (Ne.symm hj) hi ho rfl ha hu h2 h4 hg)⟩)
  · rcases get j o h1 with rfl | ⟨hj, o', ho, rfl⟩
    · trivial
    · have hO := hH.obj j o' v ho h2
      cases o' with
      | box t ds => obtain ⟨g, ys, e1, e2, e3, e4⟩ := hO; exact ⟨g, ys, e1, e2, e3, RelL.frz i _ u hz hu hr e4⟩
      | list e s n ds => obtain ⟨ys, e1, e2⟩ := hO; exact ⟨ys, e1, e2.weak hz⟩
      | dead => trivial
      | frame us ds => exact RelL.frz i _ u hz hu hr hO
      | inert x => exact InertRel.keep (fun b h1 h2 => ⟨rfl, hz b h1 h2⟩) hO
  · rcases get j oj h1 with rfl | ⟨hj, o1, ho1, rfl⟩
    · cases a1
    · rcases get k ok h2 with rfl | ⟨hk, o2, ho2, rfl⟩
      · cases a2
      · rw [AObj.frz_alive] at a1 a2
        exact hH.sep j k o1 o2 uj uk g hne ho1 ho2 a1 a2 m1 m2 b1 b2

def frzM (i : Nat) (m : M) : M :=
  match m.st.hp[i]? with
  | some (.list _ s n cs) => ⟨m.ks, frzS i (.lst s n cs) m.st⟩
  | _ => m

theorem R.frz {rd : Option Nat} {P : Program} {m : M} {Q : Exit → St → Prop} (i : Nat) (h : subOk m = true) (h' : Runs rd P (frzM i m) Q) : Runs rd P m Q := by
  unfold frzM at h'
  split at h'
  · rename_i e s n cs hi
    exact R.sub _ h (Sub.frz i e s n cs m.st hi) h'
  · exact h'

/-- The nil slice in slot t as a row of one's own. -/
def nilM (t el s : Nat) (m : M) : M :=
  match m.st.fr.getD t .top with
  | .nil => ⟨m.ks, ⟨m.st.fr.set t (.ref m.st.hp.length), m.st.hp ++ [.list el s 0 []]⟩⟩
  | _ => m

theorem R.nil {rd : Option Nat} {P : Program} {m : M} {Q : Exit → St → Prop} (t el s : Nat) (h : subOk m = true) (h' : Runs rd P (nilM t el s m) Q) : Runs rd P m Q := by
  unfold nilM at h'
  split at h'
  · rename_i hn
    exact R.sub _ h (Sub.nilRef t el s m.st hn) h'
  · exact h'

/-- The nil slice in a box as a row of one's own. -/
theorem Sub.nilBox (i o el s t : Nat) (cs : List AV) (st : St) (hi : st.hp[i]? = some (.box t cs)) (hn : cs[o]? = some .nil) : Sub st ⟨st.fr, st.hp.set i (.box t (cs.set o (.ref st.hp.length))) ++ [.list el s 0 []]⟩ := by
  rintro Z0 w0 a w ⟨μ, F, hFb, hH, hF, hd, hb⟩
  have hbel : Below w.heap.size w w := Below.refl _ _
  have hil := (List.getElem?_eq_some_iff.1 hi).1
  have h1 := hH.extend1 (zone_new (Z0 := Z0) hb.size hFb) hbel (o := .list el s 0 []) (u := .slice none 0 0) ⟨[], World.ownsRow_nil _ _ _ _, RelL.nil⟩ (fun g hg => by simp [blk] at hg) rfl
  refine ⟨μ ++ [.slice none 0 0], F, hFb, ?_, hF.keep (w' := w) (fun _ _ _ => rfl) (fun i u hu => append_old (μs := [.slice none 0 0]) i u hu), hd.keep (fun j x hj => ⟨?_, fun u hu => append_old j u hu⟩), hb⟩
  rotate_left
  · have hjl := (List.getElem?_eq_some_iff.1 hj).1
    rw [List.getElem?_append_left (by simpa using hjl), List.getElem?_set_ne (by rintro rfl; rw [hi] at hj; cases hj)]
    exact hj
  have hi1 : (st.hp ++ [AObj.list el s 0 []])[i]? = some (.box t cs) := by rw [List.getElem?_append_left hil]; exact hi
  have hil2 : i < μ.length := by rw [hH.len]; exact hil
  obtain ⟨u, hu⟩ : ∃ u, (μ ++ [Value.slice none 0 0])[i]? = some u := ⟨_, List.getElem?_eq_getElem (by simp; omega)⟩
  have hO := h1.obj i _ u hi1 hu
  obtain ⟨g, xs, rfl, e2, e3, e4⟩ := hO
  have hnew : ObjRel w (Zone Z0 F w0.heap.size) (μ ++ [.slice none 0 0]) w0.heap.size (.pointer (some ⟨g, 0, none⟩)) (.box t (cs.set o (.ref st.hp.length))) := by
    refine ⟨g, xs, rfl, e2, e3, ?_⟩
    obtain ⟨x, hx, hr⟩ := e4.get hn
    have hr2 : Rel w (Zone Z0 F w0.heap.size) (μ ++ [.slice none 0 0]) (.ref st.hp.length) x := by
      simp only [Rel] at hr ⊢
      subst hr
      rw [← hH.len]
      simp
    have := e4.set o hr2
    have e5 : xs.set o x = xs := by
      apply List.ext_getElem?
      intro j
      by_cases hj : j = o
      · subst hj
        rw [List.getElem?_set_self (List.getElem?_eq_some_iff.1 hx).1, hx]
      · rw [List.getElem?_set_ne (Ne.symm hj)]
    rwa [e5] at this
  have h2 := h1.update_same (w' := w) (zone_new (Z0 := Z0) hb.size hFb) hi1 hu rfl (fun _ _ _ => rfl) hnew
  rw [List.set_append_left _ _ hil] at h2
  exact h2

def nilB (i o el s : Nat) (m : M) : M :=
  match m.st.hp[i]? with
  | some (.box t cs) => match cs[o]? with
    | some .nil => ⟨m.ks, ⟨m.st.fr, m.st.hp.set i (.box t (cs.set o (.ref m.st.hp.length))) ++ [.list el s 0 []]⟩⟩
    | _ => m
  | _ => m

theorem R.nilB {rd : Option Nat} {P : Program} {m : M} {Q : Exit → St → Prop} (i o el s : Nat) (h : subOk m = true) (h' : Runs rd P (nilB i o el s m) Q) : Runs rd P m Q := by
  unfold Go.Abs.nilB at h'
  split at h'
  · rename_i t cs hi
    split at h'
    · rename_i hn
      exact R.sub _ h (Sub.nilBox i o el s t cs m.st hi hn) h'
    · exact h'
  · exact h'

end Go.Abs
