/- The machine's rules: drawn regions in every order; places where ways meet again. -/
import Derived.Test.YtfkdkhlimdkehaaGreatSymT
namespace Go.Abs
open Go.RowKit

theorem wpOp_of_one {F : Fence} {n : Nat} {P : Program} {ops : Array Oper} {Q1 Q2 : Exit → Act → World → Prop} {i : Nat} {o : Oper} {K : Act → World → Prop} {a : Act} {w : World} (ho : ops[i]? = some o) (h : wpListIn F n P ops Q1 [o] a w)
    (hN : ∀ a w, Q1 .normal a w → K a w) (hX : ∀ e a w, e ≠ .normal → Q1 e a w → Q2 e a w) : wpOpIn F n P ops Q2 i K a w := by
  have hL : LetsOut Q1 → LetsOut Q2 := fun ⟨a, w, h⟩ => ⟨a, w, hX _ _ _ (by simp) h⟩
  unfold wpOpIn
  simp only [ho]
  unfold wpListIn at h
  split
  · rename_i hw
    rw [if_pos hw] at h
    unfold Oper.wpIn at *
    refine ⟨h.1, ?_⟩
    have h := h.2
    generalize (o.semAt F.round a.eval).run P w = r at *
    cases r with
    | ok x w' =>
      cases x <;> simp only [Oper.uponIn] at h ⊢
      case enter => exact ⟨h.1, CallsIn.mono h.2 (fun e w'' he => by cases e <;> first | exact hN _ _ he | exact hX _ _ _ (by simp) he | exact hL he)⟩
      case row => exact ⟨h.1, RowsIn.mono h.2 (fun _ _ he => hN _ _ he)⟩
      case round => exact ⟨h.1, RoundIn.mono h.2 (fun e w'' he => by cases e <;> first | exact hN _ _ he | exact hX _ _ _ (by simp) he | exact hL he)⟩
      all_goals exact hN _ _ h
    | halt x w' => cases x <;> simp only [Oper.uponIn] at h ⊢ <;> first | exact h | exact hX _ _ _ (by simp) h
  · rename_i hw
    rw [if_neg hw] at h
    exact ⟨h.1, hN _ _ h.2⟩

section
variable {rd : Option Nat} {P : Program} {m : M} {Q : Exit → St → Prop}

theorem runsK_panic {c : List PanicEntry} : ∀ (ks : List Kont) (st : St), RunsK rd P Q ks (.panic c) st → Q (.panic c) st
  | [], _, h => h
  | .code _ :: ks, st, h => runsK_panic ks st h
  | .ops _ _ _ :: ks, st, h => runsK_panic ks st h
  | .drw _ _ _ _ :: ks, st, h => runsK_panic ks st h
  | .block _ :: ks, st, h => runsK_panic ks st h
  | .stop _ :: ks, st, h => runsK_panic ks st h
  | .any _ _ _ :: ks, st, h => runsK_panic ks st h

def NoPanic (Q : Exit → St → Prop) : Prop := ∀ c st, ¬ Q (.panic c) st
theorem np_ret (P : Program) (fn : Func) (res : AV) : NoPanic (retQ P fn res) := fun _ _ h => h
theorem np_back {rd : Option Nat} (P : Program) (fn : Func) (m : M) (n : Nat) (us : List Value) (Q : Exit → St → Prop) : NoPanic (backQ rd P fn m n us Q) := fun _ _ h => by simp [backQ] at h
theorem np_retS (P : Program) (fn : Func) (n : Nat) (us : List Value) (fr : List AV) (res : AV) (hp : List AObj) : NoPanic (retS P fn n us fr res hp) := fun _ _ h => by simp [retS] at h

/-- A drawn region is entered. -/
def anyAt (m : M) : Bool :=
  match m.ks with
  | .code (.region _ _ true) :: _ => true
  | _ => false
def anyM (m : M) : M :=
  match m.ks with
  | .code (.region _ ops true) :: ks => ⟨.any ops (Array.replicate ops.size false) ops.size :: ks, m.st⟩
  | _ => m

theorem R.any (hm : P.follows .mixedOrders = true) (h : anyAt m = true) (h' : Runs rd P (anyM m) Q) : Runs rd P m Q := by
  obtain ⟨ks, st⟩ := m
  unfold anyAt at h
  simp only [runs_iff, anyM] at h h' ⊢
  split at h
  · simp only [RunsK] at h' ⊢
    intro Z0 w0 a w hS
    exact wpIn_region_any hm (h' Z0 w0 a _ (hS.drew _))
  · cases h

def readyAt (m : M) : Option (List Nat) :=
  match m.ks with
  | .any ops listed _ :: _ => some (Region.ready .any ops listed)
  | _ => none

/-- All have been carried out. -/
theorem R.any0 (h : readyAt m = some []) (h' : Runs rd P ⟨m.ks.tail, m.st⟩ Q) : Runs rd P m Q := by
  obtain ⟨ks, st⟩ := m
  unfold readyAt at h
  simp only [runs_iff] at h h' ⊢
  split at h
  · simp only [Option.some.injEq] at h
    intro Z0 w0 a w hS
    exact wpAnyIn_done h ⟨st, h', hS⟩ _
  · cases h

/-- Operation i is carried out now. -/
def pickM (i : Nat) (m : M) : M :=
  match m.ks with
  | .any ops listed n :: ks => match ops[i]? with
    | some o => ⟨.ops ops [o] false :: .any ops (listed.setIfInBounds i true) (n - 1) :: ks, m.st⟩
    | none => m
  | _ => m

def roomAt (m : M) : Bool :=
  match m.ks with
  | .any _ _ (_ + 1) :: _ => true
  | _ => false

theorem R.anyB (rs : List Nat) (h : readyAt m = some rs) (hn : rs ≠ []) (hr : roomAt m = true) (h' : ∀ i ∈ rs, Runs rd P (pickM i m) Q) : Runs rd P m Q := by
  obtain ⟨ks, st⟩ := m
  unfold readyAt at h
  unfold roomAt at hr
  simp only [runs_iff] at h h' ⊢
  split at h
  · rename_i ops listed n ks'
    simp only [Option.some.injEq] at h
    simp only at hr
    split at hr
    · rename_i heq
      cases heq
      intro Z0 w0 a w hS
      refine wpAnyIn_all h hn fun i hi => ?_
      have h1 := h' i hi
      unfold pickM at h1
      have him : i ∈ Region.ready .any ops listed := by rw [h]; exact hi
      obtain ⟨_, o, ho, _⟩ := mem_ready.1 him
      simp only [ho, RunsK] at h1
      refine wpOp_of_one ho (h1 headW_false Z0 w0 a w hS) (fun a' w' ⟨st', hq, hs⟩ => hq Z0 w0 a' w' hs) (fun e a' w' hne ⟨st', hq, hs⟩ => ⟨st', ?_, hs⟩)
      cases e <;> first | exact absurd rfl hne | exact hq
    · cases hr
  · cases h

theorem R.any1 (i : Nat) (h : readyAt m = some [i]) (hr : roomAt m = true) (h' : Runs rd P (pickM i m) Q) : Runs rd P m Q :=
  R.anyB [i] h (by simp) hr fun k hk => by simp only [List.mem_cons, List.not_mem_nil, or_false] at hk; subst hk; exact h'
theorem R.any2 (i j : Nat) (h : readyAt m = some [i, j]) (hr : roomAt m = true) (hi : Runs rd P (pickM i m) Q) (hj : Runs rd P (pickM j m) Q) : Runs rd P m Q :=
  R.anyB [i, j] h (by simp) hr fun k hk => by simp only [List.mem_cons, List.not_mem_nil, or_false] at hk; rcases hk with rfl | rfl <;> assumption
theorem R.any3 (i j l : Nat) (h : readyAt m = some [i, j, l]) (hr : roomAt m = true) (hi : Runs rd P (pickM i m) Q) (hj : Runs rd P (pickM j m) Q) (hl : Runs rd P (pickM l m) Q) : Runs rd P m Q :=
  R.anyB [i, j, l] h (by simp) hr fun k hk => by simp only [List.mem_cons, List.not_mem_nil, or_false] at hk; rcases hk with rfl | rfl | rfl <;> assumption

/-- A move that may come first. -/
def freeAt (m : M) (i : Nat) : Option Operand :=
  match m.ks with
  | .any ops listed (_ + 1) :: _ => match ops[i]? with
    | some o => match o.op with
      | .move x => if o.guard.isNone && Region.noSelect ops && Region.free .any ops listed i && (Region.ready .any ops listed).contains i then some x else none
      | _ => none
    | none => none
  | _ => none
def moveM (i : Nat) (m : M) : M :=
  match m.ks with
  | .any ops listed n :: ks => match ops[i]? with
    | some o => match o.op with
      | .move x => ⟨.any ops (listed.setIfInBounds i true) (n - 1) :: ks, ⟨putF m.st.fr o.dst (ev m.st.fr x), m.st.hp⟩⟩
      | _ => m
    | none => m
  | _ => m

theorem R.anyF (i : Nat) (h : (freeAt m i).isSome = true) (np : NoPanic Q) (h' : Runs none P (moveM i m) Q) : Runs none P m Q := by
  obtain ⟨ks, ⟨fr, hp⟩⟩ := m
  simp only [runs_iff] at h' ⊢
  unfold freeAt at h
  simp only at h
  split at h
  · rename_i ops listed n ks'
    split at h
    · rename_i o ho
      split at h
      · rename_i x hx
        split at h
        · rename_i hc
          simp only [Bool.and_eq_true] at hc
          obtain ⟨⟨⟨hg, hs⟩, hf⟩, hr⟩ := hc
          simp only [moveM, ho, hx, RunsK] at h' ⊢
          intro Z0 w0 a w hS
          have hW : Region.wanted o (yielded ops a.tmps) = true := by
            unfold Region.wanted
            rw [Option.isNone_iff_eq_none.1 hg]
          have hrun : ∀ w, (execOp a.eval o).run P w = .ok (.value (a.eval x)) w := fun w => by
            unfold execOp
            rw [hx]
            rfl
          have he : effE P (ev fr) hp o.op = some (ev fr x, []) := by rw [hx]; rfl
          have hw' : WantedA ops o fr := wantedE_true (by unfold wantedE; rw [Option.isNone_iff_eq_none.1 hg])
          have h1 := StepR.sound (rd := none) (K := fun a' w' => Sim Z0 w0 ⟨putF fr o.dst (ev fr x), hp⟩ a' w') (Q := fun _ _ _ => True) (st' := ⟨putF fr o.dst (ev fr x), hp⟩) (by simpa using StepR.eff (st := ⟨fr, hp⟩) hw' (effE_sound he)) hS (fun _ _ h => h)
          rw [if_pos hW] at h1
          unfold Oper.wpIn at h1
          have h1 := h1.2
          rw [show (Fc none).round = none from rfl, Oper.semAt_none, hrun w] at h1
          simp only [Oper.uponIn] at h1
          exact wpAnyIn_take rfl ho hs hf hr (fun c a w ⟨st', hq, _⟩ => absurd (runsK_panic ks' st' hq) (np c st')) ⟨.inl ⟨hW, hrun⟩, fun w => by unfold Oper.about; rw [hx]⟩ (h' Z0 w0 _ w h1)
        · cases h
      · cases h
    · cases h
  · cases h

end

end Go.Abs
