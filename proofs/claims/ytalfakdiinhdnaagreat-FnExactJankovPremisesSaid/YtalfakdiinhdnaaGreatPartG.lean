/- Texts of the proof: SymX, SymY, SymZ, Sym1, Y00, P01, P02, Sym2, Z01, S02, J01. -/
import Derived.RangeFuncNested
import Derived.Test.YtalfakdiinhdnaaGreatPartF

/-! The machine's rules: loops over functions. -/
namespace Go.Abs
open Go.RowKit

/-- A new object that names no block. -/
theorem HRel.extend0 {w w' : World} {Z : Nat → Prop} {B : Nat} {μ : List Value} {hp : List AObj} {u : Value} {o : AObj} (h : HRel w Z B μ hp)
    (hb : Below w.heap.size w w') (hnew : ObjRel w' Z (μ ++ [u]) B u o) (hbl : blk u = none) (hone : u.oneCell' = true) : HRel w' Z B (μ ++ [u]) (hp ++ [o]) := by
  have hold : ∀ (i : Nat) (x : Value), μ[i]? = some x → (μ ++ [u])[i]? = some x := fun i x hx => by
    rw [List.getElem?_append_left (List.getElem?_eq_some_iff.1 hx).1]; exact hx
  have hbk : ∀ (i : Nat) oi ui g, hp[i]? = some oi → oi.alive = true → μ[i]? = some ui → blk ui = some g → g < w.heap.size := fun i oi ui g h1 h2 h3 h4 => ((h.obj i oi ui h1 h3).blk_ge h2 h4).2
  have split : ∀ (i : Nat) oi ui, (hp ++ [o])[i]? = some oi → (μ ++ [u])[i]? = some ui → (hp[i]? = some oi ∧ μ[i]? = some ui) ∨ (i = hp.length ∧ oi = o ∧ ui = u) := by
    intro i oi ui h1 h2
    rcases Nat.lt_trichotomy i hp.length with hi | hi | hi
    · rw [List.getElem?_append_left hi] at h1
      rw [List.getElem?_append_left (by rw [h.len]; exact hi)] at h2
      exact .inl ⟨h1, h2⟩
    · subst hi
      rw [List.getElem?_append_right (Nat.le_refl _)] at h1
      rw [List.getElem?_append_right (by rw [h.len]; exact Nat.le_refl _), h.len] at h2
      simp at h1 h2
      exact .inr ⟨rfl, h1.symm, h2.symm⟩
    · rw [List.getElem?_eq_none (by simp; omega)] at h1
      cases h1
  refine ⟨by simp [h.len], fun i oi ui g h1 ha h2 hg => ?_, fun i x hx => ?_, fun i oi ui h1 h2 => ?_, fun i j oi oj ui uj g hne h1 h2 a1 a2 m1 m2 b1 b2 => ?_⟩
  · rcases split i oi ui h1 h2 with ⟨e1, e2⟩ | ⟨_, rfl, rfl⟩
    · exact h.zone i oi ui g e1 ha e2 hg
    · rw [hbl] at hg; cases hg
  · rcases Nat.lt_or_ge i μ.length with hi | hi
    · rw [List.getElem?_append_left hi] at hx
      exact h.one i x hx
    · rw [List.getElem?_append_right hi] at hx
      have : x = u := by
        rcases Nat.eq_zero_or_pos (i - μ.length) with h0 | h0
        · rw [h0] at hx; simpa using hx.symm
        · rw [List.getElem?_eq_none (by simp; omega)] at hx; cases hx
      subst this
      exact hone
  · rcases split i oi ui h1 h2 with ⟨e1, e2⟩ | ⟨_, rfl, rfl⟩
    · cases ho : oi.alive with
      | true => exact (h.obj i oi ui e1 e2).keep (fun b hb1 _ => hb.block b hb1) hold (fun g hg => hb.block g (hbk i oi ui g e1 ho e2 hg))
      | false => exact (h.obj i oi ui e1 e2).keep_dead (fun b hb1 _ => hb.block b hb1) hold ho
    · exact hnew
  · rcases split i oi ui h1 m1 with ⟨e1, e2⟩ | ⟨_, rfl, rfl⟩ <;> rcases split j oj uj h2 m2 with ⟨e3, e4⟩ | ⟨_, rfl, rfl⟩
    · exact h.sep i j oi oj ui uj g hne e1 e3 a1 a2 e2 e4 b1 b2
    · rw [hbl] at b2; cases b2
    · rw [hbl] at b1; cases b1
    · rw [hbl] at b1; cases b1

/-- The block r, which holds no cells, is turned; the one object that holds no cells is turned with it. -/
theorem HRel.turn {w : World} {Z : Nat → Prop} {B : Nat} {μ : List Value} {hp : List AObj} {i r : Nat} {o o' : Obj} {x' : Inert} (h : HRel w Z B μ hp) (hr : w.heap[r]? = some o) (hn : o.isCells = false)
    (hi : ∀ j x, hp[j]? = some (.inert x) → j = i) (hnew : ∀ u, μ[i]? = some u → InertRel (w.putObj r o') Z B u x') : HRel (w.putObj r o') Z B μ (hp.set i (.inert x')) := by
  have get : ∀ (j : Nat) oj, (hp.set i (.inert x'))[j]? = some oj → (j = i ∧ oj = .inert x') ∨ (hp[j]? = some oj ∧ ∀ x, oj ≠ .inert x) := by
    intro j oj hj
    by_cases hji : j = i
    · subst hji
      rcases Nat.lt_or_ge j hp.length with hlt | hge
      · rw [List.getElem?_set_self hlt] at hj; simp at hj; exact .inl ⟨rfl, hj.symm⟩
      · rw [List.getElem?_eq_none (by simpa using hge)] at hj; cases hj
    · rw [List.getElem?_set_ne (Ne.symm hji)] at hj
      exact .inr ⟨hj, fun x e => hji (hi j x (by rw [hj, e]))⟩
  refine ⟨by simpa using h.len, fun j o u g h1 ha h2 hg => ?_, h.one, fun j oj u h1 h2 => ?_, fun j k oj ok uj uk g hne h1 h2 a1 a2 m1 m2 b1 b2 => ?_⟩
  · rcases get j o h1 with ⟨rfl, rfl⟩ | ⟨h1, _⟩
    · have := (hnew u h2).blk
      rw [this] at hg; cases hg
    · exact h.zone j o u g h1 ha h2 hg
  · rcases get j oj h1 with ⟨rfl, rfl⟩ | ⟨h1, hx⟩
    · exact hnew u h2
    · exact (h.obj j oj u h1 h2).turn hr hn hx
  · rcases get j oj h1 with ⟨rfl, rfl⟩ | ⟨h1, _⟩
    · rw [(hnew uj m1).blk] at b1; cases b1
    · rcases get k ok h2 with ⟨rfl, rfl⟩ | ⟨h2, _⟩
      · rw [(hnew uk m2).blk] at b2; cases b2
      · exact h.sep j k oj ok uj uk g hne h1 h2 a1 a2 m1 m2 b1 b2

theorem oneInert_at {hp : List AObj} (h : oneInert hp = true) {i : Nat} {y : Inert} (hi : hp[i]? = some (.inert y)) : ∀ j x, hp[j]? = some (.inert x) → j = i := fun j x hj => oneInert_sound h j i x y hj hi

/-- How far the loop has come that object i stands for. -/
def lstAt (i : Nat) (hp : List AObj) : Option (Nat × LSt) :=
  match hp[i]? with
  | some (.inert (.lrec D s _ _ _ _)) => if oneInert hp then some (D, s) else none
  | _ => none

theorem lstAt_parts {i D : Nat} {s : LSt} {hp : List AObj} (h : lstAt i hp = some (D, s)) : (∃ us ps asg bd, hp[i]? = some (.inert (.lrec D s us ps asg bd))) ∧ oneInert hp = true := by
  unfold lstAt at h
  split at h
  · rename_i D' s' us ps asg bd hi
    split at h
    · cases h
      exact ⟨⟨us, ps, asg, bd, hi⟩, by assumption⟩
    · cases h
  · cases h

def Inert.to (s : LSt) : Inert → Inert
  | .lrec D _ us ps asg bd => .lrec D s us ps asg bd
  | x => x

def setL (i : Nat) (s : LSt) (hp : List AObj) : List AObj :=
  match hp[i]? with
  | some (.inert x) => hp.set i (.inert (x.to s))
  | _ => hp

def Inert.over : Inert → Inert
  | .lrec D _ _ _ _ _ => .mark D
  | x => x
def setM (i : Nat) (hp : List AObj) : List AObj :=
  match hp[i]? with
  | some (.inert x) => hp.set i (.inert x.over)
  | _ => hp

/-- The record's block is turned, and its object with it. -/
theorem HRel.turnL {w : World} {Z : Nat → Prop} {B D i : Nat} {μ : List Value} {hp : List AObj} {s : LSt} {us : List Value} {ps : Array Tmp} {asg bd : Code} (h : HRel w Z B μ hp) (h1 : oneInert hp = true)
    (hi : hp[i]? = some (.inert (.lrec D s us ps asg bd))) :
    ∃ r : Loop, w.heap[D + 1]? = some (.loop r) ∧ r.state = s.state ∧ r.pending = s.pend ∧ r.tmps = us.toArray ∧ r.params = ps ∧ r.assign = asg ∧ r.body = bd ∧ B ≤ D ∧ w.heap[D]? = some (.deferred (some [])) ∧ μ[i]? = some (.func (.yield (D + 1)) #[] #[]) ∧
      (∀ s' : LSt, HRel (w.putObj (D + 1) (.loop { r with state := s'.state, pending := s'.pend })) Z B μ (setL i s' hp)) ∧
      (∀ o', HRel (w.putObj (D + 1) o') Z B μ (setM i hp)) := by
  have hil : i < μ.length := by rw [h.len]; exact (List.getElem?_eq_some_iff.1 hi).1
  obtain ⟨u, hu⟩ : ∃ u, μ[i]? = some u := ⟨_, List.getElem?_eq_getElem hil⟩
  obtain ⟨fn, rfl, ⟨⟨hB, hz⟩, hD⟩, hz2, hl⟩ := h.obj i _ u hi hu
  refine ⟨_, hl, rfl, rfl, rfl, rfl, rfl, rfl, hB, hD, hu, fun s' => ?_, fun o' => ?_⟩
  · unfold setL
    rw [hi]
    refine h.turn hl rfl (oneInert_at h1 hi) fun u' hu' => ?_
    rw [hu] at hu'
    cases hu'
    exact ⟨fn, rfl, ⟨⟨hB, hz⟩, (World.putObj_heap_other (by omega)).trans hD⟩, hz2, World.putObj_heap_same (Array.getElem?_eq_some_iff.1 hl).1⟩
  · unfold setM
    rw [hi]
    refine h.turn hl rfl (oneInert_at h1 hi) fun u' hu' => ?_
    rw [hu] at hu'
    cases hu'
    exact ⟨rfl, ⟨hB, hz⟩, (World.putObj_heap_other (by omega)).trans hD⟩

/-- The temporaries ps become avs. -/
def setPs : List Tmp → List AV → List AV → List AV
  | p :: ps, v :: vs, fr => setPs ps vs (fr.set p v)
  | _, _, fr => fr

theorem setPs_rel {w : World} {Z : Nat → Prop} {μ : List Value} : ∀ {ps : List Tmp} {avs : List AV} {vs : List Value} {fr : List AV} {tmps : Array Value}, RelL w Z μ avs vs → RelL w Z μ fr tmps.toList → ps.length = avs.length →
    RelL w Z μ (setPs ps avs fr) ((ps.zip vs).foldl (fun t (x : Tmp × Value) => t.setIfInBounds x.1 x.2) tmps).toList
  | [], [], vs, fr, tmps, _, h, _ => by simpa [setPs] using h
  | p :: ps, c :: cs, vs, fr, tmps, hv, h, hl => by
    rw [RelL] at hv
    obtain ⟨x, xs, rfl, h1, h2⟩ := hv
    simp only [setPs, List.zip_cons_cons, List.foldl_cons]
    refine setPs_rel h2 ?_ (by simpa using hl)
    rw [Array.toList_setIfInBounds]
    exact h.set p h1
  | [], _ :: _, _, _, _, _, _, hl => by simp at hl
  | _ :: _, [], _, _, _, _, _, hl => by simp at hl

/-! ### The loop -/
def rfAt (m : M) : Option (FuncId × List AV) :=
  match m.ks with
  | .code (.rangeFunc g _ _ _) :: _ => match ev m.st.fr g with
    | .fn f caps => if noMark m.st.hp then some (f, caps) else none
    | _ => none
  | _ => none

def recM (D : Nat) (us : List Value) (m : M) : AObj :=
  match m.ks with
  | .code (.rangeFunc _ ps asg bd) :: _ => .inert (.lrec D .ready us ps asg bd)
  | _ => .dead

def afterM (j : Option Code) (m : M) (fr : List AV) (hp : List AObj) : M :=
  match m.ks with
  | .code (.rangeFunc _ _ _ _) :: ks => match j with
    | none => ⟨ks, ⟨fr, hp⟩⟩
    | some c => ⟨.code c :: ks, ⟨fr, hp⟩⟩
  | _ => m

/-- Behind the function that was ranged over: its caller goes on, or leaves by the jump of a round. -/
def rangeQ (P : Program) (fn : Func) (m : M) (n D : Nat) (us : List Value) (Q : Exit → St → Prop) : Exit → St → Prop := fun e st' =>
  (e = .normal ∨ e = .ret) ∧ ∃ res fr' s, resIn P fn st' = some res ∧ frameAt n st' = some (us, fr') ∧ lstAt (n + 1) st'.hp = some (D, s) ∧
    (match s with
     | .busy => False
     | s => Runs none P (afterM s.pend m fr' (setM (n + 1) (st'.hp.set n .dead))) Q)

section
variable {P : Program} {m : M} {Q : Exit → St → Prop}

theorem oneInert_dead : ∀ {hp : List AObj} (n : Nat), oneInert hp = true → oneInert (hp.set n .dead) = true
  | [], n, h => by simpa using h
  | o :: hp, 0, h => by
    unfold oneInert at h
    simp only [List.set_cons_zero, oneInert, isInert, Bool.false_eq_true, if_false]
    split at h
    · rename_i ho
      clear ho
      induction hp with
      | nil => rfl
      | cons o hp ih =>
        simp only [List.all_cons, Bool.and_eq_true] at h
        simp only [oneInert]
        rw [if_neg (by simpa using h.1)]
        exact ih h.2
    · exact h
  | o :: hp, n + 1, h => by
    unfold oneInert at h
    simp only [List.set_cons_succ, oneInert]
    split at h
    · rename_i ho
      rw [if_pos ho, List.all_eq_true]
      intro o' ho'
      rcases List.mem_or_eq_of_mem_set ho' with h1 | rfl
      · exact List.all_eq_true.1 h o' h1
      · rfl
    · rename_i ho
      rw [if_neg ho]
      exact oneInert_dead n h

theorem R.range {f : FuncId} {fn : Func} {c : Code} {caps : List AV} (hf : P.funcs[f]? = some fn) (hb : fn.body = some c) (hnm : (fn.name == "runtime.NumGoroutine") = false) (h : rfAt m = some (f, caps))
    (h' : ∀ (D : Nat) (us : List Value), Runs none P ⟨[.code c], ⟨frameOf fn.ntmps (.ref (m.st.hp.length + 1) :: caps), m.st.hp ++ [.frame us m.st.fr] ++ [recM D us m]⟩⟩ (rangeQ P fn m m.st.hp.length D us Q)) : Runs none P m Q := by
  have hen := enters_of hf hnm (by rw [hb]; rfl)
  obtain ⟨ks, ⟨fr, hp⟩⟩ := m
  unfold rfAt at h
  simp only at h
  rw [runs_iff]
  split at h
  · rename_i g ps asg bd ks'
    split at h
    · rename_i f' caps' hg
      split at h
      · rename_i hnmk
        cases h
        simp only [recM] at h'
        simp only [RunsK]
        intro Z0 w0 a w hS
        obtain ⟨μ, F, hFb, hH, hF, hd, hbel⟩ := hS
        have hd0 := hd.none hnmk
        refine wpIn_rangeFunc ?_
        intro fnid _
        have hgv := hg ▸ ev_rel hF g
        simp only [Rel] at hgv
        obtain ⟨cv, hgv, hcr⟩ := hgv
        obtain ⟨rec, hrec⟩ : ∃ rec : Loop, rec = { state := .ready, pending := none, fn := fnid, tmps := a.tmps, params := ps, assign := asg, body := bd, defers := w.heap.size } := ⟨_, rfl⟩
        obtain ⟨W1, hW1⟩ : ∃ W1, (w.alloc (.deferred (some []))).alloc (.loop rec) = W1 := ⟨_, rfl⟩
        have hL1 : W1.heap[w.heap.size + 1]? = some (.loop rec) := by
          rw [← hW1]; have := World.alloc_heap_new (w.alloc (.deferred (some []))) (.loop rec); rwa [World.size_alloc] at this
        have hK1 : W1.heap[w.heap.size]? = some (.deferred (some [])) := by
          rw [← hW1]; exact (Below.heap_alloc _ _ _ (by simp)).trans (World.alloc_heap_new w _)
        have hsz : W1.heap.size = w.heap.size + 2 := by rw [← hW1]; simp
        have hb1 : Below w.heap.size w W1 := by
          rw [← hW1]; exact ((Below.refl _ w).alloc (Nat.le_refl _) _).alloc (by simp) _
        refine ⟨w.heap.size + 1, [{ target := .collected w.heap.size, args := #[] }], W1, { target := .fn (.func f) cv.toArray, args := #[.func (.yield (w.heap.size + 1)) #[] #[]] }, W1, f,
          #[.func (.yield (w.heap.size + 1)) #[] #[]] ++ cv.toArray, W1, ?_, ?_, fun _ _ => trivial, ?_, fun hd => absurd hd (by simp [Fc, Fence.wide]), ?_⟩
        · rw [← hW1, hrec]; exact run_enterLoop_outer _ _ _ _ _
        · simp only [resolve, hgv]
          simp [go_sem]
        · simp [invoke, go_sem, hen _ W1]
        · -- the function that is ranged over
          have hrun := h' w.heap.size a.tmps.toList
          simp only [runs_iff, RunsK] at hrun
          have hFb2 : ∀ b, (F b ∨ b = w.heap.size ∨ b = w.heap.size + 1) → w0.heap.size ≤ b ∧ b < W1.heap.size := fun b hb => by
            have hB := hbel.size
            rcases hb with hb | rfl | rfl
            · have := hFb b hb; omega
            · omega
            · omega
          have hz : ∀ b, b < w.heap.size → ¬ Zone Z0 F w0.heap.size b → ¬ Zone Z0 (fun b => F b ∨ b = w.heap.size ∨ b = w.heap.size + 1) w0.heap.size b := fun b _ hb => zone_more (F' := fun b => b = w.heap.size ∨ b = w.heap.size + 1) b hb
          have hzz : ∀ b, b < w.heap.size → Zone Z0 F w0.heap.size b → Zone Z0 (fun b => F b ∨ b = w.heap.size ∨ b = w.heap.size + 1) w0.heap.size b := fun b hb h => h.elim .inl fun h2 => .inr ⟨h2.1, fun hf => hf.elim h2.2 (fun h3 => by omega)⟩
          have hnz : ∀ b, w.heap.size ≤ b → b ≤ w.heap.size + 1 → ¬ Zone Z0 (fun b => F b ∨ b = w.heap.size ∨ b = w.heap.size + 1) w0.heap.size b := fun b h1 h2 h => by
            have hB := hbel.size
            rcases h with h | h
            · omega
            · exact h.2 (.inr (by omega))
          have hH1 := (hH.weak hz hzz).extend0 (u := .bool false) (o := .frame a.tmps.toList fr) (Below.refl _ _) (RelL.keep (w := w) (fun _ _ _ => rfl) (fun i u hu => append_old i u hu) (hF.weak hz)) rfl rfl
          have hH2 := hH1.extend0 (u := .func (.yield (w.heap.size + 1)) #[] #[]) (o := .inert (.lrec w.heap.size .ready a.tmps.toList ps asg bd)) hb1
            ⟨fnid, rfl, ⟨⟨hbel.size, hnz _ (Nat.le_refl _) (by omega)⟩, hK1⟩, hnz _ (by omega) (Nat.le_refl _), by rw [hL1, hrec]; rfl⟩ rfl rfl
          have hlen := hcr.length
          have hkeep : ∀ {cs : List AV} {vs : List Value}, RelL w (Zone Z0 F w0.heap.size) μ cs vs → RelL W1 (Zone Z0 (fun b => F b ∨ b = w.heap.size ∨ b = w.heap.size + 1) w0.heap.size) (μ ++ [.bool false] ++ [.func (.yield (w.heap.size + 1)) #[] #[]]) cs vs := fun h =>
            RelL.keep (w := w) (fun b hb _ => hb1.block b hb) (fun i u hu => append_old i u (append_old i u hu)) (h.weak hz)
          have hS2 : Sim Z0 w0 ⟨frameOf fn.ntmps (.ref (hp.length + 1) :: caps), hp ++ [.frame a.tmps.toList fr] ++ [.inert (.lrec w.heap.size .ready a.tmps.toList ps asg bd)]⟩
              { tmps := (#[Value.func (.yield (w.heap.size + 1)) #[] #[]] ++ cv.toArray) ++ Array.replicate (fn.ntmps - (#[Value.func (.yield (w.heap.size + 1)) #[] #[]] ++ cv.toArray).size) undef, defers := [] } W1 := by
            refine ⟨_, _, hFb2, hH2, ?_, .inl rfl, hbel.trans (hb1.mono hbel.size)⟩
            have hall : RelL W1 (Zone Z0 (fun b => F b ∨ b = w.heap.size ∨ b = w.heap.size + 1) w0.heap.size) (μ ++ [.bool false] ++ [.func (.yield (w.heap.size + 1)) #[] #[]]) (.ref (hp.length + 1) :: caps) (.func (.yield (w.heap.size + 1)) #[] #[] :: cv) := by
              refine RelL.cons ?_ (hkeep hcr)
              simp only [Rel]
              rw [← hH.len]
              simp
            have e1 : (#[Value.func (.yield (w.heap.size + 1)) #[] #[]] ++ cv.toArray) = (Value.func (.yield (w.heap.size + 1)) #[] #[] :: cv).toArray := by simp
            rw [e1]
            have hl2 := hall.length
            simp only [Array.toList_append, Array.toList_replicate, List.size_toArray, hl2, frameOf]
            refine RelL.append hall ?_
            generalize fn.ntmps - (AV.ref (hp.length + 1) :: caps).length = n
            induction n with
            | zero => exact RelL.nil
            | succ n ih => exact RelL.cons (by simp [Rel]) ih
          refine callsIn_of_wp (F := Fc none) (n := 0 - 1) hf hb trivial (wpIn_mono (hrun Z0 w0 _ W1 hS2) ?_)
          have fin : ∀ (e : Exit) (st' : St) (a' : Act) (w' : World), rangeQ P fn ⟨.code (.rangeFunc g ps asg bd) :: ks', ⟨fr, hp⟩⟩ hp.length w.heap.size a.tmps.toList Q e st' → Sim Z0 w0 st' a' w' → a'.defers = [] ∧ ∃ v, (results fn a'.tmps).run P w' = .ok v w' ∧
              rangePost (Fc none) 0 P (w.heap.size + 1) (fun e a' w' => ∃ st', RunsK none P Q ks' e st' ∧ Sim Z0 w0 st' a' w') { a with defers := [{ target := .collected w.heap.size, args := #[] }] ++ a.defers } (.returned v) w' := by
            rintro e st' a' w' ⟨_, res, fr', s, hres, hfr, hls, hgo⟩ ⟨μ', F', hFb', hH', hF', hd', hbel'⟩
            obtain ⟨x, h1, h2⟩ := resIn_run hH' hF' hres
            obtain ⟨⟨us', ps', asg', bd', hi⟩, hone⟩ := lstAt_parts hls
            refine ⟨hd'.none (resIn_mark hres), x, h1, ?_⟩
            unfold frameAt at hfr
            split at hfr
            · rename_i us2 fr2 hi2
              cases hfr
              have hil : hp.length < μ'.length := by rw [hH'.len]; exact (List.getElem?_eq_some_iff.1 hi2).1
              have hfrr : RelL w' (Zone Z0 F' w0.heap.size) μ' fr' a.tmps.toList := hH'.obj _ _ _ hi2 (List.getElem?_eq_getElem hil)
              have hi3 : (st'.hp.set hp.length .dead)[hp.length + 1]? = some (.inert (.lrec w.heap.size s us' ps' asg' bd')) := by
                rw [List.getElem?_set_ne (by omega)]; exact hi
              obtain ⟨r, hr1, hr2, hr3, _, _, _, _, hBD, hD, hμ, _, hM⟩ := (hH'.bury hp.length).turnL (oneInert_dead _ hone) hi3
              have hend := run_endLoop (P := P) hr1
              have hsim : Sim Z0 w0 ⟨fr', setM (hp.length + 1) (st'.hp.set hp.length .dead)⟩ { a with defers := [{ target := .collected w.heap.size, args := #[] }] ++ a.defers } (w'.putObj (w.heap.size + 1) (.loop { r with state := .exhausted })) := by
                refine ⟨μ', F', fun b hb => by rw [World.putObj_size]; exact hFb' b hb, hM _, hfrr.cells (putObj_cells hr1 rfl), .inr ⟨hp.length + 1, w.heap.size, _, ?_, hμ, by rw [hd0]; rfl⟩, ?_⟩
                · unfold setM
                  rw [hi3]
                  simp only [Inert.over]
                  rw [List.getElem?_set_self]
                  have := (List.getElem?_eq_some_iff.1 hi3).1
                  exact this
                · exact hbel'.grown (grownBy_putObj' w' _ _) hbel'.size (fun k e => by cases e; omega)
              cases s with
              | ready =>
                refine ⟨none, w'.putObj (w.heap.size + 1) (.loop { r with state := .exhausted }), (hend (by rw [hr2]; simp [LSt.state])).trans (congrArg (fun x => Result.ok x _) hr3), ?_⟩
                simp only [runs_iff, afterM, LSt.pend] at hgo
                exact ⟨_, hgo, hsim⟩
              | busy => exact hgo.elim
              | done c =>
                refine ⟨some c, w'.putObj (w.heap.size + 1) (.loop { r with state := .exhausted }), (hend (by rw [hr2]; simp [LSt.state])).trans (congrArg (fun x => Result.ok x _) hr3), ?_⟩
                simp only [runs_iff, afterM, LSt.pend, RunsK] at hgo
                exact hgo Z0 w0 _ _ hsim
            · cases hfr
          rintro e a' w' ⟨st', hq, hS'⟩
          cases e with
          | normal => exact fin _ st' a' w' hq hS'
          | ret => exact fin _ st' a' w' hq hS'
          | exit id => exact absurd hq.1 (by simp)
          | goto l => exact absurd hq.1 (by simp)
          | panic ch => exact absurd hq.1 (by simp)
          | outgrown => exact absurd hq.1 (by simp)
      · cases h
    · cases h
  · cases h

/-! ### Rounds -/
/-- The head calls yield: the record's object, its D, the values us of the caller's frame (by the record, by the frame), the caller's frame with the loop's variables set. -/
def ylAt (m : M) : Option (Nat × Nat × List Value × List Value) :=
  match opM m with
  | some (.call c) => match c.callee with
    | .value f => match ev m.st.fr f with
      | .ref i => match m.st.hp[i]?, m.st.hp[i - 1]? with
        | some (.inert (.lrec D .ready us ps _ _)), some (.frame us' _) => if noMark m.st.hp && oneInert m.st.hp && decide (ps.size = c.args.size) then some (i, D, us, us') else none
        | _, _ => none
      | _ => none
    | _ => none
  | _ => none

def ylF (m : M) : List AV :=
  match opM m with
  | some (.call c) => match c.callee with
    | .value f => match ev m.st.fr f with
      | .ref i => match m.st.hp[i]?, m.st.hp[i - 1]? with
        | some (.inert (.lrec _ _ _ ps _ _)), some (.frame _ fr) => setPs ps.toList (c.args.toList.map (ev m.st.fr)) fr
        | _, _ => []
      | _ => []
    | _ => []
  | _ => []

def ylC (m : M) : Code × Code :=
  match opM m with
  | some (.call c) => match c.callee with
    | .value f => match ev m.st.fr f with
      | .ref i => match m.st.hp[i]? with
        | some (.inert (.lrec _ _ _ _ asg bd)) => (asg, bd)
        | _ => (.skip, .skip)
      | _ => (.skip, .skip)
    | _ => (.skip, .skip)
  | _ => (.skip, .skip)

/-- Behind the assignments to the loop's variables the record is busy and the body runs. -/
def beginQ (l : Nat) (P : Program) (i D : Nat) (bd : Code) (Q : Exit → St → Prop) : Exit → St → Prop := fun e st' =>
  e = .normal ∧ lstAt i st'.hp = some (D, .ready) ∧ Runs (some l) P ⟨[.code bd], ⟨st'.fr, setL i .busy st'.hp⟩⟩ Q

/-- Behind a round yield's caller goes on. -/
def roundQ (P : Program) (m : M) (i D n : Nat) (us : List Value) (Q : Exit → St → Prop) : Exit → St → Prop := fun e st' =>
  ∃ fr', frameAt n st' = some (us, fr') ∧ lstAt i st'.hp = some (D, .busy) ∧
    match e with
    | .normal => Runs none P (backM m fr' (.bool true) (setL i .ready (st'.hp.set n .dead))) Q
    | .ret => Runs none P (backM m fr' (.bool false) (setL i (.done .ret) (st'.hp.set n .dead))) Q
    | .exit id => Runs none P (backM m fr' (.bool false) (setL i (.done (.exit id)) (st'.hp.set n .dead))) Q
    | _ => False

theorem R.yield (i D : Nat) (us : List Value) (h : ylAt m = some (i, D, us, us)) (ho : opsAt m = true)
    (h' : ∀ (l : Nat) (us' : List Value), Runs (some l) P ⟨[.code (ylC m).1], ⟨ylF m, m.st.hp ++ [.frame us' m.st.fr]⟩⟩ (beginQ l P i D (ylC m).2 (roundQ P m i D m.st.hp.length us' Q))) : Runs none P m Q := by
  obtain ⟨ks, ⟨fr, hp⟩⟩ := m
  unfold ylAt at h
  unfold ylF ylC at h'
  unfold opM headOf at h h'
  unfold opsAt at ho
  simp only at h ho h'
  rw [runs_iff]
  split at ho
  · rename_i all o lst fl ks'
    simp only at h h'
    split at h
    · rename_i c hop
      split at hop
      · rename_i hw
        simp only [Option.some.injEq] at hop
        simp only [hw, if_true, hop] at h'
        split at h
        · rename_i fo hcal
          simp only [hcal] at h'
          split at h
          · rename_i i0 hev
            simp only [hev] at h'
            split at h
            · rename_i D0 us0 ps asg bd us1 cfr hi0 hi1
              simp only [hi0, hi1] at h'
              split at h
              · rename_i hc
                simp only [Bool.and_eq_true, decide_eq_true_eq] at hc
                obtain ⟨⟨hnmk, hone⟩, hps⟩ := hc
                simp only [Option.some.injEq, Prod.mk.injEq] at h
                obtain ⟨rfl, rfl, rfl, rfl⟩ := h
                simp only [RunsK]
                intro hW
                have hwant := wantH_true hw hW
                intro Z0 w0 a w hS
                obtain ⟨μ, F, hFb, hH, hF, hd, hbel⟩ := hS
                have hd0 := hd.none hnmk
                refine wpListIn_step fun K hK => ?_
                rw [wanted_rel hF hwant, if_pos rfl]
                have hE : ∀ y, Rel w (Zone Z0 F w0.heap.size) μ (ev fr y) (a.eval y) := fun y => ev_rel hF y
                have hcv := hev ▸ hE fo
                simp only [Rel] at hcv
                obtain ⟨r, hr1, hr2, hr3, hr4, hr5, hr6, hr7, hBD, hD, hμ, hL, _⟩ := hH.turnL hone hi0
                rw [hμ] at hcv
                have hcv : a.eval fo = .func (.yield (D0 + 1)) #[] #[] := (Option.some.inj hcv).symm
                have hargs' : RelL w (Zone Z0 F w0.heap.size) μ (c.args.toList.map (ev fr)) (c.args.toList.map a.eval) := by
                  generalize c.args.toList = l
                  induction l with
                  | nil => exact RelL.nil
                  | cons x l ih => exact RelL.cons (hE x) ih
                have hrun : (execOp a.eval o).run P w = .ok (.round (D0 + 1) r.fn ((ps.zip (c.args.map a.eval)).foldl (fun tmps (x : Tmp × Value) => tmps.setIfInBounds x.1 x.2) us1.toArray) asg bd) w := by
                  have hy := run_yield (P := P) (args := c.args.map a.eval) hr1 (by rw [hr5, Array.size_map]; exact hps.symm)
                  rw [hr4, hr5, hr6, hr7] at hy
                  obtain ⟨callee, cargs, tys⟩ := c
                  simp only at hcal hy
                  subst hcal
                  simp only [execOp, hop, resolve, Deferred.ofValue, hcv, Sem.run_bind, Sem.run_pure, Result.andThen_ok, invoke, Array.empty_append, Array.append_empty]
                  exact hy
                refine wpIn_of_run (fun c' => by rw [hop]; simp) ?_
                rw [hrun, Oper.uponIn_round]
                refine ⟨fun hd => absurd hd (by simp [Fc, Fence.wide]), ?_⟩
                refine roundIn_of_wpIn (F := Fc none) trivial ?_
                have hrun2 := h' (D0 + 1) a.tmps.toList
                simp only [runs_iff, RunsK] at hrun2
                have hil : i0 - 1 < μ.length := by rw [hH.len]; exact (List.getElem?_eq_some_iff.1 hi1).1
                have hcfr : RelL w (Zone Z0 F w0.heap.size) μ cfr us1 := hH.obj _ _ _ hi1 (List.getElem?_eq_getElem hil)
                have hS2 : Sim Z0 w0 ⟨setPs ps.toList (c.args.toList.map (ev fr)) cfr, hp ++ [.frame a.tmps.toList fr]⟩ { tmps := (ps.zip (c.args.map a.eval)).foldl (fun tmps (x : Tmp × Value) => tmps.setIfInBounds x.1 x.2) us1.toArray, defers := [] } w := by
                  refine ⟨μ ++ [.bool false], F, hFb, hH.extend0 (Below.refl _ _) (RelL.keep (w := w) (fun _ _ _ => rfl) (fun i u hu => append_old i u hu) hF) rfl rfl, ?_, .inl rfl, hbel⟩
                  have := setPs_rel (ps := ps.toList) (tmps := us1.toArray) hargs' hcfr (by simpa using hps)
                  refine RelL.keep (w := w) (fun _ _ _ => rfl) (fun i u hu => append_old i u hu) ?_
                  rw [← Array.foldl_toList, Array.toList_zip, Array.toList_map]
                  exact this
                refine wpIn_mono (hrun2 Z0 w0 _ w hS2) ?_
                rintro e a1 w1 ⟨st1, ⟨rfl, hls, hgo⟩, hS1⟩
                obtain ⟨⟨us2, ps2, as2, bd2, hj⟩, hone1⟩ := lstAt_parts hls
                obtain ⟨μ1, F1, hFb1, hH1, hF1, hd1, hbel1⟩ := hS1
                obtain ⟨r1, k1, k2, k3, k4, k5, k6, k7, kB, kD, kμ, kL, _⟩ := hH1.turnL hone1 hj
                refine ⟨_, run_beginRound k1 (by rw [k2]; rfl), ?_⟩
                have hbusy : ({ r1 with state := .busy } : Loop) = { r1 with state := LSt.busy.state, pending := LSt.busy.pend } := by
                  rw [show LSt.busy.pend = r1.pending from k3.symm]; rfl
                have keepD : ∀ {hp' : List AObj} {μ' : List Value} {ds : List Deferred} (s : LSt), Defs μ' hp' ds → noMark hp' = true → Defs μ' (setL i0 s hp') ds := fun s h hn => .inl (h.none hn)
                have hS3 : Sim Z0 w0 ⟨st1.fr, setL i0 .busy st1.hp⟩ a1 (w1.putObj (D0 + 1) (.loop { r1 with state := .busy })) := by
                  refine ⟨μ1, F1, fun b hb => by rw [World.putObj_size]; exact hFb1 b hb, by rw [hbusy]; exact kL .busy, hF1.cells (putObj_cells k1 rfl), ?_, hbel1.grown (grownBy_putObj' w1 _ _) hbel1.size (fun k e => by cases e; omega)⟩
                  rcases hd1 with hd1 | ⟨i', D', u', e1, _, _⟩
                  · exact .inl hd1
                  · exfalso
                    have := oneInert_at hone1 hj _ _ e1
                    subst this
                    rw [hj] at e1
                    cases e1
                simp only [runs_iff, RunsK] at hgo
                refine wpIn_mono (hgo Z0 w0 _ _ hS3) ?_
                have fin : ∀ (s : LSt) (j : Option Code) (b : Bool) (st2 : St) (a2 : Act) (w2 : World) (fr2 : List AV), s.pend = j → s.state = (if j.isNone then LoopState.ready else LoopState.done) → b = j.isNone → frameAt hp.length st2 = some (a.tmps.toList, fr2) → lstAt i0 st2.hp = some (D0, .busy) → Sim Z0 w0 st2 a2 w2 →
                    Runs none P (backM ⟨.ops all (o :: lst) fl :: ks', ⟨fr, hp⟩⟩ fr2 (.bool b) (setL i0 s (st2.hp.set hp.length .dead))) Q → ∃ v w3, (Instr.endRound (D0 + 1) j).run P w2 = .ok v w3 ∧ K (a.put o.dst v) w3 := by
                  rintro s j b st2 a2 w2 fr2 rfl hst rfl hfr hls2 ⟨μ2, F2, hFb2, hH2, hF2, hd2, hbel2⟩ hgo2
                  obtain ⟨⟨us3, ps3, as3, bd3, hj3⟩, hone2⟩ := lstAt_parts hls2
                  unfold frameAt at hfr
                  split at hfr
                  · rename_i us4 fr4 hi4
                    cases hfr
                    have hne : hp.length ≠ i0 := by
                      intro e
                      rw [e, hj3] at hi4
                      cases hi4
                    have hj4 : (st2.hp.set hp.length .dead)[i0]? = some (.inert (.lrec D0 .busy us3 ps3 as3 bd3)) := by
                      rw [List.getElem?_set_ne hne]; exact hj3
                    obtain ⟨r2, q1, q2, q3, _, _, _, _, qB, _, _, qL, _⟩ := (hH2.bury hp.length).turnL (oneInert_dead _ hone2) hj4
                    refine ⟨_, _, run_endRound _ q1, hK _ _ ?_⟩
                    have hil2 : hp.length < μ2.length := by rw [hH2.len]; exact (List.getElem?_eq_some_iff.1 hi4).1
                    have hfrr : RelL w2 (Zone Z0 F2 w0.heap.size) μ2 fr2 a.tmps.toList := hH2.obj _ _ _ hi4 (List.getElem?_eq_getElem hil2)
                    simp only [runs_iff, backM, RunsK] at hgo2
                    refine hgo2 headW_false Z0 w0 _ _ ⟨μ2, F2, fun b hb => by rw [World.putObj_size]; exact hFb2 b hb, ?_, put_rel (hfrr.cells (putObj_cells q1 rfl)) _ (by simp [Rel]), by rw [put_defers']; exact .inl hd0, hbel2.grown (grownBy_putObj' w2 _ _) hbel2.size (fun k e => by cases e; omega)⟩
                    rw [← hst]
                    exact qL s
                  · cases hfr
                rintro e a2 w2 ⟨st2, ⟨fr2, hfr, hls2, hgo2⟩, hS4⟩
                cases e with
                | normal => exact fin .ready none true st2 a2 w2 fr2 rfl rfl rfl hfr hls2 hS4 hgo2
                | ret => exact fin (.done .ret) (some .ret) false st2 a2 w2 fr2 rfl rfl rfl hfr hls2 hS4 hgo2
                | exit id => exact fin (.done (.exit id)) (some (.exit id)) false st2 a2 w2 fr2 rfl rfl rfl hfr hls2 hS4 hgo2
                | goto l => exact hgo2.elim
                | panic ch => exact hgo2.elim
                | outgrown => exact hgo2.elim
              · cases h
            · cases h
          · cases h
        · cases h
      · cases hop
    · cases h
  · cases ho

theorem R.begin {l i D : Nat} {bd : Code} (h : m.ks = []) (hl : lstAt i m.st.hp = some (D, .ready)) (h' : Runs (some l) P ⟨[.code bd], ⟨m.st.fr, setL i .busy m.st.hp⟩⟩ Q) : Runs (some l) P m (beginQ l P i D bd Q) := by
  obtain ⟨ks, st⟩ := m
  simp only at h hl h'
  subst h
  rw [runs_iff]
  exact ⟨rfl, hl, h'⟩

/-- A round ends; the loop goes on. -/
theorem R.round {l i D n : Nat} {m0 : M} {us : List Value} (fr' : List AV) (h : m.ks = []) (hf : frameAt n m.st = some (us, fr')) (hl : lstAt i m.st.hp = some (D, .busy))
    (h' : Runs none P (backM m0 fr' (.bool true) (setL i .ready (m.st.hp.set n .dead))) Q) : Runs (some l) P m (roundQ P m0 i D n us Q) := by
  obtain ⟨ks, st⟩ := m
  simp only at h hl h' hf
  subst h
  rw [runs_iff]
  exact ⟨fr', hf, hl, h'⟩

/-- The function that was ranged over ends, all rounds having gone on. -/
theorem R.over {fn : Func} {n D : Nat} {us : List Value} {m0 : M} (res : AV) (fr' : List AV) (h : (edAt m).isSome = true) (hr : resIn P fn m.st = some res) (hf : frameAt n m.st = some (us, fr')) (hl : lstAt (n + 1) m.st.hp = some (D, .ready))
    (h' : Runs none P (afterM none m0 fr' (setM (n + 1) (m.st.hp.set n .dead))) Q) : Runs none P m (rangeQ P fn m0 n D us Q) :=
  R.fin h ⟨.inl rfl, res, fr', .ready, hr, hf, hl, h'⟩ ⟨.inr rfl, res, fr', .ready, hr, hf, hl, h'⟩

/-- .. a round having left by the jump c. -/
theorem R.left {fn : Func} {n D : Nat} {us : List Value} {m0 : M} (c : Code) (res : AV) (fr' : List AV) (h : (edAt m).isSome = true) (hr : resIn P fn m.st = some res) (hf : frameAt n m.st = some (us, fr')) (hl : lstAt (n + 1) m.st.hp = some (D, .done c))
    (h' : Runs none P (afterM (some c) m0 fr' (setM (n + 1) (m.st.hp.set n .dead))) Q) : Runs none P m (rangeQ P fn m0 n D us Q) :=
  R.fin h ⟨.inl rfl, res, fr', .done c, hr, hf, hl, h'⟩ ⟨.inr rfl, res, fr', .done c, hr, hf, hl, h'⟩

end

end Go.Abs


/-! The machine's rules: boxes that are written no more. -/
namespace Go.Abs
open Go.RowKit

mutual
/-- Object i, a box with the cells ds, is only read from now on. -/
def bxV (i : Nat) (ds : List AV) : AV → AV
  | .ptr j o => if j = i then .rptr (ds.drop o) else .ptr j o
  | .agg cs => .agg (bxL i ds cs)
  | .tup cs => .tup (bxL i ds cs)
  | .fn f cs => .fn f (bxL i ds cs)
  | .ref j => .ref j
  | .lst s n cs => .lst s n cs
  | .clp s n cs => .clp s n cs
  | .nam u o s n cs => .nam u o s n cs
  | .rptr cs => .rptr cs
  | .int k n => .int k n
  | .bool b => .bool b
  | .str s => .str s
  | .nil => .nil
  | .own e s n cs => .own e s n cs
  | .top => .top
def bxL (i : Nat) (ds : List AV) : List AV → List AV
  | [] => []
  | c :: cs => bxV i ds c :: bxL i ds cs
end

def AObj.bx (i : Nat) (ds : List AV) : AObj → AObj
  | .box t cs => .box t (bxL i ds cs)
  | .list e s n cs => .list e s n cs
  | .dead => .dead
  | .frame us cs => .frame us (bxL i ds cs)
  | .inert x => .inert x

theorem AObj.bx_alive (i : Nat) (ds : List AV) (o : AObj) : (o.bx i ds).alive = o.alive := by cases o <;> rfl

def bxS (i : Nat) (ds : List AV) (st : St) : St := ⟨bxL i ds st.fr, (st.hp.map (AObj.bx i ds)).set i .dead⟩

theorem RelL.dropN {w : World} {Z : Nat → Prop} {μ : List Value} : ∀ {cs : List AV} {vs : List Value} (k : Nat), RelL w Z μ cs vs → RelL w Z μ (cs.drop k) (vs.drop k)
  | cs, vs, 0, h => by simpa using h
  | [], vs, k + 1, h => by rw [RelL] at h; subst h; simpa using RelL.nil
  | c :: cs, vs, k + 1, h => by
    rw [RelL] at h
    obtain ⟨x, xs, rfl, _, h2⟩ := h
    simpa using RelL.dropN k h2

mutual
theorem Rel.bx {w : World} {Z Z' : Nat → Prop} {μ : List Value} (i : Nat) (ds : List AV) (g : Nat) (xs : List Value) (hz : ∀ b, b < w.heap.size → ¬ Z b → ¬ Z' b) (hu : μ[i]? = some (.pointer (some ⟨g, 0, none⟩))) (hg : ¬ Z' g)
    (hc : ∀ (j : Nat) x, xs[j]? = some x → w.cell? ⟨g, j, none⟩ = some x) (hr : RelL w Z' [] ds xs) : ∀ {c : AV} {v : Value}, Rel w Z μ c v → Rel w Z' μ (bxV i ds c) v
  | .int _ _, _, h => by simpa [Rel, bxV] using h
  | .bool _, _, h => by simpa [Rel, bxV] using h
  | .str _, _, h => by simpa [Rel, bxV] using h
  | .nil, _, h => by simpa [Rel, bxV] using h
  | .top, _, _ => by simp [Rel, bxV]
  | .own _ _ _ _, _, h => by simp [Rel] at h
  | .lst s n cs, v, h => Rel.weak (c := .lst s n cs) hz h
  | .clp s n cs, v, h => Rel.weak (c := .clp s n cs) hz h
  | .nam u o s n cs, v, h => Rel.weak (c := .nam u o s n cs) hz h
  | .rptr cs, v, h => Rel.weak (c := .rptr cs) hz h
  | .ref j, v, h => by simpa [Rel, bxV] using h
  | .ptr j o, v, h => by
    simp only [bxV]
    split
    · rename_i hj
      simp only [Rel] at h ⊢
      obtain ⟨u, g', h1, h2, rfl⟩ := h
      rw [hj, hu] at h1
      cases h1
      simp only [blk, Option.some.injEq] at h2
      subst h2
      refine ⟨⟨g, o, none⟩, xs.drop o, rfl, fun _ => ⟨_, rfl, hg, fun j x hx => ?_⟩, hr.dropN o⟩
      rw [List.getElem?_drop] at hx
      rw [add_lit']
      exact hc _ _ hx
    · simpa [Rel] using h
  | .agg cs, v, h => by
    simp only [Rel, bxV] at h ⊢
    obtain ⟨ys, h1, h2⟩ := h
    exact ⟨ys, h1, RelL.bx i ds g xs hz hu hg hc hr h2⟩
  | .tup cs, v, h => by
    simp only [Rel, bxV] at h ⊢
    obtain ⟨ys, h1, h2⟩ := h
    exact ⟨ys, h1, RelL.bx i ds g xs hz hu hg hc hr h2⟩
  | .fn f cs, v, h => by
    simp only [Rel, bxV] at h ⊢
    obtain ⟨ys, h1, h2⟩ := h
    exact ⟨ys, h1, RelL.bx i ds g xs hz hu hg hc hr h2⟩
theorem RelL.bx {w : World} {Z Z' : Nat → Prop} {μ : List Value} (i : Nat) (ds : List AV) (g : Nat) (xs : List Value) (hz : ∀ b, b < w.heap.size → ¬ Z b → ¬ Z' b) (hu : μ[i]? = some (.pointer (some ⟨g, 0, none⟩))) (hg : ¬ Z' g)
    (hc : ∀ (j : Nat) x, xs[j]? = some x → w.cell? ⟨g, j, none⟩ = some x) (hr : RelL w Z' [] ds xs) : ∀ {cs : List AV} {vs : List Value}, RelL w Z μ cs vs → RelL w Z' μ (bxL i ds cs) vs
  | [], _, h => by simpa [RelL, bxL] using h
  | c :: cs, _, h => by
    simp only [RelL, bxL] at h ⊢
    obtain ⟨x, ys, h1, h2, h3⟩ := h
    exact ⟨x, ys, h1, Rel.bx i ds g xs hz hu hg hc hr h2, RelL.bx i ds g xs hz hu hg hc hr h3⟩
end

theorem Sub.bx (i t : Nat) (ds : List AV) (st : St) (hi : st.hp[i]? = some (.box t ds)) (hl : leafyL ds = true) : Sub st (bxS i ds st) := by
  rintro Z0 w0 a w ⟨μ, F, hFb, hH, hF, hd, hb⟩
  have hil : i < μ.length := by rw [hH.len]; exact (List.getElem?_eq_some_iff.1 hi).1
  obtain ⟨u, hu⟩ : ∃ u, μ[i]? = some u := ⟨_, List.getElem?_eq_getElem hil⟩
  have hO := hH.obj i _ u hi hu
  have hzn := fun g => hH.zone i _ u g hi rfl hu
  obtain ⟨g, xs, rfl, hB, hh, hx⟩ := hO
  have hz : ∀ b, b < w.heap.size → ¬ Zone Z0 F w0.heap.size b → ¬ Zone Z0 (fun b => F b ∨ b = g) w0.heap.size b := fun b _ h => zone_more b h
  have hg : ¬ Zone Z0 (fun b => F b ∨ b = g) w0.heap.size g := fun h => h.elim (fun h => by omega) (fun h => h.2 (.inr rfl))
  have hc : ∀ (j : Nat) x, xs[j]? = some x → w.cell? ⟨g, j, none⟩ = some x := fun j x hx => by
    rw [cell_of_row w _ j _ _ _ hh]; simpa using hx
  have hr : RelL w (Zone Z0 (fun b => F b ∨ b = g) w0.heap.size) [] ds xs := RelL.weak hz (RelL.leafy hl hx)
  refine ⟨μ, fun b => F b ∨ b = g, fun b h => h.elim (hFb b) (fun h => by subst h; exact ⟨hB, (Array.getElem?_eq_some_iff.1 hh).1⟩), ?_, RelL.bx i ds g xs hz hu hg hc hr hF, hd.keep (fun j x hj => ⟨?_, fun u hu => hu⟩), hb⟩
  rotate_left
  · have hne : i ≠ j := by
      rintro rfl
      rw [hi] at hj
      cases hj
    show ((st.hp.map (AObj.bx i ds)).set i .dead)[j]? = _
    rw [List.getElem?_set_ne hne, List.getElem?_map, hj]
    rfl
  have get : ∀ (j : Nat) o, ((st.hp.map (AObj.bx i ds)).set i .dead)[j]? = some o → o = .dead ∨ (j ≠ i ∧ ∃ o', st.hp[j]? = some o' ∧ o = o'.bx i ds) := by
    intro j o ho
    by_cases hj : j = i
    · subst hj
      rw [List.getElem?_set_self (by simpa using (List.getElem?_eq_some_iff.1 hi).1)] at ho
      simp at ho
      exact .inl ho.symm
    · rw [List.getElem?_set_ne (Ne.symm hj), List.getElem?_map, Option.map_eq_some_iff] at ho
      obtain ⟨o', h1, rfl⟩ := ho
      exact .inr ⟨hj, o', h1, rfl⟩
  refine ⟨by simp [bxS, hH.len], fun j o v g' h1 ha h2 hg' => ?_, hH.one, fun j o v h1 h2 => ?_, fun j k oj ok uj uk g' hne h1 h2 a1 a2 m1 m2 b1 b2 => ?_⟩
  · rcases get j o h1 with rfl | ⟨hj, o', ho, rfl⟩
    · cases ha
    · rw [AObj.bx_alive] at ha
      have h3 := hH.zone j o' v g' ho ha h2 hg'
      exact h3.elim .inl (fun h => .inr ⟨h.1, fun hf => hf.elim h.2 (fun h4 => hH.sep i j _ o' _ v g' (Ne.symm hj) hi ho rfl ha hu h2 (by rw [h4]; rfl) hg')⟩)
  · rcases get j o h1 with rfl | ⟨hj, o', ho, rfl⟩
    · trivial
    · have hO := hH.obj j o' v ho h2
      cases o' with
      | box t es => obtain ⟨g', ys, e1, e2, e3, e4⟩ := hO; exact ⟨g', ys, e1, e2, e3, RelL.bx i ds g xs hz hu hg hc hr e4⟩
      | list e s n es => obtain ⟨ys, e1, e2⟩ := hO; exact ⟨ys, e1, e2.weak hz⟩
      | dead => trivial
      | frame us es => exact RelL.bx i ds g xs hz hu hg hc hr hO
      | inert x => exact InertRel.keep (fun b h1 h2 => ⟨rfl, hz b h1 h2⟩) hO
  · rcases get j oj h1 with rfl | ⟨hj, o1, ho1, rfl⟩
    · cases a1
    · rcases get k ok h2 with rfl | ⟨hk, o2, ho2, rfl⟩
      · cases a2
      · rw [AObj.bx_alive] at a1 a2
        exact hH.sep j k o1 o2 uj uk g' hne ho1 ho2 a1 a2 m1 m2 b1 b2

def bxM (i : Nat) (m : M) : M :=
  match m.st.hp[i]? with
  | some (.box _ ds) => if leafyL ds then ⟨m.ks, bxS i ds m.st⟩ else m
  | _ => m

theorem R.bx {rd : Option Nat} {P : Program} {m : M} {Q : Exit → St → Prop} (i : Nat) (h : subOk m = true) (h' : Runs rd P (bxM i m) Q) : Runs rd P m Q := by
  unfold bxM at h'
  split at h'
  · rename_i t ds hi
    split at h'
    · exact R.sub _ h (Sub.bx i t ds m.st hi (by assumption)) h'
    · exact h'
  · exact h'

/-! ### The record of a function's loop over a function -/
end Go.Abs


/-! The machine's rules: slices without spare room; ways that meet again. -/
namespace Go.Abs
open Go.RowKit Go.ChangeShapes Go.WideShapes Go.Deep

section
variable {rd : Option Nat} {P : Program} {m : M} {Q : Exit → St → Prop} {α : Type}

/-! ### Rows of slices, all nil at first -/
/-! ### A part of a tuple that may come first -/
/-! ### Ways that meet again -/
def meetQ (S : St) : Exit → St → Prop := fun e st => e = .normal ∧ st = S
def mtAt (m : M) : Bool :=
  match m.ks with
  | .code _ :: _ => true
  | _ => false

theorem R.meet (S : St) (h : mtAt m = true) (h1 : Runs rd P ⟨m.ks.take 1, m.st⟩ (meetQ S)) (h2 : Runs rd P ⟨m.ks.tail, S⟩ Q) : Runs rd P m Q := by
  obtain ⟨ks, st⟩ := m
  unfold mtAt at h
  simp only [runs_iff] at h h1 h2 ⊢
  split at h
  · rename_i c ks'
    simp only [List.take_succ_cons, List.take_zero, List.tail_cons, RunsK] at h1 h2 ⊢
    refine h1.mono ?_
    rintro e st' ⟨rfl, rfl⟩
    exact h2
  · cases h

theorem R.met {S : St} (h : m.ks = []) (hs : m.st = S) : Runs rd P m (meetQ S) := by
  obtain ⟨ks, st⟩ := m
  simp only at h hs
  subst h hs
  rw [runs_iff]
  exact ⟨rfl, rfl⟩

end

/-! ### Rows of rows of pairs, handed to a law -/
section
variable {H : Type} {enc : TypeId × Value → H} {P : Program} {w : World} {base : Nat} {spare : Nat → Bool} {held : Bool}

end

end Go.Abs


/-! The machine's rules: the end of a row is cleared. -/
namespace Go.Abs
open Go.RowKit

theorem set_self {α : Type} {xs : List α} {i : Nat} {x : α} (h : xs[i]? = some x) : xs.set i x = xs := by
  apply List.ext_getElem?
  intro j
  by_cases e : i = j
  · subst e
    rw [List.getElem?_set_self (List.getElem?_eq_some_iff.1 h).1, h]
  · rw [List.getElem?_set_ne e]

section
variable {rd : Option Nat} {P : Program} {Q : Exit → St → Prop}

/-- The slice of a row of one's own from l on is laid into d, and cleared. -/
theorem OpsQ.clr {all : Array Oper} {o1 o2 : Oper} {rest : List Oper} {fr : List AV} {hp : List AObj} {R : Exit → St → Prop} {t d i el s n by_ l : Nat} {k : IntKind} {x lo : Operand} {cs zs : List AV}
    (g1 : o1.guard = none) (p1 : o1.op = .slice t x (some lo) none none) (d1 : o1.dst = some d) (g2 : o2.guard = none) (p2 : o2.op = .call { callee := .builtin .clear, args := #[.tmp d], argTypes := #[t] })
    (hx : ev fr x = .ref i) (hlo : ev fr lo = .int k l) (hr : rowB P t = some (el, s, zs, by_)) (hi : hp[i]? = some (.list el s n cs)) (hl : l ≤ n) (hd : d < fr.length)
    (h1 : ∀ c ∈ zerosA zs s (n - l), c.one = true) (h2 : leafyL (zerosA zs s (n - l)) = true)
    (h' : OpsQ rd P all rest ⟨putF (putF fr (some d) .top) o2.dst (.tup []), hp.set i (.list el s n (setMany cs (l * s) (zerosA zs s (n - l))))⟩ R) :
    OpsQ rd P all (o1 :: o2 :: rest) ⟨fr, hp⟩ R := by
  intro Z0 w0 a w hS
  obtain ⟨μ, F, hFb, hH, hF, hdf, hb⟩ := hS
  have hB := hb.size
  have hZn := zone_new (Z0 := Z0) hB hFb
  obtain ⟨info, z, hu, hinf, hz, rfl, rfl, hzs, hs0, rfl⟩ := row_parts hr
  have hxv := hx ▸ ev_rel hF x
  simp only [Rel] at hxv
  have hlv := rel_int (hlo ▸ ev_rel hF lo)
  have hsize : d < a.tmps.size := by
    have : a.tmps.size = fr.length := by simpa using hF.length
    omega
  have hel : elemB P t = some (el, info.size) := by
    unfold elemB
    rw [hu]
    simp [hinf]
  obtain ⟨xs, hown, hrx⟩ := hH.obj i _ _ hi hxv
  have hlen := hrx.length
  have hcl := hown.1
  -- what a state behind the clearing needs
  have main : ∀ v, (Instr.sliceAt t (a.eval x) (some (.int k l)) none none).run P w = .ok v w →
      (∃ w', (Builtin.clear_ #[t] o2.type #[v]).run P w = .ok (.tuple #[]) w' ∧ HRel w' (Zone Z0 F w0.heap.size) w0.heap.size μ (hp.set i (.list el info.size n (setMany cs (l * info.size) (zerosA (z.cells.toList.map ofConst) info.size (n - l))))) ∧
        Below w0.heap.size w w' ∧ (∀ b, b < w.heap.size → ¬ Zone Z0 F w0.heap.size b → w'.heap[b]? = w.heap[b]?) ∧ w.heap.size ≤ w'.heap.size) →
      wpListIn (Fc rd) 0 P all (fun e a' w' => ∃ st', R e st' ∧ Sim Z0 w0 st' a' w') (o1 :: o2 :: rest) a w := by
    rintro v hv ⟨w', hc, hH', hbel, hk, hsz⟩
    refine wpListIn_plain g1 fun K1 hK1 => ?_
    refine wpIn_of_run (fun c h => by rw [p1] at h; cases h) ?_
    have e1 : (execOp a.eval o1).run P w = .ok (.value v) w := by
      simp only [execOp, p1, hlv, Option.map_some, Option.map_none, Sem.run_bind, hv, Result.andThen_ok, Sem.run_pure]
    rw [e1]
    refine hK1 _ _ ?_
    refine wpListIn_plain g2 fun K2 hK2 => ?_
    refine wpIn_of_run (fun c h => by rw [p2] at h; cases h) ?_
    have ed : (a.put o1.dst v).eval (.tmp d) = v := by
      rw [d1]
      simp [Act.put, Act.eval, hsize]
    have e2 : (execOp (a.put o1.dst v).eval o2).run P w = .ok (.value (.tuple #[])) w' := by
      simp only [execOp, p2, resolve, List.map_toArray, List.map_cons, List.map_nil, ed, Sem.run_bind, Sem.run_pure, Result.andThen_ok, invoke, builtin, hc]
    rw [e2]
    refine hK2 _ _ (h' Z0 w0 _ _ ⟨μ, F, fun b h => ⟨(hFb b h).1, Nat.lt_of_lt_of_le (hFb b h).2 hsz⟩, hH', ?_, ?_, hb.trans hbel⟩)
    · refine put_rel ?_ _ (by simp only [Rel]; exact ⟨[], rfl, RelL.nil⟩)
      rw [← d1]
      exact put_rel (hF.keep hk (fun _ _ h => h)) _ (by simp [Rel])
    · rw [put_defers', put_defers']
      refine hdf.keep fun j y hj => ⟨?_, fun u hu => hu⟩
      rw [List.getElem?_set_ne (by rintro rfl; rw [hi] at hj; cases hj)]
      exact hj
  have hlz : (zerosA (z.cells.toList.map ofConst) info.size (n - l)).length = (n - l) * info.size := by simp [zerosA]
  have hmul : l * info.size + (n - l) * info.size = n * info.size := by rw [← Nat.add_mul]; congr 1; omega
  have hun : (underlying t).run P w = .ok (.slice el) w := run_underlying hu w
  rcases hown.2 with ⟨hv0, rfl⟩ | ⟨g, cap, cur, hv0, hB2, hg, hnc, hcm, hcs, htk⟩
  · have hl0 : l = 0 := by omega
    subst hl0
    have hb0 := run_sliceAt (P := P) hel none 0 0 (some (.int k ((0 : Nat) : Int))) none none 0 0 0 (fun w => by
      have hbb : (Instr.sliceBound (.int k ((0 : Nat) : Int)) 0 .sliceB).run P w = .ok 0 w := run_bound (P := P) k 0 0 .sliceB (Nat.le_refl _) w
      simp [Instr.sliceBounds] at hbb ⊢; simp [hbb]) w
    rw [hv0] at *
    refine main _ hb0 ⟨w, by simp [Builtin.clear_, run_underlying hu], ?_, Below.refl _ _, fun _ _ _ => rfl, Nat.le_refl _⟩
    have ecs : cs = [] := List.eq_nil_of_length_eq_zero (by rw [← hlen, hcl]; simp)
    have hset : hp.set i (.list el info.size 0 (setMany cs (0 * info.size) (zerosA (z.cells.toList.map ofConst) info.size (0 - 0)))) = hp := by
      rw [ecs]
      have : setMany ([] : List AV) (0 * info.size) (zerosA (z.cells.toList.map ofConst) info.size (0 - 0)) = [] := by simp [setMany, zerosA]
      rw [this, ← ecs]
      exact set_self hi
    rw [hset]
    exact hH
  · rw [hv0] at hxv
    have hb0 := run_sliceAt (P := P) hel (some ⟨g, 0, none⟩) n cap (some (.int k l)) none none l n cap (fun w => by simp [Instr.sliceBounds, run_bound (P := P) k l n _ hl]) w
    rw [← hv0] at hb0
    rcases Nat.lt_or_ge l n with hln | hln
    · have hne : ¬ cap = l := by omega
      rw [if_neg hne] at hb0
      have hadd : (some (⟨g, 0, none⟩ : Addr)).map (·.add (l * info.size)) = some ⟨g, l * info.size, none⟩ := by simp [add_lit']
      refine main _ hb0 ?_
      have hpos : 0 < (n - l) * info.size := Nat.mul_pos (by omega) hs0
      have hval : (Builtin.zeroCells z.cells (n - l)).toList = (List.range ((n - l) * info.size)).map fun j => z.cells[j % info.size]! := by simp [Builtin.zeroCells, hzs]
      have hzr : RelL w (Zone Z0 F w0.heap.size) μ (zerosA (z.cells.toList.map ofConst) info.size (n - l)) (Builtin.zeroCells z.cells (n - l)).toList := by
        rw [hval]
        exact zeros_rel z.cells info.size (n - l) hzs hs0 _ (fun j _ => rfl)
      obtain ⟨w', hst, hH', hbel, hk, hsz⟩ := store_obj (P := P) hH hZn (o := l * info.size) hi hxv (g := g) rfl hzr (ones_rel hH.one h1 hzr) (by simp only [AObj.cells]; rw [hlz, ← hlen, hcl]; omega) (by intro h; rw [h] at hlz; simp at hlz; omega) (by simp [h2])
      refine ⟨w', ?_, hH', hbel, hk, hsz⟩
      have hnl : ∃ q, n - l = q + 1 := ⟨n - l - 1, by omega⟩
      obtain ⟨q, hq⟩ := hnl
      rw [hadd]
      rw [hq] at hst ⊢
      simp [Builtin.clear_, run_underlying hu, zeroValue, typeInfo, hinf, hz, hst]
    · have e : n - l = 0 := by omega
      refine main _ hb0 ⟨w, ?_, ?_, Below.refl _ _, fun _ _ _ => rfl, Nat.le_refl _⟩
      · rw [e]
        by_cases ec : cap = l <;> simp [Builtin.clear_, run_underlying hu, ec]
      · have hset : hp.set i (.list el info.size n (setMany cs (l * info.size) (zerosA (z.cells.toList.map ofConst) info.size (n - l)))) = hp := by
          have : setMany cs (l * info.size) (zerosA (z.cells.toList.map ofConst) info.size (n - l)) = cs := by
            rw [e]
            simp [setMany, zerosA]
          rw [this]
          exact set_self hi
        rw [hset]
        exact hH

def clrAt (P : Program) (m : M) : Option (Nat × Nat × Nat × Nat × List AV × List AV × Int) :=
  match m.ks with
  | .ops _ (o1 :: o2 :: _) _ :: _ => match o1.op, o2.op with
    | .slice t x (some lo) none none, .call c => match c.callee, c.args.toList, c.argTypes.toList with
      | .builtin .clear, [.tmp d], [t'] =>
        if decide (t' = t) && o1.guard.isNone && o2.guard.isNone && decide (o1.dst = some d) && decide (d < m.st.fr.length) then
          match ev m.st.fr x, ev m.st.fr lo, rowB P t with
          | .ref i, .int _ l, some (el, s, zs, _) => match m.st.hp[i]? with
            | some (.list el' s' n cs) => if el' = el ∧ s' = s then some (i, el, s, n, cs, zs, l) else none
            | _ => none
          | _, _, _ => none
        else none
      | _, _, _ => none
    | _, _ => none
  | _ => none

def clrM (m : M) (hp : List AObj) : M :=
  match m.ks with
  | .ops all (o1 :: o2 :: l) _ :: ks => ⟨.ops all l false :: ks, ⟨putF (putF m.st.fr o1.dst .top) o2.dst (.tup []), hp⟩⟩
  | _ => m

theorem setMany_tail {α : Type} {E : α → List AV} (xs : List α) (d : α) {l : Nat} (hE : ∀ x, (E x).length = (E d).length) (h1 : l ≤ xs.length) :
    setMany (rows E xs) (l * (E d).length) (zerosA (E d) (E d).length (xs.length - l)) = rows E (xs.take l ++ List.replicate (xs.length - l) d) := by
  rw [zerosA_rows, rows_append, setMany, rows_take hE, rows_length hE, List.length_replicate]
  have e : l * (E d).length + (xs.length - l) * (E d).length = xs.length * (E d).length := by rw [← Nat.add_mul]; congr 1; omega
  rw [e, List.drop_of_length_le (by rw [rows_length hE]; exact Nat.le_refl _), List.append_nil]

theorem R.clr {α : Type} {m : M} (E : α → List AV) (d : α) (xs : List α) (i el l : Nat) (li : Int) (h : clrAt P m = some (i, el, (E d).length, xs.length, rows E xs, E d, li)) (hl : li = (l : Int)) (hE : ∀ x, (E x).length = (E d).length) (hE1 : ∀ x, (E x).all AV.one = true)
    (hE2 : ∀ x, leafyL (E x) = true) (h1 : l ≤ xs.length) (h' : Runs rd P (clrM m (m.st.hp.set i (.list el (E d).length (xs.take l ++ List.replicate (xs.length - l) d).length (rows E (xs.take l ++ List.replicate (xs.length - l) d))))) Q) : Runs rd P m Q := by
  subst hl
  obtain ⟨ks, ⟨fr, hp⟩⟩ := m
  unfold clrAt at h
  simp only at h
  split at h
  · rename_i all o1 o2 rest f ks'
    split at h
    · rename_i t x lo c hp1 hp2
      obtain ⟨callee, args, tys⟩ := c
      simp only at h
      split at h
      · rename_i d0 t' ha hb
        split at h
        · rename_i hc
          simp only [Bool.and_eq_true, decide_eq_true_eq, Option.isNone_iff_eq_none] at hc
          obtain ⟨⟨⟨⟨rfl, g1⟩, g2⟩, hd1⟩, hd⟩ := hc
          split at h
          · rename_i i0 k0 l0 el0 s0 zs0 b0 hx hlo hr
            split at h
            · rename_i el1 s1 n1 cs1 hi
              split at h
              · rename_i he
                obtain ⟨rfl, rfl⟩ := he
                simp only [Option.some.injEq, Prod.mk.injEq] at h
                obtain ⟨rfl, rfl, rfl, rfl, rfl, rfl, rfl⟩ := h
                have ea : args = #[.tmp d0] := Array.toList_inj.1 ha
                have et : tys = #[t'] := Array.toList_inj.1 hb
                subst ea
                subst et
                rw [runs_iff] at h' ⊢
                simp only [clrM, RunsK] at h' ⊢
                have hlen : (xs.take l ++ List.replicate (xs.length - l) d).length = xs.length := by simp; omega
                rw [hlen, ← setMany_tail xs d hE h1] at h'
                intro _
                refine OpsQ.clr g1 hp1 hd1 g2 hp2 hx hlo hr hi h1 hd ?_ ?_ ?_
                · rw [zerosA_rows]
                  exact fun c hc => List.all_eq_true.1 (rows_all hE1 _) c hc
                · rw [zerosA_rows]
                  exact leafyL_rows hE2 _
                · rw [← hd1]
                  exact h' headW_false
              · cases h
            · cases h
          · cases h
        · cases h
      · cases h
    · cases h
  · cases h
end
end Go.Abs


/-! Rows filtered in place; antichains. -/
namespace Go.Proofs.YtalfakdiinhdnaaGreat
open Go.RowKit Go.Abs

def ANT (xs : List Int) (m : Int) (i : Nat) : Prop := tb m i = true → band (xs.getD i 0) m = shl64 1 (i : Int)
instance (xs : List Int) (m : Int) (i : Nat) : Decidable (ANT xs m i) := by unfold ANT; infer_instance
theorem fidx_none {p q : Int → Bool} (hq : ∀ x, p x = !q x) : ∀ {a : List Int} {i : Int}, 0 ≤ i → fidxI p a i = -1 → a.filter q = a
  | [], _, _, _ => rfl
  | x :: a, i, h0, h => by
    rw [fidxI] at h
    split at h
    · omega
    · rename_i hp
      have : q x = true := by have := hq x; cases e : q x <;> simp_all
      rw [List.filter_cons, if_pos this, fidx_none hq (by omega) h]
theorem fidx_some {p q : Int → Bool} (hq : ∀ x, p x = !q x) : ∀ {a : List Int} {i k : Int}, fidxI p a i = k → ¬ k = -1 → 0 ≤ i → i ≤ k ∧ (k - i).toNat < a.length ∧ (a.take (k - i + 1).toNat).filter q = a.take (k - i).toNat
  | [], i, k, h, hk, h0 => by rw [fidxI] at h; omega
  | x :: a, i, k, h, hk, h0 => by
    rw [fidxI] at h
    split at h
    · rename_i hp
      subst h
      have : q x = false := by have := hq x; cases e : q x <;> simp_all
      refine ⟨Int.le_refl _, by simp, ?_⟩
      rw [show (i - i + 1).toNat = 1 by omega, show (i - i).toNat = 0 by omega]
      simp [this]
    · rename_i hp
      have hqx : q x = true := by have := hq x; cases e : q x <;> simp_all
      obtain ⟨h1, h2, h3⟩ := fidx_some hq h hk (by omega)
      refine ⟨by omega, by simp; omega, ?_⟩
      rw [show (k - i + 1).toNat = (k - (i + 1) + 1).toNat + 1 by omega, show (k - i).toNat = (k - (i + 1)).toNat + 1 by omega, List.take_succ_cons, List.take_succ_cons, List.filter_cons, if_pos hqx, h3]
theorem fidx_start {p q : Int → Bool} (hq : ∀ x, p x = !q x) {a : List Int} (h : ¬ fidxI p a 0 = -1) : 0 ≤ fidxI p a 0 ∧ (fidxI p a 0).toNat < a.length ∧ a.take (fidxI p a 0).toNat = (a.take (fidxI p a 0 + 1).toNat).filter q := by
  obtain ⟨h1, h2, h3⟩ := fidx_some hq (k := fidxI p a 0) rfl h (Int.le_refl 0)
  refine ⟨h1, by simpa using h2, ?_⟩
  have h4 := h3.symm
  simpa using h4
theorem del_keep {q : Int → Bool} {a r : List Int} {i j : Nat} (hl : r.length = a.length) (hi : i ≤ j) (hj : j < a.length) (h1 : r.take i = (a.take j).filter q) (h2 : r.drop j = a.drop j) (hq : q (r.getD j 0) = true) :
    (r.set i (r.getD j 0)).take (i + 1) = (a.take (j + 1)).filter q ∧ (r.set i (r.getD j 0)).drop (j + 1) = a.drop (j + 1) ∧ (r.set i (r.getD j 0)).length = a.length := by
  have e : r.getD j 0 = a.getD j 0 := by
    have := congrArg (fun l : List Int => l.getD 0 0) h2
    simpa [List.getD_eq_getElem?_getD, List.getElem?_drop] using this
  refine ⟨?_, ?_, by rw [List.length_set, hl]⟩
  · rw [List.take_succ_eq_append_getElem (by rw [List.length_set]; omega), List.take_set_of_le (Nat.le_refl _), h1, List.getElem_set_self, List.take_succ_eq_append_getElem hj, List.filter_append]
    have e2 : a[j] = r.getD j 0 := by rw [e, List.getD_eq_getElem?_getD, List.getElem?_eq_getElem hj]; rfl
    have e3 : List.filter q [r.getD j 0] = [r.getD j 0] := by rw [List.filter_cons, if_pos hq]; rfl
    rw [e2, e3]
  · rw [List.drop_set_of_lt (by omega)]
    have := congrArg (fun l : List Int => l.drop 1) h2
    simpa [List.drop_drop] using this
theorem del_skip {q : Int → Bool} {a r : List Int} {i j : Nat} (hl : r.length = a.length) (hj : j < a.length) (h1 : r.take i = (a.take j).filter q) (h2 : r.drop j = a.drop j) (hq : q (r.getD j 0) = false) :
    r.take i = (a.take (j + 1)).filter q ∧ r.drop (j + 1) = a.drop (j + 1) := by
  have e : r.getD j 0 = a.getD j 0 := by
    have := congrArg (fun l : List Int => l.getD 0 0) h2
    simpa [List.getD_eq_getElem?_getD, List.getElem?_drop] using this
  refine ⟨?_, ?_⟩
  · rw [h1, List.take_succ_eq_append_getElem hj, List.filter_append]
    have e2 : a[j] = r.getD j 0 := by rw [e, List.getD_eq_getElem?_getD, List.getElem?_eq_getElem hj]; rfl
    have e3 : List.filter q [r.getD j 0] = [] := by rw [List.filter_cons, if_neg (by rw [hq]; decide)]; rfl
    rw [e2, e3, List.append_nil]
  · have := congrArg (fun l : List Int => l.drop 1) h2
    simpa [List.drop_drop] using this
end Go.Proofs.YtalfakdiinhdnaaGreat


/-! Formulas as trees: where parts end; values by a stack (any words). -/
namespace Go.Proofs.YtalfakdiinhdnaaGreat
open Go.RowKit Go.Abs

/-- How many nodes the first o parts take. -/
def pe : Nat → List (Int × Int) → Option Nat
  | 0, _ => some 0
  | _ + 1, [] => none
  | o + 1, x :: l => (pe (o + partsN x.1) l).map (· + 1)
theorem pe_zero (l : List (Int × Int)) : pe 0 l = some 0 := by cases l <;> rfl
theorem pe_succ (o : Nat) (x : Int × Int) (l : List (Int × Int)) : pe (o + 1) (x :: l) = (pe (o + partsN x.1) l).map (· + 1) := rfl
section
variable (b : Int → Int → Int → Int) (u : Int → Int → Int) (vs : List Int)
/-! The stack from behind. -/
variable {b u vs}
end

end Go.Proofs.YtalfakdiinhdnaaGreat


/-! Which lists are formulas; their variables. -/
namespace Go.Proofs.YtalfakdiinhdnaaGreat
open Go.RowKit Go.Abs

def modN (x : Int × Int) : Bool := decide (x.1 = 5 ∨ x.1 = 6)
end Go.Proofs.YtalfakdiinhdnaaGreat


/-! Calls that change the caller's objects: under a further frame; with objects left out. -/
namespace Go.Abs
open Go.RowKit

theorem idx_range {n i : Nat} (h : i < n) : (List.range n).idxOf i = i := by
  have hm : i ∈ List.range n := List.mem_range.2 h
  have hlt := List.idxOf_lt_length_iff.2 hm
  have := List.getElem_idxOf hlt
  rw [List.getElem_range] at this
  exact this

mutual
theorem Rel.mix {w w' : World} {Z Z' : Nat → Prop} {μ μ1 μ2 : List Value} {n : Nat} (hA : ∀ (i : Nat) u, i < n → μ1[i]? = some u → μ2[i]? = some u) (hB : ∀ (i : Nat) u, n ≤ i → μ[i]? = some u → μ2[i]? = some u) :
    ∀ {c : AV} {v : Value}, Rel w Z μ c v → Rel w' Z' μ1 (c.ren (List.range n)) v → Rel w' Z' μ2 c v
  | .int _ _, _, _, h => by simpa [Rel, AV.ren] using h
  | .bool _, _, _, h => by simpa [Rel, AV.ren] using h
  | .str _, _, _, h => by simpa [Rel, AV.ren] using h
  | .nil, _, _, h => by simpa [Rel, AV.ren] using h
  | .top, _, _, _ => by simp [Rel]
  | .own _ _ _ _, _, h, _ => by simp [Rel] at h
  | .lst _ _ _, _, _, h => by simpa [Rel, AV.ren] using h
  | .clp _ _ _, _, _, h => by simpa [Rel, AV.ren] using h
  | .nam _ _ _ _ _, _, _, h => by simpa [Rel, AV.ren] using h
  | .rptr _, _, _, h => by simpa [Rel, AV.ren] using h
  | .ref i, v, h1, h2 => by
    simp only [Rel] at h1 ⊢
    rcases Nat.lt_or_ge i n with hi | hi
    · have hc : (List.range n).contains i = true := by simpa using hi
      simp only [AV.ren, hc, if_true, idx_range hi, Rel] at h2
      exact hA i v hi h2
    · exact hB i v hi h1
  | .ptr i o, v, h1, h2 => by
    simp only [Rel] at h1 ⊢
    rcases Nat.lt_or_ge i n with hi | hi
    · have hc : (List.range n).contains i = true := by simpa using hi
      simp only [AV.ren, hc, if_true, idx_range hi, Rel] at h2
      obtain ⟨u, g, e1, e2, e3⟩ := h2
      exact ⟨u, g, hA i u hi e1, e2, e3⟩
    · obtain ⟨u, g, e1, e2, e3⟩ := h1
      exact ⟨u, g, hB i u hi e1, e2, e3⟩
  | .agg cs, v, h1, h2 => by
    simp only [Rel, AV.ren] at h1 h2 ⊢
    obtain ⟨xs, e1, r1⟩ := h1
    obtain ⟨ys, e2, r2⟩ := h2
    rw [e1] at e2
    simp only [Value.agg.injEq] at e2
    have e3 : xs = ys := by simpa using e2
    subst e3
    exact ⟨xs, e1, RelL.mix hA hB r1 r2⟩
  | .tup cs, v, h1, h2 => by
    simp only [Rel, AV.ren] at h1 h2 ⊢
    obtain ⟨xs, e1, r1⟩ := h1
    obtain ⟨ys, e2, r2⟩ := h2
    rw [e1] at e2
    simp only [Value.tuple.injEq] at e2
    have e3 : xs = ys := by simpa using e2
    subst e3
    exact ⟨xs, e1, RelL.mix hA hB r1 r2⟩
  | .fn f cs, v, h1, h2 => by
    simp only [Rel, AV.ren] at h1 h2 ⊢
    obtain ⟨xs, e1, r1⟩ := h1
    obtain ⟨ys, e2, r2⟩ := h2
    rw [e1] at e2
    simp only [Value.func.injEq, true_and] at e2
    have e3 : xs = ys := by simpa using e2
    subst e3
    exact ⟨xs, e1, RelL.mix hA hB r1 r2⟩
theorem RelL.mix {w w' : World} {Z Z' : Nat → Prop} {μ μ1 μ2 : List Value} {n : Nat} (hA : ∀ (i : Nat) u, i < n → μ1[i]? = some u → μ2[i]? = some u) (hB : ∀ (i : Nat) u, n ≤ i → μ[i]? = some u → μ2[i]? = some u) :
    ∀ {cs : List AV} {vs : List Value}, RelL w Z μ cs vs → RelL w' Z' μ1 (renL (List.range n) cs) vs → RelL w' Z' μ2 cs vs
  | [], _, _, h => by simpa [RelL, renL] using h
  | c :: cs, _, h1, h2 => by
    simp only [RelL, renL] at h1 h2 ⊢
    obtain ⟨x, xs, e1, a1, b1⟩ := h1
    obtain ⟨y, ys, e2, a2, b2⟩ := h2
    rw [e1] at e2
    simp only [List.cons.injEq] at e2
    obtain ⟨rfl, rfl⟩ := e2
    exact ⟨x, xs, e1, Rel.mix hA hB a1 a2, RelL.mix hA hB b1 b2⟩
end

/-- One object more, of which nothing is known. -/
theorem HRel.addDead {w : World} {Z : Nat → Prop} {B : Nat} {μ : List Value} {hp : List AObj} (h : HRel w Z B μ hp) (u : Value) (hu : u.oneCell' = true) : HRel w Z B (μ ++ [u]) (hp ++ [.dead]) := by
  have split : ∀ (i : Nat) oi ui, (hp ++ [.dead])[i]? = some oi → (μ ++ [u])[i]? = some ui → (hp[i]? = some oi ∧ μ[i]? = some ui) ∨ oi = .dead := by
    intro i oi ui h1 h2
    rcases Nat.lt_or_ge i hp.length with hi | hi
    · rw [List.getElem?_append_left hi] at h1
      rw [List.getElem?_append_left (by rw [h.len]; exact hi)] at h2
      exact .inl ⟨h1, h2⟩
    · rw [List.getElem?_append_right hi] at h1
      rcases Nat.eq_zero_or_pos (i - hp.length) with h0 | h0
      · rw [h0] at h1; simp at h1; exact .inr h1.symm
      · rw [List.getElem?_eq_none (by simp; omega)] at h1; cases h1
  refine ⟨by simp [h.len], fun i oi ui g h1 ha h2 hg => ?_, fun i x hx => ?_, fun i oi ui h1 h2 => ?_, fun i j oi oj ui uj g hne h1 h2 a1 a2 m1 m2 b1 b2 => ?_⟩
  · rcases split i oi ui h1 h2 with ⟨e1, e2⟩ | rfl
    · exact h.zone i oi ui g e1 ha e2 hg
    · cases ha
  · rcases Nat.lt_or_ge i μ.length with hi | hi
    · rw [List.getElem?_append_left hi] at hx
      exact h.one i x hx
    · rw [List.getElem?_append_right hi] at hx
      rcases Nat.eq_zero_or_pos (i - μ.length) with h0 | h0
      · rw [h0] at hx; simp at hx; rw [← hx]; exact hu
      · rw [List.getElem?_eq_none (by simp; omega)] at hx; cases hx
  · rcases split i oi ui h1 h2 with ⟨e1, e2⟩ | rfl
    · exact (h.obj i oi ui e1 e2).keep (fun _ _ _ => rfl) (fun i u hu => append_old i u hu) (fun _ _ => rfl)
    · trivial
  · rcases split i oi ui h1 m1 with ⟨e1, e2⟩ | rfl
    · rcases split j oj uj h2 m2 with ⟨e3, e4⟩ | rfl
      · exact h.sep i j oi oj ui uj g hne e1 e3 a1 a2 e2 e4 b1 b2
      · cases a2
    · cases a1

/-- A caller's frame where nothing is known. -/
theorem HRel.frameAt {w : World} {Z : Nat → Prop} {B n : Nat} {μ : List Value} {hp : List AObj} {us : List Value} {fr : List AV} (h : HRel w Z B μ hp) (hd : hp[n]? = some .dead) (hr : RelL w Z μ fr us) : HRel w Z B μ (hp.set n (.frame us fr)) := by
  have hn := (List.getElem?_eq_some_iff.1 hd).1
  have get : ∀ (i : Nat) oi, (hp.set n (.frame us fr))[i]? = some oi → oi = .frame us fr ∨ hp[i]? = some oi := by
    intro i oi h1
    by_cases e : n = i
    · subst e
      rw [List.getElem?_set_self hn] at h1
      simp at h1; exact .inl h1.symm
    · rw [List.getElem?_set_ne e] at h1; exact .inr h1
  refine ⟨by rw [List.length_set]; exact h.len, fun i oi ui g h1 ha h2 hg => ?_, h.one, fun i oi ui h1 h2 => ?_, fun i j oi oj ui uj g hne h1 h2 a1 a2 m1 m2 b1 b2 => ?_⟩
  · rcases get i oi h1 with rfl | h1
    · cases ha
    · exact h.zone i oi ui g h1 ha h2 hg
  · rcases get i oi h1 with rfl | h1
    · exact hr
    · exact h.obj i oi ui h1 h2
  · rcases get i oi h1 with rfl | h1
    · cases a1
    · rcases get j oj h2 with rfl | h2
      · cases a2
      · exact h.sep i j oi oj ui uj g hne h1 h2 a1 a2 m1 m2 b1 b2

def renH (js : List Nat) (hp : List AObj) : List AObj := js.map fun i => (hp.getD i .dead).ren js
/-- The caller's frame laid between the n objects of the call and those that the call has made. -/
def insJ (n m : Nat) : List Nat := List.range n ++ (m :: (List.range (m - n)).map (· + n))
def insF (n : Nat) (us : List Value) (fr : List AV) (hp : List AObj) : List AObj := (renH (insJ n hp.length) (hp ++ [.dead])).set n (.frame us fr)

theorem insJ_nodup {n m : Nat} (h : n ≤ m) : (insJ n m).Nodup := by
  unfold insJ
  rw [List.nodup_append]
  refine ⟨List.nodup_range, ?_, ?_⟩
  · rw [List.nodup_cons]
    refine ⟨?_, ?_⟩
    · intro hm
      rw [List.mem_map] at hm
      obtain ⟨k, hk, e⟩ := hm
      rw [List.mem_range] at hk
      omega
    · rw [List.nodup_iff_pairwise_ne, List.pairwise_map]
      exact List.nodup_range.imp fun h e => h (by omega)
  · intro a ha b hb e
    rw [List.mem_range] at ha
    rw [List.mem_cons, List.mem_map] at hb
    rcases hb with hb | ⟨k, _, hk⟩ <;> omega

theorem CallS.frame {P : Program} {f : FuncId} {args : List AV} {hp : List AObj} {res : AV} {hp' : List AObj} (us2 : List Value) (fr2 : List AV) (hc : CallS P f args hp res hp') (h1 : renH (List.range hp.length) hp = hp)
    (h2 : renL (List.range hp.length) args = args) (h3 : hp.length ≤ hp'.length) : CallS P f args (hp ++ [.frame us2 fr2]) (res.ren (insJ hp.length hp'.length)) (insF hp.length us2 fr2 hp') := by
  obtain ⟨hen, hc⟩ := hc
  refine ⟨hen, ?_⟩
  intro Z0 F w0 w μ vs us fr hFb hH hvs hus hbel
  have hml : μ.length = hp.length + 1 := by rw [hH.len]; simp
  have hH0 := hH.ren (List.range hp.length) List.nodup_range
  have e0 : ((List.range hp.length).map fun i => ((hp ++ [AObj.frame us2 fr2]).getD i .dead).ren (List.range hp.length)) = hp := by
    refine Eq.trans (List.map_congr_left fun i hi => ?_) h1
    have hi := List.mem_range.1 hi
    simp only [List.getD_eq_getElem?_getD]
    rw [List.getElem?_append_left hi]
  rw [e0] at hH0
  have hvs0 := hvs.ren (List.range hp.length)
  rw [h2] at hvs0
  have hn2 : (hp ++ [AObj.frame us2 fr2])[hp.length]? = some (.frame us2 fr2) := by simp
  obtain ⟨u, hu⟩ : ∃ u, μ[hp.length]? = some u := ⟨_, List.getElem?_eq_getElem (by omega)⟩
  have hf2 : RelL w (Zone Z0 F w0.heap.size) μ fr2 us2 := hH.obj _ _ u hn2 hu
  have hus0 := (hus.append hf2).ren (List.range hp.length)
  refine (hc Z0 F w0 w _ vs (us ++ us2) _ hFb hH0 hvs0 hus0 hbel).mono ?_
  rintro e w' ⟨v, μ1, F1, rfl, hF1, hH1, hres, hfr1, hb1⟩
  have hm1 := hH1.len
  have hHd := hH1.addDead u (hH.one _ u hu)
  have hH2 := hHd.ren (insJ hp.length hp'.length) (insJ_nodup h3)
  obtain ⟨μ2, hμ2⟩ : ∃ μ2, μ2 = ((insJ hp.length hp'.length).map fun i => (μ1 ++ [u]).getD i (.bool false)) := ⟨_, rfl⟩
  have hA : ∀ (i : Nat) x, i < hp.length → μ1[i]? = some x → μ2[i]? = some x := by
    intro i x hi hx
    have hj : (insJ hp.length hp'.length)[i]? = some i := by
      unfold insJ
      rw [List.getElem?_append_left (by simpa using hi)]
      simp [hi]
    rw [hμ2, List.getElem?_map, hj]
    simp only [Option.map_some, List.getD_eq_getElem?_getD]
    rw [List.getElem?_append_left (by omega), hx]
    rfl
  have hB : ∀ (i : Nat) x, hp.length ≤ i → μ[i]? = some x → μ2[i]? = some x := by
    intro i x hi hx
    have hin : i = hp.length := by have := (List.getElem?_eq_some_iff.1 hx).1; omega
    subst hin
    rw [hu] at hx
    have hj : (insJ hp.length hp'.length)[hp.length]? = some hp'.length := by
      unfold insJ
      rw [List.getElem?_append_right (by simp)]
      simp
    rw [hμ2, List.getElem?_map, hj]
    simp only [Option.map_some, List.getD_eq_getElem?_getD]
    rw [List.getElem?_append_right (by omega), hm1]
    simpa using hx
  rw [← hμ2] at hH2
  have hall := RelL.mix hA hB (hus.append hf2) hfr1
  have hul := hus.length
  have hfr : RelL w' (Zone Z0 F1 w0.heap.size) μ2 fr us := by
    have := hall.take fr.length
    rwa [List.take_left, ← hul, List.take_left] at this
  have hfr2 : RelL w' (Zone Z0 F1 w0.heap.size) μ2 fr2 us2 := by
    have := hall.drop fr.length
    rwa [List.drop_left, ← hul, List.drop_left] at this
  refine ⟨v, μ2, F1, rfl, hF1, ?_, ?_, hfr, hb1⟩
  · refine hH2.frameAt ?_ hfr2
    have hj : (insJ hp.length hp'.length)[hp.length]? = some hp'.length := by
      unfold insJ
      rw [List.getElem?_append_right (by simp)]
      simp
    rw [List.getElem?_map, hj]
    simp [AObj.ren]
  · rw [hμ2]
    exact Rel.ren _ (Rel.keep (w := w') (fun _ _ _ => rfl) (fun i u hu => append_old i u hu) hres)

/-- Objects left out that the call has made, or put in another order. -/
theorem CallS.drop {P : Program} {f : FuncId} {args : List AV} {hp : List AObj} {res : AV} {hp' : List AObj} (js : List Nat) (hc : CallS P f args hp res hp') (h1 : js.take hp.length = List.range hp.length) (h2 : js.Nodup) :
    CallS P f args hp (res.ren js) (renH js hp') := by
  obtain ⟨hen, hc⟩ := hc
  refine ⟨hen, ?_⟩
  intro Z0 F w0 w μ vs us fr hFb hH hvs hus hbel
  refine (hc Z0 F w0 w μ vs us fr hFb hH hvs hus hbel).mono ?_
  rintro e w' ⟨v, μ1, F1, rfl, hF1, hH1, hres, hfr1, hb1⟩
  have hm1 := hH1.len
  have hjs : ∀ i, i < hp.length → js[i]? = some i := by
    intro i hi
    have := congrArg (fun l : List Nat => l[i]?) h1
    simp only [List.getElem?_take, if_pos hi] at this
    rw [this]
    simp [hi]
  refine ⟨v, _, F1, rfl, hF1, hH1.ren js h2, Rel.ren js hres, ?_, hb1⟩
  refine RelL.mix (n := hp.length) ?_ ?_ hus (hfr1.ren (List.range hp.length))
  · intro i x hi hx
    rw [List.getElem?_map, hjs i hi]
    rw [List.getElem?_map] at hx
    simpa [hi] using hx
  · intro i x hi hx
    have h4 := (List.getElem?_eq_some_iff.1 hx).1
    have h5 := hH.len
    omega

end Go.Abs


/-! Forcing on posets; the codes of searches. -/
namespace Go.Proofs.YtalfakdiinhdnaaGreat
open Go.RowKit Go.Abs

def pxB (xs : List Int) (m : Int) : Int := boxB xs m xs.length
def pxA (xs : List Int) (m : Int) : Int := boxA xs m xs.length
theorem pxAB {n : Int} {xs : List Int} (h : okFr n xs = true) : pxA xs = pxB xs := by
  obtain ⟨h0, h8, hl, hr⟩ := okFr_rel h
  funext m
  refine boxAB xs m (fun x hx => ?_) _ (Nat.le_refl _)
  obtain ⟨j, hj, rfl⟩ := List.getElem_of_mem hx
  have hg : xs[j] = xs.getD j 0 := by rw [List.getD_eq_getElem?_getD, List.getElem?_eq_getElem hj]; rfl
  rw [hg]
  exact wrap_inM (by omega) (hr.2 j (by omega))
/-- The words of plain formulas. -/
def pT (n : Int) (bx : Int → Int) (k p q : Int) : Int := if k = 2 then band p q else if k = 3 then bor p q else bx (bor (bnot ((shl64 1 n) - 1) p) q)
def anyM (a : List (Int × Int)) : Bool := a.any modN
theorem upL_len {n : Int} {xs : List Int} (h : okPo n xs = true) : (upL n xs).length ≤ 256 := by
  have := upR_len n xs
  rwa [upR, if_pos h] at this
section
variable {n : Int} {xs : List Int} {l : List (List (Int × Int))}
end

theorem arrow2_c (n : Int) (xs : List Int) (a : Int) (b : Int) (h0 : 0 ≤ n) (h1 : n ≤ 62) (hl : xs.length ≤ 60) : CallA Tryz.prog 99 [.agg [AI n, LI xs], AI a, AI b] (AI (pxA xs (bor (bnot ((shl64 1 n) - 1) a) b))) := by
  refine CallA.of Tryz.func99 rfl (by kernel_rfl) ?_
  refine R.go 11 (R.call true (l01Full_c n h0 h1) (by kernel_rfl) rfl (by kernel_rfl) ?_)
  refine R.go 4 (R.call true (l01Box_c xs (bor (bnot ((shl64 1 n) - 1) a) b) hl) (by kernel_rfl) rfl (by kernel_rfl) ?_)
  exact R.go 2 (R.retE (AI (boxA xs (bor (bnot ((shl64 1 n) - 1) a) b) xs.length)) (by kernel_rfl) (by kernel_rfl) (by first | (rfl) | (exfalso; omega)))

end Go.Proofs.YtalfakdiinhdnaaGreat


/-! Formulas as lists of nodes. -/
namespace Go.Proofs.YtalfakdiinhdnaaGreat
open Go.RowKit Go.Abs

/-- Lengths and joins of the first lists. -/
def lenTo {α : Type} (xss : List (List α)) : Nat → Nat
  | 0 => 0
  | i + 1 => lenTo xss i + (xss.getD i []).length
def joinTo {α : Type} (xss : List (List α)) : Nat → List α
  | 0 => []
  | i + 1 => joinTo xss i ++ xss.getD i []

theorem lenTo_mono {α : Type} (xss : List (List α)) {i j : Nat} (h : i ≤ j) : lenTo xss i ≤ lenTo xss j := by
  induction h with
  | refl => exact Nat.le_refl _
  | step _ ih => exact Nat.le_trans ih (Nat.le_add_right _ _)
theorem lenTo_step {α : Type} (xss : List (List α)) (i : Nat) (h : i < xss.length) : lenTo xss i + (xss.getD i []).length ≤ lenTo xss xss.length := lenTo_mono xss (i := i + 1) h
theorem joinTo_length {α : Type} (xss : List (List α)) (i : Nat) : (joinTo xss i).length = lenTo xss i := by
  induction i with
  | zero => rfl
  | succ i ih => simp [joinTo, lenTo, ih]

theorem growN_c (n : Nat) (h0 : 0 < n) (hn : n ≤ 1000000000) : CallA Tryz.prog 246 [.nil, AI (n : Int)] (ownA eN 119 2 []) := by
  refine CallA.of Tryz.func246 rfl (by kernel_rfl) ?_
  refine R.go 10 (R.cond ((n : Int) < 0) (by kernel_rfl) (fun c1 => ?_) (fun c1 => ?_))
  · exfalso; omega -- op ('other', 'makeInterface')
  · refine R.go 10 (R.ar ((n : Int)) (by kernel_rfl) (by omega) (by omega) (by kernel_rfl) ?_)
    refine R.go 7 (R.cond ((n : Int) > 0) (by kernel_rfl) (fun c2 => ?_) (fun c2 => ?_))
    · refine R.go 6 (R.appZ eN (0, 0) 119 16 n (n : Int) (by kernel_rfl) rfl (by omega) (by decide) (by omega) (by kernel_rfl) ?_)
      refine R.go 2 (R.cut eN (List.replicate n (0, 0)) 0 119 0 0 (by kernel_rfl) rfl eN_len (by first | omega | (simp only [List.length_set]; omega) | (simp <;> omega)) (by kernel_rfl) ?_)
      exact R.go 7 (R.retE (ownA eN 119 2 ((List.replicate n (0, 0)).take 0)) (by kernel_rfl) (by kernel_rfl) (by first | (rfl) | (exfalso; omega)))
    · refine R.go 6 (R.nil 4 119 2 (by kernel_rfl) ?_)
      exact R.retE (ownA eN 119 2 []) (by kernel_rfl) (by kernel_rfl) (by rfl)

theorem concatN_c (xss : List (List (Int × Int))) (h0 : 0 < lenTo xss xss.length) (hn : lenTo xss xss.length ≤ 1000000000) (hl : xss.length ≤ 1000000) : CallA Tryz.prog 173 [LLN xss] (ownA eN 119 2 (joinTo xss xss.length)) := by
  refine CallA.of Tryz.func173 rfl (by kernel_rfl) ?_
  refine R.go 16 (R.loop ((fun | (i, sz) => (⟨(frm 36 [(0, LLN xss), (3, AI (sz : Int)), (9, LLN xss), (10, AI xss.length), (11, AI (i : Int))]), []⟩ : St) : Nat × Nat → St)) (fun | (i, sz) => (i ≤ xss.length) ∧ (sz = lenTo xss i)) (fun | (i, sz) => xss.length - i) (0, 0) [0, 3, 9, 10, 11] none (by kernel_rfl) (by kernel_rfl) (by kernel_rfl) ⟨(by omega), (by rfl)⟩ ?_)
  rintro ⟨i, sz⟩ ⟨h4_1, rfl⟩ R1 N2
  refine R.go 5 (R.cond ((i : Int) < (xss.length : Int)) (by kernel_rfl) (fun c5 => ?_) (fun c5 => ?_))
  · refine R.go 5 (R.idx eLN xss [] i (i : Int) (by kernel_rfl) rfl eLN_len (by omega) (by kernel_rfl) ?_)
    have hs : lenTo xss i + (xss.getD i []).length ≤ lenTo xss xss.length := lenTo_step xss i (by omega)
    refine R.go 8 (R.ar (((lenTo xss i) : Int) + ((xss.getD i []).length : Int)) (by kernel_rfl) (by omega) (by omega) (by kernel_rfl) ?_)
    refine R.go 7 (R.cond ((((lenTo xss i) : Int) + ((xss.getD i []).length : Int)) < 0) (by kernel_rfl) (fun c6 => ?_) (fun c6 => ?_))
    · exfalso; omega -- op ('other', 'makeInterface')
    · refine R.go 3 (R.ar ((i : Int) + 1) (by kernel_rfl) (by omega) (by omega) (by kernel_rfl) ?_)
      exact R.go 2 (R.stop R1 (by kernel_rfl) (N2 (i + 1, lenTo xss i + ((xss.getD i []).length)) [0, 3, 9, 10, 11] none _ (by kernel_rfl) (by kernel_rfl) ⟨(by omega), (by rfl)⟩ (by show (xss.length - (i + 1)) < (xss.length - i); omega)))
  · have hs : lenTo xss i = lenTo xss xss.length := by rw [show i = xss.length by omega]
    refine R.go 4 (R.call true (growN_c (lenTo xss i) (by omega) (by omega)) (by kernel_rfl) rfl (by kernel_rfl) ?_)
    refine R.go 10 (R.loop ((fun | (i, ys) => (⟨(frm 36 [(6, .ref 0), (25, LLN xss), (26, AI xss.length), (27, AI (i : Int))]), [rowA eN 119 2 ys]⟩ : St) : Nat × (List (Int × Int)) → St)) (fun | (i, ys) => (i ≤ xss.length) ∧ (ys = joinTo xss i)) (fun | (i, ys) => xss.length - i) (0, []) [6, 25, 26, 27] none (by kernel_rfl) (by kernel_rfl) (by kernel_rfl) ⟨(by omega), (by rfl)⟩ ?_)
    rintro ⟨i, ys⟩ ⟨h10_1, rfl⟩ R7 N8
    refine R.go 5 (R.cond ((i : Int) < (xss.length : Int)) (by kernel_rfl) (fun c11 => ?_) (fun c11 => ?_))
    · refine R.go 5 (R.idx eLN xss [] i (i : Int) (by kernel_rfl) rfl eLN_len (by omega) (by kernel_rfl) ?_)
      have hs : (joinTo xss i).length + (xss.getD i []).length ≤ lenTo xss xss.length := by rw [joinTo_length]; exact lenTo_step xss i (by omega)
      refine R.go 6 (R.app eN (joinTo xss i) (xss.getD i []) 0 119 2 16 (by kernel_rfl) eN_one (by decide) (by first | omega | (simp <;> omega)) (by kernel_rfl) ?_)
      refine R.go 4 (R.ar ((i : Int) + 1) (by kernel_rfl) (by omega) (by omega) (by kernel_rfl) ?_)
      exact R.go 2 (R.stop R7 (by kernel_rfl) (N8 (i + 1, (joinTo xss i) ++ (xss.getD i [])) [6, 25, 26, 27] none _ (by kernel_rfl) (by kernel_rfl) ⟨(by omega), (by rfl)⟩ (by show (xss.length - (i + 1)) < (xss.length - i); omega)))
    · exact R.go 6 (R.retE (ownA eN 119 2 (joinTo xss i)) (by kernel_rfl) (by kernel_rfl) (by first | (rw [show i = xss.length by omega]) | (exfalso; omega)))

theorem falsum_c : CallA Tryz.prog 274 [] (ownA eN 119 2 [(1, 0)]) := by
  refine CallA.of Tryz.func274 rfl (by kernel_rfl) ?_
  exact R.go 10 (R.retE (ownA eN 119 2 [(1, 0)]) (by kernel_rfl) (by kernel_rfl) (by rfl))

theorem variable_c (v : Int) : CallA Tryz.prog 100 [AI v] (ownA eN 119 2 [(0, v)]) := by
  refine CallA.of Tryz.func100 rfl (by kernel_rfl) ?_
  exact R.go 11 (R.retE (ownA eN 119 2 [(0, v)]) (by kernel_rfl) (by kernel_rfl) (by rfl))

theorem join_c (k : Int) (a : List (Int × Int)) (b : List (Int × Int)) (ha : a.length ≤ 1000000) (hb : b.length ≤ 1000000) : CallA Tryz.prog 101 [AI k, LN a, LN b] (ownA eN 119 2 ((k, 0) :: (a ++ b))) := by
  refine CallA.of Tryz.func101 rfl (by kernel_rfl) ?_
  refine R.go 11 (R.frz 0 (by kernel_rfl) ?_)
  refine R.lit (s := 1) (n := 3) (cs := rows eLN [[(k, 0)], a, b]) (by kernel_rfl) (by kernel_rfl) ?_
  refine R.call true (concatN_c [[(k, 0)], a, b] (by simp [lenTo] <;> omega) (by simp [lenTo] <;> omega) (by simp)) (by kernel_rfl) rfl (by kernel_rfl) ?_
  exact R.go 2 (R.retE (ownA eN 119 2 (joinTo [[(k, 0)], a, b] [[(k, 0)], a, b].length)) (by kernel_rfl) (by kernel_rfl) (by first | (simp [joinTo]) | (exfalso; omega)))

theorem l02False_c : CallA Tryz.prog 244 [] (ownA eN 119 2 [(1, 0)]) := by
  refine CallA.of Tryz.func244 rfl (by kernel_rfl) ?_
  exact R.go 10 (R.retE (ownA eN 119 2 [(1, 0)]) (by kernel_rfl) (by kernel_rfl) (by rfl))

theorem l02Var_c (v : Int) : CallA Tryz.prog 94 [AI v] (ownA eN 119 2 [(0, v)]) := by
  refine CallA.of Tryz.func94 rfl (by kernel_rfl) ?_
  exact R.go 11 (R.retE (ownA eN 119 2 [(0, v)]) (by kernel_rfl) (by kernel_rfl) (by rfl))

theorem l02Pair_c (k : Int) (a : List (Int × Int)) (b : List (Int × Int)) (ha : a.length ≤ 1000000) (hb : b.length ≤ 1000000) : CallA Tryz.prog 96 [AI k, LN a, LN b] (ownA eN 119 2 ((k, 0) :: (a ++ b))) := by
  refine CallA.of Tryz.func96 rfl (by kernel_rfl) ?_
  refine R.go 10 (R.app eN [(k, 0)] a 0 119 2 16 (by kernel_rfl) eN_one (by decide) (by first | omega | (simp <;> omega)) (by kernel_rfl) ?_)
  refine R.go 1 (R.app eN ([(k, 0)] ++ a) b 0 119 2 16 (by kernel_rfl) eN_one (by decide) (by first | omega | (simp <;> omega)) (by kernel_rfl) ?_)
  exact R.go 2 (R.retE (ownA eN 119 2 ([(k, 0)] ++ a ++ b)) (by kernel_rfl) (by kernel_rfl) (by first | (rfl) | (exfalso; omega)))

end Go.Proofs.YtalfakdiinhdnaaGreat


/-! Minimal elements, disjunctions of variables; the conclusion of the Jankov formulas. -/
namespace Go.Proofs.YtalfakdiinhdnaaGreat
open Go.RowKit Go.Abs

/-- Is x a least member of m, against the first y elements? -/
def lstT (xs : List Int) (m : Int) (x : Nat) : Nat → Bool
  | 0 => decide (band (shr64 m (x : Int)) 1 = 1)
  | y + 1 => lstT xs m x y && (decide ((y : Int) = (x : Int)) || !decide (band (shr64 m (y : Int)) 1 = 1) || !decide (band (shr64 (xs.getD y 0) (x : Int)) 1 = 1))
def mnS (xs : List Int) (m : Int) (n : Nat) : Nat → List Int
  | 0 => []
  | x + 1 => if lstT xs m x n = true then mnS xs m n x ++ [(x : Int)] else mnS xs m n x
theorem mnS_yes {xs : List Int} {m : Int} {n x : Nat} (h : lstT xs m x n = true) : mnS xs m n x ++ [(x : Int)] = mnS xs m n (x + 1) := by rw [mnS, if_pos h]
theorem mnS_no {xs : List Int} {m : Int} {n x : Nat} (h : lstT xs m x n = false) : mnS xs m n x = mnS xs m n (x + 1) := by rw [mnS, if_neg (by rw [h]; decide)]
theorem mnS_len (xs : List Int) (m : Int) (n : Nat) : ∀ x : Nat, (mnS xs m n x).length ≤ x
  | 0 => Nat.le_refl _
  | x + 1 => by
    have := mnS_len xs m n x
    rw [mnS]
    split
    · simp; omega
    · omega
theorem mnS_rng (xs : List Int) (m : Int) (n : Nat) : ∀ (x : Nat) (v : Int), v ∈ mnS xs m n x → 0 ≤ v ∧ v < (x : Int)
  | 0, v, h => by simp [mnS] at h
  | x + 1, v, h => by
    rw [mnS] at h
    split at h
    · rcases List.mem_append.1 h with h | h
      · have := mnS_rng xs m n x v h; omega
      · rw [List.mem_singleton] at h; omega
    · have := mnS_rng xs m n x v h; omega
/-- Lies another member of m below x? -/
def loM (xs : List Int) (x : Int) (y : Int) : Bool := decide (¬ y = x) && decide (band (shr64 (xs.getD y.toNat 0) x) 1 = 1)
def delM (xs : List Int) (m : Int) (x : Int) : Bool := (mem m).any (loM xs x)
def keepM (xs : List Int) (m : Int) (x : Int) : Bool := !delM xs m x
theorem lstT_iff {xs : List Int} {m : Int} {x : Nat} : ∀ {y : Nat}, lstT xs m x y = true ↔ band (shr64 m (x : Int)) 1 = 1 ∧ ∀ j : Nat, j < y → (j : Int) = (x : Int) ∨ ¬ band (shr64 m (j : Int)) 1 = 1 ∨ ¬ band (shr64 (xs.getD j 0) (x : Int)) 1 = 1
  | 0 => by simp [lstT]
  | y + 1 => by
    rw [lstT, Bool.and_eq_true, lstT_iff (y := y)]
    constructor
    · rintro ⟨⟨h1, h2⟩, h3⟩
      refine ⟨h1, fun j hj => ?_⟩
      by_cases e : j = y
      · subst e
        simpa [or_assoc] using h3
      · exact h2 j (by omega)
    · rintro ⟨h1, h2⟩
      refine ⟨⟨h1, fun j hj => h2 j (by omega)⟩, ?_⟩
      simpa [or_assoc] using h2 y (by omega)
theorem keep_iff {n : Nat} {xs : List Int} {m : Int} {x : Nat} (hn : n ≤ 8) (hm : InM n m) (hx : x < n) (hb : tb m x = true) : keepM xs m (x : Int) = lstT xs m x n := by
  have hT := fun (j : Nat) (hj : j < n) => has_tb (n := n) (m := m) (i := j) (by omega) hm (by omega)
  rw [Bool.eq_iff_iff, lstT_iff, keepM, delM, Bool.not_eq_true', List.any_eq_false]
  constructor
  · intro h
    refine ⟨(hT x hx).2 hb, fun j hj => ?_⟩
    by_cases e1 : (j : Int) = (x : Int)
    · exact .inl e1
    · by_cases e2 : band (shr64 m (j : Int)) 1 = 1
      · refine .inr (.inr fun e3 => h (j : Int) ((mem_iff (N := n) (by omega) hm).2 ((hT j hj).1 e2)) ?_)
        simp only [loM, Int.toNat_natCast, Bool.and_eq_true, decide_eq_true_eq]
        exact ⟨e1, e3⟩
      · exact .inr (.inl e2)
  · rintro ⟨_, h⟩ y hy hl
    simp only [loM, Bool.and_eq_true, decide_eq_true_eq] at hl
    have h1 := mem_lt (N := n) (by omega) hm y hy
    have e : ((y.toNat : Nat) : Int) = y := by omega
    have h2 := (mem_iff (N := n) (j := y.toNat) (by omega) hm).1 (by rw [e]; exact hy)
    have h3 := (hT y.toNat (by omega)).2 h2
    have h4 := h y.toNat (by omega)
    rw [e] at h3 h4
    rcases h4 with h4 | h4 | h4
    · exact hl.1 h4
    · exact h4 h3
    · exact h4 hl.2
theorem mn_filter {n : Nat} {xs : List Int} {m : Int} (hn : n ≤ 8) (hm : InM n m) : ∀ i : Nat, i ≤ n → (memN m i).filter (keepM xs m) = mnS xs m n i
  | 0, _ => rfl
  | i + 1, h => by
    have ih := mn_filter (xs := xs) hn hm i (by omega)
    by_cases hb : tb m i = true
    · rw [memN_yes hb, List.filter_append, ih, mnS, ← keep_iff hn hm (by omega) hb]
      split
      · rename_i hk
        rw [List.filter_cons, if_pos hk]; rfl
      · rename_i hk
        rw [List.filter_cons, if_neg hk]; simp
    · rw [memN_no hb, ih, mnS, if_neg]
      intro hl
      exact hb ((has_tb (n := n) (by omega) hm (by omega)).1 (lstT_iff.1 hl).1)
theorem mn_eq {n : Nat} {xs : List Int} {m : Int} (hn : n ≤ 8) (hm : InM n m) : (mem m).filter (keepM xs m) = mnS xs m n n := by
  rw [← mn_filter hn hm n (Nat.le_refl _)]
  congr 1
  exact memN_stop (fun j hj => by
    cases e : tb m j with
    | false => rfl
    | true => exact absurd (tb_lt hm e) (by omega)) (by omega)
theorem fil_cut {q : Int → Bool} {a r : List Int} {ii jj : Int} (hl : r.length = a.length) (hi : 0 ≤ ii) (hij : ii < jj) (hj : jj ≤ a.length) (hjl : ¬ jj < (r.length : Int)) (h : r.take ii.toNat = (a.take jj.toNat).filter q) :
    (r.take ii.toNat ++ List.replicate (r.length - ii.toNat) 0).take ii.toNat = a.filter q := by
  rw [List.take_append_of_le_length (by rw [List.length_take]; omega), List.take_take, Nat.min_self, h, List.take_of_length_le (by omega)]
/-! Disjunctions. -/
def varL (L : List Int) : List (List (Int × Int)) := L.map fun v => [(0, v)]
def orAll (l : List (List (Int × Int))) : List (Int × Int) := if l.length = 0 then [(1, 0)] else List.replicate (l.length - 1) (3, 0) ++ joinTo l l.length
def orT (l : List (List (Int × Int))) (i : Nat) : List (Int × Int) := List.replicate (i - 1) (3, 0) ++ joinTo l i
theorem varL_len (L : List Int) : (varL L).length = L.length := by simp [varL]
theorem varL_snoc (L : List Int) (v : Int) : varL L ++ [[(0, v)]] = varL (L ++ [v]) := by simp [varL]
theorem varL_get {L : List Int} {j : Nat} (h : j < L.length) : (varL L).getD j [] = [(0, L.getD j 0)] := by
  simp [varL, List.getD_eq_getElem?_getD, List.getElem?_eq_getElem h]
theorem lenTo_var (L : List Int) : ∀ i : Nat, i ≤ L.length → lenTo (varL L) i = i
  | 0, _ => rfl
  | i + 1, h => by rw [lenTo, lenTo_var L i (by omega), varL_get (by omega)]; rfl
theorem orT_step {l : List (List (Int × Int))} {i : Nat} (h : 1 ≤ i) : (3, 0) :: (orT l i ++ l.getD i []) = orT l (i + 1) := by
  rw [orT, orT, joinTo, show i + 1 - 1 = (i - 1) + 1 by omega, List.replicate_succ]
  simp
theorem orAll_nil {l : List (List (Int × Int))} (h : l.length = 0) : [((1 : Int), (0 : Int))] = orAll l := by rw [orAll, if_pos h]
theorem orAll_some {l : List (List (Int × Int))} {i : Nat} (h : ¬ l.length = 0) (hi : i = l.length) : orT l i = orAll l := by rw [orAll, if_neg h, hi]; rfl
theorem orT_len (l : List (List (Int × Int))) (i : Nat) : (orT l i).length = i - 1 + lenTo l i := by simp [orT, joinTo_length]
def jnd (n : Int) (xs : List Int) (m : Int) : List (Int × Int) := orAll (varL (mnS xs m n.toNat n.toNat))
theorem jnd_len (n : Int) (xs : List Int) (m : Int) (h8 : n ≤ 8) : (jnd n xs m).length ≤ 16 := by
  have h1 := mnS_len xs m n.toNat n.toNat
  unfold jnd orAll
  split
  · simp
  · rw [List.length_append, List.length_replicate, joinTo_length, varL_len, lenTo_var _ _ (Nat.le_refl _)]
    omega
def jkC (n : Int) (xs : List Int) : Int := if okPo n xs = true then (if rootX n xs < 0 then 5 else if n > 5 then 3 else 0) else 1
theorem jk_1 {n : Int} {xs : List Int} (h : okPo n xs = false) : 1 = jkC n xs := by simp [jkC, h]
theorem jk_5 {n : Int} {xs : List Int} (h : okPo n xs = true) (h2 : rootX n xs < 0) : 5 = jkC n xs := by rw [jkC, if_pos h, if_pos h2]
theorem jk_3 {n : Int} {xs : List Int} (h : okPo n xs = true) (h2 : ¬ rootX n xs < 0) (h3 : n > 5) : 3 = jkC n xs := by rw [jkC, if_pos h, if_neg h2, if_pos h3]
theorem jk_0 {n : Int} {xs : List Int} (h : okPo n xs = true) (h2 : ¬ rootX n xs < 0) (h3 : ¬ n > 5) : 0 = jkC n xs := by rw [jkC, if_pos h, if_neg h2, if_neg h3]
theorem jk_ok {n : Int} {xs : List Int} (h : jkC n xs = 0) : okPo n xs = true ∧ 0 ≤ rootX n xs ∧ n ≤ 5 := by
  unfold jkC at h
  split at h
  · rename_i h1
    split at h
    · cases h
    · split at h
      · cases h
      · exact ⟨h1, by omega, by omega⟩
  · cases h
theorem fidxI_lt {p : Int → Bool} : ∀ {a : List Int} {i : Int}, 0 ≤ i → fidxI p a i < i + a.length
  | [], i, h => by simp [fidxI]; omega
  | x :: a, i, h => by
    have := fidxI_lt (p := p) (a := a) (i := i + 1) (by omega)
    rw [fidxI, List.length_cons]
    split <;> omega
theorem rootX_lt {n : Int} {xs : List Int} (h : (xs.length : Int) = n) : rootX n xs < n := by
  have := fidxI_lt (p := fixP n) (a := xs) (i := 0) (Int.le_refl 0)
  unfold rootX
  omega
def jcM (n : Int) (xs : List Int) : Int := bnot ((shl64 1 n) - 1) (shl64 1 (rootX n xs))
theorem jcM_in {n : Int} {xs : List Int} (hP : okPo n xs = true) (hr : 0 ≤ rootX n xs) : InM n.toNat (jcM n xs) := by
  have hF := okFr_rel (okPo_fr hP)
  have h1 := rootX_lt hF.2.2.1
  have e : ((n.toNat : Nat) : Int) = n := by omega
  have hf := inM_full (n := n.toNat) (by omega)
  rw [e] at hf
  have h2 := inM_one (n := n.toNat) (i := (rootX n xs).toNat) (by omega) (by omega)
  rw [show (((rootX n xs).toNat : Nat) : Int) = rootX n xs by omega] at h2
  exact inM_bnot (by omega) hf h2
theorem min11_c (y : Int) (x : Int) (n : Int) (xs : List Int) (hy : 0 ≤ y ∧ y < xs.length) (hx : 0 ≤ x) : CallA Tryz.prog 250 [AI y, .rptr [AI x], .rptr [AI n, LI xs]] (.bool (loM xs x y)) := by
  refine CallA.of Tryz.func250 rfl (by kernel_rfl) ?_
  refine R.go 10 ?_
  by_cases c1 : y = x
  · refine R.skp (!decide (y = x)) true (by kernel_rfl) (nF c1) (by kernel_rfl) ?_
    refine R.skp (!decide (y = x)) true (by kernel_rfl) (nF c1) (by kernel_rfl) ?_
    refine R.skp (!decide (y = x)) true (by kernel_rfl) (nF c1) (by kernel_rfl) ?_
    refine R.skp (!decide (y = x)) true (by kernel_rfl) (nF c1) (by kernel_rfl) ?_
    refine R.skp (!decide (y = x)) true (by kernel_rfl) (nF c1) (by kernel_rfl) ?_
    refine R.skp (!decide (y = x)) true (by kernel_rfl) (nF c1) (by kernel_rfl) ?_
    refine R.skp (!decide (y = x)) true (by kernel_rfl) (nF c1) (by kernel_rfl) ?_
    refine R.pick (!decide (y = x)) false (by kernel_rfl) (nF c1) (by kernel_rfl) ?_
    exact R.go 2 (R.retE (.bool false) (by kernel_rfl) (by kernel_rfl) (by first | (apply congrArg AV.bool; simp [loM, *]) | (exfalso; omega)))
  · refine R.want (!decide (y = x)) true (by kernel_rfl) (nT c1) ?_
    refine R.go 1 (R.want (!decide (y = x)) true (by kernel_rfl) (nT c1) ?_)
    refine R.go 1 (R.want (!decide (y = x)) true (by kernel_rfl) (nT c1) ?_)
    refine R.go 1 (R.want (!decide (y = x)) true (by kernel_rfl) (nT c1) ?_)
    refine R.idx eI xs 0 ((y).toNat) y (by kernel_rfl) (by omega) eI_len (by omega) (by kernel_rfl) ?_
    refine R.want (!decide (y = x)) true (by kernel_rfl) (nT c1) ?_
    refine R.go 1 (R.want (!decide (y = x)) true (by kernel_rfl) (nT c1) ?_)
    refine R.go 1 (R.want (!decide (y = x)) true (by kernel_rfl) (nT c1) ?_)
    refine R.call true (has_c (xs.getD ((y).toNat) 0) x hx) (by kernel_rfl) rfl (by kernel_rfl) ?_
    refine R.pick (!decide (y = x)) true (by kernel_rfl) (nT c1) (by kernel_rfl) ?_
    exact R.go 2 (R.retE (.bool (decide (band (shr64 (xs.getD ((y).toNat) 0) x) 1 = 1))) (by kernel_rfl) (by kernel_rfl) (by first | (apply congrArg AV.bool; simp [loM, *]) | (exfalso; omega)))

theorem indexLo_c (a : List Int) (x : Int) (n : Int) (xs : List Int) (hl : a.length ≤ 1000000000) (ha : ∀ j : Nat, j < a.length → 0 ≤ a.getD j 0 ∧ a.getD j 0 < (xs.length : Int)) (hx : 0 ≤ x) : CallA Tryz.prog 136 [LI a, .fn 250 [.rptr [AI x], .rptr [AI n, LI xs]]] (AI (fidxI (loM xs x) a 0)) := by
  refine CallA.of Tryz.func136 rfl (by kernel_rfl) ?_
  refine R.go 12 (R.loop (fun (i : Nat) => (⟨(frm 19 [(0, LI a), (1, .fn 250 [.rptr [AI x], .rptr [AI n, LI xs]]), (7, AI a.length), (8, AI (i : Int))]), []⟩ : St)) (fun (i : Nat) => (i ≤ a.length) ∧ (fidxI (loM xs x) a 0 = fidxI (loM xs x) (a.drop i) i)) (fun (i : Nat) => a.length - i) 0 [0, 1, 7, 8] none (by kernel_rfl) (by kernel_rfl) (by kernel_rfl) ⟨(by omega), (by rfl)⟩ ?_)
  rintro i ⟨h3_1, h3_2⟩ R1 N2
  have hai := ha i
  refine R.go 5 (R.cond ((i : Int) < (a.length : Int)) (by kernel_rfl) (fun c4 => ?_) (fun c4 => ?_))
  · have haj := hai (by omega)
    refine R.go 13 (R.idx eI a 0 i (i : Int) (by kernel_rfl) rfl eI_len (by omega) (by kernel_rfl) ?_)
    refine R.go 1 (R.call true (min11_c (a.getD i 0) x n xs (by first | omega | (simp <;> omega)) hx) (by kernel_rfl) rfl (by kernel_rfl) ?_)
    refine R.go 1 (R.condB (loM xs x (a.getD i 0)) (by kernel_rfl) (fun c5 => ?_) (fun c5 => ?_))
    · exact R.go 5 (R.retE (AI (i : Int)) (by kernel_rfl) (by kernel_rfl) (by first | (apply congrArg AI; rw [‹fidxI _ a 0 = _›]; first | exact (fidxI_end (by omega)).symm | exact (fidxI_hit (by omega) (by assumption)).symm) | (exfalso; omega)))
    · refine R.go 3 (R.ar ((i : Int) + 1) (by kernel_rfl) (by omega) (by omega) (by kernel_rfl) ?_)
      exact R.go 2 (R.stop R1 (by kernel_rfl) (N2 (i + 1) [0, 1, 7, 8] none _ (by kernel_rfl) (by kernel_rfl) ⟨(by omega), (by rw [‹fidxI _ a 0 = _›]; exact fidxI_miss (by omega) (by assumption))⟩ (by show (a.length - (i + 1)) < (a.length - i); omega)))
  · exact R.go 5 (R.retE (AI (-1)) (by kernel_rfl) (by kernel_rfl) (by first | (apply congrArg AI; rw [‹fidxI _ a 0 = _›]; first | exact (fidxI_end (by omega)).symm | exact (fidxI_hit (by omega) (by assumption)).symm) | (exfalso; omega)))

theorem containsLo_c (a : List Int) (x : Int) (n : Int) (xs : List Int) (hl : a.length ≤ 1000000000) (ha : ∀ j : Nat, j < a.length → 0 ≤ a.getD j 0 ∧ a.getD j 0 < (xs.length : Int)) (hx : 0 ≤ x) : CallA Tryz.prog 67 [LI a, .fn 250 [.rptr [AI x], .rptr [AI n, LI xs]]] (.bool (a.any (loM xs x))) := by
  refine CallA.of Tryz.func67 rfl (by kernel_rfl) ?_
  refine R.go 8 (R.call true (indexLo_c a x n xs hl ha hx) (by kernel_rfl) rfl (by kernel_rfl) ?_)
  exact R.go 3 (R.retE (.bool (decide ((fidxI (loM xs x) a 0) ≥ 0))) (by kernel_rfl) (by kernel_rfl) (by first | (apply congrArg AV.bool; rw [Bool.eq_iff_iff, decide_eq_true_iff]; exact fidxI_any (Int.le_refl 0)) | (exfalso; omega)))

theorem min1_c (x : Int) (m : Int) (n : Int) (xs : List Int) (hP : okPo n xs = true) (hm : InM n.toNat m) (hx : 0 ≤ x) : CallA Tryz.prog 249 [AI x, .rptr [AI m], .rptr [AI n, LI xs]] (.bool (delM xs m x)) := by
  have hR := okPo_fr hP
  have hF := okFr_rel hR
  have hb0 : 0 ≤ n ∧ n ≤ 8 ∧ (xs.length : Int) = n := ⟨hF.1, hF.2.1, hF.2.2.1⟩
  have hm61 := inM_mono (n' := 61) (by omega) hm
  have hml := mem_le m
  have hmg : ∀ j : Nat, j < (mem m).length → 0 ≤ (mem m).getD j 0 ∧ (mem m).getD j 0 < (xs.length : Int) := fun j hj => by have h1 := mem_lt' (N := n.toNat) (by omega) hm hj; omega
  refine CallA.of Tryz.func249 rfl (by kernel_rfl) ?_
  refine R.go 8 (R.call true (membersOf_c m (by first | assumption | exact inM61 (by omega) (by omega))).frz (by kernel_rfl) rfl (by kernel_rfl) ?_)
  refine R.go 1 (R.call false (containsLo_c (mem m) x n xs (by first | omega | (simp <;> omega)) hmg hx) (by kernel_rfl) rfl (by kernel_rfl) ?_)
  exact R.go 2 (R.retE (.bool ((mem m).any (loM xs x))) (by kernel_rfl) (by kernel_rfl) (by first | (rfl) | (exfalso; omega)))

theorem indexDel_c (a : List Int) (m : Int) (n : Int) (xs : List Int) (hl : a.length ≤ 1000000000) (hP : okPo n xs = true) (hm : InM n.toNat m) (ha : ∀ j : Nat, j < a.length → 0 ≤ a.getD j 0 ∧ a.getD j 0 < (xs.length : Int)) : CallA Tryz.prog 136 [LI a, .fn 249 [.rptr [AI m], .rptr [AI n, LI xs]]] (AI (fidxI (delM xs m) a 0)) := by
  refine CallA.of Tryz.func136 rfl (by kernel_rfl) ?_
  refine R.go 12 (R.loop (fun (i : Nat) => (⟨(frm 19 [(0, LI a), (1, .fn 249 [.rptr [AI m], .rptr [AI n, LI xs]]), (7, AI a.length), (8, AI (i : Int))]), []⟩ : St)) (fun (i : Nat) => (i ≤ a.length) ∧ (fidxI (delM xs m) a 0 = fidxI (delM xs m) (a.drop i) i)) (fun (i : Nat) => a.length - i) 0 [0, 1, 7, 8] none (by kernel_rfl) (by kernel_rfl) (by kernel_rfl) ⟨(by omega), (by rfl)⟩ ?_)
  rintro i ⟨h3_1, h3_2⟩ R1 N2
  have hai := ha i
  refine R.go 5 (R.cond ((i : Int) < (a.length : Int)) (by kernel_rfl) (fun c4 => ?_) (fun c4 => ?_))
  · have haj := hai (by omega)
    refine R.go 13 (R.idx eI a 0 i (i : Int) (by kernel_rfl) rfl eI_len (by omega) (by kernel_rfl) ?_)
    refine R.go 1 (R.call true (min1_c (a.getD i 0) m n xs hP hm (by omega)) (by kernel_rfl) rfl (by kernel_rfl) ?_)
    refine R.go 1 (R.condB (delM xs m (a.getD i 0)) (by kernel_rfl) (fun c5 => ?_) (fun c5 => ?_))
    · exact R.go 5 (R.retE (AI (i : Int)) (by kernel_rfl) (by kernel_rfl) (by first | (apply congrArg AI; rw [‹fidxI _ a 0 = _›]; first | exact (fidxI_end (by omega)).symm | exact (fidxI_hit (by omega) (by assumption)).symm) | (exfalso; omega)))
    · refine R.go 3 (R.ar ((i : Int) + 1) (by kernel_rfl) (by omega) (by omega) (by kernel_rfl) ?_)
      exact R.go 2 (R.stop R1 (by kernel_rfl) (N2 (i + 1) [0, 1, 7, 8] none _ (by kernel_rfl) (by kernel_rfl) ⟨(by omega), (by rw [‹fidxI _ a 0 = _›]; exact fidxI_miss (by omega) (by assumption))⟩ (by show (a.length - (i + 1)) < (a.length - i); omega)))
  · exact R.go 5 (R.retE (AI (-1)) (by kernel_rfl) (by kernel_rfl) (by first | (apply congrArg AI; rw [‹fidxI _ a 0 = _›]; first | exact (fidxI_end (by omega)).symm | exact (fidxI_hit (by omega) (by assumption)).symm) | (exfalso; omega)))

theorem membersG_c (m : Int) (a : List Int) (hm : InM 61 m) (ha : a = mem m) : CallA Tryz.prog 142 [AI m] (ownA eI 2 1 a) := by rw [ha]; exact membersOf_c m hm

theorem minimal_c (n : Int) (xs : List Int) (m : Int) (hP : okPo n xs = true) (hm : InM n.toNat m) : CallA Tryz.prog 175 [.agg [AI n, LI xs], AI m] (ownA eI 2 1 (mnS xs m n.toNat n.toNat)) := by
  have hR := okPo_fr hP
  have hF := okFr_rel hR
  have hb0 : 0 ≤ n ∧ n ≤ 8 ∧ (xs.length : Int) = n := ⟨hF.1, hF.2.1, hF.2.2.1⟩
  have hm61 := inM_mono (n' := 61) (by omega) hm
  have hml := mem_le m
  have hmg : ∀ j : Nat, j < (mem m).length → 0 ≤ (mem m).getD j 0 ∧ (mem m).getD j 0 < (xs.length : Int) := fun j hj => by have h1 := mem_lt' (N := n.toNat) (by omega) hm hj; omega
  obtain ⟨a, haE⟩ : ∃ a, a = mem m := ⟨_, rfl⟩
  rw [← haE] at hmg hml
  have hqn : ∀ x, delM xs m x = !keepM xs m x := fun x => by simp [keepM]
  have hst := fun h : ¬ fidxI (delM xs m) a 0 = -1 => fidx_start hqn h
  refine CallA.of Tryz.func175 rfl (by kernel_rfl) ?_
  refine R.go 9 (R.call true (membersG_c m a (by assumption) (by assumption)) (by kernel_rfl) rfl (by kernel_rfl) ?_)
  refine R.go 1 (R.enter (avs := [.ref 2, .fn 249 [.ptr 1 0, .ptr 0 0]]) Tryz.func248 rfl (by kernel_rfl) (by kernel_rfl) (by kernel_rfl) ?_)
  intro us1
  refine R.go 8 (R.call false (indexDel_c a m n xs (by first | omega | (simp <;> omega)) hP hm (by assumption)) (by kernel_rfl) rfl (by kernel_rfl) ?_)
  refine R.go 8 (R.cond ((fidxI (delM xs m) a 0) = (-1)) (by kernel_rfl) (fun c2 => ?_) (fun c2 => ?_))
  · refine R.go 5 (R.back (.ref 2) (frm 9 [(0, .agg [AI n, LI xs]), (1, AI m), (2, .ptr 0 0), (3, .ptr 1 0), (4, .nil), (5, AI m), (6, .ref 2), (7, .fn 249 [.ptr 1 0, .ptr 0 0])]) (by kernel_rfl) (by kernel_rfl) (by kernel_rfl) ?_)
    exact R.go 2 (R.retE (ownA eI 2 1 a) (by kernel_rfl) (by kernel_rfl) (by first | (apply congrArg (ownA eI _ 1); rw [← mn_eq (by omega) hm, ← haE]; first | exact (fidx_none hqn (Int.le_refl 0) (by assumption)).symm | exact fil_cut (jj := jj) (by assumption) (by omega) (by omega) (by omega) (by omega) (by assumption)) | (exfalso; omega)))
  · have hs2 := hst (by assumption)
    refine R.go 5 (R.ar ((fidxI (delM xs m) a 0) + 1) (by kernel_rfl) (by omega) (by omega) (by kernel_rfl) ?_)
    refine R.go 3 (R.loop ((fun | (jj, ii, r) => (⟨(frm 42 [(0, .ref 2), (1, .fn 249 [.ptr 1 0, .ptr 0 0]), (5, AI ii), (6, AI jj)]), [.box 29 [AI n, LI xs], .box 2 [AI m], rowA eI 2 1 r, .frame us1 (frm 9 [(0, .agg [AI n, LI xs]), (1, AI m), (2, .ptr 0 0), (3, .ptr 1 0), (4, .nil), (5, AI m), (6, .ref 2), (7, .fn 249 [.ptr 1 0, .ptr 0 0])])]⟩ : St) : Int × Int × (List Int) → St)) (fun | (jj, ii, r) => (0 ≤ ii) ∧ (ii < jj) ∧ (jj ≤ a.length) ∧ (r.length = a.length) ∧ (r.take ii.toNat = (a.take jj.toNat).filter (keepM xs m)) ∧ (r.drop jj.toNat = a.drop jj.toNat)) (fun | (jj, ii, r) => (a.length - jj).toNat) (((fidxI (delM xs m) a 0) + 1), (fidxI (delM xs m) a 0), a) [0, 1, 5, 6] none (by kernel_rfl) (by kernel_rfl) (by kernel_rfl) ⟨(by omega), (by omega), (by omega), (by rfl), (by exact hs2.2.2), (by rfl)⟩ ?_)
    rintro ⟨jj, ii, r⟩ ⟨h6_1, h6_2, h6_3, h6_4, h6_5, h6_6⟩ R3 N4
    have hjm : jj < a.length → 0 ≤ r.getD jj.toNat 0 ∧ r.getD jj.toNat 0 < (xs.length : Int) := fun hj => by
      have h2 := congrArg (fun l : List Int => l.getD 0 0) (by assumption : r.drop jj.toNat = a.drop jj.toNat)
      have h3 : r.getD jj.toNat 0 = a.getD jj.toNat 0 := by simpa [List.getD_eq_getElem?_getD, List.getElem?_drop] using h2
      rw [h3]; exact hmg _ (by omega)
    have hjk := fun (hj : jj < a.length) (hq : keepM xs m (r.getD jj.toNat 0) = true) => del_keep (q := keepM xs m) (by assumption : r.length = a.length) (i := ii.toNat) (j := jj.toNat) (by omega) (by omega) (by assumption) (by assumption) hq
    have hjs := fun (hj : jj < a.length) (hq : keepM xs m (r.getD jj.toNat 0) = false) => del_skip (q := keepM xs m) (by assumption : r.length = a.length) (i := ii.toNat) (j := jj.toNat) (by omega) (by assumption) (by assumption) hq
    refine R.go 8 (R.cond (jj < (r.length : Int)) (by kernel_rfl) (fun c7 => ?_) (fun c7 => ?_))
    · refine R.go 7 (R.idxO 2 1 r.length ((jj).toNat) jj (by kernel_rfl) (by omega) (by omega) (by kernel_rfl) ?_)
      refine R.ldI r ((jj).toNat) (by kernel_rfl) (by omega) (by kernel_rfl) ?_
      have hjM := hjm (by omega)
      refine R.go 6 (R.call false (min1_c (r.getD ((jj).toNat) 0) m n xs hP hm (by omega)) (by kernel_rfl) rfl (by kernel_rfl) ?_)
      refine R.go 2 (R.condM (delM xs m (r.getD ((jj).toNat) 0)) (by kernel_rfl) (fun c8 => ?_) (fun c8 => ?_))
      · refine R.go 5 (R.idxO 2 1 r.length ((ii).toNat) ii (by kernel_rfl) (by omega) (by omega) (by kernel_rfl) ?_)
        refine R.stI 2 2 r ((ii).toNat) (r.getD ((jj).toNat) 0) (by kernel_rfl) (by omega) (by kernel_rfl) ?_
        refine R.go 3 (R.ar (ii + 1) (by kernel_rfl) (by omega) (by omega) (by kernel_rfl) ?_)
        refine R.go 5 (R.ar (jj + 1) (by kernel_rfl) (by omega) (by omega) (by kernel_rfl) ?_)
        exact R.go 2 (R.stop R3 (by kernel_rfl) (N4 (jj + 1, ii + 1, r.set ((ii).toNat) (r.getD ((jj).toNat) 0)) [0, 1, 5, 6] none _ (by kernel_rfl) (by kernel_rfl) ⟨(by omega), (by omega), (by omega), (by first | assumption | exact (hjk (by omega) (by simpa [keepM] using (by assumption : delM xs m (r.getD jj.toNat 0) = false))).2.2), (by first | (rw [show (ii + 1).toNat = ii.toNat + 1 by omega, show (jj + 1).toNat = jj.toNat + 1 by omega]; exact (hjk (by omega) (by simpa [keepM] using (by assumption : delM xs m (r.getD jj.toNat 0) = false))).1) | (rw [show (jj + 1).toNat = jj.toNat + 1 by omega]; exact (hjs (by omega) (by simpa [keepM] using (by assumption : delM xs m (r.getD jj.toNat 0) = true))).1)), (by rw [show (jj + 1).toNat = jj.toNat + 1 by omega]; first | exact (hjk (by omega) (by simpa [keepM] using (by assumption : delM xs m (r.getD jj.toNat 0) = false))).2.1 | exact (hjs (by omega) (by simpa [keepM] using (by assumption : delM xs m (r.getD jj.toNat 0) = true))).2)⟩ (by show ((a.length - (jj + 1)).toNat) < ((a.length - jj).toNat); omega)))
      · refine R.go 4 (R.ar (jj + 1) (by kernel_rfl) (by omega) (by omega) (by kernel_rfl) ?_)
        exact R.go 2 (R.stop R3 (by kernel_rfl) (N4 (jj + 1, ii, r) [0, 1, 5, 6] none _ (by kernel_rfl) (by kernel_rfl) ⟨(by omega), (by omega), (by omega), (by first | assumption | exact (hjk (by omega) (by simpa [keepM] using (by assumption : delM xs m (r.getD jj.toNat 0) = false))).2.2), (by first | (rw [show (ii + 1).toNat = ii.toNat + 1 by omega, show (jj + 1).toNat = jj.toNat + 1 by omega]; exact (hjk (by omega) (by simpa [keepM] using (by assumption : delM xs m (r.getD jj.toNat 0) = false))).1) | (rw [show (jj + 1).toNat = jj.toNat + 1 by omega]; exact (hjs (by omega) (by simpa [keepM] using (by assumption : delM xs m (r.getD jj.toNat 0) = true))).1)), (by rw [show (jj + 1).toNat = jj.toNat + 1 by omega]; first | exact (hjk (by omega) (by simpa [keepM] using (by assumption : delM xs m (r.getD jj.toNat 0) = false))).2.1 | exact (hjs (by omega) (by simpa [keepM] using (by assumption : delM xs m (r.getD jj.toNat 0) = true))).2)⟩ (by show ((a.length - (jj + 1)).toNat) < ((a.length - jj).toNat); omega)))
    · refine R.go 5 (R.clr eI 0 r 2 2 ((ii).toNat) ii (by kernel_rfl) (by omega) (fun _ => rfl) (fun _ => rfl) (fun _ => rfl) (by omega) ?_)
      refine R.go 5 (R.cut eI (r.take ((ii).toNat) ++ List.replicate (r.length - (ii).toNat) 0) 2 2 ((ii).toNat) ii (by kernel_rfl) (by omega) eI_len (by first | omega | (simp only [List.length_set]; omega) | (simp <;> omega)) (by kernel_rfl) ?_)
      refine R.go 2 (R.back (.ref 2) (frm 9 [(0, .agg [AI n, LI xs]), (1, AI m), (2, .ptr 0 0), (3, .ptr 1 0), (4, .nil), (5, AI m), (7, .fn 249 [.ptr 1 0, .ptr 0 0])]) (by kernel_rfl) (by kernel_rfl) (by kernel_rfl) ?_)
      exact R.go 2 (R.retE (ownA eI 2 1 ((r.take ((ii).toNat) ++ List.replicate (r.length - (ii).toNat) 0).take ((ii).toNat))) (by kernel_rfl) (by kernel_rfl) (by first | (apply congrArg (ownA eI _ 1); rw [← mn_eq (by omega) hm, ← haE]; first | exact (fidx_none hqn (Int.le_refl 0) (by assumption)).symm | exact fil_cut (jj := jj) (by assumption) (by omega) (by omega) (by omega) (by omega) (by assumption)) | (exfalso; omega)))

end Go.Proofs.YtalfakdiinhdnaaGreat
