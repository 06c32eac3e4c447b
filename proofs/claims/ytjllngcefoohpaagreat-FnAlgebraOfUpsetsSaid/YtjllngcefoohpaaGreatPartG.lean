/- Texts of the proof: SymX, SymY, SymZ, Syma, SymK, Sym2, SymL. -/
import Derived.RangeFuncNested
import Derived.Test.YtjllngcefoohpaaGreatPartF

/-! The machine's rules: loops over functions. -/
namespace Go.Abs
open Go.RowKit

/-- A new object that names no block. -/
theorem HRel.extend0 {w w' : World} {Z : Nat → Prop} {B : Nat} {μ : List Value} {hp : List AObj} {u : Value} {o : AObj} (h : HRel w Z B μ hp)
    (hb : Below w.heap.size w w') (hnew : ObjRel w' Z (μ ++ [u]) B u o) (hbl : blk u = none) (hone : u.oneCell' = true) : HRel w' Z B (μ ++ [u]) (hp ++ [o]) := by
  have hold : ∀ (i : Nat) (x : Value), μ[i]? = some x → (μ ++ [u])[i]? = some x := fun i x hx => by
    rw [List.getElem?_append_left (List.getElem?_eq_some_iff.1 hx).1]; exact hx
  have hbk : ∀ (i : Nat) oi ui g, hp[i]? = some oi → oi.alive = true → μ[i]? = some ui → blk ui = some g → g < w.heap.size := fun i oi ui g h1 h2 h3 h4 => ((h.obj i oi ui h1 h3).blk_ge h2 h4).2
  have split : ∀ (i : Nat) oi ui, (hp ++ [o])[i]? = some oi → (μ ++ [u])[i]? = some ui → (hp[i]? = some oi ∧ μ[i]? = some ui) ∨ (i = hp.length ∧ oi = o ∧ ui = u) := by
    intro i oi ui h1 h2
    rcases Nat.lt_trichotomy i hp.length with hi | hi | hi
    · rw [List.getElem?_append_left hi] at h1
      rw [List.getElem?_append_left (by rw [h.len]; exact hi)] at h2
      exact .inl ⟨h1, h2⟩
    · subst hi
      rw [List.getElem?_append_right (Nat.le_refl _)] at h1
      rw [List.getElem?_append_right (by rw [h.len]; exact Nat.le_refl _), h.len] at h2
      simp at h1 h2
      exact .inr ⟨rfl, h1.symm, h2.symm⟩
    · rw [List.getElem?_eq_none (by simp; omega)] at h1
      cases h1
  refine ⟨by simp [h.len], fun i oi ui g h1 ha h2 hg => ?_, fun i x hx => ?_, fun i oi ui h1 h2 => ?_, fun i j oi oj ui uj g hne h1 h2 a1 a2 m1 m2 b1 b2 => ?_⟩
  · rcases split i oi ui h1 h2 with ⟨e1, e2⟩ | ⟨_, rfl, rfl⟩
    · exact h.zone i oi ui g e1 ha e2 hg
    · rw [hbl] at hg; cases hg
  · rcases Nat.lt_or_ge i μ.length with hi | hi
    · rw [List.getElem?_append_left hi] at hx
      exact h.one i x hx
    · rw [List.getElem?_append_right hi] at hx
      have : x = u := by
        rcases Nat.eq_zero_or_pos (i - μ.length) with h0 | h0
        · rw [h0] at hx; simpa using hx.symm
        · rw [List.getElem?_eq_none (by simp; omega)] at hx; cases hx
      subst this
      exact hone
  · rcases split i oi ui h1 h2 with ⟨e1, e2⟩ | ⟨_, rfl, rfl⟩
    · cases ho : oi.alive with
      | true => exact (h.obj i oi ui e1 e2).keep (fun b hb1 _ => hb.block b hb1) hold (fun g hg => hb.block g (hbk i oi ui g e1 ho e2 hg))
      | false => exact (h.obj i oi ui e1 e2).keep_dead (fun b hb1 _ => hb.block b hb1) hold ho
    · exact hnew
  · rcases split i oi ui h1 m1 with ⟨e1, e2⟩ | ⟨_, rfl, rfl⟩ <;> rcases split j oj uj h2 m2 with ⟨e3, e4⟩ | ⟨_, rfl, rfl⟩
    · exact h.sep i j oi oj ui uj g hne e1 e3 a1 a2 e2 e4 b1 b2
    · rw [hbl] at b2; cases b2
    · rw [hbl] at b1; cases b1
    · rw [hbl] at b1; cases b1

/-- The block r, which holds no cells, is turned; the one object that holds no cells is turned with it. -/
theorem HRel.turn {w : World} {Z : Nat → Prop} {B : Nat} {μ : List Value} {hp : List AObj} {i r : Nat} {o o' : Obj} {x' : Inert} (h : HRel w Z B μ hp) (hr : w.heap[r]? = some o) (hn : o.isCells = false)
    (hi : ∀ j x, hp[j]? = some (.inert x) → j = i) (hnew : ∀ u, μ[i]? = some u → InertRel (w.putObj r o') Z B u x') : HRel (w.putObj r o') Z B μ (hp.set i (.inert x')) := by
  have get : ∀ (j : Nat) oj, (hp.set i (.inert x'))[j]? = some oj → (j = i ∧ oj = .inert x') ∨ (hp[j]? = some oj ∧ ∀ x, oj ≠ .inert x) := by
    intro j oj hj
    by_cases hji : j = i
    · subst hji
      rcases Nat.lt_or_ge j hp.length with hlt | hge
      · rw [List.getElem?_set_self hlt] at hj; simp at hj; exact .inl ⟨rfl, hj.symm⟩
      · rw [List.getElem?_eq_none (by simpa using hge)] at hj; cases hj
    · rw [List.getElem?_set_ne (Ne.symm hji)] at hj
      exact .inr ⟨hj, fun x e => hji (hi j x (by rw [hj, e]))⟩
  refine ⟨by simpa using h.len, fun j o u g h1 ha h2 hg => ?_, h.one, fun j oj u h1 h2 => ?_, fun j k oj ok uj uk g hne h1 h2 a1 a2 m1 m2 b1 b2 => ?_⟩
  · rcases get j o h1 with ⟨rfl, rfl⟩ | ⟨h1, _⟩
    · have := (hnew u h2).blk
      rw [this] at hg; cases hg
    · exact h.zone j o u g h1 ha h2 hg
  · rcases get j oj h1 with ⟨rfl, rfl⟩ | ⟨h1, hx⟩
    · exact hnew u h2
    · exact (h.obj j oj u h1 h2).turn hr hn hx
  · rcases get j oj h1 with ⟨rfl, rfl⟩ | ⟨h1, _⟩
    · rw [(hnew uj m1).blk] at b1; cases b1
    · rcases get k ok h2 with ⟨rfl, rfl⟩ | ⟨h2, _⟩
      · rw [(hnew uk m2).blk] at b2; cases b2
      · exact h.sep j k oj ok uj uk g hne h1 h2 a1 a2 m1 m2 b1 b2

theorem oneInert_at {hp : List AObj} (h : oneInert hp = true) {i : Nat} {y : Inert} (hi : hp[i]? = some (.inert y)) : ∀ j x, hp[j]? = some (.inert x) → j = i := fun j x hj => oneInert_sound h j i x y hj hi

/-- How far the loop has come that object i stands for. -/
def lstAt (i : Nat) (hp : List AObj) : Option (Nat × LSt) :=
  match hp[i]? with
  | some (.inert (.lrec D s _ _ _ _)) => if oneInert hp then some (D, s) else none
  | _ => none

theorem lstAt_parts {i D : Nat} {s : LSt} {hp : List AObj} (h : lstAt i hp = some (D, s)) : (∃ us ps asg bd, hp[i]? = some (.inert (.lrec D s us ps asg bd))) ∧ oneInert hp = true := by
  unfold lstAt at h
  split at h
  · rename_i D' s' us ps asg bd hi
    split at h
    · cases h
      exact ⟨⟨us, ps, asg, bd, hi⟩, by assumption⟩
    · cases h
  · cases h

def Inert.to (s : LSt) : Inert → Inert
  | .lrec D _ us ps asg bd => .lrec D s us ps asg bd
  | x => x

def setL (i : Nat) (s : LSt) (hp : List AObj) : List AObj :=
  match hp[i]? with
  | some (.inert x) => hp.set i (.inert (x.to s))
  | _ => hp

def Inert.over : Inert → Inert
  | .lrec D _ _ _ _ _ => .mark D
  | x => x
def setM (i : Nat) (hp : List AObj) : List AObj :=
  match hp[i]? with
  | some (.inert x) => hp.set i (.inert x.over)
  | _ => hp

/-- The record's block is turned, and its object with it. -/
theorem HRel.turnL {w : World} {Z : Nat → Prop} {B D i : Nat} {μ : List Value} {hp : List AObj} {s : LSt} {us : List Value} {ps : Array Tmp} {asg bd : Code} (h : HRel w Z B μ hp) (h1 : oneInert hp = true)
    (hi : hp[i]? = some (.inert (.lrec D s us ps asg bd))) :
    ∃ r : Loop, w.heap[D + 1]? = some (.loop r) ∧ r.state = s.state ∧ r.pending = s.pend ∧ r.tmps = us.toArray ∧ r.params = ps ∧ r.assign = asg ∧ r.body = bd ∧ B ≤ D ∧ w.heap[D]? = some (.deferred (some [])) ∧ μ[i]? = some (.func (.yield (D + 1)) #[] #[]) ∧
      (∀ s' : LSt, HRel (w.putObj (D + 1) (.loop { r with state := s'.state, pending := s'.pend })) Z B μ (setL i s' hp)) ∧
      (∀ o', HRel (w.putObj (D + 1) o') Z B μ (setM i hp)) := by
  have hil : i < μ.length := by rw [h.len]; exact (List.getElem?_eq_some_iff.1 hi).1
  obtain ⟨u, hu⟩ : ∃ u, μ[i]? = some u := ⟨_, List.getElem?_eq_getElem hil⟩
  obtain ⟨fn, rfl, ⟨⟨hB, hz⟩, hD⟩, hz2, hl⟩ := h.obj i _ u hi hu
  refine ⟨_, hl, rfl, rfl, rfl, rfl, rfl, rfl, hB, hD, hu, fun s' => ?_, fun o' => ?_⟩
  · unfold setL
    rw [hi]
    refine h.turn hl rfl (oneInert_at h1 hi) fun u' hu' => ?_
    rw [hu] at hu'
    cases hu'
    exact ⟨fn, rfl, ⟨⟨hB, hz⟩, (World.putObj_heap_other (by omega)).trans hD⟩, hz2, World.putObj_heap_same (Array.getElem?_eq_some_iff.1 hl).1⟩
  · unfold setM
    rw [hi]
    refine h.turn hl rfl (oneInert_at h1 hi) fun u' hu' => ?_
    rw [hu] at hu'
    cases hu'
    exact ⟨rfl, ⟨hB, hz⟩, (World.putObj_heap_other (by omega)).trans hD⟩

/-- The temporaries ps become avs. -/
def setPs : List Tmp → List AV → List AV → List AV
  | p :: ps, v :: vs, fr => setPs ps vs (fr.set p v)
  | _, _, fr => fr

theorem setPs_rel {w : World} {Z : Nat → Prop} {μ : List Value} : ∀ {ps : List Tmp} {avs : List AV} {vs : List Value} {fr : List AV} {tmps : Array Value}, RelL w Z μ avs vs → RelL w Z μ fr tmps.toList → ps.length = avs.length →
    RelL w Z μ (setPs ps avs fr) ((ps.zip vs).foldl (fun t (x : Tmp × Value) => t.setIfInBounds x.1 x.2) tmps).toList
  | [], [], vs, fr, tmps, _, h, _ => by simpa [setPs] using h
  | p :: ps, c :: cs, vs, fr, tmps, hv, h, hl => by
    rw [RelL] at hv
    obtain ⟨x, xs, rfl, h1, h2⟩ := hv
    simp only [setPs, List.zip_cons_cons, List.foldl_cons]
    refine setPs_rel h2 ?_ (by simpa using hl)
    rw [Array.toList_setIfInBounds]
    exact h.set p h1
  | [], _ :: _, _, _, _, _, _, hl => by simp at hl
  | _ :: _, [], _, _, _, _, _, hl => by simp at hl

/-! ### The loop -/
def rfAt (m : M) : Option (FuncId × List AV) :=
  match m.ks with
  | .code (.rangeFunc g _ _ _) :: _ => match ev m.st.fr g with
    | .fn f caps => if noMark m.st.hp then some (f, caps) else none
    | _ => none
  | _ => none

def recM (D : Nat) (us : List Value) (m : M) : AObj :=
  match m.ks with
  | .code (.rangeFunc _ ps asg bd) :: _ => .inert (.lrec D .ready us ps asg bd)
  | _ => .dead

def afterM (j : Option Code) (m : M) (fr : List AV) (hp : List AObj) : M :=
  match m.ks with
  | .code (.rangeFunc _ _ _ _) :: ks => match j with
    | none => ⟨ks, ⟨fr, hp⟩⟩
    | some c => ⟨.code c :: ks, ⟨fr, hp⟩⟩
  | _ => m

/-- Behind the function that was ranged over: its caller goes on, or leaves by the jump of a round. -/
def rangeQ (P : Program) (fn : Func) (m : M) (n D : Nat) (us : List Value) (Q : Exit → St → Prop) : Exit → St → Prop := fun e st' =>
  (e = .normal ∨ e = .ret) ∧ ∃ res fr' s, resIn P fn st' = some res ∧ frameAt n st' = some (us, fr') ∧ lstAt (n + 1) st'.hp = some (D, s) ∧
    (match s with
     | .busy => False
     | s => Runs none P (afterM s.pend m fr' (setM (n + 1) (st'.hp.set n .dead))) Q)

section
variable {P : Program} {m : M} {Q : Exit → St → Prop}

theorem oneInert_dead : ∀ {hp : List AObj} (n : Nat), oneInert hp = true → oneInert (hp.set n .dead) = true
  | [], n, h => by simpa using h
  | o :: hp, 0, h => by
    unfold oneInert at h
    simp only [List.set_cons_zero, oneInert, isInert, Bool.false_eq_true, if_false]
    split at h
    · rename_i ho
      clear ho
      induction hp with
      | nil => rfl
      | cons o hp ih =>
        simp only [List.all_cons, Bool.and_eq_true] at h
        simp only [oneInert]
        rw [if_neg (by simpa using h.1)]
        exact ih h.2
    · exact h
  | o :: hp, n + 1, h => by
    unfold oneInert at h
    simp only [List.set_cons_succ, oneInert]
    split at h
    · rename_i ho
      rw [if_pos ho, List.all_eq_true]
      intro o' ho'
      rcases List.mem_or_eq_of_mem_set ho' with h1 | rfl
      · exact List.all_eq_true.1 h o' h1
      · rfl
    · rename_i ho
      rw [if_neg ho]
      exact oneInert_dead n h

theorem R.range {f : FuncId} {fn : Func} {c : Code} {caps : List AV} (hf : P.funcs[f]? = some fn) (hb : fn.body = some c) (hnm : (fn.name == "runtime.NumGoroutine") = false) (h : rfAt m = some (f, caps))
    (h' : ∀ (D : Nat) (us : List Value), Runs none P ⟨[.code c], ⟨frameOf fn.ntmps (.ref (m.st.hp.length + 1) :: caps), m.st.hp ++ [.frame us m.st.fr] ++ [recM D us m]⟩⟩ (rangeQ P fn m m.st.hp.length D us Q)) : Runs none P m Q := by
  have hen := enters_of hf hnm (by rw [hb]; rfl)
  obtain ⟨ks, ⟨fr, hp⟩⟩ := m
  unfold rfAt at h
  simp only at h
  rw [runs_iff]
  split at h
  · rename_i g ps asg bd ks'
    split at h
    · rename_i f' caps' hg
      split at h
      · rename_i hnmk
        cases h
        simp only [recM] at h'
        simp only [RunsK]
        intro Z0 w0 a w hS
        obtain ⟨μ, F, hFb, hH, hF, hd, hbel⟩ := hS
        have hd0 := hd.none hnmk
        refine wpIn_rangeFunc ?_
        intro fnid _
        have hgv := hg ▸ ev_rel hF g
        simp only [Rel] at hgv
        obtain ⟨cv, hgv, hcr⟩ := hgv
        obtain ⟨rec, hrec⟩ : ∃ rec : Loop, rec = { state := .ready, pending := none, fn := fnid, tmps := a.tmps, params := ps, assign := asg, body := bd, defers := w.heap.size } := ⟨_, rfl⟩
        obtain ⟨W1, hW1⟩ : ∃ W1, (w.alloc (.deferred (some []))).alloc (.loop rec) = W1 := ⟨_, rfl⟩
        have hL1 : W1.heap[w.heap.size + 1]? = some (.loop rec) := by
          rw [← hW1]; have := World.alloc_heap_new (w.alloc (.deferred (some []))) (.loop rec); rwa [World.size_alloc] at this
        have hK1 : W1.heap[w.heap.size]? = some (.deferred (some [])) := by
          rw [← hW1]; exact (Below.heap_alloc _ _ _ (by simp)).trans (World.alloc_heap_new w _)
        have hsz : W1.heap.size = w.heap.size + 2 := by rw [← hW1]; simp
        have hb1 : Below w.heap.size w W1 := by
          rw [← hW1]; exact ((Below.refl _ w).alloc (Nat.le_refl _) _).alloc (by simp) _
        refine ⟨w.heap.size + 1, [{ target := .collected w.heap.size, args := #[] }], W1, { target := .fn (.func f) cv.toArray, args := #[.func (.yield (w.heap.size + 1)) #[] #[]] }, W1, f,
          #[.func (.yield (w.heap.size + 1)) #[] #[]] ++ cv.toArray, W1, ?_, ?_, fun _ _ => trivial, ?_, fun hd => absurd hd (by simp [Fc, Fence.wide]), ?_⟩
        · rw [← hW1, hrec]; exact run_enterLoop_outer _ _ _ _ _
        · simp only [resolve, hgv]
          simp [go_sem]
        · simp [invoke, go_sem, hen _ W1]
        · -- the function that is ranged over
          have hrun := h' w.heap.size a.tmps.toList
          simp only [runs_iff, RunsK] at hrun
          have hFb2 : ∀ b, (F b ∨ b = w.heap.size ∨ b = w.heap.size + 1) → w0.heap.size ≤ b ∧ b < W1.heap.size := fun b hb => by
            have hB := hbel.size
            rcases hb with hb | rfl | rfl
            · have := hFb b hb; omega
            · omega
            · omega
          have hz : ∀ b, b < w.heap.size → ¬ Zone Z0 F w0.heap.size b → ¬ Zone Z0 (fun b => F b ∨ b = w.heap.size ∨ b = w.heap.size + 1) w0.heap.size b := fun b _ hb => zone_more (F' := fun b => b = w.heap.size ∨ b = w.heap.size + 1) b hb
          have hzz : ∀ b, b < w.heap.size → Zone Z0 F w0.heap.size b → Zone Z0 (fun b => F b ∨ b = w.heap.size ∨ b = w.heap.size + 1) w0.heap.size b := fun b hb h => h.elim .inl fun h2 => .inr ⟨h2.1, fun hf => hf.elim h2.2 (fun h3 => by omega)⟩
          have hnz : ∀ b, w.heap.size ≤ b → b ≤ w.heap.size + 1 → ¬ Zone Z0 (fun b => F b ∨ b = w.heap.size ∨ b = w.heap.size + 1) w0.heap.size b := fun b h1 h2 h => by
            have hB := hbel.size
            rcases h with h | h
            · omega
            · exact h.2 (.inr (by omega))
          have hH1 := (hH.weak hz hzz).extend0 (u := .bool false) (o := .frame a.tmps.toList fr) (Below.refl _ _) (RelL.keep (w := w) (fun _ _ _ => rfl) (fun i u hu => append_old i u hu) (hF.weak hz)) rfl rfl
          have hH2 := hH1.extend0 (u := .func (.yield (w.heap.size + 1)) #[] #[]) (o := .inert (.lrec w.heap.size .ready a.tmps.toList ps asg bd)) hb1
            ⟨fnid, rfl, ⟨⟨hbel.size, hnz _ (Nat.le_refl _) (by omega)⟩, hK1⟩, hnz _ (by omega) (Nat.le_refl _), by rw [hL1, hrec]; rfl⟩ rfl rfl
          have hlen := hcr.length
          have hkeep : ∀ {cs : List AV} {vs : List Value}, RelL w (Zone Z0 F w0.heap.size) μ cs vs → RelL W1 (Zone Z0 (fun b => F b ∨ b = w.heap.size ∨ b = w.heap.size + 1) w0.heap.size) (μ ++ [.bool false] ++ [.func (.yield (w.heap.size + 1)) #[] #[]]) cs vs := fun h =>
            RelL.keep (w := w) (fun b hb _ => hb1.block b hb) (fun i u hu => append_old i u (append_old i u hu)) (h.weak hz)
          have hS2 : Sim Z0 w0 ⟨frameOf fn.ntmps (.ref (hp.length + 1) :: caps), hp ++ [.frame a.tmps.toList fr] ++ [.inert (.lrec w.heap.size .ready a.tmps.toList ps asg bd)]⟩
              { tmps := (#[Value.func (.yield (w.heap.size + 1)) #[] #[]] ++ cv.toArray) ++ Array.replicate (fn.ntmps - (#[Value.func (.yield (w.heap.size + 1)) #[] #[]] ++ cv.toArray).size) undef, defers := [] } W1 := by
            refine ⟨_, _, hFb2, hH2, ?_, .inl rfl, hbel.trans (hb1.mono hbel.size)⟩
            have hall : RelL W1 (Zone Z0 (fun b => F b ∨ b = w.heap.size ∨ b = w.heap.size + 1) w0.heap.size) (μ ++ [.bool false] ++ [.func (.yield (w.heap.size + 1)) #[] #[]]) (.ref (hp.length + 1) :: caps) (.func (.yield (w.heap.size + 1)) #[] #[] :: cv) := by
              refine RelL.cons ?_ (hkeep hcr)
              simp only [Rel]
              rw [← hH.len]
              simp
            have e1 : (#[Value.func (.yield (w.heap.size + 1)) #[] #[]] ++ cv.toArray) = (Value.func (.yield (w.heap.size + 1)) #[] #[] :: cv).toArray := by simp
            rw [e1]
            have hl2 := hall.length
            simp only [Array.toList_append, Array.toList_replicate, List.size_toArray, hl2, frameOf]
            refine RelL.append hall ?_
            generalize fn.ntmps - (AV.ref (hp.length + 1) :: caps).length = n
            induction n with
            | zero => exact RelL.nil
            | succ n ih => exact RelL.cons (by simp [Rel]) ih
          refine callsIn_of_wp (F := Fc none) (n := 0 - 1) hf hb trivial (wpIn_mono (hrun Z0 w0 _ W1 hS2) ?_)
          have fin : ∀ (e : Exit) (st' : St) (a' : Act) (w' : World), rangeQ P fn ⟨.code (.rangeFunc g ps asg bd) :: ks', ⟨fr, hp⟩⟩ hp.length w.heap.size a.tmps.toList Q e st' → Sim Z0 w0 st' a' w' → a'.defers = [] ∧ ∃ v, (results fn a'.tmps).run P w' = .ok v w' ∧
              rangePost (Fc none) 0 P (w.heap.size + 1) (fun e a' w' => ∃ st', RunsK none P Q ks' e st' ∧ Sim Z0 w0 st' a' w') { a with defers := [{ target := .collected w.heap.size, args := #[] }] ++ a.defers } (.returned v) w' := by
            rintro e st' a' w' ⟨_, res, fr', s, hres, hfr, hls, hgo⟩ ⟨μ', F', hFb', hH', hF', hd', hbel'⟩
            obtain ⟨x, h1, h2⟩ := resIn_run hH' hF' hres
            obtain ⟨⟨us', ps', asg', bd', hi⟩, hone⟩ := lstAt_parts hls
            refine ⟨hd'.none (resIn_mark hres), x, h1, ?_⟩
            unfold frameAt at hfr
            split at hfr
            · rename_i us2 fr2 hi2
              cases hfr
              have hil : hp.length < μ'.length := by rw [hH'.len]; exact (List.getElem?_eq_some_iff.1 hi2).1
              have hfrr : RelL w' (Zone Z0 F' w0.heap.size) μ' fr' a.tmps.toList := hH'.obj _ _ _ hi2 (List.getElem?_eq_getElem hil)
              have hi3 : (st'.hp.set hp.length .dead)[hp.length + 1]? = some (.inert (.lrec w.heap.size s us' ps' asg' bd')) := by
                rw [List.getElem?_set_ne (by omega)]; exact hi
              obtain ⟨r, hr1, hr2, hr3, _, _, _, _, hBD, hD, hμ, _, hM⟩ := (hH'.bury hp.length).turnL (oneInert_dead _ hone) hi3
              have hend := run_endLoop (P := P) hr1
              have hsim : Sim Z0 w0 ⟨fr', setM (hp.length + 1) (st'.hp.set hp.length .dead)⟩ { a with defers := [{ target := .collected w.heap.size, args := #[] }] ++ a.defers } (w'.putObj (w.heap.size + 1) (.loop { r with state := .exhausted })) := by
                refine ⟨μ', F', fun b hb => by rw [World.putObj_size]; exact hFb' b hb, hM _, hfrr.cells (putObj_cells hr1 rfl), .inr ⟨hp.length + 1, w.heap.size, _, ?_, hμ, by rw [hd0]; rfl⟩, ?_⟩
                · unfold setM
                  rw [hi3]
                  simp only [Inert.over]
                  rw [List.getElem?_set_self]
                  have := (List.getElem?_eq_some_iff.1 hi3).1
                  exact this
                · exact hbel'.grown (grownBy_putObj' w' _ _) hbel'.size (fun k e => by cases e; omega)
              cases s with
              | ready =>
                refine ⟨none, w'.putObj (w.heap.size + 1) (.loop { r with state := .exhausted }), (hend (by rw [hr2]; simp [LSt.state])).trans (congrArg (fun x => Result.ok x _) hr3), ?_⟩
                simp only [runs_iff, afterM, LSt.pend] at hgo
                exact ⟨_, hgo, hsim⟩
              | busy => exact hgo.elim
              | done c =>
                refine ⟨some c, w'.putObj (w.heap.size + 1) (.loop { r with state := .exhausted }), (hend (by rw [hr2]; simp [LSt.state])).trans (congrArg (fun x => Result.ok x _) hr3), ?_⟩
                simp only [runs_iff, afterM, LSt.pend, RunsK] at hgo
                exact hgo Z0 w0 _ _ hsim
            · cases hfr
          rintro e a' w' ⟨st', hq, hS'⟩
          cases e with
          | normal => exact fin _ st' a' w' hq hS'
          | ret => exact fin _ st' a' w' hq hS'
          | exit id => exact absurd hq.1 (by simp)
          | goto l => exact absurd hq.1 (by simp)
          | panic ch => exact absurd hq.1 (by simp)
          | outgrown => exact absurd hq.1 (by simp)
      · cases h
    · cases h
  · cases h

/-! ### Rounds -/
/-- The head calls yield: the record's object, its D, the values us of the caller's frame (by the record, by the frame), the caller's frame with the loop's variables set. -/
def ylAt (m : M) : Option (Nat × Nat × List Value × List Value) :=
  match opM m with
  | some (.call c) => match c.callee with
    | .value f => match ev m.st.fr f with
      | .ref i => match m.st.hp[i]?, m.st.hp[i - 1]? with
        | some (.inert (.lrec D .ready us ps _ _)), some (.frame us' _) => if noMark m.st.hp && oneInert m.st.hp && decide (ps.size = c.args.size) then some (i, D, us, us') else none
        | _, _ => none
      | _ => none
    | _ => none
  | _ => none

def ylF (m : M) : List AV :=
  match opM m with
  | some (.call c) => match c.callee with
    | .value f => match ev m.st.fr f with
      | .ref i => match m.st.hp[i]?, m.st.hp[i - 1]? with
        | some (.inert (.lrec _ _ _ ps _ _)), some (.frame _ fr) => setPs ps.toList (c.args.toList.map (ev m.st.fr)) fr
        | _, _ => []
      | _ => []
    | _ => []
  | _ => []

def ylC (m : M) : Code × Code :=
  match opM m with
  | some (.call c) => match c.callee with
    | .value f => match ev m.st.fr f with
      | .ref i => match m.st.hp[i]? with
        | some (.inert (.lrec _ _ _ _ asg bd)) => (asg, bd)
        | _ => (.skip, .skip)
      | _ => (.skip, .skip)
    | _ => (.skip, .skip)
  | _ => (.skip, .skip)

/-- Behind the assignments to the loop's variables the record is busy and the body runs. -/
def beginQ (l : Nat) (P : Program) (i D : Nat) (bd : Code) (Q : Exit → St → Prop) : Exit → St → Prop := fun e st' =>
  e = .normal ∧ lstAt i st'.hp = some (D, .ready) ∧ Runs (some l) P ⟨[.code bd], ⟨st'.fr, setL i .busy st'.hp⟩⟩ Q

/-- Behind a round yield's caller goes on. -/
def roundQ (P : Program) (m : M) (i D n : Nat) (us : List Value) (Q : Exit → St → Prop) : Exit → St → Prop := fun e st' =>
  ∃ fr', frameAt n st' = some (us, fr') ∧ lstAt i st'.hp = some (D, .busy) ∧
    match e with
    | .normal => Runs none P (backM m fr' (.bool true) (setL i .ready (st'.hp.set n .dead))) Q
    | .ret => Runs none P (backM m fr' (.bool false) (setL i (.done .ret) (st'.hp.set n .dead))) Q
    | .exit id => Runs none P (backM m fr' (.bool false) (setL i (.done (.exit id)) (st'.hp.set n .dead))) Q
    | _ => False

theorem R.yield (i D : Nat) (us : List Value) (h : ylAt m = some (i, D, us, us)) (ho : opsAt m = true)
    (h' : ∀ (l : Nat) (us' : List Value), Runs (some l) P ⟨[.code (ylC m).1], ⟨ylF m, m.st.hp ++ [.frame us' m.st.fr]⟩⟩ (beginQ l P i D (ylC m).2 (roundQ P m i D m.st.hp.length us' Q))) : Runs none P m Q := by
  obtain ⟨ks, ⟨fr, hp⟩⟩ := m
  unfold ylAt at h
  unfold ylF ylC at h'
  unfold opM headOf at h h'
  unfold opsAt at ho
  simp only at h ho h'
  rw [runs_iff]
  split at ho
  · rename_i all o lst fl ks'
    simp only at h h'
    split at h
    · rename_i c hop
      split at hop
      · rename_i hw
        simp only [Option.some.injEq] at hop
        simp only [hw, if_true, hop] at h'
        split at h
        · rename_i fo hcal
          simp only [hcal] at h'
          split at h
          · rename_i i0 hev
            simp only [hev] at h'
            split at h
            · rename_i D0 us0 ps asg bd us1 cfr hi0 hi1
              simp only [hi0, hi1] at h'
              split at h
              · rename_i hc
                simp only [Bool.and_eq_true, decide_eq_true_eq] at hc
                obtain ⟨⟨hnmk, hone⟩, hps⟩ := hc
                simp only [Option.some.injEq, Prod.mk.injEq] at h
                obtain ⟨rfl, rfl, rfl, rfl⟩ := h
                simp only [RunsK]
                intro hW
                have hwant := wantH_true hw hW
                intro Z0 w0 a w hS
                obtain ⟨μ, F, hFb, hH, hF, hd, hbel⟩ := hS
                have hd0 := hd.none hnmk
                refine wpListIn_step fun K hK => ?_
                rw [wanted_rel hF hwant, if_pos rfl]
                have hE : ∀ y, Rel w (Zone Z0 F w0.heap.size) μ (ev fr y) (a.eval y) := fun y => ev_rel hF y
                have hcv := hev ▸ hE fo
                simp only [Rel] at hcv
                obtain ⟨r, hr1, hr2, hr3, hr4, hr5, hr6, hr7, hBD, hD, hμ, hL, _⟩ := hH.turnL hone hi0
                rw [hμ] at hcv
                have hcv : a.eval fo = .func (.yield (D0 + 1)) #[] #[] := (Option.some.inj hcv).symm
                have hargs' : RelL w (Zone Z0 F w0.heap.size) μ (c.args.toList.map (ev fr)) (c.args.toList.map a.eval) := by
                  generalize c.args.toList = l
                  induction l with
                  | nil => exact RelL.nil
                  | cons x l ih => exact RelL.cons (hE x) ih
                have hrun : (execOp a.eval o).run P w = .ok (.round (D0 + 1) r.fn ((ps.zip (c.args.map a.eval)).foldl (fun tmps (x : Tmp × Value) => tmps.setIfInBounds x.1 x.2) us1.toArray) asg bd) w := by
                  have hy := run_yield (P := P) (args := c.args.map a.eval) hr1 (by rw [hr5, Array.size_map]; exact hps.symm)
                  rw [hr4, hr5, hr6, hr7] at hy
                  obtain ⟨callee, cargs, tys⟩ := c
                  simp only at hcal hy
                  subst hcal
                  simp only [execOp, hop, resolve, Deferred.ofValue, hcv, Sem.run_bind, Sem.run_pure, Result.andThen_ok, invoke, Array.empty_append, Array.append_empty]
                  exact hy
                refine wpIn_of_run (fun c' => by rw [hop]; simp) ?_
                rw [hrun, Oper.uponIn_round]
                refine ⟨fun hd => absurd hd (by simp [Fc, Fence.wide]), ?_⟩
                refine roundIn_of_wpIn (F := Fc none) trivial ?_
                have hrun2 := h' (D0 + 1) a.tmps.toList
                simp only [runs_iff, RunsK] at hrun2
                have hil : i0 - 1 < μ.length := by rw [hH.len]; exact (List.getElem?_eq_some_iff.1 hi1).1
                have hcfr : RelL w (Zone Z0 F w0.heap.size) μ cfr us1 := hH.obj _ _ _ hi1 (List.getElem?_eq_getElem hil)
                have hS2 : Sim Z0 w0 ⟨setPs ps.toList (c.args.toList.map (ev fr)) cfr, hp ++ [.frame a.tmps.toList fr]⟩ { tmps := (ps.zip (c.args.map a.eval)).foldl (fun tmps (x : Tmp × Value) => tmps.setIfInBounds x.1 x.2) us1.toArray, defers := [] } w := by
                  refine ⟨μ ++ [.bool false], F, hFb, hH.extend0 (Below.refl _ _) (RelL.keep (w := w) (fun _ _ _ => rfl) (fun i u hu => append_old i u hu) hF) rfl rfl, ?_, .inl rfl, hbel⟩
                  have := setPs_rel (ps := ps.toList) (tmps := us1.toArray) hargs' hcfr (by simpa using hps)
                  refine RelL.keep (w := w) (fun _ _ _ => rfl) (fun i u hu => append_old i u hu) ?_
                  rw [← Array.foldl_toList, Array.toList_zip, Array.toList_map]
                  exact this
                refine wpIn_mono (hrun2 Z0 w0 _ w hS2) ?_
                rintro e a1 w1 ⟨st1, ⟨rfl, hls, hgo⟩, hS1⟩
                obtain ⟨⟨us2, ps2, as2, bd2, hj⟩, hone1⟩ := lstAt_parts hls
                obtain ⟨μ1, F1, hFb1, hH1, hF1, hd1, hbel1⟩ := hS1
                obtain ⟨r1, k1, k2, k3, k4, k5, k6, k7, kB, kD, kμ, kL, _⟩ := hH1.turnL hone1 hj
                refine ⟨_, run_beginRound k1 (by rw [k2]; rfl), ?_⟩
                have hbusy : ({ r1 with state := .busy } : Loop) = { r1 with state := LSt.busy.state, pending := LSt.busy.pend } := by
                  rw [show LSt.busy.pend = r1.pending from k3.symm]; rfl
                have keepD : ∀ {hp' : List AObj} {μ' : List Value} {ds : List Deferred} (s : LSt), Defs μ' hp' ds → noMark hp' = true → Defs μ' (setL i0 s hp') ds := fun s h hn => .inl (h.none hn)
                have hS3 : Sim Z0 w0 ⟨st1.fr, setL i0 .busy st1.hp⟩ a1 (w1.putObj (D0 + 1) (.loop { r1 with state := .busy })) := by
                  refine ⟨μ1, F1, fun b hb => by rw [World.putObj_size]; exact hFb1 b hb, by rw [hbusy]; exact kL .busy, hF1.cells (putObj_cells k1 rfl), ?_, hbel1.grown (grownBy_putObj' w1 _ _) hbel1.size (fun k e => by cases e; omega)⟩
                  rcases hd1 with hd1 | ⟨i', D', u', e1, _, _⟩
                  · exact .inl hd1
                  · exfalso
                    have := oneInert_at hone1 hj _ _ e1
                    subst this
                    rw [hj] at e1
                    cases e1
                simp only [runs_iff, RunsK] at hgo
                refine wpIn_mono (hgo Z0 w0 _ _ hS3) ?_
                have fin : ∀ (s : LSt) (j : Option Code) (b : Bool) (st2 : St) (a2 : Act) (w2 : World) (fr2 : List AV), s.pend = j → s.state = (if j.isNone then LoopState.ready else LoopState.done) → b = j.isNone → frameAt hp.length st2 = some (a.tmps.toList, fr2) → lstAt i0 st2.hp = some (D0, .busy) → Sim Z0 w0 st2 a2 w2 →
                    Runs none P (backM ⟨.ops all (o :: lst) fl :: ks', ⟨fr, hp⟩⟩ fr2 (.bool b) (setL i0 s (st2.hp.set hp.length .dead))) Q → ∃ v w3, (Instr.endRound (D0 + 1) j).run P w2 = .ok v w3 ∧ K (a.put o.dst v) w3 := by
                  rintro s j b st2 a2 w2 fr2 rfl hst rfl hfr hls2 ⟨μ2, F2, hFb2, hH2, hF2, hd2, hbel2⟩ hgo2
                  obtain ⟨⟨us3, ps3, as3, bd3, hj3⟩, hone2⟩ := lstAt_parts hls2
                  unfold frameAt at hfr
                  split at hfr
                  · rename_i us4 fr4 hi4
                    cases hfr
                    have hne : hp.length ≠ i0 := by
                      intro e
                      rw [e, hj3] at hi4
                      cases hi4
                    have hj4 : (st2.hp.set hp.length .dead)[i0]? = some (.inert (.lrec D0 .busy us3 ps3 as3 bd3)) := by
                      rw [List.getElem?_set_ne hne]; exact hj3
                    obtain ⟨r2, q1, q2, q3, _, _, _, _, qB, _, _, qL, _⟩ := (hH2.bury hp.length).turnL (oneInert_dead _ hone2) hj4
                    refine ⟨_, _, run_endRound _ q1, hK _ _ ?_⟩
                    have hil2 : hp.length < μ2.length := by rw [hH2.len]; exact (List.getElem?_eq_some_iff.1 hi4).1
                    have hfrr : RelL w2 (Zone Z0 F2 w0.heap.size) μ2 fr2 a.tmps.toList := hH2.obj _ _ _ hi4 (List.getElem?_eq_getElem hil2)
                    simp only [runs_iff, backM, RunsK] at hgo2
                    refine hgo2 headW_false Z0 w0 _ _ ⟨μ2, F2, fun b hb => by rw [World.putObj_size]; exact hFb2 b hb, ?_, put_rel (hfrr.cells (putObj_cells q1 rfl)) _ (by simp [Rel]), by rw [put_defers']; exact .inl hd0, hbel2.grown (grownBy_putObj' w2 _ _) hbel2.size (fun k e => by cases e; omega)⟩
                    rw [← hst]
                    exact qL s
                  · cases hfr
                rintro e a2 w2 ⟨st2, ⟨fr2, hfr, hls2, hgo2⟩, hS4⟩
                cases e with
                | normal => exact fin .ready none true st2 a2 w2 fr2 rfl rfl rfl hfr hls2 hS4 hgo2
                | ret => exact fin (.done .ret) (some .ret) false st2 a2 w2 fr2 rfl rfl rfl hfr hls2 hS4 hgo2
                | exit id => exact fin (.done (.exit id)) (some (.exit id)) false st2 a2 w2 fr2 rfl rfl rfl hfr hls2 hS4 hgo2
                | goto l => exact hgo2.elim
                | panic ch => exact hgo2.elim
                | outgrown => exact hgo2.elim
              · cases h
            · cases h
          · cases h
        · cases h
      · cases hop
    · cases h
  · cases ho

theorem R.begin {l i D : Nat} {bd : Code} (h : m.ks = []) (hl : lstAt i m.st.hp = some (D, .ready)) (h' : Runs (some l) P ⟨[.code bd], ⟨m.st.fr, setL i .busy m.st.hp⟩⟩ Q) : Runs (some l) P m (beginQ l P i D bd Q) := by
  obtain ⟨ks, st⟩ := m
  simp only at h hl h'
  subst h
  rw [runs_iff]
  exact ⟨rfl, hl, h'⟩

/-- A round ends; the loop goes on. -/
theorem R.round {l i D n : Nat} {m0 : M} {us : List Value} (fr' : List AV) (h : m.ks = []) (hf : frameAt n m.st = some (us, fr')) (hl : lstAt i m.st.hp = some (D, .busy))
    (h' : Runs none P (backM m0 fr' (.bool true) (setL i .ready (m.st.hp.set n .dead))) Q) : Runs (some l) P m (roundQ P m0 i D n us Q) := by
  obtain ⟨ks, st⟩ := m
  simp only at h hl h' hf
  subst h
  rw [runs_iff]
  exact ⟨fr', hf, hl, h'⟩

def isRet (m : M) : Bool :=
  match m.ks with
  | .code .ret :: _ => true
  | _ => false

/-- A round returns. -/
theorem R.roundR {l i D n : Nat} {m0 : M} {us : List Value} (fr' : List AV) (h : isRet m = true) (hf : frameAt n m.st = some (us, fr')) (hl : lstAt i m.st.hp = some (D, .busy))
    (h' : Runs none P (backM m0 fr' (.bool false) (setL i (.done .ret) (m.st.hp.set n .dead))) Q) : Runs (some l) P m (roundQ P m0 i D n us Q) := by
  obtain ⟨ks, st⟩ := m
  unfold isRet at h
  simp only at h hl h' hf
  split at h
  · rw [runs_iff]
    exact RunA.ret (runsK_ret _ _ ⟨fr', hf, hl, h'⟩)
  · cases h

/-- The function that was ranged over ends, all rounds having gone on. -/
theorem R.over {fn : Func} {n D : Nat} {us : List Value} {m0 : M} (res : AV) (fr' : List AV) (h : (edAt m).isSome = true) (hr : resIn P fn m.st = some res) (hf : frameAt n m.st = some (us, fr')) (hl : lstAt (n + 1) m.st.hp = some (D, .ready))
    (h' : Runs none P (afterM none m0 fr' (setM (n + 1) (m.st.hp.set n .dead))) Q) : Runs none P m (rangeQ P fn m0 n D us Q) :=
  R.fin h ⟨.inl rfl, res, fr', .ready, hr, hf, hl, h'⟩ ⟨.inr rfl, res, fr', .ready, hr, hf, hl, h'⟩

/-- .. a round having left by the jump c. -/
theorem R.left {fn : Func} {n D : Nat} {us : List Value} {m0 : M} (c : Code) (res : AV) (fr' : List AV) (h : (edAt m).isSome = true) (hr : resIn P fn m.st = some res) (hf : frameAt n m.st = some (us, fr')) (hl : lstAt (n + 1) m.st.hp = some (D, .done c))
    (h' : Runs none P (afterM (some c) m0 fr' (setM (n + 1) (m.st.hp.set n .dead))) Q) : Runs none P m (rangeQ P fn m0 n D us Q) :=
  R.fin h ⟨.inl rfl, res, fr', .done c, hr, hf, hl, h'⟩ ⟨.inr rfl, res, fr', .done c, hr, hf, hl, h'⟩

end

end Go.Abs


/-! The machine's rules: boxes that are written no more. -/
namespace Go.Abs
open Go.RowKit

mutual
/-- Object i, a box with the cells ds, is only read from now on. -/
def bxV (i : Nat) (ds : List AV) : AV → AV
  | .ptr j o => if j = i then .rptr (ds.drop o) else .ptr j o
  | .agg cs => .agg (bxL i ds cs)
  | .tup cs => .tup (bxL i ds cs)
  | .fn f cs => .fn f (bxL i ds cs)
  | .ref j => .ref j
  | .lst s n cs => .lst s n cs
  | .clp s n cs => .clp s n cs
  | .nam u o s n cs => .nam u o s n cs
  | .rptr cs => .rptr cs
  | .int k n => .int k n
  | .bool b => .bool b
  | .str s => .str s
  | .nil => .nil
  | .own e s n cs => .own e s n cs
  | .top => .top
def bxL (i : Nat) (ds : List AV) : List AV → List AV
  | [] => []
  | c :: cs => bxV i ds c :: bxL i ds cs
end

def AObj.bx (i : Nat) (ds : List AV) : AObj → AObj
  | .box t cs => .box t (bxL i ds cs)
  | .list e s n cs => .list e s n cs
  | .dead => .dead
  | .frame us cs => .frame us (bxL i ds cs)
  | .inert x => .inert x

theorem AObj.bx_alive (i : Nat) (ds : List AV) (o : AObj) : (o.bx i ds).alive = o.alive := by cases o <;> rfl

def bxS (i : Nat) (ds : List AV) (st : St) : St := ⟨bxL i ds st.fr, (st.hp.map (AObj.bx i ds)).set i .dead⟩

theorem RelL.dropN {w : World} {Z : Nat → Prop} {μ : List Value} : ∀ {cs : List AV} {vs : List Value} (k : Nat), RelL w Z μ cs vs → RelL w Z μ (cs.drop k) (vs.drop k)
  | cs, vs, 0, h => by simpa using h
  | [], vs, k + 1, h => by rw [RelL] at h; subst h; simpa using RelL.nil
  | c :: cs, vs, k + 1, h => by
    rw [RelL] at h
    obtain ⟨x, xs, rfl, _, h2⟩ := h
    simpa using RelL.dropN k h2

mutual
theorem Rel.bx {w : World} {Z Z' : Nat → Prop} {μ : List Value} (i : Nat) (ds : List AV) (g : Nat) (xs : List Value) (hz : ∀ b, b < w.heap.size → ¬ Z b → ¬ Z' b) (hu : μ[i]? = some (.pointer (some ⟨g, 0, none⟩))) (hg : ¬ Z' g)
    (hc : ∀ (j : Nat) x, xs[j]? = some x → w.cell? ⟨g, j, none⟩ = some x) (hr : RelL w Z' [] ds xs) : ∀ {c : AV} {v : Value}, Rel w Z μ c v → Rel w Z' μ (bxV i ds c) v
  | .int _ _, _, h => by simpa [Rel, bxV] using h
  | .bool _, _, h => by simpa [Rel, bxV] using h
  | .str _, _, h => by simpa [Rel, bxV] using h
  | .nil, _, h => by simpa [Rel, bxV] using h
  | .top, _, _ => by simp [Rel, bxV]
  | .own _ _ _ _, _, h => by simp [Rel] at h
  | .lst s n cs, v, h => Rel.weak (c := .lst s n cs) hz h
  | .clp s n cs, v, h => Rel.weak (c := .clp s n cs) hz h
  | .nam u o s n cs, v, h => Rel.weak (c := .nam u o s n cs) hz h
  | .rptr cs, v, h => Rel.weak (c := .rptr cs) hz h
  | .ref j, v, h => by simpa [Rel, bxV] using h
  | .ptr j o, v, h => by
    simp only [bxV]
    split
    · rename_i hj
      simp only [Rel] at h ⊢
      obtain ⟨u, g', h1, h2, rfl⟩ := h
      rw [hj, hu] at h1
      cases h1
      simp only [blk, Option.some.injEq] at h2
      subst h2
      refine ⟨⟨g, o, none⟩, xs.drop o, rfl, fun _ => ⟨_, rfl, hg, fun j x hx => ?_⟩, hr.dropN o⟩
      rw [List.getElem?_drop] at hx
      rw [add_lit']
      exact hc _ _ hx
    · simpa [Rel] using h
  | .agg cs, v, h => by
    simp only [Rel, bxV] at h ⊢
    obtain ⟨ys, h1, h2⟩ := h
    exact ⟨ys, h1, RelL.bx i ds g xs hz hu hg hc hr h2⟩
  | .tup cs, v, h => by
    simp only [Rel, bxV] at h ⊢
    obtain ⟨ys, h1, h2⟩ := h
    exact ⟨ys, h1, RelL.bx i ds g xs hz hu hg hc hr h2⟩
  | .fn f cs, v, h => by
    simp only [Rel, bxV] at h ⊢
    obtain ⟨ys, h1, h2⟩ := h
    exact ⟨ys, h1, RelL.bx i ds g xs hz hu hg hc hr h2⟩
theorem RelL.bx {w : World} {Z Z' : Nat → Prop} {μ : List Value} (i : Nat) (ds : List AV) (g : Nat) (xs : List Value) (hz : ∀ b, b < w.heap.size → ¬ Z b → ¬ Z' b) (hu : μ[i]? = some (.pointer (some ⟨g, 0, none⟩))) (hg : ¬ Z' g)
    (hc : ∀ (j : Nat) x, xs[j]? = some x → w.cell? ⟨g, j, none⟩ = some x) (hr : RelL w Z' [] ds xs) : ∀ {cs : List AV} {vs : List Value}, RelL w Z μ cs vs → RelL w Z' μ (bxL i ds cs) vs
  | [], _, h => by simpa [RelL, bxL] using h
  | c :: cs, _, h => by
    simp only [RelL, bxL] at h ⊢
    obtain ⟨x, ys, h1, h2, h3⟩ := h
    exact ⟨x, ys, h1, Rel.bx i ds g xs hz hu hg hc hr h2, RelL.bx i ds g xs hz hu hg hc hr h3⟩
end

theorem Sub.bx (i t : Nat) (ds : List AV) (st : St) (hi : st.hp[i]? = some (.box t ds)) (hl : leafyL ds = true) : Sub st (bxS i ds st) := by
  rintro Z0 w0 a w ⟨μ, F, hFb, hH, hF, hd, hb⟩
  have hil : i < μ.length := by rw [hH.len]; exact (List.getElem?_eq_some_iff.1 hi).1
  obtain ⟨u, hu⟩ : ∃ u, μ[i]? = some u := ⟨_, List.getElem?_eq_getElem hil⟩
  have hO := hH.obj i _ u hi hu
  have hzn := fun g => hH.zone i _ u g hi rfl hu
  obtain ⟨g, xs, rfl, hB, hh, hx⟩ := hO
  have hz : ∀ b, b < w.heap.size → ¬ Zone Z0 F w0.heap.size b → ¬ Zone Z0 (fun b => F b ∨ b = g) w0.heap.size b := fun b _ h => zone_more b h
  have hg : ¬ Zone Z0 (fun b => F b ∨ b = g) w0.heap.size g := fun h => h.elim (fun h => by omega) (fun h => h.2 (.inr rfl))
  have hc : ∀ (j : Nat) x, xs[j]? = some x → w.cell? ⟨g, j, none⟩ = some x := fun j x hx => by
    rw [cell_of_row w _ j _ _ _ hh]; simpa using hx
  have hr : RelL w (Zone Z0 (fun b => F b ∨ b = g) w0.heap.size) [] ds xs := RelL.weak hz (RelL.leafy hl hx)
  refine ⟨μ, fun b => F b ∨ b = g, fun b h => h.elim (hFb b) (fun h => by subst h; exact ⟨hB, (Array.getElem?_eq_some_iff.1 hh).1⟩), ?_, RelL.bx i ds g xs hz hu hg hc hr hF, hd.keep (fun j x hj => ⟨?_, fun u hu => hu⟩), hb⟩
  rotate_left
  · have hne : i ≠ j := by
      rintro rfl
      rw [hi] at hj
      cases hj
    show ((st.hp.map (AObj.bx i ds)).set i .dead)[j]? = _
    rw [List.getElem?_set_ne hne, List.getElem?_map, hj]
    rfl
  have get : ∀ (j : Nat) o, ((st.hp.map (AObj.bx i ds)).set i .dead)[j]? = some o → o = .dead ∨ (j ≠ i ∧ ∃ o', st.hp[j]? = some o' ∧ o = o'.bx i ds) := by
    intro j o ho
    by_cases hj : j = i
    · subst hj
      rw [List.getElem?_set_self (by simpa using (List.getElem?_eq_some_iff.1 hi).1)] at ho
      simp at ho
      exact .inl ho.symm
    · rw [List.getElem?_set_ne (Ne.symm hj), List.getElem?_map, Option.map_eq_some_iff] at ho
      obtain ⟨o', h1, rfl⟩ := ho
      exact .inr ⟨hj, o', h1, rfl⟩
  refine ⟨by simp [bxS, hH.len], fun j o v g' h1 ha h2 hg' => ?_, hH.one, fun j o v h1 h2 => ?_, fun j k oj ok uj uk g' hne h1 h2 a1 a2 m1 m2 b1 b2 => ?_⟩
  · rcases get j o h1 with rfl | ⟨hj, o', ho, rfl⟩
    · cases ha
    · rw [AObj.bx_alive] at ha
      have h3 := hH.zone j o' v g' ho ha h2 hg'
      exact h3.elim .inl (fun h => .inr ⟨h.1, fun hf => hf.elim h.2 (fun h4 => hH.sep i j _ o' _ v g' (Ne.symm hj) hi ho rfl ha hu h2 (by rw [h4]; rfl) hg')⟩)
  · rcases get j o h1 with rfl | ⟨hj, o', ho, rfl⟩
    · trivial
    · have hO := hH.obj j o' v ho h2
      cases o' with
      | box t es => obtain ⟨g', ys, e1, e2, e3, e4⟩ := hO; exact ⟨g', ys, e1, e2, e3, RelL.bx i ds g xs hz hu hg hc hr e4⟩
      | list e s n es => obtain ⟨ys, e1, e2⟩ := hO; exact ⟨ys, e1, e2.weak hz⟩
      | dead => trivial
      | frame us es => exact RelL.bx i ds g xs hz hu hg hc hr hO
      | inert x => exact InertRel.keep (fun b h1 h2 => ⟨rfl, hz b h1 h2⟩) hO
  · rcases get j oj h1 with rfl | ⟨hj, o1, ho1, rfl⟩
    · cases a1
    · rcases get k ok h2 with rfl | ⟨hk, o2, ho2, rfl⟩
      · cases a2
      · rw [AObj.bx_alive] at a1 a2
        exact hH.sep j k o1 o2 uj uk g' hne ho1 ho2 a1 a2 m1 m2 b1 b2

def bxM (i : Nat) (m : M) : M :=
  match m.st.hp[i]? with
  | some (.box _ ds) => if leafyL ds then ⟨m.ks, bxS i ds m.st⟩ else m
  | _ => m

theorem R.bx {rd : Option Nat} {P : Program} {m : M} {Q : Exit → St → Prop} (i : Nat) (h : subOk m = true) (h' : Runs rd P (bxM i m) Q) : Runs rd P m Q := by
  unfold bxM at h'
  split at h'
  · rename_i t ds hi
    split at h'
    · exact R.sub _ h (Sub.bx i t ds m.st hi (by assumption)) h'
    · exact h'
  · exact h'

/-! ### The record of a function's loop over a function -/
def rfOf : Code → Option (Array Tmp × Code × Code)
  | .rangeFunc _ ps asg bd => some (ps, asg, bd)
  | .seq x y => match rfOf x with
    | some r => some r
    | none => rfOf y
  | .cond _ x y => match rfOf x with
    | some r => some r
    | none => rfOf y
  | .block _ c => rfOf c
  | .loop c => rfOf c
  | .scope c => rfOf c
  | _ => none

def loopObj (fn : Func) (D : Nat) (us : List Value) (s : LSt) : AObj :=
  match fn.body with
  | some c => match rfOf c with
    | some (ps, asg, bd) => .inert (.lrec D s us ps asg bd)
    | none => .dead
  | none => .dead

end Go.Abs


/-! The machine's rules: slices without spare room; ways that meet again. -/
namespace Go.Abs
open Go.RowKit Go.ChangeShapes Go.WideShapes Go.Deep

section
variable {rd : Option Nat} {P : Program} {m : M} {Q : Exit → St → Prop} {α : Type}

/-! ### Rows of slices, all nil at first -/
/-! ### A part of a tuple that may come first -/
def exAt (m : M) (i : Nat) : Option AV :=
  match m.ks with
  | .any ops listed (_ + 1) :: _ => match ops[i]? with
    | some o => match o.op with
      | .extract x k => if o.guard.isNone && Region.noSelect ops && Region.free .any ops listed i && (Region.ready .any ops listed).contains i then (match ev m.st.fr x with | .tup cs => cs[k]? | _ => none) else none
      | _ => none
    | none => none
  | _ => none
def exM (i : Nat) (v : AV) (m : M) : M :=
  match m.ks with
  | .any ops listed n :: ks => match ops[i]? with
    | some o => ⟨.any ops (listed.setIfInBounds i true) (n - 1) :: ks, ⟨putF m.st.fr o.dst v, m.st.hp⟩⟩
    | none => m
  | _ => m

theorem R.anyX (i : Nat) (v : AV) (h : exAt m i = some v) (np : NoPanic Q) (h' : Runs none P (exM i v m) Q) : Runs none P m Q := by
  obtain ⟨ks, ⟨fr, hp⟩⟩ := m
  simp only [runs_iff] at h' ⊢
  unfold exAt at h
  simp only at h
  split at h
  · rename_i ops listed n ks'
    split at h
    · rename_i o ho
      split at h
      · rename_i x k hx
        split at h
        · rename_i hc
          simp only [Bool.and_eq_true] at hc
          obtain ⟨⟨⟨hg, hs⟩, hf⟩, hr⟩ := hc
          split at h
          · rename_i cs hcs
            simp only [exM, ho, RunsK] at h' ⊢
            intro Z0 w0 a w hS
            have hW : Region.wanted o (yielded ops a.tmps) = true := by
              unfold Region.wanted
              rw [Option.isNone_iff_eq_none.1 hg]
            have hrun : ∃ u, ∀ w, (execOp a.eval o).run P w = .ok (.value u) w := by
              obtain ⟨μ, F, _, _, hFr, _, _⟩ := hS
              have h1 := ev_rel hFr x
              rw [hcs] at h1
              simp only [Rel] at h1
              obtain ⟨xs, h2, hr2⟩ := h1
              obtain ⟨u, hu, _⟩ := hr2.get h
              refine ⟨u, fun w => ?_⟩
              unfold execOp
              rw [hx]
              simp [h2, Instr.extract, hu] <;> rfl
            obtain ⟨u, hrun⟩ := hrun
            have hw' : WantedA ops o fr := wantedE_true (by unfold wantedE; rw [Option.isNone_iff_eq_none.1 hg])
            have h1 := StepR.sound (rd := none) (K := fun a' w' => Sim Z0 w0 ⟨putF fr o.dst v, hp⟩ a' w') (Q := fun _ _ _ => True) (st' := ⟨putF fr o.dst v, hp⟩) (by simpa using StepR.eff (P := P) (st := ⟨fr, hp⟩) hw' (v := v) (news := []) (by rw [hx]; exact EffR.extract cs hcs h)) hS (fun _ _ h => h)
            rw [if_pos hW] at h1
            unfold Oper.wpIn at h1
            have h1 := h1.2
            rw [show (Fc none).round = none from rfl, Oper.semAt_none, hrun w] at h1
            simp only [Oper.uponIn] at h1
            exact wpAnyIn_take rfl ho hs hf hr (fun c a w ⟨st', hq, _⟩ => absurd (runsK_panic ks' st' hq) (np c st')) ⟨.inl ⟨hW, hrun⟩, fun w => by unfold Oper.about; rw [hx]⟩ (h' Z0 w0 _ w h1)
          · cases h
        · cases h
      · cases h
    · cases h
  · cases h

/-! ### Ways that meet again -/
def meetQ (S : St) : Exit → St → Prop := fun e st => e = .normal ∧ st = S
theorem np_meet (S : St) : NoPanic (meetQ S) := fun _ _ h => by simp [meetQ] at h

def mtAt (m : M) : Bool :=
  match m.ks with
  | .code _ :: _ => true
  | _ => false

theorem R.meet (S : St) (h : mtAt m = true) (h1 : Runs rd P ⟨m.ks.take 1, m.st⟩ (meetQ S)) (h2 : Runs rd P ⟨m.ks.tail, S⟩ Q) : Runs rd P m Q := by
  obtain ⟨ks, st⟩ := m
  unfold mtAt at h
  simp only [runs_iff] at h h1 h2 ⊢
  split at h
  · rename_i c ks'
    simp only [List.take_succ_cons, List.take_zero, List.tail_cons, RunsK] at h1 h2 ⊢
    refine h1.mono ?_
    rintro e st' ⟨rfl, rfl⟩
    exact h2
  · cases h

theorem R.met {S : St} (h : m.ks = []) (hs : m.st = S) : Runs rd P m (meetQ S) := by
  obtain ⟨ks, st⟩ := m
  simp only at h hs
  subst h hs
  rw [runs_iff]
  exact ⟨rfl, rfl⟩

theorem k25 {S : St} (h : m.ks = [] := by kernel_rfl) (hs : m.st = S := by kernel_rfl) : Runs rd P m (meetQ S) := _root_.Go.Abs.R.met h hs
end

/-! ### Rows of rows of pairs, handed to a law -/
section
variable {H : Type} {enc : TypeId × Value → H} {P : Program} {w : World} {base : Nat} {spare : Nat → Bool} {held : Bool}

end

end Go.Abs


/-! Named slices: rows of one's own laid into rows; a named row taken back to be written; slots read by names. -/
namespace Go.Abs
open Go.RowKit

/-! ### Names -/
mutual
/-- u stands named in c, with a block that is read. -/
def InN (u : Value) : AV → Prop
  | .nam v o _ _ cs => (u = v ∧ (cs ≠ [] ∨ o ≠ none)) ∨ InNL u cs
  | .lst _ _ cs => InNL u cs
  | .clp _ _ cs => InNL u cs
  | .rptr cs => InNL u cs
  | .agg cs => InNL u cs
  | .tup cs => InNL u cs
  | .fn _ cs => InNL u cs
  | .int _ _ => False
  | .bool _ => False
  | .str _ => False
  | .nil => False
  | .ref _ => False
  | .ptr _ _ => False
  | .own _ _ _ _ => False
  | .top => False
def InNL (u : Value) : List AV → Prop
  | [] => False
  | c :: cs => InN u c ∨ InNL u cs
end

mutual
/-- Nothing is read but by a name. -/
def NoRaw : AV → Bool
  | .nam _ _ _ _ cs => NoRawL cs
  | .lst _ _ cs => cs.isEmpty
  | .clp _ _ cs => cs.isEmpty
  | .rptr _ => false
  | .agg cs => NoRawL cs
  | .tup cs => NoRawL cs
  | .fn _ cs => NoRawL cs
  | .int _ _ => true
  | .bool _ => true
  | .str _ => true
  | .nil => true
  | .ref _ => true
  | .ptr _ _ => true
  | .own _ _ _ _ => true
  | .top => true
def NoRawL : List AV → Bool
  | [] => true
  | c :: cs => NoRaw c && NoRawL cs
end

theorem inNL_iff {u : Value} : ∀ {cs : List AV}, InNL u cs ↔ ∃ c ∈ cs, InN u c
  | [] => by simp [InNL]
  | c :: cs => by rw [InNL, inNL_iff]; simp
theorem add_block' (a : Addr) (j : Nat) : (a.add j).block = a.block := by unfold Addr.add; split <;> rfl

section
variable {w : World}
mutual
/-- A name's block is there, and is not written. -/
theorem InN.of {Z : Nat → Prop} {μ : List Value} {u : Value} {g : Nat} (hg : blk u = some g) : ∀ {c : AV} {v : Value}, Rel w Z μ c v → InN u c → g < w.heap.size ∧ ¬ Z g
  | .nam v' o s n cs, v, h, hn => by
    simp only [Rel] at h
    simp only [InN] at hn
    obtain ⟨⟨h0, h00⟩, A, c, xs, h1, h2, h3, h4, h5⟩ := h
    rcases hn with ⟨rfl, hn⟩ | hn
    · subst h0
      by_cases ho : o = none
      · have hcs : cs ≠ [] := by
          rcases hn with hn | hn
          · exact hn
          · exact absurd ho hn
        have hx : xs ≠ [] := by
          intro e
          have h6 := h5.length
          rw [e] at h6
          exact hcs (List.eq_nil_of_length_eq_zero (by simpa using h6.symm))
        obtain ⟨ad, rfl, hz, hc⟩ := h4 hx
        rw [h1] at hg
        simp only [blk, Option.some.injEq] at hg
        subst hg
        cases xs with
        | nil => exact absurd rfl hx
        | cons y ys =>
          have h6 := World.block_lt_of_cell? w _ (hc 0 y rfl)
          rw [add_block'] at h6
          exact ⟨h6, hz⟩
      · cases o with
        | none => exact absurd rfl ho
        | some e =>
          obtain ⟨xs', hown, hz⟩ := h00 e rfl
          exact ⟨ownsRow_lt' hown hg, hz g hg⟩
    · exact InNL.of hg h5 hn
  | .lst s n cs, v, h, hn => by
    simp only [Rel] at h
    simp only [InN] at hn
    obtain ⟨A, c, xs, h1, h2, h3, h4, h5⟩ := h
    exact InNL.of hg h5 hn
  | .clp s n cs, v, h, hn => by
    simp only [Rel] at h
    simp only [InN] at hn
    obtain ⟨A, c, xs, h1, h2, h3, h4, h5⟩ := h
    exact InNL.of hg h5 hn
  | .rptr cs, v, h, hn => by
    simp only [Rel] at h
    simp only [InN] at hn
    obtain ⟨ad, xs, h1, h4, h5⟩ := h
    exact InNL.of hg h5 hn
  | .agg cs, v, h, hn => by
    simp only [Rel] at h
    simp only [InN] at hn
    obtain ⟨xs, h1, h5⟩ := h
    exact InNL.of hg h5 hn
  | .tup cs, v, h, hn => by
    simp only [Rel] at h
    simp only [InN] at hn
    obtain ⟨xs, h1, h5⟩ := h
    exact InNL.of hg h5 hn
  | .fn f cs, v, h, hn => by
    simp only [Rel] at h
    simp only [InN] at hn
    obtain ⟨xs, h1, h5⟩ := h
    exact InNL.of hg h5 hn
  | .int _ _, _, _, hn => by simp [InN] at hn
  | .bool _, _, _, hn => by simp [InN] at hn
  | .str _, _, _, hn => by simp [InN] at hn
  | .nil, _, _, hn => by simp [InN] at hn
  | .ref _, _, _, hn => by simp [InN] at hn
  | .ptr _ _, _, _, hn => by simp [InN] at hn
  | .own _ _ _ _, _, _, hn => by simp [InN] at hn
  | .top, _, _, hn => by simp [InN] at hn
theorem InNL.of {Z : Nat → Prop} {μ : List Value} {u : Value} {g : Nat} (hg : blk u = some g) : ∀ {cs : List AV} {vs : List Value}, RelL w Z μ cs vs → InNL u cs → g < w.heap.size ∧ ¬ Z g
  | [], _, _, hn => by simp [InNL] at hn
  | c :: cs, _, h, hn => by
    simp only [RelL] at h
    simp only [InNL] at hn
    obtain ⟨x, xs, rfl, h1, h2⟩ := h
    rcases hn with hn | hn
    · exact InN.of hg h1 hn
    · exact InNL.of hg h2 hn
end

end

theorem ownsRow_from {w : World} {B B' e s n : Nat} {v : Value} {xs : List Value} (h : w.ownsRow B e s v n xs) (hg : ∀ g, blk v = some g → B' ≤ g) : w.ownsRow B' e s v n xs := by
  refine ⟨h.1, h.2.imp id ?_⟩
  rintro ⟨g, cap, cur, h1, h2, h3⟩
  exact ⟨g, cap, cur, h1, hg g (by rw [h1]; rfl), h3⟩

/-! ### One of several states -/
def SubE {ι : Type} (st : St) (st' : ι → St) (Φ : ι → Prop) : Prop := ∀ (Z0 : Nat → Prop) (w0 : World) (a : Act) (w : World), Sim Z0 w0 st a w → ∃ x, Φ x ∧ Sim Z0 w0 (st' x) a w

section
variable {rd : Option Nat} {P : Program} {m : M} {Q : Exit → St → Prop}
theorem R.subE {ι : Type} (st' : ι → St) (Φ : ι → Prop) (h : subOk m = true) (hs : SubE m.st st' Φ) (h' : ∀ x, Φ x → Runs rd P ⟨m.ks, st' x⟩ Q) : Runs rd P m Q := by
  obtain ⟨ks, st⟩ := m
  unfold subOk at h
  simp only [runs_iff] at h' ⊢
  try simp only at h hs h' ⊢
  split at h
  · intro Z0 w0 a w hS
    obtain ⟨x, hx, hS'⟩ := hs Z0 w0 a w hS
    exact h' x hx Z0 w0 a w hS'
  · intro _ Z0 w0 a w hS
    obtain ⟨x, hx, hS'⟩ := hs Z0 w0 a w hS
    exact h' x hx headW_false Z0 w0 a w hS'
  · intro Z0 w0 a w hS
    obtain ⟨x, hx, hS'⟩ := hs Z0 w0 a w hS
    exact h' x hx Z0 w0 a w hS'
  · cases h
end

/-! ### A row of one's own gets a name -/
/-- u stands named in the state. -/
def InS (u : Value) (st : St) : Prop := InNL u st.fr ∨ ∃ (j : Nat) (o : AObj), st.hp[j]? = some o ∧ InNL u o.cells

theorem InS.of {w : World} {Z : Nat → Prop} {B : Nat} {μ : List Value} {st : St} {vs : List Value} {u : Value} {g : Nat} (hH : HRel w Z B μ st.hp) (hF : RelL w Z μ st.fr vs) (hg : blk u = some g) (h : InS u st) : g < w.heap.size ∧ ¬ Z g := by
  rcases h with h | ⟨j, o, ho, h⟩
  · exact InNL.of hg hF h
  · have hjl : j < μ.length := by rw [hH.len]; exact (List.getElem?_eq_some_iff.1 ho).1
    obtain ⟨xs, hx, _⟩ := obj_cells (hH.obj j o _ ho (List.getElem?_eq_getElem hjl))
    exact InNL.of hg hx h

/-- What is told of a new name. -/
def NewN (st : St) (v : Value) : Prop :=
  (∀ u, InS u st → ∀ g, blk v = some g → blk u ≠ some g) ∧ ∀ (k b : Nat), st.hp[k]? = some (.inert (.base b)) → ∀ g, blk v = some g → b ≤ g

theorem SubE.pin (i e s n : Nat) (cs : List AV) (st : St) (hi : st.hp[i]? = some (.list e s n cs)) : SubE st (fun u => frzS i (.nam u (some e) s n cs) st) (NewN st) := by
  rintro Z0 w0 a w ⟨μ, F, hFb, hH, hF, hd, hb⟩
  have hil : i < μ.length := by rw [hH.len]; exact (List.getElem?_eq_some_iff.1 hi).1
  obtain ⟨u, hu⟩ : ∃ u, μ[i]? = some u := ⟨_, List.getElem?_eq_getElem hil⟩
  obtain ⟨xs, hown, hx⟩ := hH.obj i _ u hi hu
  have hge : ∀ g, blk u = some g → w0.heap.size ≤ g := fun g hg => ((hH.obj i _ u hi hu).blk_ge rfl hg).1
  refine ⟨u, ⟨fun u' hu' g hg hg' => (InS.of hH hF hg' hu').2 (hH.zone i _ u g hi rfl hu hg), fun k b hk g hg => ?_⟩, ?_⟩
  · have hkl : k < μ.length := by rw [hH.len]; exact (List.getElem?_eq_some_iff.1 hk).1
    have h1 := hH.obj k _ _ hk (List.getElem?_eq_getElem hkl)
    obtain ⟨_, rfl⟩ := h1
    exact hge g hg
  have hz : ∀ b, b < w.heap.size → ¬ Zone Z0 F w0.heap.size b → ¬ Zone Z0 (fun b => F b ∨ blk u = some b) w0.heap.size b := fun b _ h => zone_more b h
  have hr0 : Rel w (Zone Z0 (fun b => F b ∨ blk u = some b) w0.heap.size) μ (.lst s n cs) u := own_lst hown hx hz (fun g hg hzz => hzz.elim (fun h => by
    have := hge g hg
    omega) (fun h => h.2 (.inr hg)))
  have hr : Rel w (Zone Z0 (fun b => F b ∨ blk u = some b) w0.heap.size) μ (.nam u (some e) s n cs) u := by
    simp only [Rel] at hr0 ⊢
    refine ⟨⟨trivial, fun e' he' => ?_⟩, hr0⟩
    cases he'
    refine ⟨xs, ownsRow_from hown (fun _ _ => Nat.zero_le _), fun g hg hzz => ?_⟩
    exact hzz.elim (fun h => by
      have := hge g hg
      omega) (fun h => h.2 (.inr hg))
  refine ⟨μ, fun b => F b ∨ blk u = some b, fun b h => h.elim (hFb b) (fun h => (hH.obj i _ u hi hu).blk_ge rfl h), ?_, RelL.frz i _ u hz hu hr hF, hd.keep (fun j x hj => ⟨?_, fun u hu => hu⟩), hb⟩
  rotate_left
  · have hne : i ≠ j := by
      rintro rfl
      rw [hi] at hj
      cases hj
    show ((st.hp.map (AObj.frz i _)).set i .dead)[j]? = _
    rw [List.getElem?_set_ne hne, List.getElem?_map, hj]
    rfl
  have get : ∀ (j : Nat) o, ((st.hp.map (AObj.frz i (.nam u (some e) s n cs))).set i .dead)[j]? = some o → o = .dead ∨ (j ≠ i ∧ ∃ o', st.hp[j]? = some o' ∧ o = o'.frz i (.nam u (some e) s n cs)) := by
    intro j o ho
    by_cases hj : j = i
    · subst hj
      rw [List.getElem?_set_self (by simpa using (List.getElem?_eq_some_iff.1 hi).1)] at ho
      simp at ho
      exact .inl ho.symm
    · rw [List.getElem?_set_ne (Ne.symm hj), List.getElem?_map, Option.map_eq_some_iff] at ho
      obtain ⟨o', h1, rfl⟩ := ho
      exact .inr ⟨hj, o', h1, rfl⟩
  refine ⟨by simp [frzS, hH.len], fun j o v g h1 ha h2 hg => ?_, hH.one, fun j o v h1 h2 => ?_, fun j k oj ok uj uk g hne h1 h2 a1 a2 m1 m2 b1 b2 => ?_⟩
  · rcases get j o h1 with rfl | ⟨hj, o', ho, rfl⟩
    · cases ha
    · rw [AObj.frz_alive] at ha
      have h3 := hH.zone j o' v g ho ha h2 hg
      exact h3.elim .inl (fun h => .inr ⟨h.1, fun hf => hf.elim h.2 (fun h4 => hH.sep i j _ o' u v g (Ne.symm hj) hi ho rfl ha hu h2 h4 hg)⟩)
  · rcases get j o h1 with rfl | ⟨hj, o', ho, rfl⟩
    · trivial
    · have hO := hH.obj j o' v ho h2
      cases o' with
      | box t ds => obtain ⟨g, ys, e1, e2, e3, e4⟩ := hO; exact ⟨g, ys, e1, e2, e3, RelL.frz i _ u hz hu hr e4⟩
      | list e s n ds => obtain ⟨ys, e1, e2⟩ := hO; exact ⟨ys, e1, e2.weak hz⟩
      | dead => trivial
      | frame us ds => exact RelL.frz i _ u hz hu hr hO
      | inert x => exact InertRel.keep (fun b h1 h2 => ⟨rfl, hz b h1 h2⟩) hO
  · rcases get j oj h1 with rfl | ⟨hj, o1, ho1, rfl⟩
    · cases a1
    · rcases get k ok h2 with rfl | ⟨hk, o2, ho2, rfl⟩
      · cases a2
      · rw [AObj.frz_alive] at a1 a2
        exact hH.sep j k o1 o2 uj uk g hne ho1 ho2 a1 a2 m1 m2 b1 b2

section
variable {rd : Option Nat} {P : Program} {m : M} {Q : Exit → St → Prop}
theorem R.pin (i e s n : Nat) (cs : List AV) (h : subOk m = true) (hi : m.st.hp[i]? = some (.list e s n cs)) (h' : ∀ u, NewN m.st u → Runs rd P ⟨m.ks, frzS i (.nam u (some e) s n cs) m.st⟩ Q) : Runs rd P m Q :=
  R.subE _ _ h (SubE.pin i e s n cs m.st hi) h'
end

/-! ### Objects told otherwise -/
/-! ### A named row taken back -/
section
variable {rd : Option Nat} {P : Program} {m : M} {Q : Exit → St → Prop}
end

/-! ### A slot read by names -/
mutual
def nameable : AV → Bool
  | .lst _ _ cs => nameableL cs
  | .agg cs => nameableL cs
  | .int _ _ => true
  | .bool _ => true
  | .nil => true
  | .nam _ _ _ _ _ => false
  | .clp _ _ _ => false
  | .rptr _ => false
  | .tup _ => false
  | .fn _ _ => false
  | .str _ => true
  | .ref _ => false
  | .ptr _ _ => false
  | .own _ _ _ _ => false
  | .top => true
def nameableL : List AV → Bool
  | [] => true
  | c :: cs => nameable c && nameableL cs
end

/-- c' is c, read by names. -/
structure ByN (c' c : AV) : Prop where
  leafy : c'.leafy = true
  raw : NoRaw c' = true
  fgt : ∀ (w : World) (Z : Nat → Prop) v, Rel w Z [] c' v → Rel w Z [] c v

structure ByNL (c' c : List AV) : Prop where
  leafy : leafyL c' = true
  raw : NoRawL c' = true
  fgt : ∀ (w : World) (Z : Nat → Prop) v, RelL w Z [] c' v → RelL w Z [] c v

mutual
theorem name_of {w : World} {Z : Nat → Prop} : ∀ {c : AV} {v : Value}, nameable c = true → Rel w Z [] c v → ∃ c', ByN c' c ∧ Rel w Z [] c' v
  | .lst s n cs, v, h, hr => by
    simp only [nameable] at h
    simp only [Rel] at hr
    obtain ⟨A, c, xs, h1, h2, h3, h4, h5⟩ := hr
    obtain ⟨cs', ⟨k1, k2, k3⟩, k4⟩ := nameL_of h h5
    refine ⟨.nam v none s n cs', ⟨rfl, by simpa [NoRaw] using k2, fun w Z x hx => ?_⟩, ?_⟩
    · simp only [Rel] at hx ⊢
      obtain ⟨_, A, c, xs', e1, e2, e3, e4, e5⟩ := hx
      exact ⟨A, c, xs', e1, by rw [← h2, ← h5.length, k4.length, e2, ← e2, ← k4.length, h5.length, h2] , e3, e4, k3 _ _ _ e5⟩
    · simp only [Rel]
      exact ⟨⟨trivial, fun e he => by cases he⟩, A, c, xs, h1, by rw [← k4.length, h5.length, h2], h3, h4, k4⟩
  | .agg cs, v, h, hr => by
    simp only [nameable] at h
    simp only [Rel] at hr
    obtain ⟨xs, h1, h5⟩ := hr
    obtain ⟨cs', ⟨k1, k2, k3⟩, k4⟩ := nameL_of h h5
    refine ⟨.agg cs', ⟨by simpa [AV.leafy] using k1, by simpa [NoRaw] using k2, fun w Z x hx => ?_⟩, ?_⟩
    · simp only [Rel] at hx ⊢
      obtain ⟨xs', e1, e5⟩ := hx
      exact ⟨xs', e1, k3 _ _ _ e5⟩
    · simp only [Rel]
      exact ⟨xs, h1, k4⟩
  | .int k n, v, _, hr => ⟨.int k n, ⟨rfl, rfl, fun _ _ _ h => h⟩, hr⟩
  | .bool b, v, _, hr => ⟨.bool b, ⟨rfl, rfl, fun _ _ _ h => h⟩, hr⟩
  | .str b, v, _, hr => ⟨.str b, ⟨rfl, rfl, fun _ _ _ h => h⟩, hr⟩
  | .nil, v, _, hr => ⟨.nil, ⟨rfl, rfl, fun _ _ _ h => h⟩, hr⟩
  | .top, v, _, hr => ⟨.top, ⟨rfl, rfl, fun _ _ _ h => h⟩, hr⟩
  | .nam _ _ _ _ _, _, h, _ => by simp [nameable] at h
  | .clp _ _ _, _, h, _ => by simp [nameable] at h
  | .rptr _, _, h, _ => by simp [nameable] at h
  | .tup _, _, h, _ => by simp [nameable] at h
  | .fn _ _, _, h, _ => by simp [nameable] at h
  | .ref _, _, h, _ => by simp [nameable] at h
  | .ptr _ _, _, h, _ => by simp [nameable] at h
  | .own _ _ _ _, _, h, _ => by simp [nameable] at h
theorem nameL_of {w : World} {Z : Nat → Prop} : ∀ {c : List AV} {v : List Value}, nameableL c = true → RelL w Z [] c v → ∃ c', ByNL c' c ∧ RelL w Z [] c' v
  | [], v, _, hr => ⟨[], ⟨rfl, rfl, fun _ _ _ h => h⟩, hr⟩
  | c :: cs, v, h, hr => by
    simp only [nameableL, Bool.and_eq_true] at h
    simp only [RelL] at hr
    obtain ⟨x, xs, rfl, h1, h2⟩ := hr
    obtain ⟨c', ⟨k1, k2, k3⟩, k4⟩ := name_of h.1 h1
    obtain ⟨cs', ⟨l1, l2, l3⟩, l4⟩ := nameL_of h.2 h2
    refine ⟨c' :: cs', ⟨by simp [leafyL, k1, l1], by simp [NoRawL, k2, l2], fun w Z v hv => ?_⟩, RelL.cons k4 l4⟩
    simp only [RelL] at hv ⊢
    obtain ⟨x, xs, e1, e2, e3⟩ := hv
    exact ⟨x, xs, e1, k3 _ _ _ e2, l3 _ _ _ e3⟩
end

theorem SubE.name (t : Nat) (c : AV) (st : St) (ht : st.fr[t]? = some c) (hn : nameable c = true) (hl : c.leafy = true) : SubE st (fun c' => ⟨st.fr.set t c', st.hp⟩) (fun c' => ByN c' c) := by
  rintro Z0 w0 a w ⟨μ, F, hFb, hH, hF, hd, hb⟩
  obtain ⟨x, hx, hr⟩ := hF.get ht
  obtain ⟨c', h1, h2⟩ := name_of hn (Rel.leafy hl hr)
  refine ⟨c', h1, μ, F, hFb, hH, ?_, hd, hb⟩
  have h3 := hF.set t h2.lift
  rwa [show a.tmps.toList.set t x = a.tmps.toList by
    apply List.ext_getElem?
    intro i
    by_cases hi : i = t
    · subst hi; rw [List.getElem?_set_self (List.getElem?_eq_some_iff.1 hx).1, hx]
    · rw [List.getElem?_set_ne (Ne.symm hi)]] at h3

section
variable {rd : Option Nat} {P : Program} {m : M} {Q : Exit → St → Prop}
theorem R.name (t : Nat) (c : AV) (h : subOk m = true) (ht : m.st.fr[t]? = some c) (hn : nameable c = true) (hl : c.leafy = true) (h' : ∀ c', ByN c' c → Runs rd P ⟨m.ks, ⟨m.st.fr.set t c', m.st.hp⟩⟩ Q) : Runs rd P m Q :=
  R.subE _ _ h (SubE.name t c m.st ht hn hl) h'
end

end Go.Abs


/-! Rows of bytes; drawn regions with tags of one's own. -/
namespace Go.Abs
open Go.RowKit Go.ChangeShapes Go.WideShapes Go.Deep

def eB (n : Int) : List AV := [.int .u8 n]
def LB (xs : List Int) : AV := .lst 1 xs.length (rows eB xs)
theorem eB_len (x : Int) : (eB x).length = 1 := rfl
section
variable {H : Type} {enc : TypeId × Value → H} {P : Program} {w : World} {base : Nat} {spare : Nat → Bool} {held : Bool}

theorem RelL_bytes {Z : Nat → Prop} {μ : List Value} : ∀ xs : List Int, RelL w Z μ (rows eB xs) (xs.map fun n => .int .u8 n)
  | [] => RelL.nil
  | x :: xs => RelL.cons (by simp [Rel]) (RelL_bytes xs)

theorem trod_bytes {t e : TypeId} {fuel : Nat} {cs : List Value} {x : DataW H × List MemPlace} (ht : P.underlying t = some (.slice e)) (he : P.underlying e = some (.int .u8)) (hc : P.cellsOf e = 1)
    (h : DataW.trod enc P w base spare held fuel t cs = some x) : ∃ v, cs = [v] ∧ ∃ xs : List Int, xs.length ≤ maxLen ∧ (∀ j, j < xs.length → 0 ≤ xs.getD j 0 ∧ xs.getD j 0 ≤ 255) ∧ Rel w (Z0 w) [] (LB xs) v := by
  rcases open_slice1 ht hc h with ⟨rfl, _⟩ | ⟨a, len, cap, m, n, V, D, Pl, rfl, _, hl, hm, hmm, _, hx⟩
  · exact ⟨_, rfl, [], Nat.zero_le _, fun j hj => absurd hj (by simp), none, 0, [], rfl, rfl, Nat.le_refl _, fun h => absurd rfl h, RelL.nil⟩
  · have hlm : len ≤ m := by rw [hmm]; split <;> omega
    obtain ⟨xs, h1, h2⟩ := choose_list (n := len) (p := fun i y => w.cell? (a.add i) = some (.int .u8 y) ∧ 0 ≤ y ∧ y ≤ 255) fun i hi => by
      obtain ⟨g1, g2⟩ := hx i (by omega)
      obtain ⟨y, hy, _, hw⟩ := DataW.trod_int he g2
      simp at hy
      simp [Lit.wf, IntKind.min, IntKind.max, IntKind.signed, IntKind.bits] at hw
      exact ⟨y, by rw [g1, hy], by omega, by omega⟩
    refine ⟨_, rfl, xs, by omega, fun j hj => (h2 j (by omega)).2, ⟨some a, cap, xs.map fun n => .int .u8 n, by rw [h1], by rw [rows_length eB_len, h1], by omega, fun hne => ⟨a, rfl, ?_, fun j u hj => ?_⟩, RelL_bytes xs⟩⟩
    · have : 0 < len := by
        rw [← h1]
        cases xs with
        | nil => exact absurd rfl hne
        | cons x xs => simp
      have := not_Z0 (h2 0 this).1
      simpa [Addr.add] using this
    · rw [List.getElem?_map, Option.map_eq_some_iff] at hj
      obtain ⟨y, hy, rfl⟩ := hj
      have hj := (List.getElem?_eq_some_iff.1 hy).1
      rw [(h2 j (by omega)).1, List.getD_eq_getElem?_getD, hy]
      rfl

theorem open_bytes {r : Reach} {b0 : Nat} {t e : TypeId} {v : Value} {d : DataW H} {ps : List MemPlace} (ht : P.underlying t = some (.slice e)) (he : P.underlying e = some (.int .u8)) (hc : P.cellsOf e = 1)
    (hval : Value.okWide P w r b0 t v) (hd : DataW.Trod enc P w base spare held t v d ps) : ∃ xs : List Int, xs.length ≤ maxLen ∧ (∀ j, j < xs.length → 0 ≤ xs.getD j 0 ∧ xs.getD j 0 ≤ 255) ∧ Rel w (Z0 w) [] (LB xs) v := by
  obtain ⟨A, n, c, rfl⟩ := okWide_slice ht hval
  obtain ⟨fuel, hf⟩ := hd
  obtain ⟨v, h1, h2⟩ := trod_bytes ht he hc hf
  simp [Value.cells] at h1
  subst h1
  exact h2
end

section
variable {rd : Option Nat} {P : Program} {m : M} {Q : Exit → St → Prop}
end
end Go.Abs


/-! Calls that change the caller's objects: under a further frame; with objects left out. -/
namespace Go.Abs
open Go.RowKit

theorem idx_range {n i : Nat} (h : i < n) : (List.range n).idxOf i = i := by
  have hm : i ∈ List.range n := List.mem_range.2 h
  have hlt := List.idxOf_lt_length_iff.2 hm
  have := List.getElem_idxOf hlt
  rw [List.getElem_range] at this
  exact this

mutual
theorem Rel.mix {w w' : World} {Z Z' : Nat → Prop} {μ μ1 μ2 : List Value} {n : Nat} (hA : ∀ (i : Nat) u, i < n → μ1[i]? = some u → μ2[i]? = some u) (hB : ∀ (i : Nat) u, n ≤ i → μ[i]? = some u → μ2[i]? = some u) :
    ∀ {c : AV} {v : Value}, Rel w Z μ c v → Rel w' Z' μ1 (c.ren (List.range n)) v → Rel w' Z' μ2 c v
  | .int _ _, _, _, h => by simpa [Rel, AV.ren] using h
  | .bool _, _, _, h => by simpa [Rel, AV.ren] using h
  | .str _, _, _, h => by simpa [Rel, AV.ren] using h
  | .nil, _, _, h => by simpa [Rel, AV.ren] using h
  | .top, _, _, _ => by simp [Rel]
  | .own _ _ _ _, _, h, _ => by simp [Rel] at h
  | .lst _ _ _, _, _, h => by simpa [Rel, AV.ren] using h
  | .clp _ _ _, _, _, h => by simpa [Rel, AV.ren] using h
  | .nam _ _ _ _ _, _, _, h => by simpa [Rel, AV.ren] using h
  | .rptr _, _, _, h => by simpa [Rel, AV.ren] using h
  | .ref i, v, h1, h2 => by
    simp only [Rel] at h1 ⊢
    rcases Nat.lt_or_ge i n with hi | hi
    · have hc : (List.range n).contains i = true := by simpa using hi
      simp only [AV.ren, hc, if_true, idx_range hi, Rel] at h2
      exact hA i v hi h2
    · exact hB i v hi h1
  | .ptr i o, v, h1, h2 => by
    simp only [Rel] at h1 ⊢
    rcases Nat.lt_or_ge i n with hi | hi
    · have hc : (List.range n).contains i = true := by simpa using hi
      simp only [AV.ren, hc, if_true, idx_range hi, Rel] at h2
      obtain ⟨u, g, e1, e2, e3⟩ := h2
      exact ⟨u, g, hA i u hi e1, e2, e3⟩
    · obtain ⟨u, g, e1, e2, e3⟩ := h1
      exact ⟨u, g, hB i u hi e1, e2, e3⟩
  | .agg cs, v, h1, h2 => by
    simp only [Rel, AV.ren] at h1 h2 ⊢
    obtain ⟨xs, e1, r1⟩ := h1
    obtain ⟨ys, e2, r2⟩ := h2
    rw [e1] at e2
    simp only [Value.agg.injEq] at e2
    have e3 : xs = ys := by simpa using e2
    subst e3
    exact ⟨xs, e1, RelL.mix hA hB r1 r2⟩
  | .tup cs, v, h1, h2 => by
    simp only [Rel, AV.ren] at h1 h2 ⊢
    obtain ⟨xs, e1, r1⟩ := h1
    obtain ⟨ys, e2, r2⟩ := h2
    rw [e1] at e2
    simp only [Value.tuple.injEq] at e2
    have e3 : xs = ys := by simpa using e2
    subst e3
    exact ⟨xs, e1, RelL.mix hA hB r1 r2⟩
  | .fn f cs, v, h1, h2 => by
    simp only [Rel, AV.ren] at h1 h2 ⊢
    obtain ⟨xs, e1, r1⟩ := h1
    obtain ⟨ys, e2, r2⟩ := h2
    rw [e1] at e2
    simp only [Value.func.injEq, true_and] at e2
    have e3 : xs = ys := by simpa using e2
    subst e3
    exact ⟨xs, e1, RelL.mix hA hB r1 r2⟩
theorem RelL.mix {w w' : World} {Z Z' : Nat → Prop} {μ μ1 μ2 : List Value} {n : Nat} (hA : ∀ (i : Nat) u, i < n → μ1[i]? = some u → μ2[i]? = some u) (hB : ∀ (i : Nat) u, n ≤ i → μ[i]? = some u → μ2[i]? = some u) :
    ∀ {cs : List AV} {vs : List Value}, RelL w Z μ cs vs → RelL w' Z' μ1 (renL (List.range n) cs) vs → RelL w' Z' μ2 cs vs
  | [], _, _, h => by simpa [RelL, renL] using h
  | c :: cs, _, h1, h2 => by
    simp only [RelL, renL] at h1 h2 ⊢
    obtain ⟨x, xs, e1, a1, b1⟩ := h1
    obtain ⟨y, ys, e2, a2, b2⟩ := h2
    rw [e1] at e2
    simp only [List.cons.injEq] at e2
    obtain ⟨rfl, rfl⟩ := e2
    exact ⟨x, xs, e1, Rel.mix hA hB a1 a2, RelL.mix hA hB b1 b2⟩
end

/-- One object more, of which nothing is known. -/
theorem HRel.addDead {w : World} {Z : Nat → Prop} {B : Nat} {μ : List Value} {hp : List AObj} (h : HRel w Z B μ hp) (u : Value) (hu : u.oneCell' = true) : HRel w Z B (μ ++ [u]) (hp ++ [.dead]) := by
  have split : ∀ (i : Nat) oi ui, (hp ++ [.dead])[i]? = some oi → (μ ++ [u])[i]? = some ui → (hp[i]? = some oi ∧ μ[i]? = some ui) ∨ oi = .dead := by
    intro i oi ui h1 h2
    rcases Nat.lt_or_ge i hp.length with hi | hi
    · rw [List.getElem?_append_left hi] at h1
      rw [List.getElem?_append_left (by rw [h.len]; exact hi)] at h2
      exact .inl ⟨h1, h2⟩
    · rw [List.getElem?_append_right hi] at h1
      rcases Nat.eq_zero_or_pos (i - hp.length) with h0 | h0
      · rw [h0] at h1; simp at h1; exact .inr h1.symm
      · rw [List.getElem?_eq_none (by simp; omega)] at h1; cases h1
  refine ⟨by simp [h.len], fun i oi ui g h1 ha h2 hg => ?_, fun i x hx => ?_, fun i oi ui h1 h2 => ?_, fun i j oi oj ui uj g hne h1 h2 a1 a2 m1 m2 b1 b2 => ?_⟩
  · rcases split i oi ui h1 h2 with ⟨e1, e2⟩ | rfl
    · exact h.zone i oi ui g e1 ha e2 hg
    · cases ha
  · rcases Nat.lt_or_ge i μ.length with hi | hi
    · rw [List.getElem?_append_left hi] at hx
      exact h.one i x hx
    · rw [List.getElem?_append_right hi] at hx
      rcases Nat.eq_zero_or_pos (i - μ.length) with h0 | h0
      · rw [h0] at hx; simp at hx; rw [← hx]; exact hu
      · rw [List.getElem?_eq_none (by simp; omega)] at hx; cases hx
  · rcases split i oi ui h1 h2 with ⟨e1, e2⟩ | rfl
    · exact (h.obj i oi ui e1 e2).keep (fun _ _ _ => rfl) (fun i u hu => append_old i u hu) (fun _ _ => rfl)
    · trivial
  · rcases split i oi ui h1 m1 with ⟨e1, e2⟩ | rfl
    · rcases split j oj uj h2 m2 with ⟨e3, e4⟩ | rfl
      · exact h.sep i j oi oj ui uj g hne e1 e3 a1 a2 e2 e4 b1 b2
      · cases a2
    · cases a1

/-- A caller's frame where nothing is known. -/
theorem HRel.frameAt {w : World} {Z : Nat → Prop} {B n : Nat} {μ : List Value} {hp : List AObj} {us : List Value} {fr : List AV} (h : HRel w Z B μ hp) (hd : hp[n]? = some .dead) (hr : RelL w Z μ fr us) : HRel w Z B μ (hp.set n (.frame us fr)) := by
  have hn := (List.getElem?_eq_some_iff.1 hd).1
  have get : ∀ (i : Nat) oi, (hp.set n (.frame us fr))[i]? = some oi → oi = .frame us fr ∨ hp[i]? = some oi := by
    intro i oi h1
    by_cases e : n = i
    · subst e
      rw [List.getElem?_set_self hn] at h1
      simp at h1; exact .inl h1.symm
    · rw [List.getElem?_set_ne e] at h1; exact .inr h1
  refine ⟨by rw [List.length_set]; exact h.len, fun i oi ui g h1 ha h2 hg => ?_, h.one, fun i oi ui h1 h2 => ?_, fun i j oi oj ui uj g hne h1 h2 a1 a2 m1 m2 b1 b2 => ?_⟩
  · rcases get i oi h1 with rfl | h1
    · cases ha
    · exact h.zone i oi ui g h1 ha h2 hg
  · rcases get i oi h1 with rfl | h1
    · exact hr
    · exact h.obj i oi ui h1 h2
  · rcases get i oi h1 with rfl | h1
    · cases a1
    · rcases get j oj h2 with rfl | h2
      · cases a2
      · exact h.sep i j oi oj ui uj g hne h1 h2 a1 a2 m1 m2 b1 b2

def renH (js : List Nat) (hp : List AObj) : List AObj := js.map fun i => (hp.getD i .dead).ren js
/-- The caller's frame laid between the n objects of the call and those that the call has made. -/
def insJ (n m : Nat) : List Nat := List.range n ++ (m :: (List.range (m - n)).map (· + n))
def insF (n : Nat) (us : List Value) (fr : List AV) (hp : List AObj) : List AObj := (renH (insJ n hp.length) (hp ++ [.dead])).set n (.frame us fr)

theorem insJ_nodup {n m : Nat} (h : n ≤ m) : (insJ n m).Nodup := by
  unfold insJ
  rw [List.nodup_append]
  refine ⟨List.nodup_range, ?_, ?_⟩
  · rw [List.nodup_cons]
    refine ⟨?_, ?_⟩
    · intro hm
      rw [List.mem_map] at hm
      obtain ⟨k, hk, e⟩ := hm
      rw [List.mem_range] at hk
      omega
    · rw [List.nodup_iff_pairwise_ne, List.pairwise_map]
      exact List.nodup_range.imp fun h e => h (by omega)
  · intro a ha b hb e
    rw [List.mem_range] at ha
    rw [List.mem_cons, List.mem_map] at hb
    rcases hb with hb | ⟨k, _, hk⟩ <;> omega

theorem CallS.frame {P : Program} {f : FuncId} {args : List AV} {hp : List AObj} {res : AV} {hp' : List AObj} (us2 : List Value) (fr2 : List AV) (hc : CallS P f args hp res hp') (h1 : renH (List.range hp.length) hp = hp)
    (h2 : renL (List.range hp.length) args = args) (h3 : hp.length ≤ hp'.length) : CallS P f args (hp ++ [.frame us2 fr2]) (res.ren (insJ hp.length hp'.length)) (insF hp.length us2 fr2 hp') := by
  obtain ⟨hen, hc⟩ := hc
  refine ⟨hen, ?_⟩
  intro Z0 F w0 w μ vs us fr hFb hH hvs hus hbel
  have hml : μ.length = hp.length + 1 := by rw [hH.len]; simp
  have hH0 := hH.ren (List.range hp.length) List.nodup_range
  have e0 : ((List.range hp.length).map fun i => ((hp ++ [AObj.frame us2 fr2]).getD i .dead).ren (List.range hp.length)) = hp := by
    refine Eq.trans (List.map_congr_left fun i hi => ?_) h1
    have hi := List.mem_range.1 hi
    simp only [List.getD_eq_getElem?_getD]
    rw [List.getElem?_append_left hi]
  rw [e0] at hH0
  have hvs0 := hvs.ren (List.range hp.length)
  rw [h2] at hvs0
  have hn2 : (hp ++ [AObj.frame us2 fr2])[hp.length]? = some (.frame us2 fr2) := by simp
  obtain ⟨u, hu⟩ : ∃ u, μ[hp.length]? = some u := ⟨_, List.getElem?_eq_getElem (by omega)⟩
  have hf2 : RelL w (Zone Z0 F w0.heap.size) μ fr2 us2 := hH.obj _ _ u hn2 hu
  have hus0 := (hus.append hf2).ren (List.range hp.length)
  refine (hc Z0 F w0 w _ vs (us ++ us2) _ hFb hH0 hvs0 hus0 hbel).mono ?_
  rintro e w' ⟨v, μ1, F1, rfl, hF1, hH1, hres, hfr1, hb1⟩
  have hm1 := hH1.len
  have hHd := hH1.addDead u (hH.one _ u hu)
  have hH2 := hHd.ren (insJ hp.length hp'.length) (insJ_nodup h3)
  obtain ⟨μ2, hμ2⟩ : ∃ μ2, μ2 = ((insJ hp.length hp'.length).map fun i => (μ1 ++ [u]).getD i (.bool false)) := ⟨_, rfl⟩
  have hA : ∀ (i : Nat) x, i < hp.length → μ1[i]? = some x → μ2[i]? = some x := by
    intro i x hi hx
    have hj : (insJ hp.length hp'.length)[i]? = some i := by
      unfold insJ
      rw [List.getElem?_append_left (by simpa using hi)]
      simp [hi]
    rw [hμ2, List.getElem?_map, hj]
    simp only [Option.map_some, List.getD_eq_getElem?_getD]
    rw [List.getElem?_append_left (by omega), hx]
    rfl
  have hB : ∀ (i : Nat) x, hp.length ≤ i → μ[i]? = some x → μ2[i]? = some x := by
    intro i x hi hx
    have hin : i = hp.length := by have := (List.getElem?_eq_some_iff.1 hx).1; omega
    subst hin
    rw [hu] at hx
    have hj : (insJ hp.length hp'.length)[hp.length]? = some hp'.length := by
      unfold insJ
      rw [List.getElem?_append_right (by simp)]
      simp
    rw [hμ2, List.getElem?_map, hj]
    simp only [Option.map_some, List.getD_eq_getElem?_getD]
    rw [List.getElem?_append_right (by omega), hm1]
    simpa using hx
  rw [← hμ2] at hH2
  have hall := RelL.mix hA hB (hus.append hf2) hfr1
  have hul := hus.length
  have hfr : RelL w' (Zone Z0 F1 w0.heap.size) μ2 fr us := by
    have := hall.take fr.length
    rwa [List.take_left, ← hul, List.take_left] at this
  have hfr2 : RelL w' (Zone Z0 F1 w0.heap.size) μ2 fr2 us2 := by
    have := hall.drop fr.length
    rwa [List.drop_left, ← hul, List.drop_left] at this
  refine ⟨v, μ2, F1, rfl, hF1, ?_, ?_, hfr, hb1⟩
  · refine hH2.frameAt ?_ hfr2
    have hj : (insJ hp.length hp'.length)[hp.length]? = some hp'.length := by
      unfold insJ
      rw [List.getElem?_append_right (by simp)]
      simp
    rw [List.getElem?_map, hj]
    simp [AObj.ren]
  · rw [hμ2]
    exact Rel.ren _ (Rel.keep (w := w') (fun _ _ _ => rfl) (fun i u hu => append_old i u hu) hres)

/-- Objects left out that the call has made, or put in another order. -/
theorem CallS.drop {P : Program} {f : FuncId} {args : List AV} {hp : List AObj} {res : AV} {hp' : List AObj} (js : List Nat) (hc : CallS P f args hp res hp') (h1 : js.take hp.length = List.range hp.length) (h2 : js.Nodup) :
    CallS P f args hp (res.ren js) (renH js hp') := by
  obtain ⟨hen, hc⟩ := hc
  refine ⟨hen, ?_⟩
  intro Z0 F w0 w μ vs us fr hFb hH hvs hus hbel
  refine (hc Z0 F w0 w μ vs us fr hFb hH hvs hus hbel).mono ?_
  rintro e w' ⟨v, μ1, F1, rfl, hF1, hH1, hres, hfr1, hb1⟩
  have hm1 := hH1.len
  have hjs : ∀ i, i < hp.length → js[i]? = some i := by
    intro i hi
    have := congrArg (fun l : List Nat => l[i]?) h1
    simp only [List.getElem?_take, if_pos hi] at this
    rw [this]
    simp [hi]
  refine ⟨v, _, F1, rfl, hF1, hH1.ren js h2, Rel.ren js hres, ?_, hb1⟩
  refine RelL.mix (n := hp.length) ?_ ?_ hus (hfr1.ren (List.range hp.length))
  · intro i x hi hx
    rw [List.getElem?_map, hjs i hi]
    rw [List.getElem?_map] at hx
    simpa [hi] using hx
  · intro i x hi hx
    have h4 := (List.getElem?_eq_some_iff.1 hx).1
    have h5 := hH.len
    omega

theorem CallS.cast {P : Program} {f : FuncId} {args : List AV} {hp hp1 hp2 : List AObj} {res res2 : AV} (h : CallS P f args hp res hp1) (e1 : res = res2) (e2 : hp1 = hp2) : CallS P f args hp res2 hp2 := by subst e1 e2; exact h

end Go.Abs


/-! Calls of which only what holds behind them is told (draws). -/
namespace Go.Abs
open Go.RowKit Go.ChangeShapes Go.WideShapes Go.Deep

/-- A call by reference: behind it the objects and the result are some of those that Φ tells. -/
def CallX (P : Program) (f : FuncId) (args : List AV) (hp : List AObj) (Φ : AV → List AObj → Prop) : Prop :=
  Enters P f ∧ ∀ (Z0 F : Nat → Prop) (w0 w : World) (μ vs us : List Value) (fr : List AV), (∀ b, F b → w0.heap.size ≤ b ∧ b < w.heap.size) → HRel w (Zone Z0 F w0.heap.size) w0.heap.size μ hp → RelL w (Zone Z0 F w0.heap.size) μ args vs → RelL w (Zone Z0 F w0.heap.size) μ fr us → Below w0.heap.size w0 w →
    Calls P f vs.toArray w fun e w' => ∃ v μ' F' res hp', Φ res hp' ∧ e = .returned v ∧ (∀ b, F' b → w0.heap.size ≤ b ∧ b < w'.heap.size) ∧ HRel w' (Zone Z0 F' w0.heap.size) w0.heap.size μ' hp' ∧ Rel w' (Zone Z0 F' w0.heap.size) μ' res v ∧ RelL w' (Zone Z0 F' w0.heap.size) μ' fr us ∧ Below w0.heap.size w0 w'

section
variable {rd : Option Nat} {P : Program} {m : M} {Q : Exit → St → Prop}

theorem CallX.mono {f : FuncId} {args : List AV} {hp : List AObj} {Φ Ψ : AV → List AObj → Prop} (h : CallX P f args hp Φ) (hm : ∀ r h', Φ r h' → Ψ r h') : CallX P f args hp Ψ := by
  refine ⟨h.1, fun Z0 F w0 w μ vs us fr hFb hH hvs hus hbel => (h.2 Z0 F w0 w μ vs us fr hFb hH hvs hus hbel).mono ?_⟩
  rintro e w' ⟨v, μ', F', res, hp', hΦ, r⟩
  exact ⟨v, μ', F', res, hp', hm _ _ hΦ, r⟩

/-- How the body of such a function ends. -/
def retX (P : Program) (fn : Func) (n : Nat) (us : List Value) (fr : List AV) (Φ : AV → List AObj → Prop) : Exit → St → Prop := fun e st' => ∃ res hp', Φ res hp' ∧ Go.Abs.retS P fn n us fr res hp' e st'

theorem CallX.of {f : FuncId} {fn : Func} {c : Code} {args : List AV} {hp : List AObj} {Φ : AV → List AObj → Prop} (hf : P.funcs[f]? = some fn) (hb : fn.body = some c) (hnm : (fn.name == "runtime.NumGoroutine") = false)
    (h : ∀ us fr, Runs none P ⟨[.code c], ⟨frameOf fn.ntmps args, hp ++ [.frame us fr]⟩⟩ (retX P fn hp.length us fr Φ)) : CallX P f args hp Φ := by
  refine ⟨enters_of hf hnm (by rw [hb]; rfl), ?_⟩
  intro Z0 F w0 w μ vs us fr hFb hH hvs hus hbel
  have hlen := hvs.length
  refine calls_of_wpIn hf hb ?_
  have hS : Sim Z0 w0 ⟨frameOf fn.ntmps args, hp ++ [.frame us fr]⟩ { tmps := vs.toArray ++ Array.replicate (fn.ntmps - vs.toArray.size) undef, defers := [] } w := by
    refine ⟨μ ++ [.bool false], F, hFb, hH.extend1 (zone_new hbel.size hFb) (Below.refl _ _) ?_ (fun g hg => by simp [blk] at hg) rfl, ?_, .inl rfl, hbel⟩
    · exact RelL.keep (w := w) (fun _ _ _ => rfl) (fun i u hu => append_old i u hu) hus
    · simp only [Array.toList_append, Array.toList_replicate, List.size_toArray, hlen, frameOf]
      refine RelL.append (RelL.keep (w := w) (fun _ _ _ => rfl) (fun i u hu => append_old i u hu) hvs) ?_
      generalize fn.ntmps - args.length = n
      induction n with
      | zero => exact RelL.nil
      | succ n ih => exact RelL.cons (by simp [Rel]) ih
  have hrun2 := h us fr
  simp only [runs_iff] at hrun2
  simp only [RunsK] at hrun2
  refine wpIn_mono (hrun2 Z0 w0 _ w hS) ?_
  have fin : ∀ (e : Exit) (st' : St) (a' : Act) (w' : World), retX P fn hp.length us fr Φ e st' → Sim Z0 w0 st' a' w' → a'.defers = [] ∧ ∃ v, (results fn a'.tmps).run P w' = .ok v w' ∧ ∃ v' μ' F' res hp', Φ res hp' ∧ Ending.returned v = .returned v' ∧ (∀ b, F' b → w0.heap.size ≤ b ∧ b < w'.heap.size) ∧ HRel w' (Zone Z0 F' w0.heap.size) w0.heap.size μ' hp' ∧ Rel w' (Zone Z0 F' w0.heap.size) μ' res v' ∧ RelL w' (Zone Z0 F' w0.heap.size) μ' fr us ∧ Below w0.heap.size w0 w' := by
    rintro e st' a' w' ⟨res, hp', hΦ, _, hres, hfr, hh⟩ ⟨μ', F', hFb', hH', hF', hd', hbel'⟩
    obtain ⟨x, h1, h2⟩ := resIn_run hH' hF' hres
    unfold frameAt at hfr
    split at hfr
    · rename_i us2 fr2 hi
      cases hfr
      have hil : hp.length < μ'.length := by rw [hH'.len]; exact (List.getElem?_eq_some_iff.1 hi).1
      have hfrr : RelL w' (Zone Z0 F' w0.heap.size) μ' fr us := hH'.obj _ _ _ hi (List.getElem?_eq_getElem hil)
      exact ⟨hd'.none (resIn_mark hres), x, h1, x, μ', F', res, hp', hΦ, rfl, hFb', hh ▸ hH'.bury _, h2, hfrr, hbel'⟩
    · cases hfr
  rintro e a' w' ⟨st', hq, hS'⟩
  cases e with
  | normal => exact fin _ st' a' w' hq hS'
  | ret => exact fin _ st' a' w' hq hS'
  | exit id => (obtain ⟨_, _, _, hq, _⟩ := hq; exact absurd hq (by simp))
  | goto l => (obtain ⟨_, _, _, hq, _⟩ := hq; exact absurd hq (by simp))
  | panic ch => (obtain ⟨_, _, _, hq, _⟩ := hq; exact absurd hq (by simp))
  | outgrown => (obtain ⟨_, _, _, hq, _⟩ := hq; exact absurd hq (by simp))

theorem R.retX {fn : Func} {n : Nat} {us : List Value} {fr : List AV} {Φ : AV → List AObj → Prop} {res : AV} {hp' : List AObj} (h : (edAt m).isSome = true) (hr : resIn P fn m.st = some res) (hf : frameAt n m.st = some (us, fr)) (hh : m.st.hp.set n .dead = hp') (hΦ : Φ res hp') :
    Runs rd P m (Go.Abs.retX P fn n us fr Φ) :=
  R.fin h ⟨res, hp', hΦ, .inl rfl, hr, hf, hh⟩ ⟨res, hp', hΦ, .inr rfl, hr, hf, hh⟩

theorem OpsQ.callX {all : Array Oper} {o : Oper} {l : List Oper} {fr : List AV} {hp : List AObj} {R : Exit → St → Prop} {c : Operand} {args : Array Operand} {tys : Array TypeId} {f : FuncId} {caps : List AV} {Φ : AV → List AObj → Prop} (hnm : noMark hp = true) (hw : WantedA all o fr)
    (hop : o.op = .call { callee := .value c, args := args, argTypes := tys }) (hc : ev fr c = .fn f caps) (hcall : CallX P f (args.toList.map (ev fr) ++ caps) hp Φ) (h' : ∀ res hp', Φ res hp' → OpsQ rd P all l ⟨putF fr o.dst res, hp'⟩ R) : OpsQ rd P all (o :: l) ⟨fr, hp⟩ R := by
  intro Z0 w0 a w hS
  refine wpListIn_step fun K hK => ?_
  obtain ⟨μ, F, hFb, hH, hF, hd, hb⟩ := hS
  rw [wanted_rel hF hw, if_pos rfl]
  have hE : ∀ y, Rel w (Zone Z0 F w0.heap.size) μ (ev fr y) (a.eval y) := fun y => ev_rel hF y
  have hcv := hc ▸ hE c
  simp only [Rel] at hcv
  obtain ⟨cv, hcv, hrc⟩ := hcv
  have hargs' : RelL w (Zone Z0 F w0.heap.size) μ (args.toList.map (ev fr)) (args.toList.map a.eval) := by
    generalize args.toList = l
    induction l with
    | nil => exact RelL.nil
    | cons x l ih => exact RelL.cons (hE x) ih
  obtain ⟨hen, hcall⟩ := hcall
  have hC := hcall Z0 F w0 w μ _ _ fr hFb hH (hargs'.append hrc) hF hb
  have hrun : (execOp a.eval o).run P w = .ok (.enter f (args.toList.map a.eval ++ cv).toArray) w := by
    have e1 : (args.map a.eval ++ cv.toArray) = (args.toList.map a.eval ++ cv).toArray := by
      apply Array.toList_inj.1; simp
    simp only [execOp, hop, resolve, Deferred.ofValue, hcv, Sem.run_bind, Sem.run_pure, Result.andThen_ok, invoke, Array.empty_append]
    rw [e1]
    exact hen _ _
  refine wpIn_of_run (fun c' => by rw [hop]; simp) ?_
  rw [hrun]
  refine upon_enter hC ?_
  rintro en w' ⟨x, μ', F', res, hp', hΦ, rfl, hFb', hH', hr, hF', hbel⟩
  exact ⟨x, rfl, hK _ _ (h' res hp' hΦ Z0 w0 _ _ ⟨μ', F', hFb', hH', put_rel hF' _ hr, by rw [put_defers']; exact .inl (hd.none hnm), hbel⟩)⟩

def opsHd (m : M) : Bool :=
  match m.ks with
  | .ops _ (_ :: _) _ :: _ => true
  | _ => false

theorem R.callX {f : FuncId} {avs : List AV} {hp : List AObj} {Φ : AV → List AObj → Prop} (hc : CallX P f avs hp Φ) (h : csAt m = some (f, avs)) (hh : m.st.hp = hp) (ht : opsHd m = true) (h' : ∀ res hp', Φ res hp' → Runs rd P (putM m none res hp') Q) : Runs rd P m Q := by
  have hnm := csAt_mark h
  obtain ⟨fo, args, tys, caps, hop, hf, rfl⟩ := csAt_parts h
  subst hh
  obtain ⟨ks, ⟨fr, hp⟩⟩ := m
  unfold opM headOf at hop
  unfold opsHd at ht
  unfold putM at h'
  simp only [runs_iff] at h' ⊢
  try simp only at hop ht h' hf hc hnm ⊢
  split at hop
  · rename_i all o fl t heq
    split at hop
    · rename_i hw
      simp only [Option.some.injEq] at hop
      split at heq
      · cases heq
        intro hW
        exact OpsQ.callX hnm (wantH_true hw hW) hop hf hc fun res hp' hΦ => h' res hp' hΦ headW_false
      · simp at ht
      · cases heq
    · cases hop
  · cases hop
theorem k26 {f : FuncId} {avs : List AV} {hp : List AObj} {Φ : AV → List AObj → Prop} (hc : CallX P f avs hp Φ) (h' : ∀ res hp', Φ res hp' → Runs rd P (putM m none res hp') Q) (h : csAt m = some (f, avs) := by kernel_rfl) (hh : m.st.hp = hp := by kernel_rfl) (ht : opsHd m = true := by kernel_rfl) : Runs rd P m Q := _root_.Go.Abs.R.callX hc h hh ht h'
/-- Under one more frame. -/
theorem CallX.frame {P : Program} {f : FuncId} {args : List AV} {hp : List AObj} {Φ : AV → List AObj → Prop} (us2 : List Value) (fr2 : List AV) (hc : CallX P f args hp Φ) (h1 : renH (List.range hp.length) hp = hp)
    (h2 : renL (List.range hp.length) args = args) (h3 : ∀ r h', Φ r h' → hp.length ≤ h'.length) : CallX P f args (hp ++ [.frame us2 fr2]) fun r h => ∃ res hp', Φ res hp' ∧ r = res.ren (insJ hp.length hp'.length) ∧ h = insF hp.length us2 fr2 hp' := by
  obtain ⟨hen, hc⟩ := hc
  refine ⟨hen, ?_⟩
  intro Z0 F w0 w μ vs us fr hFb hH hvs hus hbel
  have hml : μ.length = hp.length + 1 := by rw [hH.len]; simp
  have hH0 := hH.ren (List.range hp.length) List.nodup_range
  have e0 : ((List.range hp.length).map fun i => ((hp ++ [AObj.frame us2 fr2]).getD i .dead).ren (List.range hp.length)) = hp := by
    refine Eq.trans (List.map_congr_left fun i hi => ?_) h1
    have hi := List.mem_range.1 hi
    simp only [List.getD_eq_getElem?_getD]
    rw [List.getElem?_append_left hi]
  rw [e0] at hH0
  have hvs0 := hvs.ren (List.range hp.length)
  rw [h2] at hvs0
  have hn2 : (hp ++ [AObj.frame us2 fr2])[hp.length]? = some (.frame us2 fr2) := by simp
  obtain ⟨u, hu⟩ : ∃ u, μ[hp.length]? = some u := ⟨_, List.getElem?_eq_getElem (by omega)⟩
  have hf2 : RelL w (Zone Z0 F w0.heap.size) μ fr2 us2 := hH.obj _ _ u hn2 hu
  have hus0 := (hus.append hf2).ren (List.range hp.length)
  refine (hc Z0 F w0 w _ vs (us ++ us2) _ hFb hH0 hvs0 hus0 hbel).mono ?_
  rintro e w' ⟨v, μ1, F1, res, hp', hΦ, rfl, hF1, hH1, hres, hfr1, hb1⟩
  have h3 := h3 _ _ hΦ
  have hm1 := hH1.len
  have hHd := hH1.addDead u (hH.one _ u hu)
  have hH2 := hHd.ren (insJ hp.length hp'.length) (insJ_nodup h3)
  obtain ⟨μ2, hμ2⟩ : ∃ μ2, μ2 = ((insJ hp.length hp'.length).map fun i => (μ1 ++ [u]).getD i (.bool false)) := ⟨_, rfl⟩
  have hA : ∀ (i : Nat) x, i < hp.length → μ1[i]? = some x → μ2[i]? = some x := by
    intro i x hi hx
    have hj : (insJ hp.length hp'.length)[i]? = some i := by
      unfold insJ
      rw [List.getElem?_append_left (by simpa using hi)]
      simp [hi]
    rw [hμ2, List.getElem?_map, hj]
    simp only [Option.map_some, List.getD_eq_getElem?_getD]
    rw [List.getElem?_append_left (by omega), hx]
    rfl
  have hB : ∀ (i : Nat) x, hp.length ≤ i → μ[i]? = some x → μ2[i]? = some x := by
    intro i x hi hx
    have hin : i = hp.length := by have := (List.getElem?_eq_some_iff.1 hx).1; omega
    subst hin
    rw [hu] at hx
    have hj : (insJ hp.length hp'.length)[hp.length]? = some hp'.length := by
      unfold insJ
      rw [List.getElem?_append_right (by simp)]
      simp
    rw [hμ2, List.getElem?_map, hj]
    simp only [Option.map_some, List.getD_eq_getElem?_getD]
    rw [List.getElem?_append_right (by omega), hm1]
    simpa using hx
  rw [← hμ2] at hH2
  have hall := RelL.mix hA hB (hus.append hf2) hfr1
  have hul := hus.length
  have hfr : RelL w' (Zone Z0 F1 w0.heap.size) μ2 fr us := by
    have := hall.take fr.length
    rwa [List.take_left, ← hul, List.take_left] at this
  have hfr2 : RelL w' (Zone Z0 F1 w0.heap.size) μ2 fr2 us2 := by
    have := hall.drop fr.length
    rwa [List.drop_left, ← hul, List.drop_left] at this
  refine ⟨v, μ2, F1, _, _, ⟨res, hp', hΦ, rfl, rfl⟩, rfl, hF1, ?_, ?_, hfr, hb1⟩
  · refine hH2.frameAt ?_ hfr2
    have hj : (insJ hp.length hp'.length)[hp.length]? = some hp'.length := by
      unfold insJ
      rw [List.getElem?_append_right (by simp)]
      simp
    rw [List.getElem?_map, hj]
    simp [AObj.ren]
  · rw [hμ2]
    exact Rel.ren _ (Rel.keep (w := w') (fun _ _ _ => rfl) (fun i u hu => append_old i u hu) hres)
/-- Objects left out that the call has made. -/
theorem CallX.drop {P : Program} {f : FuncId} {args : List AV} {hp : List AObj} {Φ : AV → List AObj → Prop} (js : List Nat) (hc : CallX P f args hp Φ) (h1 : js.take hp.length = List.range hp.length) (h2 : js.Nodup) :
    CallX P f args hp fun r h => ∃ res hp', Φ res hp' ∧ r = res.ren js ∧ h = renH js hp' := by
  obtain ⟨hen, hc⟩ := hc
  refine ⟨hen, ?_⟩
  intro Z0 F w0 w μ vs us fr hFb hH hvs hus hbel
  refine (hc Z0 F w0 w μ vs us fr hFb hH hvs hus hbel).mono ?_
  rintro e w' ⟨v, μ1, F1, res, hp', hΦ, rfl, hF1, hH1, hres, hfr1, hb1⟩
  have hm1 := hH1.len
  have hjs : ∀ i, i < hp.length → js[i]? = some i := by
    intro i hi
    have := congrArg (fun l : List Nat => l[i]?) h1
    simp only [List.getElem?_take, if_pos hi] at this
    rw [this]
    simp [hi]
  refine ⟨v, _, F1, _, _, ⟨res, hp', hΦ, rfl, rfl⟩, rfl, hF1, hH1.ren js h2, Rel.ren js hres, ?_, hb1⟩
  refine RelL.mix (n := hp.length) ?_ ?_ hus (hfr1.ren (List.range hp.length))
  · intro i x hi hx
    rw [List.getElem?_map, hjs i hi]
    rw [List.getElem?_map] at hx
    simpa [hi] using hx
  · intro i x hi hx
    have h4 := (List.getElem?_eq_some_iff.1 hx).1
    have h5 := hH.len
    omega
/-- Objects left out that the call has made; which, depends on the way. -/
theorem CallX.dropE {P : Program} {f : FuncId} {args : List AV} {hp : List AObj} {Φ : AV → List AObj → Prop} (hc : CallX P f args hp fun r h => ∃ js : List Nat, js.take hp.length = List.range hp.length ∧ js.Nodup ∧ Φ (r.ren js) (renH js h)) :
    CallX P f args hp Φ := by
  obtain ⟨hen, hc⟩ := hc
  refine ⟨hen, ?_⟩
  intro Z0 F w0 w μ vs us fr hFb hH hvs hus hbel
  refine (hc Z0 F w0 w μ vs us fr hFb hH hvs hus hbel).mono ?_
  rintro e w' ⟨v, μ1, F1, res, hp', ⟨js, h1, h2, hΦ⟩, rfl, hF1, hH1, hres, hfr1, hb1⟩
  have hm1 := hH1.len
  have hjs : ∀ i, i < hp.length → js[i]? = some i := by
    intro i hi
    have := congrArg (fun l : List Nat => l[i]?) h1
    simp only [List.getElem?_take, if_pos hi] at this
    rw [this]
    simp [hi]
  refine ⟨v, _, F1, _, _, hΦ, rfl, hF1, hH1.ren js h2, Rel.ren js hres, ?_, hb1⟩
  refine RelL.mix (n := hp.length) ?_ ?_ hus (hfr1.ren (List.range hp.length))
  · intro i x hi hx
    rw [List.getElem?_map, hjs i hi]
    rw [List.getElem?_map] at hx
    simpa [hi] using hx
  · intro i x hi hx
    have h4 := (List.getElem?_eq_some_iff.1 hx).1
    have h5 := hH.len
    omega
/-- Objects left out (dead ones), the others under new numbers. -/
def opsHd0 (m : M) : Bool :=
  match m.ks with
  | .ops _ (_ :: _) false :: _ => true
  | _ => false
/-- A dead object as an empty frame, so that CallX.frame carries a contract over it. -/
theorem R.deadF (i : Nat) (h : opsHd0 m = true) (hd : m.st.hp[i]? = some .dead) (h' : Runs rd P ⟨m.ks, ⟨m.st.fr, m.st.hp.set i (.frame [] [])⟩⟩ Q) : Runs rd P m Q := by
  obtain ⟨ks, ⟨fr, hp⟩⟩ := m
  unfold opsHd0 at h
  simp only [runs_iff] at h h' hd ⊢
  split at h
  · simp only [RunsK] at h' ⊢
    intro _ Z0 w0 a w hS
    obtain ⟨μ, F, hFb, hH, hF, hdf, hb⟩ := hS
    refine h' headW_false Z0 w0 a w ⟨μ, F, hFb, hH.frameAt hd RelL.nil, hF, hdf.keep (fun j x hj => ⟨?_, fun u hu => hu⟩), hb⟩
    have hne : i ≠ j := fun e => by subst e; rw [hd] at hj; cases hj
    simp only
    rw [List.getElem?_set_ne hne]; exact hj
  · cases h
end
end Go.Abs
