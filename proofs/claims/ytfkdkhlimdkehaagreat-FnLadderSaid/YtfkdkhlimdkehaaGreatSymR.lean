/- The machine's rules: functions walked into; functions that change their caller's rows; results that are written no more. -/
import Derived.Test.YtfkdkhlimdkehaaGreatSymQ
namespace Go.Abs
open Go.RowKit

theorem HRel.bury {w : World} {Z : Nat → Prop} {B : Nat} {μ : List Value} {hp : List AObj} (i : Nat) (h : HRel w Z B μ hp) : HRel w Z B μ (hp.set i .dead) := by
  have get : ∀ (j : Nat) oj, (hp.set i .dead)[j]? = some oj → oj = .dead ∨ hp[j]? = some oj := by
    intro j oj hj
    by_cases hji : j = i
    · subst hji
      rcases Nat.lt_or_ge j hp.length with hlt | hge
      · rw [List.getElem?_set_self hlt] at hj; simp at hj; exact .inl hj.symm
      · rw [List.getElem?_eq_none (by simpa using hge)] at hj; cases hj
    · rw [List.getElem?_set_ne (Ne.symm hji)] at hj
      exact .inr hj
  refine ⟨by simpa using h.len, fun j o u g h1 ha h2 hg => ?_, h.one, fun j oj u h1 h2 => ?_, fun j k oj ok uj uk g hne h1 h2 a1 a2 m1 m2 b1 b2 => ?_⟩
  · rcases get j o h1 with rfl | h1
    · cases ha
    · exact h.zone j o u g h1 ha h2 hg
  · rcases get j oj h1 with rfl | h1
    · trivial
    · exact h.obj j oj u h1 h2
  · rcases get j oj h1 with rfl | h1
    · cases a1
    · rcases get k ok h2 with rfl | h2
      · cases a2
      · exact h.sep j k oj ok uj uk g hne h1 h2 a1 a2 m1 m2 b1 b2

/-- A result, its own slices as names. -/
def resIn (P : Program) (fn : Func) (st : St) : Option AV :=
  match resVs P st fn.results.toList with
  | some vs => if noMark st.hp then some (oneOf vs) else none
  | none => none

theorem resIn_mark {P : Program} {fn : Func} {st : St} {res : AV} (h : resIn P fn st = some res) : noMark st.hp = true := by
  unfold resIn at h
  split at h
  · split at h
    · assumption
    · cases h
  · cases h

theorem resIn_run {P : Program} {fn : Func} {w : World} {Z : Nat → Prop} {B : Nat} {μ : List Value} {st : St} {a : Act} {res : AV} (hH : HRel w Z B μ st.hp) (hF : RelL w Z μ st.fr a.tmps.toList) (h : resIn P fn st = some res) :
    ∃ x, (results fn a.tmps).run P w = .ok x w ∧ Rel w Z μ res x := by
  unfold resIn at h
  split at h
  · rename_i vs hvs
    split at h
    · cases h
      exact results_run hH hF (resVs_sound hvs)
    · cases h
  · cases h

/-- The head of a region that is not drawn has been done, in the frame fr. -/
def backM (m : M) (fr : List AV) (v : AV) (hp : List AObj) : M :=
  match m.ks with
  | .ops all (o :: l) _ :: ks => ⟨.ops all l false :: ks, ⟨putF fr o.dst v, hp⟩⟩
  | _ => m

def frameAt (n : Nat) (st : St) : Option (List Value × List AV) :=
  match st.hp[n]? with
  | some (.frame us fr) => some (us, fr)
  | _ => none

/-- Back from a function that was walked into: its caller m goes on. -/
def backQ (rd : Option Nat) (P : Program) (fn : Func) (m : M) (n : Nat) (us : List Value) (Q : Exit → St → Prop) : Exit → St → Prop := fun e st' =>
  (e = .normal ∨ e = .ret) ∧ ∃ res fr', resIn P fn st' = some res ∧ frameAt n st' = some (us, fr') ∧ Runs rd P (backM m fr' res (st'.hp.set n .dead)) Q

def opsAt (m : M) : Bool :=
  match m.ks with
  | .ops _ (_ :: _) _ :: _ => true
  | _ => false

section
variable {rd : Option Nat} {P : Program} {m : M} {Q : Exit → St → Prop}

theorem R.enter {f : FuncId} {fn : Func} {c : Code} {avs : List AV} (hf : P.funcs[f]? = some fn) (hb : fn.body = some c) (hnm : (fn.name == "runtime.NumGoroutine") = false) (h : csAt m = some (f, avs)) (ho : opsAt m = true)
    (h' : ∀ us, Runs none P ⟨[.code c], ⟨frameOf fn.ntmps avs, m.st.hp ++ [.frame us m.st.fr]⟩⟩ (backQ rd P fn m m.st.hp.length us Q)) : Runs rd P m Q := by
  have hnmk := csAt_mark h
  obtain ⟨fo, args, tys, caps, hop, hfo, rfl⟩ := csAt_parts h
  have hen := enters_of hf hnm (by rw [hb]; rfl)
  obtain ⟨ks, ⟨fr, hp⟩⟩ := m
  unfold opM headOf at hop
  unfold opsAt at ho
  simp only at hop ho hfo h' hnmk
  rw [runs_iff]
  split at ho
  · rename_i all o l fl ks'
    simp only at hop
    split at hop
    · rename_i hw
      simp only [Option.some.injEq] at hop
      simp only [RunsK]
      intro hW
      have hwant := wantH_true hw hW
      intro Z0 w0 a w hS
      obtain ⟨μ, F, hFb, hH, hF, hd, hbel⟩ := hS
      refine wpListIn_step fun K hK => ?_
      rw [wanted_rel hF hwant, if_pos rfl]
      have hE : ∀ y, Rel w (Zone Z0 F w0.heap.size) μ (ev fr y) (a.eval y) := fun y => ev_rel hF y
      have hcv := hfo ▸ hE fo
      simp only [Rel] at hcv
      obtain ⟨cv, hcv, hrc⟩ := hcv
      have hargs' : RelL w (Zone Z0 F w0.heap.size) μ (args.toList.map (ev fr)) (args.toList.map a.eval) := by
        generalize args.toList = l
        induction l with
        | nil => exact RelL.nil
        | cons x l ih => exact RelL.cons (hE x) ih
      have hall := hargs'.append hrc
      have hrun : (execOp a.eval o).run P w = .ok (.enter f (args.toList.map a.eval ++ cv).toArray) w := by
        have e1 : (args.map a.eval ++ cv.toArray) = (args.toList.map a.eval ++ cv).toArray := by
          apply Array.toList_inj.1; simp
        simp only [execOp, hop, resolve, Deferred.ofValue, hcv, Sem.run_bind, Sem.run_pure, Result.andThen_ok, invoke, Array.empty_append]
        rw [e1]
        exact hen _ _
      refine wpIn_of_run (fun c' => by rw [hop]; simp) ?_
      rw [hrun]
      have hlen := hall.length
      have hS2 : Sim Z0 w0 ⟨frameOf fn.ntmps (args.toList.map (ev fr) ++ caps), hp ++ [.frame a.tmps.toList fr]⟩ { tmps := (args.toList.map a.eval ++ cv).toArray ++ Array.replicate (fn.ntmps - (args.toList.map a.eval ++ cv).toArray.size) undef, defers := [] } w := by
        refine ⟨μ ++ [.bool false], F, hFb, hH.extend1 (zone_new hbel.size hFb) (Below.refl _ _) ?_ (fun g hg => by simp [blk] at hg) rfl, ?_, .inl rfl, hbel⟩
        · exact RelL.keep (w := w) (fun _ _ _ => rfl) (fun i u hu => append_old i u hu) hF
        · simp only [Array.toList_append, Array.toList_replicate, List.size_toArray, hlen, frameOf]
          refine RelL.append (RelL.keep (w := w) (fun _ _ _ => rfl) (fun i u hu => append_old i u hu) hall) ?_
          generalize fn.ntmps - (args.toList.map (ev fr) ++ caps).length = n
          induction n with
          | zero => exact RelL.nil
          | succ n ih => exact RelL.cons (by simp [Rel]) ih
      have hrun2 := h' a.tmps.toList
      simp only [runs_iff] at hrun2
      simp only [RunsK] at hrun2
      have main : Calls P f (args.toList.map a.eval ++ cv).toArray w fun en w' => ∃ x, en = .returned x ∧ K (a.put o.dst x) w' := by
        refine calls_of_wpIn hf hb ?_
        refine wpIn_mono (hrun2 Z0 w0 _ w hS2) ?_
        have fin : ∀ (e : Exit) (st' : St) (a' : Act) (w' : World), backQ rd P fn ⟨.ops all (o :: l) fl :: ks', ⟨fr, hp⟩⟩ hp.length a.tmps.toList Q e st' → Sim Z0 w0 st' a' w' → a'.defers = [] ∧ ∃ v, (results fn a'.tmps).run P w' = .ok v w' ∧ ∃ x, Ending.returned v = .returned x ∧ K (a.put o.dst x) w' := by
          rintro e st' a' w' ⟨_, res, fr', hres, hfr, hgo⟩ ⟨μ', F', hFb', hH', hF', hd', hbel'⟩
          obtain ⟨x, h1, h2⟩ := resIn_run hH' hF' hres
          unfold frameAt at hfr
          split at hfr
          · rename_i us fr2 hi
            cases hfr
            have hil : hp.length < μ'.length := by rw [hH'.len]; exact (List.getElem?_eq_some_iff.1 hi).1
            have hfrr : RelL w' (Zone Z0 F' w0.heap.size) μ' fr' a.tmps.toList := hH'.obj _ _ _ hi (List.getElem?_eq_getElem hil)
            refine ⟨hd'.none (resIn_mark hres), x, h1, x, rfl, ?_⟩
            simp only [runs_iff, backM] at hgo
            simp only [RunsK] at hgo
            exact hK _ _ (hgo headW_false Z0 w0 _ w' ⟨μ', F', hFb', hH'.bury _, put_rel hfrr _ h2, by rw [put_defers']; exact .inl (hd.none hnmk), hbel'⟩)
          · cases hfr
        rintro e a' w' ⟨st', hq, hS'⟩
        cases e with
        | normal => exact fin _ st' a' w' hq hS'
        | ret => exact fin _ st' a' w' hq hS'
        | exit id => exact absurd hq.1 (by simp)
        | goto l => exact absurd hq.1 (by simp)
        | panic ch => exact absurd hq.1 (by simp)
        | outgrown => exact absurd hq.1 (by simp)
      refine upon_enter main ?_
      rintro en w' ⟨x, rfl, hk⟩
      exact ⟨x, rfl, hk⟩
    · cases hop
  · cases ho

theorem R.back {fn : Func} {m0 : M} {n : Nat} {us : List Value} (res : AV) (fr' : List AV) (h : (edAt m).isSome = true) (hr : resIn P fn m.st = some res) (hf : frameAt n m.st = some (us, fr')) (h' : Runs rd P (backM m0 fr' res (m.st.hp.set n .dead)) Q) : Runs none P m (backQ rd P fn m0 n us Q) :=
  R.fin h ⟨.inl rfl, res, fr', hr, hf, h'⟩ ⟨.inr rfl, res, fr', hr, hf, h'⟩

/-- How the body of a function ends that changes its caller's rows. -/
def retS (P : Program) (fn : Func) (n : Nat) (us : List Value) (fr : List AV) (res : AV) (hp' : List AObj) : Exit → St → Prop := fun e st' => (e = .normal ∨ e = .ret) ∧ resIn P fn st' = some res ∧ frameAt n st' = some (us, fr) ∧ st'.hp.set n .dead = hp'

theorem CallS.of {f : FuncId} {fn : Func} {c : Code} {args : List AV} {hp : List AObj} {res : AV} {hp' : List AObj} (hf : P.funcs[f]? = some fn) (hb : fn.body = some c) (hnm : (fn.name == "runtime.NumGoroutine") = false)
    (h : ∀ us fr, Runs none P ⟨[.code c], ⟨frameOf fn.ntmps args, hp ++ [.frame us fr]⟩⟩ (retS P fn hp.length us fr res hp')) : CallS P f args hp res hp' := by
  refine ⟨enters_of hf hnm (by rw [hb]; rfl), ?_⟩
  intro Z0 F w0 w μ vs us fr hFb hH hvs hus hbel
  have hlen := hvs.length
  refine calls_of_wpIn hf hb ?_
  have hS : Sim Z0 w0 ⟨frameOf fn.ntmps args, hp ++ [.frame us fr]⟩ { tmps := vs.toArray ++ Array.replicate (fn.ntmps - vs.toArray.size) undef, defers := [] } w := by
    refine ⟨μ ++ [.bool false], F, hFb, hH.extend1 (zone_new hbel.size hFb) (Below.refl _ _) ?_ (fun g hg => by simp [blk] at hg) rfl, ?_, .inl rfl, hbel⟩
    · exact RelL.keep (w := w) (fun _ _ _ => rfl) (fun i u hu => append_old i u hu) hus
    · simp only [Array.toList_append, Array.toList_replicate, List.size_toArray, hlen, frameOf]
      refine RelL.append (RelL.keep (w := w) (fun _ _ _ => rfl) (fun i u hu => append_old i u hu) hvs) ?_
      generalize fn.ntmps - args.length = n
      induction n with
      | zero => exact RelL.nil
      | succ n ih => exact RelL.cons (by simp [Rel]) ih
  have hrun2 := h us fr
  simp only [runs_iff] at hrun2
  simp only [RunsK] at hrun2
  refine wpIn_mono (hrun2 Z0 w0 _ w hS) ?_
  have fin : ∀ (e : Exit) (st' : St) (a' : Act) (w' : World), retS P fn hp.length us fr res hp' e st' → Sim Z0 w0 st' a' w' → a'.defers = [] ∧ ∃ v, (results fn a'.tmps).run P w' = .ok v w' ∧ ∃ v' μ' F', Ending.returned v = .returned v' ∧ (∀ b, F' b → w0.heap.size ≤ b ∧ b < w'.heap.size) ∧ HRel w' (Zone Z0 F' w0.heap.size) w0.heap.size μ' hp' ∧ Rel w' (Zone Z0 F' w0.heap.size) μ' res v' ∧ RelL w' (Zone Z0 F' w0.heap.size) μ' fr us ∧ Below w0.heap.size w0 w' := by
    rintro e st' a' w' ⟨_, hres, hfr, hh⟩ ⟨μ', F', hFb', hH', hF', hd', hbel'⟩
    obtain ⟨x, h1, h2⟩ := resIn_run hH' hF' hres
    unfold frameAt at hfr
    split at hfr
    · rename_i us2 fr2 hi
      cases hfr
      have hil : hp.length < μ'.length := by rw [hH'.len]; exact (List.getElem?_eq_some_iff.1 hi).1
      have hfrr : RelL w' (Zone Z0 F' w0.heap.size) μ' fr us := hH'.obj _ _ _ hi (List.getElem?_eq_getElem hil)
      exact ⟨hd'.none (resIn_mark hres), x, h1, x, μ', F', rfl, hFb', hh ▸ hH'.bury _, h2, hfrr, hbel'⟩
    · cases hfr
  rintro e a' w' ⟨st', hq, hS'⟩
  cases e with
  | normal => exact fin _ st' a' w' hq hS'
  | ret => exact fin _ st' a' w' hq hS'
  | exit id => exact absurd hq.1 (by simp)
  | goto l => exact absurd hq.1 (by simp)
  | panic ch => exact absurd hq.1 (by simp)
  | outgrown => exact absurd hq.1 (by simp)

theorem R.retS {fn : Func} {n : Nat} {us : List Value} {fr : List AV} {res : AV} {hp' : List AObj} (h : (edAt m).isSome = true) (hr : resIn P fn m.st = some res) (hf : frameAt n m.st = some (us, fr)) (hh : m.st.hp.set n .dead = hp') : Runs rd P m (retS P fn n us fr res hp') :=
  R.fin h ⟨.inl rfl, hr, hf, hh⟩ ⟨.inr rfl, hr, hf, hh⟩

end

/-! ### Results that are written no more -/
mutual
def frzR : AV → AV
  | .own _ s n cs => .lst s n cs
  | .agg cs => .agg (frzRL cs)
  | .tup cs => .tup (frzRL cs)
  | .int k n => .int k n
  | .bool b => .bool b
  | .str s => .str s
  | .nil => .nil
  | .lst s n cs => .lst s n cs
  | .clp s n cs => .clp s n cs
  | .rptr cs => .rptr cs
  | .ref i => .ref i
  | .ptr i o => .ptr i o
  | .fn f cs => .fn f cs
  | .top => .top
def frzRL : List AV → List AV
  | [] => []
  | c :: cs => frzR c :: frzRL cs
end

mutual
theorem RF.frz {w : World} {Z Z' : Nat → Prop} {B : Nat} (hz : ∀ b, b < w.heap.size → ¬ Z b → ¬ Z' b) : ∀ {c : AV} {v : Value} {bs : List Nat}, (∀ g ∈ bs, ¬ Z' g) → RF w Z B c v bs → RF w Z' B (frzR c) v []
  | .own e s n cs, v, bs, hb, h => by
    simp only [RF, frzR] at h ⊢
    obtain ⟨xs, h1, h2, rfl⟩ := h
    exact ⟨own_lst h1 h2 hz (fun g hg => hb g (by simp [hg])), trivial⟩
  | .agg cs, v, bs, hb, h => by
    simp only [RF, frzR] at h ⊢
    obtain ⟨xs, h1, h2⟩ := h
    exact ⟨xs, h1, RFL.frz hz hb h2⟩
  | .tup cs, v, bs, hb, h => by
    simp only [RF, frzR] at h ⊢
    obtain ⟨xs, h1, h2⟩ := h
    exact ⟨xs, h1, RFL.frz hz hb h2⟩
  | .int _ _, v, bs, hb, h => by simp only [RF, frzR] at h ⊢; exact ⟨h.1, trivial⟩
  | .bool _, v, bs, hb, h => by simp only [RF, frzR] at h ⊢; exact ⟨h.1, trivial⟩
  | .str _, v, bs, hb, h => by simp only [RF, frzR] at h ⊢; exact ⟨h.1, trivial⟩
  | .nil, v, bs, hb, h => by simp only [RF, frzR] at h ⊢; exact ⟨h.1, trivial⟩
  | .top, v, bs, hb, h => by simp only [RF, frzR]
  | .lst s n cs, v, bs, hb, h => by simp only [RF, frzR] at h ⊢; exact ⟨Rel.weak (c := .lst s n cs) hz h.1, trivial⟩
  | .clp s n cs, v, bs, hb, h => by simp only [RF, frzR] at h ⊢; exact ⟨Rel.weak (c := .clp s n cs) hz h.1, trivial⟩
  | .rptr cs, v, bs, hb, h => by simp only [RF, frzR] at h ⊢; exact ⟨Rel.weak (c := .rptr cs) hz h.1, trivial⟩
  | .ref _, v, bs, hb, h => by simp [RF] at h
  | .ptr _ _, v, bs, hb, h => by simp [RF] at h
  | .fn f cs, v, bs, hb, h => by simp only [RF, frzR] at h ⊢; exact ⟨Rel.weak (c := .fn f cs) hz h.1, trivial⟩
theorem RFL.frz {w : World} {Z Z' : Nat → Prop} {B : Nat} (hz : ∀ b, b < w.heap.size → ¬ Z b → ¬ Z' b) : ∀ {cs : List AV} {vs : List Value} {bs : List Nat}, (∀ g ∈ bs, ¬ Z' g) → RFL w Z B cs vs bs → RFL w Z' B (frzRL cs) vs []
  | [], vs, bs, hb, h => by simp only [RFL, frzRL] at h ⊢; exact ⟨h.1, trivial⟩
  | c :: cs, vs, bs, hb, h => by
    simp only [RFL, frzRL] at h ⊢
    obtain ⟨x, xs, b1, b2, rfl, h2, h3, rfl⟩ := h
    exact ⟨x, xs, [], [], rfl, RF.frz hz (fun g hg => hb g (by simp [hg])) h2, RFL.frz hz (fun g hg => hb g (by simp [hg])) h3, rfl⟩
end

mutual
theorem RF.lt {w : World} {Z : Nat → Prop} {B : Nat} : ∀ {c : AV} {v : Value} {bs : List Nat}, RF w Z B c v bs → ∀ g ∈ bs, g < w.heap.size
  | .own e s n cs, v, bs, h => by
    simp only [RF] at h
    obtain ⟨xs, h1, h2, rfl⟩ := h
    exact ownsRow_blk_lt h1
  | .agg cs, v, bs, h => by simp only [RF] at h; obtain ⟨xs, h1, h2⟩ := h; exact RFL.lt h2
  | .tup cs, v, bs, h => by simp only [RF] at h; obtain ⟨xs, h1, h2⟩ := h; exact RFL.lt h2
  | .int _ _, _, _, h => by simp only [RF] at h; obtain ⟨_, rfl⟩ := h; simp
  | .bool _, _, _, h => by simp only [RF] at h; obtain ⟨_, rfl⟩ := h; simp
  | .str _, _, _, h => by simp only [RF] at h; obtain ⟨_, rfl⟩ := h; simp
  | .nil, _, _, h => by simp only [RF] at h; obtain ⟨_, rfl⟩ := h; simp
  | .top, _, _, h => by simp only [RF] at h; subst h; simp
  | .lst _ _ _, _, _, h => by simp only [RF] at h; obtain ⟨_, rfl⟩ := h; simp
  | .clp _ _ _, _, _, h => by simp only [RF] at h; obtain ⟨_, rfl⟩ := h; simp
  | .rptr _, _, _, h => by simp only [RF] at h; obtain ⟨_, rfl⟩ := h; simp
  | .ref _, _, _, h => by simp [RF] at h
  | .ptr _ _, _, _, h => by simp [RF] at h
  | .fn _ _, _, _, h => by simp only [RF] at h; obtain ⟨_, rfl⟩ := h; simp
theorem RFL.lt {w : World} {Z : Nat → Prop} {B : Nat} : ∀ {cs : List AV} {vs : List Value} {bs : List Nat}, RFL w Z B cs vs bs → ∀ g ∈ bs, g < w.heap.size
  | [], _, _, h => by simp only [RFL] at h; obtain ⟨_, rfl⟩ := h; simp
  | c :: cs, _, _, h => by
    simp only [RFL] at h
    obtain ⟨x, xs, b1, b2, _, h2, h3, rfl⟩ := h
    intro g hg
    rcases List.mem_append.1 hg with hg | hg
    · exact RF.lt h2 g hg
    · exact RFL.lt h3 g hg
end

/-- The same contract, the result to be read only. -/
theorem CallA.frz {P : Program} {f : FuncId} {args : List AV} {res : AV} (h : CallA P f args res) : CallA P f args (frzR res) := by
  refine ⟨h.1, fun Z0 w vs hvs => (h.2 Z0 w vs hvs).mono ?_⟩
  rintro e w' ⟨v, bs, F', rfl, hF', hr, hnd, hbf, hbel⟩
  refine ⟨v, [], fun b => F' b ∨ b ∈ bs, rfl, fun b hb => hb.elim (hF' b) (fun h => ⟨RF.ge hr b h, RF.lt hr b h⟩), RF.frz (fun b _ => zone_more b) (fun g hg hz => ?_) hr, List.nodup_nil, by simp, hbel⟩
  have := RF.ge hr g hg
  exact hz.elim (fun h => by omega) (fun h => h.2 (.inr hg))

theorem CallA.eq {P : Program} {f : FuncId} {args args' : List AV} {res res' : AV} (h : CallA P f args res) (ha : args = args') (hr : res = res') : CallA P f args' res' := by subst ha hr; exact h

end Go.Abs
