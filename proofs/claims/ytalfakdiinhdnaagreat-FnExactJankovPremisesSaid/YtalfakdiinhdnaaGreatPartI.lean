/- Texts of the proof: Symb, Symc, HN, JN1, JN2. -/
import Derived.Test.YtalfakdiinhdnaaGreatPartH

/-! Calls of which is told that there is a result with some facts, which may speak of the first block that the call made; calls by value whose arguments are told less of. -/
namespace Go.Abs
open Go.RowKit

def CallE (P : Program) (f : FuncId) (args : List AV) (Φ : Nat → AV → Prop) : Prop :=
  Enters P f ∧ ∀ (Z0 : Nat → Prop) (w : World) (vs : List Value), RelL w (Zone Z0 NoF w.heap.size) [] args vs →
    Calls P f vs.toArray w fun e w' => ∃ res v bs F', Φ w.heap.size res ∧ e = .returned v ∧ (∀ b, F' b → w.heap.size ≤ b ∧ b < w'.heap.size) ∧ RF w' (Zone Z0 F' w.heap.size) w.heap.size res v bs ∧ bs.Nodup ∧ (∀ b ∈ bs, ¬ F' b) ∧ Below w.heap.size w w'

theorem CallE.toA {P : Program} {f : FuncId} {args : List AV} {res : AV} (h : CallE P f args fun _ r => r = res) : CallA P f args res := by
  refine ⟨h.1, fun Z0 w vs hvs => (h.2 Z0 w vs hvs).mono ?_⟩
  rintro e w' ⟨r, v, bs, F', hr, hh⟩
  subst hr
  exact ⟨v, bs, F', hh⟩

theorem CallE.mono {P : Program} {f : FuncId} {args : List AV} {Φ Ψ : Nat → AV → Prop} (h : CallE P f args Φ) (h' : ∀ b r, Φ b r → Ψ b r) : CallE P f args Ψ := by
  refine ⟨h.1, fun Z0 w vs hvs => (h.2 Z0 w vs hvs).mono ?_⟩
  rintro e w' ⟨r, v, bs, F', hr, h⟩
  exact ⟨r, v, bs, F', h' _ _ hr, h⟩

/-- A result; object 0 is the base. -/
def resB (P : Program) (fn : Func) (st : St) : Option AV :=
  match st.hp[0]? with
  | some (AObj.inert (Inert.base _)) => if noMark st.hp then resOf P fn ⟨st.fr, st.hp.set 0 AObj.dead⟩ else none
  | _ => none

/-- How a function's body ends that hands back something with Φ. -/
def retE (P : Program) (fn : Func) (b : Nat) (Φ : Nat → AV → Prop) : Exit → St → Prop := fun e st' => (e = .normal ∨ e = .ret) ∧ ∃ res, Φ b res ∧ resB P fn st' = some res

theorem R.retB {P : Program} {m : M} {fn : Func} {b : Nat} {Φ : Nat → AV → Prop} (res : AV) (h : (edAt m).isSome = true) (hr : resB P fn m.st = some res) (hΦ : Φ b res) : Runs none P m (Go.Abs.retE P fn b Φ) :=
  R.fin h ⟨.inl rfl, res, hΦ, hr⟩ ⟨.inr rfl, res, hΦ, hr⟩

theorem CallE.of {P : Program} {f : FuncId} {fn : Func} {c : Code} {args : List AV} {Φ : Nat → AV → Prop} (hf : P.funcs[f]? = some fn) (hb : fn.body = some c) (hnm : (fn.name == "runtime.NumGoroutine") = false)
    (h : ∀ b, Runs none P ⟨[.code c], ⟨frameOf fn.ntmps args, [.inert (.base b)]⟩⟩ (retE P fn b Φ)) : CallE P f args Φ := by
  refine ⟨enters_of hf hnm (by rw [hb]; rfl), ?_⟩
  intro Z0 w vs hvs
  have hlen := hvs.length
  refine callsIn_wide.1 (callsIn_of_wp_marks (F := Fence.wide) (n := 0) hf hb trivial ?_)
  have hS : Sim Z0 w ⟨args ++ List.replicate (fn.ntmps - args.length) .top, [.inert (.base w.heap.size)]⟩ { tmps := vs.toArray ++ Array.replicate (fn.ntmps - vs.toArray.size) undef, defers := [] } w := by
    have one : ∀ {i : Nat} {α : Type} {x y : α}, ([x] : List α)[i]? = some y → i = 0 ∧ y = x := by
      intro i α x y h
      cases i with
      | zero => simp at h; exact ⟨rfl, h.symm⟩
      | succ i => simp at h
    refine ⟨[.bool false], NoF, fun b h => h.elim, ⟨rfl, fun i o u g h1 h2 h3 hg => ?_, fun i u h => ?_, fun i o u h1 h2 => ?_, fun i j oi oj ui uj g hne h1 h2 => ?_⟩, ?_, .inl rfl, Below.refl _ _⟩
    · obtain ⟨_, rfl⟩ := one h3
      cases hg
    · obtain ⟨_, rfl⟩ := one h
      rfl
    · obtain ⟨_, rfl⟩ := one h1
      obtain ⟨_, rfl⟩ := one h2
      exact ⟨rfl, rfl⟩
    · exact absurd ((one h1).1.trans (one h2).1.symm) hne
    simp only [Array.toList_append, Array.toList_replicate, List.size_toArray, hlen]
    refine (RelL.lift hvs).append ?_
    generalize fn.ntmps - args.length = n
    induction n with
    | zero => exact RelL.nil
    | succ n ih => exact RelL.cons (by simp [Rel]) ih
  refine wpIn_mono ((h w.heap.size).out Z0 w _ w hS) ?_
  have fin : ∀ (st' : St) (a' : Act) (w' : World) res, Φ w.heap.size res → resB P fn st' = some res → Sim Z0 w st' a' w' → LeavesInM Fence.wide 0 P fn a'.tmps (fun e w'' => ∃ res v' bs F', Φ w.heap.size res ∧ e = .returned v' ∧ (∀ b, F' b → w.heap.size ≤ b ∧ b < w''.heap.size) ∧ RF w'' (Zone Z0 F' w.heap.size) w.heap.size res v' bs ∧ bs.Nodup ∧ (∀ b ∈ bs, ¬ F' b) ∧ Below w.heap.size w w'') a'.defers .returning w' := by
    rintro st' a' w' res hΦ hr ⟨μ, F, hFb, hH, hF, hd, hbel⟩
    unfold resB at hr
    split at hr
    · rename_i b hb0
      split at hr
      · rename_i hnm
        have hr := resOf_parts hr
        rw [hd.none hnm]
        obtain ⟨x, bs, h1, h2, h3, h4⟩ := resOf_run (st := ⟨st'.fr, st'.hp.set 0 .dead⟩) (hH.bury 0) hF hr.1
        have hge := RF.ge h2
        refine ⟨x, h1, res, x, bs, F, hΦ, rfl, hFb, h2, h3, fun b hb hf => ?_, hbel⟩
        have := hge b hb
        exact (h4 b hb).elim (fun h => absurd h.1 (by omega)) (fun h => h.2 hf)
      · cases hr
    · cases hr
  rintro e a' w' ⟨st', ⟨hq, res, hΦ, hr⟩, hS'⟩
  rcases hq with rfl | rfl
  · exact fin st' a' w' res hΦ hr hS'
  · exact fin st' a' w' res hΦ hr hS'

/-! ### Results that lead into new blocks alone -/
mutual
def ClosedN (b : Nat) : AV → Prop
  | .nam v _ _ _ cs => closedL cs = true ∧ ∀ g, blk v = some g → b ≤ g
  | .own _ _ _ cs => ClosedNL b cs
  | .agg cs => ClosedNL b cs
  | .tup cs => ClosedNL b cs
  | .int _ _ => True
  | .bool _ => True
  | .str _ => True
  | .nil => True
  | .top => True
  | .lst _ _ _ => False
  | .clp _ _ _ => False
  | .rptr _ => False
  | .fn _ _ => False
  | .ref _ => False
  | .ptr _ _ => False
def ClosedNL (b : Nat) : List AV → Prop
  | [] => True
  | c :: cs => ClosedN b c ∧ ClosedNL b cs
end

theorem closedNL_iff {b : Nat} : ∀ {cs : List AV}, ClosedNL b cs ↔ ∀ c ∈ cs, ClosedN b c
  | [] => by simp [ClosedNL]
  | c :: cs => by rw [ClosedNL, closedNL_iff]; simp

mutual
theorem Rel.shutN {w : World} {Z Z' : Nat → Prop} {b : Nat} (hz : ∀ g, b ≤ g → ¬ Z g → ¬ Z' g) : ∀ {c : AV} {v : Value}, ClosedN b c → Rel w Z [] c v → Rel w Z' [] c v
  | .nam u o s n cs, v, hc, h => by
    simp only [Rel] at h ⊢
    simp only [ClosedN] at hc
    obtain ⟨⟨rfl, h00⟩, A, c, xs, h1, h2, h3, h4, h5⟩ := h
    refine ⟨⟨rfl, fun e he => ?_⟩, A, c, xs, h1, h2, h3, fun hx => ?_, RelL.shut hc.1 h5⟩
    · obtain ⟨ys, k1, k2⟩ := h00 e he
      exact ⟨ys, k1, fun g hg => hz g (hc.2 g hg) (k2 g hg)⟩
    · obtain ⟨ad, rfl, k1, k2⟩ := h4 hx
      exact ⟨ad, rfl, hz _ (hc.2 _ (by rw [h1]; rfl)) k1, k2⟩
  | .agg cs, v, hc, h => by
    simp only [Rel] at h ⊢
    simp only [ClosedN] at hc
    obtain ⟨xs, h1, h2⟩ := h
    exact ⟨xs, h1, RelL.shutN hz hc h2⟩
  | .tup cs, v, hc, h => by
    simp only [Rel] at h ⊢
    simp only [ClosedN] at hc
    obtain ⟨xs, h1, h2⟩ := h
    exact ⟨xs, h1, RelL.shutN hz hc h2⟩
  | .int _ _, _, _, h => by simpa [Rel] using h
  | .bool _, _, _, h => by simpa [Rel] using h
  | .str _, _, _, h => by simpa [Rel] using h
  | .nil, _, _, h => by simpa [Rel] using h
  | .top, _, _, h => by simp [Rel]
  | .own _ _ _ _, _, _, h => by simp [Rel] at h
  | .lst _ _ _, _, hc, _ => by simp [ClosedN] at hc
  | .clp _ _ _, _, hc, _ => by simp [ClosedN] at hc
  | .rptr _, _, hc, _ => by simp [ClosedN] at hc
  | .fn _ _, _, hc, _ => by simp [ClosedN] at hc
  | .ref _, _, hc, _ => by simp [ClosedN] at hc
  | .ptr _ _, _, hc, _ => by simp [ClosedN] at hc
theorem RelL.shutN {w : World} {Z Z' : Nat → Prop} {b : Nat} (hz : ∀ g, b ≤ g → ¬ Z g → ¬ Z' g) : ∀ {cs : List AV} {vs : List Value}, ClosedNL b cs → RelL w Z [] cs vs → RelL w Z' [] cs vs
  | [], _, _, h => by simpa [RelL] using h
  | c :: cs, _, hc, h => by
    simp only [RelL] at h ⊢
    simp only [ClosedNL] at hc
    obtain ⟨x, xs, h1, h2, h3⟩ := h
    exact ⟨x, xs, h1, Rel.shutN hz hc.1 h2, RelL.shutN hz hc.2 h3⟩
end

mutual
theorem RF.shutN {w : World} {Z Z' : Nat → Prop} {b B' : Nat} (hB : B' ≤ b) (hz : ∀ g, b ≤ g → ¬ Z g → ¬ Z' g) : ∀ {c : AV} {v : Value} {bs : List Nat}, ClosedN b c → RF w Z b c v bs → RF w Z' B' c v bs
  | .own e s n cs, v, bs, hc, h => by
    simp only [RF] at h ⊢
    simp only [ClosedN] at hc
    obtain ⟨xs, h1, h2, h3⟩ := h
    exact ⟨xs, ownsRow_from h1 (fun g hg => by
      rcases h1.2 with ⟨rfl, _⟩ | ⟨g', cap, cur, rfl, k1, _⟩
      · cases hg
      · cases hg; exact Nat.le_trans hB k1), RelL.shutN hz hc h2, h3⟩
  | .agg cs, v, bs, hc, h => by
    simp only [RF] at h ⊢
    simp only [ClosedN] at hc
    obtain ⟨xs, h1, h2⟩ := h
    exact ⟨xs, h1, RFL.shutN hB hz hc h2⟩
  | .tup cs, v, bs, hc, h => by
    simp only [RF] at h ⊢
    simp only [ClosedN] at hc
    obtain ⟨xs, h1, h2⟩ := h
    exact ⟨xs, h1, RFL.shutN hB hz hc h2⟩
  | .nam u o s n cs, v, bs, hc, h => by
    simp only [RF] at h ⊢
    exact ⟨Rel.shutN hz hc h.1, h.2⟩
  | .int _ _, _, _, _, h => by simpa [RF] using h
  | .bool _, _, _, _, h => by simpa [RF] using h
  | .str _, _, _, _, h => by simpa [RF] using h
  | .nil, _, _, _, h => by simpa [RF] using h
  | .top, _, _, _, h => by simpa [RF] using h
  | .lst _ _ _, _, _, hc, _ => by simp [ClosedN] at hc
  | .clp _ _ _, _, _, hc, _ => by simp [ClosedN] at hc
  | .rptr _, _, _, hc, _ => by simp [ClosedN] at hc
  | .fn _ _, _, _, hc, _ => by simp [ClosedN] at hc
  | .ref _, _, _, hc, _ => by simp [ClosedN] at hc
  | .ptr _ _, _, _, hc, _ => by simp [ClosedN] at hc
theorem RFL.shutN {w : World} {Z Z' : Nat → Prop} {b B' : Nat} (hB : B' ≤ b) (hz : ∀ g, b ≤ g → ¬ Z g → ¬ Z' g) : ∀ {cs : List AV} {vs : List Value} {bs : List Nat}, ClosedNL b cs → RFL w Z b cs vs bs → RFL w Z' B' cs vs bs
  | [], _, _, _, h => by simpa [RFL] using h
  | c :: cs, _, _, hc, h => by
    simp only [RFL] at h ⊢
    simp only [ClosedNL] at hc
    obtain ⟨x, xs, b1, b2, h1, h2, h3, h4⟩ := h
    exact ⟨x, xs, b1, b2, h1, RF.shutN hB hz hc.1 h2, RFL.shutN hB hz hc.2 h3, h4⟩
end

theorem OpsQ.callE {rd : Option Nat} {P : Program} {all : Array Oper} {o : Oper} {l : List Oper} {fr : List AV} {hp : List AObj} {R : Exit → St → Prop} {c : Operand} {args : Array Operand} {tys : Array TypeId} {f : FuncId} {caps avs : List AV} {Φ : Nat → AV → Prop} (hw : WantedA all o fr)
    (hop : o.op = .call { callee := .value c, args := args, argTypes := tys }) (hc : ev fr c = .fn f caps) (hs : SnapL hp (args.toList.map (ev fr) ++ caps) avs) (hcall : CallE P f avs Φ) (hcl : ∀ b r, Φ b r → ClosedN b r) (hnm : noMark hp = true)
    (h' : ∀ b1, (∀ (k b : Nat), hp[k]? = some (.inert (.base b)) → b ≤ b1) → (∀ u, InS u ⟨fr, hp⟩ → ∀ g, blk u = some g → g < b1) → ∀ res, Φ b1 res → OpsQ rd P all l ⟨putF fr o.dst (imp hp.length res).1, hp ++ (imp hp.length res).2⟩ R) : OpsQ rd P all (o :: l) ⟨fr, hp⟩ R := by
  intro Z0 w0 a w hS
  refine wpListIn_step fun K hK => ?_
  obtain ⟨μ, F, hFb, hH, hF, hd, hb⟩ := hS
  rw [wanted_rel hF hw, if_pos rfl]
  have hB : w0.heap.size ≤ w.heap.size := hb.size
  have hE : ∀ y, Rel w (Zone Z0 F w0.heap.size) μ (ev fr y) (a.eval y) := fun y => ev_rel hF y
  have hcv := hc ▸ hE c
  simp only [Rel] at hcv
  obtain ⟨cv, hcv, hrc⟩ := hcv
  have hargs' : RelL w (Zone Z0 F w0.heap.size) μ (args.toList.map (ev fr)) (args.toList.map a.eval) := by
    generalize args.toList = l
    induction l with
    | nil => exact RelL.nil
    | cons x l ih => exact RelL.cons (hE x) ih
  have hall : RelL w (Zone (fun _ => False) NoF w.heap.size) [] avs (args.toList.map a.eval ++ cv) := RelL.weak (fun b hb hz hz2 => hz2.elim (fun h => h.2) (fun h => hz h.1)) (SnapL.sound hH hs (hargs'.append hrc))
  obtain ⟨hen, hcall⟩ := hcall
  have hC := hcall (fun _ => False) w _ hall
  have hrun : (execOp a.eval o).run P w = .ok (.enter f (args.toList.map a.eval ++ cv).toArray) w := by
    have e1 : (args.map a.eval ++ cv.toArray) = (args.toList.map a.eval ++ cv).toArray := by
      apply Array.toList_inj.1; simp
    simp only [execOp, hop, resolve, Deferred.ofValue, hcv, Sem.run_bind, Sem.run_pure, Result.andThen_ok, invoke, Array.empty_append]
    rw [e1]
    exact hen _ _
  refine wpIn_of_run (fun c' => by rw [hop]; simp) ?_
  rw [hrun]
  refine upon_enter hC ?_
  rintro en w' ⟨res, x, bs, F', hΦ, rfl, hF', hrf, hnd, hbf, hbel⟩
  have hrf2 : RF w' (Zone Z0 (fun b => F b ∨ F' b) w0.heap.size) w0.heap.size res x bs := RF.shutN hB (fun g hg hz hzz => hzz.elim (fun h => by omega) (fun h => h.2 (.inr (Classical.byContradiction fun hf => hz (.inr ⟨hg, hf⟩))))) (hcl _ _ hΦ) hrf
  obtain ⟨μs, ht, hr⟩ := imp_sound μ hp.length hH.len hrf2
  have hzo : ∀ b, b < w.heap.size → ¬ Zone Z0 F w0.heap.size b → ¬ Zone Z0 (fun b => F b ∨ F' b) w0.heap.size b := fun b _ hz => zone_more b hz
  refine ⟨x, rfl, hK _ _ (h' w.heap.size (fun k b hk => ?_) (fun u hu g hg => (InS.of hH hF hg hu).1) res hΦ Z0 w0 _ _ ⟨μ ++ μs, fun b => F b ∨ F' b, fun b hb => hb.elim (fun h => ⟨(hFb b h).1, Nat.lt_of_lt_of_le (hFb b h).2 hbel.size⟩) (fun h => ⟨Nat.le_trans hB (hF' b h).1, (hF' b h).2⟩), ?_, ?_, ?_, ?_⟩)⟩
  · have hkl : k < μ.length := by rw [hH.len]; exact (List.getElem?_eq_some_iff.1 hk).1
    have h1 := hH.obj k _ _ hk (List.getElem?_eq_getElem hkl)
    obtain ⟨_, rfl⟩ := h1
    exact hB
  · refine HRel.extend (bs := bs) (hH.weak hzo (fun b hb hz => ?_)) hbel ht (fun g hg => RF.ge hrf g hg) (fun g hg => ?_) hnd
    · exact hz.elim .inl (fun h2 => .inr ⟨h2.1, fun hf => hf.elim h2.2 (fun h3 => absurd (hF' b h3).1 (by omega))⟩)
    · have := RF.ge hrf g hg
      exact .inr ⟨by omega, fun hf => hf.elim (fun h3 => absurd (hFb g h3).2 (by omega)) (hbf g hg)⟩
  · refine put_rel (RelL.keep (fun b h1 h2 => hbel.block b h1) (fun i u h => append_old i u h) (RelL.weak hzo hF)) _ hr
  · rw [put_defers']
    exact .inl (hd.none hnm)
  · exact hb.trans (hbel.mono hB)

section
variable {rd : Option Nat} {P : Program} {m : M} {Q : Exit → St → Prop}
theorem R.callE {f : FuncId} {avs0 avs : List AV} {Φ : Nat → AV → Prop} (hc : CallE P f avs Φ) (h : csAt m = some (f, avs0)) (hs : SnapL m.st.hp avs0 avs) (hcl : ∀ b r, Φ b r → ClosedN b r) (ht : opsHd m = true)
    (h' : ∀ b1, (∀ (k b : Nat), m.st.hp[k]? = some (.inert (.base b)) → b ≤ b1) → (∀ u, InS u m.st → ∀ g, blk u = some g → g < b1) → ∀ res, Φ b1 res → Runs rd P (putM m none (imp m.st.hp.length res).1 (m.st.hp ++ (imp m.st.hp.length res).2)) Q) : Runs rd P m Q := by
  have hnm := csAt_mark h
  obtain ⟨fo, args, tys, caps, hop, hf, rfl⟩ := csAt_parts h
  obtain ⟨ks, ⟨fr, hp⟩⟩ := m
  unfold opM headOf at hop
  unfold opsHd at ht
  unfold putM at h'
  simp only [runs_iff] at h' ⊢
  try simp only at hop ht h' hf hs hnm ⊢
  split at hop
  · rename_i all o fl t heq
    split at hop
    · rename_i hw
      simp only [Option.some.injEq] at hop
      split at heq
      · cases heq
        intro hW
        exact OpsQ.callE (wantH_true hw hW) hop hf hs hc hcl hnm fun b1 h1 h2 res hΦ => h' b1 h1 h2 res hΦ headW_false
      · simp at ht
      · cases heq
    · cases hop
  · cases hop

theorem R.callW {f : FuncId} {avs0 avs : List AV} {res : AV} (hc : CallA P f avs res) (h : csAt m = some (f, avs0)) (hs : SnapL m.st.hp avs0 avs) (hr : res.closed = true) (ht : quietOk m (imp m.st.hp.length res).2 = true)
    (h' : Runs rd P (putM m none (imp m.st.hp.length res).1 (m.st.hp ++ (imp m.st.hp.length res).2)) Q) : Runs rd P m Q := by
  obtain ⟨fo, args, tys, caps, hop, hf, rfl⟩ := csAt_parts h
  exact R.effM hop (.inr (.snap f caps avs res hf hs hc hr)) ht h'
end

end Go.Abs


/-! Rows of named rows; the rules for them; loops of few rounds. -/
namespace Go.Abs
open Go.RowKit

section
variable {α : Type} {E : α → List AV} {el s b : Nat} {L : List (Value × List α)} {v : Value}

/-- A row of one's own, named: its elements' type el, s cells each. -/
def eV (E : α → List AV) (el s : Nat) (x : Value × List α) : List AV := [.nam x.1 (some el) s x.2.length (rows E x.2)]
theorem eV_len (x : Value × List α) : (eV E el s x).length = 1 := rfl
theorem eV_one (x : Value × List α) : (eV E el s x).all AV.one = true := rfl

theorem rowsV_length : ∀ L : List (Value × List α), (rows (eV E el s) L).length = L.length
  | [] => rfl
  | x :: L => by simp [rows, eV, rowsV_length L]
theorem rowsV_get : ∀ (L : List (Value × List α)) (i : Nat) (d : Value × List α), i < L.length → (rows (eV E el s) L)[i]? = some (.nam (L.getD i d).1 (some el) s (L.getD i d).2.length (rows E (L.getD i d).2))
  | [], i, d, h => by simp at h
  | x :: L, 0, d, h => rfl
  | x :: L, i + 1, d, h => by
    have := rowsV_get L i d (by simpa using h)
    simpa [rows, eV] using this
theorem rowsV_set : ∀ (L : List (Value × List α)) (i : Nat) (x : Value × List α), (rows (eV E el s) L).set i (.nam x.1 (some el) s x.2.length (rows E x.2)) = rows (eV E el s) (L.set i x)
  | [], i, x => rfl
  | y :: L, 0, x => rfl
  | y :: L, i + 1, x => by
    have := rowsV_set L i x
    simp [rows, eV] at this ⊢
    exact this
theorem rowsV_mem {c : AV} : ∀ {L : List (Value × List α)}, c ∈ rows (eV E el s) L → ∃ x ∈ L, c = .nam x.1 (some el) s x.2.length (rows E x.2)
  | [], h => by simp [rows] at h
  | x :: L, h => by
    simp only [rows, eV, List.singleton_append, List.mem_cons] at h
    rcases h with h | h
    · exact ⟨x, List.mem_cons_self .., h⟩
    · obtain ⟨y, hy, e⟩ := rowsV_mem h
      exact ⟨y, List.mem_cons_of_mem _ hy, e⟩
theorem rowsV_in {x : Value × List α} : ∀ {L : List (Value × List α)}, x ∈ L → .nam x.1 (some el) s x.2.length (rows E x.2) ∈ rows (eV E el s) L
  | [], h => by simp at h
  | y :: L, h => by
    simp only [rows, eV, List.singleton_append, List.mem_cons]
    rcases List.mem_cons.1 h with rfl | h
    · exact .inl rfl
    · exact .inr (rowsV_in h)

/-- The names are of blocks of their own, from b on. -/
structure NL (b : Nat) (L : List (Value × List α)) : Prop where
  nd : (L.filterMap fun x => blk x.1).Nodup
  ge : ∀ x ∈ L, ∀ g, blk x.1 = some g → b ≤ g

theorem NL.nil : NL b ([] : List (Value × List α)) := ⟨List.nodup_nil, fun x h => by simp at h⟩
theorem NL.mono {b' : Nat} (h : NL b L) (hb : b' ≤ b) : NL b' L := ⟨h.nd, fun x hx g hg => Nat.le_trans hb (h.ge x hx g hg)⟩
theorem NL.snoc {x : List α} (h : NL b L) (hv : ∀ u ∈ L, ∀ g, blk v = some g → blk u.1 ≠ some g) (hb : ∀ g, blk v = some g → b ≤ g) : NL b (L ++ [(v, x)]) := by
  refine ⟨?_, fun y hy g hg => ?_⟩
  · rw [List.filterMap_append, List.nodup_append]
    refine ⟨h.nd, ?_, fun a ha c hc => ?_⟩
    · cases hbv : blk v <;> simp [List.filterMap, hbv]
    · rintro rfl
      obtain ⟨u, hu, e⟩ := List.mem_filterMap.1 ha
      have : blk v = some a := by
        cases hbv : blk v <;> simp [List.filterMap, hbv] at hc
        rw [hc]
      exact hv u hu a this e
  · rcases List.mem_append.1 hy with hy | hy
    · exact h.ge y hy g hg
    · simp at hy
      subst hy
      exact hb g hg
theorem NL.snoc2 {v' : Value} {x x' : List α} (h : NL b L) (hv : ∀ u ∈ L, ∀ g, blk v = some g → blk u.1 ≠ some g) (hb : ∀ g, blk v = some g → b ≤ g) (hv' : ∀ u ∈ L, ∀ g, blk v' = some g → blk u.1 ≠ some g) (hb' : ∀ g, blk v' = some g → b ≤ g)
    (hvv : ∀ g, blk v' = some g → blk v ≠ some g) : NL b (L ++ [(v, x), (v', x')]) := by
  rw [show L ++ [(v, x), (v', x')] = (L ++ [(v, x)]) ++ [(v', x')] by simp]
  refine (h.snoc hv hb).snoc (fun u hu => ?_) hb'
  rcases List.mem_append.1 hu with hu | hu
  · exact hv' u hu
  · simp at hu
    subst hu
    exact hvv
theorem NL.set (h : NL b L) (i : Nat) (d : Value × List α) (ys : List α) (hi : i < L.length) : NL b (L.set i ((L.getD i d).1, ys)) := by
  have e : (L.set i ((L.getD i d).1, ys)).map (fun x => x.1) = L.map fun x => x.1 := by
    apply List.ext_getElem?
    intro k
    simp only [List.getElem?_map, List.getElem?_set]
    split
    · rename_i hk
      subst hk
      simp [hi, List.getD_eq_getElem?_getD]
    · rfl
  have e2 : ∀ M : List (Value × List α), (M.filterMap fun x => blk x.1) = (M.map fun x => x.1).filterMap blk := fun M => by rw [List.filterMap_map]; rfl
  refine ⟨by rw [e2, e, ← e2]; exact h.nd, fun x hx g hg => ?_⟩
  have : x.1 ∈ L.map fun x => x.1 := by rw [← e]; exact List.mem_map_of_mem hx
  obtain ⟨y, hy, e3⟩ := List.mem_map.1 this
  exact h.ge y hy g (by rw [e3]; exact hg)

theorem newN_row {st : St} (h : NewN st v) (j : Nat) {e n : Nat} (L : List (Value × List α)) (hj : st.hp[j]? = some (.list e 1 n (rows (eV E el s) L))) : ∀ u ∈ L, ∀ g, blk v = some g → blk u.1 ≠ some g := fun u hu =>
  h.1 u.1 (.inr ⟨j, _, hj, inNL_iff.2 ⟨_, rowsV_in hu, by simp only [InN]; exact .inl ⟨trivial, .inr (by simp)⟩⟩⟩)
theorem newN_slot {st : St} (h : NewN st v) (t : Nat) {u : Value} {e s n : Nat} {cs : List AV} (ht : st.fr[t]? = some (.nam u (some e) s n cs)) : ∀ g, blk v = some g → blk u ≠ some g :=
  h.1 u (.inl (inNL_iff.2 ⟨_, List.mem_of_getElem? ht, by simp only [InN]; exact .inl ⟨trivial, .inr (by simp)⟩⟩))
theorem newN_base {st : St} (h : NewN st v) (k : Nat) {b : Nat} (hk : st.hp[k]? = some (.inert (.base b))) : ∀ g, blk v = some g → b ≤ g := h.2 k b hk

theorem inS_slot {st : St} {u : Value} (t : Nat) {c : AV} (ht : st.fr[t]? = some c) (hu : InN u c) : InS u st := .inl (inNL_iff.2 ⟨c, List.mem_of_getElem? ht, hu⟩)
theorem closedN_rows (hL : NL b L) (hE : ∀ x, closedL (E x) = true) : ClosedNL b (rows (eV E el s) L) := by
  rw [closedNL_iff]
  intro c hc
  obtain ⟨x, hx, rfl⟩ := rowsV_mem hc
  exact ⟨closedL_rows hE _, hL.ge x hx⟩
theorem closedN_own (e : Nat) (hL : NL b L) (hE : ∀ x, closedL (E x) = true) : ClosedN b (ownA (eV E el s) e 1 L) := by
  simp only [ownA, ClosedN]
  exact closedN_rows hL hE

theorem fgtV_rows {E' : List α → List AV} (hE : ∀ x, E' x = [.lst s x.length (rows E x)]) (w : World) (Z : Nat → Prop) : ∀ (L : List (Value × List α)) (xs : List Value), RelL w Z [] (rows (eV E el s) L) xs → RelL w Z [] (rows E' (L.map Prod.snd)) xs
  | [], xs, h => h
  | x :: L, xs, h => by
    simp only [rows, eV, List.singleton_append, List.map_cons, hE] at h ⊢
    simp only [RelL] at h ⊢
    obtain ⟨y, ys, rfl, h1, h2⟩ := h
    refine ⟨y, ys, rfl, ?_, fgtV_rows hE w Z L ys h2⟩
    simp only [Rel] at h1 ⊢
    exact h1.2
theorem fgtV {E' : List α → List AV} (hE : ∀ x, E' x = [.lst s x.length (rows E x)]) (L : List (Value × List α)) : ∀ (w : World) (Z : Nat → Prop) u, Rel w Z [] (.lst 1 L.length (rows (eV E el s) L)) u → Rel w Z [] (.lst 1 (L.map Prod.snd).length (rows E' (L.map Prod.snd))) u := by
  intro w Z u h
  simp only [Rel] at h ⊢
  obtain ⟨A, c, xs, h1, h2, h3, h4, h5⟩ := h
  have h6 := fgtV_rows hE w Z L xs h5
  refine ⟨A, c, xs, by rw [List.length_map]; exact h1, ?_, by rw [List.length_map]; exact h3, h4, h6⟩
  rw [← h6.length, h5.length, h2, List.length_map]
theorem NL.at (h : NL b L) (d : Value × List α) {i : Nat} (hi : i < L.length) : ∀ g, blk (L.getD i d).1 = some g → b ≤ g :=
  h.ge _ (List.mem_of_getElem? (i := i) (by simp [List.getD_eq_getElem?_getD, List.getElem?_eq_getElem hi]))

theorem closedN_int {k : IntKind} {n : Int} : ClosedN b (.int k n) := trivial
theorem closedN_tup {cs : List AV} (h : ClosedNL b cs) : ClosedN b (.tup cs) := by simpa [ClosedN] using h
theorem closedNL_nil : ClosedNL b [] := trivial
theorem closedNL_cons {c : AV} {cs : List AV} (h : ClosedN b c) (h' : ClosedNL b cs) : ClosedNL b (c :: cs) := ⟨h, h'⟩
theorem nameableL_rows (h : ∀ x, nameableL (E x) = true) : ∀ xs : List α, nameableL (rows E xs) = true
  | [] => rfl
  | x :: xs => by
    have key : ∀ (a b : List AV), nameableL a = true → nameableL b = true → nameableL (a ++ b) = true := by
      intro a b ha hb
      induction a with
      | nil => exact hb
      | cons c a ih =>
        simp only [nameableL, Bool.and_eq_true, List.cons_append] at ha ⊢
        exact ⟨ha.1, ih ha.2⟩
    exact key _ _ (h x) (nameableL_rows h xs)

/-! ### What is safe -/
mutual
theorem closed_safe : ∀ {c : AV}, c.closed = true → Safe v c
  | .int _ _, _ => safe_int
  | .bool _, _ => safe_bool
  | .str _, _ => ⟨rfl, fun u h => by simp [InN] at h⟩
  | .nil, _ => safe_nil
  | .top, _ => safe_top
  | .own _ _ _ _, _ => ⟨rfl, fun u h => by simp [InN] at h⟩
  | .agg cs, h => safe_agg (closedL_safe (by simpa [AV.closed] using h))
  | .tup cs, h => safe_tup (closedL_safe (by simpa [AV.closed] using h))
  | .lst _ _ _, h => by simp [AV.closed] at h
  | .clp _ _ _, h => by simp [AV.closed] at h
  | .nam _ _ _ _ _, h => by simp [AV.closed] at h
  | .rptr _, h => by simp [AV.closed] at h
  | .ref _, h => by simp [AV.closed] at h
  | .ptr _ _, h => by simp [AV.closed] at h
  | .fn _ _, h => by simp [AV.closed] at h
theorem closedL_safe : ∀ {cs : List AV}, closedL cs = true → SafeL v cs
  | [], _ => safeL_nil
  | c :: cs, h => by
    simp only [closedL, Bool.and_eq_true] at h
    exact safeL_cons.2 ⟨closed_safe h.1, closedL_safe h.2⟩
end

theorem safe_rows (hE : ∀ x, closedL (E x) = true) (xs : List α) : SafeL v (rows E xs) := closedL_safe (closedL_rows hE xs)
theorem safe_slot : ∀ {l : List (Nat × AV)} (i : Nat), (∀ x ∈ l, Safe v x.2) → Safe v (slotA i l)
  | [], _, _ => safe_top
  | (j, c) :: l, i, h => by
    simp only [slotA]
    split
    · exact h _ (List.mem_cons_self ..)
    · exact safe_slot i fun x hx => h x (List.mem_cons_of_mem _ hx)
theorem safe_frmA {l : List (Nat × AV)} (h : ∀ x ∈ l, Safe v x.2) : ∀ n i : Nat, SafeL v (frmA n i l)
  | 0, _ => safeL_nil
  | n + 1, i => safeL_cons.2 ⟨safe_slot i h, safe_frmA h n (i + 1)⟩
theorem safe_frm {l : List (Nat × AV)} {n : Nat} (h : ∀ x ∈ l, Safe v x.2) : SafeL v (frm n l) := safe_frmA h n 0

/-- What is read by names that stood below b. -/
theorem safe_old {c' c : AV} (h : ByN c' c) {b : Nat} (hs : ∀ u, InN u c' → ∀ g, blk u = some g → g < b) (hv : ∀ g, blk v = some g → b ≤ g) : Safe v c' :=
  ⟨h.raw, fun u hu g hg hg' => by
    have h1 := hs u hu g hg'
    have h2 := hv g hg
    omega⟩

theorem NL.ne (h : NL b L) {i k : Nat} (d : Value × List α) (hi : i < L.length) (hk : k < L.length) (hik : k ≠ i) : ∀ g, blk (L.getD i d).1 = some g → blk (L.getD k d).1 ≠ some g := by
  intro g h1 h2
  have key : ∀ {M : List (Value × List α)} {p q : Nat} {x y : Value × List α}, (M.filterMap fun x => blk x.1).Nodup → p < q → M[p]? = some x → M[q]? = some y → blk x.1 = some g → blk y.1 = some g → False := by
    intro M
    induction M with
    | nil => intro p q x y _ _ h1; simp at h1
    | cons z M ih =>
      intro p q x y hn hpq h1 h2 h3 h4
      cases q with
      | zero => omega
      | succ q =>
        rw [List.getElem?_cons_succ] at h2
        have hm : g ∈ M.filterMap fun x => blk x.1 := List.mem_filterMap.2 ⟨y, List.mem_of_getElem? h2, h4⟩
        cases p with
        | zero =>
          simp at h1
          subst h1
          rw [List.filterMap_cons, h3] at hn
          exact (List.nodup_cons.1 hn).1 hm
        | succ p =>
          rw [List.getElem?_cons_succ] at h1
          refine ih ?_ (by omega) h1 h2 h3 h4
          rw [List.filterMap_cons] at hn
          split at hn
          · exact hn
          · exact (List.nodup_cons.1 hn).2
  have gi : L[i]? = some (L.getD i d) := by simp [List.getD_eq_getElem?_getD, List.getElem?_eq_getElem hi]
  have gk : L[k]? = some (L.getD k d) := by simp [List.getD_eq_getElem?_getD, List.getElem?_eq_getElem hk]
  rcases Nat.lt_or_ge i k with h | h
  · exact key ‹NL b L›.nd h gi gk h1 h2
  · exact key ‹NL b L›.nd (by omega) gk gi h2 h1
end

section
variable {rd : Option Nat} {P : Program} {m : M} {Q : Exit → St → Prop} {α : Type}

theorem R.keepS (ks : List Nat) (h : subOk m = true) (h' : Runs rd P ⟨m.ks, ⟨keepF ks m.st.fr, m.st.hp⟩⟩ Q) : Runs rd P m Q := R.sub _ h (Sub.keep ks m.st) h'

def weakRow (E : α → List AV) (el s el1 : Nat) (L : List (Value × List α)) (i : Nat) (d : Value × List α) : AObj := .list el1 1 L.length ((rows (eV E el s) L).set i (weakN (L.getD i d).1 (L.getD i d).2.length))

theorem R.thawV (E : α → List AV) (el s el1 : Nat) (L : List (Value × List α)) (i : Nat) (d : Value × List α) (j t k b : Nat) (fr' : List AV) (hp' : List AObj) (h : subOk m = true) (hj : m.st.hp[j]? = some (rowA (eV E el s) el1 1 L)) (hi : i < L.length) (hL : NL b L) (hE : ∀ x, closedL (E x) = true)
    (ht : m.st.fr[t]? = some (.nam (L.getD i d).1 (some el) s (L.getD i d).2.length (rows E (L.getD i d).2))) (hk : m.st.hp[k]? = some (.inert (.base b))) (hf : m.st.fr.set t .top = fr') (hh : m.st.hp.set j .dead = hp') (hfr : SafeL (L.getD i d).1 fr') (hoth : ∀ o ∈ hp', SafeO (L.getD i d).1 o)
    (h' : Runs rd P ⟨m.ks, ⟨m.st.fr.set t (.ref m.st.hp.length), m.st.hp.set j (weakRow E el s el1 L i d) ++ [rowA E el s (L.getD i d).2, .frame [(L.getD i d).1] [.ref m.st.hp.length]]⟩⟩ Q) : Runs rd P m Q := by
  subst hf hh
  refine R.thaw j i t k el s (L.getD i d).2.length el1 1 L.length b (L.getD i d).1 (rows E (L.getD i d).2) (rows (eV E el s) L) h hj (rowsV_get L i d hi) ht (closedL_rows hE _) hk (hL.ge _ ?_) hfr (fun q c hq hne => ?_) hoth h'
  · exact List.mem_of_getElem? (i := i) (by simp [List.getD_eq_getElem?_getD, List.getElem?_eq_getElem hi])
  · have hql : q < L.length := by
      have := (List.getElem?_eq_some_iff.1 hq).1
      rwa [rowsV_length] at this
    rw [rowsV_get L q d hql] at hq
    cases hq
    exact safe_nam (safe_rows hE _) (hL.ne d hi hql hne)

theorem R.repinV (E : α → List AV) (el s el1 : Nat) (L : List (Value × List α)) (i : Nat) (d : Value × List α) (j k : Nat) (ys : List α) (h : subOk m = true) (hj : m.st.hp[j]? = some (weakRow E el s el1 L i d)) (hi : i < L.length) (hk : m.st.hp[k]? = some (rowA E el s ys)) (hk1 : m.st.hp[k + 1]? = some (.frame [(L.getD i d).1] [.ref k])) (hjk : (j != k) = true)
    (h' : Runs rd P ⟨m.ks, ⟨(frzS k (.nam (L.getD i d).1 (some el) s ys.length (rows E ys)) m.st).fr, ((frzS k (.nam (L.getD i d).1 (some el) s ys.length (rows E ys)) m.st).hp.set j (rowA (eV E el s) el1 1 (L.set i ((L.getD i d).1, ys)))).set (k + 1) .dead⟩⟩ Q) : Runs rd P m Q := by
  refine R.repin j i k el s ys.length el1 1 L.length (L.getD i d).2.length (L.getD i d).1 (rows E ys) _ h hj ?_ hk hk1 (by simpa using hjk) ?_
  · rw [List.getElem?_set_self (by rw [rowsV_length]; exact hi)]
  · unfold pinS
    rw [List.set_set]
    have e := rowsV_set (E := E) (el := el) (s := s) L i ((L.getD i d).1, ys)
    simp only at e
    rw [e]
    unfold rowA at h'
    rw [List.length_set] at h'
    exact h'

/-! ### Loops of few rounds -/
def lpC (m : M) : Code :=
  match m.ks with
  | .code (.loop c) :: _ => c
  | _ => .skip
def lpK (m : M) : List Kont :=
  match m.ks with
  | .code (.loop _) :: ks => ks
  | _ => []
def isLp (m : M) : Bool :=
  match m.ks with
  | .code (.loop _) :: _ => true
  | _ => false

def Again (rd : Option Nat) (P : Program) (c : Code) (ks : List Kont) (Q : Exit → St → Prop) : Nat → (St → Prop) → Prop
  | 0, _ => True
  | n + 1, R => ∀ st, (∀ R', Again rd P c ks Q n R' → Runs rd P ⟨.code c :: .stop R' :: ks, st⟩ Q) → R st

def RK (rd : Option Nat) (P : Program) (c : Code) (ks : List Kont) (Q : Exit → St → Prop) : Nat → St → Prop
  | 0, _ => False
  | n + 1, st => Runs rd P ⟨.code c :: .stop (RK rd P c ks Q n) :: ks, st⟩ Q

theorem again_RK {c : Code} {ks : List Kont} : ∀ n, Again rd P c ks Q n (RK rd P c ks Q n)
  | 0 => trivial
  | n + 1 => fun _ h => h _ (again_RK n)

theorem R.rounds (n : Nat) (h : isLp m = true) (h' : ∀ R, Again rd P (lpC m) (lpK m) Q n R → Runs rd P ⟨.code (lpC m) :: .stop R :: lpK m, m.st⟩ Q) : Runs rd P m Q := by
  obtain ⟨ks0, st⟩ := m
  have h2 := h' _ (again_RK n)
  unfold isLp at h
  unfold lpC lpK at h2
  simp only at h h2
  split at h
  · simp only at h2
    rw [runs_iff]
    simp only [RunsK]
    rename_i c ks
    refine RunA.loop (I := fun n st => RK rd P c ks Q n st) (n + 1) h2 (fun k st hk => ?_)
    cases k with
    | zero => exact hk.elim
    | succ k =>
      have h1 := hk.out
      simp only [RunsK] at h1
      refine h1.mono fun e st' hq => ?_
      cases e with
      | normal => exact ⟨st', Sub.refl _, k, Nat.lt_succ_self _, hq⟩
      | ret => exact hq
      | exit id => exact hq
      | goto l => exact hq
      | panic ch => exact hq
      | outgrown => exact hq
  · cases h

theorem R.stopA (R1 : St → Prop) {c : Code} {ks : List Kont} {n : Nat} {Q' : Exit → St → Prop} (h : spAt m = some R1) (hA : Again rd P c ks Q' (n + 1) R1) (h' : ∀ R', Again rd P c ks Q' n R' → Runs rd P ⟨.code c :: .stop R' :: ks, m.st⟩ Q') : Runs rd P m Q :=
  R.stop R1 h (hA m.st h')
end

theorem nameable_LI (xs : List Int) : nameable (LI xs) = true := by simp only [LI, nameable]; exact nameableL_rows (fun _ => rfl) xs
theorem nameable_LN (xs : List (Int × Int)) : nameable (LN xs) = true := by simp only [LN, nameable]; exact nameableL_rows (fun _ => rfl) xs
theorem nameable_LLN (xs : List (List (Int × Int))) : nameable (LLN xs) = true := by simp only [LLN, nameable]; exact nameableL_rows (fun x => by simp only [eLN, nameableL, nameable_LN, Bool.and_self]) xs
theorem nameLst_of {w : World} {Z : Nat → Prop} {s n : Nat} {cs : List AV} {v : Value} (hn : nameable (.lst s n cs) = true) (hr : Rel w Z [] (.lst s n cs) v) : ∃ u cs', ByN (.nam u none s n cs') (.lst s n cs) ∧ Rel w Z [] (.nam u none s n cs') v := by
  simp only [nameable] at hn
  simp only [Rel] at hr
  obtain ⟨A, c, xs, h1, h2, h3, h4, h5⟩ := hr
  obtain ⟨cs', ⟨k1, k2, k3⟩, k4⟩ := nameL_of hn h5
  refine ⟨v, cs', ⟨rfl, by simpa [NoRaw] using k2, fun w Z x hx => ?_⟩, ?_⟩
  · simp only [Rel] at hx ⊢
    obtain ⟨_, A, c, xs', e1, e2, e3, e4, e5⟩ := hx
    exact ⟨A, c, xs', e1, h2, e3, e4, k3 _ _ _ e5⟩
  · simp only [Rel]
    exact ⟨⟨trivial, fun e he => by cases he⟩, A, c, xs, h1, by rw [← k4.length, h5.length, h2], h3, h4, k4⟩

theorem set_same {α : Type} {l : List α} {t : Nat} {x : α} (h : l[t]? = some x) : l.set t x = l := by
  apply List.ext_getElem?
  intro i
  by_cases hi : i = t
  · subst hi; rw [List.getElem?_set_self (List.getElem?_eq_some_iff.1 h).1, h]
  · rw [List.getElem?_set_ne (Ne.symm hi)]

theorem SubE.nameS (t s n : Nat) (cs : List AV) (st : St) (ht : st.fr[t]? = some (.lst s n cs)) (hn : nameable (.lst s n cs) = true) : SubE st (fun p : Value × List AV => ⟨st.fr.set t (.nam p.1 none s n p.2), st.hp⟩) (fun p => ByN (.nam p.1 none s n p.2) (.lst s n cs)) := by
  rintro Z0 w0 a w ⟨μ, F, hFb, hH, hF, hd, hb⟩
  obtain ⟨x, hx, hr⟩ := hF.get ht
  obtain ⟨u, cs', h1, h2⟩ := nameLst_of hn (Rel.leafy rfl hr)
  refine ⟨(u, cs'), h1, μ, F, hFb, hH, ?_, hd, hb⟩
  have h3 := hF.set t h2.lift
  rwa [set_same hx] at h3

section
variable {rd : Option Nat} {P : Program} {m : M} {Q : Exit → St → Prop}
theorem R.nameS (t s n : Nat) (cs : List AV) (h : subOk m = true) (ht : m.st.fr[t]? = some (.lst s n cs)) (hn : nameable (.lst s n cs) = true) (h' : ∀ u cs', ByN (.nam u none s n cs') (.lst s n cs) → Runs rd P ⟨m.ks, ⟨m.st.fr.set t (.nam u none s n cs'), m.st.hp⟩⟩ Q) : Runs rd P m Q :=
  R.subE _ _ h (SubE.nameS t s n cs m.st ht hn) fun p hp => h' p.1 p.2 hp
end

/-- A poset given as an argument, its row read by names. -/
theorem CallA.nameP {P : Program} {f : FuncId} {x res : AV} {s n : Nat} {cs : List AV} (hen : Enters P f) (hn : nameable (.lst s n cs) = true) (h : ∀ u cs', ByN (.nam u none s n cs') (.lst s n cs) → CallA P f [.agg [x, .nam u none s n cs']] res) : CallA P f [.agg [x, .lst s n cs]] res := by
  refine ⟨hen, fun Z0 w vs hvs => ?_⟩
  simp only [RelL, Rel] at hvs
  obtain ⟨v, vs', rfl, ⟨xs, rfl, y, ys, rfl, hy, z, zs, rfl, hz, rfl⟩, rfl⟩ := hvs
  obtain ⟨u, cs', h1, h2⟩ := nameLst_of (w := w) (Z := Zone Z0 NoF w.heap.size) (v := z) hn (by simp only [Rel]; exact hz)
  exact (h u cs' h1).2 Z0 w _ (RelL.cons (by simp only [Rel]; exact ⟨_, rfl, RelL.cons hy (RelL.cons h2 RelL.nil)⟩) RelL.nil)

end Go.Abs


/-! The harness: rows of rows marked and held. -/
namespace Go.Proofs.YtalfakdiinhdnaaGreat
open Go.RowKit Go.Abs

theorem lenV {α : Type} {L : List (Value × List α)} {R : List (List α)} (h : L.map Prod.snd = R) : L.length = R.length := by rw [← h, List.length_map]
theorem getV {α : Type} {L : List (Value × List α)} (i : Nat) (hi : i < L.length) : (L.getD i (.bool false, [])).2 = (L.map Prod.snd).getD i [] := by
  simp [List.getD_eq_getElem?_getD, List.getElem?_eq_getElem hi]
theorem map2V {α : Type} {L : List (Value × List α)} {R : List (List α)} {v v' : Value} {x x' : List α} (h : L.map Prod.snd = R) : (L ++ [(v, x), (v', x')]).map Prod.snd = R ++ [x, x'] := by rw [← h]; simp
/-- The cells of the first rows, all told. -/
def lenG {α : Type} (l : List (List α)) : Nat → Nat
  | 0 => 0
  | i + 1 => lenG l i + (l.getD i []).length
theorem lenG_mono {α : Type} (l : List (List α)) {i j : Nat} (h : i ≤ j) : lenG l i ≤ lenG l j := by
  induction j with
  | zero => rw [Nat.le_zero.1 h]; exact Nat.le_refl _
  | succ j ih =>
    rcases Nat.lt_or_ge i (j + 1) with h1 | h1
    · exact Nat.le_trans (ih (by omega)) (Nat.le_add_right _ _)
    · rw [show i = j + 1 by omega]; exact Nat.le_refl _
theorem lenG_step {α : Type} (l : List (List α)) (i : Nat) (h : i < l.length) : lenG l i + (l.getD i []).length ≤ lenG l l.length := lenG_mono l (i := i + 1) h
theorem lenG_eq {α : Type} {l m : List (List α)} (h : ∀ j, (l.getD j []).length = (m.getD j []).length) : ∀ i, lenG l i = lenG m i
  | 0 => rfl
  | i + 1 => by rw [lenG, lenG, lenG_eq h i, h i]
/-- The first i rows of l marked from k on, c numbers a cell; mk tells a row's marks. -/
def MkG {α : Type} (mk : Nat → Int → List α) (c k : Int) (l : List (List α)) (LM : List (Value × List α)) (i : Nat) : Prop :=
  LM.length = l.length ∧ ∀ j, j < l.length → (LM.getD j (.bool false, [])).2 = if j < i then mk (l.getD j []).length (k + c * (lenG l j : Int)) else l.getD j []
theorem MkG.zero {α : Type} {mk : Nat → Int → List α} {c k : Int} {l : List (List α)} {L : List (Value × List α)} (h : L.map Prod.snd = l) : MkG mk c k l L 0 := by
  have hl := lenV h
  refine ⟨hl, fun j hj => ?_⟩
  rw [if_neg (by omega), getV j (by omega), h]
theorem MkG.now {α : Type} {mk : Nat → Int → List α} {c k : Int} {l : List (List α)} {LM : List (Value × List α)} {i : Nat} (h : MkG mk c k l LM i) (hi : i < l.length) : (LM.getD i (.bool false, [])).2 = l.getD i [] := by
  rw [h.2 i hi, if_neg (by omega)]
theorem MkG.set {α : Type} {mk : Nat → Int → List α} {c k : Int} {l : List (List α)} {LM : List (Value × List α)} {i : Nat} {v : Value} {ys : List α} (h : MkG mk c k l LM i) (hi : i < l.length) (hy : ys = mk (l.getD i []).length (k + c * (lenG l i : Int))) : MkG mk c k l (LM.set i (v, ys)) (i + 1) := by
  refine ⟨by rw [List.length_set]; exact h.1, fun j hj => ?_⟩
  by_cases hji : j = i
  · subst hji
    rw [if_pos (by omega)]
    simp [List.getD_eq_getElem?_getD, h.1, hi, hy]
  · have h2 := h.2 j hj
    have e : (LM.set i (v, ys)).getD j (.bool false, []) = LM.getD j (.bool false, []) := by
      simp [List.getD_eq_getElem?_getD, List.getElem?_set_ne (Ne.symm hji)]
    rw [e, h2]
    by_cases h3 : j < i
    · rw [if_pos h3, if_pos (by omega)]
    · rw [if_neg h3, if_neg (by omega)]
/-- Each row holds its marks. -/
def HdG {α : Type} (mk : Nat → Int → List α) (c k : Int) (l : List (List α)) : Prop := ∀ j, j < l.length → l.getD j [] = mk (l.getD j []).length (k + c * (lenG l j : Int))
theorem MkG.all {α : Type} {mk : Nat → Int → List α} {c k : Int} {l : List (List α)} {LM : List (Value × List α)} {i : Nat} (hm : ∀ n k, (mk n k).length = n) (h : MkG mk c k l LM i) (hi : l.length ≤ i) : HdG mk c k (LM.map Prod.snd) ∧ lenG (LM.map Prod.snd) (LM.map Prod.snd).length = lenG l l.length ∧ (LM.map Prod.snd).length = l.length := by
  have hl : (LM.map Prod.snd).length = l.length := by rw [List.length_map]; exact h.1
  have hg : ∀ j, j < l.length → (LM.map Prod.snd).getD j [] = mk (l.getD j []).length (k + c * (lenG l j : Int)) := fun j hj => by
    rw [← getV j (by rw [h.1]; exact hj), h.2 j hj, if_pos (by omega)]
  have hlen : ∀ j, ((LM.map Prod.snd).getD j []).length = (l.getD j []).length := fun j => by
    rcases Nat.lt_or_ge j l.length with hj | hj
    · rw [hg j hj, hm]
    · rw [List.getD_eq_getElem?_getD, List.getD_eq_getElem?_getD, List.getElem?_eq_none (by omega), List.getElem?_eq_none hj]
  have he := lenG_eq hlen
  refine ⟨fun j hj => ?_, by rw [hl, he], hl⟩
  rw [hl] at hj
  rw [hlen j, he j]
  exact hg j hj
theorem HdG.now {α : Type} {mk : Nat → Int → List α} {c k : Int} {l : List (List α)} (h : HdG mk c k l) {j : Nat} (hj : j < l.length) {q : Int} (hq : q = k + c * (lenG l j : Int)) : l.getD j [] = mk (l.getD j []).length q := by rw [hq]; exact h j hj

theorem heldNodeSS_c (l : List (List (Int × Int))) (k : Int) (lx : l.length ≤ 1000000) (hk : 0 ≤ k ∧ k + 2 * (lenG l l.length : Int) ≤ 1000000) (hx : HdG marks 2 k l) : CallA Tryz.prog 15 [LLN l, AI k] (AI (k + 2 * (lenG l l.length : Int))) := by
  refine CallA.of Tryz.func15 rfl (by kernel_rfl) ?_
  refine R.go 10 (R.loop ((fun | (i, q) => (⟨(frm 21 [(0, LLN l), (1, AI q), (5, AI (i : Int))]), []⟩ : St) : Nat × Int → St)) (fun | (i, q) => (i ≤ l.length) ∧ (q = k + 2 * (lenG l i : Int))) (fun | (i, q) => l.length - i) (0, k) [0, 1, 5] none (by kernel_rfl) (by kernel_rfl) (by kernel_rfl) ⟨(by omega), (by simp [lenG])⟩ ?_)
  rintro ⟨i, q⟩ ⟨h4_1, rfl⟩ R1 N2
  refine R.go 8 (R.cond ((i : Int) < (l.length : Int)) (by kernel_rfl) (fun c5 => ?_) (fun c5 => ?_))
  · have hs := lenG_step l i (by omega)
    have he := hx.now (j := i) (by omega) rfl
    refine R.go 7 (R.idx eLN l [] i (i : Int) (by kernel_rfl) rfl eLN_len (by omega) (by kernel_rfl) ?_)
    refine R.go 2 (R.call true (heldNodeS_c (l.getD i []) (k + 2 * (lenG l i : Int)) (by first | omega | (simp <;> omega)) (by omega) (by assumption)) (by kernel_rfl) rfl (by kernel_rfl) ?_)
    refine R.go 7 (R.cond (((k + 2 * (lenG l i : Int)) + 2 * ((l.getD i []).length : Int)) < 0) (by kernel_rfl) (fun c6 => ?_) (fun c6 => ?_))
    · exact R.go 4 (R.retE (AI (-1)) (by kernel_rfl) (by kernel_rfl) (by first | (first | (rw [show i = l.length by omega]) | (exfalso; have := lenG_step l i (by omega); omega)) | (exfalso; omega)))
    · refine R.go 4 (R.ar ((i : Int) + 1) (by kernel_rfl) (by omega) (by omega) (by kernel_rfl) ?_)
      exact R.go 2 (R.stop R1 (by kernel_rfl) (N2 (i + 1, (k + 2 * (lenG l i : Int)) + 2 * ((l.getD i []).length : Int)) [0, 1, 5] none _ (by kernel_rfl) (by kernel_rfl) ⟨(by omega), (by rw [lenG]; omega)⟩ (by show (l.length - (i + 1)) < (l.length - i); omega)))
  · exact R.go 6 (R.retE (AI (k + 2 * (lenG l i : Int))) (by kernel_rfl) (by kernel_rfl) (by first | (first | (rw [show i = l.length by omega]) | (exfalso; have := lenG_step l i (by omega); omega)) | (exfalso; omega)))

end Go.Proofs.YtalfakdiinhdnaaGreat


/-! The premises of the Jankov formulas as rows of their own. -/
namespace Go.Proofs.YtalfakdiinhdnaaGreat
open Go.RowKit Go.Abs

theorem jv_len1 {n : Int} {xs : List Int} {P : List (Value × List (Int × Int))} {x : Nat} (h8 : n ≤ 8) (h : P.map Prod.snd = p1 n xs x) : P.length ≤ 1 + 16 * x := by rw [lenV h]; exact p1_len h8 x
theorem jv_len1y {n : Int} {xs : List Int} {P : List (Value × List (Int × Int))} {x y : Nat} (h8 : n ≤ 8) (h : P.map Prod.snd = p1 n xs x ++ p1y n xs x y) : P.length ≤ 1 + 16 * x + 2 * y := by
  rw [lenV h, List.length_append]
  have := p1_len (xs := xs) h8 x
  have := p1y_len n xs x y
  omega
theorem jv_len2 {n : Int} {xs : List Int} {P : List (Value × List (Int × Int))} {x : Nat} (h8 : n ≤ 8) (hU : (upL n xs).length ≤ 256) (h : P.map Prod.snd = p2 n xs (upL n xs) x) : P.length ≤ 1 + 16 * n.toNat + 512 * x := by rw [lenV h]; exact p2_len h8 hU x
theorem jv_len2y {n : Int} {xs : List Int} {P : List (Value × List (Int × Int))} {x k : Nat} (h8 : n ≤ 8) (hU : (upL n xs).length ≤ 256) (h : P.map Prod.snd = p2 n xs (upL n xs) x ++ p2y n xs (upL n xs) x k) : P.length ≤ 1 + 16 * n.toNat + 512 * x + 2 * k := by
  rw [lenV h, List.length_append, p2y_len]
  have := p2_len (xs := xs) h8 hU x
  omega

theorem arrowO_c (a : List (Int × Int)) (b : List (Int × Int)) (ha : a.length ≤ 1000000) (hb : b.length ≤ 1000000) : CallA Tryz.prog 103 [LLN [a, b]] (ownA eN 119 2 ((4, 0) :: (a ++ b))) := by
  refine CallA.of Tryz.func103 rfl (by kernel_rfl) ?_
  refine R.go 23 (R.rounds 1 (by kernel_rfl) ?_)
  intro R1 hA2
  refine R.go 16 (R.call true (join_c 4 a b ha hb) (by kernel_rfl) rfl (by kernel_rfl) ?_)
  refine R.go 8 (R.stopA R1 (by kernel_rfl) hA2 ?_)
  intro R3 hA4
  exact R.go 13 (R.retE (ownA eN 119 2 ((4, 0) :: (a ++ b))) (by kernel_rfl) (by kernel_rfl) (by rfl))

theorem jankovPremisesE_c (n : Int) (xs : List Int) (hP : okPo n xs = true) (hr0 : 0 ≤ rootX n xs) : CallE Tryz.prog 46 [.agg [AI n, LI xs]] (fun (b : Nat) (r : AV) => ∃ L : List (Value × List (Int × Int)), r = ownA (eV eN 119 2) 38 1 L ∧ (NL b L) ∧ (L.map Prod.snd = jpL n xs)) := by
  have hR := okPo_fr hP
  have hF := okFr_rel hR
  have hb0 : 0 ≤ n ∧ n ≤ 8 ∧ (xs.length : Int) = n := ⟨hF.1, hF.2.1, hF.2.2.1⟩
  have hrl := rootX_lt hF.2.2.1
  have hjl := fun m => jnd_len n xs m hF.2.1
  have hul := upL_len hP
  have hrw := fun (x : Nat) (h : x < xs.length) => row_in hR h
  have hban := fun (x y : Nat) (h : x < xs.length) (h2 : y < xs.length) => inM_band (by omega) (row_in hR h) (row_in hR h2)
  have hul2 := upL_in hP
  have hjj := fun (x k : Nat) (h : x < xs.length) => jA_in hR (row_in hR h) (hul2 k)
  refine CallE.of Tryz.func46 rfl (by kernel_rfl) (fun b => ?_)
  refine R.go 8 (R.call true (root_c n xs hP) (by kernel_rfl) rfl (by kernel_rfl) ?_)
  refine R.call true (variable_c (rootX n xs)) (by kernel_rfl) rfl (by kernel_rfl) ?_
  refine R.pin 2 119 2 [(0, (rootX n xs))].length (rows eN [(0, (rootX n xs))]) (by kernel_rfl) (by kernel_rfl) ?_
  intro v1 hn2
  have hb3 : ∀ g, blk v1 = some g → b ≤ g := newN_base hn2 0 (by kernel_rfl)
  clear hn2
  refine R.go 11 (R.loop ((fun | (x, P) => (⟨(frm 103 [(1, .ptr 1 0), (3, .ref 2), (18, AI n), (19, AI (x : Int))]), [.inert (.base b), .box 29 [AI n, LI xs], rowA (eV eN 119 2) 38 1 P]⟩ : St) : Nat × (List (Value × List (Int × Int))) → St)) (fun | (x, P) => (x ≤ n.toNat) ∧ (NL b P) ∧ (P.map Prod.snd = p1 n xs x)) (fun | (x, P) => n.toNat - x) (0, [(v1, [(0, (rootX n xs))])]) [1, 3, 18, 19] (some [0, 1, 3]) (by kernel_rfl) (by kernel_rfl) (by kernel_rfl) ⟨(by omega), (by exact NL.nil.snoc (fun u hu => absurd hu (List.not_mem_nil)) (by assumption)), (by rfl)⟩ ?_)
  rintro ⟨x, P⟩ ⟨h7_1, h7_2, h7_3⟩ R4 N5
  have h1l := jv_len1 hb0.2.1 ‹P.map Prod.snd = _›
  refine R.go 5 (R.cond ((x : Int) < n) (by kernel_rfl) (fun c8 => ?_) (fun c8 => ?_))
  · refine R.go 11 (R.ar ((x : Int) + 1) (by kernel_rfl) (by omega) (by omega) (by kernel_rfl) ?_)
    refine R.go 3 (R.loop ((fun | (y, Q) => (⟨(frm 103 [(1, .ptr 1 0), (3, .ref 2), (4, AI (x : Int)), (5, AI (y : Int)), (18, AI n), (19, AI (x : Int))]), [.inert (.base b), .box 29 [AI n, LI xs], rowA (eV eN 119 2) 38 1 Q]⟩ : St) : Nat × (List (Value × List (Int × Int))) → St)) (fun | (y, Q) => (x + 1 ≤ y) ∧ (y ≤ n.toNat) ∧ (NL b Q) ∧ (Q.map Prod.snd = p1 n xs x ++ p1y n xs x y)) (fun | (y, Q) => n.toNat - y) ((x + 1), P) [1, 3, 4, 5, 18, 19] none (by kernel_rfl) (by kernel_rfl) (by kernel_rfl) ⟨(by omega), (by omega), (by assumption), (by rw [‹P.map Prod.snd = _›]; exact p1_in)⟩ ?_)
    rintro ⟨y, Q⟩ ⟨h12_1, h12_2, h12_3, h12_4⟩ R9 N10
    have h1y := jv_len1y hb0.2.1 ‹Q.map Prod.snd = _›
    refine R.go 8 (R.cond ((y : Int) < n) (by kernel_rfl) (fun c13 => ?_) (fun c13 => ?_))
    · have hb1 := hban x y (by omega) (by omega)
      have hj1 := hjl (band (xs.getD x 0) (xs.getD y 0))
      refine R.go 6 (R.call true (variable_c (x : Int)).frz (by kernel_rfl) rfl (by kernel_rfl) ?_)
      refine R.go 1 (R.call true (variable_c (y : Int)).frz (by kernel_rfl) rfl (by kernel_rfl) ?_)
      refine R.call true (join_c 2 [(0, (x : Int))] [(0, (y : Int))] (by first | omega | (simp only [List.length_cons, List.length_append, List.length_nil]; omega)) (by first | omega | (simp only [List.length_cons, List.length_append, List.length_nil]; omega))).frz (by kernel_rfl) rfl (by kernel_rfl) ?_
      refine R.go 4 (R.idx eI xs 0 x (x : Int) (by kernel_rfl) rfl eI_len (by omega) (by kernel_rfl) ?_)
      refine R.go 4 (R.idx eI xs 0 y (y : Int) (by kernel_rfl) rfl eI_len (by omega) (by kernel_rfl) ?_)
      refine R.go 2 (R.call true (joined_c n xs (band (xs.getD x 0) (xs.getD y 0)) hP (by first | assumption | exact jcM_in (by assumption) (by omega))).frz (by kernel_rfl) rfl (by kernel_rfl) ?_)
      refine R.go 7 (R.lit (s := 1) (n := 2) (cs := rows eLN [(2, 0) :: ([(0, (x : Int))] ++ [(0, (y : Int))]), jnd n xs (band (xs.getD x 0) (xs.getD y 0))]) (by kernel_rfl) (by kernel_rfl) ?_)
      refine R.call true (arrowO_c ((2, 0) :: ([(0, (x : Int))] ++ [(0, (y : Int))])) (jnd n xs (band (xs.getD x 0) (xs.getD y 0))) (by first | omega | (simp only [List.length_cons, List.length_append, List.length_nil]; omega)) (by first | omega | (simp only [List.length_cons, List.length_append, List.length_nil]; omega))) (by kernel_rfl) rfl (by kernel_rfl) ?_
      refine R.go 2 (R.lit (s := 1) (n := 2) (cs := rows eLN [jnd n xs (band (xs.getD x 0) (xs.getD y 0)), (2, 0) :: ([(0, (x : Int))] ++ [(0, (y : Int))])]) (by kernel_rfl) (by kernel_rfl) ?_)
      refine R.call true (arrowO_c (jnd n xs (band (xs.getD x 0) (xs.getD y 0))) ((2, 0) :: ([(0, (x : Int))] ++ [(0, (y : Int))])) (by first | omega | (simp only [List.length_cons, List.length_append, List.length_nil]; omega)) (by first | omega | (simp only [List.length_cons, List.length_append, List.length_nil]; omega))) (by kernel_rfl) rfl (by kernel_rfl) ?_
      refine R.pin 3 119 2 ((4, 0) :: (((2, 0) :: ([(0, (x : Int))] ++ [(0, (y : Int))])) ++ (jnd n xs (band (xs.getD x 0) (xs.getD y 0))))).length (rows eN ((4, 0) :: (((2, 0) :: ([(0, (x : Int))] ++ [(0, (y : Int))])) ++ (jnd n xs (band (xs.getD x 0) (xs.getD y 0)))))) (by kernel_rfl) (by kernel_rfl) ?_
      intro v14 hn15
      have hb16 : ∀ g, blk v14 = some g → b ≤ g := newN_base hn15 0 (by kernel_rfl)
      have hr17 : ∀ u ∈ Q, ∀ g, blk v14 = some g → blk u.1 ≠ some g := newN_row (E := eN) (el := 119) (s := 2) (e := 38) (n := Q.length) hn15 2 Q (by kernel_rfl)
      clear hn15
      refine R.pin 4 119 2 ((4, 0) :: ((jnd n xs (band (xs.getD x 0) (xs.getD y 0))) ++ ((2, 0) :: ([(0, (x : Int))] ++ [(0, (y : Int))])))).length (rows eN ((4, 0) :: ((jnd n xs (band (xs.getD x 0) (xs.getD y 0))) ++ ((2, 0) :: ([(0, (x : Int))] ++ [(0, (y : Int))]))))) (by kernel_rfl) (by kernel_rfl) ?_
      intro v18 hn19
      have hb20 : ∀ g, blk v18 = some g → b ≤ g := newN_base hn19 0 (by kernel_rfl)
      have hr21 : ∀ u ∈ Q, ∀ g, blk v18 = some g → blk u.1 ≠ some g := newN_row (E := eN) (el := 119) (s := 2) (e := 38) (n := Q.length) hn19 2 Q (by kernel_rfl)
      have hs22 : ∀ g, blk v18 = some g → blk v14 ≠ some g := newN_slot (e := 119) (s := 2) (n := ((4, 0) :: (((2, 0) :: ([(0, (x : Int))] ++ [(0, (y : Int))])) ++ (jnd n xs (band (xs.getD x 0) (xs.getD y 0))))).length) (cs := rows eN ((4, 0) :: (((2, 0) :: ([(0, (x : Int))] ++ [(0, (y : Int))])) ++ (jnd n xs (band (xs.getD x 0) (xs.getD y 0)))))) hn19 52 (by kernel_rfl)
      clear hn19
      refine R.go 1 (R.app (eV eN 119 2) Q [(v14, (4, 0) :: (((2, 0) :: ([(0, (x : Int))] ++ [(0, (y : Int))])) ++ (jnd n xs (band (xs.getD x 0) (xs.getD y 0))))), (v18, (4, 0) :: ((jnd n xs (band (xs.getD x 0) (xs.getD y 0))) ++ ((2, 0) :: ([(0, (x : Int))] ++ [(0, (y : Int))]))))] 2 38 1 24 (by kernel_rfl) eV_one (by decide) (by first | omega | (simp only [List.length_cons, List.length_append, List.length_nil, bothL_len]; omega)) (by kernel_rfl) ?_)
      refine R.go 5 (R.ar ((y : Int) + 1) (by kernel_rfl) (by omega) (by omega) (by kernel_rfl) ?_)
      exact R.go 2 (R.stop R9 (by kernel_rfl) (N10 (y + 1, Q ++ [(v14, (4, 0) :: (((2, 0) :: ([(0, (x : Int))] ++ [(0, (y : Int))])) ++ (jnd n xs (band (xs.getD x 0) (xs.getD y 0))))), (v18, (4, 0) :: ((jnd n xs (band (xs.getD x 0) (xs.getD y 0))) ++ ((2, 0) :: ([(0, (x : Int))] ++ [(0, (y : Int))]))))]) [1, 3, 4, 5, 18, 19] (some [0, 1, 2]) _ (by kernel_rfl) (by kernel_rfl) ⟨(by omega), (by omega), (by exact NL.snoc2 (by assumption) (by assumption) (by assumption) (by assumption) (by assumption) (by assumption)), (by rw [map2V ‹Q.map Prod.snd = _›]; exact p1_step (by omega))⟩ (by show (n.toNat - (y + 1)) < (n.toNat - y); omega)))
    · refine R.go 3 (R.ar ((x : Int) + 1) (by kernel_rfl) (by omega) (by omega) (by kernel_rfl) ?_)
      exact R.go 2 (R.stop R4 (by kernel_rfl) (N5 (x + 1, Q) [1, 3, 18, 19] none _ (by kernel_rfl) (by kernel_rfl) ⟨(by omega), (by assumption), (by rw [‹Q.map Prod.snd = _›]; exact p1_out (by omega))⟩ (by show (n.toNat - (x + 1)) < (n.toNat - x); omega)))
  · refine R.go 9 (R.loop ((fun | (z, U) => (⟨(frm 103 [(1, .ptr 1 0), (3, .ref 2), (61, AI n), (62, AI (z : Int))]), [.inert (.base b), .box 29 [AI n, LI xs], rowA (eV eN 119 2) 38 1 U]⟩ : St) : Nat × (List (Value × List (Int × Int))) → St)) (fun | (z, U) => (z ≤ n.toNat) ∧ (NL b U) ∧ (U.map Prod.snd = p2 n xs (upL n xs) z)) (fun | (z, U) => n.toNat - z) (0, P) [1, 3, 61, 62] none (by kernel_rfl) (by kernel_rfl) (by kernel_rfl) ⟨(by omega), (by assumption), (by rw [‹P.map Prod.snd = _›]; exact p2_start (by omega))⟩ ?_)
    rintro ⟨z, U⟩ ⟨h26_1, h26_2, h26_3⟩ R23 N24
    have h2l := jv_len2 hb0.2.1 hul ‹U.map Prod.snd = _›
    refine R.go 5 (R.cond ((z : Int) < n) (by kernel_rfl) (fun c27 => ?_) (fun c27 => ?_))
    · refine R.go 11 (R.call true (upsets_c n xs hP).frz (by kernel_rfl) rfl (by kernel_rfl) ?_)
      refine R.go 4 (R.loop ((fun | (k, W) => (⟨(frm 103 [(1, .ptr 1 0), (3, .ref 2), (8, AI (z : Int)), (61, AI n), (62, AI (z : Int)), (66, LI (upL n xs)), (67, AI ((upL n xs).length)), (68, AI (k : Int))]), [.inert (.base b), .box 29 [AI n, LI xs], rowA (eV eN 119 2) 38 1 W]⟩ : St) : Nat × (List (Value × List (Int × Int))) → St)) (fun | (k, W) => (k ≤ (upL n xs).length) ∧ (NL b W) ∧ (W.map Prod.snd = p2 n xs (upL n xs) z ++ p2y n xs (upL n xs) z k)) (fun | (k, W) => (upL n xs).length - k) (0, U) [1, 3, 8, 61, 62, 66, 67, 68] none (by kernel_rfl) (by kernel_rfl) (by kernel_rfl) ⟨(by omega), (by assumption), (by rw [‹U.map Prod.snd = _›]; exact p2_in)⟩ ?_)
      rintro ⟨k, W⟩ ⟨h31_1, h31_2, h31_3⟩ R28 N29
      have h2y := jv_len2y hb0.2.1 hul ‹W.map Prod.snd = _›
      refine R.go 5 (R.cond ((k : Int) < ((upL n xs).length : Int)) (by kernel_rfl) (fun c32 => ?_) (fun c32 => ?_))
      · have hb2 := hul2 k
        have hj2 := hjl ((upL n xs).getD k 0)
        have hb3 := hjj z k (by omega)
        have hj3 := hjl (jA n xs (xs.getD z 0) ((upL n xs).getD k 0))
        refine R.go 5 (R.idx eI (upL n xs) 0 k (k : Int) (by kernel_rfl) rfl eI_len (by omega) (by kernel_rfl) ?_)
        refine R.go 4 (R.drwT [0, 0, 0, 0, 0, 0, 0, 0, 0, 0, 0, 0, 0, 0, 0, 0, 0, 0, 0] (by kernel_rfl) ?_)
        refine R.go 1 (R.call true (variable_c (z : Int)).frz (by kernel_rfl) rfl (by kernel_rfl) ?_)
        refine R.go 2 (R.call true (joined_c n xs ((upL n xs).getD k 0) hP (by first | assumption | exact jcM_in (by assumption) (by omega))).frz (by kernel_rfl) rfl (by kernel_rfl) ?_)
        refine R.lit (s := 1) (n := 2) (cs := rows eLN [[(0, (z : Int))], jnd n xs ((upL n xs).getD k 0)]) (by kernel_rfl) (by kernel_rfl) ?_
        refine R.call true (arrowO_c [(0, (z : Int))] (jnd n xs ((upL n xs).getD k 0)) (by first | omega | (simp only [List.length_cons, List.length_append, List.length_nil]; omega)) (by first | omega | (simp only [List.length_cons, List.length_append, List.length_nil]; omega))).frz (by kernel_rfl) rfl (by kernel_rfl) ?_
        refine R.go 5 (R.idx eI xs 0 z (z : Int) (by kernel_rfl) rfl eI_len (by omega) (by kernel_rfl) ?_)
        refine R.go 2 (R.call true (imply3_c n xs (xs.getD z 0) ((upL n xs).getD k 0) (by first | omega | (simp only [List.length_cons, List.length_append, List.length_nil]; omega)) (by first | omega | (simp only [List.length_cons, List.length_append, List.length_nil]; omega)) (by first | omega | (simp only [List.length_cons, List.length_append, List.length_nil]; omega))) (by kernel_rfl) rfl (by kernel_rfl) ?_)
        refine R.call true (joined_c n xs (jA n xs (xs.getD z 0) ((upL n xs).getD k 0)) hP (by first | assumption | exact jcM_in (by assumption) (by omega))).frz (by kernel_rfl) rfl (by kernel_rfl) ?_
        refine R.go 7 (R.lit (s := 1) (n := 2) (cs := rows eLN [(4, 0) :: ([(0, (z : Int))] ++ (jnd n xs ((upL n xs).getD k 0))), jnd n xs (jA n xs (xs.getD z 0) ((upL n xs).getD k 0))]) (by kernel_rfl) (by kernel_rfl) ?_)
        refine R.call true (arrowO_c ((4, 0) :: ([(0, (z : Int))] ++ (jnd n xs ((upL n xs).getD k 0)))) (jnd n xs (jA n xs (xs.getD z 0) ((upL n xs).getD k 0))) (by first | omega | (simp only [List.length_cons, List.length_append, List.length_nil]; omega)) (by first | omega | (simp only [List.length_cons, List.length_append, List.length_nil]; omega))) (by kernel_rfl) rfl (by kernel_rfl) ?_
        refine R.go 2 (R.lit (s := 1) (n := 2) (cs := rows eLN [jnd n xs (jA n xs (xs.getD z 0) ((upL n xs).getD k 0)), (4, 0) :: ([(0, (z : Int))] ++ (jnd n xs ((upL n xs).getD k 0)))]) (by kernel_rfl) (by kernel_rfl) ?_)
        refine R.call true (arrowO_c (jnd n xs (jA n xs (xs.getD z 0) ((upL n xs).getD k 0))) ((4, 0) :: ([(0, (z : Int))] ++ (jnd n xs ((upL n xs).getD k 0)))) (by first | omega | (simp only [List.length_cons, List.length_append, List.length_nil]; omega)) (by first | omega | (simp only [List.length_cons, List.length_append, List.length_nil]; omega))) (by kernel_rfl) rfl (by kernel_rfl) ?_
        refine R.pin 3 119 2 ((4, 0) :: (((4, 0) :: ([(0, (z : Int))] ++ (jnd n xs ((upL n xs).getD k 0)))) ++ (jnd n xs (jA n xs (xs.getD z 0) ((upL n xs).getD k 0))))).length (rows eN ((4, 0) :: (((4, 0) :: ([(0, (z : Int))] ++ (jnd n xs ((upL n xs).getD k 0)))) ++ (jnd n xs (jA n xs (xs.getD z 0) ((upL n xs).getD k 0)))))) (by kernel_rfl) (by kernel_rfl) ?_
        intro v33 hn34
        have hb35 : ∀ g, blk v33 = some g → b ≤ g := newN_base hn34 0 (by kernel_rfl)
        have hr36 : ∀ u ∈ W, ∀ g, blk v33 = some g → blk u.1 ≠ some g := newN_row (E := eN) (el := 119) (s := 2) (e := 38) (n := W.length) hn34 2 W (by kernel_rfl)
        clear hn34
        refine R.pin 4 119 2 ((4, 0) :: ((jnd n xs (jA n xs (xs.getD z 0) ((upL n xs).getD k 0))) ++ ((4, 0) :: ([(0, (z : Int))] ++ (jnd n xs ((upL n xs).getD k 0)))))).length (rows eN ((4, 0) :: ((jnd n xs (jA n xs (xs.getD z 0) ((upL n xs).getD k 0))) ++ ((4, 0) :: ([(0, (z : Int))] ++ (jnd n xs ((upL n xs).getD k 0))))))) (by kernel_rfl) (by kernel_rfl) ?_
        intro v37 hn38
        have hb39 : ∀ g, blk v37 = some g → b ≤ g := newN_base hn38 0 (by kernel_rfl)
        have hr40 : ∀ u ∈ W, ∀ g, blk v37 = some g → blk u.1 ≠ some g := newN_row (E := eN) (el := 119) (s := 2) (e := 38) (n := W.length) hn38 2 W (by kernel_rfl)
        have hs41 : ∀ g, blk v37 = some g → blk v33 ≠ some g := newN_slot (e := 119) (s := 2) (n := ((4, 0) :: (((4, 0) :: ([(0, (z : Int))] ++ (jnd n xs ((upL n xs).getD k 0)))) ++ (jnd n xs (jA n xs (xs.getD z 0) ((upL n xs).getD k 0))))).length) (cs := rows eN ((4, 0) :: (((4, 0) :: ([(0, (z : Int))] ++ (jnd n xs ((upL n xs).getD k 0)))) ++ (jnd n xs (jA n xs (xs.getD z 0) ((upL n xs).getD k 0)))))) hn38 93 (by kernel_rfl)
        clear hn38
        refine R.go 1 (R.app (eV eN 119 2) W [(v33, (4, 0) :: (((4, 0) :: ([(0, (z : Int))] ++ (jnd n xs ((upL n xs).getD k 0)))) ++ (jnd n xs (jA n xs (xs.getD z 0) ((upL n xs).getD k 0))))), (v37, (4, 0) :: ((jnd n xs (jA n xs (xs.getD z 0) ((upL n xs).getD k 0))) ++ ((4, 0) :: ([(0, (z : Int))] ++ (jnd n xs ((upL n xs).getD k 0))))))] 2 38 1 24 (by kernel_rfl) eV_one (by decide) (by first | omega | (simp only [List.length_cons, List.length_append, List.length_nil, bothL_len]; omega)) (by kernel_rfl) ?_)
        refine R.go 4 (R.ar ((k : Int) + 1) (by kernel_rfl) (by omega) (by omega) (by kernel_rfl) ?_)
        exact R.go 2 (R.stop R28 (by kernel_rfl) (N29 (k + 1, W ++ [(v33, (4, 0) :: (((4, 0) :: ([(0, (z : Int))] ++ (jnd n xs ((upL n xs).getD k 0)))) ++ (jnd n xs (jA n xs (xs.getD z 0) ((upL n xs).getD k 0))))), (v37, (4, 0) :: ((jnd n xs (jA n xs (xs.getD z 0) ((upL n xs).getD k 0))) ++ ((4, 0) :: ([(0, (z : Int))] ++ (jnd n xs ((upL n xs).getD k 0))))))]) [1, 3, 8, 61, 62, 66, 67, 68] (some [0, 1, 2]) _ (by kernel_rfl) (by kernel_rfl) ⟨(by omega), (by exact NL.snoc2 (by assumption) (by assumption) (by assumption) (by assumption) (by assumption) (by assumption)), (by rw [map2V ‹W.map Prod.snd = _›]; exact p2_step)⟩ (by show ((upL n xs).length - (k + 1)) < ((upL n xs).length - k); omega)))
      · refine R.go 3 (R.ar ((z : Int) + 1) (by kernel_rfl) (by omega) (by omega) (by kernel_rfl) ?_)
        exact R.go 2 (R.stop R23 (by kernel_rfl) (N24 (z + 1, W) [1, 3, 61, 62] none _ (by kernel_rfl) (by kernel_rfl) ⟨(by omega), (by assumption), (by rw [‹W.map Prod.snd = _›]; exact p2_out (by omega))⟩ (by show (n.toNat - (z + 1)) < (n.toNat - z); omega)))
    · exact R.go 6 (R.retB (ownA (eV eN 119 2) 38 1 U) (by kernel_rfl) (by kernel_rfl) ⟨U, rfl, by assumption, by rw [‹U.map Prod.snd = _›, show z = n.toNat by omega]; rfl⟩)
theorem jankovPremisesE_c_cl (n : Int) (xs : List Int) : ∀ (b : Nat) (r : AV), (fun (b : Nat) (r : AV) => ∃ L : List (Value × List (Int × Int)), r = ownA (eV eN 119 2) 38 1 L ∧ (NL b L) ∧ (L.map Prod.snd = jpL n xs)) b r → ClosedN b r := by
 rintro b r ⟨L, rfl, e0, e1⟩
 exact (closedN_own _ e0 eN_closed)

/-- What JankovPremises answers. -/
def jpR (n : Int) (xs : List Int) : List (List (Int × Int)) := if jkC n xs = 0 then jpL n xs else []
theorem jpR_0 {n : Int} {xs : List Int} (h : jkC n xs = 0) : jpR n xs = jpL n xs := if_pos h
theorem jpR_1 {n : Int} {xs : List Int} (h : ¬ jkC n xs = 0) : jpR n xs = [] := if_neg h
theorem jpR_nil {n : Int} {xs : List Int} (h : ¬ jkC n xs = 0) : List.map Prod.snd ([] : List (Value × List (Int × Int))) = jpR n xs := (jpR_1 h).symm

theorem JankovPremises_c (n : Int) (xs : List Int) (lx : xs.length ≤ 1048576) : CallE Tryz.prog 10 [.agg [AI n, LI xs]] (fun (b : Nat) (r : AV) => ∃ L : List (Value × List (Int × Int)), r = .tup [ownA (eV eN 119 2) 38 1 L, AI (jkC n xs)] ∧ (NL b L) ∧ (L.map Prod.snd = jpR n xs)) := by
  refine CallE.of Tryz.func10 rfl (by kernel_rfl) (fun b => ?_)
  refine R.go 10 (R.call true (jankovCode_c n xs lx) (by kernel_rfl) rfl (by kernel_rfl) ?_)
  refine R.go 7 (R.condN ((jkC n xs) = 0) (by kernel_rfl) (fun c1 => ?_) (fun c1 => ?_))
  · refine R.go 6 (R.nil 2 38 1 (by kernel_rfl) ?_)
    exact R.retB (.tup [ownA (eV eN 119 2) 38 1 [], AI (jkC n xs)]) (by kernel_rfl) (by kernel_rfl) ⟨[], rfl, by first | exact NL.nil | exact NL.mono (by assumption) (by assumption) | assumption, by first | exact jpR_nil (by assumption) | (rw [jpR_0 (by assumption)]; assumption)⟩
  · have hc0 : jkC n xs = 0 := by first | assumption | omega
    have hjk := jk_ok hc0
    have hpo : okPo n xs = true := hjk.1
    have hr0 := hjk.2.1
    refine R.go 4 (R.callE (avs0 := [.agg [AI n, LI xs]]) (jankovPremisesE_c n xs hpo (by omega)) (by kernel_rfl) (.cons (.agg (.cons (.leaf rfl) (.cons (.leaf rfl) (.nil)))) (.nil)) (jankovPremisesE_c_cl n xs) (by kernel_rfl) ?_)
    intro bE1 hbn2 hsn3 rn4 hrn5
    obtain ⟨LE1, rfl, heE1_1, heE1_2⟩ := hrn5
    have hbb6 : b ≤ bE1 := hbn2 0 b (by kernel_rfl)
    clear hbn2 hsn3
    exact R.go 3 (R.retB (.tup [ownA (eV eN 119 2) 38 1 LE1, AI 0]) (by kernel_rfl) (by kernel_rfl) ⟨LE1, by first | rfl | (rw [hc0]) | (exfalso; omega), by first | exact NL.nil | exact NL.mono (by assumption) (by assumption) | assumption, by first | exact jpR_nil (by assumption) | (rw [jpR_0 (by assumption)]; assumption)⟩)
theorem JankovPremises_c_cl (n : Int) (xs : List Int) : ∀ (b : Nat) (r : AV), (fun (b : Nat) (r : AV) => ∃ L : List (Value × List (Int × Int)), r = .tup [ownA (eV eN 119 2) 38 1 L, AI (jkC n xs)] ∧ (NL b L) ∧ (L.map Prod.snd = jpR n xs)) b r → ClosedN b r := by
 rintro b r ⟨L, rfl, e0, e1⟩
 exact (closedN_tup (closedNL_cons (closedN_own _ e0 eN_closed) (closedNL_cons closedN_int closedNL_nil)))

theorem JankovPremises_s (n : Int) (xs : List Int) (lx : xs.length ≤ 1048576) : CallA Tryz.prog 8 [.agg [AI n, LI xs]] (.tup [ownA eLN 38 1 (jpR n xs), AI (jkC n xs)]) := by
  refine CallA.of Tryz.func8 rfl (by kernel_rfl) ?_
  refine R.go 9 (R.call true (l21Code_c n xs lx) (by kernel_rfl) rfl (by kernel_rfl) ?_)
  refine R.go 8 (R.condN ((jkC n xs) = 0) (by kernel_rfl) (fun c1 => ?_) (fun c1 => ?_))
  · refine R.go 6 (R.nil 2 38 1 (by kernel_rfl) ?_)
    exact R.retE (.tup [ownA eLN 38 1 [], AI (jkC n xs)]) (by kernel_rfl) (by kernel_rfl) (by first | (first | (rw [jpR_1 (by assumption)]) | (rw [hc0, jpR_0 hc0])) | (exfalso; omega))
  · have hc0 : jkC n xs = 0 := by first | assumption | omega
    have hjk := jk_ok hc0
    have hpo : okPo n xs = true := hjk.1
    have hr0 := hjk.2.1
    refine R.go 4 (R.call true (l21Premises_c n xs hpo (by omega)) (by kernel_rfl) rfl (by kernel_rfl) ?_)
    exact R.go 3 (R.retE (.tup [ownA eLN 38 1 (jpL n xs), AI 0]) (by kernel_rfl) (by kernel_rfl) (by first | (first | (rw [jpR_1 (by assumption)]) | (rw [hc0, jpR_0 hc0])) | (exfalso; omega)))

end Go.Proofs.YtalfakdiinhdnaaGreat


/-! The law of JankovPremises. -/
namespace Go.Proofs.YtalfakdiinhdnaaGreat
open Go.RowKit Go.Abs

theorem mkN_row {X Y : List (Int × Int)} {k : Int} {i : Nat} (hX : X = Y) (hi : i = X.length) : markTo X k i = marks Y.length k := by subst hX hi; exact markTo_all _ _ _ rfl
theorem lenG_le {α : Type} {l : List (List α)} {c : Nat} (h : ∀ j, j < l.length → (l.getD j []).length ≤ c) : ∀ i, i ≤ l.length → lenG l i ≤ c * i
  | 0, _ => by simp [lenG]
  | i + 1, hi => by
    have h1 := lenG_le h i (by omega)
    have h2 := h i (by omega)
    rw [lenG, Nat.mul_add]; omega
theorem jpR_len {n : Int} {xs : List Int} : (jpR n xs).length ≤ 5000 ∧ (∀ j : Nat, j < (jpR n xs).length → ((jpR n xs).getD j []).length ≤ 60) ∧ lenG (jpR n xs) (jpR n xs).length ≤ 300000 := by
  have h : (jpR n xs).length ≤ 5000 ∧ (∀ j : Nat, j < (jpR n xs).length → ((jpR n xs).getD j []).length ≤ 60) := by
    by_cases h : jkC n xs = 0
    · rw [jpR_0 h]
      have h1 := jk_ok h
      exact ⟨jp_len h1.1, fun j hj => (jp_get h1.1 h1.2.1 h1.2.2 j hj).2.2⟩
    · rw [jpR_1 h]
      exact ⟨by simp, fun j hj => by simp at hj⟩
  refine ⟨h.1, h.2, ?_⟩
  have := lenG_le h.2 _ (Nat.le_refl _)
  have := h.1
  omega
theorem jvF {n : Int} {xs : List Int} {L : List (Value × List (Int × Int))} (h : L.map Prod.snd = jpR n xs) : L.length = (jpR n xs).length ∧ (L.map Prod.snd).length ≤ 1000000000 ∧ (∀ j : Nat, j < (L.map Prod.snd).length → ((L.map Prod.snd).getD j []).length ≤ 1000000000) := by
  have h1 := jpR_len (n := n) (xs := xs)
  refine ⟨lenV h, by rw [h]; omega, fun j hj => ?_⟩
  rw [h] at hj ⊢
  have := h1.2.1 j hj
  omega

set_option maxHeartbeats 4000000 in
theorem lawJankovPremises_inE (n : Int) (xs : List Int) (uo : Value) (co : List AV) (hco : ByN (.nam uo none 1 xs.length co) (LI xs)) (hl : xs.length ≤ 1048576) : CallE Tryz.prog 3 [.agg [AI n, .nam uo none 1 xs.length co]] (fun (b : Nat) (r : AV) => r = .bool true) := by
  have hrl := jpR_len (n := n) (xs := xs)
  have hrl1 := hrl.1
  have hrl3 := hrl.2.2
  refine CallE.of Tryz.func3 rfl (by kernel_rfl) (fun b => ?_)
  refine R.go 13 (R.callW (avs0 := [.agg [AI n, .nam uo none 1 xs.length co], AI 1048576]) (szPoset_c n xs 1048576 (by omega) (by first | omega | (simp <;> omega))) (by kernel_rfl) (.cons (.agg (.cons (.leaf rfl) (.cons (.wk (.leaf hco.leafy) hco.fgt) (.nil)))) (.cons (.leaf rfl) (.nil))) rfl (by kernel_rfl) ?_)
  refine R.go 8 (R.cond (((1048576 : Int) - xs.length) < 0) (by kernel_rfl) (fun c1 => ?_) (fun c1 => ?_))
  · exact R.go 4 (R.retB (.bool true) (by kernel_rfl) (by kernel_rfl) (rfl))
  · refine R.go 4 (R.callW (avs0 := [.agg [AI n, .nam uo none 1 xs.length co]]) (toPoset_c n xs hl) (by kernel_rfl) (.cons (.agg (.cons (.leaf rfl) (.cons (.wk (.leaf hco.leafy) hco.fgt) (.nil)))) (.nil)) (by simp [AV.closed, closedL, AI, ownA_closed eI_closed]) (by kernel_rfl) ?_)
    refine R.frz 2 (by kernel_rfl) ?_
    refine R.call true (JankovPremises_s n xs hl) (by kernel_rfl) rfl (by kernel_rfl) ?_
    refine R.go 3 (R.frz 3 (by kernel_rfl) ?_)
    refine R.go 5 (R.nameS 4 1 (jpR n xs).length (rows eLN (jpR n xs)) (by kernel_rfl) (by kernel_rfl) (nameable_LLN _) ?_)
    intro uo2 co3 ho4
    refine R.go 1 (R.callW (avs0 := [.agg [AI n, .nam uo none 1 xs.length co]]) (toPoset_c n xs hl) (by kernel_rfl) (.cons (.agg (.cons (.leaf rfl) (.cons (.wk (.leaf hco.leafy) hco.fgt) (.nil)))) (.nil)) (by simp [AV.closed, closedL, AI, ownA_closed eI_closed]) (by kernel_rfl) ?_)
    refine R.go 6 (R.callE (avs0 := [.agg [AI n, .ref 4]]) (JankovPremises_c n xs hl) (by kernel_rfl) (.cons (.agg (.cons (.leaf rfl) (.cons (.ref (e := 2) (s := 1) (n := xs.length) (cs := rows eI xs) (by kernel_rfl)) (.nil)))) (.nil)) (JankovPremises_c_cl n xs) (by kernel_rfl) ?_)
    intro bE1 hbn5 hsn6 rn7 hrn8
    obtain ⟨LE1, rfl, heE1_1, heE1_2⟩ := hrn8
    have hbb9 : b ≤ bE1 := hbn5 0 b (by kernel_rfl)
    have hsf10 : ∀ v, (∀ g, blk v = some g → bE1 ≤ g) → Go.Abs.Safe v (.nam uo none 1 xs.length co) := fun v hv => safe_old hco (fun u hu => hsn6 u (inS_slot 0 (c := .agg [AI n, .nam uo none 1 xs.length co]) (by kernel_rfl) (by simp [InN, InNL] at hu ⊢; simp [hu]))) hv
    have hsf11 : ∀ v, (∀ g, blk v = some g → bE1 ≤ g) → Go.Abs.Safe v (.nam uo2 none 1 (jpR n xs).length co3) := fun v hv => safe_old ho4 (fun u hu => hsn6 u (inS_slot 4 (c := .nam uo2 none 1 (jpR n xs).length co3) (by kernel_rfl) hu)) hv
    clear hbn5 hsn6
    have hq1 : (LE1.map Prod.snd) = (jpR n xs) := heE1_2
    have hv1 := jvF heE1_2
    have hv1a := hv1.2.1
    have hv1b : ∀ j : Nat, j < (List.map Prod.snd LE1).length → ((List.map Prod.snd LE1).getD j []).length ≤ 1000000000 := hv1.2.2
    refine R.go 11 (R.callW (avs0 := [.ref 6, .nam uo2 none 1 (jpR n xs).length co3]) (eqNodeSS_c (LE1.map Prod.snd) (jpR n xs) (by first | omega | (simp <;> omega)) (by assumption)) (by kernel_rfl) (.cons (.wk (.ref (e := 38) (s := 1) (n := LE1.length) (cs := rows (eV eN 119 2) LE1) (by kernel_rfl)) (fgtV (fun _ => rfl) _)) (.cons (.wk (.leaf ho4.leafy) ho4.fgt) (.nil))) rfl (by kernel_rfl) ?_)
    refine R.go 2 (R.want (!decide ((LE1.map Prod.snd) = (jpR n xs))) false (by kernel_rfl) (nF hq1) ?_)
    refine R.go 1 (R.want (!decide ((LE1.map Prod.snd) = (jpR n xs))) false (by kernel_rfl) (nF hq1) ?_)
    refine R.go 1 (R.want (!decide ((LE1.map Prod.snd) = (jpR n xs))) false (by kernel_rfl) (nF hq1) ?_)
    refine R.go 1 (R.pick (!decide ((LE1.map Prod.snd) = (jpR n xs))) false (by kernel_rfl) (nF hq1) (by kernel_rfl) ?_)
    refine R.go 1 (R.els (!decide ((jkC n xs) = (jkC n xs))) (by kernel_rfl) (nF rfl) ?_)
    refine R.go 3 (R.meet (⟨(frm 96 [(0, .agg [AI n, .nam uo none 1 xs.length co]), (1, .ptr 1 0), (2, .bool false), (3, AI ((1048576 : Int) - xs.length)), (4, .nam uo2 none 1 (jpR n xs).length co3), (5, AI (jkC n xs)), (6, .ptr 5 0), (7, .ref 6), (8, AI (jkC n xs)), (14, .agg [AI n, .nam uo none 1 xs.length co]), (15, AI 1048576), (16, AI ((1048576 : Int) - xs.length)), (17, AI ((1048576 : Int) - xs.length)), (18, .bool (decide (((1048576 : Int) - xs.length) < 0))), (19, .tup [LLN (jpR n xs), AI (jkC n xs)]), (20, .agg [AI n, .nam uo none 1 xs.length co]), (21, .agg [AI n, LI xs]), (22, .tup [LLN (jpR n xs), AI (jkC n xs)]), (23, LLN (jpR n xs)), (24, AI (jkC n xs)), (25, .agg [AI n, .nam uo none 1 xs.length co]), (26, .agg [AI n, .ref 4]), (27, .tup [.ref 6, AI (jkC n xs)]), (28, .agg [AI n, .ref 4]), (29, .tup [.ref 6, AI (jkC n xs)]), (30, .ref 6), (31, AI (jkC n xs)), (32, .ref 6), (33, .nam uo2 none 1 (jpR n xs).length co3), (34, .bool (decide ((LE1.map Prod.snd) = (jpR n xs)))), (35, .bool (!decide ((LE1.map Prod.snd) = (jpR n xs)))), (36, .bool (!decide ((LE1.map Prod.snd) = (jpR n xs)))), (37, AI (jkC n xs)), (38, AI (jkC n xs)), (39, .bool (!decide ((jkC n xs) = (jkC n xs)))), (40, .bool (!decide ((jkC n xs) = (jkC n xs)))), (41, .agg [AI n, .ref 4]), (42, .agg [AI n, .nam uo none 1 xs.length co]), (43, .agg [AI n, .ref 7]), (44, .bool true), (45, .bool false)]), [.inert (.base b), .box 24 [AI n, .nam uo none 1 xs.length co], .dead, .dead, rowA eI 2 1 xs, .box 29 [AI n, .ref 4], rowA (eV eN 119 2) 38 1 LE1, rowA eI 2 1 xs]⟩ : St) (by kernel_rfl) ?_ ?_)
    · refine R.any (by decide +kernel) (by kernel_rfl) ?_
      refine R.any2 0 1 (by kernel_rfl) (by kernel_rfl) ?_ ?_
      · refine R.go 2 (R.any1 1 (by kernel_rfl) (by kernel_rfl) ?_)
        refine R.go 2 (R.any1 2 (by kernel_rfl) (by kernel_rfl) ?_)
        refine R.callW (avs0 := [.agg [AI n, .nam uo none 1 xs.length co]]) (toPoset_c n xs hl) (by kernel_rfl) (.cons (.agg (.cons (.leaf rfl) (.cons (.wk (.leaf hco.leafy) hco.fgt) (.nil)))) (.nil)) (by simp [AV.closed, closedL, AI, ownA_closed eI_closed]) (by kernel_rfl) ?_
        refine R.go 1 (R.any1 3 (by kernel_rfl) (by kernel_rfl) ?_)
        refine R.call false (eqPoset_c n xs (by first | omega | (simp <;> omega))) (by kernel_rfl) rfl (by kernel_rfl) ?_
        refine R.go 1 (R.any1 4 (by kernel_rfl) (by kernel_rfl) ?_)
        refine R.go 2 (R.any0 (by kernel_rfl) ?_)
        exact R.met (by kernel_rfl) (by kernel_rfl)
      · refine R.go 2 (R.any2 0 2 (by kernel_rfl) (by kernel_rfl) ?_ ?_)
        · refine R.go 2 (R.any1 2 (by kernel_rfl) (by kernel_rfl) ?_)
          refine R.callW (avs0 := [.agg [AI n, .nam uo none 1 xs.length co]]) (toPoset_c n xs hl) (by kernel_rfl) (.cons (.agg (.cons (.leaf rfl) (.cons (.wk (.leaf hco.leafy) hco.fgt) (.nil)))) (.nil)) (by simp [AV.closed, closedL, AI, ownA_closed eI_closed]) (by kernel_rfl) ?_
          refine R.go 1 (R.any1 3 (by kernel_rfl) (by kernel_rfl) ?_)
          refine R.call false (eqPoset_c n xs (by first | omega | (simp <;> omega))) (by kernel_rfl) rfl (by kernel_rfl) ?_
          refine R.go 1 (R.any1 4 (by kernel_rfl) (by kernel_rfl) ?_)
          refine R.go 2 (R.any0 (by kernel_rfl) ?_)
          exact R.met (by kernel_rfl) (by kernel_rfl)
        · refine R.callW (avs0 := [.agg [AI n, .nam uo none 1 xs.length co]]) (toPoset_c n xs hl) (by kernel_rfl) (.cons (.agg (.cons (.leaf rfl) (.cons (.wk (.leaf hco.leafy) hco.fgt) (.nil)))) (.nil)) (by simp [AV.closed, closedL, AI, ownA_closed eI_closed]) (by kernel_rfl) ?_
          refine R.go 1 (R.any1 0 (by kernel_rfl) (by kernel_rfl) ?_)
          refine R.go 2 (R.any1 3 (by kernel_rfl) (by kernel_rfl) ?_)
          refine R.call false (eqPoset_c n xs (by first | omega | (simp <;> omega))) (by kernel_rfl) rfl (by kernel_rfl) ?_
          refine R.go 1 (R.any1 4 (by kernel_rfl) (by kernel_rfl) ?_)
          refine R.go 2 (R.any0 (by kernel_rfl) ?_)
          exact R.met (by kernel_rfl) (by kernel_rfl)
    · refine R.go 10 (R.enter (avs := [.agg [AI n, .ref 4], AI 1]) Tryz.func13 rfl (by kernel_rfl) (by kernel_rfl) (by kernel_rfl) ?_)
      intro us12
      refine R.go 10 (R.enter (avs := [.ref 4, AI 1]) Tryz.func49 rfl (by kernel_rfl) (by kernel_rfl) (by kernel_rfl) ?_)
      intro us13
      refine R.go 10 (R.loop ((fun | (i1, ys1, q1) => (⟨(frm 19 [(0, .ref 4), (1, AI q1), (5, AI (i1 : Int))]), [.inert (.base b), .box 24 [AI n, .nam uo none 1 xs.length co], .dead, .dead, rowA eI 2 1 ys1, .box 29 [AI n, .ref 4], rowA (eV eN 119 2) 38 1 LE1, rowA eI 2 1 xs, .frame us12 (frm 96 [(0, .agg [AI n, .nam uo none 1 xs.length co]), (1, .ptr 1 0), (2, .bool false), (3, AI ((1048576 : Int) - xs.length)), (4, .nam uo2 none 1 (jpR n xs).length co3), (5, AI (jkC n xs)), (6, .ptr 5 0), (7, .ref 6), (8, AI (jkC n xs)), (9, AI 1), (14, .agg [AI n, .nam uo none 1 xs.length co]), (15, AI 1048576), (16, AI ((1048576 : Int) - xs.length)), (17, AI ((1048576 : Int) - xs.length)), (18, .bool (decide (((1048576 : Int) - xs.length) < 0))), (19, .tup [LLN (jpR n xs), AI (jkC n xs)]), (20, .agg [AI n, .nam uo none 1 xs.length co]), (21, .agg [AI n, LI xs]), (22, .tup [LLN (jpR n xs), AI (jkC n xs)]), (23, LLN (jpR n xs)), (24, AI (jkC n xs)), (25, .agg [AI n, .nam uo none 1 xs.length co]), (26, .agg [AI n, .ref 4]), (27, .tup [.ref 6, AI (jkC n xs)]), (28, .agg [AI n, .ref 4]), (29, .tup [.ref 6, AI (jkC n xs)]), (30, .ref 6), (31, AI (jkC n xs)), (32, .ref 6), (33, .nam uo2 none 1 (jpR n xs).length co3), (34, .bool (decide ((LE1.map Prod.snd) = (jpR n xs)))), (35, .bool (!decide ((LE1.map Prod.snd) = (jpR n xs)))), (36, .bool (!decide ((LE1.map Prod.snd) = (jpR n xs)))), (37, AI (jkC n xs)), (38, AI (jkC n xs)), (39, .bool (!decide ((jkC n xs) = (jkC n xs)))), (40, .bool (!decide ((jkC n xs) = (jkC n xs)))), (41, .agg [AI n, .ref 4]), (42, .agg [AI n, .nam uo none 1 xs.length co]), (43, .agg [AI n, .ref 7]), (44, .bool true), (45, .bool false), (46, .agg [AI n, .ref 4]), (47, AI 1)]), .box 29 [AI n, .ref 4], .frame us13 (frm 10 [(0, .agg [AI n, .ref 4]), (1, AI 1), (2, .ptr 9 0), (4, AI 0), (5, .ptr 9 1), (6, .ref 4), (7, AI 1)])]⟩ : St) : Nat × (List Int) × Int → St)) (fun | (i1, ys1, q1) => (i1 ≤ xs.length) ∧ (ys1 = markI xs 1 i1) ∧ (q1 = 1 + (i1 : Int))) (fun | (i1, ys1, q1) => xs.length - i1) (0, xs, 1) [0, 1, 5] none (by kernel_rfl) (by kernel_rfl) (by kernel_rfl) ⟨(by omega), (by exact markI_zero _ _), (by simp)⟩ ?_)
      rintro ⟨i1, ys1, q1⟩ ⟨h17_1, rfl, rfl⟩ R14 N15
      have hl1 : (markI xs 1 i1).length = xs.length := markI_length _ _ _ (by assumption)
      refine R.go 8 (R.cond ((i1 : Int) < ((markI xs 1 i1).length : Int)) (by kernel_rfl) (fun c18 => ?_) (fun c18 => ?_))
      · refine R.go 8 (R.idxO 4 1 (markI xs 1 i1).length i1 (i1 : Int) (by kernel_rfl) rfl (by omega) (by kernel_rfl) ?_)
        refine R.stI 4 2 (markI xs 1 i1) i1 (1 + (i1 : Int)) (by kernel_rfl) (by omega) (by kernel_rfl) ?_
        refine R.go 3 (R.ar ((1 + (i1 : Int)) + 1) (by kernel_rfl) (by omega) (by omega) (by kernel_rfl) ?_)
        refine R.go 5 (R.ar ((i1 : Int) + 1) (by kernel_rfl) (by omega) (by omega) (by kernel_rfl) ?_)
        exact R.go 2 (R.stop R14 (by kernel_rfl) (N15 (i1 + 1, (markI xs 1 i1).set i1 (1 + (i1 : Int)), (1 + (i1 : Int)) + 1) [0, 1, 5] none _ (by kernel_rfl) (by kernel_rfl) ⟨(by omega), (by exact markI_set _ _ _ (by omega) _ (by omega)), (by omega)⟩ (by show (xs.length - (i1 + 1)) < (xs.length - i1); omega)))
      · refine R.go 6 (R.back (AI (1 + (i1 : Int))) (frm 10 [(0, .agg [AI n, .ref 4]), (1, AI 1), (2, .ptr 9 0), (4, AI 0), (5, .ptr 9 1), (6, .ref 4), (7, AI 1)]) (by kernel_rfl) (by kernel_rfl) (by kernel_rfl) ?_)
        refine R.go 7 (R.back (AI (1 + (i1 : Int))) (frm 96 [(0, .agg [AI n, .nam uo none 1 xs.length co]), (1, .ptr 1 0), (2, .bool false), (3, AI ((1048576 : Int) - xs.length)), (4, .nam uo2 none 1 (jpR n xs).length co3), (5, AI (jkC n xs)), (6, .ptr 5 0), (7, .ref 6), (8, AI (jkC n xs)), (9, AI 1), (14, .agg [AI n, .nam uo none 1 xs.length co]), (15, AI 1048576), (16, AI ((1048576 : Int) - xs.length)), (17, AI ((1048576 : Int) - xs.length)), (18, .bool (decide (((1048576 : Int) - xs.length) < 0))), (19, .tup [LLN (jpR n xs), AI (jkC n xs)]), (20, .agg [AI n, .nam uo none 1 xs.length co]), (21, .agg [AI n, LI xs]), (22, .tup [LLN (jpR n xs), AI (jkC n xs)]), (23, LLN (jpR n xs)), (24, AI (jkC n xs)), (25, .agg [AI n, .nam uo none 1 xs.length co]), (26, .agg [AI n, .ref 4]), (27, .tup [.ref 6, AI (jkC n xs)]), (28, .agg [AI n, .ref 4]), (29, .tup [.ref 6, AI (jkC n xs)]), (30, .ref 6), (31, AI (jkC n xs)), (32, .ref 6), (33, .nam uo2 none 1 (jpR n xs).length co3), (34, .bool (decide ((LE1.map Prod.snd) = (jpR n xs)))), (35, .bool (!decide ((LE1.map Prod.snd) = (jpR n xs)))), (36, .bool (!decide ((LE1.map Prod.snd) = (jpR n xs)))), (37, AI (jkC n xs)), (38, AI (jkC n xs)), (39, .bool (!decide ((jkC n xs) = (jkC n xs)))), (40, .bool (!decide ((jkC n xs) = (jkC n xs)))), (41, .agg [AI n, .ref 4]), (42, .agg [AI n, .nam uo none 1 xs.length co]), (43, .agg [AI n, .ref 7]), (44, .bool true), (45, .bool false), (46, .agg [AI n, .ref 4]), (47, AI 1)]) (by kernel_rfl) (by kernel_rfl) (by kernel_rfl) ?_)
        refine R.go 8 ?_
        by_cases c19 : (1 + (i1 : Int)) < 0
        · refine R.skp (decide ((1 + (i1 : Int)) < 0)) false (by kernel_rfl) (dT c19) (by kernel_rfl) ?_
          refine R.skp (decide ((1 + (i1 : Int)) < 0)) false (by kernel_rfl) (dT c19) (by kernel_rfl) ?_
          refine R.skp (decide ((1 + (i1 : Int)) < 0)) false (by kernel_rfl) (dT c19) (by kernel_rfl) ?_
          refine R.skp (decide ((1 + (i1 : Int)) < 0)) false (by kernel_rfl) (dT c19) (by kernel_rfl) ?_
          refine R.pick (decide ((1 + (i1 : Int)) < 0)) true (by kernel_rfl) (dT c19) (by kernel_rfl) ?_
          exact R.go 11 (R.retB (.bool false) (by kernel_rfl) (by kernel_rfl) (by first | rfl | (rfl) | (exfalso; omega)))
        · refine R.want (decide ((1 + (i1 : Int)) < 0)) false (by kernel_rfl) (dF c19) ?_
          refine R.go 1 (R.want (decide ((1 + (i1 : Int)) < 0)) false (by kernel_rfl) (dF c19) ?_)
          refine R.go 1 (R.want (decide ((1 + (i1 : Int)) < 0)) false (by kernel_rfl) (dF c19) ?_)
          refine R.callW (avs0 := [.ref 6, .nam uo2 none 1 (jpR n xs).length co3]) (eqNodeSS_c (LE1.map Prod.snd) (jpR n xs) (by first | omega | (simp <;> omega)) (by assumption)) (by kernel_rfl) (.cons (.wk (.ref (e := 38) (s := 1) (n := LE1.length) (cs := rows (eV eN 119 2) LE1) (by kernel_rfl)) (fgtV (fun _ => rfl) _)) (.cons (.wk (.leaf ho4.leafy) ho4.fgt) (.nil))) rfl (by kernel_rfl) ?_
          refine R.want (decide ((1 + (i1 : Int)) < 0)) false (by kernel_rfl) (dF c19) ?_
          refine R.go 1 (R.pick (decide ((1 + (i1 : Int)) < 0)) false (by kernel_rfl) (dF c19) (by kernel_rfl) ?_)
          refine R.go 1 (R.want (!decide ((LE1.map Prod.snd) = (jpR n xs))) false (by kernel_rfl) (nF hq1) ?_)
          refine R.go 1 (R.want (!decide ((LE1.map Prod.snd) = (jpR n xs))) false (by kernel_rfl) (nF hq1) ?_)
          refine R.go 1 (R.want (!decide ((LE1.map Prod.snd) = (jpR n xs))) false (by kernel_rfl) (nF hq1) ?_)
          refine R.go 1 (R.pick (!decide ((LE1.map Prod.snd) = (jpR n xs))) false (by kernel_rfl) (nF hq1) (by kernel_rfl) ?_)
          refine R.go 1 (R.els (!decide ((jkC n xs) = (jkC n xs))) (by kernel_rfl) (nF rfl) ?_)
          refine R.go 9 (R.keepS [1, 4, 5, 7, 10, 62, 63] (by kernel_rfl) ?_)
          refine R.enter (avs := [.ref 6, AI 1]) Tryz.func14 rfl (by kernel_rfl) (by kernel_rfl) (by kernel_rfl) ?_
          intro us20
          refine R.go 10 (R.loop ((fun | (iv, LM, qv2) => (⟨(frm 19 [(0, .ref 6), (1, AI qv2), (5, AI (iv : Int))]), [.inert (.base b), .box 24 [AI n, .nam uo none 1 xs.length co], .dead, .dead, rowA eI 2 1 (markI xs 1 i1), .box 29 [AI n, .ref 4], rowA (eV eN 119 2) 38 1 LM, rowA eI 2 1 xs, .dead, .box 29 [AI n, .ref 4], .dead, .frame us20 (frm 96 [(1, .ptr 1 0), (4, .nam uo2 none 1 (jpR n xs).length co3), (5, AI (jkC n xs)), (7, .ref 6), (10, AI 1), (62, .ref 6), (63, AI 1)])]⟩ : St) : Nat × (List (Value × List (Int × Int))) × Int → St)) (fun | (iv, LM, qv2) => (iv ≤ (jpR n xs).length) ∧ (NL bE1 LM) ∧ (MkG marks 2 1 (jpR n xs) LM iv) ∧ (qv2 = 1 + 2 * (lenG (jpR n xs) iv : Int))) (fun | (iv, LM, qv2) => (jpR n xs).length - iv) (0, LE1, 1) [0, 1, 5] none (by kernel_rfl) (by kernel_rfl) (by kernel_rfl) ⟨(by omega), (by assumption), (by exact MkG.zero (by assumption)), (by simp [lenG])⟩ ?_)
          rintro ⟨iv, LM, qv2⟩ ⟨h24_1, h24_2, h24_3, rfl⟩ R21 N22
          have hml2 : LM.length = (jpR n xs).length := (‹MkG marks 2 1 (jpR n xs) LM iv›).1
          refine R.go 8 (R.cond ((iv : Int) < (LM.length : Int)) (by kernel_rfl) (fun c25 => ?_) (fun c25 => ?_))
          · have hnow2 := (‹MkG marks 2 1 (jpR n xs) LM iv›).now (by omega)
            have hxl2 : (LM.getD iv (.bool false, [])).2.length = ((jpR n xs).getD iv []).length := by rw [hnow2]
            have hst2 := lenG_step (jpR n xs) iv (by omega)
            refine R.go 6 (R.idxO 6 1 LM.length iv (iv : Int) (by kernel_rfl) rfl (by omega) (by kernel_rfl) ?_)
            refine R.ldE (eV eN 119 2) 1 0 LM (.bool false, []) iv (.nam ((LM.getD iv (.bool false, [])).1) (some 119) 2 ((LM.getD iv (.bool false, [])).2).length (rows eN ((LM.getD iv (.bool false, [])).2))) (by kernel_rfl) eV_len (by omega) rfl (by kernel_rfl) ?_
            refine R.go 1 (R.keepS [0, 1, 5, 15, 16] (by kernel_rfl) ?_)
            have hg26 := h24_2.at (.bool false, []) (i := iv) (by omega)
            refine R.thawV eN 119 2 38 LM iv (.bool false, []) 6 15 0 b (frm 19 [(0, .ref 6), (1, AI (1 + 2 * (lenG (jpR n xs) iv : Int))), (5, AI (iv : Int)), (16, AI (1 + 2 * (lenG (jpR n xs) iv : Int)))]) [.inert (.base b), .box 24 [AI n, .nam uo none 1 xs.length co], .dead, .dead, rowA eI 2 1 (markI xs 1 i1), .box 29 [AI n, .ref 4], .dead, rowA eI 2 1 xs, .dead, .box 29 [AI n, .ref 4], .dead, .frame us20 (frm 96 [(1, .ptr 1 0), (4, .nam uo2 none 1 (jpR n xs).length co3), (5, AI (jkC n xs)), (7, .ref 6), (10, AI 1), (62, .ref 6), (63, AI 1)])] (by kernel_rfl) (by kernel_rfl) (by omega) (h24_2.mono hbb9) eN_closed (by kernel_rfl) (by kernel_rfl) (by kernel_rfl) (by kernel_rfl) (safe_frm (List.forall_mem_cons.2 ⟨safe_ref, (List.forall_mem_cons.2 ⟨safe_int, (List.forall_mem_cons.2 ⟨safe_int, (List.forall_mem_cons.2 ⟨safe_int, (fun x h => absurd h (List.not_mem_nil))⟩)⟩)⟩)⟩)) (List.forall_mem_cons.2 ⟨trivial, (List.forall_mem_cons.2 ⟨(safeL_cons.2 ⟨safe_int, (safeL_cons.2 ⟨(hsf10 _ hg26), safeL_nil⟩)⟩), (List.forall_mem_cons.2 ⟨trivial, (List.forall_mem_cons.2 ⟨trivial, (List.forall_mem_cons.2 ⟨(safe_rows eI_closed _), (List.forall_mem_cons.2 ⟨(safeL_cons.2 ⟨safe_int, (safeL_cons.2 ⟨safe_ref, safeL_nil⟩)⟩), (List.forall_mem_cons.2 ⟨trivial, (List.forall_mem_cons.2 ⟨(safe_rows eI_closed _), (List.forall_mem_cons.2 ⟨trivial, (List.forall_mem_cons.2 ⟨(safeL_cons.2 ⟨safe_int, (safeL_cons.2 ⟨safe_ref, safeL_nil⟩)⟩), (List.forall_mem_cons.2 ⟨trivial, (List.forall_mem_cons.2 ⟨(safe_frm (List.forall_mem_cons.2 ⟨safe_ptr, (List.forall_mem_cons.2 ⟨(hsf11 _ hg26), (List.forall_mem_cons.2 ⟨safe_int, (List.forall_mem_cons.2 ⟨safe_ref, (List.forall_mem_cons.2 ⟨safe_int, (List.forall_mem_cons.2 ⟨safe_ref, (List.forall_mem_cons.2 ⟨safe_int, (fun x h => absurd h (List.not_mem_nil))⟩)⟩)⟩)⟩)⟩)⟩)⟩)), (fun x h => absurd h (List.not_mem_nil))⟩)⟩)⟩)⟩)⟩)⟩)⟩)⟩)⟩)⟩)⟩)⟩) ?_
            refine R.enter (avs := [.ref 12, AI (1 + 2 * (lenG (jpR n xs) iv : Int))]) Tryz.func50 rfl (by kernel_rfl) (by kernel_rfl) (by kernel_rfl) ?_
            intro us27
            refine R.go 10 (R.loop ((fun | (i2, ys2, q2) => (⟨(frm 27 [(0, .ref 12), (1, AI q2), (5, AI (i2 : Int))]), [.inert (.base b), .box 24 [AI n, .nam uo none 1 xs.length co], .dead, .dead, rowA eI 2 1 (markI xs 1 i1), .box 29 [AI n, .ref 4], weakRow eN 119 2 38 LM iv (.bool false, []), rowA eI 2 1 xs, .dead, .box 29 [AI n, .ref 4], .dead, .frame us20 (frm 96 [(1, .ptr 1 0), (4, .nam uo2 none 1 (jpR n xs).length co3), (5, AI (jkC n xs)), (7, .ref 6), (10, AI 1), (62, .ref 6), (63, AI 1)]), rowA eN 119 2 ys2, .frame [(LM.getD iv (.bool false, [])).1] [.ref 12], .frame us27 (frm 19 [(0, .ref 6), (1, AI (1 + 2 * (lenG (jpR n xs) iv : Int))), (5, AI (iv : Int)), (15, .ref 12), (16, AI (1 + 2 * (lenG (jpR n xs) iv : Int)))])]⟩ : St) : Nat × (List (Int × Int)) × Int → St)) (fun | (i2, ys2, q2) => (i2 ≤ ((LM.getD iv (.bool false, [])).2).length) ∧ (ys2 = markTo ((LM.getD iv (.bool false, [])).2) (1 + 2 * (lenG (jpR n xs) iv : Int)) i2) ∧ (q2 = 1 + 2 * (lenG (jpR n xs) iv : Int) + 2 * (i2 : Int))) (fun | (i2, ys2, q2) => ((LM.getD iv (.bool false, [])).2).length - i2) (0, ((LM.getD iv (.bool false, [])).2), (1 + 2 * (lenG (jpR n xs) iv : Int))) [0, 1, 5] none (by kernel_rfl) (by kernel_rfl) (by kernel_rfl) ⟨(by omega), (by exact markTo_zero _ _), (by simp)⟩ ?_)
            rintro ⟨i2, ys2, q2⟩ ⟨h31_1, rfl, rfl⟩ R28 N29
            have hl2 : (markTo ((LM.getD iv (.bool false, [])).2) (1 + 2 * (lenG (jpR n xs) iv : Int)) i2).length = ((LM.getD iv (.bool false, [])).2).length := markTo_length _ _ _ (by assumption)
            refine R.go 8 (R.cond ((i2 : Int) < ((markTo ((LM.getD iv (.bool false, [])).2) (1 + 2 * (lenG (jpR n xs) iv : Int)) i2).length : Int)) (by kernel_rfl) (fun c32 => ?_) (fun c32 => ?_))
            · refine R.go 8 (R.idxO 12 2 (markTo ((LM.getD iv (.bool false, [])).2) (1 + 2 * (lenG (jpR n xs) iv : Int)) i2).length i2 (i2 : Int) (by kernel_rfl) rfl (by first | omega | (simp only [List.length_set]; omega) | (simp <;> omega)) (by kernel_rfl) ?_)
              refine R.go 1 (R.stF eN 12 119 2 (markTo ((LM.getD iv (.bool false, [])).2) (1 + 2 * (lenG (jpR n xs) iv : Int)) i2) (0, 0) i2 0 (AI (1 + 2 * (lenG (jpR n xs) iv : Int) + 2 * (i2 : Int))) (1 + 2 * (lenG (jpR n xs) iv : Int) + 2 * (i2 : Int), ((markTo ((LM.getD iv (.bool false, [])).2) (1 + 2 * (lenG (jpR n xs) iv : Int)) i2).getD i2 (0, 0)).2) (by kernel_rfl) eN_len (by first | omega | (simp only [List.length_set]; omega) | (simp <;> omega)) (by decide) rfl (by kernel_rfl) ?_)
              refine R.go 4 (R.ar ((1 + 2 * (lenG (jpR n xs) iv : Int) + 2 * (i2 : Int)) + 1) (by kernel_rfl) (by omega) (by omega) (by kernel_rfl) ?_)
              refine R.go 7 (R.idxO 12 2 ((markTo ((LM.getD iv (.bool false, [])).2) (1 + 2 * (lenG (jpR n xs) iv : Int)) i2).set i2 (1 + 2 * (lenG (jpR n xs) iv : Int) + 2 * (i2 : Int), ((markTo ((LM.getD iv (.bool false, [])).2) (1 + 2 * (lenG (jpR n xs) iv : Int)) i2).getD i2 (0, 0)).2)).length i2 (i2 : Int) (by kernel_rfl) rfl (by first | omega | (simp only [List.length_set]; omega) | (simp <;> omega)) (by kernel_rfl) ?_)
              refine R.go 1 (R.stF eN 12 119 2 ((markTo ((LM.getD iv (.bool false, [])).2) (1 + 2 * (lenG (jpR n xs) iv : Int)) i2).set i2 (1 + 2 * (lenG (jpR n xs) iv : Int) + 2 * (i2 : Int), ((markTo ((LM.getD iv (.bool false, [])).2) (1 + 2 * (lenG (jpR n xs) iv : Int)) i2).getD i2 (0, 0)).2)) (0, 0) i2 1 (AI ((1 + 2 * (lenG (jpR n xs) iv : Int) + 2 * (i2 : Int)) + 1)) ((((markTo ((LM.getD iv (.bool false, [])).2) (1 + 2 * (lenG (jpR n xs) iv : Int)) i2).set i2 (1 + 2 * (lenG (jpR n xs) iv : Int) + 2 * (i2 : Int), ((markTo ((LM.getD iv (.bool false, [])).2) (1 + 2 * (lenG (jpR n xs) iv : Int)) i2).getD i2 (0, 0)).2)).getD i2 (0, 0)).1, (1 + 2 * (lenG (jpR n xs) iv : Int) + 2 * (i2 : Int)) + 1) (by kernel_rfl) eN_len (by first | omega | (simp only [List.length_set]; omega) | (simp <;> omega)) (by decide) rfl (by kernel_rfl) ?_)
              refine R.go 3 (R.ar (((1 + 2 * (lenG (jpR n xs) iv : Int) + 2 * (i2 : Int)) + 1) + 1) (by kernel_rfl) (by omega) (by omega) (by kernel_rfl) ?_)
              refine R.go 5 (R.ar ((i2 : Int) + 1) (by kernel_rfl) (by omega) (by omega) (by kernel_rfl) ?_)
              exact R.go 2 (R.stop R28 (by kernel_rfl) (N29 (i2 + 1, ((markTo ((LM.getD iv (.bool false, [])).2) (1 + 2 * (lenG (jpR n xs) iv : Int)) i2).set i2 (1 + 2 * (lenG (jpR n xs) iv : Int) + 2 * (i2 : Int), ((markTo ((LM.getD iv (.bool false, [])).2) (1 + 2 * (lenG (jpR n xs) iv : Int)) i2).getD i2 (0, 0)).2)).set i2 ((((markTo ((LM.getD iv (.bool false, [])).2) (1 + 2 * (lenG (jpR n xs) iv : Int)) i2).set i2 (1 + 2 * (lenG (jpR n xs) iv : Int) + 2 * (i2 : Int), ((markTo ((LM.getD iv (.bool false, [])).2) (1 + 2 * (lenG (jpR n xs) iv : Int)) i2).getD i2 (0, 0)).2)).getD i2 (0, 0)).1, (1 + 2 * (lenG (jpR n xs) iv : Int) + 2 * (i2 : Int)) + 1), ((1 + 2 * (lenG (jpR n xs) iv : Int) + 2 * (i2 : Int)) + 1) + 1) [0, 1, 5] none _ (by kernel_rfl) (by kernel_rfl) ⟨(by omega), (by exact markTo_set _ _ _ (by omega) _ _ (by rw [getD_set_eq _ _ _ _ (by omega)])), (by omega)⟩ (by show (((LM.getD iv (.bool false, [])).2).length - (i2 + 1)) < (((LM.getD iv (.bool false, [])).2).length - i2); omega)))
            · refine R.go 6 (R.back (AI (1 + 2 * (lenG (jpR n xs) iv : Int) + 2 * (i2 : Int))) (frm 19 [(0, .ref 6), (1, AI (1 + 2 * (lenG (jpR n xs) iv : Int))), (5, AI (iv : Int)), (15, .ref 12), (16, AI (1 + 2 * (lenG (jpR n xs) iv : Int)))]) (by kernel_rfl) (by kernel_rfl) (by kernel_rfl) ?_)
              refine R.repinV eN 119 2 38 LM iv (.bool false, []) 6 12 (markTo ((LM.getD iv (.bool false, [])).2) (1 + 2 * (lenG (jpR n xs) iv : Int)) i2) (by kernel_rfl) (by kernel_rfl) (by omega) (by kernel_rfl) (by kernel_rfl) rfl ?_
              refine R.go 5 (R.ar ((iv : Int) + 1) (by kernel_rfl) (by omega) (by omega) (by kernel_rfl) ?_)
              exact R.go 2 (R.stop R21 (by kernel_rfl) (N22 (iv + 1, LM.set iv ((LM.getD iv (.bool false, [])).1, markTo ((LM.getD iv (.bool false, [])).2) (1 + 2 * (lenG (jpR n xs) iv : Int)) i2), 1 + 2 * (lenG (jpR n xs) iv : Int) + 2 * (i2 : Int)) [0, 1, 5] (some [0, 1, 2, 3, 4, 5, 6, 7, 8, 9, 10, 11]) _ (by kernel_rfl) (by kernel_rfl) ⟨(by omega), (by exact NL.set (by assumption) _ _ _ (by omega)), (by exact MkG.set (by assumption) (by omega) (mkN_row hnow2 (by omega))), (by rw [lenG]; omega)⟩ (by show ((jpR n xs).length - (iv + 1)) < ((jpR n xs).length - iv); omega)))
          · refine R.go 6 (R.back (AI (1 + 2 * (lenG (jpR n xs) iv : Int))) (frm 96 [(1, .ptr 1 0), (4, .nam uo2 none 1 (jpR n xs).length co3), (5, AI (jkC n xs)), (7, .ref 6), (10, AI 1), (62, .ref 6), (63, AI 1)]) (by kernel_rfl) (by kernel_rfl) (by kernel_rfl) ?_)
            have hie : iv = (jpR n xs).length := by omega
            have hall := MkG.all marks_length (‹MkG marks 2 1 (jpR n xs) LM iv›) (by omega)
            have hx1 : HdG marks 2 1 (List.map Prod.snd LM) := hall.1
            have hx2 := hall.2.1
            have hx3 := hall.2.2
            have hq3 : lenG (jpR n xs) iv = lenG (jpR n xs) (jpR n xs).length := by rw [hie]
            refine R.go 10 (R.callW (avs0 := [.ref 6, AI 1]) (heldNodeSS_c (LM.map Prod.snd) 1 (by first | omega | (simp <;> omega)) (by first | omega | (simp <;> omega)) (by assumption)) (by kernel_rfl) (.cons (.wk (.ref (e := 38) (s := 1) (n := LM.length) (cs := rows (eV eN 119 2) LM) (by kernel_rfl)) (fgtV (fun _ => rfl) _)) (.cons (.leaf rfl) (.nil))) rfl (by kernel_rfl) ?_)
            refine R.go 8 (R.cond ((1 + 2 * (lenG (LM.map Prod.snd) (LM.map Prod.snd).length : Int)) < 0) (by kernel_rfl) (fun c33 => ?_) (fun c33 => ?_))
            · exact R.go 4 (R.retB (.bool false) (by kernel_rfl) (by kernel_rfl) (by first | rfl | (rfl) | (exfalso; omega)))
            · refine R.go 8 (R.condN ((1 + 2 * (lenG (LM.map Prod.snd) (LM.map Prod.snd).length : Int)) = (1 + 2 * (lenG (jpR n xs) iv : Int))) (by kernel_rfl) (fun c34 => ?_) (fun c34 => ?_))
              · exact R.go 4 (R.retB (.bool false) (by kernel_rfl) (by kernel_rfl) (by first | rfl | (rfl) | (exfalso; omega)))
              · refine R.go 4 (R.callW (avs0 := [.agg [AI n, .nam uo none 1 xs.length co]]) (toPoset_c n xs hl) (by kernel_rfl) (.cons (.agg (.cons (.leaf rfl) (.cons (.wk (.leaf hco.leafy) hco.fgt) (.nil)))) (.nil)) (by simp [AV.closed, closedL, AI, ownA_closed eI_closed]) (by kernel_rfl) ?_)
                refine R.callE (avs0 := [.agg [AI n, .ref 12]]) (JankovPremises_c n xs hl) (by kernel_rfl) (.cons (.agg (.cons (.leaf rfl) (.cons (.ref (e := 2) (s := 1) (n := xs.length) (cs := rows eI xs) (by kernel_rfl)) (.nil)))) (.nil)) (JankovPremises_c_cl n xs) (by kernel_rfl) ?_
                intro bE2 hbn35 hsn36 rn37 hrn38
                obtain ⟨LE2, rfl, heE2_1, heE2_2⟩ := hrn38
                have hbb39 : b ≤ bE2 := hbn35 0 b (by kernel_rfl)
                clear hbn35 hsn36
                have hq2 : (LE2.map Prod.snd) = (jpR n xs) := heE2_2
                have hv2 := jvF heE2_2
                have hv2a := hv2.2.1
                have hv2b : ∀ j : Nat, j < (List.map Prod.snd LE2).length → ((List.map Prod.snd LE2).getD j []).length ≤ 1000000000 := hv2.2.2
                refine R.go 11 (R.callW (avs0 := [.ref 13, .nam uo2 none 1 (jpR n xs).length co3]) (eqNodeSS_c (LE2.map Prod.snd) (jpR n xs) (by first | omega | (simp <;> omega)) (by assumption)) (by kernel_rfl) (.cons (.wk (.ref (e := 38) (s := 1) (n := LE2.length) (cs := rows (eV eN 119 2) LE2) (by kernel_rfl)) (fgtV (fun _ => rfl) _)) (.cons (.wk (.leaf ho4.leafy) ho4.fgt) (.nil))) rfl (by kernel_rfl) ?_)
                refine R.go 2 (R.want (!decide ((LE2.map Prod.snd) = (jpR n xs))) false (by kernel_rfl) (nF hq2) ?_)
                refine R.go 1 (R.want (!decide ((LE2.map Prod.snd) = (jpR n xs))) false (by kernel_rfl) (nF hq2) ?_)
                refine R.go 1 (R.want (!decide ((LE2.map Prod.snd) = (jpR n xs))) false (by kernel_rfl) (nF hq2) ?_)
                refine R.go 1 (R.pick (!decide ((LE2.map Prod.snd) = (jpR n xs))) false (by kernel_rfl) (nF hq2) (by kernel_rfl) ?_)
                refine R.go 1 (R.els (!decide ((jkC n xs) = (jkC n xs))) (by kernel_rfl) (nF rfl) ?_)
                refine R.go 9 (R.callW (avs0 := [.ref 6, AI 1]) (heldNodeSS_c (LM.map Prod.snd) 1 (by first | omega | (simp <;> omega)) (by first | omega | (simp <;> omega)) (by assumption)) (by kernel_rfl) (.cons (.wk (.ref (e := 38) (s := 1) (n := LM.length) (cs := rows (eV eN 119 2) LM) (by kernel_rfl)) (fgtV (fun _ => rfl) _)) (.cons (.leaf rfl) (.nil))) rfl (by kernel_rfl) ?_)
                refine R.go 8 (R.els (decide ((1 + 2 * (lenG (LM.map Prod.snd) (LM.map Prod.snd).length : Int)) < 0)) (by kernel_rfl) (dF c33) ?_)
                refine R.go 8 (R.els (!decide ((1 + 2 * (lenG (LM.map Prod.snd) (LM.map Prod.snd).length : Int)) = (1 + 2 * (lenG (jpR n xs) iv : Int)))) (by kernel_rfl) (nF c34) ?_)
                exact R.go 5 (R.retB (.bool true) (by kernel_rfl) (by kernel_rfl) (rfl))
theorem lawJankovPremises_in (n : Int) (xs : List Int) (hl : xs.length ≤ 1048576) : CallA Tryz.prog 3 [.agg [AI n, LI xs]] (.bool true) :=
  CallA.nameP (enters_of Tryz.func3 (by kernel_rfl) rfl) (nameable_LI xs) fun uo co hco => CallE.toA (lawJankovPremises_inE n xs uo co hco hl)

theorem lawJankovPremises_1 (n : Int) (xs : List Int) (hx : 1048576 < xs.length) (hb : xs.length ≤ 9223372036854775807) : CallA Tryz.prog 3 [.agg [AI n, LI xs]] (.bool true) := by
  refine CallA.of Tryz.func3 rfl (by kernel_rfl) ?_
  refine R.go 13 (R.call true (szPoset_no n xs 1048576 (by omega) (by first | omega | (simp <;> omega)) hb) (by kernel_rfl) rfl (by kernel_rfl) ?_)
  exact R.go 13 (R.retE (.bool true) (by kernel_rfl) (by kernel_rfl) (by rfl))

theorem lawJankovPremises (n : Int) (xs : List Int) (m0 : xs.length ≤ maxLen) : CallA Tryz.prog 3 [.agg [AI n, LI xs]] (.bool true) := by
  have hm : maxLen ≤ 9223372036854775807 := by decide
  rcases Nat.lt_or_ge 1048576 (xs.length) with h0 | h0
  · exact lawJankovPremises_1 n xs h0 (by omega)
  exact lawJankovPremises_in n xs h0

end Go.Proofs.YtalfakdiinhdnaaGreat
