/- Texts of the proof: Symb, Symc, HN, Sym3, SymM, Sym0, Sym4. -/
import Derived.Laws.StructEq
import Derived.Test.YtjllngcefoohpaaGreatPartG

/-! Calls of which is told that there is a result with some facts, which may speak of the first block that the call made; calls by value whose arguments are told less of. -/
namespace Go.Abs
open Go.RowKit

def CallE (P : Program) (f : FuncId) (args : List AV) (Φ : Nat → AV → Prop) : Prop :=
  Enters P f ∧ ∀ (Z0 : Nat → Prop) (w : World) (vs : List Value), RelL w (Zone Z0 NoF w.heap.size) [] args vs →
    Calls P f vs.toArray w fun e w' => ∃ res v bs F', Φ w.heap.size res ∧ e = .returned v ∧ (∀ b, F' b → w.heap.size ≤ b ∧ b < w'.heap.size) ∧ RF w' (Zone Z0 F' w.heap.size) w.heap.size res v bs ∧ bs.Nodup ∧ (∀ b ∈ bs, ¬ F' b) ∧ Below w.heap.size w w'

theorem CallE.toA {P : Program} {f : FuncId} {args : List AV} {res : AV} (h : CallE P f args fun _ r => r = res) : CallA P f args res := by
  refine ⟨h.1, fun Z0 w vs hvs => (h.2 Z0 w vs hvs).mono ?_⟩
  rintro e w' ⟨r, v, bs, F', hr, hh⟩
  subst hr
  exact ⟨v, bs, F', hh⟩

theorem CallE.mono {P : Program} {f : FuncId} {args : List AV} {Φ Ψ : Nat → AV → Prop} (h : CallE P f args Φ) (h' : ∀ b r, Φ b r → Ψ b r) : CallE P f args Ψ := by
  refine ⟨h.1, fun Z0 w vs hvs => (h.2 Z0 w vs hvs).mono ?_⟩
  rintro e w' ⟨r, v, bs, F', hr, h⟩
  exact ⟨r, v, bs, F', h' _ _ hr, h⟩

/-- A result; object 0 is the base. -/
def resB (P : Program) (fn : Func) (st : St) : Option AV :=
  match st.hp[0]? with
  | some (AObj.inert (Inert.base _)) => if noMark st.hp then resOf P fn ⟨st.fr, st.hp.set 0 AObj.dead⟩ else none
  | _ => none

/-- How a function's body ends that hands back something with Φ. -/
def retE (P : Program) (fn : Func) (b : Nat) (Φ : Nat → AV → Prop) : Exit → St → Prop := fun e st' => (e = .normal ∨ e = .ret) ∧ ∃ res, Φ b res ∧ resB P fn st' = some res

theorem R.retB {P : Program} {m : M} {fn : Func} {b : Nat} {Φ : Nat → AV → Prop} (res : AV) (h : (edAt m).isSome = true) (hr : resB P fn m.st = some res) (hΦ : Φ b res) : Runs none P m (Go.Abs.retE P fn b Φ) :=
  R.fin h ⟨.inl rfl, res, hΦ, hr⟩ ⟨.inr rfl, res, hΦ, hr⟩

theorem k27 {P : Program} {m : M} {fn : Func} {b : Nat} {Φ : Nat → AV → Prop} (res : AV) (hΦ : Φ b res) (h : (edAt m).isSome = true := by kernel_rfl) (hr : resB P fn m.st = some res := by kernel_rfl) : Runs none P m (Go.Abs.retE P fn b Φ) := _root_.Go.Abs.R.retB res h hr hΦ
theorem CallE.of {P : Program} {f : FuncId} {fn : Func} {c : Code} {args : List AV} {Φ : Nat → AV → Prop} (hf : P.funcs[f]? = some fn) (hb : fn.body = some c) (hnm : (fn.name == "runtime.NumGoroutine") = false)
    (h : ∀ b, Runs none P ⟨[.code c], ⟨frameOf fn.ntmps args, [.inert (.base b)]⟩⟩ (retE P fn b Φ)) : CallE P f args Φ := by
  refine ⟨enters_of hf hnm (by rw [hb]; rfl), ?_⟩
  intro Z0 w vs hvs
  have hlen := hvs.length
  refine callsIn_wide.1 (callsIn_of_wp_marks (F := Fence.wide) (n := 0) hf hb trivial ?_)
  have hS : Sim Z0 w ⟨args ++ List.replicate (fn.ntmps - args.length) .top, [.inert (.base w.heap.size)]⟩ { tmps := vs.toArray ++ Array.replicate (fn.ntmps - vs.toArray.size) undef, defers := [] } w := by
    have one : ∀ {i : Nat} {α : Type} {x y : α}, ([x] : List α)[i]? = some y → i = 0 ∧ y = x := by
      intro i α x y h
      cases i with
      | zero => simp at h; exact ⟨rfl, h.symm⟩
      | succ i => simp at h
    refine ⟨[.bool false], NoF, fun b h => h.elim, ⟨rfl, fun i o u g h1 h2 h3 hg => ?_, fun i u h => ?_, fun i o u h1 h2 => ?_, fun i j oi oj ui uj g hne h1 h2 => ?_⟩, ?_, .inl rfl, Below.refl _ _⟩
    · obtain ⟨_, rfl⟩ := one h3
      cases hg
    · obtain ⟨_, rfl⟩ := one h
      rfl
    · obtain ⟨_, rfl⟩ := one h1
      obtain ⟨_, rfl⟩ := one h2
      exact ⟨rfl, rfl⟩
    · exact absurd ((one h1).1.trans (one h2).1.symm) hne
    simp only [Array.toList_append, Array.toList_replicate, List.size_toArray, hlen]
    refine (RelL.lift hvs).append ?_
    generalize fn.ntmps - args.length = n
    induction n with
    | zero => exact RelL.nil
    | succ n ih => exact RelL.cons (by simp [Rel]) ih
  refine wpIn_mono ((h w.heap.size).out Z0 w _ w hS) ?_
  have fin : ∀ (st' : St) (a' : Act) (w' : World) res, Φ w.heap.size res → resB P fn st' = some res → Sim Z0 w st' a' w' → LeavesInM Fence.wide 0 P fn a'.tmps (fun e w'' => ∃ res v' bs F', Φ w.heap.size res ∧ e = .returned v' ∧ (∀ b, F' b → w.heap.size ≤ b ∧ b < w''.heap.size) ∧ RF w'' (Zone Z0 F' w.heap.size) w.heap.size res v' bs ∧ bs.Nodup ∧ (∀ b ∈ bs, ¬ F' b) ∧ Below w.heap.size w w'') a'.defers .returning w' := by
    rintro st' a' w' res hΦ hr ⟨μ, F, hFb, hH, hF, hd, hbel⟩
    unfold resB at hr
    split at hr
    · rename_i b hb0
      split at hr
      · rename_i hnm
        have hr := resOf_parts hr
        rw [hd.none hnm]
        obtain ⟨x, bs, h1, h2, h3, h4⟩ := resOf_run (st := ⟨st'.fr, st'.hp.set 0 .dead⟩) (hH.bury 0) hF hr.1
        have hge := RF.ge h2
        refine ⟨x, h1, res, x, bs, F, hΦ, rfl, hFb, h2, h3, fun b hb hf => ?_, hbel⟩
        have := hge b hb
        exact (h4 b hb).elim (fun h => absurd h.1 (by omega)) (fun h => h.2 hf)
      · cases hr
    · cases hr
  rintro e a' w' ⟨st', ⟨hq, res, hΦ, hr⟩, hS'⟩
  rcases hq with rfl | rfl
  · exact fin st' a' w' res hΦ hr hS'
  · exact fin st' a' w' res hΦ hr hS'

/-! ### Results that lead into new blocks alone -/
mutual
def ClosedN (b : Nat) : AV → Prop
  | .nam v _ _ _ cs => closedL cs = true ∧ ∀ g, blk v = some g → b ≤ g
  | .own _ _ _ cs => ClosedNL b cs
  | .agg cs => ClosedNL b cs
  | .tup cs => ClosedNL b cs
  | .int _ _ => True
  | .bool _ => True
  | .str _ => True
  | .nil => True
  | .top => True
  | .lst _ _ _ => False
  | .clp _ _ _ => False
  | .rptr _ => False
  | .fn _ _ => False
  | .ref _ => False
  | .ptr _ _ => False
def ClosedNL (b : Nat) : List AV → Prop
  | [] => True
  | c :: cs => ClosedN b c ∧ ClosedNL b cs
end

theorem closedNL_iff {b : Nat} : ∀ {cs : List AV}, ClosedNL b cs ↔ ∀ c ∈ cs, ClosedN b c
  | [] => by simp [ClosedNL]
  | c :: cs => by rw [ClosedNL, closedNL_iff]; simp

mutual
theorem Rel.shutN {w : World} {Z Z' : Nat → Prop} {b : Nat} (hz : ∀ g, b ≤ g → ¬ Z g → ¬ Z' g) : ∀ {c : AV} {v : Value}, ClosedN b c → Rel w Z [] c v → Rel w Z' [] c v
  | .nam u o s n cs, v, hc, h => by
    simp only [Rel] at h ⊢
    simp only [ClosedN] at hc
    obtain ⟨⟨rfl, h00⟩, A, c, xs, h1, h2, h3, h4, h5⟩ := h
    refine ⟨⟨rfl, fun e he => ?_⟩, A, c, xs, h1, h2, h3, fun hx => ?_, RelL.shut hc.1 h5⟩
    · obtain ⟨ys, k1, k2⟩ := h00 e he
      exact ⟨ys, k1, fun g hg => hz g (hc.2 g hg) (k2 g hg)⟩
    · obtain ⟨ad, rfl, k1, k2⟩ := h4 hx
      exact ⟨ad, rfl, hz _ (hc.2 _ (by rw [h1]; rfl)) k1, k2⟩
  | .agg cs, v, hc, h => by
    simp only [Rel] at h ⊢
    simp only [ClosedN] at hc
    obtain ⟨xs, h1, h2⟩ := h
    exact ⟨xs, h1, RelL.shutN hz hc h2⟩
  | .tup cs, v, hc, h => by
    simp only [Rel] at h ⊢
    simp only [ClosedN] at hc
    obtain ⟨xs, h1, h2⟩ := h
    exact ⟨xs, h1, RelL.shutN hz hc h2⟩
  | .int _ _, _, _, h => by simpa [Rel] using h
  | .bool _, _, _, h => by simpa [Rel] using h
  | .str _, _, _, h => by simpa [Rel] using h
  | .nil, _, _, h => by simpa [Rel] using h
  | .top, _, _, h => by simp [Rel]
  | .own _ _ _ _, _, _, h => by simp [Rel] at h
  | .lst _ _ _, _, hc, _ => by simp [ClosedN] at hc
  | .clp _ _ _, _, hc, _ => by simp [ClosedN] at hc
  | .rptr _, _, hc, _ => by simp [ClosedN] at hc
  | .fn _ _, _, hc, _ => by simp [ClosedN] at hc
  | .ref _, _, hc, _ => by simp [ClosedN] at hc
  | .ptr _ _, _, hc, _ => by simp [ClosedN] at hc
theorem RelL.shutN {w : World} {Z Z' : Nat → Prop} {b : Nat} (hz : ∀ g, b ≤ g → ¬ Z g → ¬ Z' g) : ∀ {cs : List AV} {vs : List Value}, ClosedNL b cs → RelL w Z [] cs vs → RelL w Z' [] cs vs
  | [], _, _, h => by simpa [RelL] using h
  | c :: cs, _, hc, h => by
    simp only [RelL] at h ⊢
    simp only [ClosedNL] at hc
    obtain ⟨x, xs, h1, h2, h3⟩ := h
    exact ⟨x, xs, h1, Rel.shutN hz hc.1 h2, RelL.shutN hz hc.2 h3⟩
end

mutual
theorem RF.shutN {w : World} {Z Z' : Nat → Prop} {b B' : Nat} (hB : B' ≤ b) (hz : ∀ g, b ≤ g → ¬ Z g → ¬ Z' g) : ∀ {c : AV} {v : Value} {bs : List Nat}, ClosedN b c → RF w Z b c v bs → RF w Z' B' c v bs
  | .own e s n cs, v, bs, hc, h => by
    simp only [RF] at h ⊢
    simp only [ClosedN] at hc
    obtain ⟨xs, h1, h2, h3⟩ := h
    exact ⟨xs, ownsRow_from h1 (fun g hg => by
      rcases h1.2 with ⟨rfl, _⟩ | ⟨g', cap, cur, rfl, k1, _⟩
      · cases hg
      · cases hg; exact Nat.le_trans hB k1), RelL.shutN hz hc h2, h3⟩
  | .agg cs, v, bs, hc, h => by
    simp only [RF] at h ⊢
    simp only [ClosedN] at hc
    obtain ⟨xs, h1, h2⟩ := h
    exact ⟨xs, h1, RFL.shutN hB hz hc h2⟩
  | .tup cs, v, bs, hc, h => by
    simp only [RF] at h ⊢
    simp only [ClosedN] at hc
    obtain ⟨xs, h1, h2⟩ := h
    exact ⟨xs, h1, RFL.shutN hB hz hc h2⟩
  | .nam u o s n cs, v, bs, hc, h => by
    simp only [RF] at h ⊢
    exact ⟨Rel.shutN hz hc h.1, h.2⟩
  | .int _ _, _, _, _, h => by simpa [RF] using h
  | .bool _, _, _, _, h => by simpa [RF] using h
  | .str _, _, _, _, h => by simpa [RF] using h
  | .nil, _, _, _, h => by simpa [RF] using h
  | .top, _, _, _, h => by simpa [RF] using h
  | .lst _ _ _, _, _, hc, _ => by simp [ClosedN] at hc
  | .clp _ _ _, _, _, hc, _ => by simp [ClosedN] at hc
  | .rptr _, _, _, hc, _ => by simp [ClosedN] at hc
  | .fn _ _, _, _, hc, _ => by simp [ClosedN] at hc
  | .ref _, _, _, hc, _ => by simp [ClosedN] at hc
  | .ptr _ _, _, _, hc, _ => by simp [ClosedN] at hc
theorem RFL.shutN {w : World} {Z Z' : Nat → Prop} {b B' : Nat} (hB : B' ≤ b) (hz : ∀ g, b ≤ g → ¬ Z g → ¬ Z' g) : ∀ {cs : List AV} {vs : List Value} {bs : List Nat}, ClosedNL b cs → RFL w Z b cs vs bs → RFL w Z' B' cs vs bs
  | [], _, _, _, h => by simpa [RFL] using h
  | c :: cs, _, _, hc, h => by
    simp only [RFL] at h ⊢
    simp only [ClosedNL] at hc
    obtain ⟨x, xs, b1, b2, h1, h2, h3, h4⟩ := h
    exact ⟨x, xs, b1, b2, h1, RF.shutN hB hz hc.1 h2, RFL.shutN hB hz hc.2 h3, h4⟩
end

theorem OpsQ.callE {rd : Option Nat} {P : Program} {all : Array Oper} {o : Oper} {l : List Oper} {fr : List AV} {hp : List AObj} {R : Exit → St → Prop} {c : Operand} {args : Array Operand} {tys : Array TypeId} {f : FuncId} {caps avs : List AV} {Φ : Nat → AV → Prop} (hw : WantedA all o fr)
    (hop : o.op = .call { callee := .value c, args := args, argTypes := tys }) (hc : ev fr c = .fn f caps) (hs : SnapL hp (args.toList.map (ev fr) ++ caps) avs) (hcall : CallE P f avs Φ) (hcl : ∀ b r, Φ b r → ClosedN b r) (hnm : noMark hp = true)
    (h' : ∀ b1, (∀ (k b : Nat), hp[k]? = some (.inert (.base b)) → b ≤ b1) → (∀ u, InS u ⟨fr, hp⟩ → ∀ g, blk u = some g → g < b1) → ∀ res, Φ b1 res → OpsQ rd P all l ⟨putF fr o.dst (imp hp.length res).1, hp ++ (imp hp.length res).2⟩ R) : OpsQ rd P all (o :: l) ⟨fr, hp⟩ R := by
  intro Z0 w0 a w hS
  refine wpListIn_step fun K hK => ?_
  obtain ⟨μ, F, hFb, hH, hF, hd, hb⟩ := hS
  rw [wanted_rel hF hw, if_pos rfl]
  have hB : w0.heap.size ≤ w.heap.size := hb.size
  have hE : ∀ y, Rel w (Zone Z0 F w0.heap.size) μ (ev fr y) (a.eval y) := fun y => ev_rel hF y
  have hcv := hc ▸ hE c
  simp only [Rel] at hcv
  obtain ⟨cv, hcv, hrc⟩ := hcv
  have hargs' : RelL w (Zone Z0 F w0.heap.size) μ (args.toList.map (ev fr)) (args.toList.map a.eval) := by
    generalize args.toList = l
    induction l with
    | nil => exact RelL.nil
    | cons x l ih => exact RelL.cons (hE x) ih
  have hall : RelL w (Zone (fun _ => False) NoF w.heap.size) [] avs (args.toList.map a.eval ++ cv) := RelL.weak (fun b hb hz hz2 => hz2.elim (fun h => h.2) (fun h => hz h.1)) (SnapL.sound hH hs (hargs'.append hrc))
  obtain ⟨hen, hcall⟩ := hcall
  have hC := hcall (fun _ => False) w _ hall
  have hrun : (execOp a.eval o).run P w = .ok (.enter f (args.toList.map a.eval ++ cv).toArray) w := by
    have e1 : (args.map a.eval ++ cv.toArray) = (args.toList.map a.eval ++ cv).toArray := by
      apply Array.toList_inj.1; simp
    simp only [execOp, hop, resolve, Deferred.ofValue, hcv, Sem.run_bind, Sem.run_pure, Result.andThen_ok, invoke, Array.empty_append]
    rw [e1]
    exact hen _ _
  refine wpIn_of_run (fun c' => by rw [hop]; simp) ?_
  rw [hrun]
  refine upon_enter hC ?_
  rintro en w' ⟨res, x, bs, F', hΦ, rfl, hF', hrf, hnd, hbf, hbel⟩
  have hrf2 : RF w' (Zone Z0 (fun b => F b ∨ F' b) w0.heap.size) w0.heap.size res x bs := RF.shutN hB (fun g hg hz hzz => hzz.elim (fun h => by omega) (fun h => h.2 (.inr (Classical.byContradiction fun hf => hz (.inr ⟨hg, hf⟩))))) (hcl _ _ hΦ) hrf
  obtain ⟨μs, ht, hr⟩ := imp_sound μ hp.length hH.len hrf2
  have hzo : ∀ b, b < w.heap.size → ¬ Zone Z0 F w0.heap.size b → ¬ Zone Z0 (fun b => F b ∨ F' b) w0.heap.size b := fun b _ hz => zone_more b hz
  refine ⟨x, rfl, hK _ _ (h' w.heap.size (fun k b hk => ?_) (fun u hu g hg => (InS.of hH hF hg hu).1) res hΦ Z0 w0 _ _ ⟨μ ++ μs, fun b => F b ∨ F' b, fun b hb => hb.elim (fun h => ⟨(hFb b h).1, Nat.lt_of_lt_of_le (hFb b h).2 hbel.size⟩) (fun h => ⟨Nat.le_trans hB (hF' b h).1, (hF' b h).2⟩), ?_, ?_, ?_, ?_⟩)⟩
  · have hkl : k < μ.length := by rw [hH.len]; exact (List.getElem?_eq_some_iff.1 hk).1
    have h1 := hH.obj k _ _ hk (List.getElem?_eq_getElem hkl)
    obtain ⟨_, rfl⟩ := h1
    exact hB
  · refine HRel.extend (bs := bs) (hH.weak hzo (fun b hb hz => ?_)) hbel ht (fun g hg => RF.ge hrf g hg) (fun g hg => ?_) hnd
    · exact hz.elim .inl (fun h2 => .inr ⟨h2.1, fun hf => hf.elim h2.2 (fun h3 => absurd (hF' b h3).1 (by omega))⟩)
    · have := RF.ge hrf g hg
      exact .inr ⟨by omega, fun hf => hf.elim (fun h3 => absurd (hFb g h3).2 (by omega)) (hbf g hg)⟩
  · refine put_rel (RelL.keep (fun b h1 h2 => hbel.block b h1) (fun i u h => append_old i u h) (RelL.weak hzo hF)) _ hr
  · rw [put_defers']
    exact .inl (hd.none hnm)
  · exact hb.trans (hbel.mono hB)

section
variable {rd : Option Nat} {P : Program} {m : M} {Q : Exit → St → Prop}
theorem R.callE {f : FuncId} {avs0 avs : List AV} {Φ : Nat → AV → Prop} (hc : CallE P f avs Φ) (h : csAt m = some (f, avs0)) (hs : SnapL m.st.hp avs0 avs) (hcl : ∀ b r, Φ b r → ClosedN b r) (ht : opsHd m = true)
    (h' : ∀ b1, (∀ (k b : Nat), m.st.hp[k]? = some (.inert (.base b)) → b ≤ b1) → (∀ u, InS u m.st → ∀ g, blk u = some g → g < b1) → ∀ res, Φ b1 res → Runs rd P (putM m none (imp m.st.hp.length res).1 (m.st.hp ++ (imp m.st.hp.length res).2)) Q) : Runs rd P m Q := by
  have hnm := csAt_mark h
  obtain ⟨fo, args, tys, caps, hop, hf, rfl⟩ := csAt_parts h
  obtain ⟨ks, ⟨fr, hp⟩⟩ := m
  unfold opM headOf at hop
  unfold opsHd at ht
  unfold putM at h'
  simp only [runs_iff] at h' ⊢
  try simp only at hop ht h' hf hs hnm ⊢
  split at hop
  · rename_i all o fl t heq
    split at hop
    · rename_i hw
      simp only [Option.some.injEq] at hop
      split at heq
      · cases heq
        intro hW
        exact OpsQ.callE (wantH_true hw hW) hop hf hs hc hcl hnm fun b1 h1 h2 res hΦ => h' b1 h1 h2 res hΦ headW_false
      · simp at ht
      · cases heq
    · cases hop
  · cases hop

theorem R.callW {f : FuncId} {avs0 avs : List AV} {res : AV} (hc : CallA P f avs res) (h : csAt m = some (f, avs0)) (hs : SnapL m.st.hp avs0 avs) (hr : res.closed = true) (ht : quietOk m (imp m.st.hp.length res).2 = true)
    (h' : Runs rd P (putM m none (imp m.st.hp.length res).1 (m.st.hp ++ (imp m.st.hp.length res).2)) Q) : Runs rd P m Q := by
  obtain ⟨fo, args, tys, caps, hop, hf, rfl⟩ := csAt_parts h
  exact R.effM hop (.inr (.snap f caps avs res hf hs hc hr)) ht h'
end

end Go.Abs


/-! Rows of named rows; the rules for them; loops of few rounds. -/
namespace Go.Abs
open Go.RowKit

section
variable {α : Type} {E : α → List AV} {el s b : Nat} {L : List (Value × List α)} {v : Value}

/-- A row of one's own, named: its elements' type el, s cells each. -/
def eV (E : α → List AV) (el s : Nat) (x : Value × List α) : List AV := [.nam x.1 (some el) s x.2.length (rows E x.2)]
theorem eV_len (x : Value × List α) : (eV E el s x).length = 1 := rfl
theorem eV_one (x : Value × List α) : (eV E el s x).all AV.one = true := rfl

theorem rowsV_mem {c : AV} : ∀ {L : List (Value × List α)}, c ∈ rows (eV E el s) L → ∃ x ∈ L, c = .nam x.1 (some el) s x.2.length (rows E x.2)
  | [], h => by simp [rows] at h
  | x :: L, h => by
    simp only [rows, eV, List.singleton_append, List.mem_cons] at h
    rcases h with h | h
    · exact ⟨x, List.mem_cons_self .., h⟩
    · obtain ⟨y, hy, e⟩ := rowsV_mem h
      exact ⟨y, List.mem_cons_of_mem _ hy, e⟩
theorem rowsV_in {x : Value × List α} : ∀ {L : List (Value × List α)}, x ∈ L → .nam x.1 (some el) s x.2.length (rows E x.2) ∈ rows (eV E el s) L
  | [], h => by simp at h
  | y :: L, h => by
    simp only [rows, eV, List.singleton_append, List.mem_cons]
    rcases List.mem_cons.1 h with rfl | h
    · exact .inl rfl
    · exact .inr (rowsV_in h)

/-- The names are of blocks of their own, from b on. -/
structure NL (b : Nat) (L : List (Value × List α)) : Prop where
  nd : (L.filterMap fun x => blk x.1).Nodup
  ge : ∀ x ∈ L, ∀ g, blk x.1 = some g → b ≤ g

theorem NL.nil : NL b ([] : List (Value × List α)) := ⟨List.nodup_nil, fun x h => by simp at h⟩
theorem NL.mono {b' : Nat} (h : NL b L) (hb : b' ≤ b) : NL b' L := ⟨h.nd, fun x hx g hg => Nat.le_trans hb (h.ge x hx g hg)⟩
theorem NL.snoc {x : List α} (h : NL b L) (hv : ∀ u ∈ L, ∀ g, blk v = some g → blk u.1 ≠ some g) (hb : ∀ g, blk v = some g → b ≤ g) : NL b (L ++ [(v, x)]) := by
  refine ⟨?_, fun y hy g hg => ?_⟩
  · rw [List.filterMap_append, List.nodup_append]
    refine ⟨h.nd, ?_, fun a ha c hc => ?_⟩
    · cases hbv : blk v <;> simp [List.filterMap, hbv]
    · rintro rfl
      obtain ⟨u, hu, e⟩ := List.mem_filterMap.1 ha
      have : blk v = some a := by
        cases hbv : blk v <;> simp [List.filterMap, hbv] at hc
        rw [hc]
      exact hv u hu a this e
  · rcases List.mem_append.1 hy with hy | hy
    · exact h.ge y hy g hg
    · simp at hy
      subst hy
      exact hb g hg
theorem NL.set (h : NL b L) (i : Nat) (d : Value × List α) (ys : List α) (hi : i < L.length) : NL b (L.set i ((L.getD i d).1, ys)) := by
  have e : (L.set i ((L.getD i d).1, ys)).map (fun x => x.1) = L.map fun x => x.1 := by
    apply List.ext_getElem?
    intro k
    simp only [List.getElem?_map, List.getElem?_set]
    split
    · rename_i hk
      subst hk
      simp [hi, List.getD_eq_getElem?_getD]
    · rfl
  have e2 : ∀ M : List (Value × List α), (M.filterMap fun x => blk x.1) = (M.map fun x => x.1).filterMap blk := fun M => by rw [List.filterMap_map]; rfl
  refine ⟨by rw [e2, e, ← e2]; exact h.nd, fun x hx g hg => ?_⟩
  have : x.1 ∈ L.map fun x => x.1 := by rw [← e]; exact List.mem_map_of_mem hx
  obtain ⟨y, hy, e3⟩ := List.mem_map.1 this
  exact h.ge y hy g (by rw [e3]; exact hg)

theorem newN_row {st : St} (h : NewN st v) (j : Nat) {e n : Nat} (L : List (Value × List α)) (hj : st.hp[j]? = some (.list e 1 n (rows (eV E el s) L))) : ∀ u ∈ L, ∀ g, blk v = some g → blk u.1 ≠ some g := fun u hu =>
  h.1 u.1 (.inr ⟨j, _, hj, inNL_iff.2 ⟨_, rowsV_in hu, by simp only [InN]; exact .inl ⟨trivial, .inr (by simp)⟩⟩⟩)
theorem newN_slot {st : St} (h : NewN st v) (t : Nat) {u : Value} {e s n : Nat} {cs : List AV} (ht : st.fr[t]? = some (.nam u (some e) s n cs)) : ∀ g, blk v = some g → blk u ≠ some g :=
  h.1 u (.inl (inNL_iff.2 ⟨_, List.mem_of_getElem? ht, by simp only [InN]; exact .inl ⟨trivial, .inr (by simp)⟩⟩))
theorem newN_base {st : St} (h : NewN st v) (k : Nat) {b : Nat} (hk : st.hp[k]? = some (.inert (.base b))) : ∀ g, blk v = some g → b ≤ g := h.2 k b hk

theorem closedN_rows (hL : NL b L) (hE : ∀ x, closedL (E x) = true) : ClosedNL b (rows (eV E el s) L) := by
  rw [closedNL_iff]
  intro c hc
  obtain ⟨x, hx, rfl⟩ := rowsV_mem hc
  exact ⟨closedL_rows hE _, hL.ge x hx⟩
theorem closedN_own (e : Nat) (hL : NL b L) (hE : ∀ x, closedL (E x) = true) : ClosedN b (ownA (eV E el s) e 1 L) := by
  simp only [ownA, ClosedN]
  exact closedN_rows hL hE

theorem fgtV_rows {E' : List α → List AV} (hE : ∀ x, E' x = [.lst s x.length (rows E x)]) (w : World) (Z : Nat → Prop) : ∀ (L : List (Value × List α)) (xs : List Value), RelL w Z [] (rows (eV E el s) L) xs → RelL w Z [] (rows E' (L.map Prod.snd)) xs
  | [], xs, h => h
  | x :: L, xs, h => by
    simp only [rows, eV, List.singleton_append, List.map_cons, hE] at h ⊢
    simp only [RelL] at h ⊢
    obtain ⟨y, ys, rfl, h1, h2⟩ := h
    refine ⟨y, ys, rfl, ?_, fgtV_rows hE w Z L ys h2⟩
    simp only [Rel] at h1 ⊢
    exact h1.2
theorem fgtV {E' : List α → List AV} (hE : ∀ x, E' x = [.lst s x.length (rows E x)]) (L : List (Value × List α)) : ∀ (w : World) (Z : Nat → Prop) u, Rel w Z [] (.lst 1 L.length (rows (eV E el s) L)) u → Rel w Z [] (.lst 1 (L.map Prod.snd).length (rows E' (L.map Prod.snd))) u := by
  intro w Z u h
  simp only [Rel] at h ⊢
  obtain ⟨A, c, xs, h1, h2, h3, h4, h5⟩ := h
  have h6 := fgtV_rows hE w Z L xs h5
  refine ⟨A, c, xs, by rw [List.length_map]; exact h1, ?_, by rw [List.length_map]; exact h3, h4, h6⟩
  rw [← h6.length, h5.length, h2, List.length_map]
theorem NL.at (h : NL b L) (d : Value × List α) {i : Nat} (hi : i < L.length) : ∀ g, blk (L.getD i d).1 = some g → b ≤ g :=
  h.ge _ (List.mem_of_getElem? (i := i) (by simp [List.getD_eq_getElem?_getD, List.getElem?_eq_getElem hi]))

theorem closedN_int {k : IntKind} {n : Int} : ClosedN b (.int k n) := trivial
theorem closedN_bool {x : Bool} : ClosedN b (.bool x) := trivial
theorem closedN_tup {cs : List AV} (h : ClosedNL b cs) : ClosedN b (.tup cs) := by simpa [ClosedN] using h
theorem closedN_agg {cs : List AV} (h : ClosedNL b cs) : ClosedN b (.agg cs) := by simpa [ClosedN] using h
theorem closedNL_nil : ClosedNL b [] := trivial
theorem closedNL_cons {c : AV} {cs : List AV} (h : ClosedN b c) (h' : ClosedNL b cs) : ClosedNL b (c :: cs) := ⟨h, h'⟩
/-! ### What is safe -/
end

section
variable {rd : Option Nat} {P : Program} {m : M} {Q : Exit → St → Prop} {α : Type}

def ivAt (P : Program) (m : M) : Option (Nat × Nat × List AV × Int) :=
  match opM m with
  | some (.indexAddr t x y) => match ev m.st.fr x, ev m.st.fr y, elemB P t with
    | .nam _ _ s n cs, .int _ j, some (_, s') => if s' = s ∧ s ≠ 0 then some (s, n, cs, j) else none
    | _, _, _ => none
  | _ => none

/-- An element of a named row. -/
theorem R.idxV (E : α → List AV) (xs : List α) (d : α) (j : Nat) (ji : Int) {s : Nat} (h : ivAt P m = some (s, xs.length, rows E xs, ji)) (hji : ji = (j : Int)) (hE : ∀ x, (E x).length = s) (hj : j < xs.length) (ht : quiet0 m = true)
    (h' : Runs rd P (putM m none (.rptr (E (xs.getD j d))) m.st.hp) Q) : Runs rd P m Q := by
  unfold ivAt at h
  split at h
  · rename_i t x y hop
    split at h
    · rename_i v o s0 n cs k j0 el s' hx hy hel
      split at h
      · rename_i hc
        obtain ⟨rfl, hs0⟩ := hc
        cases h
        subst hji
        exact R.eff0 hop (.inl (.indexAddrV v o _ xs.length (rows E xs) k j el _ _ hx hy hel hs0 (by omega) (by omega) (rows_at hE xs j d hj))) ht h'
      · cases h
    · cases h
  · cases h

/-! ### Loops of few rounds -/
def lpC (m : M) : Code :=
  match m.ks with
  | .code (.loop c) :: _ => c
  | _ => .skip
def lpK (m : M) : List Kont :=
  match m.ks with
  | .code (.loop _) :: ks => ks
  | _ => []
def isLp (m : M) : Bool :=
  match m.ks with
  | .code (.loop _) :: _ => true
  | _ => false

def Again (rd : Option Nat) (P : Program) (c : Code) (ks : List Kont) (Q : Exit → St → Prop) : Nat → (St → Prop) → Prop
  | 0, _ => True
  | n + 1, R => ∀ st, (∀ R', Again rd P c ks Q n R' → Runs rd P ⟨.code c :: .stop R' :: ks, st⟩ Q) → R st

def RK (rd : Option Nat) (P : Program) (c : Code) (ks : List Kont) (Q : Exit → St → Prop) : Nat → St → Prop
  | 0, _ => False
  | n + 1, st => Runs rd P ⟨.code c :: .stop (RK rd P c ks Q n) :: ks, st⟩ Q

theorem again_RK {c : Code} {ks : List Kont} : ∀ n, Again rd P c ks Q n (RK rd P c ks Q n)
  | 0 => trivial
  | n + 1 => fun _ h => h _ (again_RK n)

theorem R.rounds (n : Nat) (h : isLp m = true) (h' : ∀ R, Again rd P (lpC m) (lpK m) Q n R → Runs rd P ⟨.code (lpC m) :: .stop R :: lpK m, m.st⟩ Q) : Runs rd P m Q := by
  obtain ⟨ks0, st⟩ := m
  have h2 := h' _ (again_RK n)
  unfold isLp at h
  unfold lpC lpK at h2
  simp only at h h2
  split at h
  · simp only at h2
    rw [runs_iff]
    simp only [RunsK]
    rename_i c ks
    refine RunA.loop (I := fun n st => RK rd P c ks Q n st) (n + 1) h2 (fun k st hk => ?_)
    cases k with
    | zero => exact hk.elim
    | succ k =>
      have h1 := hk.out
      simp only [RunsK] at h1
      refine h1.mono fun e st' hq => ?_
      cases e with
      | normal => exact ⟨st', Sub.refl _, k, Nat.lt_succ_self _, hq⟩
      | ret => exact hq
      | exit id => exact hq
      | goto l => exact hq
      | panic ch => exact hq
      | outgrown => exact hq
  · cases h

end

section
variable {rd : Option Nat} {P : Program} {m : M} {Q : Exit → St → Prop}
end

end Go.Abs


/-! The harness: rows of rows marked and held. -/
namespace Go.Proofs.YtjllngcefoohpaaGreat
open Go.RowKit Go.Abs

theorem lenV {α : Type} {L : List (Value × List α)} {R : List (List α)} (h : L.map Prod.snd = R) : L.length = R.length := by rw [← h, List.length_map]
theorem getV {α : Type} {L : List (Value × List α)} (i : Nat) (hi : i < L.length) : (L.getD i (.bool false, [])).2 = (L.map Prod.snd).getD i [] := by
  simp [List.getD_eq_getElem?_getD, List.getElem?_eq_getElem hi]
theorem map1V {α : Type} {L : List (Value × List α)} {R : List (List α)} {v : Value} {x : List α} (h : L.map Prod.snd = R) : (L ++ [(v, x)]).map Prod.snd = R ++ [x] := by rw [← h]; simp
/-- The cells of the first rows, all told. -/
def lenG {α : Type} (l : List (List α)) : Nat → Nat
  | 0 => 0
  | i + 1 => lenG l i + (l.getD i []).length
theorem lenG_eq {α : Type} {l m : List (List α)} (h : ∀ j, (l.getD j []).length = (m.getD j []).length) : ∀ i, lenG l i = lenG m i
  | 0 => rfl
  | i + 1 => by rw [lenG, lenG, lenG_eq h i, h i]
/-- The first i rows of l marked from k on, c numbers a cell; mk tells a row's marks. -/
def MkG {α : Type} (mk : Nat → Int → List α) (c k : Int) (l : List (List α)) (LM : List (Value × List α)) (i : Nat) : Prop :=
  LM.length = l.length ∧ ∀ j, j < l.length → (LM.getD j (.bool false, [])).2 = if j < i then mk (l.getD j []).length (k + c * (lenG l j : Int)) else l.getD j []
theorem MkG.zero {α : Type} {mk : Nat → Int → List α} {c k : Int} {l : List (List α)} {L : List (Value × List α)} (h : L.map Prod.snd = l) : MkG mk c k l L 0 := by
  have hl := lenV h
  refine ⟨hl, fun j hj => ?_⟩
  rw [if_neg (by omega), getV j (by omega), h]
theorem MkG.now {α : Type} {mk : Nat → Int → List α} {c k : Int} {l : List (List α)} {LM : List (Value × List α)} {i : Nat} (h : MkG mk c k l LM i) (hi : i < l.length) : (LM.getD i (.bool false, [])).2 = l.getD i [] := by
  rw [h.2 i hi, if_neg (by omega)]
theorem MkG.set {α : Type} {mk : Nat → Int → List α} {c k : Int} {l : List (List α)} {LM : List (Value × List α)} {i : Nat} {v : Value} {ys : List α} (h : MkG mk c k l LM i) (hi : i < l.length) (hy : ys = mk (l.getD i []).length (k + c * (lenG l i : Int))) : MkG mk c k l (LM.set i (v, ys)) (i + 1) := by
  refine ⟨by rw [List.length_set]; exact h.1, fun j hj => ?_⟩
  by_cases hji : j = i
  · subst hji
    rw [if_pos (by omega)]
    simp [List.getD_eq_getElem?_getD, h.1, hi, hy]
  · have h2 := h.2 j hj
    have e : (LM.set i (v, ys)).getD j (.bool false, []) = LM.getD j (.bool false, []) := by
      simp [List.getD_eq_getElem?_getD, List.getElem?_set_ne (Ne.symm hji)]
    rw [e, h2]
    by_cases h3 : j < i
    · rw [if_pos h3, if_pos (by omega)]
    · rw [if_neg h3, if_neg (by omega)]
/-- Each row holds its marks. -/
def HdG {α : Type} (mk : Nat → Int → List α) (c k : Int) (l : List (List α)) : Prop := ∀ j, j < l.length → l.getD j [] = mk (l.getD j []).length (k + c * (lenG l j : Int))
theorem MkG.all {α : Type} {mk : Nat → Int → List α} {c k : Int} {l : List (List α)} {LM : List (Value × List α)} {i : Nat} (hm : ∀ n k, (mk n k).length = n) (h : MkG mk c k l LM i) (hi : l.length ≤ i) : HdG mk c k (LM.map Prod.snd) ∧ lenG (LM.map Prod.snd) (LM.map Prod.snd).length = lenG l l.length ∧ (LM.map Prod.snd).length = l.length := by
  have hl : (LM.map Prod.snd).length = l.length := by rw [List.length_map]; exact h.1
  have hg : ∀ j, j < l.length → (LM.map Prod.snd).getD j [] = mk (l.getD j []).length (k + c * (lenG l j : Int)) := fun j hj => by
    rw [← getV j (by rw [h.1]; exact hj), h.2 j hj, if_pos (by omega)]
  have hlen : ∀ j, ((LM.map Prod.snd).getD j []).length = (l.getD j []).length := fun j => by
    rcases Nat.lt_or_ge j l.length with hj | hj
    · rw [hg j hj, hm]
    · rw [List.getD_eq_getElem?_getD, List.getD_eq_getElem?_getD, List.getElem?_eq_none (by omega), List.getElem?_eq_none hj]
  have he := lenG_eq hlen
  refine ⟨fun j hj => ?_, by rw [hl, he], hl⟩
  rw [hl] at hj
  rw [hlen j, he j]
  exact hg j hj
theorem HdG.now {α : Type} {mk : Nat → Int → List α} {c k : Int} {l : List (List α)} (h : HdG mk c k l) {j : Nat} (hj : j < l.length) {q : Int} (hq : q = k + c * (lenG l j : Int)) : l.getD j [] = mk (l.getD j []).length q := by rw [hq]; exact h j hj

end Go.Proofs.YtjllngcefoohpaaGreat


/-! The machine's rules: pairs of numbers are compared. -/
namespace Go.Abs
open Go.RowKit

section
variable {rd : Option Nat} {P : Program} {m : M} {Q : Exit → St → Prop}
theorem OpsQ.val {all : Array Oper} {o : Oper} {l : List Oper} {fr : List AV} {hp : List AObj} {R : Exit → St → Prop} {b : AV} (hw : WantedA all o fr) (hcall : ∀ c, o.op ≠ .defer c)
    (hrun : ∀ (Z : Nat → Prop) (μ : List Value) (a : Act) (w : World), RelL w Z μ fr a.tmps.toList → ∃ v, (execOp a.eval o).run P w = .ok (.value v) w ∧ Rel w Z μ b v) (h' : OpsQ rd P all l ⟨putF fr o.dst b, hp⟩ R) : OpsQ rd P all (o :: l) ⟨fr, hp⟩ R := by
  intro Z0 w0 a w hS
  obtain ⟨μ, F, hFb, hH, hF, hd, hbel⟩ := hS
  refine wpListIn_step fun K hK => ?_
  rw [wanted_rel hF hw, if_pos rfl]
  obtain ⟨v, hr, hv⟩ := hrun _ μ a w hF
  refine wpIn_of_run (fun c' h => hcall _ h) ?_
  rw [hr]
  exact hK _ _ (h' Z0 w0 _ w ⟨μ, F, hFb, hH, put_rel hF _ hv, by rw [put_defers']; exact hd, hbel⟩)

end
end Go.Abs


/-! Calls told by what holds behind them, under further frames that lie anywhere among the objects. -/
namespace Go.Abs
open Go.RowKit Go.ChangeShapes Go.WideShapes Go.Deep

mutual
theorem Rel.mixJ {w w' : World} {Z Z' : Nat → Prop} {μ μ1 μ2 : List Value} {js : List Nat} (hA : ∀ (i : Nat) u, js.contains i = true → μ1[js.idxOf i]? = some u → μ2[i]? = some u) (hB : ∀ (i : Nat) u, js.contains i = false → μ[i]? = some u → μ2[i]? = some u) :
    ∀ {c : AV} {v : Value}, Rel w Z μ c v → Rel w' Z' μ1 (c.ren js) v → Rel w' Z' μ2 c v
  | .int _ _, _, _, h => by simpa [Rel, AV.ren] using h
  | .bool _, _, _, h => by simpa [Rel, AV.ren] using h
  | .str _, _, _, h => by simpa [Rel, AV.ren] using h
  | .nil, _, _, h => by simpa [Rel, AV.ren] using h
  | .top, _, _, _ => by simp [Rel]
  | .own _ _ _ _, _, h, _ => by simp [Rel] at h
  | .lst _ _ _, _, _, h => by simpa [Rel, AV.ren] using h
  | .clp _ _ _, _, _, h => by simpa [Rel, AV.ren] using h
  | .nam _ _ _ _ _, _, _, h => by simpa [Rel, AV.ren] using h
  | .rptr _, _, _, h => by simpa [Rel, AV.ren] using h
  | .ref i, v, h1, h2 => by
    simp only [Rel] at h1 ⊢
    cases hc : js.contains i with
    | true =>
      simp only [AV.ren, hc, if_true, Rel] at h2
      exact hA i v hc h2
    | false => exact hB i v hc h1
  | .ptr i o, v, h1, h2 => by
    simp only [Rel] at h1 ⊢
    cases hc : js.contains i with
    | true =>
      simp only [AV.ren, hc, if_true, Rel] at h2
      obtain ⟨u, g, e1, e2, e3⟩ := h2
      exact ⟨u, g, hA i u hc e1, e2, e3⟩
    | false =>
      obtain ⟨u, g, e1, e2, e3⟩ := h1
      exact ⟨u, g, hB i u hc e1, e2, e3⟩
  | .agg cs, v, h1, h2 => by
    simp only [Rel, AV.ren] at h1 h2 ⊢
    obtain ⟨xs, e1, r1⟩ := h1
    obtain ⟨ys, e2, r2⟩ := h2
    rw [e1] at e2
    simp only [Value.agg.injEq] at e2
    have e3 : xs = ys := by simpa using e2
    subst e3
    exact ⟨xs, e1, RelL.mixJ hA hB r1 r2⟩
  | .tup cs, v, h1, h2 => by
    simp only [Rel, AV.ren] at h1 h2 ⊢
    obtain ⟨xs, e1, r1⟩ := h1
    obtain ⟨ys, e2, r2⟩ := h2
    rw [e1] at e2
    simp only [Value.tuple.injEq] at e2
    have e3 : xs = ys := by simpa using e2
    subst e3
    exact ⟨xs, e1, RelL.mixJ hA hB r1 r2⟩
  | .fn f cs, v, h1, h2 => by
    simp only [Rel, AV.ren] at h1 h2 ⊢
    obtain ⟨xs, e1, r1⟩ := h1
    obtain ⟨ys, e2, r2⟩ := h2
    rw [e1] at e2
    simp only [Value.func.injEq, true_and] at e2
    have e3 : xs = ys := by simpa using e2
    subst e3
    exact ⟨xs, e1, RelL.mixJ hA hB r1 r2⟩
theorem RelL.mixJ {w w' : World} {Z Z' : Nat → Prop} {μ μ1 μ2 : List Value} {js : List Nat} (hA : ∀ (i : Nat) u, js.contains i = true → μ1[js.idxOf i]? = some u → μ2[i]? = some u) (hB : ∀ (i : Nat) u, js.contains i = false → μ[i]? = some u → μ2[i]? = some u) :
    ∀ {cs : List AV} {vs : List Value}, RelL w Z μ cs vs → RelL w' Z' μ1 (renL js cs) vs → RelL w' Z' μ2 cs vs
  | [], _, _, h => by simpa [RelL, renL] using h
  | c :: cs, _, h1, h2 => by
    simp only [RelL, renL] at h1 h2 ⊢
    obtain ⟨x, xs, e1, a1, b1⟩ := h1
    obtain ⟨y, ys, e2, a2, b2⟩ := h2
    rw [e1] at e2
    simp only [List.cons.injEq] at e2
    obtain ⟨rfl, rfl⟩ := e2
    exact ⟨x, xs, e1, Rel.mixJ hA hB a1 a2, RelL.mixJ hA hB b1 b2⟩
end

/-- The numbers below n + 1 but k. -/
def insI (k n : Nat) : List Nat := List.range k ++ (List.range (n - k)).map (· + (k + 1))

theorem insI_get {k n j : Nat} (hk : k ≤ n) (hj : j < n) : (insI k n)[j]? = some (if j < k then j else j + 1) := by
  unfold insI
  rcases Nat.lt_or_ge j k with h | h
  · rw [List.getElem?_append_left (by simpa using h)]
    simp [h]
  · rw [List.getElem?_append_right (by simpa using h)]
    simp only [List.length_range, List.getElem?_map]
    rw [List.getElem?_range (by omega)]
    simp only [Option.map_some, if_neg (Nat.not_lt.2 h), Option.some.injEq]
    omega
theorem insI_length {k n : Nat} (hk : k ≤ n) : (insI k n).length = n := by
  unfold insI
  simp
  omega
theorem insI_mem {k n i : Nat} (hk : k ≤ n) (hi : i ≤ n) (hne : i ≠ k) : (insI k n).contains i = true := by
  have : i ∈ insI k n := by
    rcases Nat.lt_or_ge i k with h | h
    · exact List.mem_of_getElem? (i := i) (by rw [insI_get hk (by omega), if_pos h])
    · exact List.mem_of_getElem? (i := i - 1) (by rw [insI_get hk (by omega), if_neg (by omega)]; congr 1; omega)
  simpa using this
theorem insI_nodup {k n : Nat} (hk : k ≤ n) : (insI k n).Nodup := by
  unfold insI
  rw [List.nodup_append]
  refine ⟨List.nodup_range, ?_, ?_⟩
  · rw [List.nodup_iff_pairwise_ne, List.pairwise_map]
    exact List.nodup_range.imp fun h e => h (by omega)
  · intro a ha b hb e
    rw [List.mem_range] at ha
    rw [List.mem_map] at hb
    obtain ⟨c, _, hc⟩ := hb
    omega
theorem insI_idx {k n i : Nat} (hk : k ≤ n) (hc : (insI k n).contains i = true) : (insI k n).idxOf i < n ∧ i = (if (insI k n).idxOf i < k then (insI k n).idxOf i else (insI k n).idxOf i + 1) := by
  have hm : i ∈ insI k n := by simpa using hc
  have hlt := List.idxOf_lt_length_iff.2 hm
  have hlt' : (insI k n).idxOf i < n := by rw [insI_length hk] at hlt; exact hlt
  refine ⟨hlt', ?_⟩
  have h1 := List.getElem_idxOf hlt
  have h2 := insI_get hk hlt'
  rw [List.getElem?_eq_getElem hlt, h1] at h2
  exact Option.some.inj h2
theorem insJ_lo {k m j : Nat} (hj : j < k) : (insJ k m)[j]? = some j := by
  unfold insJ
  rw [List.getElem?_append_left (by simpa using hj)]
  simp [hj]
theorem insJ_at {k m : Nat} : (insJ k m)[k]? = some m := by
  unfold insJ
  rw [List.getElem?_append_right (by simp)]
  simp
theorem insJ_hi {k m j : Nat} (hj : k ≤ j) (hm : j < m) : (insJ k m)[j + 1]? = some j := by
  unfold insJ
  rw [List.getElem?_append_right (by simp; omega)]
  have e : j + 1 - (List.range k).length = (j - k) + 1 := by simp; omega
  rw [e, List.getElem?_cons_succ, List.getElem?_map, List.getElem?_range (by omega)]
  simp
  omega

section
variable {P : Program}

/-- Under a frame that lies at place k. -/
theorem CallX.inF {f : FuncId} {args : List AV} {hp : List AObj} {Φ : AV → List AObj → Prop} (k : Nat) (us2 : List Value) (fr2 : List AV) (hc : CallX P f args hp Φ) (hk : k ≤ hp.length)
    (h1 : renH (insI k hp.length) (insF k us2 fr2 hp) = hp) (h2 : renL (insI k hp.length) (renL (insJ k hp.length) args) = args) (h3 : ∀ r h', Φ r h' → hp.length ≤ h'.length) :
    CallX P f (renL (insJ k hp.length) args) (insF k us2 fr2 hp) fun r h => ∃ res hp', Φ res hp' ∧ r = res.ren (insJ k hp'.length) ∧ h = insF k us2 fr2 hp' := by
  obtain ⟨hen, hc⟩ := hc
  refine ⟨hen, ?_⟩
  intro Z0 F w0 w μ vs us fr hFb hH hvs hus hbel
  have hHl : (insF k us2 fr2 hp).length = hp.length + 1 := by
    unfold insF renH insJ
    simp
    omega
  have hml : μ.length = hp.length + 1 := by rw [hH.len, hHl]
  have hH0 := hH.ren (insI k hp.length) (insI_nodup hk)
  have e0 : ((insI k hp.length).map fun i => ((insF k us2 fr2 hp).getD i .dead).ren (insI k hp.length)) = hp := h1
  rw [e0] at hH0
  have hvs0 := hvs.ren (insI k hp.length)
  rw [h2] at hvs0
  have hn2 : (insF k us2 fr2 hp)[k]? = some (.frame us2 fr2) := by
    unfold insF
    rw [List.getElem?_set_self]
    have : (renH (insJ k hp.length) (hp ++ [.dead])).length = hp.length + 1 := by unfold renH insJ; simp; omega
    omega
  obtain ⟨u, hu⟩ : ∃ u, μ[k]? = some u := ⟨_, List.getElem?_eq_getElem (by omega)⟩
  have hf2 : RelL w (Zone Z0 F w0.heap.size) μ fr2 us2 := hH.obj _ _ u hn2 hu
  have hus0 := (hus.append hf2).ren (insI k hp.length)
  refine (hc Z0 F w0 w _ vs (us ++ us2) _ hFb hH0 hvs0 hus0 hbel).mono ?_
  rintro e w' ⟨v, μ1, F1, res, hp', hΦ, rfl, hF1, hH1, hres, hfr1, hb1⟩
  have h3 := h3 _ _ hΦ
  have hm1 := hH1.len
  have hHd := hH1.addDead u (hH.one _ u hu)
  have hH2 := hHd.ren (insJ k hp'.length) (insJ_nodup (by omega))
  obtain ⟨μ2, hμ2⟩ : ∃ μ2, μ2 = ((insJ k hp'.length).map fun i => (μ1 ++ [u]).getD i (.bool false)) := ⟨_, rfl⟩
  have hA : ∀ (i : Nat) x, (insI k hp.length).contains i = true → μ1[(insI k hp.length).idxOf i]? = some x → μ2[i]? = some x := by
    intro i x hi hx
    obtain ⟨g1, g2⟩ := insI_idx hk hi
    generalize (insI k hp.length).idxOf i = j at g1 g2 hx
    have hj : (insJ k hp'.length)[i]? = some j := by
      split at g2
      · rw [g2]; exact insJ_lo (by assumption)
      · rw [g2]; exact insJ_hi (by omega) (by omega)
    rw [hμ2, List.getElem?_map, hj]
    simp only [Option.map_some, List.getD_eq_getElem?_getD]
    rw [List.getElem?_append_left (List.getElem?_eq_some_iff.1 hx).1, hx]
    rfl
  have hB : ∀ (i : Nat) x, (insI k hp.length).contains i = false → μ[i]? = some x → μ2[i]? = some x := by
    intro i x hi hx
    have hlt := (List.getElem?_eq_some_iff.1 hx).1
    have hin : i = k := by
      refine Classical.byContradiction fun hne => ?_
      have := insI_mem hk (i := i) (by omega) hne
      rw [this] at hi
      cases hi
    subst hin
    rw [hu] at hx
    rw [hμ2, List.getElem?_map, insJ_at]
    simp only [Option.map_some, List.getD_eq_getElem?_getD]
    rw [List.getElem?_append_right (by omega), hm1]
    simpa using hx
  rw [← hμ2] at hH2
  have hall := RelL.mixJ hA hB (hus.append hf2) hfr1
  have hul := hus.length
  have hfr : RelL w' (Zone Z0 F1 w0.heap.size) μ2 fr us := by
    have := hall.take fr.length
    rwa [List.take_left, ← hul, List.take_left] at this
  have hfr2 : RelL w' (Zone Z0 F1 w0.heap.size) μ2 fr2 us2 := by
    have := hall.drop fr.length
    rwa [List.drop_left, ← hul, List.drop_left] at this
  refine ⟨v, μ2, F1, _, _, ⟨res, hp', hΦ, rfl, rfl⟩, rfl, hF1, ?_, ?_, hfr, hb1⟩
  · refine hH2.frameAt ?_ hfr2
    rw [List.getElem?_map, insJ_at]
    simp [AObj.ren]
  · rw [hμ2]
    exact Rel.ren _ (Rel.keep (w := w') (fun _ _ _ => rfl) (fun i u hu => append_old i u hu) hres)
theorem k28a {f : FuncId} {args : List AV} {hp : List AObj} {Φ : AV → List AObj → Prop} (k : Nat) (us2 : List Value) (fr2 : List AV) (hc : CallX P f args hp Φ) (hk : k ≤ hp.length := by exact Nat.le_of_ble_eq_true (by kernel_rfl)) (h1 : renH (insI k hp.length) (insF k us2 fr2 hp) = hp := by kernel_rfl) (h2 : renL (insI k hp.length) (renL (insJ k hp.length) args) = args := by kernel_rfl) (h3 : ∀ r h', Φ r h' → hp.length ≤ h'.length := by rintro _ _ ⟨_, ⟨_, _, _, _, rfl, rfl⟩, rfl⟩; exact Nat.le_of_ble_eq_true (by kernel_rfl)) : CallX P f (renL (insJ k hp.length) args) (insF k us2 fr2 hp) fun r h => ∃ res hp', Φ res hp' ∧ r = res.ren (insJ k hp'.length) ∧ h = insF k us2 fr2 hp' := _root_.Go.Abs.CallX.inF k us2 fr2 hc hk h1 h2 h3
theorem k28b {f : FuncId} {args : List AV} {hp : List AObj} {Φ : AV → List AObj → Prop} (k : Nat) (us2 : List Value) (fr2 : List AV) (hc : CallX P f args hp Φ) (hk : k ≤ hp.length := by exact Nat.le_of_ble_eq_true (by kernel_rfl)) (h1 : renH (insI k hp.length) (insF k us2 fr2 hp) = hp := by kernel_rfl) (h2 : renL (insI k hp.length) (renL (insJ k hp.length) args) = args := by kernel_rfl) (h3 : ∀ r h', Φ r h' → hp.length ≤ h'.length := by rintro _ _ ⟨_, _, _, _, rfl, rfl⟩; exact Nat.le_of_ble_eq_true (by kernel_rfl)) : CallX P f (renL (insJ k hp.length) args) (insF k us2 fr2 hp) fun r h => ∃ res hp', Φ res hp' ∧ r = res.ren (insJ k hp'.length) ∧ h = insF k us2 fr2 hp' := _root_.Go.Abs.CallX.inF k us2 fr2 hc hk h1 h2 h3
theorem k28c {f : FuncId} {args : List AV} {hp : List AObj} {Φ : AV → List AObj → Prop} (k : Nat) (us2 : List Value) (fr2 : List AV) (hc : CallX P f args hp Φ) (hk : k ≤ hp.length := by exact Nat.le_of_ble_eq_true (by kernel_rfl)) (h1 : renH (insI k hp.length) (insF k us2 fr2 hp) = hp := by kernel_rfl) (h2 : renL (insI k hp.length) (renL (insJ k hp.length) args) = args := by kernel_rfl) (h3 : ∀ r h', Φ r h' → hp.length ≤ h'.length := by rintro _ _ ⟨_, _, ⟨_, ⟨_, _, _, _, rfl, rfl⟩, rfl⟩, rfl, rfl⟩; exact Nat.le_of_ble_eq_true (by kernel_rfl)) : CallX P f (renL (insJ k hp.length) args) (insF k us2 fr2 hp) fun r h => ∃ res hp', Φ res hp' ∧ r = res.ren (insJ k hp'.length) ∧ h = insF k us2 fr2 hp' := _root_.Go.Abs.CallX.inF k us2 fr2 hc hk h1 h2 h3
theorem k28d {f : FuncId} {args : List AV} {hp : List AObj} {Φ : AV → List AObj → Prop} (k : Nat) (us2 : List Value) (fr2 : List AV) (hc : CallX P f args hp Φ) (hk : k ≤ hp.length := by exact Nat.le_of_ble_eq_true (by kernel_rfl)) (h1 : renH (insI k hp.length) (insF k us2 fr2 hp) = hp := by kernel_rfl) (h2 : renL (insI k hp.length) (renL (insJ k hp.length) args) = args := by kernel_rfl) (h3 : ∀ r h', Φ r h' → hp.length ≤ h'.length := by rintro _ _ ⟨_, ⟨_, ⟨_, _, _, _, rfl, rfl⟩, rfl⟩, rfl⟩; exact Nat.le_of_ble_eq_true (by kernel_rfl)) : CallX P f (renL (insJ k hp.length) args) (insF k us2 fr2 hp) fun r h => ∃ res hp', Φ res hp' ∧ r = res.ren (insJ k hp'.length) ∧ h = insF k us2 fr2 hp' := _root_.Go.Abs.CallX.inF k us2 fr2 hc hk h1 h2 h3
theorem k28e {f : FuncId} {args : List AV} {hp : List AObj} {Φ : AV → List AObj → Prop} (k : Nat) (us2 : List Value) (fr2 : List AV) (hc : CallX P f args hp Φ) (hk : k ≤ hp.length := by exact Nat.le_of_ble_eq_true (by kernel_rfl)) (h1 : renH (insI k hp.length) (insF k us2 fr2 hp) = hp := by kernel_rfl) (h2 : renL (insI k hp.length) (renL (insJ k hp.length) args) = args := by kernel_rfl) (h3 : ∀ r h', Φ r h' → hp.length ≤ h'.length := by rintro _ _ ⟨_, _, _, _, _, rfl, rfl⟩; exact Nat.le_of_ble_eq_true (by kernel_rfl)) : CallX P f (renL (insJ k hp.length) args) (insF k us2 fr2 hp) fun r h => ∃ res hp', Φ res hp' ∧ r = res.ren (insJ k hp'.length) ∧ h = insF k us2 fr2 hp' := _root_.Go.Abs.CallX.inF k us2 fr2 hc hk h1 h2 h3
theorem k28f {f : FuncId} {args : List AV} {hp : List AObj} {Φ : AV → List AObj → Prop} (k : Nat) (us2 : List Value) (fr2 : List AV) (hc : CallX P f args hp Φ) (hk : k ≤ hp.length := by exact Nat.le_of_ble_eq_true (by kernel_rfl)) (h1 : renH (insI k hp.length) (insF k us2 fr2 hp) = hp := by kernel_rfl) (h2 : renL (insI k hp.length) (renL (insJ k hp.length) args) = args := by kernel_rfl) (h3 : ∀ r h', Φ r h' → hp.length ≤ h'.length := by rintro _ _ ⟨_, ⟨_, _, _, _, _, rfl, rfl⟩, rfl⟩; exact Nat.le_of_ble_eq_true (by kernel_rfl)) : CallX P f (renL (insJ k hp.length) args) (insF k us2 fr2 hp) fun r h => ∃ res hp', Φ res hp' ∧ r = res.ren (insJ k hp'.length) ∧ h = insF k us2 fr2 hp' := _root_.Go.Abs.CallX.inF k us2 fr2 hc hk h1 h2 h3
theorem k28g {f : FuncId} {args : List AV} {hp : List AObj} {Φ : AV → List AObj → Prop} (k : Nat) (us2 : List Value) (fr2 : List AV) (hc : CallX P f args hp Φ) (hk : k ≤ hp.length := by exact Nat.le_of_ble_eq_true (by kernel_rfl)) (h1 : renH (insI k hp.length) (insF k us2 fr2 hp) = hp := by kernel_rfl) (h2 : renL (insI k hp.length) (renL (insJ k hp.length) args) = args := by kernel_rfl) (h3 : ∀ r h', Φ r h' → hp.length ≤ h'.length := by rintro _ _ ⟨_, ⟨_, _, _, _, _, _, rfl, rfl⟩, rfl⟩; exact Nat.le_of_ble_eq_true (by kernel_rfl)) : CallX P f (renL (insJ k hp.length) args) (insF k us2 fr2 hp) fun r h => ∃ res hp', Φ res hp' ∧ r = res.ren (insJ k hp'.length) ∧ h = insF k us2 fr2 hp' := _root_.Go.Abs.CallX.inF k us2 fr2 hc hk h1 h2 h3
theorem k28h {f : FuncId} {args : List AV} {hp : List AObj} {Φ : AV → List AObj → Prop} (k : Nat) (us2 : List Value) (fr2 : List AV) (hc : CallX P f args hp Φ) (hk : k ≤ hp.length := by exact Nat.le_of_ble_eq_true (by kernel_rfl)) (h1 : renH (insI k hp.length) (insF k us2 fr2 hp) = hp := by kernel_rfl) (h2 : renL (insI k hp.length) (renL (insJ k hp.length) args) = args := by kernel_rfl) (h3 : ∀ r h', Φ r h' → hp.length ≤ h'.length := by rintro _ _ ⟨_, ⟨_, _, _, rfl, rfl⟩, rfl⟩; exact Nat.le_of_ble_eq_true (by kernel_rfl)) : CallX P f (renL (insJ k hp.length) args) (insF k us2 fr2 hp) fun r h => ∃ res hp', Φ res hp' ∧ r = res.ren (insJ k hp'.length) ∧ h = insF k us2 fr2 hp' := _root_.Go.Abs.CallX.inF k us2 fr2 hc hk h1 h2 h3
theorem k28i {f : FuncId} {args : List AV} {hp : List AObj} {Φ : AV → List AObj → Prop} (k : Nat) (us2 : List Value) (fr2 : List AV) (hc : CallX P f args hp Φ) (hk : k ≤ hp.length := by exact Nat.le_of_ble_eq_true (by kernel_rfl)) (h1 : renH (insI k hp.length) (insF k us2 fr2 hp) = hp := by kernel_rfl) (h2 : renL (insI k hp.length) (renL (insJ k hp.length) args) = args := by kernel_rfl) (h3 : ∀ r h', Φ r h' → hp.length ≤ h'.length := by rintro _ _ ⟨_, _, ⟨_, _, ⟨_, ⟨_, _, _, _, _, _, _, rfl, rfl⟩, rfl⟩, rfl, rfl⟩, rfl, rfl⟩; exact Nat.le_of_ble_eq_true (by kernel_rfl)) : CallX P f (renL (insJ k hp.length) args) (insF k us2 fr2 hp) fun r h => ∃ res hp', Φ res hp' ∧ r = res.ren (insJ k hp'.length) ∧ h = insF k us2 fr2 hp' := _root_.Go.Abs.CallX.inF k us2 fr2 hc hk h1 h2 h3
theorem k28j {f : FuncId} {args : List AV} {hp : List AObj} {Φ : AV → List AObj → Prop} (k : Nat) (us2 : List Value) (fr2 : List AV) (hc : CallX P f args hp Φ) (hk : k ≤ hp.length := by exact Nat.le_of_ble_eq_true (by kernel_rfl)) (h1 : renH (insI k hp.length) (insF k us2 fr2 hp) = hp := by kernel_rfl) (h2 : renL (insI k hp.length) (renL (insJ k hp.length) args) = args := by kernel_rfl) (h3 : ∀ r h', Φ r h' → hp.length ≤ h'.length := by rintro _ _ ⟨_, _, ⟨_, ⟨_, _, _, _, _, _, _, rfl, rfl⟩, rfl⟩, rfl, rfl⟩; exact Nat.le_of_ble_eq_true (by kernel_rfl)) : CallX P f (renL (insJ k hp.length) args) (insF k us2 fr2 hp) fun r h => ∃ res hp', Φ res hp' ∧ r = res.ren (insJ k hp'.length) ∧ h = insF k us2 fr2 hp' := _root_.Go.Abs.CallX.inF k us2 fr2 hc hk h1 h2 h3
theorem k28k {f : FuncId} {args : List AV} {hp : List AObj} {Φ : AV → List AObj → Prop} (k : Nat) (us2 : List Value) (fr2 : List AV) (hc : CallX P f args hp Φ) (hk : k ≤ hp.length := by exact Nat.le_of_ble_eq_true (by kernel_rfl)) (h1 : renH (insI k hp.length) (insF k us2 fr2 hp) = hp := by kernel_rfl) (h2 : renL (insI k hp.length) (renL (insJ k hp.length) args) = args := by kernel_rfl) (h3 : ∀ r h', Φ r h' → hp.length ≤ h'.length := by rintro _ _ ⟨_, _, _, rfl, rfl⟩; exact Nat.le_of_ble_eq_true (by kernel_rfl)) : CallX P f (renL (insJ k hp.length) args) (insF k us2 fr2 hp) fun r h => ∃ res hp', Φ res hp' ∧ r = res.ren (insJ k hp'.length) ∧ h = insF k us2 fr2 hp' := _root_.Go.Abs.CallX.inF k us2 fr2 hc hk h1 h2 h3
theorem k28l {f : FuncId} {args : List AV} {hp : List AObj} {Φ : AV → List AObj → Prop} (k : Nat) (us2 : List Value) (fr2 : List AV) (hc : CallX P f args hp Φ) (hk : k ≤ hp.length := by exact Nat.le_of_ble_eq_true (by kernel_rfl)) (h1 : renH (insI k hp.length) (insF k us2 fr2 hp) = hp := by kernel_rfl) (h2 : renL (insI k hp.length) (renL (insJ k hp.length) args) = args := by kernel_rfl) (h3 : ∀ r h', Φ r h' → hp.length ≤ h'.length := by rintro _ _ ⟨_, _, ⟨_, ⟨_, ⟨_, _, _, _, _, _, rfl, rfl⟩, rfl⟩, rfl⟩, rfl, rfl⟩; exact Nat.le_of_ble_eq_true (by kernel_rfl)) : CallX P f (renL (insJ k hp.length) args) (insF k us2 fr2 hp) fun r h => ∃ res hp', Φ res hp' ∧ r = res.ren (insJ k hp'.length) ∧ h = insF k us2 fr2 hp' := _root_.Go.Abs.CallX.inF k us2 fr2 hc hk h1 h2 h3
end
section
variable {P : Program}
/-- The same with the objects in another order. -/
theorem CallX.perm {f : FuncId} {args : List AV} {hp : List AObj} {Φ : AV → List AObj → Prop} (js ks : List Nat) (hc : CallX P f args hp Φ)
    (hk : (decide js.Nodup && decide ks.Nodup && decide (js.length = hp.length) && js.all (fun i => decide (i < hp.length)) && ks.all (fun i => decide (i < hp.length)) && (List.range hp.length).all fun i => ks.contains i && decide (js[i]? = some (ks.idxOf i))) = true)
    (h1 : renH ks (renH js hp) = hp) (h2 : renL ks (renL js args) = args) (h3 : ∀ r h', Φ r h' → hp.length ≤ h'.length) :
    CallX P f (renL js args) (renH js hp) fun r h => ∃ res hp', Φ res hp' ∧ r = res.ren (js ++ (List.range (hp'.length - hp.length)).map (· + hp.length)) ∧ h = renH (js ++ (List.range (hp'.length - hp.length)).map (· + hp.length)) hp' := by
  obtain ⟨hen, hc⟩ := hc
  refine ⟨hen, ?_⟩
  simp only [Bool.and_eq_true, decide_eq_true_eq, List.all_eq_true, List.mem_range] at hk
  obtain ⟨⟨⟨⟨⟨k1, k2⟩, k3⟩, k4⟩, k6⟩, k5⟩ := hk
  intro Z0 F w0 w μ vs us fr hFb hH hvs hus hbel
  have hml : μ.length = hp.length := by rw [hH.len]; unfold renH; simp [k3]
  have hH0 := hH.ren ks k2
  have e0 : (ks.map fun i => ((renH js hp).getD i .dead).ren ks) = hp := h1
  rw [e0] at hH0
  have hvs0 := hvs.ren ks
  rw [h2] at hvs0
  have hus0 := hus.ren ks
  refine (hc Z0 F w0 w _ vs us _ hFb hH0 hvs0 hus0 hbel).mono ?_
  rintro e w' ⟨v, μ1, F1, res, hp', hΦ, rfl, hF1, hH1, hres, hfr1, hb1⟩
  have h3 := h3 _ _ hΦ
  have hm1 := hH1.len
  obtain ⟨js', hjs'⟩ : ∃ js', js' = js ++ (List.range (hp'.length - hp.length)).map (· + hp.length) := ⟨_, rfl⟩
  have hnd : js'.Nodup := by
    rw [hjs', List.nodup_append]
    refine ⟨k1, ?_, ?_⟩
    · rw [List.nodup_iff_pairwise_ne, List.pairwise_map]
      exact List.nodup_range.imp fun h e => h (by omega)
    · intro a ha b hb e
      rw [List.mem_map] at hb
      obtain ⟨c, _, hc⟩ := hb
      have := k4 a ha
      omega
  have hH2 := hH1.ren js' hnd
  refine ⟨v, _, F1, res.ren js', renH js' hp', ⟨res, hp', hΦ, by rw [hjs'], by rw [hjs']⟩, rfl, hF1, hH2, Rel.ren js' hres, RelL.mixJ ?_ ?_ hus hfr1, hb1⟩
  · intro i x hi hx
    have hlt : i < hp.length := k6 i (by simpa using hi)
    have h5 := (k5 i hlt).2
    have hj' : js'[i]? = some (ks.idxOf i) := by
      rw [hjs', List.getElem?_append_left (by omega)]; exact h5
    rw [List.getElem?_map, hj']
    simp only [Option.map_some, List.getD_eq_getElem?_getD, hx, Option.getD_some]
  · intro i x hi hx
    have hlt := (List.getElem?_eq_some_iff.1 hx).1
    have := (k5 i (by omega)).1
    rw [this] at hi
    cases hi
end

/-! ### A caller's frame, of which nothing is known, stays as it is -/
theorem fit_idx {n i : Nat} {js : List Nat} (hjs : js.take n = List.range n) (hi : i < n) : js.contains i = true ∧ js.idxOf i = i := by
  have e : js = List.range n ++ js.drop n := by rw [← hjs, List.take_append_drop]
  have hm : i ∈ List.range n := List.mem_range.2 hi
  refine ⟨?_, ?_⟩
  · have : i ∈ js := by rw [e]; exact List.mem_append_left _ hm
    simpa using this
  · rw [e, List.idxOf_append, if_pos hm, idx_range hi]
mutual
theorem Rel.fitR {w : World} {Z : Nat → Prop} {μ : List Value} {js : List Nat} (hjs : js.take μ.length = List.range μ.length) : ∀ {c : AV} {v : Value}, Rel w Z μ c v → c.ren js = c
  | .int _ _, _, _ => rfl
  | .bool _, _, _ => rfl
  | .str _, _, _ => rfl
  | .nil, _, _ => rfl
  | .top, _, _ => rfl
  | .own _ _ _ _, _, _ => rfl
  | .lst _ _ _, _, _ => rfl
  | .clp _ _ _, _, _ => rfl
  | .nam _ _ _ _ _, _, _ => rfl
  | .rptr _, _, _ => rfl
  | .ref i, v, h => by
    simp only [Rel] at h
    obtain ⟨h1, h2⟩ := fit_idx hjs (List.getElem?_eq_some_iff.1 h).1
    simp only [AV.ren, h1, h2, if_true]
  | .ptr i o, v, h => by
    simp only [Rel] at h
    obtain ⟨u, g, h, _⟩ := h
    obtain ⟨h1, h2⟩ := fit_idx hjs (List.getElem?_eq_some_iff.1 h).1
    simp only [AV.ren, h1, h2, if_true]
  | .agg cs, v, h => by
    simp only [Rel] at h
    obtain ⟨xs, _, h⟩ := h
    simp only [AV.ren, RelL.fitR hjs h]
  | .tup cs, v, h => by
    simp only [Rel] at h
    obtain ⟨xs, _, h⟩ := h
    simp only [AV.ren, RelL.fitR hjs h]
  | .fn f cs, v, h => by
    simp only [Rel] at h
    obtain ⟨xs, _, h⟩ := h
    simp only [AV.ren, RelL.fitR hjs h]
theorem RelL.fitR {w : World} {Z : Nat → Prop} {μ : List Value} {js : List Nat} (hjs : js.take μ.length = List.range μ.length) : ∀ {cs : List AV} {vs : List Value}, RelL w Z μ cs vs → renL js cs = cs
  | [], _, _ => rfl
  | c :: cs, _, h => by
    simp only [RelL] at h
    obtain ⟨x, xs, _, h1, h2⟩ := h
    simp only [renL, Rel.fitR hjs h1, RelL.fitR hjs h2]
end
mutual
theorem Rel.fitK {w : World} {Z : Nat → Prop} {μ : List Value} {k : Nat} (hk : μ.length ≤ k) : ∀ {c : AV} {v : Value}, Rel w Z μ c v → c.kill k = c
  | .int _ _, _, _ => rfl
  | .bool _, _, _ => rfl
  | .str _, _, _ => rfl
  | .nil, _, _ => rfl
  | .top, _, _ => rfl
  | .own _ _ _ _, _, _ => rfl
  | .lst _ _ _, _, _ => rfl
  | .clp _ _ _, _, _ => rfl
  | .nam _ _ _ _ _, _, _ => rfl
  | .rptr _, _, _ => rfl
  | .ref i, v, h => by
    simp only [Rel] at h
    have := (List.getElem?_eq_some_iff.1 h).1
    simp only [AV.kill]
    rw [if_neg (by omega)]
  | .ptr i o, v, h => by
    simp only [Rel] at h
    obtain ⟨u, g, h, _⟩ := h
    have := (List.getElem?_eq_some_iff.1 h).1
    simp only [AV.kill]
    rw [if_neg (by omega)]
  | .agg cs, v, h => by
    simp only [Rel] at h
    obtain ⟨xs, _, h⟩ := h
    simp only [AV.kill, RelL.fitK hk h]
  | .tup cs, v, h => by
    simp only [Rel] at h
    obtain ⟨xs, _, h⟩ := h
    simp only [AV.kill, RelL.fitK hk h]
  | .fn f cs, v, h => by
    simp only [Rel] at h
    obtain ⟨xs, _, h⟩ := h
    simp only [AV.kill, RelL.fitK hk h]
theorem RelL.fitK {w : World} {Z : Nat → Prop} {μ : List Value} {k : Nat} (hk : μ.length ≤ k) : ∀ {cs : List AV} {vs : List Value}, RelL w Z μ cs vs → killL k cs = cs
  | [], _, _ => rfl
  | c :: cs, _, h => by
    simp only [RelL] at h
    obtain ⟨x, xs, _, h1, h2⟩ := h
    simp only [killL, Rel.fitK hk h1, RelL.fitK hk h2]
end

mutual
theorem Rel.fitF {w : World} {Z : Nat → Prop} {μ : List Value} {k : Nat} {r : AV} (hk : μ.length ≤ k) : ∀ {c : AV} {v : Value}, Rel w Z μ c v → frzV k r c = c
  | .int _ _, _, _ => rfl
  | .bool _, _, _ => rfl
  | .str _, _, _ => rfl
  | .nil, _, _ => rfl
  | .top, _, _ => rfl
  | .own _ _ _ _, _, _ => rfl
  | .lst _ _ _, _, _ => rfl
  | .clp _ _ _, _, _ => rfl
  | .nam _ _ _ _ _, _, _ => rfl
  | .rptr _, _, _ => rfl
  | .ref i, v, h => by
    simp only [Rel] at h
    have := (List.getElem?_eq_some_iff.1 h).1
    simp only [frzV]
    rw [if_neg (by omega)]
  | .ptr i o, v, h => by
    simp only [Rel] at h
    obtain ⟨u, g, h, _⟩ := h
    have := (List.getElem?_eq_some_iff.1 h).1
    simp only [frzV]
    rw [if_neg (by omega)]
  | .agg cs, v, h => by
    simp only [Rel] at h
    obtain ⟨xs, _, h⟩ := h
    simp only [frzV, RelL.fitF hk h]
  | .tup cs, v, h => by
    simp only [Rel] at h
    obtain ⟨xs, _, h⟩ := h
    simp only [frzV, RelL.fitF hk h]
  | .fn f cs, v, h => by
    simp only [Rel] at h
    obtain ⟨xs, _, h⟩ := h
    simp only [frzV, RelL.fitF hk h]
theorem RelL.fitF {w : World} {Z : Nat → Prop} {μ : List Value} {k : Nat} {r : AV} (hk : μ.length ≤ k) : ∀ {cs : List AV} {vs : List Value}, RelL w Z μ cs vs → frzL k r cs = cs
  | [], _, _ => rfl
  | c :: cs, _, h => by
    simp only [RelL] at h
    obtain ⟨x, xs, _, h1, h2⟩ := h
    simp only [frzL, Rel.fitF hk h1, RelL.fitF hk h2]
end

/-- Nothing in fr names an object from n on. -/
structure Fits (n : Nat) (fr : List AV) : Prop where
  ren : ∀ js : List Nat, js.take n = List.range n → renL js fr = fr
  kill : ∀ i, n ≤ i → killL i fr = fr
  frz : ∀ i r, n ≤ i → frzL i r fr = fr

section
variable {rd : Option Nat} {P : Program} {m : M} {Q : Exit → St → Prop}

theorem CallX.ofF {f : FuncId} {fn : Func} {c : Code} {args : List AV} {hp : List AObj} {Φ : AV → List AObj → Prop} (hf : P.funcs[f]? = some fn) (hb : fn.body = some c) (hnm : (fn.name == "runtime.NumGoroutine") = false)
    (h : ∀ us fr, Fits hp.length fr → Runs none P ⟨[.code c], ⟨frameOf fn.ntmps args, hp ++ [.frame us fr]⟩⟩ (retX P fn hp.length us fr Φ)) : CallX P f args hp Φ := by
  refine ⟨enters_of hf hnm (by rw [hb]; rfl), ?_⟩
  intro Z0 F w0 w μ vs us fr hFb hH hvs hus hbel
  have hml := hH.len
  have hfit : Fits hp.length fr := ⟨fun js hjs => RelL.fitR (by rw [hml]; exact hjs) hus, fun i hi => RelL.fitK (by rw [hml]; exact hi) hus, fun i r hi => RelL.fitF (by rw [hml]; exact hi) hus⟩
  · have hlen := hvs.length
    refine calls_of_wpIn hf hb ?_
    have hS : Sim Z0 w0 ⟨frameOf fn.ntmps args, hp ++ [.frame us fr]⟩ { tmps := vs.toArray ++ Array.replicate (fn.ntmps - vs.toArray.size) undef, defers := [] } w := by
      refine ⟨μ ++ [.bool false], F, hFb, hH.extend1 (zone_new hbel.size hFb) (Below.refl _ _) ?_ (fun g hg => by simp [blk] at hg) rfl, ?_, .inl rfl, hbel⟩
      · exact RelL.keep (w := w) (fun _ _ _ => rfl) (fun i u hu => append_old i u hu) hus
      · simp only [Array.toList_append, Array.toList_replicate, List.size_toArray, hlen, frameOf]
        refine RelL.append (RelL.keep (w := w) (fun _ _ _ => rfl) (fun i u hu => append_old i u hu) hvs) ?_
        generalize fn.ntmps - args.length = n
        induction n with
        | zero => exact RelL.nil
        | succ n ih => exact RelL.cons (by simp [Rel]) ih
    have hrun2 := h us fr hfit
    simp only [runs_iff] at hrun2
    simp only [RunsK] at hrun2
    refine wpIn_mono (hrun2 Z0 w0 _ w hS) ?_
    have fin : ∀ (e : Exit) (st' : St) (a' : Act) (w' : World), retX P fn hp.length us fr Φ e st' → Sim Z0 w0 st' a' w' → a'.defers = [] ∧ ∃ v, (results fn a'.tmps).run P w' = .ok v w' ∧ ∃ v' μ' F' res hp', Φ res hp' ∧ Ending.returned v = .returned v' ∧ (∀ b, F' b → w0.heap.size ≤ b ∧ b < w'.heap.size) ∧ HRel w' (Zone Z0 F' w0.heap.size) w0.heap.size μ' hp' ∧ Rel w' (Zone Z0 F' w0.heap.size) μ' res v' ∧ RelL w' (Zone Z0 F' w0.heap.size) μ' fr us ∧ Below w0.heap.size w0 w' := by
      rintro e st' a' w' ⟨res, hp', hΦ, _, hres, hfr, hh⟩ ⟨μ', F', hFb', hH', hF', hd', hbel'⟩
      obtain ⟨x, h1, h2⟩ := resIn_run hH' hF' hres
      unfold frameAt at hfr
      split at hfr
      · rename_i us2 fr2 hi
        cases hfr
        have hil : hp.length < μ'.length := by rw [hH'.len]; exact (List.getElem?_eq_some_iff.1 hi).1
        have hfrr : RelL w' (Zone Z0 F' w0.heap.size) μ' fr us := hH'.obj _ _ _ hi (List.getElem?_eq_getElem hil)
        exact ⟨hd'.none (resIn_mark hres), x, h1, x, μ', F', res, hp', hΦ, rfl, hFb', hh ▸ hH'.bury _, h2, hfrr, hbel'⟩
      · cases hfr
    rintro e a' w' ⟨st', hq, hS'⟩
    cases e with
    | normal => exact fin _ st' a' w' hq hS'
    | ret => exact fin _ st' a' w' hq hS'
    | exit id => (obtain ⟨_, _, _, hq, _⟩ := hq; exact absurd hq (by simp))
    | goto l => (obtain ⟨_, _, _, hq, _⟩ := hq; exact absurd hq (by simp))
    | panic ch => (obtain ⟨_, _, _, hq, _⟩ := hq; exact absurd hq (by simp))
    | outgrown => (obtain ⟨_, _, _, hq, _⟩ := hq; exact absurd hq (by simp))

/-- A caller's frame in which an object of the call's own has been forgotten. -/
theorem R.kfix (n : Nat) {us : List Value} {fr fr2 : List AV} (h0 : m.st.hp[n]? = some (.frame us fr2)) (hk : fr2 = fr) (h' : Runs rd P ⟨m.ks, ⟨m.st.fr, m.st.hp.set n (.frame us fr)⟩⟩ Q) : Runs rd P m Q := by
  subst hk
  obtain ⟨ks, ⟨f, hp⟩⟩ := m
  have e : hp.set n (.frame us fr2) = hp := by
    refine List.ext_getElem? fun i => ?_
    rw [List.getElem?_set]
    split
    · rename_i hi
      subst hi
      simp only at h0
      have hlt := (List.getElem?_eq_some_iff.1 h0).1
      rw [if_pos hlt, h0]
    · rfl
  simp only [e] at h'
  exact h'
theorem canonF {ks : List Nat} {js : List Nat} {st s' : St} {fr : List AV} (S : List AV → St) (hfit : renL js fr = fr) (h1 : canon ks (some js) st = S (renL js fr)) (h2 : S fr = s') : canon ks (some js) st = s' := by rw [h1, hfit, h2]
end
/-! ### A box seen as a row of one element, while a call does not look at it -/
mutual
theorem Rel.mixK {w w' : World} {Z Z' : Nat → Prop} {μ μ1 μ2 : List Value} {j : Nat} (hA : ∀ (i : Nat) u, i ≠ j → μ1[i]? = some u → μ2[i]? = some u) (hB : ∀ u, μ[j]? = some u → μ2[j]? = some u) :
    ∀ {c : AV} {v : Value}, Rel w Z μ c v → Rel w' Z' μ1 (c.kill j) v → Rel w' Z' μ2 c v
  | .int _ _, _, _, h => by simpa [Rel, AV.kill] using h
  | .bool _, _, _, h => by simpa [Rel, AV.kill] using h
  | .str _, _, _, h => by simpa [Rel, AV.kill] using h
  | .nil, _, _, h => by simpa [Rel, AV.kill] using h
  | .top, _, _, _ => by simp [Rel]
  | .own _ _ _ _, _, h, _ => by simp [Rel] at h
  | .lst _ _ _, _, _, h => by simpa [Rel, AV.kill] using h
  | .clp _ _ _, _, _, h => by simpa [Rel, AV.kill] using h
  | .nam _ _ _ _ _, _, _, h => by simpa [Rel, AV.kill] using h
  | .rptr _, _, _, h => by simpa [Rel, AV.kill] using h
  | .ref i, v, h1, h2 => by
    simp only [Rel] at h1 ⊢
    by_cases hi : i = j
    · subst hi; exact hB v h1
    · simp only [AV.kill, if_neg hi, Rel] at h2
      exact hA i v hi h2
  | .ptr i o, v, h1, h2 => by
    simp only [Rel] at h1 ⊢
    by_cases hi : i = j
    · subst hi
      obtain ⟨u, g, e1, e2, e3⟩ := h1
      exact ⟨u, g, hB u e1, e2, e3⟩
    · simp only [AV.kill, if_neg hi, Rel] at h2
      obtain ⟨u, g, e1, e2, e3⟩ := h2
      exact ⟨u, g, hA i u hi e1, e2, e3⟩
  | .agg cs, v, h1, h2 => by
    simp only [Rel, AV.kill] at h1 h2 ⊢
    obtain ⟨xs, e1, r1⟩ := h1
    obtain ⟨ys, e2, r2⟩ := h2
    rw [e1] at e2
    simp only [Value.agg.injEq] at e2
    have e3 : xs = ys := by simpa using e2
    subst e3
    exact ⟨xs, e1, RelL.mixK hA hB r1 r2⟩
  | .tup cs, v, h1, h2 => by
    simp only [Rel, AV.kill] at h1 h2 ⊢
    obtain ⟨xs, e1, r1⟩ := h1
    obtain ⟨ys, e2, r2⟩ := h2
    rw [e1] at e2
    simp only [Value.tuple.injEq] at e2
    have e3 : xs = ys := by simpa using e2
    subst e3
    exact ⟨xs, e1, RelL.mixK hA hB r1 r2⟩
  | .fn f cs, v, h1, h2 => by
    simp only [Rel, AV.kill] at h1 h2 ⊢
    obtain ⟨xs, e1, r1⟩ := h1
    obtain ⟨ys, e2, r2⟩ := h2
    rw [e1] at e2
    simp only [Value.func.injEq, true_and] at e2
    have e3 : xs = ys := by simpa using e2
    subst e3
    exact ⟨xs, e1, RelL.mixK hA hB r1 r2⟩
theorem RelL.mixK {w w' : World} {Z Z' : Nat → Prop} {μ μ1 μ2 : List Value} {j : Nat} (hA : ∀ (i : Nat) u, i ≠ j → μ1[i]? = some u → μ2[i]? = some u) (hB : ∀ u, μ[j]? = some u → μ2[j]? = some u) :
    ∀ {cs : List AV} {vs : List Value}, RelL w Z μ cs vs → RelL w' Z' μ1 (killL j cs) vs → RelL w' Z' μ2 cs vs
  | [], _, _, h => by simpa [RelL, killL] using h
  | c :: cs, _, h1, h2 => by
    simp only [RelL, killL] at h1 h2 ⊢
    obtain ⟨x, xs, e1, a1, b1⟩ := h1
    obtain ⟨y, ys, e2, a2, b2⟩ := h2
    rw [e1] at e2
    simp only [List.cons.injEq] at e2
    obtain ⟨rfl, rfl⟩ := e2
    exact ⟨x, xs, e1, Rel.mixK hA hB a1 a2, RelL.mixK hA hB b1 b2⟩
end

/-- One object changes its look and its value, in the same block; the others do not name it. -/
theorem HRel.swap {w : World} {Z : Nat → Prop} {B j : Nat} {μ : List Value} {hp : List AObj} {u u' : Value} {o o' : AObj} (h : HRel w Z B μ hp) (hj : hp[j]? = some o) (hu : μ[j]? = some u) (ha : o.alive = true)
    (hblk : blk u' = blk u) (hone : u'.oneCell' = true) (hk : ∀ i oi, i ≠ j → hp[i]? = some oi → oi.kill j = oi) (hnew : ObjRel w Z (μ.set j u') B u' o') : HRel w Z B (μ.set j u') (hp.set j o') := by
  have hjl := (List.getElem?_eq_some_iff.1 hj).1
  have hul := (List.getElem?_eq_some_iff.1 hu).1
  have get : ∀ (i : Nat) oi ui, (hp.set j o')[i]? = some oi → (μ.set j u')[i]? = some ui → (i = j ∧ oi = o' ∧ ui = u') ∨ (i ≠ j ∧ hp[i]? = some oi ∧ μ[i]? = some ui) := by
    intro i oi ui h1 h2
    by_cases e : j = i
    · subst e
      rw [List.getElem?_set_self hjl] at h1
      rw [List.getElem?_set_self hul] at h2
      simp at h1 h2
      exact .inl ⟨rfl, h1.symm, h2.symm⟩
    · rw [List.getElem?_set_ne e] at h1 h2
      exact .inr ⟨fun h => e h.symm, h1, h2⟩
  refine ⟨by simp [h.len], fun i oi ui g h1 ha' h2 hg => ?_, fun i x hx => ?_, fun i oi ui h1 h2 => ?_, fun i k oi ok ui uk g hne h1 h2 a1 a2 m1 m2 b1 b2 => ?_⟩
  · rcases get i oi ui h1 h2 with ⟨rfl, rfl, rfl⟩ | ⟨_, e1, e2⟩
    · exact h.zone _ o u g hj ha hu (hblk ▸ hg)
    · exact h.zone i oi ui g e1 ha' e2 hg
  · by_cases e : j = i
    · subst e
      rw [List.getElem?_set_self hul] at hx
      simp at hx
      rw [← hx]; exact hone
    · rw [List.getElem?_set_ne e] at hx
      exact h.one i x hx
  · rcases get i oi ui h1 h2 with ⟨rfl, rfl, rfl⟩ | ⟨hne, e1, e2⟩
    · exact hnew
    · have := (h.obj i oi ui e1 e2).keep_kill (μ' := μ.set j u') j (fun _ _ _ => rfl) (fun k x hk hx => by rw [List.getElem?_set_ne (fun e => hk e.symm)]; exact hx) (fun _ _ => rfl)
      rwa [hk i oi hne e1] at this
  · rcases get i oi ui h1 m1 with ⟨rfl, rfl, rfl⟩ | ⟨hi, e1, e2⟩ <;> rcases get k ok uk h2 m2 with ⟨rfl, rfl, rfl⟩ | ⟨hk', e3, e4⟩
    · exact hne rfl
    · exact h.sep _ k o ok u uk g (fun e => hk' e.symm) hj e3 ha a2 hu e4 (hblk ▸ b1) b2
    · exact h.sep i _ oi o ui u g hi e1 hj a1 ha e2 hu b1 (hblk ▸ b2)
    · exact h.sep i k oi ok ui uk g hne e1 e3 a1 a2 e2 e4 b1 b2

theorem CallX.box {P : Program} {f : FuncId} {args : List AV} {hp : List AObj} {Φ : AV → List AObj → Prop} (j : Nat) (t : TypeId) (cs : List AV) (hc : CallX P f args hp Φ) (hj : hp[j]? = some (.list t cs.length 1 cs)) (hl : leafyL cs = true)
    (h1 : hp.map (AObj.kill j) = hp) (h2 : killL j args = args) (h3 : ∀ r h', Φ r h' → h'[j]? = some (.list t cs.length 1 cs) ∧ h'.map (AObj.kill j) = h' ∧ r.kill j = r) :
    CallX P f args (hp.set j (.box t cs)) fun r h => ∃ hp', Φ r hp' ∧ h = hp'.set j (.box t cs) := by
  obtain ⟨hen, hc⟩ := hc
  refine ⟨hen, ?_⟩
  intro Z0 F w0 w μ vs us fr hFb hH hvs hus hbel
  have hjl := (List.getElem?_eq_some_iff.1 hj).1
  have kof : ∀ {l : List AObj}, l.map (AObj.kill j) = l → ∀ (i : Nat) (oi : AObj), l[i]? = some oi → oi.kill j = oi := by
    intro l hl i oi hi
    have := congrArg (fun l : List AObj => l[i]?) hl
    simp only [List.getElem?_map, hi, Option.map_some, Option.some.injEq] at this
    exact this
  have hbj : (hp.set j (.box t cs))[j]? = some (.box t cs) := List.getElem?_set_self hjl
  obtain ⟨u, hu⟩ : ∃ u, μ[j]? = some u := ⟨_, List.getElem?_eq_getElem (by rw [hH.len, List.length_set]; exact hjl)⟩
  have hul := (List.getElem?_eq_some_iff.1 hu).1
  obtain ⟨g, xs, rfl, hBg, hg, hr⟩ := hH.obj j _ u hbj hu
  have hr0 : RelL w (Zone Z0 F w0.heap.size) [] cs xs := RelL.leafy hl hr
  have hxl := hr0.length
  obtain ⟨u', hu'⟩ : ∃ u', u' = Value.slice (some ⟨g, 0, none⟩) 1 1 := ⟨_, rfl⟩
  have hset : ((hp.set j (.box t cs)).set j (.list t cs.length 1 cs)) = hp := by
    rw [List.set_set]
    refine List.ext_getElem? fun i => ?_
    rw [List.getElem?_set]
    split
    · rename_i e
      subst e
      exact hj.symm
    · rfl
  have hH0 : HRel w (Zone Z0 F w0.heap.size) w0.heap.size (μ.set j u') hp := by
    have := hH.swap (u' := u') (o' := .list t cs.length 1 cs) hbj hu rfl (by rw [hu']; rfl) (by rw [hu']; rfl) (fun i oi hne hi => kof h1 i oi (by rw [List.getElem?_set_ne (fun e => hne e.symm)] at hi; exact hi)) ⟨xs, ⟨by rw [hxl, Nat.one_mul], .inr ⟨g, 1, xs.toArray, hu', hBg, hg, Nat.le_refl _, by decide, by simp [hxl], by simp [← hxl]⟩⟩, hr0⟩
    rwa [hset] at this
  have hm : ∀ (i : Nat) (x : Value), i ≠ j → μ[i]? = some x → (μ.set j u')[i]? = some x := fun i x hne hx => by rw [List.getElem?_set_ne (fun e => hne e.symm)]; exact hx
  have hvs0 := RelL.keep_kill (w := w) (w' := w) j (fun _ _ _ => rfl) hm hvs
  rw [h2] at hvs0
  have hus0 := RelL.keep_kill (w := w) (w' := w) j (fun _ _ _ => rfl) hm hus
  have hrefj : RelL w (Zone Z0 F w0.heap.size) (μ.set j u') [.ref j] [u'] := RelL.cons (by simp only [Rel]; rw [List.getElem?_set_self hul]) RelL.nil
  refine (hc Z0 F w0 w _ vs (us ++ [u']) _ hFb hH0 hvs0 (hus0.append hrefj) hbel).mono ?_
  rintro e w' ⟨v, μ1, F1, res, hp', hΦ, rfl, hF1, hH1, hres, hfr1, hb1⟩
  obtain ⟨k1, k2, k3⟩ := h3 _ _ hΦ
  have hlen1 := hus0.length
  have hfrA : RelL w' (Zone Z0 F1 w0.heap.size) μ1 (killL j fr) us := by
    have := hfr1.take (killL j fr).length
    rwa [List.take_left, ← hlen1, List.take_left] at this
  have hrj : RelL w' (Zone Z0 F1 w0.heap.size) μ1 [.ref j] [u'] := by
    have := hfr1.drop (killL j fr).length
    rwa [List.drop_left, ← hlen1, List.drop_left] at this
  have hm1 : μ1[j]? = some u' := by
    simp only [RelL, Rel] at hrj
    obtain ⟨x, _, e1, e2, _⟩ := hrj
    simp only [List.cons.injEq] at e1
    rw [e1.1]; exact e2
  have hjl1 := (List.getElem?_eq_some_iff.1 hm1).1
  obtain ⟨xs1, hown, hr1⟩ := hH1.obj j _ u' k1 hm1
  have hcell : w0.heap.size ≤ g ∧ w'.heap[g]? = some (.cells xs1.toArray t (0, 0)) := by
    rcases hown.2 with ⟨e1, _⟩ | ⟨g', cap, cur, e1, e2, e3, e4, e5, e6, e7⟩
    · rw [hu'] at e1; cases e1
    · rw [hu'] at e1
      simp only [Value.slice.injEq, Option.some.injEq, Addr.mk.injEq, true_and, and_true] at e1
      obtain ⟨rfl, rfl⟩ := e1
      refine ⟨e2, ?_⟩
      have : cur = xs1.toArray := by
        apply Array.toList_inj.1
        rw [← e7, List.take_of_length_le (by simp [e6])]
      rw [e3, this]
  refine ⟨v, μ1.set j (.pointer (some ⟨g, 0, none⟩)), F1, res, _, ⟨hp', hΦ, rfl⟩, rfl, hF1, ?_, ?_, ?_, hb1⟩
  · exact hH1.swap k1 hm1 rfl (by rw [hu']; rfl) rfl (fun i oi _ hi => kof k2 i oi hi) ⟨g, xs1, rfl, hcell.1, hcell.2, hr1.lift⟩
  · have := Rel.keep_kill (w := w') (w' := w') (μ' := μ1.set j (.pointer (some ⟨g, 0, none⟩))) j (fun _ _ _ => rfl) (fun i x hne hx => by rw [List.getElem?_set_ne (fun e => hne e.symm)]; exact hx) hres
    rwa [k3] at this
  · refine RelL.mixK ?_ ?_ hus hfrA
    · intro i x hne hx
      rw [List.getElem?_set_ne (fun e => hne e.symm)]; exact hx
    · intro x hx
      rw [hu] at hx
      rw [List.getElem?_set_self hjl1]
      exact hx
theorem k29a {P : Program} {f : FuncId} {args : List AV} {hp : List AObj} {Φ : AV → List AObj → Prop} (j : Nat) (t : TypeId) (cs : List AV) (hc : CallX P f args hp Φ) (hj : hp[j]? = some (.list t cs.length 1 cs) := by kernel_rfl) (hl : leafyL cs = true := by kernel_rfl) (h1 : hp.map (AObj.kill j) = hp := by kernel_rfl) (h2 : killL j args = args := by kernel_rfl) (h3 : ∀ r h', Φ r h' → h'[j]? = some (.list t cs.length 1 cs) ∧ h'.map (AObj.kill j) = h' ∧ r.kill j = r := by rintro _ _ ⟨_, _, _, _, rfl, rfl⟩; exact ⟨by kernel_rfl, by kernel_rfl, by kernel_rfl⟩) : CallX P f args (hp.set j (.box t cs)) fun r h => ∃ hp', Φ r hp' ∧ h = hp'.set j (.box t cs) := _root_.Go.Abs.CallX.box j t cs hc hj hl h1 h2 h3
theorem k29b {P : Program} {f : FuncId} {args : List AV} {hp : List AObj} {Φ : AV → List AObj → Prop} (j : Nat) (t : TypeId) (cs : List AV) (hc : CallX P f args hp Φ) (hj : hp[j]? = some (.list t cs.length 1 cs) := by kernel_rfl) (hl : leafyL cs = true := by kernel_rfl) (h1 : hp.map (AObj.kill j) = hp := by kernel_rfl) (h2 : killL j args = args := by kernel_rfl) (h3 : ∀ r h', Φ r h' → h'[j]? = some (.list t cs.length 1 cs) ∧ h'.map (AObj.kill j) = h' ∧ r.kill j = r := by rintro _ _ ⟨_, ⟨_, _, _, _, rfl, rfl⟩, rfl⟩; exact ⟨by kernel_rfl, by kernel_rfl, by kernel_rfl⟩) : CallX P f args (hp.set j (.box t cs)) fun r h => ∃ hp', Φ r hp' ∧ h = hp'.set j (.box t cs) := _root_.Go.Abs.CallX.box j t cs hc hj hl h1 h2 h3
theorem k29c {P : Program} {f : FuncId} {args : List AV} {hp : List AObj} {Φ : AV → List AObj → Prop} (j : Nat) (t : TypeId) (cs : List AV) (hc : CallX P f args hp Φ) (hj : hp[j]? = some (.list t cs.length 1 cs) := by kernel_rfl) (hl : leafyL cs = true := by kernel_rfl) (h1 : hp.map (AObj.kill j) = hp := by kernel_rfl) (h2 : killL j args = args := by kernel_rfl) (h3 : ∀ r h', Φ r h' → h'[j]? = some (.list t cs.length 1 cs) ∧ h'.map (AObj.kill j) = h' ∧ r.kill j = r := by rintro _ _ ⟨_, _, _, _, _, _, rfl, rfl⟩; exact ⟨by kernel_rfl, by kernel_rfl, by kernel_rfl⟩) : CallX P f args (hp.set j (.box t cs)) fun r h => ∃ hp', Φ r hp' ∧ h = hp'.set j (.box t cs) := _root_.Go.Abs.CallX.box j t cs hc hj hl h1 h2 h3
theorem k29d {P : Program} {f : FuncId} {args : List AV} {hp : List AObj} {Φ : AV → List AObj → Prop} (j : Nat) (t : TypeId) (cs : List AV) (hc : CallX P f args hp Φ) (hj : hp[j]? = some (.list t cs.length 1 cs) := by kernel_rfl) (hl : leafyL cs = true := by kernel_rfl) (h1 : hp.map (AObj.kill j) = hp := by kernel_rfl) (h2 : killL j args = args := by kernel_rfl) (h3 : ∀ r h', Φ r h' → h'[j]? = some (.list t cs.length 1 cs) ∧ h'.map (AObj.kill j) = h' ∧ r.kill j = r := by rintro _ _ ⟨_, _, _, _, _, rfl, rfl⟩; exact ⟨by kernel_rfl, by kernel_rfl, by kernel_rfl⟩) : CallX P f args (hp.set j (.box t cs)) fun r h => ∃ hp', Φ r hp' ∧ h = hp'.set j (.box t cs) := _root_.Go.Abs.CallX.box j t cs hc hj hl h1 h2 h3
theorem k29e {P : Program} {f : FuncId} {args : List AV} {hp : List AObj} {Φ : AV → List AObj → Prop} (j : Nat) (t : TypeId) (cs : List AV) (hc : CallX P f args hp Φ) (hj : hp[j]? = some (.list t cs.length 1 cs) := by kernel_rfl) (hl : leafyL cs = true := by kernel_rfl) (h1 : hp.map (AObj.kill j) = hp := by kernel_rfl) (h2 : killL j args = args := by kernel_rfl) (h3 : ∀ r h', Φ r h' → h'[j]? = some (.list t cs.length 1 cs) ∧ h'.map (AObj.kill j) = h' ∧ r.kill j = r := by rintro _ _ ⟨_, _, _, rfl, rfl⟩; exact ⟨by kernel_rfl, by kernel_rfl, by kernel_rfl⟩) : CallX P f args (hp.set j (.box t cs)) fun r h => ∃ hp', Φ r hp' ∧ h = hp'.set j (.box t cs) := _root_.Go.Abs.CallX.box j t cs hc hj hl h1 h2 h3
theorem k29f {P : Program} {f : FuncId} {args : List AV} {hp : List AObj} {Φ : AV → List AObj → Prop} (j : Nat) (t : TypeId) (cs : List AV) (hc : CallX P f args hp Φ) (hj : hp[j]? = some (.list t cs.length 1 cs) := by kernel_rfl) (hl : leafyL cs = true := by kernel_rfl) (h1 : hp.map (AObj.kill j) = hp := by kernel_rfl) (h2 : killL j args = args := by kernel_rfl) (h3 : ∀ r h', Φ r h' → h'[j]? = some (.list t cs.length 1 cs) ∧ h'.map (AObj.kill j) = h' ∧ r.kill j = r := by rintro _ _ ⟨_, _, _, _, _, _, _, rfl, rfl⟩; exact ⟨by kernel_rfl, by kernel_rfl, by kernel_rfl⟩) : CallX P f args (hp.set j (.box t cs)) fun r h => ∃ hp', Φ r hp' ∧ h = hp'.set j (.box t cs) := _root_.Go.Abs.CallX.box j t cs hc hj hl h1 h2 h3
theorem k29g {P : Program} {f : FuncId} {args : List AV} {hp : List AObj} {Φ : AV → List AObj → Prop} (j : Nat) (t : TypeId) (cs : List AV) (hc : CallX P f args hp Φ) (hj : hp[j]? = some (.list t cs.length 1 cs) := by kernel_rfl) (hl : leafyL cs = true := by kernel_rfl) (h1 : hp.map (AObj.kill j) = hp := by kernel_rfl) (h2 : killL j args = args := by kernel_rfl) (h3 : ∀ r h', Φ r h' → h'[j]? = some (.list t cs.length 1 cs) ∧ h'.map (AObj.kill j) = h' ∧ r.kill j = r := by rintro _ _ ⟨_, ⟨_, _, _, _, _, _, rfl, rfl⟩, rfl⟩; exact ⟨by kernel_rfl, by kernel_rfl, by kernel_rfl⟩) : CallX P f args (hp.set j (.box t cs)) fun r h => ∃ hp', Φ r hp' ∧ h = hp'.set j (.box t cs) := _root_.Go.Abs.CallX.box j t cs hc hj hl h1 h2 h3
theorem k29h {P : Program} {f : FuncId} {args : List AV} {hp : List AObj} {Φ : AV → List AObj → Prop} (j : Nat) (t : TypeId) (cs : List AV) (hc : CallX P f args hp Φ) (hj : hp[j]? = some (.list t cs.length 1 cs) := by kernel_rfl) (hl : leafyL cs = true := by kernel_rfl) (h1 : hp.map (AObj.kill j) = hp := by kernel_rfl) (h2 : killL j args = args := by kernel_rfl) (h3 : ∀ r h', Φ r h' → h'[j]? = some (.list t cs.length 1 cs) ∧ h'.map (AObj.kill j) = h' ∧ r.kill j = r := by rintro _ _ ⟨_, ⟨_, rfl, rfl⟩, rfl⟩; exact ⟨by kernel_rfl, by kernel_rfl, by kernel_rfl⟩) : CallX P f args (hp.set j (.box t cs)) fun r h => ∃ hp', Φ r hp' ∧ h = hp'.set j (.box t cs) := _root_.Go.Abs.CallX.box j t cs hc hj hl h1 h2 h3
theorem k29i {P : Program} {f : FuncId} {args : List AV} {hp : List AObj} {Φ : AV → List AObj → Prop} (j : Nat) (t : TypeId) (cs : List AV) (hc : CallX P f args hp Φ) (hj : hp[j]? = some (.list t cs.length 1 cs) := by kernel_rfl) (hl : leafyL cs = true := by kernel_rfl) (h1 : hp.map (AObj.kill j) = hp := by kernel_rfl) (h2 : killL j args = args := by kernel_rfl) (h3 : ∀ r h', Φ r h' → h'[j]? = some (.list t cs.length 1 cs) ∧ h'.map (AObj.kill j) = h' ∧ r.kill j = r := by rintro _ _ ⟨_, rfl, rfl⟩; exact ⟨by kernel_rfl, by kernel_rfl, by kernel_rfl⟩) : CallX P f args (hp.set j (.box t cs)) fun r h => ∃ hp', Φ r hp' ∧ h = hp'.set j (.box t cs) := _root_.Go.Abs.CallX.box j t cs hc hj hl h1 h2 h3
/-! ### The address of a field may come first -/
section
variable {P : Program} {m : M} {Q : Exit → St → Prop}
def faAt (P : Program) (m : M) (i : Nat) : Option AV :=
  match m.ks with
  | .any ops listed (_ + 1) :: _ => match ops[i]? with
    | some o => match o.op with
      | .fieldAddr s x f => if o.guard.isNone && Region.noSelect ops && Region.free .any ops listed i && (Region.ready .any ops listed).contains i then (match ev m.st.fr x, fieldB P s f with
        | .ptr j q, some (off, k) => if k = 0 then none else some (.ptr j (q + off))
        | _, _ => none) else none
      | _ => none
    | none => none
  | _ => none

theorem R.anyA (i : Nat) (v : AV) (h : faAt P m i = some v) (np : NoPanic Q) (h' : Runs none P (exM i v m) Q) : Runs none P m Q := by
  obtain ⟨ks, ⟨fr, hp⟩⟩ := m
  simp only [runs_iff] at h' ⊢
  unfold faAt at h
  simp only at h
  split at h
  · rename_i ops listed n ks'
    split at h
    · rename_i o ho
      split at h
      · rename_i s x f hx
        split at h
        · rename_i hc
          simp only [Bool.and_eq_true] at hc
          obtain ⟨⟨⟨hg, hs⟩, hf⟩, hr⟩ := hc
          split at h
          · rename_i j q off k hcs hfb
            split at h
            · cases h
            · rename_i hk
              simp only [Option.some.injEq] at h
              subst h
              simp only [exM, ho, RunsK] at h' ⊢
              intro Z0 w0 a w hS
              have hW : Region.wanted o (yielded ops a.tmps) = true := by
                unfold Region.wanted
                rw [Option.isNone_iff_eq_none.1 hg]
              have hrun : ∃ u, ∀ w, (execOp a.eval o).run P w = .ok (.value u) w := by
                obtain ⟨μ, F, _, _, hFr, _, _⟩ := hS
                have h1 := ev_rel hFr x
                rw [hcs] at h1
                simp only [Rel] at h1
                obtain ⟨u, g, hu, hg', h2⟩ := h1
                refine ⟨.pointer (some ((⟨g, q, none⟩ : Addr).add off)), fun w => ?_⟩
                unfold execOp
                rw [hx]
                simp [h2, run_fieldAt hfb hk w] <;> rfl
              obtain ⟨u, hrun⟩ := hrun
              have hw' : WantedA ops o fr := wantedE_true (by unfold wantedE; rw [Option.isNone_iff_eq_none.1 hg])
              have h1 := StepR.sound (rd := none) (K := fun a' w' => Sim Z0 w0 ⟨putF fr o.dst (.ptr j (q + off)), hp⟩ a' w') (Q := fun _ _ _ => True) (st' := ⟨putF fr o.dst (.ptr j (q + off)), hp⟩) (by simpa using StepR.eff (P := P) (st := ⟨fr, hp⟩) hw' (v := .ptr j (q + off)) (news := []) (by rw [hx]; exact EffR.fieldAddr j q off k hcs hfb hk)) hS (fun _ _ h => h)
              rw [if_pos hW] at h1
              unfold Oper.wpIn at h1
              have h1 := h1.2
              rw [show (Fc none).round = none from rfl, Oper.semAt_none, hrun w] at h1
              simp only [Oper.uponIn] at h1
              exact wpAnyIn_take rfl ho hs hf hr (fun c a w ⟨st', hq, _⟩ => absurd (runsK_panic ks' st' hq) (np c st')) ⟨.inl ⟨hW, hrun⟩, fun w => by unfold Oper.about; rw [hx]⟩ (h' Z0 w0 _ w h1)
          · cases h
        · cases h
      · cases h
    · cases h
  · cases h
theorem k30 (i : Nat) (v : AV) (np : NoPanic Q) (h' : Runs none P (exM i v m) Q) (h : faAt P m i = some v := by kernel_rfl) : Runs none P m Q := _root_.Go.Abs.R.anyA i v h np h'
theorem np_retX (P : Program) (fn : Func) (n : Nat) (us : List Value) (fr : List AV) (Φ : AV → List AObj → Prop) : NoPanic (retX P fn n us fr Φ) := fun _ _ h => by
  obtain ⟨_, _, _, h⟩ := h
  simp [retS] at h
end
/-! ### Sums that may come first -/
section
variable {P : Program} {m : M} {Q : Exit → St → Prop}
def inAt (m : M) (i : Nat) : Option AV :=
  match m.ks with
  | .any ops listed (_ + 1) :: _ => match ops[i]? with
    | some o => match o.op with
      | .binOp .add _ x y _ => if o.guard.isNone && Region.noSelect ops && Region.free .any ops listed i && (Region.ready .any ops listed).contains i then (match ev m.st.fr x, ev m.st.fr y with
        | .int k a, .int k' b => if k = k' then some (.int k (k.wrap (a + b))) else none
        | _, _ => none) else none
      | _ => none
    | none => none
  | _ => none

theorem R.anyI (i : Nat) (v : AV) (h : inAt m i = some v) (np : NoPanic Q) (h' : Runs none P (exM i v m) Q) : Runs none P m Q := by
  obtain ⟨ks, ⟨fr, hp⟩⟩ := m
  simp only [runs_iff] at h' ⊢
  unfold inAt at h
  simp only at h
  split at h
  · rename_i ops listed n ks'
    split at h
    · rename_i o ho
      split at h
      · rename_i t x y ty hx
        split at h
        · rename_i hc
          simp only [Bool.and_eq_true] at hc
          obtain ⟨⟨⟨hg, hs⟩, hf⟩, hr⟩ := hc
          split at h
          · rename_i k a k' b h1 h2
            split at h
            · rename_i hk
              subst hk
              simp only [Option.some.injEq] at h
              subst h
              simp only [exM, ho, RunsK] at h' ⊢
              intro Z0 w0 ac w hS
              have hW : Region.wanted o (yielded ops ac.tmps) = true := by
                unfold Region.wanted
                rw [Option.isNone_iff_eq_none.1 hg]
              have hrun : ∃ u, ∀ w, (execOp ac.eval o).run P w = .ok (.value u) w := by
                obtain ⟨μ, F, _, _, hFr, _, _⟩ := hS
                have e1 := rel_int (h1 ▸ ev_rel hFr x)
                have e2 := rel_int (h2 ▸ ev_rel hFr y)
                refine ⟨.int k (k.wrap (a + b)), fun w => ?_⟩
                unfold execOp
                rw [hx]
                simp [e1, e2, eqGuard_at_int, binOp_add, Op.intArith] <;> rfl
              obtain ⟨u, hrun⟩ := hrun
              have hw' : WantedA ops o fr := wantedE_true (by unfold wantedE; rw [Option.isNone_iff_eq_none.1 hg])
              have h1' := StepR.sound (rd := none) (K := fun a' w' => Sim Z0 w0 ⟨putF fr o.dst (.int k (k.wrap (a + b))), hp⟩ a' w') (Q := fun _ _ _ => True) (st' := ⟨putF fr o.dst (.int k (k.wrap (a + b))), hp⟩) (by simpa using StepR.eff (P := P) (st := ⟨fr, hp⟩) hw' (v := .int k (k.wrap (a + b))) (news := []) (by rw [hx]; exact EffR.bin k a b h1 h2 rfl)) hS (fun _ _ h => h)
              rw [if_pos hW] at h1'
              unfold Oper.wpIn at h1'
              have h1' := h1'.2
              rw [show (Fc none).round = none from rfl, Oper.semAt_none, hrun w] at h1'
              simp only [Oper.uponIn] at h1'
              exact wpAnyIn_take rfl ho hs hf hr (fun c a w ⟨st', hq, _⟩ => absurd (runsK_panic ks' st' hq) (np c st')) ⟨.inl ⟨hW, hrun⟩, fun w => by unfold Oper.about; rw [hx]⟩ (h' Z0 w0 _ w h1')
            · cases h
          · cases h
        · cases h
      · cases h
    · cases h
  · cases h

/-! ### One element is taken out of a row: append(x[:j], x[j+1:]...) -/
theorem AnyQ.del {ops : Array Oper} {listed : Array Bool} {n : Nat} {fr : List AV} {hp : List AObj} {R : Exit → St → Prop} {i1 i2 i3 : Nat} {o1 o2 o3 : Oper} {t d1 d2 i el s by_ N j : Nat} {k1 k2 : IntKind} {x y hi lo : Operand} {cs zs : List AV}
    (np : ∀ c st, ¬ R (.panic c) st) (hs : Region.noSelect ops = true)
    (ho1 : ops[i1]? = some o1) (ho2 : ops[i2]? = some o2) (ho3 : ops[i3]? = some o3) (g1 : o1.guard = none) (g2 : o2.guard = none) (g3 : o3.guard = none)
    (p1 : o1.op = .slice t x none (some hi) none) (p2 : o2.op = .slice t y (some lo) none none) (p3 : o3.op = .call { callee := .builtin .append, args := #[.tmp d1, .tmp d2], argTypes := #[t, t] })
    (e1 : o1.dst = some d1) (e2 : o2.dst = some d2) (hne : d1 ≠ d2) (hd1 : d1 < fr.length) (hd2 : d2 < fr.length) (hy1 : y ≠ .tmp d1) (hl1 : lo ≠ .tmp d1)
    (hf1 : Region.free .any ops listed i1 = true) (hr1 : (Region.ready .any ops listed).contains i1 = true)
    (hf2 : Region.free .any ops (listed.setIfInBounds i1 true) i2 = true) (hr2 : (Region.ready .any ops (listed.setIfInBounds i1 true)).contains i2 = true)
    (hr3 : Region.ready .any ops ((listed.setIfInBounds i1 true).setIfInBounds i2 true) = [i3])
    (hx : ev fr x = .ref i) (hy : ev fr y = .ref i) (hhi : ev fr hi = .int k1 j) (hlo : ev fr lo = .int k2 ((j + 1 : Nat) : Int)) (hr : rowB P t = some (el, s, zs, by_)) (hi' : hp[i]? = some (.list el s N cs)) (hj : j < N)
    (h1 : ∀ c ∈ cs, c.one = true) (hb : N * by_ ≤ 140737488355328) (hm : N ≤ maxLen)
    (h' : AnyQ none P ops (((listed.setIfInBounds i1 true).setIfInBounds i2 true).setIfInBounds i3 true) n ⟨putF (killL i (putF (putF fr (some d1) .top) (some d2) .top)) o3.dst (.ref i), (hp.map (AObj.kill i)).set i (.list el s (N - 1) (cs.take (j * s) ++ cs.drop ((j + 1) * s)))⟩ R) :
    AnyQ none P ops listed (n + 3) ⟨fr, hp⟩ R := by
  intro Z0 w0 a w hS
  obtain ⟨μ, F, hFb, hH, hF, hdf, hbl⟩ := hS
  have hB := hbl.size
  have hZn := zone_new (Z0 := Z0) hB hFb
  obtain ⟨info, z, hu, hinf, hz, rfl, rfl, hzs, hs0, _⟩ := row_parts hr
  have hxv := hx ▸ ev_rel hF x
  have hyv := hy ▸ ev_rel hF y
  simp only [Rel] at hxv hyv
  have hhv := rel_int (hhi ▸ ev_rel hF hi)
  have hlv := rel_int (hlo ▸ ev_rel hF lo)
  have hts : a.tmps.size = fr.length := by simpa using hF.length
  have hel : elemB P t = some (el, info.size) := by
    unfold elemB
    rw [hu]
    simp [hinf]
  obtain ⟨xs, hown, hrx⟩ := hH.obj i _ _ hi' hxv
  have hlen := hrx.length
  have hcl := hown.1
  rcases hown.2 with ⟨_, h0⟩ | ⟨g, cap, cur, hv0, hB2, hg, hnc, hcm, hcs, htk⟩
  · omega
  have hyx : a.eval y = a.eval x := by rw [hxv] at hyv; exact (Option.some.inj hyv).symm
  have hc0 : ¬ cap = 0 := by omega
  -- the two slices
  have r1 : ∀ w, (Instr.sliceAt t (a.eval x) none (some (.int k1 j)) none).run P w = .ok (.slice (some ⟨g, 0, none⟩) j cap) w := fun w => by
    have := run_sliceAt (P := P) hel (some ⟨g, 0, none⟩) N cap none (some (.int k1 j)) none 0 j cap (fun w => by simp [Instr.sliceBounds, run_bound (P := P) k1 j cap _ (by omega)]) w
    rw [← hv0] at this
    simpa [if_neg hc0, add_lit'] using this
  have r2 : ∀ w, (Instr.sliceAt t (a.eval y) (some (.int k2 ((j + 1 : Nat) : Int))) none none).run P w = .ok (.slice (if cap = j + 1 then some ⟨g, 0, none⟩ else some ⟨g, (j + 1) * info.size, none⟩) (N - (j + 1)) (cap - (j + 1))) w := fun w => by
    have := run_sliceAt (P := P) hel (some ⟨g, 0, none⟩) N cap (some (.int k2 ((j + 1 : Nat) : Int))) none none (j + 1) N cap (fun w => by
      have hbb := run_bound (P := P) k2 (j + 1) N .sliceB (by omega) w
      simp [Instr.sliceBounds] at hbb ⊢; simp [hbb]) w
    rw [hyx, hv0]
    simpa [add_lit'] using this
  obtain ⟨v1, hv1⟩ : ∃ v1 : Value, v1 = .slice (some ⟨g, 0, none⟩) j cap := ⟨_, rfl⟩
  obtain ⟨A, hAe⟩ : ∃ A : Option Addr, A = (if cap = j + 1 then some ⟨g, 0, none⟩ else some ⟨g, (j + 1) * info.size, none⟩) := ⟨_, rfl⟩
  rw [← hv1] at r1
  rw [← hAe] at r2
  have w1 : Region.wanted o1 (yielded ops a.tmps) = true := by unfold Region.wanted; rw [g1]
  refine wpAnyIn_take (v := v1) rfl ho1 hs hf1 hr1 (fun c a w ⟨st', hq, _⟩ => absurd hq (np c st')) ⟨.inl ⟨w1, fun w => by simp only [execOp, p1, hhv, Option.map_some, Option.map_none, Sem.run_bind, r1, Result.andThen_ok, Sem.run_pure]⟩, fun w => by unfold Oper.about; rw [p1]⟩ ?_
  rw [e1]
  have q2 : (a.put (some d1) v1).eval y = a.eval y := Act.eval_put fun d hd => by cases hd; exact hy1
  have q3 : (a.put (some d1) v1).eval lo = a.eval lo := Act.eval_put fun d hd => by cases hd; exact hl1
  have w2 : Region.wanted o2 (yielded ops (a.put (some d1) v1).tmps) = true := by unfold Region.wanted; rw [g2]
  refine wpAnyIn_take (v := .slice A (N - (j + 1)) (cap - (j + 1))) rfl ho2 hs hf2 hr2 (fun c a w ⟨st', hq, _⟩ => absurd hq (np c st')) ⟨.inl ⟨w2, fun w => by simp only [execOp, p2, q2, q3, hlv, Option.map_some, Option.map_none, Sem.run_bind, r2, Result.andThen_ok, Sem.run_pure]⟩, fun w => by unfold Oper.about; rw [p2]⟩ ?_
  rw [e2]
  refine wpAnyIn_all hr3 (by simp) fun k hk => ?_
  simp only [List.mem_cons, List.not_mem_nil, or_false] at hk
  subst hk
  refine wpOp_of_one (Q1 := fun e a' w' => e = .normal ∧ wpAnyIn (Fc none) 0 P .any ops (fun e a' w' => ∃ st', R e st' ∧ Sim Z0 w0 st' a' w') n (((listed.setIfInBounds i1 true).setIfInBounds i2 true).setIfInBounds k true) a' w') ho3 ?_ (fun a w h => h.2) (fun e a w hne h => absurd h.1 hne)
  refine wpListIn_plain g3 fun K hK => ?_
  refine wpIn_of_run (fun c h => by rw [p3] at h; cases h) ?_
  -- the append
  have hown1 : w.ownsRow w0.heap.size el info.size v1 j (xs.take (j * info.size)) := by
    have hle : j * info.size ≤ N * info.size := Nat.mul_le_mul_right _ (by omega)
    refine ⟨by rw [List.length_take, hcl]; omega, .inr ⟨g, cap, cur, hv1, hB2, hg, by omega, hcm, hcs, ?_⟩⟩
    rw [← htk, List.take_take, Nat.min_eq_left hle]
  have hmul : (j + 1) * info.size + (N - (j + 1)) * info.size = N * info.size := by rw [← Nat.add_mul]; congr 1; omega
  have hyl : (xs.drop ((j + 1) * info.size)).length = (N - (j + 1)) * info.size := by rw [List.length_drop, hcl]; omega
  have hsrc : xs.drop ((j + 1) * info.size) ≠ [] → ∃ ad, A = some ad ∧ ∀ (q : Nat) u, (xs.drop ((j + 1) * info.size))[q]? = some u → w.cell? (ad.add q) = some u := by
    intro hne0
    have hN : j + 1 < N := by
      refine Nat.lt_of_not_le fun hle => hne0 ?_
      apply List.eq_nil_of_length_eq_zero
      rw [hyl, show N - (j + 1) = 0 by omega, Nat.zero_mul]
    refine ⟨⟨g, (j + 1) * info.size, none⟩, by rw [hAe, if_neg (by omega)], fun q u hq => ?_⟩
    rw [List.getElem?_drop] at hq
    have := hown.cells (g := g) (by rw [hv0]; rfl) _ u hq
    rw [add_lit'] at this ⊢
    rw [Nat.zero_add] at this
    exact this
  have hA0 : A = none → xs.drop ((j + 1) * info.size) = [] := fun h => by
    rw [hAe] at h
    split at h <;> cases h
  have h1x := ones_rel (μ := []) (w := w) (Z := Zone Z0 F w0.heap.size) (by simp) h1 hrx
  obtain ⟨v', w', hrun, hown', hgr, hblk⟩ := run_append_all (P := P) (ty := o3.type) (cp := cap - (j + 1)) hr hown1 hyl hsrc hA0 (fun u hu => h1x u (List.mem_of_mem_drop hu)) (by rw [show j + (N - (j + 1)) = N - 1 by omega]; exact Nat.le_trans (Nat.mul_le_mul_right _ (Nat.sub_le _ _)) hb) (by omega) hB
  have hbu' := ownsRow_blk hown'
  have hbv1 : v1.ownBlock = some g := by rw [hv1]; rfl
  have hbx : blk (a.eval x) = some g := by rw [hv0]; rfl
  have ed1 : ((a.put (some d1) v1).put (some d2) (.slice A (N - (j + 1)) (cap - (j + 1)))).eval (.tmp d1) = v1 := by
    simp [Act.put, Act.eval, hts, hd1, Ne.symm hne]
  have ed2 : ((a.put (some d1) v1).put (some d2) (.slice A (N - (j + 1)) (cap - (j + 1)))).eval (.tmp d2) = .slice A (N - (j + 1)) (cap - (j + 1)) := by
    simp [Act.put, Act.eval, hts, hd2]
  have er : (execOp ((a.put (some d1) v1).put (some d2) (.slice A (N - (j + 1)) (cap - (j + 1)))).eval o3).run P w = .ok (.value v') w' := by
    simp only [execOp, p3, resolve, List.map_toArray, List.map_cons, List.map_nil, ed1, ed2, Sem.run_bind, Sem.run_pure, Result.andThen_ok, invoke, builtin, hrun]
  rw [er]
  refine hK _ _ (wpListIn_nil ⟨rfl, ?_⟩)
  have hoth : ∀ b, b < w.heap.size → blk (a.eval x) ≠ some b → w'.heap[b]? = w.heap[b]? := fun b hb1 hne => hgr.block b hb1 (fun e => hne (by rw [hbx, ← hbv1, e]))
  have hk : ∀ b, b < w.heap.size → ¬ Zone Z0 F w0.heap.size b → w'.heap[b]? = w.heap[b]? := fun b hb1 hz => hoth b hb1 (fun e => hz (hH.zone i _ _ b hi' rfl hxv e))
  have hm' : ∀ (q : Nat) (u : Value), q ≠ i → μ[q]? = some u → (μ.set i v')[q]? = some u := fun q u hne hu => by rw [List.getElem?_set_ne (Ne.symm hne)]; exact hu
  have hil := (List.getElem?_eq_some_iff.1 hi').1
  refine h' Z0 w0 _ w' ⟨μ.set i v', F, fun b h => ⟨(hFb b h).1, Nat.lt_of_lt_of_le (hFb b h).2 hgr.size⟩, ?_, ?_, ?_, hbl.trans ⟨hgr.os, hgr.tape, hgr.output, hgr.size, fun b hb1 => hoth b (by omega) (fun e => by rw [hbx] at e; simp only [Option.some.injEq] at e; omega)⟩⟩
  · have hown2 : w'.ownsRow w0.heap.size el info.size v' (N - 1) (xs.take (j * info.size) ++ xs.drop ((j + 1) * info.size)) := by
      rw [show N - 1 = j + (N - (j + 1)) by omega]; exact hown'
    refine hH.update hZn hi' hxv rfl hoth ⟨_, hown2, ?_⟩ (fun b hb2 => ?_) (ownsRow_one hown')
    · exact ((hrx.take _).append (hrx.drop _)).keep hk (fun _ _ h => h)
    · rw [hbu'] at hb2
      rcases hblk with e1 | e1
      · left; rw [hbx, ← hbv1, ← e1]; exact hb2
      · right; rw [e1] at hb2; simp only [Option.some.injEq] at hb2; omega
  · refine put_rel ?_ _ (by simp only [Rel]; rw [List.getElem?_set_self (by rw [hH.len]; exact hil)])
    exact RelL.keep_kill i hk hm' (put_rel (put_rel hF (some d1) (v := .top) (by simp [Rel])) (some d2) (v := .top) (by simp [Rel]))
  · rw [put_defers', put_defers', put_defers']
    refine hdf.keep fun q y hq => ?_
    have hqi : q ≠ i := by rintro rfl; rw [hi'] at hq; cases hq
    refine ⟨?_, fun u hu => hm' q u hqi hu⟩
    rw [List.getElem?_set_ne (Ne.symm hqi), List.getElem?_map, hq]
    rfl
def isTmp (d : Nat) : Operand → Bool
  | .tmp q => q == d
  | _ => false
def delAt (P : Program) (m : M) (i1 i2 i3 : Nat) : Option (Nat × Nat × Nat × Nat × List AV × Nat × Int × Int) :=
  match m.ks with
  | .any ops listed (_ + 3) :: _ => match ops[i1]?, ops[i2]?, ops[i3]? with
    | some o1, some o2, some o3 => match o1.op, o2.op, o3.op with
      | .slice t x none (some hi) none, .slice t' y (some lo) none none, .call c => match c.callee, c.args.toList, c.argTypes.toList, o1.dst, o2.dst with
        | .builtin .append, [.tmp d1, .tmp d2], [ta, tb], some e1, some e2 =>
          if decide (t' = t ∧ ta = t ∧ tb = t ∧ e1 = d1 ∧ e2 = d2 ∧ d1 ≠ d2 ∧ d1 < m.st.fr.length ∧ d2 < m.st.fr.length) && !(isTmp d1 y) && !(isTmp d1 lo) && o1.guard.isNone && o2.guard.isNone && o3.guard.isNone && Region.noSelect ops && Region.free .any ops listed i1 && (Region.ready .any ops listed).contains i1 && Region.free .any ops (listed.setIfInBounds i1 true) i2 && (Region.ready .any ops (listed.setIfInBounds i1 true)).contains i2 && decide (Region.ready .any ops ((listed.setIfInBounds i1 true).setIfInBounds i2 true) = [i3]) then
            match ev m.st.fr x, ev m.st.fr y, ev m.st.fr hi, ev m.st.fr lo, rowB P t with
            | .ref i, .ref i', .int _ a, .int _ b, some (el, s, _, by_) => match m.st.hp[i]? with
              | some (.list el' s' n cs) => if i' = i ∧ el' = el ∧ s' = s then some (i, el, s, n, cs, by_, a, b) else none
              | _ => none
            | _, _, _, _, _ => none
          else none
        | _, _, _, _, _ => none
      | _, _, _ => none
    | _, _, _ => none
  | _ => none
def delM (i1 i2 i3 i : Nat) (ob : AObj) (m : M) : M :=
  match m.ks with
  | .any ops listed n :: ks => match ops[i1]?, ops[i2]?, ops[i3]? with
    | some o1, some o2, some o3 => ⟨.any ops (((listed.setIfInBounds i1 true).setIfInBounds i2 true).setIfInBounds i3 true) (n - 3) :: ks, ⟨putF (killL i (putF (putF m.st.fr o1.dst .top) o2.dst .top)) o3.dst (.ref i), (m.st.hp.map (AObj.kill i)).set i ob⟩⟩
    | _, _, _ => m
  | _ => m

theorem tmp_ne {y : Operand} {d : Nat} (h : (!(isTmp d y)) = true) : y ≠ .tmp d := by
  rintro rfl
  simp [isTmp] at h

theorem R.del {α : Type} {m : M} {Q : Exit → St → Prop} (E : α → List AV) (xs : List α) (i1 i2 i3 i el b j : Nat) {s : Nat} (hi lo : Int) (h : delAt P m i1 i2 i3 = some (i, el, s, xs.length, rows E xs, b, hi, lo)) (hhi : hi = (j : Int)) (hlo : lo = ((j + 1 : Nat) : Int))
    (hE : ∀ x, (E x).length = s) (hE1 : ∀ x, (E x).all AV.one = true) (hj : j < xs.length) (h0 : 0 < b) (hb : xs.length * b ≤ 140737488355328) (np : NoPanic Q)
    (h' : Runs none P (delM i1 i2 i3 i (.list el s (xs.take j ++ xs.drop (j + 1)).length (rows E (xs.take j ++ xs.drop (j + 1)))) m) Q) : Runs none P m Q := by
  subst hhi
  subst hlo
  obtain ⟨ks, ⟨fr, hp⟩⟩ := m
  unfold delAt at h
  simp only at h
  split at h
  · rename_i ops listed n ks'
    split at h
    · rename_i o1 o2 o3 ho1 ho2 ho3
      split at h
      · rename_i t x hi0 t' y lo0 c p1 p2 p3
        obtain ⟨callee, args, tys⟩ := c
        simp only at h
        split at h
        · rename_i d1 d2 ta tb e1 e2 ha hb' he1 he2
          split at h
          · rename_i hc
            simp only [Bool.and_eq_true, decide_eq_true_eq, Option.isNone_iff_eq_none] at hc
            obtain ⟨⟨⟨⟨⟨⟨⟨⟨⟨⟨⟨⟨rfl, rfl, rfl, rfl, rfl, hne, hd1, hd2⟩, hy1⟩, hl1⟩, g1⟩, g2⟩, g3⟩, hs⟩, hf1⟩, hr1⟩, hf2⟩, hr2⟩, hr3⟩ := hc
            split at h
            · rename_i i0 i0' k1 a k2 b2 el0 s0 z0 by0 hx hy hhi hlo hr
              split at h
              · rename_i el1 s1 n1 cs1 hi1
                split at h
                · rename_i he
                  obtain ⟨rfl, rfl, rfl⟩ := he
                  simp only [Option.some.injEq, Prod.mk.injEq] at h
                  obtain ⟨rfl, rfl, rfl, rfl, rfl, rfl, rfl, rfl⟩ := h
                  have ea : args = #[.tmp e1, .tmp e2] := Array.toList_inj.1 ha
                  have et : tys = #[_, _] := Array.toList_inj.1 hb'
                  subst ea
                  subst et
                  simp only [runs_iff, delM, ho1, ho2, ho3, RunsK] at h' ⊢
                  have hlen : (xs.take j ++ xs.drop (j + 1)).length = xs.length - 1 := by simp; omega
                  rw [hlen, rows_append, ← rows_take hE, ← rows_drop hE] at h'
                  refine AnyQ.del (fun c st hq => np c st (runsK_panic ks' st hq)) hs ho1 ho2 ho3 g1 g2 g3 p1 p2 p3 he1 he2 hne hd1 hd2 (tmp_ne hy1) (tmp_ne hl1) hf1 hr1 hf2 hr2 hr3 hx hy hhi hlo hr hi1 hj (fun c hc => List.all_eq_true.1 (rows_all hE1 _) c hc) hb (app_bound hb h0) ?_
                  rw [← he1, ← he2]
                  exact h'
                · cases h
              · cases h
            · cases h
          · cases h
        · cases h
      · cases h
    · cases h
  · cases h
end
end Go.Abs


/-! The machine's rules: triples of numbers are compared. -/
namespace Go.Abs
open Go.RowKit

section
variable {rd : Option Nat} {P : Program} {m : M} {Q : Exit → St → Prop}
end
section
variable {P : Program} {m : M} {Q : Exit → St → Prop}
/-- The place of an element of a row that is read alone may come first. -/
def ipAt (P : Program) (m : M) (i : Nat) : Option (Nat × Nat × List AV × Int) :=
  match m.ks with
  | .any ops listed (_ + 1) :: _ => match ops[i]? with
    | some o => match o.op with
      | .indexAddr t x y => if o.guard.isNone && Region.noSelect ops && Region.free .any ops listed i && (Region.ready .any ops listed).contains i then (match ev m.st.fr x, ev m.st.fr y, elemB P t with
        | .lst s n cs, .int _ j, some (_, s') => if s' = s ∧ s ≠ 0 then some (s, n, cs, j) else none
        | _, _, _ => none) else none
      | _ => none
    | none => none
  | _ => none
theorem R.anyP {α : Type} (i : Nat) (E : α → List AV) (xs : List α) (d : α) (j : Nat) (ji : Int) {s : Nat} (h : ipAt P m i = some (s, xs.length, rows E xs, ji)) (hji : ji = (j : Int)) (hE : ∀ x, (E x).length = s) (hj : j < xs.length) (np : NoPanic Q)
    (h' : Runs none P (exM i (.rptr (E (xs.getD j d))) m) Q) : Runs none P m Q := by
  obtain ⟨ks, ⟨fr, hp⟩⟩ := m
  simp only [runs_iff] at h' ⊢
  unfold ipAt at h
  simp only at h
  split at h
  · rename_i ops listed n ks'
    split at h
    · rename_i o ho
      split at h
      · rename_i t x y hx
        split at h
        · rename_i hc
          simp only [Bool.and_eq_true] at hc
          obtain ⟨⟨⟨hg, hs⟩, hf⟩, hr⟩ := hc
          split at h
          · rename_i s0 n0 cs k j0 el s' h1 h2 hel
            split at h
            · rename_i hss
              obtain ⟨rfl, hs0⟩ := hss
              cases h
              subst hji
              simp only [exM, ho, RunsK] at h' ⊢
              intro Z0 w0 ac w hS
              have hW : Region.wanted o (yielded ops ac.tmps) = true := by
                unfold Region.wanted
                rw [Option.isNone_iff_eq_none.1 hg]
              have hrun : ∃ u, ∀ w, (execOp ac.eval o).run P w = .ok (.value u) w := by
                obtain ⟨μ, F, _, _, hFr, _, _⟩ := hS
                have e1 := h1 ▸ ev_rel hFr x
                have e2 := rel_int (h2 ▸ ev_rel hFr y)
                simp only [Rel] at e1
                obtain ⟨A, c, vs, e3, e4, e5, e6, e7⟩ := e1
                have hne : vs ≠ [] := by
                  rintro rfl
                  have := e7.length
                  rw [e4] at this
                  have h5 : 0 < xs.length * s := Nat.mul_pos (by omega) (by omega)
                  simp at this
                  omega
                obtain ⟨ad, rfl, _, _⟩ := e6 hne
                refine ⟨.pointer (some (ad.add ((j : Int).toNat * s))), fun w => ?_⟩
                unfold execOp
                rw [hx]
                simp [e3, e2, run_indexAt hel (show (0 : Int) ≤ (j : Int) by omega) (show (j : Int) < (xs.length : Nat) by omega) w] <;> rfl
              obtain ⟨u, hrun⟩ := hrun
              have hw' : WantedA ops o fr := wantedE_true (by unfold wantedE; rw [Option.isNone_iff_eq_none.1 hg])
              have h1' := StepR.sound (rd := none) (K := fun a' w' => Sim Z0 w0 ⟨putF fr o.dst (.rptr (E (xs.getD j d))), hp⟩ a' w') (Q := fun _ _ _ => True) (st' := ⟨putF fr o.dst (.rptr (E (xs.getD j d))), hp⟩) (by simpa using StepR.eff (P := P) (st := ⟨fr, hp⟩) hw' (v := .rptr (E (xs.getD j d))) (news := []) (by rw [hx]; exact EffR.indexAddrE _ xs.length (rows E xs) k (j : Int) el _ _ h1 h2 hel hs0 (by omega) (by omega) (rows_at hE xs j d hj))) hS (fun _ _ h => h)
              rw [if_pos hW] at h1'
              unfold Oper.wpIn at h1'
              have h1' := h1'.2
              rw [show (Fc none).round = none from rfl, Oper.semAt_none, hrun w] at h1'
              simp only [Oper.uponIn] at h1'
              exact wpAnyIn_take rfl ho hs hf hr (fun c a w ⟨st', hq, _⟩ => absurd (runsK_panic ks' st' hq) (np c st')) ⟨.inl ⟨hW, hrun⟩, fun w => by unfold Oper.about; rw [hx]⟩ (h' Z0 w0 _ w h1')
            · cases h
          · cases h
        · cases h
      · cases h
    · cases h
  · cases h
end
end Go.Abs


/-! Calls that need no object of the caller's, beside any objects. -/
namespace Go.Abs
open Go.RowKit

theorem zone_two {Z0 F F1 : Nat → Prop} {B C : Nat} (hBC : B ≤ C) (hF : ∀ b, F b → B ≤ b ∧ b < C) (hF1 : ∀ b, F1 b → C ≤ b) (b : Nat) : Zone Z0 (fun b => F b ∨ F1 b) B b ↔ Zone (Zone Z0 F B) F1 C b := by
  unfold Zone
  constructor
  · rintro (⟨h1, h2⟩ | ⟨h1, h2⟩)
    · exact .inl ⟨by omega, .inl ⟨h1, h2⟩⟩
    · rcases Nat.lt_or_ge b C with h | h
      · exact .inl ⟨h, .inr ⟨h1, fun hf => h2 (.inl hf)⟩⟩
      · exact .inr ⟨h, fun hf => h2 (.inr hf)⟩
  · rintro (⟨h1, h2 | h2⟩ | ⟨h1, h2⟩)
    · exact .inl h2
    · refine .inr ⟨h2.1, ?_⟩
      rintro (hf | hf)
      · exact h2.2 hf
      · have := hF1 b hf; omega
    · refine .inr ⟨by omega, ?_⟩
      rintro (hf | hf)
      · have := hF b hf; omega
      · exact h2 hf

section
variable {rd : Option Nat} {P : Program} {m : M} {Q : Exit → St → Prop}
theorem CallX.any {f : FuncId} {args : List AV} {Φ : AV → List AObj → Prop} (hp : List AObj) (hc : CallX P f args [] Φ) (hl : leafyL args = true) (hΦ : ∀ r h, Φ r h → h = []) : CallX P f args hp fun r h => h = hp ∧ Φ r [] := by
  obtain ⟨hen, hc⟩ := hc
  refine ⟨hen, ?_⟩
  intro Z0 F w0 w μ vs us fr hFb hH hvs hus hbel
  have hBC := hbel.size
  have zn : ∀ b, b < w.heap.size → (Zone (Zone Z0 F w0.heap.size) NoF w.heap.size b ↔ Zone Z0 F w0.heap.size b) := fun b hb => by
    unfold Zone NoF
    constructor
    · rintro (h | h)
      · exact h.2
      · omega
    · exact fun h => .inl ⟨hb, h⟩
  have hvs1 : RelL w (Zone (Zone Z0 F w0.heap.size) NoF w.heap.size) [] args vs := (RelL.leafy hl hvs).weak fun b hb h1 h2 => h1 ((zn b hb).1 h2)
  have h0 : HRel w (Zone (Zone Z0 F w0.heap.size) NoF w.heap.size) w.heap.size [] [] := ⟨rfl, fun i o u g h => by simp at h, fun i u h => by simp at h, fun i o u h => by simp at h, fun i j oi oj ui uj g _ h => by simp at h⟩
  refine (hc (Zone Z0 F w0.heap.size) NoF w w [] vs [] [] (fun b h => h.elim) h0 hvs1 RelL.nil (Below.refl _ _)).mono ?_
  rintro e w' ⟨v, μ', F1, res, hp', hΦ1, rfl, hF1, hH1, hres, _, hb1⟩
  have e1 := hΦ _ _ hΦ1
  subst e1
  have hm' : μ' = [] := List.eq_nil_of_length_eq_zero (by simpa using hH1.len)
  subst hm'
  have z2 := zone_two (Z0 := Z0) hBC hFb (fun b h => (hF1 b h).1)
  have hk : ∀ b, b < w.heap.size → w'.heap[b]? = w.heap[b]? := fun b hb => hb1.block b hb
  have hold : ∀ b, b < w'.heap.size → ¬ Zone Z0 F w0.heap.size b → ¬ Zone Z0 (fun b => F b ∨ F1 b) w0.heap.size b := by
    intro b _ h1 h2
    rcases Nat.lt_or_ge b w.heap.size with h | h
    · rcases (z2 b).1 h2 with h3 | h3
      · exact h1 h3.2
      · omega
    · exact h1 (.inr ⟨by omega, fun hf => by have := hFb b hf; omega⟩)
  refine ⟨v, μ, fun b => F b ∨ F1 b, res, hp, ⟨rfl, hΦ1⟩, rfl, ?_, ?_, ?_, ?_, hbel.trans (hb1.mono hBC)⟩
  · rintro b (h | h)
    · have := hFb b h; have := hb1.size; omega
    · have := hF1 b h; omega
  · refine ⟨hH.len, fun i o u g h1 ha h2 hg => ?_, hH.one, fun i o u h1 h2 => ?_, hH.sep⟩
    · have hz := hH.zone i o u g h1 ha h2 hg
      have hlt := ((hH.obj i o u h1 h2).blk_ge ha hg).2
      exact (z2 g).2 (.inl ⟨hlt, hz⟩)
    · have h3 := hH.obj i o u h1 h2
      cases ha : o.alive with
      | true => exact (h3.keep (w' := w') (fun b hb _ => hk b hb) (fun _ _ h => h) (fun g hg => hk g (h3.blk_ge ha hg).2)).weak hold
      | false => exact (h3.keep_dead (w' := w') (B' := w0.heap.size) (u' := u) (fun b hb _ => hk b hb) (fun _ _ h => h) ha).weak hold
  · exact Rel.lift (hres.weak fun b _ h1 h2 => h1 ((z2 b).1 h2))
  · exact (hus.keep (w' := w') (fun b hb _ => hk b hb) (fun _ _ h => h)).weak hold

theorem R.callX0 {f : FuncId} {avs : List AV} {Φ : AV → List AObj → Prop} (hc : CallX P f avs [] Φ) (hl : leafyL avs = true) (h0 : ∀ r h, Φ r h → h = []) (h : csAt m = some (f, avs)) (ht : opsHd m = true) (h' : ∀ res, Φ res [] → Runs rd P (putM m none res m.st.hp) Q) : Runs rd P m Q :=
  R.callX (hc.any m.st.hp hl h0) h rfl ht fun res hp' ⟨e, hΦ⟩ => by subst e; exact h' res hΦ
end
end Go.Abs
