/- Texts of the proof: Symb, Symc, Symd, Syme, HN, CP1, RI0. -/
import Derived.Test.YtehbliocfpppoaaGreatPartG

/-! Calls of which is told that there is a result with some facts, which may speak of the first block that the call made; calls by value whose arguments are told less of. -/
namespace Go.Abs
open Go.RowKit
def CallE (P : Program) (f : FuncId) (args : List AV) (Φ : Nat → AV → Prop) : Prop :=
 Enters P f ∧ ∀ (Z0 : Nat → Prop) (w : World) (vs : List Value), RelL w (Zone Z0 NoF w.heap.size) [] args vs →
  Calls P f vs.toArray w fun e w' => ∃ res v bs F', Φ w.heap.size res ∧ e = .returned v ∧ (∀ b, F' b → w.heap.size ≤ b ∧ b < w'.heap.size) ∧ RF w' (Zone Z0 F' w.heap.size) w.heap.size res v bs ∧ bs.Nodup ∧ (∀ b ∈ bs, ¬ F' b) ∧ Below w.heap.size w w'
theorem CallE.toA {P : Program} {f : FuncId} {args : List AV} {res : AV} (h : CallE P f args fun _ r => r = res) : CallA P f args res := by
 refine ⟨h.1, fun Z0 w vs hvs => (h.2 Z0 w vs hvs).mono ?_⟩
 rintro e w' ⟨r, v, bs, F', hr, hh⟩
 subst hr
 exact ⟨v, bs, F', hh⟩
theorem CallE.mono {P : Program} {f : FuncId} {args : List AV} {Φ Ψ : Nat → AV → Prop} (h : CallE P f args Φ) (h' : ∀ b r, Φ b r → Ψ b r) : CallE P f args Ψ := by
 refine ⟨h.1, fun Z0 w vs hvs => (h.2 Z0 w vs hvs).mono ?_⟩
 rintro e w' ⟨r, v, bs, F', hr, h⟩
 exact ⟨r, v, bs, F', h' _ _ hr, h⟩
def resB (P : Program) (fn : Func) (st : St) : Option AV :=
 match st.hp[0]? with
 | some (AObj.inert (Inert.base _)) => if noMark st.hp then resOf P fn ⟨st.fr, st.hp.set 0 AObj.dead⟩ else none
 | _ => none
def retE (P : Program) (fn : Func) (b : Nat) (Φ : Nat → AV → Prop) : Exit → St → Prop := fun e st' => (e = .normal ∨ e = .ret) ∧ ∃ res, Φ b res ∧ resB P fn st' = some res
theorem R.retB {P : Program} {m : M} {fn : Func} {b : Nat} {Φ : Nat → AV → Prop} (res : AV) (h : (edAt m).isSome = true) (hr : resB P fn m.st = some res) (hΦ : Φ b res) : Runs none P m (Go.Abs.retE P fn b Φ) :=
 R.fin h ⟨.inl rfl, res, hΦ, hr⟩ ⟨.inr rfl, res, hΦ, hr⟩
theorem k32 {P : Program} {m : M} {fn : Func} {b : Nat} {Φ : Nat → AV → Prop} (res : AV) (hΦ : Φ b res) (h : (edAt m).isSome = true := by kernel_rfl) (hr : resB P fn m.st = some res := by kernel_rfl) : Runs none P m (Go.Abs.retE P fn b Φ) := _root_.Go.Abs.R.retB res h hr hΦ
theorem CallE.of {P : Program} {f : FuncId} {fn : Func} {c : Code} {args : List AV} {Φ : Nat → AV → Prop} (hf : P.funcs[f]? = some fn) (hb : fn.body = some c) (hnm : (fn.name == "runtime.NumGoroutine") = false)
  (h : ∀ b, Runs none P ⟨[.code c], ⟨frameOf fn.ntmps args, [.inert (.base b)]⟩⟩ (retE P fn b Φ)) : CallE P f args Φ := by
 refine ⟨enters_of hf hnm (by rw [hb]; rfl), ?_⟩
 intro Z0 w vs hvs
 have hlen := hvs.length
 refine callsIn_wide.1 (callsIn_of_wp_marks (F := Fence.wide) (n := 0) hf hb trivial ?_)
 have hS : Sim Z0 w ⟨args ++ List.replicate (fn.ntmps - args.length) .top, [.inert (.base w.heap.size)]⟩ { tmps := vs.toArray ++ Array.replicate (fn.ntmps - vs.toArray.size) undef, defers := [] } w := by
  have one : ∀ {i : Nat} {α : Type} {x y : α}, ([x] : List α)[i]? = some y → i = 0 ∧ y = x := by
   intro i α x y h
   cases i with
   | zero => simp at h; exact ⟨rfl, h.symm⟩
   | succ i => simp at h
  refine ⟨[.bool false], NoF, fun b h => h.elim, ⟨rfl, fun i o u g h1 h2 h3 hg => ?_, fun i u h => ?_, fun i o u h1 h2 => ?_, fun i j oi oj ui uj g hne h1 h2 => ?_⟩, ?_, .inl rfl, Below.refl _ _⟩
  ·obtain ⟨_, rfl⟩ := one h3
   cases hg
  ·obtain ⟨_, rfl⟩ := one h
   rfl
  ·obtain ⟨_, rfl⟩ := one h1
   obtain ⟨_, rfl⟩ := one h2
   exact ⟨rfl, rfl⟩
  ·exact absurd ((one h1).1.trans (one h2).1.symm) hne
  simp only [Array.toList_append, Array.toList_replicate, List.size_toArray, hlen]
  refine (RelL.lift hvs).append ?_
  generalize fn.ntmps - args.length = n
  induction n with
  | zero => exact RelL.nil
  | succ n ih => exact RelL.cons (by simp [Rel]) ih
 refine wpIn_mono ((h w.heap.size).out Z0 w _ w hS) ?_
 have fin : ∀ (st' : St) (a' : Act) (w' : World) res, Φ w.heap.size res → resB P fn st' = some res → Sim Z0 w st' a' w' → LeavesInM Fence.wide 0 P fn a'.tmps (fun e w'' => ∃ res v' bs F', Φ w.heap.size res ∧ e = .returned v' ∧ (∀ b, F' b → w.heap.size ≤ b ∧ b < w''.heap.size) ∧ RF w'' (Zone Z0 F' w.heap.size) w.heap.size res v' bs ∧ bs.Nodup ∧ (∀ b ∈ bs, ¬ F' b) ∧ Below w.heap.size w w'') a'.defers .returning w' := by
  rintro st' a' w' res hΦ hr ⟨μ, F, hFb, hH, hF, hd, hbel⟩
  unfold resB at hr
  split at hr
  ·rename_i b hb0
   split at hr
   ·rename_i hnm
    have hr := resOf_parts hr
    rw [hd.none hnm]
    obtain ⟨x, bs, h1, h2, h3, h4⟩ := resOf_run (st := ⟨st'.fr, st'.hp.set 0 .dead⟩) (hH.bury 0) hF hr.1
    have hge := RF.ge h2
    refine ⟨x, h1, res, x, bs, F, hΦ, rfl, hFb, h2, h3, fun b hb hf => ?_, hbel⟩
    have := hge b hb
    exact (h4 b hb).elim (fun h => absurd h.1 (by omega)) (fun h => h.2 hf)
   ·cases hr
  ·cases hr
 rintro e a' w' ⟨st', ⟨hq, res, hΦ, hr⟩, hS'⟩
 rcases hq with rfl | rfl
 ·exact fin st' a' w' res hΦ hr hS'
 ·exact fin st' a' w' res hΦ hr hS'

mutual
def ClosedN (b : Nat) : AV → Prop
 | .nam v _ _ _ cs => closedL cs = true ∧ ∀ g, blk v = some g → b ≤ g
 | .own _ _ _ cs => ClosedNL b cs
 | .agg cs => ClosedNL b cs
 | .tup cs => ClosedNL b cs
 | .int _ _ => True
 | .bool _ => True
 | .str _ => True
 | .nil => True
 | .top => True
 | .lst _ _ _ => False
 | .clp _ _ _ => False
 | .rptr _ => False
 | .fn _ _ => False
 | .ref _ => False
 | .ptr _ _ => False
def ClosedNL (b : Nat) : List AV → Prop
 | [] => True
 | c :: cs => ClosedN b c ∧ ClosedNL b cs
end
theorem closedNL_iff {b : Nat} : ∀ {cs : List AV}, ClosedNL b cs ↔ ∀ c ∈ cs, ClosedN b c
 | [] => by simp [ClosedNL]
 | c :: cs => by rw [ClosedNL, closedNL_iff]; simp
mutual
theorem Rel.shutN {w : World} {Z Z' : Nat → Prop} {b : Nat} (hz : ∀ g, b ≤ g → ¬ Z g → ¬ Z' g) : ∀ {c : AV} {v : Value}, ClosedN b c → Rel w Z [] c v → Rel w Z' [] c v
 | .nam u o s n cs, v, hc, h => by
  simp only [Rel] at h ⊢
  simp only [ClosedN] at hc
  obtain ⟨⟨rfl, h00⟩, A, c, xs, h1, h2, h3, h4, h5⟩ := h
  refine ⟨⟨rfl, fun e he => ?_⟩, A, c, xs, h1, h2, h3, fun hx => ?_, RelL.shut hc.1 h5⟩
  ·obtain ⟨ys, k1, k2⟩ := h00 e he
   exact ⟨ys, k1, fun g hg => hz g (hc.2 g hg) (k2 g hg)⟩
  ·obtain ⟨ad, rfl, k1, k2⟩ := h4 hx
   exact ⟨ad, rfl, hz _ (hc.2 _ (by rw [h1]; rfl)) k1, k2⟩
 | .agg cs, v, hc, h => by
  simp only [Rel] at h ⊢
  simp only [ClosedN] at hc
  obtain ⟨xs, h1, h2⟩ := h
  exact ⟨xs, h1, RelL.shutN hz hc h2⟩
 | .tup cs, v, hc, h => by
  simp only [Rel] at h ⊢
  simp only [ClosedN] at hc
  obtain ⟨xs, h1, h2⟩ := h
  exact ⟨xs, h1, RelL.shutN hz hc h2⟩
 | .int _ _, _, _, h => by simpa [Rel] using h
 | .bool _, _, _, h => by simpa [Rel] using h
 | .str _, _, _, h => by simpa [Rel] using h
 | .nil, _, _, h => by simpa [Rel] using h
 | .top, _, _, h => by simp [Rel]
 | .own _ _ _ _, _, _, h => by simp [Rel] at h
 | .lst _ _ _, _, hc, _ => by simp [ClosedN] at hc
 | .clp _ _ _, _, hc, _ => by simp [ClosedN] at hc
 | .rptr _, _, hc, _ => by simp [ClosedN] at hc
 | .fn _ _, _, hc, _ => by simp [ClosedN] at hc
 | .ref _, _, hc, _ => by simp [ClosedN] at hc
 | .ptr _ _, _, hc, _ => by simp [ClosedN] at hc
theorem RelL.shutN {w : World} {Z Z' : Nat → Prop} {b : Nat} (hz : ∀ g, b ≤ g → ¬ Z g → ¬ Z' g) : ∀ {cs : List AV} {vs : List Value}, ClosedNL b cs → RelL w Z [] cs vs → RelL w Z' [] cs vs
 | [], _, _, h => by simpa [RelL] using h
 | c :: cs, _, hc, h => by
  simp only [RelL] at h ⊢
  simp only [ClosedNL] at hc
  obtain ⟨x, xs, h1, h2, h3⟩ := h
  exact ⟨x, xs, h1, Rel.shutN hz hc.1 h2, RelL.shutN hz hc.2 h3⟩
end
mutual
theorem RF.shutN {w : World} {Z Z' : Nat → Prop} {b B' : Nat} (hB : B' ≤ b) (hz : ∀ g, b ≤ g → ¬ Z g → ¬ Z' g) : ∀ {c : AV} {v : Value} {bs : List Nat}, ClosedN b c → RF w Z b c v bs → RF w Z' B' c v bs
 | .own e s n cs, v, bs, hc, h => by
  simp only [RF] at h ⊢
  simp only [ClosedN] at hc
  obtain ⟨xs, h1, h2, h3⟩ := h
  exact ⟨xs, ownsRow_from h1 (fun g hg => by
   rcases h1.2 with ⟨rfl, _⟩ | ⟨g', cap, cur, rfl, k1, _⟩
   ·cases hg
   ·cases hg; exact Nat.le_trans hB k1), RelL.shutN hz hc h2, h3⟩
 | .agg cs, v, bs, hc, h => by
  simp only [RF] at h ⊢
  simp only [ClosedN] at hc
  obtain ⟨xs, h1, h2⟩ := h
  exact ⟨xs, h1, RFL.shutN hB hz hc h2⟩
 | .tup cs, v, bs, hc, h => by
  simp only [RF] at h ⊢
  simp only [ClosedN] at hc
  obtain ⟨xs, h1, h2⟩ := h
  exact ⟨xs, h1, RFL.shutN hB hz hc h2⟩
 | .nam u o s n cs, v, bs, hc, h => by
  simp only [RF] at h ⊢
  exact ⟨Rel.shutN hz hc h.1, h.2⟩
 | .int _ _, _, _, _, h => by simpa [RF] using h
 | .bool _, _, _, _, h => by simpa [RF] using h
 | .str _, _, _, _, h => by simpa [RF] using h
 | .nil, _, _, _, h => by simpa [RF] using h
 | .top, _, _, _, h => by simpa [RF] using h
 | .lst _ _ _, _, _, hc, _ => by simp [ClosedN] at hc
 | .clp _ _ _, _, _, hc, _ => by simp [ClosedN] at hc
 | .rptr _, _, _, hc, _ => by simp [ClosedN] at hc
 | .fn _ _, _, _, hc, _ => by simp [ClosedN] at hc
 | .ref _, _, _, hc, _ => by simp [ClosedN] at hc
 | .ptr _ _, _, _, hc, _ => by simp [ClosedN] at hc
theorem RFL.shutN {w : World} {Z Z' : Nat → Prop} {b B' : Nat} (hB : B' ≤ b) (hz : ∀ g, b ≤ g → ¬ Z g → ¬ Z' g) : ∀ {cs : List AV} {vs : List Value} {bs : List Nat}, ClosedNL b cs → RFL w Z b cs vs bs → RFL w Z' B' cs vs bs
 | [], _, _, _, h => by simpa [RFL] using h
 | c :: cs, _, _, hc, h => by
  simp only [RFL] at h ⊢
  simp only [ClosedNL] at hc
  obtain ⟨x, xs, b1, b2, h1, h2, h3, h4⟩ := h
  exact ⟨x, xs, b1, b2, h1, RF.shutN hB hz hc.1 h2, RFL.shutN hB hz hc.2 h3, h4⟩
end
theorem OpsQ.callE {rd : Option Nat} {P : Program} {all : Array Oper} {o : Oper} {l : List Oper} {fr : List AV} {hp : List AObj} {R : Exit → St → Prop} {c : Operand} {args : Array Operand} {tys : Array TypeId} {f : FuncId} {caps avs : List AV} {Φ : Nat → AV → Prop} (hw : WantedA all o fr)
  (hop : o.op = .call { callee := .value c, args := args, argTypes := tys }) (hc : ev fr c = .fn f caps) (hs : SnapL hp (args.toList.map (ev fr) ++ caps) avs) (hcall : CallE P f avs Φ) (hcl : ∀ b r, Φ b r → ClosedN b r) (hnm : noMark hp = true)
  (h' : ∀ b1, (∀ (k b : Nat), hp[k]? = some (.inert (.base b)) → b ≤ b1) → (∀ u, InS u ⟨fr, hp⟩ → ∀ g, blk u = some g → g < b1) → ∀ res, Φ b1 res → OpsQ rd P all l ⟨putF fr o.dst (imp hp.length res).1, hp ++ (imp hp.length res).2⟩ R) : OpsQ rd P all (o :: l) ⟨fr, hp⟩ R := by
 intro Z0 w0 a w hS
 refine wpListIn_step fun K hK => ?_
 obtain ⟨μ, F, hFb, hH, hF, hd, hb⟩ := hS
 rw [wanted_rel hF hw, if_pos rfl]
 have hB : w0.heap.size ≤ w.heap.size := hb.size
 have hE : ∀ y, Rel w (Zone Z0 F w0.heap.size) μ (ev fr y) (a.eval y) := fun y => ev_rel hF y
 have hcv := hc ▸ hE c
 simp only [Rel] at hcv
 obtain ⟨cv, hcv, hrc⟩ := hcv
 have hargs' : RelL w (Zone Z0 F w0.heap.size) μ (args.toList.map (ev fr)) (args.toList.map a.eval) := by
  generalize args.toList = l
  induction l with
  | nil => exact RelL.nil
  | cons x l ih => exact RelL.cons (hE x) ih
 have hall : RelL w (Zone (fun _ => False) NoF w.heap.size) [] avs (args.toList.map a.eval ++ cv) := RelL.weak (fun b hb hz hz2 => hz2.elim (fun h => h.2) (fun h => hz h.1)) (SnapL.sound hH hs (hargs'.append hrc))
 obtain ⟨hen, hcall⟩ := hcall
 have hC := hcall (fun _ => False) w _ hall
 have hrun : (execOp a.eval o).run P w = .ok (.enter f (args.toList.map a.eval ++ cv).toArray) w := by
  have e1 : (args.map a.eval ++ cv.toArray) = (args.toList.map a.eval ++ cv).toArray := by
   apply Array.toList_inj.1; simp
  simp only [execOp, hop, resolve, Deferred.ofValue, hcv, Sem.run_bind, Sem.run_pure, Result.andThen_ok, invoke, Array.empty_append]
  rw [e1]
  exact hen _ _
 refine wpIn_of_run (fun c' => by rw [hop]; simp) ?_
 rw [hrun]
 refine upon_enter hC ?_
 rintro en w' ⟨res, x, bs, F', hΦ, rfl, hF', hrf, hnd, hbf, hbel⟩
 have hrf2 : RF w' (Zone Z0 (fun b => F b ∨ F' b) w0.heap.size) w0.heap.size res x bs := RF.shutN hB (fun g hg hz hzz => hzz.elim (fun h => by omega) (fun h => h.2 (.inr (Classical.byContradiction fun hf => hz (.inr ⟨hg, hf⟩))))) (hcl _ _ hΦ) hrf
 obtain ⟨μs, ht, hr⟩ := imp_sound μ hp.length hH.len hrf2
 have hzo : ∀ b, b < w.heap.size → ¬ Zone Z0 F w0.heap.size b → ¬ Zone Z0 (fun b => F b ∨ F' b) w0.heap.size b := fun b _ hz => zone_more b hz
 refine ⟨x, rfl, hK _ _ (h' w.heap.size (fun k b hk => ?_) (fun u hu g hg => (InS.of hH hF hg hu).1) res hΦ Z0 w0 _ _ ⟨μ ++ μs, fun b => F b ∨ F' b, fun b hb => hb.elim (fun h => ⟨(hFb b h).1, Nat.lt_of_lt_of_le (hFb b h).2 hbel.size⟩) (fun h => ⟨Nat.le_trans hB (hF' b h).1, (hF' b h).2⟩), ?_, ?_, ?_, ?_⟩)⟩
 ·have hkl : k < μ.length := by rw [hH.len]; exact (List.getElem?_eq_some_iff.1 hk).1
  have h1 := hH.obj k _ _ hk (List.getElem?_eq_getElem hkl)
  obtain ⟨_, rfl⟩ := h1
  exact hB
 ·refine HRel.extend (bs := bs) (hH.weak hzo (fun b hb hz => ?_)) hbel ht (fun g hg => RF.ge hrf g hg) (fun g hg => ?_) hnd
  ·exact hz.elim .inl (fun h2 => .inr ⟨h2.1, fun hf => hf.elim h2.2 (fun h3 => absurd (hF' b h3).1 (by omega))⟩)
  ·have := RF.ge hrf g hg
   exact .inr ⟨by omega, fun hf => hf.elim (fun h3 => absurd (hFb g h3).2 (by omega)) (hbf g hg)⟩
 ·refine put_rel (RelL.keep (fun b h1 h2 => hbel.block b h1) (fun i u h => append_old i u h) (RelL.weak hzo hF)) _ hr
 ·rw [put_defers']
  exact .inl (hd.none hnm)
 ·exact hb.trans (hbel.mono hB)
section
variable {rd : Option Nat} {P : Program} {m : M} {Q : Exit → St → Prop}
theorem R.callE {f : FuncId} {avs0 avs : List AV} {Φ : Nat → AV → Prop} (hc : CallE P f avs Φ) (h : csAt m = some (f, avs0)) (hs : SnapL m.st.hp avs0 avs) (hcl : ∀ b r, Φ b r → ClosedN b r) (ht : opsHd m = true)
  (h' : ∀ b1, (∀ (k b : Nat), m.st.hp[k]? = some (.inert (.base b)) → b ≤ b1) → (∀ u, InS u m.st → ∀ g, blk u = some g → g < b1) → ∀ res, Φ b1 res → Runs rd P (putM m none (imp m.st.hp.length res).1 (m.st.hp ++ (imp m.st.hp.length res).2)) Q) : Runs rd P m Q := by
 have hnm := csAt_mark h
 obtain ⟨fo, args, tys, caps, hop, hf, rfl⟩ := csAt_parts h
 obtain ⟨ks, ⟨fr, hp⟩⟩ := m
 unfold opM headOf at hop
 unfold opsHd at ht
 unfold putM at h'
 simp only [runs_iff] at h' ⊢
 try simp only at hop ht h' hf hs hnm ⊢
 split at hop
 ·rename_i all o fl t heq
  split at hop
  ·rename_i hw
   simp only [Option.some.injEq] at hop
   split at heq
   ·cases heq
    intro hW
    exact OpsQ.callE (wantH_true hw hW) hop hf hs hc hcl hnm fun b1 h1 h2 res hΦ => h' b1 h1 h2 res hΦ headW_false
   ·simp at ht
   ·cases heq
  ·cases hop
 ·cases hop
theorem R.callW {f : FuncId} {avs0 avs : List AV} {res : AV} (hc : CallA P f avs res) (h : csAt m = some (f, avs0)) (hs : SnapL m.st.hp avs0 avs) (hr : res.closed = true) (ht : quietOk m (imp m.st.hp.length res).2 = true)
  (h' : Runs rd P (putM m none (imp m.st.hp.length res).1 (m.st.hp ++ (imp m.st.hp.length res).2)) Q) : Runs rd P m Q := by
 obtain ⟨fo, args, tys, caps, hop, hf, rfl⟩ := csAt_parts h
 exact R.effM hop (.inr (.snap f caps avs res hf hs hc hr)) ht h'
end
end Go.Abs

/-! Rows of named rows; the rules for them; loops of few rounds. -/
namespace Go.Abs
open Go.RowKit
section
variable {α : Type} {E : α → List AV} {el s b : Nat} {L : List (Value × List α)} {v : Value}
def eV (E : α → List AV) (el s : Nat) (x : Value × List α) : List AV := [.nam x.1 (some el) s x.2.length (rows E x.2)]
theorem eV_one (x : Value × List α) : (eV E el s x).all AV.one = true := rfl
theorem rowsV_in {x : Value × List α} : ∀ {L : List (Value × List α)}, x ∈ L → .nam x.1 (some el) s x.2.length (rows E x.2) ∈ rows (eV E el s) L
 | [], h => by simp at h
 | y :: L, h => by
  simp only [rows, eV, List.singleton_append, List.mem_cons]
  rcases List.mem_cons.1 h with rfl | h
  ·exact .inl rfl
  ·exact .inr (rowsV_in h)
structure NL (b : Nat) (L : List (Value × List α)) : Prop where
 nd : (L.filterMap fun x => blk x.1).Nodup
 ge : ∀ x ∈ L, ∀ g, blk x.1 = some g → b ≤ g
theorem NL.nil : NL b ([] : List (Value × List α)) := ⟨List.nodup_nil, fun x h => by simp at h⟩
theorem NL.mono {b' : Nat} (h : NL b L) (hb : b' ≤ b) : NL b' L := ⟨h.nd, fun x hx g hg => Nat.le_trans hb (h.ge x hx g hg)⟩
theorem NL.snoc {x : List α} (h : NL b L) (hv : ∀ u ∈ L, ∀ g, blk v = some g → blk u.1 ≠ some g) (hb : ∀ g, blk v = some g → b ≤ g) : NL b (L ++ [(v, x)]) := by
 refine ⟨?_, fun y hy g hg => ?_⟩
 ·rw [List.filterMap_append, List.nodup_append]
  refine ⟨h.nd, ?_, fun a ha c hc => ?_⟩
  ·cases hbv : blk v <;> simp [List.filterMap, hbv]
  ·rintro rfl
   obtain ⟨u, hu, e⟩ := List.mem_filterMap.1 ha
   have : blk v = some a := by
    cases hbv : blk v <;> simp [List.filterMap, hbv] at hc
    rw [hc]
   exact hv u hu a this e
 ·rcases List.mem_append.1 hy with hy | hy
  ·exact h.ge y hy g hg
  ·simp at hy
   subst hy
   exact hb g hg
theorem NL.set (h : NL b L) (i : Nat) (d : Value × List α) (ys : List α) (hi : i < L.length) : NL b (L.set i ((L.getD i d).1, ys)) := by
 have e : (L.set i ((L.getD i d).1, ys)).map (fun x => x.1) = L.map fun x => x.1 := by
  apply List.ext_getElem?
  intro k
  simp only [List.getElem?_map, List.getElem?_set]
  split
  ·rename_i hk
   subst hk
   simp [hi, List.getD_eq_getElem?_getD]
  ·rfl
 have e2 : ∀ M : List (Value × List α), (M.filterMap fun x => blk x.1) = (M.map fun x => x.1).filterMap blk := fun M => by rw [List.filterMap_map]; rfl
 refine ⟨by rw [e2, e, ← e2]; exact h.nd, fun x hx g hg => ?_⟩
 have : x.1 ∈ L.map fun x => x.1 := by rw [← e]; exact List.mem_map_of_mem hx
 obtain ⟨y, hy, e3⟩ := List.mem_map.1 this
 exact h.ge y hy g (by rw [e3]; exact hg)
theorem newN_row {st : St} (h : NewN st v) (j : Nat) {e n : Nat} (L : List (Value × List α)) (hj : st.hp[j]? = some (.list e 1 n (rows (eV E el s) L))) : ∀ u ∈ L, ∀ g, blk v = some g → blk u.1 ≠ some g := fun u hu =>
 h.1 u.1 (.inr ⟨j, _, hj, inNL_iff.2 ⟨_, rowsV_in hu, by simp only [InN]; exact .inl ⟨trivial, .inr (by simp)⟩⟩⟩)
theorem newN_base {st : St} (h : NewN st v) (k : Nat) {b : Nat} (hk : st.hp[k]? = some (.inert (.base b))) : ∀ g, blk v = some g → b ≤ g := h.2 k b hk
theorem inS_slot {st : St} {u : Value} (t : Nat) {c : AV} (ht : st.fr[t]? = some c) (hu : InN u c) : InS u st := .inl (inNL_iff.2 ⟨c, List.mem_of_getElem? ht, hu⟩)
theorem fgt1 : ∀ (w : World) (Z : Nat → Prop) u {o : Option Nat} {n : Nat} {cs : List AV}, Rel w Z [] (.nam v o s n cs) u → Rel w Z [] (.lst s n cs) u := by
 intro w Z u o n cs h
 simp only [Rel] at h ⊢
 exact h.2
theorem NL.at (h : NL b L) (d : Value × List α) {i : Nat} (hi : i < L.length) : ∀ g, blk (L.getD i d).1 = some g → b ≤ g :=
 h.ge _ (List.mem_of_getElem? (i := i) (by simp [List.getD_eq_getElem?_getD, List.getElem?_eq_getElem hi]))
theorem closedN_int {k : IntKind} {n : Int} : ClosedN b (.int k n) := trivial
theorem closedN_tup {cs : List AV} (h : ClosedNL b cs) : ClosedN b (.tup cs) := by simpa [ClosedN] using h
theorem closedNL_nil : ClosedNL b [] := trivial
theorem closedNL_cons {c : AV} {cs : List AV} (h : ClosedN b c) (h' : ClosedNL b cs) : ClosedNL b (c :: cs) := ⟨h, h'⟩
theorem nameableL_rows (h : ∀ x, nameableL (E x) = true) : ∀ xs : List α, nameableL (rows E xs) = true
 | [] => rfl
 | x :: xs => by
  have key : ∀ (a b : List AV), nameableL a = true → nameableL b = true → nameableL (a ++ b) = true := by
   intro a b ha hb
   induction a with
   | nil => exact hb
   | cons c a ih =>
    simp only [nameableL, Bool.and_eq_true, List.cons_append] at ha ⊢
    exact ⟨ha.1, ih ha.2⟩
  exact key _ _ (h x) (nameableL_rows h xs)

mutual
theorem closed_safe : ∀ {c : AV}, c.closed = true → Safe v c
 | .int _ _, _ => safe_int
 | .bool _, _ => safe_bool
 | .str _, _ => ⟨rfl, fun u h => by simp [InN] at h⟩
 | .nil, _ => safe_nil
 | .top, _ => safe_top
 | .own _ _ _ _, _ => ⟨rfl, fun u h => by simp [InN] at h⟩
 | .agg cs, h => safe_agg (closedL_safe (by simpa [AV.closed] using h))
 | .tup cs, h => safe_tup (closedL_safe (by simpa [AV.closed] using h))
 | .lst _ _ _, h => by simp [AV.closed] at h
 | .clp _ _ _, h => by simp [AV.closed] at h
 | .nam _ _ _ _ _, h => by simp [AV.closed] at h
 | .rptr _, h => by simp [AV.closed] at h
 | .ref _, h => by simp [AV.closed] at h
 | .ptr _ _, h => by simp [AV.closed] at h
 | .fn _ _, h => by simp [AV.closed] at h
theorem closedL_safe : ∀ {cs : List AV}, closedL cs = true → SafeL v cs
 | [], _ => safeL_nil
 | c :: cs, h => by
  simp only [closedL, Bool.and_eq_true] at h
  exact safeL_cons.2 ⟨closed_safe h.1, closedL_safe h.2⟩
end
theorem safe_rows (hE : ∀ x, closedL (E x) = true) (xs : List α) : SafeL v (rows E xs) := closedL_safe (closedL_rows hE xs)
theorem safe_slot : ∀ {l : List (Nat × AV)} (i : Nat), (∀ x ∈ l, Safe v x.2) → Safe v (slotA i l)
 | [], _, _ => safe_top
 | (j, c) :: l, i, h => by
  simp only [slotA]
  split
  ·exact h _ (List.mem_cons_self ..)
  ·exact safe_slot i fun x hx => h x (List.mem_cons_of_mem _ hx)
theorem safe_frmA {l : List (Nat × AV)} (h : ∀ x ∈ l, Safe v x.2) : ∀ n i : Nat, SafeL v (frmA n i l)
 | 0, _ => safeL_nil
 | n + 1, i => safeL_cons.2 ⟨safe_slot i h, safe_frmA h n (i + 1)⟩
theorem safe_frm {l : List (Nat × AV)} {n : Nat} (h : ∀ x ∈ l, Safe v x.2) : SafeL v (frm n l) := safe_frmA h n 0
theorem safe_old {c' c : AV} (h : ByN c' c) {b : Nat} (hs : ∀ u, InN u c' → ∀ g, blk u = some g → g < b) (hv : ∀ g, blk v = some g → b ≤ g) : Safe v c' :=
 ⟨h.raw, fun u hu g hg hg' => by
  have h1 := hs u hu g hg'
  have h2 := hv g hg
  omega⟩
theorem NL.ne (h : NL b L) {i k : Nat} (d : Value × List α) (hi : i < L.length) (hk : k < L.length) (hik : k ≠ i) : ∀ g, blk (L.getD i d).1 = some g → blk (L.getD k d).1 ≠ some g := by
 intro g h1 h2
 have key : ∀ {M : List (Value × List α)} {p q : Nat} {x y : Value × List α}, (M.filterMap fun x => blk x.1).Nodup → p < q → M[p]? = some x → M[q]? = some y → blk x.1 = some g → blk y.1 = some g → False := by
  intro M
  induction M with
  | nil => intro p q x y _ _ h1; simp at h1
  | cons z M ih =>
   intro p q x y hn hpq h1 h2 h3 h4
   cases q with
   | zero => omega
   | succ q =>
    rw [List.getElem?_cons_succ] at h2
    have hm : g ∈ M.filterMap fun x => blk x.1 := List.mem_filterMap.2 ⟨y, List.mem_of_getElem? h2, h4⟩
    cases p with
    | zero =>
     simp at h1
     subst h1
     rw [List.filterMap_cons, h3] at hn
     exact (List.nodup_cons.1 hn).1 hm
    | succ p =>
     rw [List.getElem?_cons_succ] at h1
     refine ih ?_ (by omega) h1 h2 h3 h4
     rw [List.filterMap_cons] at hn
     split at hn
     ·exact hn
     ·exact (List.nodup_cons.1 hn).2
 have gi : L[i]? = some (L.getD i d) := by simp [List.getD_eq_getElem?_getD, List.getElem?_eq_getElem hi]
 have gk : L[k]? = some (L.getD k d) := by simp [List.getD_eq_getElem?_getD, List.getElem?_eq_getElem hk]
 rcases Nat.lt_or_ge i k with h | h
 ·exact key ‹NL b L›.nd h gi gk h1 h2
 ·exact key ‹NL b L›.nd (by omega) gk gi h2 h1
end
section
variable {rd : Option Nat} {P : Program} {m : M} {Q : Exit → St → Prop} {α : Type}
theorem R.keepS (ks : List Nat) (h : subOk m = true) (h' : Runs rd P ⟨m.ks, ⟨keepF ks m.st.fr, m.st.hp⟩⟩ Q) : Runs rd P m Q := R.sub _ h (Sub.keep ks m.st) h'

def lpC (m : M) : Code :=
 match m.ks with
 | .code (.loop c) :: _ => c
 | _ => .skip
def lpK (m : M) : List Kont :=
 match m.ks with
 | .code (.loop _) :: ks => ks
 | _ => []
def isLp (m : M) : Bool :=
 match m.ks with
 | .code (.loop _) :: _ => true
 | _ => false
def Again (rd : Option Nat) (P : Program) (c : Code) (ks : List Kont) (Q : Exit → St → Prop) : Nat → (St → Prop) → Prop
 | 0, _ => True
 | n + 1, R => ∀ st, (∀ R', Again rd P c ks Q n R' → Runs rd P ⟨.code c :: .stop R' :: ks, st⟩ Q) → R st
def RK (rd : Option Nat) (P : Program) (c : Code) (ks : List Kont) (Q : Exit → St → Prop) : Nat → St → Prop
 | 0, _ => False
 | n + 1, st => Runs rd P ⟨.code c :: .stop (RK rd P c ks Q n) :: ks, st⟩ Q
theorem again_RK {c : Code} {ks : List Kont} : ∀ n, Again rd P c ks Q n (RK rd P c ks Q n)
 | 0 => trivial
 | n + 1 => fun _ h => h _ (again_RK n)
theorem R.rounds (n : Nat) (h : isLp m = true) (h' : ∀ R, Again rd P (lpC m) (lpK m) Q n R → Runs rd P ⟨.code (lpC m) :: .stop R :: lpK m, m.st⟩ Q) : Runs rd P m Q := by
 obtain ⟨ks0, st⟩ := m
 have h2 := h' _ (again_RK n)
 unfold isLp at h
 unfold lpC lpK at h2
 simp only at h h2
 split at h
 ·simp only at h2
  rw [runs_iff]
  simp only [RunsK]
  rename_i c ks
  refine RunA.loop (I := fun n st => RK rd P c ks Q n st) (n + 1) h2 (fun k st hk => ?_)
  cases k with
  | zero => exact hk.elim
  | succ k =>
   have h1 := hk.out
   simp only [RunsK] at h1
   refine h1.mono fun e st' hq => ?_
   cases e with
   | normal => exact ⟨st', Sub.refl _, k, Nat.lt_succ_self _, hq⟩
   | ret => exact hq
   | exit id => exact hq
   | goto l => exact hq
   | panic ch => exact hq
   | outgrown => exact hq
 ·cases h
end
theorem nameable_AI (n : Int) : nameable (AI n) = true := rfl
theorem nameable_LI (xs : List Int) : nameable (LI xs) = true := by simp only [LI, nameable]; exact nameableL_rows (fun _ => rfl) xs
theorem nameLst_of {w : World} {Z : Nat → Prop} {s n : Nat} {cs : List AV} {v : Value} (hn : nameable (.lst s n cs) = true) (hr : Rel w Z [] (.lst s n cs) v) : ∃ u cs', ByN (.nam u none s n cs') (.lst s n cs) ∧ Rel w Z [] (.nam u none s n cs') v := by
 simp only [nameable] at hn
 simp only [Rel] at hr
 obtain ⟨A, c, xs, h1, h2, h3, h4, h5⟩ := hr
 obtain ⟨cs', ⟨k1, k2, k3⟩, k4⟩ := nameL_of hn h5
 refine ⟨v, cs', ⟨rfl, by simpa [NoRaw] using k2, fun w Z x hx => ?_⟩, ?_⟩
 ·simp only [Rel] at hx ⊢
  obtain ⟨_, A, c, xs', e1, e2, e3, e4, e5⟩ := hx
  exact ⟨A, c, xs', e1, h2, e3, e4, k3 _ _ _ e5⟩
 ·simp only [Rel]
  exact ⟨⟨trivial, fun e he => by cases he⟩, A, c, xs, h1, by rw [← k4.length, h5.length, h2], h3, h4, k4⟩
theorem set_same {α : Type} {l : List α} {t : Nat} {x : α} (h : l[t]? = some x) : l.set t x = l := by
 apply List.ext_getElem?
 intro i
 by_cases hi : i = t
 ·subst hi; rw [List.getElem?_set_self (List.getElem?_eq_some_iff.1 h).1, h]
 ·rw [List.getElem?_set_ne (Ne.symm hi)]
theorem SubE.nameS (t s n : Nat) (cs : List AV) (st : St) (ht : st.fr[t]? = some (.lst s n cs)) (hn : nameable (.lst s n cs) = true) : SubE st (fun p : Value × List AV => ⟨st.fr.set t (.nam p.1 none s n p.2), st.hp⟩) (fun p => ByN (.nam p.1 none s n p.2) (.lst s n cs)) := by
 rintro Z0 w0 a w ⟨μ, F, hFb, hH, hF, hd, hb⟩
 obtain ⟨x, hx, hr⟩ := hF.get ht
 obtain ⟨u, cs', h1, h2⟩ := nameLst_of hn (Rel.leafy rfl hr)
 refine ⟨(u, cs'), h1, μ, F, hFb, hH, ?_, hd, hb⟩
 have h3 := hF.set t h2.lift
 rwa [set_same hx] at h3
section
variable {rd : Option Nat} {P : Program} {m : M} {Q : Exit → St → Prop}
theorem R.nameS (t s n : Nat) (cs : List AV) (h : subOk m = true) (ht : m.st.fr[t]? = some (.lst s n cs)) (hn : nameable (.lst s n cs) = true) (h' : ∀ u cs', ByN (.nam u none s n cs') (.lst s n cs) → Runs rd P ⟨m.ks, ⟨m.st.fr.set t (.nam u none s n cs'), m.st.hp⟩⟩ Q) : Runs rd P m Q :=
 R.subE _ _ h (SubE.nameS t s n cs m.st ht hn) fun p hp => h' p.1 p.2 hp
end
theorem CallA.nameP {P : Program} {f : FuncId} {x res : AV} {s n : Nat} {cs : List AV} (hen : Enters P f) (hn : nameable (.lst s n cs) = true) (h : ∀ u cs', ByN (.nam u none s n cs') (.lst s n cs) → CallA P f [.agg [x, .nam u none s n cs']] res) : CallA P f [.agg [x, .lst s n cs]] res := by
 refine ⟨hen, fun Z0 w vs hvs => ?_⟩
 simp only [RelL, Rel] at hvs
 obtain ⟨v, vs', rfl, ⟨xs, rfl, y, ys, rfl, hy, z, zs, rfl, hz, rfl⟩, rfl⟩ := hvs
 obtain ⟨u, cs', h1, h2⟩ := nameLst_of (w := w) (Z := Zone Z0 NoF w.heap.size) (v := z) hn (by simp only [Rel]; exact hz)
 exact (h u cs' h1).2 Z0 w _ (RelL.cons (by simp only [Rel]; exact ⟨_, rfl, RelL.cons hy (RelL.cons h2 RelL.nil)⟩) RelL.nil)
end Go.Abs

/-! Drawn regions: places of elements of one's own rows come first; ways that meet with their objects in another order. -/
namespace Go.Abs
open Go.RowKit
section
variable {rd : Option Nat} {P : Program} {m : M} {Q : Exit → St → Prop}
def ioAtA (P : Program) (m : M) (i : Nat) : Option (Nat × Nat × Nat × Int) :=
 match m.ks with
 | .any ops listed (_ + 1) :: _ => match ops[i]? with
  | some o => match o.op with
   | .indexAddr t x y => if o.guard.isNone && Region.noSelect ops && Region.free .any ops listed i && (Region.ready .any ops listed).contains i then (match ev m.st.fr x, ev m.st.fr y, elemB P t with
    | .ref q, .int _ j, some (el', s') => (match m.st.hp[q]? with
     | some (.list el s n _) => if el' = el ∧ s' = s ∧ s ≠ 0 then some (q, s, n, j) else none
     | _ => none)
    | _, _, _ => none) else none
   | _ => none
  | none => none
 | _ => none
theorem R.anyO (i q s n j : Nat) (ji : Int) (h : ioAtA P m i = some (q, s, n, ji)) (hji : ji = (j : Int)) (hj : j < n) (np : NoPanic Q)
  (h' : Runs none P (exM i (.ptr q (j * s)) m) Q) : Runs none P m Q := by
 obtain ⟨ks, ⟨fr, hp⟩⟩ := m
 simp only [runs_iff] at h' ⊢
 unfold ioAtA at h
 simp only at h
 split at h
 ·rename_i ops listed nn ks'
  split at h
  ·rename_i o ho
   split at h
   ·rename_i t x y hx
    split at h
    ·rename_i hc
     simp only [Bool.and_eq_true] at hc
     obtain ⟨⟨⟨hg, hs⟩, hf⟩, hr⟩ := hc
     split at h
     ·rename_i q0 k j0 el' s' h1 h2 hel
      split at h
      ·rename_i el s0 n0 cs hq
       have hq0 := hq
       split at h
       ·rename_i hss
        obtain ⟨rfl, rfl, hs0⟩ := hss
        cases h
        subst hji
        simp only [exM, ho, RunsK] at h' ⊢
        intro Z0 w0 ac w hS
        have hW : Region.wanted o (yielded ops ac.tmps) = true := by
         unfold Region.wanted
         rw [Option.isNone_iff_eq_none.1 hg]
        have hrun : ∃ u, ∀ w, (execOp ac.eval o).run P w = .ok (.value u) w := by
         obtain ⟨μ, F, _, hHr, hFr, _, _⟩ := hS
         have e1 := h1 ▸ ev_rel hFr x
         have e2 := rel_int (h2 ▸ ev_rel hFr y)
         simp only [Rel] at e1
         obtain ⟨vs, hown, _⟩ := hHr.obj q _ _ hq e1
         rcases hown.2 with ⟨_, h0⟩ | ⟨g, cap, cur, e3, _⟩
         ·omega
         ·refine ⟨.pointer (some (Addr.add ⟨g, 0, none⟩ ((j : Int).toNat * s))), fun w => ?_⟩
          unfold execOp
          rw [hx]
          simp [e3, e2, run_indexAt hel (show (0 : Int) ≤ (j : Int) by omega) (show (j : Int) < (n : Nat) by omega) w] <;> rfl
        obtain ⟨u, hrun⟩ := hrun
        have hw' : WantedA ops o fr := wantedE_true (by unfold wantedE; rw [Option.isNone_iff_eq_none.1 hg])
        have h1' := StepR.sound (rd := none) (K := fun a' w' => Sim Z0 w0 ⟨putF fr o.dst (.ptr q (j * _)), hp⟩ a' w') (Q := fun _ _ _ => True) (st' := ⟨putF fr o.dst (.ptr q (j * _)), hp⟩) (by simpa using StepR.eff (P := P) (st := ⟨fr, hp⟩) hw' (v := .ptr q (j * _)) (news := []) (by rw [hx]; exact EffR.indexAddrO q _ _ n cs k (j : Int) h1 hq0 h2 hel hs0 (by omega) (by omega))) hS (fun _ _ h => h)
        rw [if_pos hW] at h1'
        unfold Oper.wpIn at h1'
        have h1' := h1'.2
        rw [show (Fc none).round = none from rfl, Oper.semAt_none, hrun w] at h1'
        simp only [Oper.uponIn] at h1'
        exact wpAnyIn_take rfl ho hs hf hr (fun c a w ⟨st', hq, _⟩ => absurd (runsK_panic ks' st' hq) (np c st')) ⟨.inl ⟨hW, hrun⟩, fun w => by unfold Oper.about; rw [hx]⟩ (h' Z0 w0 _ w h1')
       ·cases h
      ·cases h
     ·cases h
    ·cases h
   ·cases h
  ·cases h
 ·cases h
theorem R.any4 (i j l k : Nat) (h : readyAt m = some [i, j, l, k]) (hr : roomAt m = true) (hi : Runs rd P (pickM i m) Q) (hj : Runs rd P (pickM j m) Q) (hl : Runs rd P (pickM l m) Q) (hk : Runs rd P (pickM k m) Q) : Runs rd P m Q :=
 R.anyB [i, j, l, k] h (by simp) hr fun q hq => by simp only [List.mem_cons, List.not_mem_nil, or_false] at hq; rcases hq with rfl | rfl | rfl | rfl <;> assumption
end
end Go.Abs

/-! Calls by reference that may move several rows. -/
namespace Go.Abs
open Go.RowKit Go.ChangeShapes Go.WideShapes Go.Deep
def KillsL : List Nat → List AV → Prop
 | [], _ => True
 | q :: qs, fr => killL q fr = fr ∧ KillsL qs fr
def killsL : List Nat → List AV → List AV
 | [], fr => fr
 | q :: qs, fr => killL q (killsL qs fr)
mutual
theorem AV.kill_comm (p q : Nat) : ∀ c : AV, (c.kill q).kill p = (c.kill p).kill q
 | .int _ _ => rfl
 | .bool _ => rfl
 | .str _ => rfl
 | .nil => rfl
 | .top => rfl
 | .own _ _ _ _ => rfl
 | .lst _ _ _ => rfl
 | .clp _ _ _ => rfl
 | .nam _ _ _ _ _ => rfl
 | .rptr _ => rfl
 | .ref i => by
  simp only [AV.kill]
  by_cases h1 : i = p
  ·by_cases h2 : i = q
   ·subst h1; subst h2; rfl
   ·rw [if_pos h1, if_neg h2]; simp only [AV.kill, if_pos h1]
  ·by_cases h2 : i = q
   ·rw [if_neg h1, if_pos h2]; simp only [AV.kill, if_pos h2]
   ·rw [if_neg h1, if_neg h2]; simp only [AV.kill, if_neg h1, if_neg h2]
 | .ptr i o => by
  simp only [AV.kill]
  by_cases h1 : i = p
  ·by_cases h2 : i = q
   ·subst h1; subst h2; rfl
   ·rw [if_pos h1, if_neg h2]; simp only [AV.kill, if_pos h1]
  ·by_cases h2 : i = q
   ·rw [if_neg h1, if_pos h2]; simp only [AV.kill, if_pos h2]
   ·rw [if_neg h1, if_neg h2]; simp only [AV.kill, if_neg h1, if_neg h2]
 | .agg cs => by simp only [AV.kill, killL_comm p q cs]
 | .tup cs => by simp only [AV.kill, killL_comm p q cs]
 | .fn f cs => by simp only [AV.kill, killL_comm p q cs]
theorem killL_comm (p q : Nat) : ∀ cs : List AV, killL p (killL q cs) = killL q (killL p cs)
 | [] => rfl
 | c :: cs => by simp only [killL, AV.kill_comm p q c, killL_comm p q cs]
end
theorem kills_kill (q : Nat) : ∀ {qs : List Nat} {fr : List AV}, KillsL qs fr → KillsL qs (killL q fr)
 | [], _, _ => trivial
 | p :: qs, fr, h => ⟨by rw [killL_comm, h.1], kills_kill q h.2⟩
theorem kills_kills : ∀ (qs : List Nat) (fr : List AV), KillsL qs (killsL qs fr)
 | [], _ => trivial
 | q :: qs, fr => ⟨killL_kill q _, kills_kill q (kills_kills qs fr)⟩
theorem kills_app : ∀ {qs : List Nat} {xs ys : List AV}, KillsL qs xs → KillsL qs ys → KillsL qs (xs ++ ys)
 | [], _, _, _, _ => trivial
 | q :: qs, xs, ys, h1, h2 => ⟨by rw [killL_app, h1.1, h2.1], kills_app h1.2 h2.2⟩
def upQ (k : Nat) (qs : List Nat) : List Nat := qs.map fun q => if q < k then q else q + 1
theorem kills_ren {k n : Nat} (hk : k ≤ n) : ∀ {qs : List Nat} {xs : List AV}, KillsL (upQ k qs) xs → KillsL qs (renL (insI k n) xs)
 | [], _, _ => trivial
 | q :: qs, xs, h => by
  simp only [upQ, List.map_cons, KillsL] at h
  exact ⟨killL_ren (fun i hi e => insI_kill hk i hi e) _ h.1, kills_ren hk h.2⟩
theorem RelL.keep_kills {w : World} {Z : Nat → Prop} {μ us : List Value} : ∀ (qs : List Nat) {fr : List AV}, RelL w Z μ fr us → RelL w Z μ (killsL qs fr) us
 | [], _, h => h
 | q :: qs, _, h => RelL.keep_kill q (fun _ _ _ => rfl) (fun _ _ _ h => h) (RelL.keep_kills qs h)
def CallQ (P : Program) (qs : List Nat) (f : FuncId) (args : List AV) (hp : List AObj) (Φ : AV → List AObj → Prop) : Prop :=
 Enters P f ∧ ∀ (Z0 F : Nat → Prop) (w0 w : World) (μ vs us : List Value) (fr : List AV), (∀ b, F b → w0.heap.size ≤ b ∧ b < w.heap.size) → HRel w (Zone Z0 F w0.heap.size) w0.heap.size μ hp → RelL w (Zone Z0 F w0.heap.size) μ args vs → RelL w (Zone Z0 F w0.heap.size) μ fr us → Below w0.heap.size w0 w → KillsL qs fr →
  Calls P f vs.toArray w fun e w' => ∃ v μ' F' res hp', Φ res hp' ∧ e = .returned v ∧ (∀ b, F' b → w0.heap.size ≤ b ∧ b < w'.heap.size) ∧ HRel w' (Zone Z0 F' w0.heap.size) w0.heap.size μ' hp' ∧ Rel w' (Zone Z0 F' w0.heap.size) μ' res v ∧ RelL w' (Zone Z0 F' w0.heap.size) μ' fr us ∧ Below w0.heap.size w0 w'
section
variable {rd : Option Nat} {P : Program} {m : M} {Q : Exit → St → Prop}
theorem OpsQ.callQ {all : Array Oper} {o : Oper} {l : List Oper} {fr : List AV} {hp : List AObj} {R : Exit → St → Prop} {c : Operand} {args : Array Operand} {tys : Array TypeId} {qs : List Nat} {f : FuncId} {caps : List AV} {Φ : AV → List AObj → Prop} (hnm : noMark hp = true) (hw : WantedA all o fr)
  (hop : o.op = .call { callee := .value c, args := args, argTypes := tys }) (hc : ev fr c = .fn f caps) (hcall : CallQ P qs f (args.toList.map (ev fr) ++ caps) hp Φ) (h' : ∀ res hp', Φ res hp' → OpsQ rd P all l ⟨putF (killsL qs fr) o.dst res, hp'⟩ R) : OpsQ rd P all (o :: l) ⟨fr, hp⟩ R := by
 intro Z0 w0 a w hS
 refine wpListIn_step fun K hK => ?_
 obtain ⟨μ, F, hFb, hH, hF, hd, hb⟩ := hS
 rw [wanted_rel hF hw, if_pos rfl]
 have hE : ∀ y, Rel w (Zone Z0 F w0.heap.size) μ (ev fr y) (a.eval y) := fun y => ev_rel hF y
 have hcv := hc ▸ hE c
 simp only [Rel] at hcv
 obtain ⟨cv, hcv, hrc⟩ := hcv
 have hargs' : RelL w (Zone Z0 F w0.heap.size) μ (args.toList.map (ev fr)) (args.toList.map a.eval) := by
  generalize args.toList = l
  induction l with
  | nil => exact RelL.nil
  | cons x l ih => exact RelL.cons (hE x) ih
 obtain ⟨hen, hcall⟩ := hcall
 have hFk : RelL w (Zone Z0 F w0.heap.size) μ (killsL qs fr) a.tmps.toList := RelL.keep_kills qs hF
 have hC := hcall Z0 F w0 w μ _ _ (killsL qs fr) hFb hH (hargs'.append hrc) hFk hb (kills_kills qs fr)
 have hrun : (execOp a.eval o).run P w = .ok (.enter f (args.toList.map a.eval ++ cv).toArray) w := by
  have e1 : (args.map a.eval ++ cv.toArray) = (args.toList.map a.eval ++ cv).toArray := by
   apply Array.toList_inj.1; simp
  simp only [execOp, hop, resolve, Deferred.ofValue, hcv, Sem.run_bind, Sem.run_pure, Result.andThen_ok, invoke, Array.empty_append]
  rw [e1]
  exact hen _ _
 refine wpIn_of_run (fun c' => by rw [hop]; simp) ?_
 rw [hrun]
 refine upon_enter hC ?_
 rintro en w' ⟨x, μ', F', res, hp', hΦ, rfl, hFb', hH', hr, hF', hbel⟩
 exact ⟨x, rfl, hK _ _ (h' res hp' hΦ Z0 w0 _ _ ⟨μ', F', hFb', hH', put_rel hF' _ hr, by rw [put_defers']; exact .inl (hd.none hnm), hbel⟩)⟩
theorem R.callQ {qs : List Nat} {f : FuncId} {avs : List AV} {hp : List AObj} {Φ : AV → List AObj → Prop} (hc : CallQ P qs f avs hp Φ) (h : csAt m = some (f, avs)) (hh : m.st.hp = hp) (ht : opsHd m = true) (h' : ∀ res hp', Φ res hp' → Runs rd P (putM ⟨m.ks, ⟨killsL qs m.st.fr, m.st.hp⟩⟩ none res hp') Q) : Runs rd P m Q := by
 have hnm := csAt_mark h
 obtain ⟨fo, args, tys, caps, hop, hf, rfl⟩ := csAt_parts h
 subst hh
 obtain ⟨ks, ⟨fr, hp⟩⟩ := m
 unfold opM headOf at hop
 unfold opsHd at ht
 unfold putM at h'
 simp only [runs_iff] at h' ⊢
 try simp only at hop ht h' hf hc hnm ⊢
 split at hop
 ·rename_i all o fl t heq
  split at hop
  ·rename_i hw
   simp only [Option.some.injEq] at hop
   split at heq
   ·cases heq
    intro hW
    exact OpsQ.callQ hnm (wantH_true hw hW) hop hf hc fun res hp' hΦ => h' res hp' hΦ headW_false
   ·simp at ht
   ·cases heq
  ·cases hop
 ·cases hop
end
section
variable {rd : Option Nat} {P : Program} {m : M} {Q : Exit → St → Prop}
theorem CallQ.ofF {qs : List Nat} {f : FuncId} {fn : Func} {c : Code} {args : List AV} {hp : List AObj} {Φ : AV → List AObj → Prop} (hf : P.funcs[f]? = some fn) (hb : fn.body = some c) (hnm : (fn.name == "runtime.NumGoroutine") = false)
  (h : ∀ us fr, Fits hp.length fr → KillsL qs fr → Runs none P ⟨[.code c], ⟨frameOf fn.ntmps args, hp ++ [.frame us fr]⟩⟩ (retX P fn hp.length us fr Φ)) : CallQ P qs f args hp Φ := by
 refine ⟨enters_of hf hnm (by rw [hb]; rfl), ?_⟩
 intro Z0 F w0 w μ vs us fr hFb hH hvs hus hbel hkq
 have hml := hH.len
 have hfit : Fits hp.length fr := ⟨fun js hjs => RelL.fitR (by rw [hml]; exact hjs) hus, fun i hi => RelL.fitK (by rw [hml]; exact hi) hus, fun i r hi => RelL.fitF (by rw [hml]; exact hi) hus⟩
 ·have hlen := hvs.length
  refine calls_of_wpIn hf hb ?_
  have hS : Sim Z0 w0 ⟨frameOf fn.ntmps args, hp ++ [.frame us fr]⟩ { tmps := vs.toArray ++ Array.replicate (fn.ntmps - vs.toArray.size) undef, defers := [] } w := by
   refine ⟨μ ++ [.bool false], F, hFb, hH.extend1 (zone_new hbel.size hFb) (Below.refl _ _) ?_ (fun g hg => by simp [blk] at hg) rfl, ?_, .inl rfl, hbel⟩
   ·exact RelL.keep (w := w) (fun _ _ _ => rfl) (fun i u hu => append_old i u hu) hus
   ·simp only [Array.toList_append, Array.toList_replicate, List.size_toArray, hlen, frameOf]
    refine RelL.append (RelL.keep (w := w) (fun _ _ _ => rfl) (fun i u hu => append_old i u hu) hvs) ?_
    generalize fn.ntmps - args.length = n
    induction n with
    | zero => exact RelL.nil
    | succ n ih => exact RelL.cons (by simp [Rel]) ih
  have hrun2 := h us fr hfit hkq
  simp only [runs_iff] at hrun2
  simp only [RunsK] at hrun2
  refine wpIn_mono (hrun2 Z0 w0 _ w hS) ?_
  have fin : ∀ (e : Exit) (st' : St) (a' : Act) (w' : World), retX P fn hp.length us fr Φ e st' → Sim Z0 w0 st' a' w' → a'.defers = [] ∧ ∃ v, (results fn a'.tmps).run P w' = .ok v w' ∧ ∃ v' μ' F' res hp', Φ res hp' ∧ Ending.returned v = .returned v' ∧ (∀ b, F' b → w0.heap.size ≤ b ∧ b < w'.heap.size) ∧ HRel w' (Zone Z0 F' w0.heap.size) w0.heap.size μ' hp' ∧ Rel w' (Zone Z0 F' w0.heap.size) μ' res v' ∧ RelL w' (Zone Z0 F' w0.heap.size) μ' fr us ∧ Below w0.heap.size w0 w' := by
   rintro e st' a' w' ⟨res, hp', hΦ, _, hres, hfr, hh⟩ ⟨μ', F', hFb', hH', hF', hd', hbel'⟩
   obtain ⟨x, h1, h2⟩ := resIn_run hH' hF' hres
   unfold frameAt at hfr
   split at hfr
   ·rename_i us2 fr2 hi
    cases hfr
    have hil : hp.length < μ'.length := by rw [hH'.len]; exact (List.getElem?_eq_some_iff.1 hi).1
    have hfrr : RelL w' (Zone Z0 F' w0.heap.size) μ' fr us := hH'.obj _ _ _ hi (List.getElem?_eq_getElem hil)
    exact ⟨hd'.none (resIn_mark hres), x, h1, x, μ', F', res, hp', hΦ, rfl, hFb', hh ▸ hH'.bury _, h2, hfrr, hbel'⟩
   ·cases hfr
  rintro e a' w' ⟨st', hq, hS'⟩
  cases e with
  | normal => exact fin _ st' a' w' hq hS'
  | ret => exact fin _ st' a' w' hq hS'
  | exit id => (obtain ⟨_, _, _, hq, _⟩ := hq; exact absurd hq (by simp))
  | goto l => (obtain ⟨_, _, _, hq, _⟩ := hq; exact absurd hq (by simp))
  | panic ch => (obtain ⟨_, _, _, hq, _⟩ := hq; exact absurd hq (by simp))
  | outgrown => (obtain ⟨_, _, _, hq, _⟩ := hq; exact absurd hq (by simp))
end
section
variable {P : Program}
theorem CallQ.dropE {P : Program} {qs : List Nat} {f : FuncId} {args : List AV} {hp : List AObj} {Φ : AV → List AObj → Prop} (hc : CallQ P qs f args hp fun r h => ∃ js : List Nat, js.take hp.length = List.range hp.length ∧ js.Nodup ∧ Φ (r.ren js) (renH js h)) :
  CallQ P qs f args hp Φ := by
 obtain ⟨hen, hc⟩ := hc
 refine ⟨hen, ?_⟩
 intro Z0 F w0 w μ vs us fr hFb hH hvs hus hbel hkq
 refine (hc Z0 F w0 w μ vs us fr hFb hH hvs hus hbel hkq).mono ?_
 rintro e w' ⟨v, μ1, F1, res, hp', ⟨js, h1, h2, hΦ⟩, rfl, hF1, hH1, hres, hfr1, hb1⟩
 have hm1 := hH1.len
 have hjs : ∀ i, i < hp.length → js[i]? = some i := by
  intro i hi
  have := congrArg (fun l : List Nat => l[i]?) h1
  simp only [List.getElem?_take, if_pos hi] at this
  rw [this]
  simp [hi]
 refine ⟨v, _, F1, _, _, hΦ, rfl, hF1, hH1.ren js h2, Rel.ren js hres, ?_, hb1⟩
 refine RelL.mix (n := hp.length) ?_ ?_ hus (hfr1.ren (List.range hp.length))
 ·intro i x hi hx
  rw [List.getElem?_map, hjs i hi]
  rw [List.getElem?_map] at hx
  simpa [hi] using hx
 ·intro i x hi hx
  have h4 := (List.getElem?_eq_some_iff.1 hx).1
  have h5 := hH.len
  omega
theorem CallQ.inF {qs : List Nat} {f : FuncId} {args : List AV} {hp : List AObj} {Φ : AV → List AObj → Prop} (k : Nat) (us2 : List Value) (fr2 : List AV) (hc : CallQ P qs f args hp Φ) (hk : k ≤ hp.length)
  (h1 : renH (insI k hp.length) (insF k us2 fr2 hp) = hp) (h2 : renL (insI k hp.length) (renL (insJ k hp.length) args) = args) (h3 : ∀ r h', Φ r h' → hp.length ≤ h'.length) (hkf : KillsL (upQ k qs) fr2) :
  CallQ P (upQ k qs) f (renL (insJ k hp.length) args) (insF k us2 fr2 hp) fun r h => ∃ res hp', Φ res hp' ∧ r = res.ren (insJ k hp'.length) ∧ h = insF k us2 fr2 hp' := by
 obtain ⟨hen, hc⟩ := hc
 refine ⟨hen, ?_⟩
 intro Z0 F w0 w μ vs us fr hFb hH hvs hus hbel hkq
 have hHl : (insF k us2 fr2 hp).length = hp.length + 1 := by
  unfold insF renH insJ
  simp
  omega
 have hml : μ.length = hp.length + 1 := by rw [hH.len, hHl]
 have hH0 := hH.ren (insI k hp.length) (insI_nodup hk)
 have e0 : ((insI k hp.length).map fun i => ((insF k us2 fr2 hp).getD i .dead).ren (insI k hp.length)) = hp := h1
 rw [e0] at hH0
 have hvs0 := hvs.ren (insI k hp.length)
 rw [h2] at hvs0
 have hn2 : (insF k us2 fr2 hp)[k]? = some (.frame us2 fr2) := by
  unfold insF
  rw [List.getElem?_set_self]
  have : (renH (insJ k hp.length) (hp ++ [.dead])).length = hp.length + 1 := by unfold renH insJ; simp; omega
  omega
 obtain ⟨u, hu⟩ : ∃ u, μ[k]? = some u := ⟨_, List.getElem?_eq_getElem (by omega)⟩
 have hf2 : RelL w (Zone Z0 F w0.heap.size) μ fr2 us2 := hH.obj _ _ u hn2 hu
 have hus0 := (hus.append hf2).ren (insI k hp.length)
 refine (hc Z0 F w0 w _ vs (us ++ us2) _ hFb hH0 hvs0 hus0 hbel (kills_ren hk (kills_app hkq hkf))).mono ?_
 rintro e w' ⟨v, μ1, F1, res, hp', hΦ, rfl, hF1, hH1, hres, hfr1, hb1⟩
 have h3 := h3 _ _ hΦ
 have hm1 := hH1.len
 have hHd := hH1.addDead u (hH.one _ u hu)
 have hH2 := hHd.ren (insJ k hp'.length) (insJ_nodup (by omega))
 obtain ⟨μ2, hμ2⟩ : ∃ μ2, μ2 = ((insJ k hp'.length).map fun i => (μ1 ++ [u]).getD i (.bool false)) := ⟨_, rfl⟩
 have hA : ∀ (i : Nat) x, (insI k hp.length).contains i = true → μ1[(insI k hp.length).idxOf i]? = some x → μ2[i]? = some x := by
  intro i x hi hx
  obtain ⟨g1, g2⟩ := insI_idx hk hi
  generalize (insI k hp.length).idxOf i = j at g1 g2 hx
  have hj : (insJ k hp'.length)[i]? = some j := by
   split at g2
   ·rw [g2]; exact insJ_lo (by assumption)
   ·rw [g2]; exact insJ_hi (by omega) (by omega)
  rw [hμ2, List.getElem?_map, hj]
  simp only [Option.map_some, List.getD_eq_getElem?_getD]
  rw [List.getElem?_append_left (List.getElem?_eq_some_iff.1 hx).1, hx]
  rfl
 have hB : ∀ (i : Nat) x, (insI k hp.length).contains i = false → μ[i]? = some x → μ2[i]? = some x := by
  intro i x hi hx
  have hlt := (List.getElem?_eq_some_iff.1 hx).1
  have hin : i = k := by
   refine Classical.byContradiction fun hne => ?_
   have := insI_mem hk (i := i) (by omega) hne
   rw [this] at hi
   cases hi
  subst hin
  rw [hu] at hx
  rw [hμ2, List.getElem?_map, insJ_at]
  simp only [Option.map_some, List.getD_eq_getElem?_getD]
  rw [List.getElem?_append_right (by omega), hm1]
  simpa using hx
 rw [← hμ2] at hH2
 have hall := RelL.mixJ hA hB (hus.append hf2) hfr1
 have hul := hus.length
 have hfr : RelL w' (Zone Z0 F1 w0.heap.size) μ2 fr us := by
  have := hall.take fr.length
  rwa [List.take_left, ← hul, List.take_left] at this
 have hfr2 : RelL w' (Zone Z0 F1 w0.heap.size) μ2 fr2 us2 := by
  have := hall.drop fr.length
  rwa [List.drop_left, ← hul, List.drop_left] at this
 refine ⟨v, μ2, F1, _, _, ⟨res, hp', hΦ, rfl, rfl⟩, rfl, hF1, ?_, ?_, hfr, hb1⟩
 ·refine hH2.frameAt ?_ hfr2
  rw [List.getElem?_map, insJ_at]
  simp [AObj.ren]
 ·rw [hμ2]
  exact Rel.ren _ (Rel.keep (w := w') (fun _ _ _ => rfl) (fun i u hu => append_old i u hu) hres)
end
end Go.Abs

/-! The harness: rows of rows marked and held. -/
namespace Go.Proofs.YtehbliocfpppoaaGreat
open Go.RowKit Go.Abs
theorem lenV {α : Type} {L : List (Value × List α)} {R : List (List α)} (h : L.map Prod.snd = R) : L.length = R.length := by rw [← h, List.length_map]
theorem getV {α : Type} {L : List (Value × List α)} (i : Nat) (hi : i < L.length) : (L.getD i (.bool false, [])).2 = (L.map Prod.snd).getD i [] := by
 simp [List.getD_eq_getElem?_getD, List.getElem?_eq_getElem hi]
def lenG {α : Type} (l : List (List α)) : Nat → Nat
 | 0 => 0
 | i + 1 => lenG l i + (l.getD i []).length
theorem lenG_eq {α : Type} {l m : List (List α)} (h : ∀ j, (l.getD j []).length = (m.getD j []).length) : ∀ i, lenG l i = lenG m i
 | 0 => rfl
 | i + 1 => by rw [lenG, lenG, lenG_eq h i, h i]
def MkG {α : Type} (mk : Nat → Int → List α) (c k : Int) (l : List (List α)) (LM : List (Value × List α)) (i : Nat) : Prop :=
 LM.length = l.length ∧ ∀ j, j < l.length → (LM.getD j (.bool false, [])).2 = if j < i then mk (l.getD j []).length (k + c * (lenG l j : Int)) else l.getD j []
theorem MkG.zero {α : Type} {mk : Nat → Int → List α} {c k : Int} {l : List (List α)} {L : List (Value × List α)} (h : L.map Prod.snd = l) : MkG mk c k l L 0 := by
 have hl := lenV h
 refine ⟨hl, fun j hj => ?_⟩
 rw [if_neg (by omega), getV j (by omega), h]
theorem MkG.now {α : Type} {mk : Nat → Int → List α} {c k : Int} {l : List (List α)} {LM : List (Value × List α)} {i : Nat} (h : MkG mk c k l LM i) (hi : i < l.length) : (LM.getD i (.bool false, [])).2 = l.getD i [] := by
 rw [h.2 i hi, if_neg (by omega)]
theorem MkG.set {α : Type} {mk : Nat → Int → List α} {c k : Int} {l : List (List α)} {LM : List (Value × List α)} {i : Nat} {v : Value} {ys : List α} (h : MkG mk c k l LM i) (hi : i < l.length) (hy : ys = mk (l.getD i []).length (k + c * (lenG l i : Int))) : MkG mk c k l (LM.set i (v, ys)) (i + 1) := by
 refine ⟨by rw [List.length_set]; exact h.1, fun j hj => ?_⟩
 by_cases hji : j = i
 ·subst hji
  rw [if_pos (by omega)]
  simp [List.getD_eq_getElem?_getD, h.1, hi, hy]
 ·have h2 := h.2 j hj
  have e : (LM.set i (v, ys)).getD j (.bool false, []) = LM.getD j (.bool false, []) := by
   simp [List.getD_eq_getElem?_getD, List.getElem?_set_ne (Ne.symm hji)]
  rw [e, h2]
  by_cases h3 : j < i
  ·rw [if_pos h3, if_pos (by omega)]
  ·rw [if_neg h3, if_neg (by omega)]
def HdG {α : Type} (mk : Nat → Int → List α) (c k : Int) (l : List (List α)) : Prop := ∀ j, j < l.length → l.getD j [] = mk (l.getD j []).length (k + c * (lenG l j : Int))
theorem MkG.all {α : Type} {mk : Nat → Int → List α} {c k : Int} {l : List (List α)} {LM : List (Value × List α)} {i : Nat} (hm : ∀ n k, (mk n k).length = n) (h : MkG mk c k l LM i) (hi : l.length ≤ i) : HdG mk c k (LM.map Prod.snd) ∧ lenG (LM.map Prod.snd) (LM.map Prod.snd).length = lenG l l.length ∧ (LM.map Prod.snd).length = l.length := by
 have hl : (LM.map Prod.snd).length = l.length := by rw [List.length_map]; exact h.1
 have hg : ∀ j, j < l.length → (LM.map Prod.snd).getD j [] = mk (l.getD j []).length (k + c * (lenG l j : Int)) := fun j hj => by
  rw [← getV j (by rw [h.1]; exact hj), h.2 j hj, if_pos (by omega)]
 have hlen : ∀ j, ((LM.map Prod.snd).getD j []).length = (l.getD j []).length := fun j => by
  rcases Nat.lt_or_ge j l.length with hj | hj
  ·rw [hg j hj, hm]
  ·rw [List.getD_eq_getElem?_getD, List.getD_eq_getElem?_getD, List.getElem?_eq_none (by omega), List.getElem?_eq_none hj]
 have he := lenG_eq hlen
 refine ⟨fun j hj => ?_, by rw [hl, he], hl⟩
 rw [hl] at hj
 rw [hlen j, he j]
 exact hg j hj
theorem HdG.now {α : Type} {mk : Nat → Int → List α} {c k : Int} {l : List (List α)} (h : HdG mk c k l) {j : Nat} (hj : j < l.length) {q : Int} (hq : q = k + c * (lenG l j : Int)) : l.getD j [] = mk (l.getD j []).length q := by rw [hq]; exact h j hj
end Go.Proofs.YtehbliocfpppoaaGreat

/-! All congruences of a poset, by a closure that calls itself and visits. -/
namespace Go.Proofs.YtehbliocfpppoaaGreat
open Go.RowKit Go.Abs
theorem nxt_app (X Y : List Int) : ∀ i : Nat, i ≤ X.length → nxt (X ++ Y) i = nxt X i
 | 0, _ => rfl
 | i + 1, h => by
  have e : (X ++ Y).getD i 0 = X.getD i 0 := by rw [List.getD_eq_getElem?_getD, List.getD_eq_getElem?_getD, List.getElem?_append_left (by omega)]
  simp only [nxt, e, nxt_app X Y i (by omega)]
theorem snoc_at (X : List Int) (c : Int) : (X ++ [c]).getD X.length 0 = c := by rw [List.getD_eq_getElem?_getD, List.getElem?_append_right (Nat.le_refl _)]; simp
structure CX (X : List Int) (u : Int) : Prop where
 cls : clsB X = true
 cnt : u = nxt X X.length
 rng : 0 ≤ u ∧ u ≤ X.length
theorem cx_nil : CX [] 0 := ⟨rfl, rfl, by simp⟩
theorem nxt_snoc {X : List Int} {c : Int} (h : c ≤ nxt X X.length) : nxt (X ++ [c]) (X ++ [c]).length = max (nxt X X.length) (c + 1) := by
 rw [List.length_append, List.length_singleton, nxt, snoc_at, nxt_app X [c] X.length (Nat.le_refl _)]
 split <;> omega
theorem cls_snoc {X : List Int} {c : Int} (hX : clsB X = true) (h0 : 0 ≤ c) (h : c ≤ nxt X X.length) : clsB (X ++ [c]) = true := by
 refine clsB_iff.2 fun i hi => ?_
 simp only [List.length_append, List.length_singleton] at hi
 rw [nxt_app X [c] i (by omega)]
 by_cases e : i = X.length
 ·subst e; rw [snoc_at]; exact ⟨h0, h⟩
 ·rw [List.getD_eq_getElem?_getD, List.getElem?_append_left (by omega), ← List.getD_eq_getElem?_getD]
  exact clsB_iff.1 hX i (by omega)
abbrev mx (u c : Int) : Int := if c + 1 > u then c + 1 else u
theorem mx_eq (u c : Int) : mx u c = max u (c + 1) := by unfold mx; split <;> omega
theorem cx_snoc {X : List Int} {u c : Int} (h : CX X u) (h0 : 0 ≤ c) (hc : c ≤ u) : CX (X ++ [c]) (mx u c) := by
 rw [mx_eq]
 have e := h.cnt
 have r := h.rng
 refine ⟨cls_snoc h.cls h0 (by omega), by rw [nxt_snoc (by omega), ← e], by simp; omega⟩
def dfs : Nat → List Int → Int → List (List Int)
 | 0, X, _ => [X]
 | d + 1, X, u => (List.range (u.toNat + 1)).flatMap fun (c : Nat) => dfs d (X ++ [(c : Int)]) (mx u (c : Int))
def cgs (xs : List Int) (d : Nat) (X : List Int) (u : Int) : List (List Int) := (dfs d X u).filter (corB xs)
def cgsI (xs : List Int) (d : Nat) (X : List Int) (u : Int) (i : Nat) : List (List Int) := (List.range i).flatMap fun (c : Nat) => cgs xs d (X ++ [(c : Int)]) (mx u (c : Int))
theorem cgs_s (xs : List Int) (d : Nat) (X : List Int) (u : Int) : cgs xs (d + 1) X u = cgsI xs d X u (u.toNat + 1) := by
 unfold cgs cgsI
 rw [dfs, List.filter_flatMap]; rfl
theorem cgsI_s (xs : List Int) (d : Nat) (X : List Int) (u : Int) (i : Nat) : cgsI xs d X u (i + 1) = cgsI xs d X u i ++ cgs xs d (X ++ [(i : Int)]) (mx u (i : Int)) := by
 unfold cgsI
 rw [List.range_succ, List.flatMap_append, List.flatMap_singleton]
def pw8 : Nat → Nat
 | 0 => 1
 | d + 1 => 8 * pw8 d
theorem pw8_le {d e : Nat} (h : d ≤ e) : pw8 d ≤ pw8 e := by
 induction h with
 | refl => exact Nat.le_refl _
 | step _ ih => rw [pw8]; omega
theorem pw8_8 {d : Nat} (h : d ≤ 8) : pw8 d ≤ 16777216 := Nat.le_trans (pw8_le h) (by decide)
theorem flat_len {α : Type} (f : Nat → List α) (k : Nat) : ∀ i : Nat, (∀ c, c < i → (f c).length ≤ k) → ((List.range i).flatMap f).length ≤ i * k
 | 0, _ => by simp
 | i + 1, h => by
  rw [List.range_succ, List.flatMap_append, List.flatMap_singleton, List.length_append]
  have := flat_len f k i fun c hc => h c (by omega)
  have := h i (by omega)
  rw [Nat.succ_mul]; omega
theorem cgs_len (xs : List Int) : ∀ (d : Nat) (X : List Int) (u : Int), u.toNat + d ≤ 8 → (cgs xs d X u).length ≤ pw8 d
 | 0, X, u, _ => by
  unfold cgs dfs
  exact Nat.le_trans (List.length_filter_le _ _) (Nat.le_refl 1)
 | d + 1, X, u, h => by
  rw [cgs_s, cgsI, pw8]
  refine Nat.le_trans (flat_len _ (pw8 d) (u.toNat + 1) fun c hc => cgs_len xs d _ _ (by rw [mx_eq]; omega)) ?_
  exact Nat.mul_le_mul_right _ (by omega)
def CG (xs : List Int) (d : Nat) (X : List Int) (u : Int) (b : Nat) (L L2 : List (Value × List Int)) : Prop := NL b L2 ∧ L2.map Prod.snd = L.map Prod.snd ++ cgs xs d X u
def CGI (xs : List Int) (d : Nat) (X : List Int) (u : Int) (i : Nat) (b : Nat) (L L2 : List (Value × List Int)) : Prop := NL b L2 ∧ L2.map Prod.snd = L.map Prod.snd ++ cgsI xs d X u i
theorem map_len {α : Type} {L2 : List (Value × α)} {M : List α} (h : L2.map Prod.snd = M) : L2.length = M.length := by rw [← h, List.length_map]
theorem cg_one {n : Int} {xs X : List Int} {u : Int} {b : Nat} {L L2 : List (Value × List Int)} (hP : okPo n xs = true) (hX : CX X u) (hn : (X.length : Int) = n) (h : NL b L2 ∧ L2.map Prod.snd = if cngB n xs X = true then L.map Prod.snd ++ [X] else L.map Prod.snd) : CG xs 0 X u b L L2 := by
 refine ⟨h.1, ?_⟩
 have hp : parB n X = true := by simp [parB, hX.cls, hn]
 rw [h.2, cng_eq hP, hp, Bool.true_and]
 unfold cgs dfs
 cases hc : corB xs X <;> simp [hc]
theorem cgi_0 (xs : List Int) (d : Nat) (X : List Int) (u : Int) {b : Nat} {L : List (Value × List Int)} (h : NL b L) : CGI xs d X u 0 b L L := ⟨h, by simp [cgsI]⟩
theorem cgi_s {xs : List Int} {d : Nat} {X : List Int} {u : Int} {i b : Nat} {L L2 L3 : List (Value × List Int)} (h : CGI xs d X u i b L L2) (h2 : CG xs d (X ++ [(i : Int)]) (mx u (i : Int)) b L2 L3) : CGI xs d X u (i + 1) b L L3 :=
 ⟨h2.1, by rw [h2.2, h.2, cgsI_s, List.append_assoc]⟩
theorem cg_end {xs : List Int} {d : Nat} {X : List Int} {u : Int} {i b : Nat} {L L2 : List (Value × List Int)} (h : CGI xs d X u i b L L2) (hi : i = u.toNat + 1) : CG xs (d + 1) X u b L L2 := ⟨h.1, by rw [h.2, cgs_s, hi]⟩
theorem cgi_l7 {xs : List Int} {d : Nat} {X : List Int} {u : Int} {i b : Nat} {L L2 : List (Value × List Int)} (h : CGI xs d X u i b L L2) (hu : u.toNat + d + 1 ≤ 8) (hi : (i : Int) < u + 1) : L2.length ≤ L.length + 7 * pw8 d := by
 rw [map_len h.2, List.length_append, List.length_map]
 have := flat_len (fun (c : Nat) => cgs xs d (X ++ [(c : Int)]) (mx u (c : Int))) (pw8 d) i fun c hc => cgs_len xs d _ _ (by rw [mx_eq]; omega)
 have h2 : i * pw8 d ≤ 7 * pw8 d := Nat.mul_le_mul_right _ (by omega)
 unfold cgsI
 omega
theorem cgi_nl {xs : List Int} {d : Nat} {X : List Int} {u : Int} {i b : Nat} {L L2 : List (Value × List Int)} (h : CGI xs d X u i b L L2) : NL b L2 := h.1
theorem cut_snoc (X : List Int) (v : Int) {k : Nat} (hk : k = X.length) : (X ++ [v]).take k = X := by rw [hk, List.take_left]
end Go.Proofs.YtehbliocfpppoaaGreat

/-! Parts of posets, orders of numbers, least forms (texts of x04, v01, uu1, sh1, sh4, sh5). -/
namespace Go.Proofs.YtehbliocfpppoaaGreat
open Go.RowKit Go.Abs
theorem len_le {α : Type} : ∀ {l m : List α}, l.Nodup → (∀ x ∈ l, x ∈ m) → l.length ≤ m.length
 | [], _, _, _ => Nat.zero_le _
 | x :: l, m, hn, h => by
  obtain ⟨a, b, rfl⟩ := List.append_of_mem (h x (List.mem_cons_self ..))
  rw [List.nodup_cons] at hn
  have := len_le (l := l) (m := a ++ b) hn.2 fun y hy => by
   have := h y (List.mem_cons_of_mem _ hy)
   rcases List.mem_append.1 this with h1 | h1
   ·exact List.mem_append.2 (.inl h1)
   ·rcases List.mem_cons.1 h1 with rfl | h1
    ·exact absurd hy hn.1
    ·exact List.mem_append.2 (.inr h1)
  simp only [List.length_cons, List.length_append] at this ⊢
  omega
theorem nodup_map {α β : Type} {f : α → β} : ∀ {l : List α}, l.Nodup → (∀ x ∈ l, ∀ y ∈ l, f x = f y → x = y) → (l.map f).Nodup
 | [], _, _ => List.nodup_nil
 | x :: l, hn, h => by
  rw [List.nodup_cons] at hn
  rw [List.map_cons, List.nodup_cons]
  refine ⟨fun hm => ?_, nodup_map hn.2 fun y hy z hz => h y (List.mem_cons_of_mem _ hy) z (List.mem_cons_of_mem _ hz)⟩
  obtain ⟨y, hy, e⟩ := List.mem_map.1 hm
  rw [h y (List.mem_cons_of_mem _ hy) x (List.mem_cons_self ..) e] at hy
  exact hn.1 hy
theorem upTo_mem {xs : List Int} {m : Int} : ∀ k, m ∈ upTo xs k ↔ 0 ≤ m ∧ m < (k : Int) ∧ img xs m xs.length = m
 | 0 => by
  simp only [upTo, List.not_mem_nil, false_iff]
  rintro ⟨h1, h2, _⟩
  omega
 | k + 1 => by
  have ih := upTo_mem (xs := xs) (m := m) k
  by_cases h : img xs (k : Int) xs.length = (k : Int)
  ·rw [← upTo_yes h, List.mem_append, ih, List.mem_singleton]
   constructor
   ·rintro (⟨a, b, c⟩ | rfl)
    ·exact ⟨a, by omega, c⟩
    ·exact ⟨by omega, by omega, h⟩
   ·rintro ⟨a, b, c⟩
    by_cases e : m = (k : Int)
    ·exact .inr e
    ·exact .inl ⟨a, by omega, c⟩
  ·rw [← upTo_no h, ih]
   constructor
   ·rintro ⟨a, b, c⟩; exact ⟨a, by omega, c⟩
   ·rintro ⟨a, b, c⟩
    refine ⟨a, ?_, c⟩
    by_cases e : m = (k : Int)
    ·subst e; exact absurd c h
    ·omega
theorem inM_lt {n m : Int} (h0 : 0 ≤ n) (h8 : n ≤ 8) : InM n.toNat m ↔ 0 ≤ m ∧ m < shl64 1 n := by
 rw [full_rng (n := n.toNat) (by omega), show ((n.toNat : Nat) : Int) = n by omega, inR_iff]
 omega
theorem bits_eq {N : Nat} {a b : Int} (ha : InM N a) (hb : InM N b) (h : ∀ i, i < N → (tb a i = true ↔ tb b i = true)) : a = b := by
 refine tb_ext ha.1 hb.1 fun i => ?_
 rw [Bool.eq_iff_iff]
 by_cases hi : i < N
 ·exact h i hi
 ·constructor
  ·intro h2; exact absurd (tb_lt ha h2) hi
  ·intro h2; exact absurd (tb_lt hb h2) hi
section
variable {n : Int} {xs : List Int} (hP : okPo n xs = true)
include hP
theorem po_rel : 0 ≤ n ∧ n ≤ 8 ∧ (xs.length : Int) = n ∧ RelOK n.toNat xs ∧ (∀ i, i < n.toNat → tb (xs.getD i 0) i = true) ∧ (∀ i j k : Nat, i < n.toNat → tb (xs.getD i 0) j = true → tb (xs.getD j 0) k = true → tb (xs.getD i 0) k = true) ∧ ∀ i j : Nat, i < n.toNat → tb (xs.getD i 0) j = true → tb (xs.getD j 0) i = true → i = j := by
 have hF := okPo_fr hP
 obtain ⟨h0, h8, hl, hr⟩ := okFr_rel hF
 simp only [okPo, Bool.and_eq_true] at hP
 obtain ⟨_, h1, h2, h3⟩ := hP
 have hlt : ∀ i j, i < n.toNat → tb (xs.getD i 0) j = true → j < n.toNat := fun i j hi h => tb_lt (hr.2 i hi) h
 exact ⟨h0, h8, hl, hr, rB_iff.1 h1, fun i j k hi a b => tB_iff.1 h2 i hi j (hlt i j hi a) k (hlt j k (hlt i j hi a) b) a b, fun i j hi a b => aB_iff.1 h3 i hi j (hlt i j hi a) a b⟩
theorem img_bits {m : Int} (hm : InM n.toNat m) : InM n.toNat (img xs m xs.length) ∧ ∀ k, tb (img xs m xs.length) k = true ↔ ∃ j, tb m j = true ∧ tb (xs.getD j 0) k = true := by
 obtain ⟨h0, h8, hl, hr, _⟩ := po_rel hP
 obtain ⟨h1, h2⟩ := img_ok (n := n.toNat) (by omega) hr hm xs.length (by omega)
 refine ⟨h1, fun k => ?_⟩
 rw [h2]
 constructor
 ·rintro ⟨j, _, h3, h4⟩; exact ⟨j, h3, h4⟩
 ·rintro ⟨j, h3, h4⟩; exact ⟨j, by have := tb_lt hm h3; omega, h3, h4⟩
theorem up_iff {m : Int} : m ∈ upR n xs ↔ InM n.toNat m ∧ ∀ i j : Nat, tb m i = true → tb (xs.getD i 0) j = true → tb m j = true := by
 obtain ⟨h0, h8, hl, hr, rf, _⟩ := po_rel hP
 have hs := shl_rng n h0 (by omega)
 rw [upR, if_pos hP, upL, upTo_mem, show ((shl64 1 n).toNat : Int) = shl64 1 n by omega, inM_lt h0 h8]
 constructor
 ·rintro ⟨a, b, c⟩
  have hm := (inM_lt h0 h8).2 ⟨a, b⟩
  refine ⟨⟨a, b⟩, fun i j h1 h2 => ?_⟩
  rw [← c]
  exact ((img_bits hP hm).2 j).2 ⟨i, h1, h2⟩
 ·rintro ⟨⟨a, b⟩, h⟩
  have hm := (inM_lt h0 h8).2 ⟨a, b⟩
  refine ⟨a, b, bits_eq (img_bits hP hm).1 hm fun k hk => ?_⟩
  rw [(img_bits hP hm).2]
  constructor
  ·rintro ⟨j, h1, h2⟩; exact h j k h1 h2
  ·intro h1; exact ⟨k, h1, rf k hk⟩
end
def sqz (L : List Int) (m : Int) : Nat → Int
 | 0 => 0
 | k + 1 => if band (shr64 m (L.getD k 0)) 1 = 1 then bor (sqz L m k) (shl64 1 (k : Int)) else sqz L m k
theorem sqz_yes {L : List Int} {m : Int} {k : Nat} (h : band (shr64 m (L.getD k 0)) 1 = 1) : bor (sqz L m k) (shl64 1 (k : Int)) = sqz L m (k + 1) := by rw [sqz, if_pos h]
theorem sqz_no {L : List Int} {m : Int} {k : Nat} (h : ¬ band (shr64 m (L.getD k 0)) 1 = 1) : sqz L m k = sqz L m (k + 1) := by rw [sqz, if_neg h]
theorem sqz_ok {L : List Int} {m : Int} {N : Nat} (hN : N ≤ 61) : ∀ k : Nat, k ≤ N → InM N (sqz L m k)
 | 0, _ => inM_zero N
 | k + 1, h => by
  have ih := sqz_ok (L := L) (m := m) hN k (by omega)
  rw [sqz]
  split
  ·exact inM_bor hN ih (inM_one hN (by omega))
  ·exact ih
def prt (xs L : List Int) : List Int := L.map fun v => sqz L (xs.getD v.toNat 0) L.length
theorem prt_len (xs L : List Int) : (prt xs L).length = L.length := by simp [prt]
theorem prt_step {xs L : List Int} {t : Nat} (h : t < L.length) : ((L.take t).map fun v => sqz L (xs.getD v.toNat 0) L.length) ++ [sqz L (xs.getD (L.getD t 0).toNat 0) L.length] = (L.take (t + 1)).map fun v => sqz L (xs.getD v.toNat 0) L.length := map_take (f := fun v => sqz L (xs.getD v.toNat 0) L.length) h
theorem prt_end {xs L : List Int} {t : Nat} (h : t = L.length) : ((L.take t).map fun v => sqz L (xs.getD v.toNat 0) L.length) = prt xs L := by rw [h, List.take_length]; rfl
theorem mem_lenN {N : Nat} {m : Int} (hN : N ≤ 62) (h : InM N m) : (mem m).length ≤ N := by
 have e : mem m = memN m N := memN_stop (fun j hj => by
  cases e : tb m j with
  | false => rfl
  | true => exact absurd (tb_lt h e) (by omega)) hN
 rw [e]
 exact memN_len m N
theorem mem_in {N : Nat} {C : Int} (hN : N ≤ 61) (hC : InM N C) {k : Nat} (hk : k < (mem C).length) : (mem C).getD k 0 = (((mem C).getD k 0).toNat : Int) ∧ ((mem C).getD k 0).toNat < N ∧ tb C ((mem C).getD k 0).toNat = true := by
 have hg : (mem C).getD k 0 ∈ mem C := by
  rw [List.getD_eq_getElem?_getD, List.getElem?_eq_getElem hk]
  exact List.getElem_mem _
 obtain ⟨j, _, h2, h3⟩ := memN_mem.1 hg
 have := tb_lt hC h2
 rw [h3]
 exact ⟨by omega, by omega, h2⟩
theorem mem_ix {N : Nat} {C : Int} (hN : N ≤ 61) (hC : InM N C) {u : Nat} (hu : tb C u = true) : ∃ k, k < (mem C).length ∧ ((mem C).getD k 0).toNat = u := by
 have hm : (u : Int) ∈ mem C := memN_mem.2 ⟨u, by have := tb_lt hC hu; omega, hu, rfl⟩
 obtain ⟨k, hk, e⟩ := List.getElem_of_mem hm
 refine ⟨k, hk, ?_⟩
 rw [List.getD_eq_getElem?_getD, List.getElem?_eq_getElem hk, Option.getD_some, e]
 rfl
theorem sqz_bits {N : Nat} {C m : Int} (hN : N ≤ 61) (hC : InM N C) (hm : InM N m) : ∀ t, t ≤ (mem C).length → ∀ k, tb (sqz (mem C) m t) k = true ↔ k < t ∧ tb m ((mem C).getD k 0).toNat = true
 | 0, _, k => by simp [sqz, tb_zero]
 | t + 1, ht, k => by
  have hl := mem_lenN (by omega) hC
  have ih := sqz_bits hN hC hm t (by omega) k
  obtain ⟨h1, h2, h3⟩ := mem_in hN hC (k := t) (by omega)
  have hb : band (shr64 m ((mem C).getD t 0)) 1 = 1 ↔ tb m ((mem C).getD t 0).toNat = true := by
   rw [h1]; exact has_tb hN hm (by omega)
  rw [sqz]
  split
  ·rename_i h
   rw [tb_bor (n := N) hN (inM_mono (n' := N) (by omega) (sqz_ok (N := t) (by omega) t (Nat.le_refl _))) (inM_one hN (by omega)), Bool.or_eq_true, ih, tb_one (by omega), decide_eq_true_iff]
   constructor
   ·rintro (⟨a, b⟩ | rfl)
    ·exact ⟨by omega, b⟩
    ·exact ⟨by omega, hb.1 h⟩
   ·rintro ⟨a, b⟩
    by_cases e : k = t
    ·exact .inr e.symm
    ·exact .inl ⟨by omega, b⟩
  ·rename_i h
   rw [ih]
   constructor
   ·exact fun ⟨a, b⟩ => ⟨by omega, b⟩
   ·rintro ⟨a, b⟩
    refine ⟨?_, b⟩
    by_cases e : k = t
    ·subst e; exact absurd (hb.2 b) h
    ·omega
theorem prt_get {xs L : List Int} {j : Nat} (hj : j < L.length) : (prt xs L).getD j 0 = sqz L (xs.getD (L.getD j 0).toNat 0) L.length := by
 unfold prt
 rw [List.getD_eq_getElem?_getD, List.getElem?_map, List.getElem?_eq_getElem hj, List.getD_eq_getElem?_getD (l := L), List.getElem?_eq_getElem hj]
 rfl
theorem po_mk {n : Int} {xs : List Int} (h0 : 0 ≤ n) (h8 : n ≤ 8) (hl : (xs.length : Int) = n) (hr : ∀ i : Nat, i < n.toNat → InM n.toNat (xs.getD i 0)) (rf : ∀ i : Nat, i < n.toNat → tb (xs.getD i 0) i = true) (tr : ∀ i j k : Nat, i < n.toNat → tb (xs.getD i 0) j = true → tb (xs.getD j 0) k = true → tb (xs.getD i 0) k = true) (asy : ∀ i j : Nat, i < n.toNat → tb (xs.getD i 0) j = true → tb (xs.getD j 0) i = true → i = j) : okPo n xs = true := by
 have hF : okFr n xs = true := by
  refine okFr_mk ((inR_iff _ _ _).2 (by omega)) hl ?_
  rw [List.any_eq_false]
  intro x hx
  obtain ⟨j, hj, rfl⟩ := List.getElem_of_mem hx
  have h1 := hr j (by omega)
  rw [List.getD_eq_getElem?_getD, List.getElem?_eq_getElem hj] at h1
  have := (full_rng (n := n.toNat) (by omega)).1 h1
  rw [show ((n.toNat : Nat) : Int) = n by omega] at this
  simp only [Option.getD_some] at this
  rw [this]; simp
 simp only [okPo, Bool.and_eq_true]
 exact ⟨hF, rB_iff.2 rf, tB_iff.2 fun i hi j _ k _ a b => tr i j k hi a b, aB_iff.2 fun i hi j _ a b => asy i j hi a b⟩

def cmpI (x y : Int) : Int := if x < y then -1 else if x > y then 1 else 0
def cmpL : List Int → List Int → Int
 | [], [] => 0
 | [], _ :: _ => -1
 | _ :: _, [] => 1
 | x :: a, y :: b => if cmpI x y = 0 then cmpL a b else cmpI x y
def ltL (a b : List Int) : Prop := cmpL a b < 0
instance (a b : List Int) : Decidable (ltL a b) := by unfold ltL; infer_instance
theorem cmpI_eq {x y : Int} : cmpI x y = 0 ↔ x = y := by
 unfold cmpI
 split
 ·constructor <;> intro h <;> omega
 ·split
  ·constructor <;> intro h <;> omega
  ·constructor <;> intro h <;> omega
theorem cmpI_lt {x y : Int} : cmpI x y < 0 ↔ x < y := by
 unfold cmpI
 split
 ·constructor <;> intro h <;> omega
 ·split
  ·constructor <;> intro h <;> omega
  ·constructor <;> intro h <;> omega
theorem lt_irr : ∀ a : List Int, ¬ ltL a a
 | [] => by simp [ltL, cmpL]
 | x :: a => by
  have := lt_irr a
  unfold ltL at this ⊢
  rw [cmpL, if_pos (cmpI_eq.2 rfl)]
  exact this
theorem lt_trans' : ∀ {a b c : List Int}, ltL a b → ltL b c → ltL a c
 | [], [], _, h, _ => by simp [ltL, cmpL] at h
 | [], _ :: _, [], _, h => by simp [ltL, cmpL] at h
 | [], _ :: _, _ :: _, _, _ => by simp [ltL, cmpL]
 | _ :: _, [], _, h, _ => by simp [ltL, cmpL] at h
 | _ :: _, _ :: _, [], _, h => by simp [ltL, cmpL] at h
 | x :: a, y :: b, z :: c, h1, h2 => by
  unfold ltL at h1 h2 ⊢
  rw [cmpL] at h1 h2 ⊢
  by_cases e1 : cmpI x y = 0
  ·rw [if_pos e1] at h1
   have := cmpI_eq.1 e1; subst this
   by_cases e2 : cmpI x z = 0
   ·rw [if_pos e2] at h2 ⊢
    exact lt_trans' h1 h2
   ·rw [if_neg e2] at h2 ⊢
    exact h2
  ·rw [if_neg e1] at h1
   have h1' := cmpI_lt.1 h1
   by_cases e2 : cmpI y z = 0
   ·have := cmpI_eq.1 e2; subst this
    rw [if_neg e1]; exact h1
   ·rw [if_neg e2] at h2
    have h2' := cmpI_lt.1 h2
    have h3 : cmpI x z < 0 := cmpI_lt.2 (by omega)
    rw [if_neg (by omega)]; exact h3
theorem nlt_le {r b b' : List Int} (h : ¬ ltL r b) (hb : b' = b ∨ ltL b' b) : ¬ ltL r b' := by
 rcases hb with rfl | hb
 ·exact h
 ·exact fun h2 => h (lt_trans' h2 hb)
section
variable {a b : List Int} {i : Nat}
theorem dropC (h : i < a.length) : a.drop i = a.getD i 0 :: a.drop (i + 1) := by
 rw [List.drop_eq_getElem_cons h, List.getD_eq_getElem?_getD, List.getElem?_eq_getElem h]; rfl
theorem cmp_gt (h : cmpL a b = cmpL (a.drop i) (b.drop i)) (ha : i < a.length) (hb : b.length ≤ i) : 1 = cmpL a b := by
 rw [h, dropC ha, List.drop_eq_nil_of_le hb, cmpL]
theorem cmp_ne {c : Int} (h : cmpL a b = cmpL (a.drop i) (b.drop i)) (ha : i < a.length) (hb : i < b.length) (hc : c = cmpI (a.getD i 0) (b.getD i 0)) (h0 : ¬ c = 0) : c = cmpL a b := by
 rw [h, dropC ha, dropC hb, cmpL, if_neg (by rw [← hc]; exact h0), hc]
theorem cmp_eq (h : cmpL a b = cmpL (a.drop i) (b.drop i)) (ha : i < a.length) (hb : i < b.length) (hc : cmpI (a.getD i 0) (b.getD i 0) = 0) : cmpL a b = cmpL (a.drop (i + 1)) (b.drop (i + 1)) := by
 rw [h, dropC ha, dropC hb, cmpL, if_pos hc]
theorem cmp_lt (h : cmpL a b = cmpL (a.drop i) (b.drop i)) (ha : a.length = i) (hb : i < b.length) : -1 = cmpL a b := by
 rw [h, List.drop_eq_nil_of_le (by omega), dropC hb, cmpL]
theorem cmp_end (h : cmpL a b = cmpL (a.drop i) (b.drop i)) (ha : a.length = i) (hb : b.length ≤ i) : 0 = cmpL a b := by
 rw [h, List.drop_eq_nil_of_le (by omega), List.drop_eq_nil_of_le hb, cmpL]
end
theorem nan_c (x : Int) : CallA Tryz.prog 183 [AI x] (.bool false) := by
 refine CallA.of Tryz.func183 rfl (by kernel_rfl) ?_
 exact R.go 11 (R.retE (.bool (!decide (x = x))) (by kernel_rfl) (by kernel_rfl) (by first | ((apply congrArg AV.bool; simp)) | (exfalso; omega)))
theorem cmpI_c (x y : Int) : CallA Tryz.prog 99 [AI x, AI y] (AI (cmpI x y)) := by
 refine CallA.of Tryz.func99 rfl (by kernel_rfl) (R.go 7 (k20 true (nan_c x) (R.go 5 (k20 true (nan_c y) (R.go 23 (k9 (x < y) (fun c1 => ?_) (fun c1 => ?_)))))))
 ·exact R.go 4 (k23 (AI (-1)) (by first | (apply congrArg AI; unfold cmpI; first | (rw [if_pos (by assumption)]) | (rw [if_neg (by assumption), if_pos (by assumption)]) | (rw [if_neg (by assumption), if_neg (by assumption)])) | (exfalso; omega)))
 refine R.go 8 (k9 (x > y) (fun c2 => ?_) (fun c2 => ?_))
 ·exact R.go 4 (k23 (AI 1) (by first | (apply congrArg AI; unfold cmpI; first | (rw [if_pos (by assumption)]) | (rw [if_neg (by assumption), if_pos (by assumption)]) | (rw [if_neg (by assumption), if_neg (by assumption)])) | (exfalso; omega)))
 exact R.go 5 (k23 (AI 0) (by first | (apply congrArg AI; unfold cmpI; first | (rw [if_pos (by assumption)]) | (rw [if_neg (by assumption), if_pos (by assumption)]) | (rw [if_neg (by assumption), if_neg (by assumption)])) | (exfalso; omega)))
theorem cmpL_c (a b : List Int) (la : a.length ≤ 1000000000) (lb : b.length ≤ 1000000000) : CallA Tryz.prog 95 [LI a, LI b] (AI (cmpL a b)) := by
 refine CallA.of Tryz.func95 rfl (by kernel_rfl) (R.go 12 (k21 (fun (i : Nat) => (⟨(frm 36 [(0, LI a), (1, LI b), (9, LI a), (10, AI a.length), (11, AI (i : Int))]), []⟩ : St)) (fun (i : Nat) => (i ≤ a.length) ∧ (i ≤ b.length) ∧ (cmpL a b = cmpL (a.drop i) (b.drop i))) (fun (i : Nat) => a.length - i) 0 [0, 1, 9, 10, 11] none ⟨(by omega), (by omega), (by rfl)⟩ ?_))
 rintro i ⟨h3_1, h3_2, h3_3⟩ R1 N2
 refine R.go 5 (k9 ((i : Int) < (a.length : Int)) (fun c4 => ?_) (fun c4 => ?_))
 ·refine R.go 6 (k15 eI a 0 i (i : Int) eI_len (R.go 12 (k9 ((i : Int) ≥ (b.length : Int)) (fun c5 => ?_) (fun c5 => ?_))))
  ·exact R.go 4 (k23 (AI 1) (by first | (apply congrArg AI; first | exact cmp_gt (i := i) (by assumption) (by omega) (by omega) | exact cmp_ne (i := i) (by assumption) (by omega) (by omega) rfl (by assumption) | exact cmp_lt (i := i) (by assumption) (by omega) (by omega) | exact cmp_end (i := i) (by assumption) (by omega) (by omega)) | (exfalso; omega)))
  refine R.go 5 (k15 eI b 0 i (i : Int) eI_len (R.go 7 (k20 true (cmpI_c (a.getD i 0) (b.getD i 0)) (R.go 7 (k10 ((cmpI (a.getD i 0) (b.getD i 0)) = 0) (fun c6 => ?_) (fun c6 => ?_))))))
  ·exact R.go 5 (k23 (AI (cmpI (a.getD i 0) (b.getD i 0))) (by first | (apply congrArg AI; first | exact cmp_gt (i := i) (by assumption) (by omega) (by omega) | exact cmp_ne (i := i) (by assumption) (by omega) (by omega) rfl (by assumption) | exact cmp_lt (i := i) (by assumption) (by omega) (by omega) | exact cmp_end (i := i) (by assumption) (by omega) (by omega)) | (exfalso; omega)))
  refine R.go 3 (k8 ((i : Int) + 1) ?_)
  exact R.go 2 (k22 R1 (N2 (i + 1) [0, 1, 9, 10, 11] none _ (by kernel_rfl) (by kernel_rfl) ⟨(by omega), (by omega), (by exact cmp_eq (by assumption) (by omega) (by omega) (by assumption))⟩ (by show (a.length - (i + 1)) < (a.length - i); omega)))
 refine R.go 10 (k9 ((a.length : Int) < (b.length : Int)) (fun c7 => ?_) (fun c7 => ?_))
 ·exact R.go 4 (k23 (AI (-1)) (by first | (apply congrArg AI; first | exact cmp_gt (i := i) (by assumption) (by omega) (by omega) | exact cmp_ne (i := i) (by assumption) (by omega) (by omega) rfl (by assumption) | exact cmp_lt (i := i) (by assumption) (by omega) (by omega) | exact cmp_end (i := i) (by assumption) (by omega) (by omega)) | (exfalso; omega)))
 exact R.go 5 (k23 (AI 0) (by first | (apply congrArg AI; first | exact cmp_gt (i := i) (by assumption) (by omega) (by omega) | exact cmp_ne (i := i) (by assumption) (by omega) (by omega) rfl (by assumption) | exact cmp_lt (i := i) (by assumption) (by omega) (by omega) | exact cmp_end (i := i) (by assumption) (by omega) (by omega)) | (exfalso; omega)))

def toF (o : List Int) : Nat → List Int
 | 0 => List.replicate o.length 0
 | i + 1 => (toF o i).set (o.getD i 0).toNat (i : Int)
theorem toF_len (o : List Int) : ∀ i, (toF o i).length = o.length
 | 0 => by simp [toF]
 | i + 1 => by rw [toF, List.length_set, toF_len o i]
theorem toF_rng (o : List Int) (j : Nat) : ∀ i : Nat, 0 ≤ (toF o i).getD j 0 ∧ (toF o i).getD j 0 ≤ (i : Int)
 | 0 => by
  rw [toF, List.getD_eq_getElem?_getD, List.getElem?_replicate]
  split <;> simp
 | i + 1 => by
  have ih := toF_rng o j i
  by_cases hi : (o.getD i 0).toNat < (toF o i).length
  ·rw [toF, getD_set_if _ _ _ _ _ hi]
   split <;> omega
  ·rw [toF, List.set_eq_of_length_le (by omega)]; omega
def reoK (a o T' R : List Int) (i : Nat) : Nat → List Int
 | 0 => R
 | k + 1 => (reoK a o T' R i k).set i (bor ((reoK a o T' R i k).getD i 0) (shl64 1 (T'.getD ((mem (a.getD (o.getD i 0).toNat 0)).getD k 0).toNat 0)))
def reoF (a o T' : List Int) : Nat → List Int
 | 0 => List.replicate o.length 0
 | i + 1 => reoK a o T' (reoF a o T' i) i (mem (a.getD (o.getD i 0).toNat 0)).length
def reo (a o : List Int) : List Int := reoF a o (toF o o.length) o.length
theorem reoK_len (a o T' R : List Int) (i : Nat) : ∀ k, (reoK a o T' R i k).length = R.length
 | 0 => rfl
 | k + 1 => by rw [reoK, List.length_set, reoK_len]
theorem reoF_len (a o T' : List Int) : ∀ i, (reoF a o T' i).length = o.length
 | 0 => by simp [reoF]
 | i + 1 => by rw [reoF, reoK_len, reoF_len]
theorem reo_len (a o : List Int) : (reo a o).length = o.length := reoF_len _ _ _ _
def PM (n : Int) (o : List Int) : Prop := o.length = n.toNat ∧ o.Nodup ∧ ∀ v ∈ o, 0 ≤ v ∧ v < n
theorem pm_get {n : Int} {o : List Int} (h : PM n o) {i : Nat} (hi : i < n.toNat) : o.getD i 0 ∈ o ∧ 0 ≤ o.getD i 0 ∧ o.getD i 0 < n := by
 have : o.getD i 0 ∈ o := by
  rw [List.getD_eq_getElem?_getD, List.getElem?_eq_getElem (by rw [h.1]; exact hi)]
  exact List.getElem_mem _
 exact ⟨this, h.2.2 _ this⟩
theorem pm_inj {n : Int} {o : List Int} (h : PM n o) {i j : Nat} (hi : i < n.toNat) (hj : j < n.toNat) (e : o.getD i 0 = o.getD j 0) : i = j := by
 have hi' : i < o.length := by rw [h.1]; exact hi
 have hj' : j < o.length := by rw [h.1]; exact hj
 rw [List.getD_eq_getElem?_getD, List.getD_eq_getElem?_getD, List.getElem?_eq_getElem hi', List.getElem?_eq_getElem hj'] at e
 exact (List.getElem_inj h.2.1).1 e
theorem pm_onto {n : Int} {o : List Int} (h : PM n o) {y : Nat} (hy : y < n.toNat) : ∃ k, k < n.toNat ∧ o.getD k 0 = (y : Int) := by
 have hm : (y : Int) ∈ o := by
  refine Classical.byContradiction fun hn => ?_
  have h1 := len_le (l := (y : Int) :: o) (m := (List.range n.toNat).map fun i : Nat => (i : Int)) (List.nodup_cons.2 ⟨hn, h.2.1⟩) fun v hv => by
   rcases List.mem_cons.1 hv with rfl | hv
   ·exact List.mem_map.2 ⟨y, List.mem_range.2 hy, rfl⟩
   ·have := h.2.2 v hv
    exact List.mem_map.2 ⟨v.toNat, List.mem_range.2 (by omega), by omega⟩
  simp only [List.length_cons, List.length_map, List.length_range, h.1] at h1
  omega
 obtain ⟨k, hk, e⟩ := List.getElem_of_mem hm
 refine ⟨k, by rw [← h.1]; exact hk, ?_⟩
 rw [List.getD_eq_getElem?_getD, List.getElem?_eq_getElem hk, e]
 rfl
theorem toF_inv {n : Int} {o : List Int} (h : PM n o) : ∀ i : Nat, i ≤ n.toNat → ∀ k, k < i → (toF o i).getD (o.getD k 0).toNat 0 = (k : Int)
 | 0, _, k, hk => by omega
 | i + 1, hi, k, hk => by
  have hk2 := pm_get h (i := k) (by omega)
  have hi2 := pm_get h (i := i) (by omega)
  have hl := h.1
  rw [toF, getD_set_if _ _ _ _ _ (by rw [toF_len]; omega)]
  by_cases e : k = i
  ·subst e; rw [if_pos rfl]
  ·rw [if_neg (fun e2 => e (pm_inj h (by omega) (by omega) (by omega)))]
   exact toF_inv h i (by omega) k (by omega)
theorem reoK_bits {n : Int} {a o T' R : List Int} {i : Nat} (h8 : n ≤ 8) (hR : ∀ j, j < R.length → InM n.toNat (R.getD j 0)) (hi : i < R.length) (hT : ∀ t, t < (mem (a.getD (o.getD i 0).toNat 0)).length → 0 ≤ T'.getD ((mem (a.getD (o.getD i 0).toNat 0)).getD t 0).toNat 0 ∧ T'.getD ((mem (a.getD (o.getD i 0).toNat 0)).getD t 0).toNat 0 < n) : ∀ k, k ≤ (mem (a.getD (o.getD i 0).toNat 0)).length → (∀ j, j < R.length → InM n.toNat ((reoK a o T' R i k).getD j 0)) ∧ (∀ j, ¬ j = i → (reoK a o T' R i k).getD j 0 = R.getD j 0) ∧ ∀ q, tb ((reoK a o T' R i k).getD i 0) q = true ↔ tb (R.getD i 0) q = true ∨ ∃ t, t < k ∧ T'.getD ((mem (a.getD (o.getD i 0).toNat 0)).getD t 0).toNat 0 = (q : Int)
 | 0, _ => ⟨hR, fun _ _ => rfl, fun q => by simp [reoK]⟩
 | k + 1, hk => by
  obtain ⟨h1, h2, h3⟩ := reoK_bits h8 hR hi hT k (by omega)
  have ht := hT k (by omega)
  obtain ⟨v, hv⟩ := Int.eq_ofNat_of_zero_le ht.1
  have ho : InM n.toNat (shl64 1 (v : Int)) := inM_one (by omega) (by omega)
  have hl := reoK_len a o T' R i k
  have hset : ∀ j, (reoK a o T' R i (k + 1)).getD j 0 = if i = j then bor ((reoK a o T' R i k).getD i 0) (shl64 1 (v : Int)) else (reoK a o T' R i k).getD j 0 := fun j => by
   rw [reoK, hv, getD_set_if _ _ _ _ _ (by omega)]
  refine ⟨fun j hj => ?_, fun j hj => ?_, fun q => ?_⟩
  ·rw [hset]
   split
   ·exact inM_bor (by omega) (h1 i hi) ho
   ·exact h1 j hj
  ·rw [hset, if_neg (fun e => hj e.symm)]; exact h2 j hj
  ·rw [hset, if_pos rfl, tb_bor (n := n.toNat) (by omega) (h1 i hi) ho, Bool.or_eq_true, h3, tb_one (by omega), decide_eq_true_iff]
   constructor
   ·rintro ((h | ⟨t, t1, t2⟩) | rfl)
    ·exact .inl h
    ·exact .inr ⟨t, by omega, t2⟩
    ·exact .inr ⟨k, by omega, hv⟩
   ·rintro (h | ⟨t, t1, t2⟩)
    ·exact .inl (.inl h)
    ·by_cases e : t = k
     ·subst e; exact .inr (by omega)
     ·exact .inl (.inr ⟨t, by omega, t2⟩)
theorem reo_bits {n : Int} {a o : List Int} (hF : okFr n a = true) (h : PM n o) {i : Nat} (hi : i < n.toNat) : InM n.toNat ((reo a o).getD i 0) ∧ ∀ k, tb ((reo a o).getD i 0) k = true ↔ k < n.toNat ∧ tb (a.getD (o.getD i 0).toNat 0) (o.getD k 0).toNat = true := by
 obtain ⟨h0, h8, hl, hr⟩ := okFr_rel hF
 have hol := h.1
 have hrow : ∀ i, i < n.toNat → InM n.toNat (a.getD (o.getD i 0).toNat 0) := fun i hi => hr.2 _ (by have := pm_get h hi; omega)
 have hTr : ∀ y, y < n.toNat → ∃ k, k < n.toNat ∧ o.getD k 0 = (y : Int) ∧ (toF o o.length).getD y 0 = (k : Int) := fun y hy => by
  obtain ⟨k, hk, e⟩ := pm_onto h hy
  have := toF_inv h o.length (by omega) k (by omega)
  rw [e, Int.toNat_natCast] at this
  exact ⟨k, hk, e, this⟩
 have hT : ∀ i, i < n.toNat → ∀ t, t < (mem (a.getD (o.getD i 0).toNat 0)).length → 0 ≤ (toF o o.length).getD ((mem (a.getD (o.getD i 0).toNat 0)).getD t 0).toNat 0 ∧ (toF o o.length).getD ((mem (a.getD (o.getD i 0).toNat 0)).getD t 0).toNat 0 < n := fun i hi t ht => by
  obtain ⟨m1, m2, _⟩ := mem_in (N := n.toNat) (by omega) (hrow i hi) ht
  obtain ⟨k, hk, _, e⟩ := hTr _ m2
  rw [e]; omega
 have main : ∀ c, c ≤ n.toNat → (∀ j, j < n.toNat → InM n.toNat ((reoF a o (toF o o.length) c).getD j 0)) ∧ (∀ j, c ≤ j → (reoF a o (toF o o.length) c).getD j 0 = 0) ∧ ∀ i, i < c → ∀ q, tb ((reoF a o (toF o o.length) c).getD i 0) q = true ↔ q < n.toNat ∧ tb (a.getD (o.getD i 0).toNat 0) (o.getD q 0).toNat = true := by
  intro c
  induction c with
  | zero =>
   intro _
   have hz : ∀ j, (reoF a o (toF o o.length) 0).getD j 0 = 0 := fun j => by
    rw [reoF, List.getD_eq_getElem?_getD, List.getElem?_replicate]
    split <;> rfl
   exact ⟨fun j _ => by rw [hz]; exact inM_zero _, fun j _ => hz j, fun i hi => by omega⟩
  | succ c ih =>
   intro hc
   obtain ⟨i1, i2, i3⟩ := ih (by omega)
   have hRl := reoF_len a o (toF o o.length) c
   obtain ⟨k1, k2, k3⟩ := reoK_bits (n := n) (a := a) (o := o) (T' := toF o o.length) (R := reoF a o (toF o o.length) c) (i := c) h8 (fun j hj => i1 j (by omega)) (by omega) (hT c (by omega)) _ (Nat.le_refl _)
   rw [reoF]
   refine ⟨fun j hj => k1 j (by omega), fun j hj => ?_, fun i hi q => ?_⟩
   ·rw [k2 j (by omega)]; exact i2 j (by omega)
   ·by_cases e : i = c
    ·subst e
     rw [k3, i2 i (Nat.le_refl _), tb_zero]
     have hmr := hrow i (by omega)
     constructor
     ·rintro (h5 | ⟨t, t1, t2⟩)
      ·cases h5
      ·obtain ⟨m1, m2, m3⟩ := mem_in (N := n.toNat) (by omega) hmr t1
       obtain ⟨k, hk, e1, e2⟩ := hTr _ m2
       rw [e2] at t2
       have ekq : k = q := by omega
       subst ekq
       refine ⟨hk, ?_⟩
       rw [e1, Int.toNat_natCast]
       exact m3
     ·rintro ⟨q1, q2⟩
      have hoq := pm_get h q1
      have hmm : o.getD q 0 ∈ mem (a.getD (o.getD i 0).toNat 0) := (by
       have := (mem_iff (j := (o.getD q 0).toNat) (N := n.toNat) (by omega) hmr).2 q2
       rwa [show (((o.getD q 0).toNat : Nat) : Int) = o.getD q 0 by omega] at this)
      obtain ⟨t, ht, et⟩ := List.getElem_of_mem hmm
      refine .inr ⟨t, ht, ?_⟩
      have et2 : (mem (a.getD (o.getD i 0).toNat 0)).getD t 0 = o.getD q 0 := by rw [List.getD_eq_getElem?_getD (l := mem _), List.getElem?_eq_getElem ht, et]; rfl
      rw [et2]
      exact toF_inv h o.length (by omega) q (by omega)
    ·rw [k2 i e]; exact i3 i (by omega) q
 obtain ⟨j1, j2, j3⟩ := main n.toNat (Nat.le_refl _)
 unfold reo
 rw [hol] at j1 j3 ⊢
 exact ⟨j1 i hi, j3 i hi⟩
def cmpO (o o' : List Int) : List Int := o'.map fun v => o.getD v.toNat 0
theorem cmpO_get {n : Int} {o o' : List Int} (h' : PM n o') {i : Nat} (hi : i < n.toNat) : (cmpO o o').getD i 0 = o.getD (o'.getD i 0).toNat 0 := by
 have : i < o'.length := by rw [h'.1]; exact hi
 simp only [cmpO, List.getD_eq_getElem?_getD, List.getElem?_map, List.getElem?_eq_getElem this, Option.map_some, Option.getD_some]
theorem cmpO_pm {n : Int} {o o' : List Int} (h : PM n o) (h' : PM n o') : PM n (cmpO o o') := by
 refine ⟨by rw [cmpO, List.length_map, h'.1], nodup_map h'.2.1 fun x hx y hy e => ?_, fun v hv => ?_⟩
 ·have h1 := h'.2.2 x hx
  have h2 := h'.2.2 y hy
  have := pm_inj h (i := x.toNat) (j := y.toNat) (by omega) (by omega) e
  omega
 ·obtain ⟨x, hx, rfl⟩ := List.mem_map.1 hv
  have h1 := h'.2.2 x hx
  exact (pm_get h (i := x.toNat) (by omega)).2

def Ext (X o : List Int) : Prop := o.take X.length = X
def BST (n : Int) (xs b b' : List Int) : Prop := b' = b ∨ (∃ o, PM n o ∧ b' = reo xs o) ∧ ltL b' b
theorem bst_le {n : Int} {xs b b' : List Int} (h : BST n xs b b') : b' = b ∨ ltL b' b := h.elim .inl fun h => .inr h.2
theorem bst_trans {n : Int} {xs b b' b2 : List Int} (h : BST n xs b b') (h2 : BST n xs b' b2) : BST n xs b b2 := by
 rcases h2 with rfl | ⟨h3, h4⟩
 ·exact h
 ·rcases h with rfl | ⟨h5, h6⟩
  ·exact .inr ⟨h3, h4⟩
  ·exact .inr ⟨h3, lt_trans' h4 h6⟩
def LST (n : Int) (xs X b b' : List Int) : Prop := BST n xs b b' ∧ ∀ o, PM n o → Ext X o → ¬ ltL (reo xs o) b'
def LSI (n : Int) (xs X : List Int) (i : Nat) (b b' : List Int) : Prop := BST n xs b b' ∧ ∀ o, PM n o → Ext X o → o.getD X.length 0 < (i : Int) → ¬ ltL (reo xs o) b'
def PX (n : Int) (X : List Int) (u : Int) : Prop := X.Nodup ∧ (∀ v ∈ X, 0 ≤ v ∧ v < n) ∧ InM n.toNat u ∧ ∀ k : Nat, tb u k = true ↔ (k : Int) ∈ X
theorem px_nil (n : Int) : PX n [] 0 := ⟨List.nodup_nil, by simp, inM_zero _, fun k => by simp [tb_zero]⟩
theorem px_step {n u : Int} {X : List Int} {i : Nat} (h8 : n ≤ 8) (h : PX n X u) (hi : (i : Int) < n) (hu : ¬ band (shr64 u (i : Int)) 1 = 1) : PX n (X ++ [(i : Int)]) (bor u (shl64 1 (i : Int))) := by
 obtain ⟨h1, h2, h3, h4⟩ := h
 have ho : InM n.toNat (shl64 1 (i : Int)) := inM_one (by omega) (by omega)
 have hn : ¬ (i : Int) ∈ X := fun e => hu ((has_tb (n := n.toNat) (by omega) h3 (by omega)).2 ((h4 i).2 e))
 refine ⟨List.nodup_append.2 ⟨h1, by simp, fun a ha b hb e => ?_⟩, fun v hv => ?_, inM_bor (by omega) h3 ho, fun k => ?_⟩
 ·have : b = (i : Int) := by simpa using hb
  rw [e, this] at ha
  exact hn ha
 ·rcases List.mem_append.1 hv with hv | hv
  ·exact h2 v hv
  ·have : v = (i : Int) := by simpa using hv
   omega
 ·rw [tb_bor (n := n.toNat) (by omega) h3 ho, Bool.or_eq_true, h4, tb_one (by omega), decide_eq_true_iff, List.mem_append, List.mem_singleton]
  constructor
  ·rintro (h | rfl)
   ·exact .inl h
   ·exact .inr rfl
  ·rintro (h | h)
   ·exact .inl h
   ·exact .inr (by omega)
theorem px_pm {n u : Int} {X : List Int} (h : PX n X u) (hl : X.length = n.toNat) : PM n X := ⟨hl, h.1, h.2.1⟩
theorem ls_0 (n : Int) (xs X b : List Int) (hX : ∀ o, PM n o → 0 ≤ o.getD X.length 0) : LSI n xs X 0 b b := ⟨.inl rfl, fun o h1 _ h3 => by have := hX o h1; omega⟩
theorem pm_nn {n : Int} {o : List Int} (h : PM n o) (k : Nat) : 0 ≤ o.getD k 0 := by
 rw [List.getD_eq_getElem?_getD]
 rcases Nat.lt_or_ge k o.length with hk | hk
 ·rw [List.getElem?_eq_getElem hk]; exact (h.2.2 _ (List.getElem_mem hk)).1
 ·rw [List.getElem?_eq_none hk]; exact Int.le_refl 0
theorem ext_succ {n : Int} {X o : List Int} {i : Nat} (h : PM n o) (hX : Ext X o) (hl : X.length < n.toNat) (e : o.getD X.length 0 = (i : Int)) : Ext (X ++ [(i : Int)]) o := by
 have hlt : X.length < o.length := by rw [h.1]; exact hl
 unfold Ext at hX ⊢
 rw [List.length_append, List.length_singleton, List.take_succ_eq_append_getElem hlt, hX]
 rw [List.getD_eq_getElem?_getD, List.getElem?_eq_getElem hlt] at e
 rw [show o[X.length] = (i : Int) from e]
theorem ls_skip {n u : Int} {xs X b b' : List Int} {i : Nat} (h8 : n ≤ 8) (hp : PX n X u) (h : LSI n xs X i b b') (hi : (i : Int) < n) (hl : X.length < n.toNat) (hu : band (shr64 u (i : Int)) 1 = 1) : LSI n xs X (i + 1) b b' := by
 refine ⟨h.1, fun o h1 h2 h3 => ?_⟩
 by_cases e : o.getD X.length 0 = (i : Int)
 ·exfalso
  have hm := (hp.2.2.2 i).1 ((has_tb (n := n.toNat) (by omega) hp.2.2.1 (by omega)).1 hu)
  have h4 := ext_succ h1 h2 hl e
  have hnd : (X ++ [(i : Int)]).Nodup := by
   have := h1.2.1
   rw [← h4]
   exact this.sublist (List.take_sublist _ _)
  rw [List.nodup_append] at hnd
  exact hnd.2.2 _ hm _ (by simp) rfl
 ·exact h.2 o h1 h2 (by omega)
theorem ls_rec {n : Int} {xs X b b1 b2 : List Int} {i : Nat} (h : LSI n xs X i b b1) (hl : X.length < n.toNat) (h2 : LST n xs (X ++ [(i : Int)]) b1 b2) : LSI n xs X (i + 1) b b2 := by
 refine ⟨bst_trans h.1 h2.1, fun o h3 h4 h5 => ?_⟩
 by_cases e : o.getD X.length 0 = (i : Int)
 ·exact h2.2 o h3 (ext_succ h3 h4 hl e)
 ·exact nlt_le (h.2 o h3 h4 (by omega)) (bst_le h2.1)
theorem ls_end {n : Int} {xs X b b' : List Int} {i : Nat} (h : LSI n xs X i b b') (hi : ¬ (i : Int) < n) (hl : X.length < n.toNat) : LST n xs X b b' := by
 refine ⟨h.1, fun o h1 h2 => h.2 o h1 h2 ?_⟩
 have := (pm_get h1 hl).2.2
 omega
theorem ls_one {n : Int} {xs X b b' : List Int} (hX : PM n X) (h : b' = if cmpL (reo xs X) b < 0 then reo xs X else b) : LST n xs X b b' := by
 by_cases e : cmpL (reo xs X) b < 0
 ·rw [if_pos e] at h
  refine ⟨.inr ⟨⟨X, hX, h⟩, by rw [h]; exact e⟩, fun o h1 h2 => ?_⟩
  have : o = X := by rw [← h2, hX.1, ← h1.1, List.take_length]
  rw [this, h]; exact lt_irr _
 ·rw [if_neg e] at h
  refine ⟨.inl h, fun o h1 h2 => ?_⟩
  have : o = X := by rw [← h2, hX.1, ← h1.1, List.take_length]
  rw [this, h]; exact e
theorem toF_ge {o : List Int} {i : Nat} {j : Nat} (hl : o.length ≤ 8) (hi : i ≤ o.length) : 0 ≤ (toF o i).getD j 0 ∧ (toF o i).getD j 0 ≤ 8 := by
 have := toF_rng o j i; omega
theorem reoK_e {a o T' R Q : List Int} {i k : Nat} (h : Q = reoK a o T' R i k) (hR : R = reoF a o T' i) (hk : k = (mem (a.getD (o.getD i 0).toNat 0)).length) : Q = reoF a o T' (i + 1) := by rw [h, hR, reoF, hk]
theorem reo_c (n : Int) (a o : List Int) (hF : okFr n a = true) (ho : PM n o) : CallA Tryz.prog 94 [LI a, LI o] (ownA eI 2 1 (reo a o)) := by
 have hFr := okFr_rel hF
 have hb : 0 ≤ n ∧ n ≤ 8 ∧ (a.length : Int) = n := ⟨hFr.1, hFr.2.1, hFr.2.2.1⟩
 have hol : o.length = n.toNat := ho.1
 have hgo := fun (i : Nat) (h : i < n.toNat) => (pm_get ho h).2
 have hrr := fun (i : Nat) (h : i < n.toNat) => hFr.2.2.2.2 i h
 refine CallA.of Tryz.func94 rfl (by kernel_rfl) (R.go 8 (R.mk eI 0 2 8 o.length o.length (by kernel_rfl) rfl (by decide) (by omega) (by kernel_rfl) (R.go 10 (k21 ((fun | (ii, T') => (⟨(frm 62 [(0, LI a), (1, LI o), (5, .ref 0), (16, LI o), (17, AI o.length), (18, AI (ii : Int))]), [rowA eI 2 1 T']⟩ : St) : Nat × (List Int) → St)) (fun | (ii, T') => (ii ≤ o.length) ∧ (T'.length = o.length) ∧ (T' = toF o ii)) (fun | (ii, T') => o.length - ii) (0, (List.replicate o.length 0)) [0, 1, 5, 16, 17, 18] none ⟨(by omega), (by (simp <;> omega)), (by rfl)⟩ ?_))))
 rintro ⟨ii, T'⟩ ⟨h4_1, h4_2, h4_3⟩ R1 N2
 have hgi := fun h : ii < o.length => hgo ii (by omega)
 refine R.go 5 (k9 ((ii : Int) < (o.length : Int)) (fun c5 => ?_) (fun c5 => ?_))
 ·refine R.go 6 (k15 eI o 0 ii (ii : Int) eI_len ?_)
  have hgj := hgi (by omega)
  refine R.go 8 (k16 0 1 T'.length (((o.getD ii 0)).toNat) (o.getD ii 0) ?_ (hji := by omega))
  refine k18 0 2 T' (((o.getD ii 0)).toNat) (ii : Int) (R.go 3 (k8 ((ii : Int) + 1) ?_))
  exact R.go 2 (k22 R1 (N2 (ii + 1, T'.set (((o.getD ii 0)).toNat) (ii : Int)) [0, 1, 5, 16, 17, 18] none _ (by kernel_rfl) (by kernel_rfl) ⟨(by omega), (by (simp <;> omega)), (by rw [toF, ← ‹T' = toF o ii›])⟩ (by show (o.length - (ii + 1)) < (o.length - ii); omega)))
 refine R.go 5 (R.mk eI 0 2 8 o.length o.length (by kernel_rfl) rfl (by decide) (by omega) (by kernel_rfl) (R.go 10 (k21 ((fun | (i, V) => (⟨(frm 62 [(0, LI a), (5, .ref 0), (8, .ref 1), (31, LI o), (32, AI o.length), (33, AI (i : Int))]), [rowA eI 2 1 T', rowA eI 2 1 V]⟩ : St) : Nat × (List Int) → St)) (fun | (i, V) => (i ≤ o.length) ∧ (V.length = o.length) ∧ (V = reoF a o T' i)) (fun | (i, V) => o.length - i) (0, (List.replicate o.length 0)) [0, 5, 8, 31, 32, 33] none ⟨(by omega), (by (simp <;> omega)), (by rfl)⟩ ?_)))
 rintro ⟨i, V⟩ ⟨h9_1, h9_2, h9_3⟩ R6 N7
 have hgi := fun h : i < o.length => hgo i (by omega)
 refine R.go 5 (k9 ((i : Int) < (o.length : Int)) (fun c10 => ?_) (fun c10 => ?_))
 ·refine R.go 6 (k15 eI o 0 i (i : Int) eI_len ?_)
  have hgj := hgi (by omega)
  have hrow := hrr (o.getD i 0).toNat (by omega)
  have hr61 := inM_mono (n' := 61) (by omega) hrow
  have hml := mem_le (a.getD (o.getD i 0).toNat 0)
  refine R.go 8 (k15 eI a 0 (((o.getD i 0)).toNat) (o.getD i 0) eI_len ?_ (hji := by omega))
  refine R.go 1 (k20 true (membersOf_c (a.getD (((o.getD i 0)).toNat) 0) (by first | assumption | exact inM61 (by omega) (by omega))) (R.go 4 (k21 ((fun | (k, Q) => (⟨(frm 62 [(0, LI a), (5, .ref 0), (8, .ref 1), (9, AI (i : Int)), (31, LI o), (32, AI o.length), (33, AI (i : Int)), (42, .ref 2), (43, AI ((mem (a.getD (((o.getD i 0)).toNat) 0)).length)), (44, AI (k : Int))]), [rowA eI 2 1 T', rowA eI 2 1 Q, rowA eI 2 1 (mem (a.getD (((o.getD i 0)).toNat) 0))]⟩ : St) : Nat × (List Int) → St)) (fun | (k, Q) => (k ≤ (mem (a.getD (o.getD i 0).toNat 0)).length) ∧ (Q.length = o.length) ∧ (Q = reoK a o T' V i k)) (fun | (k, Q) => (mem (a.getD (o.getD i 0).toNat 0)).length - k) (0, V) [0, 5, 8, 9, 31, 32, 33, 42, 43, 44] none ⟨(by omega), (by omega), (by rfl)⟩ ?_)))
  rintro ⟨k, Q⟩ ⟨h14_1, h14_2, h14_3⟩ R11 N12
  refine R.go 5 (k9 ((k : Int) < ((mem (a.getD (((o.getD i 0)).toNat) 0)).length : Int)) (fun c15 => ?_) (fun c15 => ?_))
  ·refine R.go 5 (k16 2 1 (mem (a.getD (((o.getD i 0)).toNat) 0)).length k (k : Int) (k17 (mem (a.getD (((o.getD i 0)).toNat) 0)) k ?_))
   have hm3 := mem_in (N := n.toNat) (by omega) hrow (show k < (mem (a.getD (o.getD i 0).toNat 0)).length by omega)
   have htr := toF_ge (o := o) (i := o.length) (j := ((mem (a.getD (o.getD i 0).toNat 0)).getD k 0).toNat) (by omega) (Nat.le_refl _)
   have hTe : T' = toF o o.length := by rw [‹T' = toF o ii›, show ii = o.length by omega]
   rw [← hTe] at htr
   refine R.go 5 (k16 1 1 Q.length i (i : Int) (k17 Q i (R.go 2 (k16 0 1 T'.length (((mem (a.getD (((o.getD i 0)).toNat) 0)).getD k 0).toNat) ((mem (a.getD (((o.getD i 0)).toNat) 0)).getD k 0) ?_ (hji := by omega)))))
   refine k17 T' (((mem (a.getD (((o.getD i 0)).toNat) 0)).getD k 0).toNat) (R.shl 1 (T'.getD (((mem (a.getD (((o.getD i 0)).toNat) 0)).getD k 0).toNat) 0) (by kernel_rfl) (by omega) (by kernel_rfl) (R.go 1 (k16 1 1 Q.length i (i : Int) (k18 1 2 Q i (bor (Q.getD i 0) (shl64 1 (T'.getD (((mem (a.getD (((o.getD i 0)).toNat) 0)).getD k 0).toNat) 0))) (R.go 3 (k8 ((k : Int) + 1) ?_))))))
   exact R.go 2 (k22 R11 (N12 (k + 1, Q.set i (bor (Q.getD i 0) (shl64 1 (T'.getD (((mem (a.getD (((o.getD i 0)).toNat) 0)).getD k 0).toNat) 0)))) [0, 5, 8, 9, 31, 32, 33, 42, 43, 44] none _ (by kernel_rfl) (by kernel_rfl) ⟨(by omega), (by (simp <;> omega)), (by rw [reoK, ← ‹Q = reoK a o T' V i k›])⟩ (by show ((mem (a.getD (o.getD i 0).toNat 0)).length - (k + 1)) < ((mem (a.getD (o.getD i 0).toNat 0)).length - k); omega)))
  refine R.go 3 (k8 ((i : Int) + 1) ?_)
  exact R.go 2 (k22 R6 (N7 (i + 1, Q) [0, 5, 8, 31, 32, 33] (some [0, 1]) _ (by kernel_rfl) (by kernel_rfl) ⟨(by omega), (by omega), (by exact reoK_e (by assumption) (by assumption) (by omega))⟩ (by show (o.length - (i + 1)) < (o.length - i); omega)))
 exact R.go 6 (k23 (ownA eI 2 1 V) (by first | (rw [‹V = reoF a o T' i›, ‹T' = toF o ii›, show i = o.length by omega, show ii = o.length by omega]; rfl) | (exfalso; omega)))
end Go.Proofs.YtehbliocfpppoaaGreat
