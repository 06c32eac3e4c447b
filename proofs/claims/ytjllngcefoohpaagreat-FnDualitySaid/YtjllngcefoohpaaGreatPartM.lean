/- Texts of the proof: Sym9, Syme, HP1, Symg, HP3, DM0, DM1. -/
import Derived.Laws.Concat
import Derived.Laws.BytesString
import Derived.Test.YtjllngcefoohpaaGreatPartL

/-! Calls by reference that may move a row which the caller's frame names: the frame forgets it. -/
namespace Go.Abs
open Go.RowKit Go.ChangeShapes Go.WideShapes Go.Deep
mutual
theorem AV.kill_kill (q : Nat) : ∀ c : AV, (c.kill q).kill q = c.kill q
 | .int _ _ => rfl
 | .bool _ => rfl
 | .str _ => rfl
 | .nil => rfl
 | .top => rfl
 | .own _ _ _ _ => rfl
 | .lst _ _ _ => rfl
 | .clp _ _ _ => rfl
 | .nam _ _ _ _ _ => rfl
 | .rptr _ => rfl
 | .ref i => by
  simp only [AV.kill]
  split
  ·rfl
  ·rename_i h
   simp only [AV.kill, if_neg h]
 | .ptr i o => by
  simp only [AV.kill]
  split
  ·rfl
  ·rename_i h
   simp only [AV.kill, if_neg h]
 | .agg cs => by simp only [AV.kill, killL_kill q cs]
 | .tup cs => by simp only [AV.kill, killL_kill q cs]
 | .fn f cs => by simp only [AV.kill, killL_kill q cs]
theorem killL_kill (q : Nat) : ∀ cs : List AV, killL q (killL q cs) = killL q cs
 | [] => rfl
 | c :: cs => by simp only [killL, AV.kill_kill q c, killL_kill q cs]
end
section
variable {rd : Option Nat} {P : Program} {m : M} {Q : Exit → St → Prop}
theorem OpsQ.callZ {all : Array Oper} {o : Oper} {l : List Oper} {fr : List AV} {hp : List AObj} {R : Exit → St → Prop} {c : Operand} {args : Array Operand} {tys : Array TypeId} {q : Nat} {f : FuncId} {caps : List AV} {Φ : AV → List AObj → Prop} (hnm : noMark hp = true) (hw : WantedA all o fr)
  (hop : o.op = .call { callee := .value c, args := args, argTypes := tys }) (hc : ev fr c = .fn f caps) (hcall : CallY P q f (args.toList.map (ev fr) ++ caps) hp Φ) (h' : ∀ res hp', Φ res hp' → OpsQ rd P all l ⟨putF (killL q fr) o.dst res, hp'⟩ R) : OpsQ rd P all (o :: l) ⟨fr, hp⟩ R := by
 intro Z0 w0 a w hS
 refine wpListIn_step fun K hK => ?_
 obtain ⟨μ, F, hFb, hH, hF, hd, hb⟩ := hS
 rw [wanted_rel hF hw, if_pos rfl]
 have hE : ∀ y, Rel w (Zone Z0 F w0.heap.size) μ (ev fr y) (a.eval y) := fun y => ev_rel hF y
 have hcv := hc ▸ hE c
 simp only [Rel] at hcv
 obtain ⟨cv, hcv, hrc⟩ := hcv
 have hargs' : RelL w (Zone Z0 F w0.heap.size) μ (args.toList.map (ev fr)) (args.toList.map a.eval) := by
  generalize args.toList = l
  induction l with
  | nil => exact RelL.nil
  | cons x l ih => exact RelL.cons (hE x) ih
 obtain ⟨hen, hcall⟩ := hcall
 have hFk : RelL w (Zone Z0 F w0.heap.size) μ (killL q fr) a.tmps.toList := RelL.keep_kill q (fun _ _ _ => rfl) (fun i u _ h => h) hF
 have hC := hcall Z0 F w0 w μ _ _ (killL q fr) hFb hH (hargs'.append hrc) hFk hb (killL_kill q fr)
 have hrun : (execOp a.eval o).run P w = .ok (.enter f (args.toList.map a.eval ++ cv).toArray) w := by
  have e1 : (args.map a.eval ++ cv.toArray) = (args.toList.map a.eval ++ cv).toArray := by
   apply Array.toList_inj.1; simp
  simp only [execOp, hop, resolve, Deferred.ofValue, hcv, Sem.run_bind, Sem.run_pure, Result.andThen_ok, invoke, Array.empty_append]
  rw [e1]
  exact hen _ _
 refine wpIn_of_run (fun c' => by rw [hop]; simp) ?_
 rw [hrun]
 refine upon_enter hC ?_
 rintro en w' ⟨x, μ', F', res, hp', hΦ, rfl, hFb', hH', hr, hF', hbel⟩
 exact ⟨x, rfl, hK _ _ (h' res hp' hΦ Z0 w0 _ _ ⟨μ', F', hFb', hH', put_rel hF' _ hr, by rw [put_defers']; exact .inl (hd.none hnm), hbel⟩)⟩
theorem R.callZ {q : Nat} {f : FuncId} {avs : List AV} {hp : List AObj} {Φ : AV → List AObj → Prop} (hc : CallY P q f avs hp Φ) (h : csAt m = some (f, avs)) (hh : m.st.hp = hp) (ht : opsHd m = true) (h' : ∀ res hp', Φ res hp' → Runs rd P (putM ⟨m.ks, ⟨killL q m.st.fr, m.st.hp⟩⟩ none res hp') Q) : Runs rd P m Q := by
 have hnm := csAt_mark h
 obtain ⟨fo, args, tys, caps, hop, hf, rfl⟩ := csAt_parts h
 subst hh
 obtain ⟨ks, ⟨fr, hp⟩⟩ := m
 unfold opM headOf at hop
 unfold opsHd at ht
 unfold putM at h'
 simp only [runs_iff] at h' ⊢
 try simp only at hop ht h' hf hc hnm ⊢
 split at hop
 ·rename_i all o fl t heq
  split at hop
  ·rename_i hw
   simp only [Option.some.injEq] at hop
   split at heq
   ·cases heq
    intro hW
    exact OpsQ.callZ hnm (wantH_true hw hW) hop hf hc fun res hp' hΦ => h' res hp' hΦ headW_false
   ·simp at ht
   ·cases heq
  ·cases hop
 ·cases hop
end
end Go.Abs

/-! Calls by reference that may move several rows. -/
namespace Go.Abs
open Go.RowKit Go.ChangeShapes Go.WideShapes Go.Deep
def KillsL : List Nat → List AV → Prop
 | [], _ => True
 | q :: qs, fr => killL q fr = fr ∧ KillsL qs fr
theorem kills_app : ∀ {qs : List Nat} {xs ys : List AV}, KillsL qs xs → KillsL qs ys → KillsL qs (xs ++ ys)
 | [], _, _, _, _ => trivial
 | q :: qs, xs, ys, h1, h2 => ⟨by rw [killL_app, h1.1, h2.1], kills_app h1.2 h2.2⟩
def upQ (k : Nat) (qs : List Nat) : List Nat := qs.map fun q => if q < k then q else q + 1
theorem kills_ren {k n : Nat} (hk : k ≤ n) : ∀ {qs : List Nat} {xs : List AV}, KillsL (upQ k qs) xs → KillsL qs (renL (insI k n) xs)
 | [], _, _ => trivial
 | q :: qs, xs, h => by
  simp only [upQ, List.map_cons, KillsL] at h
  exact ⟨killL_ren (fun i hi e => insI_kill hk i hi e) _ h.1, kills_ren hk h.2⟩
def CallQ (P : Program) (qs : List Nat) (f : FuncId) (args : List AV) (hp : List AObj) (Φ : AV → List AObj → Prop) : Prop :=
 Enters P f ∧ ∀ (Z0 F : Nat → Prop) (w0 w : World) (μ vs us : List Value) (fr : List AV), (∀ b, F b → w0.heap.size ≤ b ∧ b < w.heap.size) → HRel w (Zone Z0 F w0.heap.size) w0.heap.size μ hp → RelL w (Zone Z0 F w0.heap.size) μ args vs → RelL w (Zone Z0 F w0.heap.size) μ fr us → Below w0.heap.size w0 w → KillsL qs fr →
  Calls P f vs.toArray w fun e w' => ∃ v μ' F' res hp', Φ res hp' ∧ e = .returned v ∧ (∀ b, F' b → w0.heap.size ≤ b ∧ b < w'.heap.size) ∧ HRel w' (Zone Z0 F' w0.heap.size) w0.heap.size μ' hp' ∧ Rel w' (Zone Z0 F' w0.heap.size) μ' res v ∧ RelL w' (Zone Z0 F' w0.heap.size) μ' fr us ∧ Below w0.heap.size w0 w'
section
variable {rd : Option Nat} {P : Program} {m : M} {Q : Exit → St → Prop}
end
section
variable {rd : Option Nat} {P : Program} {m : M} {Q : Exit → St → Prop}
theorem CallQ.ofF {qs : List Nat} {f : FuncId} {fn : Func} {c : Code} {args : List AV} {hp : List AObj} {Φ : AV → List AObj → Prop} (hf : P.funcs[f]? = some fn) (hb : fn.body = some c) (hnm : (fn.name == "runtime.NumGoroutine") = false)
  (h : ∀ us fr, Fits hp.length fr → KillsL qs fr → Runs none P ⟨[.code c], ⟨frameOf fn.ntmps args, hp ++ [.frame us fr]⟩⟩ (retX P fn hp.length us fr Φ)) : CallQ P qs f args hp Φ := by
 refine ⟨enters_of hf hnm (by rw [hb]; rfl), ?_⟩
 intro Z0 F w0 w μ vs us fr hFb hH hvs hus hbel hkq
 have hml := hH.len
 have hfit : Fits hp.length fr := ⟨fun js hjs => RelL.fitR (by rw [hml]; exact hjs) hus, fun i hi => RelL.fitK (by rw [hml]; exact hi) hus, fun i r hi => RelL.fitF (by rw [hml]; exact hi) hus⟩
 ·have hlen := hvs.length
  refine calls_of_wpIn hf hb ?_
  have hS : Sim Z0 w0 ⟨frameOf fn.ntmps args, hp ++ [.frame us fr]⟩ { tmps := vs.toArray ++ Array.replicate (fn.ntmps - vs.toArray.size) undef, defers := [] } w := by
   refine ⟨μ ++ [.bool false], F, hFb, hH.extend1 (zone_new hbel.size hFb) (Below.refl _ _) ?_ (fun g hg => by simp [blk] at hg) rfl, ?_, .inl rfl, hbel⟩
   ·exact RelL.keep (w := w) (fun _ _ _ => rfl) (fun i u hu => append_old i u hu) hus
   ·simp only [Array.toList_append, Array.toList_replicate, List.size_toArray, hlen, frameOf]
    refine RelL.append (RelL.keep (w := w) (fun _ _ _ => rfl) (fun i u hu => append_old i u hu) hvs) ?_
    generalize fn.ntmps - args.length = n
    induction n with
    | zero => exact RelL.nil
    | succ n ih => exact RelL.cons (by simp [Rel]) ih
  have hrun2 := h us fr hfit hkq
  simp only [runs_iff] at hrun2
  simp only [RunsK] at hrun2
  refine wpIn_mono (hrun2 Z0 w0 _ w hS) ?_
  have fin : ∀ (e : Exit) (st' : St) (a' : Act) (w' : World), retX P fn hp.length us fr Φ e st' → Sim Z0 w0 st' a' w' → a'.defers = [] ∧ ∃ v, (results fn a'.tmps).run P w' = .ok v w' ∧ ∃ v' μ' F' res hp', Φ res hp' ∧ Ending.returned v = .returned v' ∧ (∀ b, F' b → w0.heap.size ≤ b ∧ b < w'.heap.size) ∧ HRel w' (Zone Z0 F' w0.heap.size) w0.heap.size μ' hp' ∧ Rel w' (Zone Z0 F' w0.heap.size) μ' res v' ∧ RelL w' (Zone Z0 F' w0.heap.size) μ' fr us ∧ Below w0.heap.size w0 w' := by
   rintro e st' a' w' ⟨res, hp', hΦ, _, hres, hfr, hh⟩ ⟨μ', F', hFb', hH', hF', hd', hbel'⟩
   obtain ⟨x, h1, h2⟩ := resIn_run hH' hF' hres
   unfold frameAt at hfr
   split at hfr
   ·rename_i us2 fr2 hi
    cases hfr
    have hil : hp.length < μ'.length := by rw [hH'.len]; exact (List.getElem?_eq_some_iff.1 hi).1
    have hfrr : RelL w' (Zone Z0 F' w0.heap.size) μ' fr us := hH'.obj _ _ _ hi (List.getElem?_eq_getElem hil)
    exact ⟨hd'.none (resIn_mark hres), x, h1, x, μ', F', res, hp', hΦ, rfl, hFb', hh ▸ hH'.bury _, h2, hfrr, hbel'⟩
   ·cases hfr
  rintro e a' w' ⟨st', hq, hS'⟩
  cases e with
  | normal => exact fin _ st' a' w' hq hS'
  | ret => exact fin _ st' a' w' hq hS'
  | exit id => (obtain ⟨_, _, _, hq, _⟩ := hq; exact absurd hq (by simp))
  | goto l => (obtain ⟨_, _, _, hq, _⟩ := hq; exact absurd hq (by simp))
  | panic ch => (obtain ⟨_, _, _, hq, _⟩ := hq; exact absurd hq (by simp))
  | outgrown => (obtain ⟨_, _, _, hq, _⟩ := hq; exact absurd hq (by simp))
end
section
variable {P : Program}
theorem CallQ.dropE {P : Program} {qs : List Nat} {f : FuncId} {args : List AV} {hp : List AObj} {Φ : AV → List AObj → Prop} (hc : CallQ P qs f args hp fun r h => ∃ js : List Nat, js.take hp.length = List.range hp.length ∧ js.Nodup ∧ Φ (r.ren js) (renH js h)) :
  CallQ P qs f args hp Φ := by
 obtain ⟨hen, hc⟩ := hc
 refine ⟨hen, ?_⟩
 intro Z0 F w0 w μ vs us fr hFb hH hvs hus hbel hkq
 refine (hc Z0 F w0 w μ vs us fr hFb hH hvs hus hbel hkq).mono ?_
 rintro e w' ⟨v, μ1, F1, res, hp', ⟨js, h1, h2, hΦ⟩, rfl, hF1, hH1, hres, hfr1, hb1⟩
 have hm1 := hH1.len
 have hjs : ∀ i, i < hp.length → js[i]? = some i := by
  intro i hi
  have := congrArg (fun l : List Nat => l[i]?) h1
  simp only [List.getElem?_take, if_pos hi] at this
  rw [this]
  simp [hi]
 refine ⟨v, _, F1, _, _, hΦ, rfl, hF1, hH1.ren js h2, Rel.ren js hres, ?_, hb1⟩
 refine RelL.mix (n := hp.length) ?_ ?_ hus (hfr1.ren (List.range hp.length))
 ·intro i x hi hx
  rw [List.getElem?_map, hjs i hi]
  rw [List.getElem?_map] at hx
  simpa [hi] using hx
 ·intro i x hi hx
  have h4 := (List.getElem?_eq_some_iff.1 hx).1
  have h5 := hH.len
  omega
theorem CallQ.inF {qs : List Nat} {f : FuncId} {args : List AV} {hp : List AObj} {Φ : AV → List AObj → Prop} (k : Nat) (us2 : List Value) (fr2 : List AV) (hc : CallQ P qs f args hp Φ) (hk : k ≤ hp.length)
  (h1 : renH (insI k hp.length) (insF k us2 fr2 hp) = hp) (h2 : renL (insI k hp.length) (renL (insJ k hp.length) args) = args) (h3 : ∀ r h', Φ r h' → hp.length ≤ h'.length) (hkf : KillsL (upQ k qs) fr2) :
  CallQ P (upQ k qs) f (renL (insJ k hp.length) args) (insF k us2 fr2 hp) fun r h => ∃ res hp', Φ res hp' ∧ r = res.ren (insJ k hp'.length) ∧ h = insF k us2 fr2 hp' := by
 obtain ⟨hen, hc⟩ := hc
 refine ⟨hen, ?_⟩
 intro Z0 F w0 w μ vs us fr hFb hH hvs hus hbel hkq
 have hHl : (insF k us2 fr2 hp).length = hp.length + 1 := by
  unfold insF renH insJ
  simp
  omega
 have hml : μ.length = hp.length + 1 := by rw [hH.len, hHl]
 have hH0 := hH.ren (insI k hp.length) (insI_nodup hk)
 have e0 : ((insI k hp.length).map fun i => ((insF k us2 fr2 hp).getD i .dead).ren (insI k hp.length)) = hp := h1
 rw [e0] at hH0
 have hvs0 := hvs.ren (insI k hp.length)
 rw [h2] at hvs0
 have hn2 : (insF k us2 fr2 hp)[k]? = some (.frame us2 fr2) := by
  unfold insF
  rw [List.getElem?_set_self]
  have : (renH (insJ k hp.length) (hp ++ [.dead])).length = hp.length + 1 := by unfold renH insJ; simp; omega
  omega
 obtain ⟨u, hu⟩ : ∃ u, μ[k]? = some u := ⟨_, List.getElem?_eq_getElem (by omega)⟩
 have hf2 : RelL w (Zone Z0 F w0.heap.size) μ fr2 us2 := hH.obj _ _ u hn2 hu
 have hus0 := (hus.append hf2).ren (insI k hp.length)
 refine (hc Z0 F w0 w _ vs (us ++ us2) _ hFb hH0 hvs0 hus0 hbel (kills_ren hk (kills_app hkq hkf))).mono ?_
 rintro e w' ⟨v, μ1, F1, res, hp', hΦ, rfl, hF1, hH1, hres, hfr1, hb1⟩
 have h3 := h3 _ _ hΦ
 have hm1 := hH1.len
 have hHd := hH1.addDead u (hH.one _ u hu)
 have hH2 := hHd.ren (insJ k hp'.length) (insJ_nodup (by omega))
 obtain ⟨μ2, hμ2⟩ : ∃ μ2, μ2 = ((insJ k hp'.length).map fun i => (μ1 ++ [u]).getD i (.bool false)) := ⟨_, rfl⟩
 have hA : ∀ (i : Nat) x, (insI k hp.length).contains i = true → μ1[(insI k hp.length).idxOf i]? = some x → μ2[i]? = some x := by
  intro i x hi hx
  obtain ⟨g1, g2⟩ := insI_idx hk hi
  generalize (insI k hp.length).idxOf i = j at g1 g2 hx
  have hj : (insJ k hp'.length)[i]? = some j := by
   split at g2
   ·rw [g2]; exact insJ_lo (by assumption)
   ·rw [g2]; exact insJ_hi (by omega) (by omega)
  rw [hμ2, List.getElem?_map, hj]
  simp only [Option.map_some, List.getD_eq_getElem?_getD]
  rw [List.getElem?_append_left (List.getElem?_eq_some_iff.1 hx).1, hx]
  rfl
 have hB : ∀ (i : Nat) x, (insI k hp.length).contains i = false → μ[i]? = some x → μ2[i]? = some x := by
  intro i x hi hx
  have hlt := (List.getElem?_eq_some_iff.1 hx).1
  have hin : i = k := by
   refine Classical.byContradiction fun hne => ?_
   have := insI_mem hk (i := i) (by omega) hne
   rw [this] at hi
   cases hi
  subst hin
  rw [hu] at hx
  rw [hμ2, List.getElem?_map, insJ_at]
  simp only [Option.map_some, List.getD_eq_getElem?_getD]
  rw [List.getElem?_append_right (by omega), hm1]
  simpa using hx
 rw [← hμ2] at hH2
 have hall := RelL.mixJ hA hB (hus.append hf2) hfr1
 have hul := hus.length
 have hfr : RelL w' (Zone Z0 F1 w0.heap.size) μ2 fr us := by
  have := hall.take fr.length
  rwa [List.take_left, ← hul, List.take_left] at this
 have hfr2 : RelL w' (Zone Z0 F1 w0.heap.size) μ2 fr2 us2 := by
  have := hall.drop fr.length
  rwa [List.drop_left, ← hul, List.drop_left] at this
 refine ⟨v, μ2, F1, _, _, ⟨res, hp', hΦ, rfl, rfl⟩, rfl, hF1, ?_, ?_, hfr, hb1⟩
 ·refine hH2.frameAt ?_ hfr2
  rw [List.getElem?_map, insJ_at]
  simp [AObj.ren]
 ·rw [hμ2]
  exact Rel.ren _ (Rel.keep (w := w') (fun _ _ _ => rfl) (fun i u hu => append_old i u hu) hres)
end
end Go.Abs

/-! Algebras drawn: renumbered, chains; oprema and filters (no program). -/
namespace Go.Proofs.YtjllngcefoohpaaGreat
open Go.RowKit Go.Abs
theorem prt_ord {xs L : List Int} (h : HyOK xs) (hL : PMX (xs.length : Int) L) : Ord (prt xs L) ∧ Iso xs (prt xs L) (fun v => Classical.epsilon fun k : Nat => k < L.length ∧ L.getD k 0 = (v : Int)) := by
 have h30 := h.n30
 have hll : L.length = xs.length := by have := hL.1; omega
 have hb := fun {i : Nat} (hi : i < L.length) => prt_bits (n := (xs.length : Int)) (xs := xs) (L := L) (by omega) (by simpa using h.rel) hL hi
 have hrg := fun (i : Nat) (hi : i < L.length) => hL.2.1 i hi
 have hlt := fun (i : Nat) (hi : i < L.length) => (show (L.getD i 0).toNat < xs.length by have := hrg i hi; omega)
 have hinj : ∀ i j, i < L.length → j < L.length → (L.getD i 0).toNat = (L.getD j 0).toNat → i = j := fun i j hi hj e => hL.2.2 i j hi hj (by have := hrg i hi; have := hrg j hj; omega)
 have hpl := prt_len xs L
 have hex : ∀ v : Nat, v < xs.length → ∃ k : Nat, k < L.length ∧ L.getD k 0 = (v : Int) := fun v hv => pmx_onto hL (by omega)
 have hf := fun (v : Nat) (hv : v < xs.length) => Classical.epsilon_spec (hex v hv)
 have hle : ∀ i j, i < L.length → j < L.length → (leX (prt xs L) i j ↔ leX xs (L.getD i 0).toNat (L.getD j 0).toNat) := fun i j hi hj => by
  rw [leX, (hb hi).2 j]
  exact ⟨fun q => q.2, fun q => ⟨hj, q⟩⟩
 have hle2 : ∀ i j, i < L.length → tb ((prt xs L).getD i 0) j = true → j < L.length := fun i j hi q => (((hb hi).2 j).1 q).1
 constructor
 ·refine ⟨by omega, ⟨rfl, fun j hj => ?_⟩, ?_⟩
  ·have := (hb (i := j) (by omega)).1
   rwa [← hpl] at this
  ·rw [paB, hpl, Bool.and_eq_true, Bool.and_eq_true]
   refine ⟨rB_iff.2 fun i hi => (hle i i hi hi).2 (hx_refl h (hlt i hi)), tB_iff.2 fun i hi j hj k hk a b => ?_, aB_iff.2 fun i hi j hj a b => ?_⟩
   ·exact (hle i k hi hk).2 (hx_trans h (hlt i hi) ((hle i j hi hj).1 a) ((hle j k hj hk).1 b))
   ·exact hinj i j hi hj (hx_anti h (hlt i hi) ((hle i j hi hj).1 a) ((hle j i hj hi).1 b))
 ·refine ⟨by omega, fun x hx => ?_, fun x y hx hy e => ?_, fun y hy => ?_, fun x y hx hy => ?_⟩
  ·have := (hf x hx).1; omega
  ·have h1 := (hf x hx).2
   have h2 := (hf y hy).2
   rw [e] at h1
   rw [h1] at h2; omega
  ·have hy' : y < L.length := by omega
   have hv := hlt y hy'
   refine ⟨_, hv, ?_⟩
   have h1 := hf _ hv
   refine hL.2.2 _ _ h1.1 hy' ?_
   rw [h1.2]
   have := hrg y hy'; omega
  ·have h1 := hf x hx
   have h2 := hf y hy
   rw [hle _ _ h1.1 h2.1, h1.2, h2.2]; simp
theorem prt_hy {xs L : List Int} (h : HyOK xs) (hL : PMX (xs.length : Int) L) : HyOK (prt xs L) := iso_hy (prt_ord h hL).2 h (prt_ord h hL).1
def chnR (n : Int) (i : Nat) : List Int := (List.range i).map fun x : Nat => bnot ((shl64 1 n) - 1) ((shl64 1 (x : Int)) - 1)
theorem chnR_s (n : Int) (i : Nat) : chnR n i ++ [bnot ((shl64 1 n) - 1) ((shl64 1 (i : Int)) - 1)] = chnR n (i + 1) := by rw [chnR, chnR, List.range_succ, List.map_append]; rfl
theorem chnR_len (n : Int) (i : Nat) : (chnR n i).length = i := by simp [chnR]
def chnB : Nat → Bool
 | 0 => true
 | n + 1 => chnB n && (hyB (chnR ((n + 1 : Nat) : Int) (n + 1)) && decide (∀ j : Nat, j < n + 1 → 0 ≤ (chnR ((n + 1 : Nat) : Int) (n + 1)).getD j 0 ∧ ((chnR ((n + 1 : Nat) : Int) (n + 1)).getD j 0).toNat < 2 ^ (n + 1)))
theorem chnB_16 : chnB 16 = true := by decide +kernel
theorem chnB_at : ∀ {m n : Nat}, chnB m = true → 1 ≤ n → n ≤ m → hyB (chnR (n : Int) n) = true ∧ ∀ j : Nat, j < n → InM n ((chnR (n : Int) n).getD j 0)
 | 0, n, _, h1, h2 => absurd h1 (by omega)
 | m + 1, n, h, h1, h2 => by
  rw [chnB, Bool.and_eq_true, Bool.and_eq_true, decide_eq_true_iff] at h
  by_cases e : n = m + 1
  ·subst e
   exact ⟨h.2.1, fun j hj => h.2.2 j hj⟩
  ·exact chnB_at h.1 h1 (by omega)
theorem chn_hy {n : Int} (h1 : 1 ≤ n) (h2 : n ≤ 16) {i : Nat} (hi : (i : Int) = n) : HyOK (chnR n i) := by
 subst hi
 have h := chnB_at chnB_16 (n := i) (by omega) (by omega)
 refine hyB_ok (by rw [chnR_len]; omega) ⟨rfl, fun j hj => ?_⟩ h.1
 rw [chnR_len] at hj ⊢
 exact h.2 j hj
def SZ (A : List (List Int)) : Prop := A.length ≤ 30 ∧ ∀ i : Nat, i < A.length → (A.getD i []).length ≤ 30
theorem mkHy {xs : List Int} (h : HyOK xs) : IsHy (ordT (tabR (hyM xs) xs.length xs.length)) (tabR (hyM xs) xs.length xs.length) (tabR (hyJ xs) xs.length xs.length) (tabR (hyI xs) xs.length xs.length) (lowF xs (fullM xs.length)) (lowF (invA xs xs.length) (fullM xs.length)) := by
 rw [ordT_tab h]; exact ⟨h, rfl, rfl, rfl, rfl, rfl⟩
theorem tabR_row {f : Nat → Nat → Int} {N i : Nat} (h : i < N) : ((tabR f N N).getD i []).length = N := by
 have h1 := (tabL_at (f := f) (N := N) (x := N) (i := i) (j := 0) h (by omega)).2
 omega
theorem isHy_sz {xs : List Int} {A O J : List (List Int)} {b t : Int} (h : IsHy xs A O J b t) : (1 ≤ xs.length ∧ xs.length ≤ 30 ∧ A.length = xs.length ∧ O.length = xs.length ∧ J.length = xs.length) ∧ (∀ i : Nat, i < A.length → (A.getD i []).length = xs.length) ∧ (∀ i : Nat, i < O.length → (O.getD i []).length = xs.length) ∧ (∀ i : Nat, i < J.length → (J.getD i []).length = xs.length) := by
 have h0 := h.ok.n0
 have h30 := h.ok.n30
 refine ⟨⟨h0, h30, by rw [h.eA, tabR_len], by rw [h.eO, tabR_len], by rw [h.eJ, tabR_len]⟩, fun i hi => ?_, fun i hi => ?_, fun i hi => ?_⟩
 ·rw [h.eA] at hi ⊢; exact tabR_row (by rwa [tabR_len] at hi)
 ·rw [h.eO] at hi ⊢; exact tabR_row (by rwa [tabR_len] at hi)
 ·rw [h.eJ] at hi ⊢; exact tabR_row (by rwa [tabR_len] at hi)
theorem sz_of {n : Nat} {A : List (List Int)} (hn : n ≤ 30) (h1 : A.length = n) (h2 : ∀ i : Nat, i < A.length → (A.getD i []).length = n) : SZ A := ⟨by omega, fun i hi => by rw [h2 i hi]; exact hn⟩
theorem sz_drop {A : List (List Int)} (h : SZ A) : SZ (A.drop 1) := by
 refine ⟨by rw [List.length_drop]; have := h.1; omega, fun i hi => ?_⟩
 rw [List.length_drop] at hi
 rw [List.getD_eq_getElem?_getD, List.getElem?_drop, ← List.getD_eq_getElem?_getD]
 exact h.2 (1 + i) (by omega)
theorem sz_set {Q : List (List Int)} {L : List (Value × List Int)} {x : Nat} {v : Value} {ys : List Int} (hL : L.map Prod.snd = Q) (h : SZ Q) (hy : ys.length ≤ 30) : SZ ((L.set x (v, ys)).map Prod.snd) := by
 subst hL
 have hl : ((L.set x (v, ys)).map Prod.snd) = (L.map Prod.snd).set x ys := by rw [List.map_set]
 rw [hl]
 refine ⟨by rw [List.length_set]; exact h.1, fun i hi => ?_⟩
 rw [List.length_set] at hi
 rw [List.getD_eq_getElem?_getD, List.getElem?_set]
 split
 ·rename_i e; subst e
  rw [List.length_map] at hi
  simp [hi]; exact hy
 ·rw [← List.getD_eq_getElem?_getD]; exact h.2 i hi
theorem map_at {Q : List (List Int)} {L : List (Value × List Int)} (hL : L.map Prod.snd = Q) {x : Nat} (hx : x < Q.length) : (L.getD x (.bool false, [])).2 = Q.getD x [] := by
 subst hL
 rw [List.length_map] at hx
 simp [List.getD_eq_getElem?_getD, List.getElem?_eq_getElem hx]
theorem own2_s {Q : List (List Int)} {i : Nat} (h : i < Q.length) : Q.take (i + 1) = Q.take i ++ [Q.getD i []] := by
 rw [List.take_add_one, List.getD_eq_getElem?_getD, List.getElem?_eq_getElem h]; rfl
section
variable {xs : List Int} (h : HyOK xs)
include h
end
end Go.Proofs.YtjllngcefoohpaaGreat

/-! The machine's rules: texts joined, compared, made of bytes. -/
namespace Go.Abs
open Go.RowKit
inductive StrOp
 | cat | eql | neq
def strAt (m : M) : Option (StrOp × ByteArray × ByteArray) :=
 match opM m with
 | some (.binOp .add _ x y _) => match ev m.st.fr x, ev m.st.fr y with
  | .str a, .str b => some (.cat, a, b)
  | _, _ => none
 | some (.binOp .eql _ x y _) => match ev m.st.fr x, ev m.st.fr y with
  | .str a, .str b => some (.eql, a, b)
  | _, _ => none
 | some (.binOp .neq _ x y _) => match ev m.st.fr x, ev m.st.fr y with
  | .str a, .str b => some (.neq, a, b)
  | _, _ => none
 | _ => none
def strV : StrOp → ByteArray → ByteArray → AV
 | .cat, a, b => .str (a ++ b)
 | .eql, a, b => .bool (a.toList == b.toList)
 | .neq, a, b => .bool !(a.toList == b.toList)
section
variable {rd : Option Nat} {P : Program} {m : M} {Q : Exit → St → Prop}
theorem R.str (k : StrOp) (a b : ByteArray) (v : AV) (h : strAt m = some (k, a, b)) (ht : quiet0 m = true) (hs : a.size + b.size ≤ 9223372036854775807) (hv : strV k a b = v) (h' : Runs rd P (putM m none v m.st.hp) Q) : Runs rd P m Q := by
 subst hv
 unfold strAt at h
 split at h
 ·rename_i t x y ty hop
  split at h
  ·rename_i a1 b1 hx hy
   simp only [Option.some.injEq, Prod.mk.injEq] at h
   obtain ⟨rfl, rfl, rfl⟩ := h
   exact R.eff0 hop (.inl (.catS _ _ hx hy hs)) ht h'
  ·cases h
 ·rename_i t x y ty hop
  split at h
  ·rename_i a1 b1 hx hy
   simp only [Option.some.injEq, Prod.mk.injEq] at h
   obtain ⟨rfl, rfl, rfl⟩ := h
   exact R.eff0 hop (.inl (.eqlS _ _ hx hy)) ht h'
  ·cases h
 ·rename_i t x y ty hop
  split at h
  ·rename_i a1 b1 hx hy
   simp only [Option.some.injEq, Prod.mk.injEq] at h
   obtain ⟨rfl, rfl, rfl⟩ := h
   exact R.eff0 hop (.inl (.neqS _ _ hx hy)) ht h'
  ·cases h
 ·cases h
end
end Go.Abs

/-! Oprema, filters and duals of both programs' algebras. -/
namespace Go.Proofs.YtjllngcefoohpaaGreat
open Go.RowKit Go.Abs
def irI (xs : List Int) : List Int := (irN xs).map fun a : Nat => (a : Int)
theorem irI_len (xs : List Int) : (irI xs).length = (irN xs).length := by simp [irI]
theorem irI_get {xs : List Int} {i : Nat} (h : i < (irN xs).length) : (irI xs).getD i 0 = ((irN xs).getD i 0 : Int) := by
 simp [irI, List.getD_eq_getElem?_getD, List.getElem?_eq_getElem h]
theorem memN_fil (m : Int) : ∀ i, memN m i = ((List.range i).filter fun j => tb m j).map fun j : Nat => (j : Int)
 | 0 => rfl
 | i + 1 => by
  rw [memN, memN_fil m i, List.range_succ, List.filter_append, List.map_append]
  by_cases h : tb m i = true
  ·rw [if_pos h]; simp [h]
  ·rw [if_neg h]; simp [h]
theorem fil_ext {p q : Nat → Bool} {N d : Nat} (h1 : ∀ j, p j = true → j < N) (h2 : ∀ j, j < N → p j = q j) : (List.range (N + d)).filter p = (List.range N).filter q := by
 rw [List.range_add, List.filter_append, show ((List.range d).map (N + ·)).filter p = [] from ?_, List.append_nil]
 ·exact List.filter_congr fun j hj => h2 j (List.mem_range.1 hj)
 ·rw [List.filter_eq_nil_iff]
  intro j hj hp
  obtain ⟨k, _, rfl⟩ := List.mem_map.1 hj
  have := h1 _ hp
  omega
theorem mem_ir {xs : List Int} {m : Int} (h30 : xs.length ≤ 30) (h : ∀ j, tb m j = true ↔ j < xs.length ∧ irB xs j = true) : mem m = irI xs := by
 rw [mem, memN_fil, irI, irN, show (62 : Nat) = xs.length + (62 - xs.length) by omega, fil_ext (q := irB xs) (fun j hj => ((h j).1 hj).1) fun j hj => ?_]
 rw [Bool.eq_iff_iff, h j]
 exact ⟨fun q => q.2, fun q => ⟨hj, q⟩⟩
def jnP (xs : List Int) (y z k : Nat) : Prop := ∃ a b, ((a < y ∧ b < xs.length) ∨ (a = y ∧ b < z)) ∧ jX xs a b = k ∧ k ≠ a ∧ k ≠ b
theorem jn_0 {xs : List Int} {k : Nat} : tb 0 k = true ↔ jnP xs 0 0 k := by
 rw [tb_zero]
 constructor
 ·intro h; cases h
 ·rintro ⟨a, b, h | h, _⟩ <;> omega
theorem jn_row {xs : List Int} {y z k : Nat} (h : z = xs.length) : jnP xs y z k ↔ jnP xs (y + 1) 0 k := by
 subst h
 constructor
 ·rintro ⟨a, b, h, r⟩
  exact ⟨a, b, .inl (by omega), r⟩
 ·rintro ⟨a, b, h, r⟩
  exact ⟨a, b, by omega, r⟩
theorem jn_y {xs : List Int} {y z : Nat} {jm x : Int} (hx : x = (jX xs y z : Int)) (hl : jX xs y z < xs.length) (h30 : xs.length ≤ 30) (hm : InM xs.length jm) (h1 : ¬ x = (y : Int)) (h2 : ¬ x = (z : Int)) (h : ∀ k, tb jm k = true ↔ jnP xs y z k) : InM xs.length (bor jm (shl64 1 x)) ∧ ∀ k, tb (bor jm (shl64 1 x)) k = true ↔ jnP xs y (z + 1) k := by
 subst hx
 have h3 := inM_one (n := xs.length) (i := jX xs y z) (by omega) hl
 refine ⟨inM_bor (by omega) hm h3, fun k => ?_⟩
 rw [tb_bor (by omega) hm h3, Bool.or_eq_true, h k, tb_one (by omega), decide_eq_true_iff]
 constructor
 ·rintro (⟨a, b, q, r⟩ | rfl)
  ·exact ⟨a, b, by omega, r⟩
  ·exact ⟨y, z, .inr ⟨rfl, by omega⟩, rfl, by omega, by omega⟩
 ·rintro ⟨a, b, q, r1, r2, r3⟩
  by_cases e : a = y ∧ b = z
  ·obtain ⟨rfl, rfl⟩ := e
   exact .inr r1
  ·exact .inl ⟨a, b, by omega, r1, r2, r3⟩
theorem jn_n {xs : List Int} {y z : Nat} {jm x : Int} (hx : x = (jX xs y z : Int)) (h1 : x = (y : Int) ∨ x = (z : Int)) (h : ∀ k, tb jm k = true ↔ jnP xs y z k) : ∀ k, tb jm k = true ↔ jnP xs y (z + 1) k := fun k => by
 rw [h k]
 constructor
 ·rintro ⟨a, b, q, r⟩
  exact ⟨a, b, by omega, r⟩
 ·rintro ⟨a, b, q, r1, r2, r3⟩
  by_cases e : a = y ∧ b = z
  ·obtain ⟨rfl, rfl⟩ := e
   omega
  ·exact ⟨a, b, by omega, r1, r2, r3⟩
theorem jn_end {xs : List Int} (hH : HyOK xs) {y : Nat} {jm bo : Int} (hy : y = xs.length) (hbo : bo = (bX xs : Int)) (hm : InM xs.length jm) (h : ∀ k, tb jm k = true ↔ jnP xs y 0 k) : mem (bnot (bnot ((shl64 1 (xs.length : Int)) - 1) jm) (shl64 1 bo)) = irI xs ∧ InM 61 (bnot (bnot ((shl64 1 (xs.length : Int)) - 1) jm) (shl64 1 bo)) := by
 subst hy hbo
 have h30 := hH.n30
 have hb := (hx_b hH).2.1
 have h1 := inM_full (n := xs.length) (by omega)
 have h2 := inM_bnot (by omega) h1 hm
 have h3 := inM_one (n := xs.length) (i := bX xs) (by omega) hb
 refine ⟨mem_ir h30 fun j => ?_, inM_mono (by omega) (inM_bnot (by omega) h2 h3)⟩
 rw [tb_bnot (by omega) h2 h3, tb_bnot (by omega) h1 hm, tb_full (by omega), tb_one (by omega), Bool.and_eq_true, Bool.and_eq_true, decide_eq_true_iff, Bool.not_eq_true', Bool.not_eq_true', decide_eq_false_iff_not, irB_iff]
 constructor
 ·rintro ⟨⟨q1, q2⟩, q3⟩
  refine ⟨q1, Ne.symm q3, fun y hy z hz e => Classical.byContradiction fun hn => ?_⟩
  rw [not_or] at hn
  have := (h j).2 ⟨y, z, .inl ⟨hy, hz⟩, e, Ne.symm hn.1, Ne.symm hn.2⟩
  rw [q2] at this; cases this
 ·rintro ⟨q1, q2, q3⟩
  refine ⟨⟨q1, ?_⟩, Ne.symm q2⟩
  cases e : tb jm j with
  | false => rfl
  | true =>
   obtain ⟨a, b, r0, r1, r2, r3⟩ := (h j).1 e
   rcases r0 with r0 | r0
   ·rcases q3 a r0.1 b r0.2 r1 with q | q
    ·exact absurd q.symm r2
    ·exact absurd q.symm r3
   ·omega
section
variable {xs : List Int} {A O J : List (List Int)} {bo t : Int} (h : IsHy xs A O J bo t)
include h
theorem isHy_O {y z : Nat} (hy : y < xs.length) (hz : z < xs.length) : (O.getD y []).getD z 0 = (jX xs y z : Int) ∧ jX xs y z < xs.length := by
 have h1 := hx_J h.ok hy hz
 rw [h.eO, tabR_get hy, rowR_get hz]
 exact ⟨h1.1, h1.2.1⟩
theorem isHy_le {x y : Nat} (hx : x < xs.length) (hy : y < xs.length) : (A.getD x []).getD y 0 = (x : Int) ↔ leX xs x y := by
 rw [h.eA, tabR_get hx, rowR_get hy]
 exact hx_Mx h.ok hx hy
theorem isHy_b : bo = (bX xs : Int) ∧ 0 ≤ bo ∧ bo < (xs.length : Int) := by
 have h1 := hx_b h.ok
 have h2 : bo = (bX xs : Int) := h.eb.trans h1.1
 exact ⟨h2, by omega, by have := h1.2.1; omega⟩
theorem isHy_t : t = (tX xs : Int) ∧ 0 ≤ t ∧ t < (xs.length : Int) := by
 have h1 := hx_t h.ok
 have h2 : t = (tX xs : Int) := h.et.trans h1.1
 exact ⟨h2, by omega, by have := h1.2.1; omega⟩
end
theorem st_y {xs : List Int} {A O J : List (List Int)} {bo t x : Int} {i : Nat} (h : IsHy xs A O J bo t) (hi : i < (irI xs).length) (hx : 0 ≤ x ∧ x < (xs.length : Int)) (e : (A.getD ((irI xs).getD i 0).toNat []).getD (x).toNat 0 = (irI xs).getD i 0) : leB xs ((irN xs).getD i 0) (x).toNat = true := by
 rw [irI_len] at hi
 rw [irI_get hi, Int.toNat_natCast] at e
 exact (isHy_le h (irN_get hi).1 (by omega)).1 e
theorem st_n {xs : List Int} {A O J : List (List Int)} {bo t x : Int} {i : Nat} (h : IsHy xs A O J bo t) (hi : i < (irI xs).length) (hx : 0 ≤ x ∧ x < (xs.length : Int)) (e : ¬ (A.getD ((irI xs).getD i 0).toNat []).getD (x).toNat 0 = (irI xs).getD i 0) : leB xs ((irN xs).getD i 0) (x).toNat = false := by
 rw [irI_len] at hi
 rw [irI_get hi, Int.toNat_natCast] at e
 exact Bool.eq_false_iff.2 fun q => e ((isHy_le h (irN_get hi).1 (by omega)).2 q)
def dlR (xs : List Int) : Nat → Int := fun i => setX xs ((irN xs).getD i 0)
theorem dl_end {xs : List Int} {i : Nat} (h : i = (irN xs).length) : rowR (dlR xs) i = dualL xs := by rw [h]; rfl
def stB (xs : List Int) (x : Nat) : Nat → Bool := fun j => leB xs ((irN xs).getD j 0) x
theorem st_end {xs : List Int} {x i : Nat} (h : i = (irN xs).length) : mkB (stB xs x) i = setX xs x := by rw [h]; rfl
def duK (A O J : List (List Int)) (bo t : Int) : Int := if hyIs A O J bo t = true then (if (irN (ordT A)).length ≤ 8 then 0 else 3) else 1
def duN (A O J : List (List Int)) (bo t : Int) : Int := if duK A O J bo t = 0 then ((irN (ordT A)).length : Int) else 0
def duL (A O J : List (List Int)) (bo t : Int) : List Int := if duK A O J bo t = 0 then dualL (ordT A) else []
theorem du_1 {A O J : List (List Int)} {bo t : Int} (h : hyIs A O J bo t = false) : duK A O J bo t = 1 ∧ duN A O J bo t = 0 ∧ duL A O J bo t = [] := by simp [duK, duN, duL, h]
theorem du_3 {A O J : List (List Int)} {bo t : Int} (h : hyIs A O J bo t = true) (h8 : ¬ (irN (ordT A)).length ≤ 8) : duK A O J bo t = 3 ∧ duN A O J bo t = 0 ∧ duL A O J bo t = [] := by simp [duK, duN, duL, h, h8]
theorem du_0 {A O J : List (List Int)} {bo t : Int} (h : hyIs A O J bo t = true) (h8 : (irN (ordT A)).length ≤ 8) : duK A O J bo t = 0 ∧ duN A O J bo t = ((irN (ordT A)).length : Int) ∧ duL A O J bo t = dualL (ordT A) := by simp [duK, duN, duL, h, h8]
theorem irred_c (A O J : List (List Int)) (bo t : Int) (hIH : IsHy (ordT A) A O J bo t) : CallA Tryz.prog 61 [.agg [LLI A, LLI O, LLI J, AI bo, AI t]] (LI (irI (ordT A))) := by
 have hsz := isHy_sz hIH
 obtain ⟨hs0, hsA, hsO, hsJ⟩ := hsz
 have hT : tabB A.length A = true := (hyIs_parts.1 hIH.is.1).2.1
 have hol := ordT_len A
 have hRl : RelOK (ordT A).length (ordT A) := ordT_rel (by omega)
 have hb3 := isHy_b hIH
 have ht3 := isHy_t hIH
 have hil := irN_len (ordT A)
 have hiI := irI_len (ordT A)
 have hbn := hb3.2
 have htn := ht3.2
 have hsh : 1 ≤ shl64 1 (A.length : Int) ∧ shl64 1 (A.length : Int) ≤ 4611686018427387904 := shl_rng _ (by omega) (by omega)
 have hrlA : okRl ((ordT A).length : Int) (ordT A) := okRl_of (by omega) hRl
 refine CallA.of Tryz.func61 rfl (by kernel_rfl) (R.go 18 (k17 ((fun | (y, jm) => (⟨(frm 48 [(1, .ptr 0 0), (3, AI jm), (9, LLI O), (10, AI O.length), (11, AI (y : Int))]), [.box 26 [LLI A, LLI O, LLI J, AI bo, AI t]]⟩ : St) : Nat × Int → St)) (fun | (y, jm) => (y ≤ O.length) ∧ (InM (ordT A).length jm) ∧ (∀ k, tb jm k = true ↔ jnP (ordT A) y 0 k)) (fun | (y, jm) => O.length - y) (0, 0) [1, 3, 9, 10, 11] none ⟨(by omega), (by exact inM_zero _), (by exact fun k => jn_0)⟩ ?_))
 rintro ⟨y, jm⟩ ⟨h4_1, h4_2, h4_3⟩ R1 N2
 have hry := fun h : y < O.length => hsO y h
 refine R.go 5 (k3 ((y : Int) < (O.length : Int)) (fun c5 => ?_) (fun c5 => ?_))
 ·refine R.go 6 (k9 eLI O [] y (y : Int) eLI_len (R.go 11 (k17 ((fun | (z, jn) => (⟨(frm 48 [(1, .ptr 0 0), (3, AI jn), (4, AI (y : Int)), (9, LLI O), (10, AI O.length), (11, AI (y : Int)), (16, LI (O.getD y [])), (17, AI ((O.getD y []).length)), (18, AI (z : Int))]), [.box 26 [LLI A, LLI O, LLI J, AI bo, AI t]]⟩ : St) : Nat × Int → St)) (fun | (z, jn) => (z ≤ (ordT A).length) ∧ (InM (ordT A).length jn) ∧ (∀ k, tb jn k = true ↔ jnP (ordT A) y z k)) (fun | (z, jn) => (ordT A).length - z) (0, jm) [1, 3, 4, 9, 10, 11, 16, 17, 18] none ⟨(by omega), (by assumption), (by assumption)⟩ ?_)))
  rintro ⟨z, jn⟩ ⟨h9_1, h9_2, h9_3⟩ R6 N7
  refine R.go 5 (k3 ((z : Int) < ((O.getD y []).length : Int)) (fun c10 => ?_) (fun c10 => ?_))
  ·have hjo := isHy_O hIH (y := y) (z := z) (by omega) (by omega)
   have hjx := hjo.1
   have hjl := hjo.2
   refine R.go 6 (k9 eI (O.getD y []) 0 z (z : Int) eI_len ?_ (hj := by first | omega | (simp only [List.length_set]; omega) | (simp <;> omega)))
   refine R.go 10 ?_
   by_cases c11 : ((O.getD y []).getD z 0) = (y : Int)
   ·refine k7 true (nF c11) ?_
    iterate 2 refine k7 true (nF c11) ?_
    refine k8 false (nF c11) (R.go 5 (k1 ((z : Int) + 1) ?_))
    exact R.go 2 (k18 R6 (N7 (z + 1, jn) [1, 3, 4, 9, 10, 11, 16, 17, 18] none _ (by kernel_rfl) (by kernel_rfl) ⟨(by omega), (by first | exact (jn_y hjx hjl (by omega) (by assumption) (by assumption) (by assumption) (by assumption)).1 | assumption), (by first | exact (jn_y hjx hjl (by omega) (by assumption) (by assumption) (by assumption) (by assumption)).2 | exact jn_n hjx (by omega) (by assumption))⟩ (by show ((ordT A).length - (z + 1)) < ((ordT A).length - z); omega)))
   refine k6 true (nT c11) ?_
   iterate 2 refine R.go 1 (k6 true (nT c11) ?_)
   refine R.go 1 (k8 true (nT c11) (R.go 1 (k4 (((O.getD y []).getD z 0) = (z : Int)) (fun c12 => ?_) (fun c12 => ?_))))
   ·refine R.go 3 (R.shl 1 ((O.getD y []).getD z 0) (by kernel_rfl) (by omega) (by kernel_rfl) (R.go 5 (k1 ((z : Int) + 1) ?_)))
    exact R.go 2 (k18 R6 (N7 (z + 1, bor jn (shl64 1 ((O.getD y []).getD z 0))) [1, 3, 4, 9, 10, 11, 16, 17, 18] none _ (by kernel_rfl) (by kernel_rfl) ⟨(by omega), (by first | exact (jn_y hjx hjl (by omega) (by assumption) (by assumption) (by assumption) (by assumption)).1 | assumption), (by first | exact (jn_y hjx hjl (by omega) (by assumption) (by assumption) (by assumption) (by assumption)).2 | exact jn_n hjx (by omega) (by assumption))⟩ (by show ((ordT A).length - (z + 1)) < ((ordT A).length - z); omega)))
   refine R.go 3 (k1 ((z : Int) + 1) ?_)
   exact R.go 2 (k18 R6 (N7 (z + 1, jn) [1, 3, 4, 9, 10, 11, 16, 17, 18] none _ (by kernel_rfl) (by kernel_rfl) ⟨(by omega), (by first | exact (jn_y hjx hjl (by omega) (by assumption) (by assumption) (by assumption) (by assumption)).1 | assumption), (by first | exact (jn_y hjx hjl (by omega) (by assumption) (by assumption) (by assumption) (by assumption)).2 | exact jn_n hjx (by omega) (by assumption))⟩ (by show ((ordT A).length - (z + 1)) < ((ordT A).length - z); omega)))
  refine R.go 3 (k1 ((y : Int) + 1) ?_)
  exact R.go 2 (k18 R1 (N2 (y + 1, jn) [1, 3, 9, 10, 11] none _ (by kernel_rfl) (by kernel_rfl) ⟨(by omega), (by assumption), (by exact fun k => ((by assumption : ∀ k, tb _ k = true ↔ jnP (ordT A) y z k) k).trans (jn_row (by omega)))⟩ (by show (O.length - (y + 1)) < (O.length - y); omega)))
 have hje := jn_end hIH.ok (y := y) (by omega) hb3.1 ‹InM (ordT A).length jm› (by assumption)
 rw [hol] at hje
 have hje2 := hje.2
 refine R.go 4 (k16 true (hsize_c A O J bo t) (R.shl 1 (A.length : Int) (by kernel_rfl) (by omega) (by kernel_rfl) (k1 ((shl64 1 (A.length : Int)) - 1) (R.go 4 (R.shl 1 bo (by kernel_rfl) (by omega) (by kernel_rfl) (R.go 1 (k16 true (membersOf_c (bnot (bnot ((shl64 1 (A.length : Int)) - 1) jm) (shl64 1 bo)) (by first | assumption | exact inM61 (by omega) (by omega))).frz ?_)))))))
 exact R.go 2 (k19 (LI (mem (bnot (bnot ((shl64 1 (A.length : Int)) - 1) jm) (shl64 1 bo)))) (by first | (rw [hje.1]) | (exfalso; omega)))
theorem isBelow_c (A O J : List (List Int)) (bo t : Int) (x y : Int) (hx : 0 ≤ x ∧ x < (A.length : Int)) (hy : 0 ≤ y ∧ y < ((A.getD (x).toNat []).length : Int)) : CallA Tryz.prog 227 [.agg [LLI A, LLI O, LLI J, AI bo, AI t], AI x, AI y] (.bool (decide ((A.getD (x).toNat []).getD (y).toNat 0 = x))) := by
 refine CallA.of Tryz.func227 rfl (by kernel_rfl) (R.go 10 (k9 eLI A [] ((x).toNat) x eLI_len ?_ (hji := by omega)))
 refine R.go 2 (k9 eI (A.getD ((x).toNat) []) 0 ((y).toNat) y eI_len ?_ (hji := by omega) (hj := by first | omega | (simp only [List.length_set]; omega) | (simp <;> omega)))
 exact R.go 5 (k19 (.bool (decide (((A.getD ((x).toNat) []).getD ((y).toNat) 0) = x))) (by first | (rfl) | (exfalso; omega)))
theorem setOf_c (A O J : List (List Int)) (bo t x : Int) (hIH : IsHy (ordT A) A O J bo t) (hx : 0 ≤ x ∧ x < (A.length : Int)) : CallA Tryz.prog 128 [.agg [LLI A, LLI O, LLI J, AI bo, AI t], AI x] (AI (setX (ordT A) (x).toNat)) := by
 have hsz := isHy_sz hIH
 obtain ⟨hs0, hsA, hsO, hsJ⟩ := hsz
 have hT : tabB A.length A = true := (hyIs_parts.1 hIH.is.1).2.1
 have hol := ordT_len A
 have hRl : RelOK (ordT A).length (ordT A) := ordT_rel (by omega)
 have hb3 := isHy_b hIH
 have ht3 := isHy_t hIH
 have hil := irN_len (ordT A)
 have hiI := irI_len (ordT A)
 have hbn := hb3.2
 have htn := ht3.2
 have hsh : 1 ≤ shl64 1 (A.length : Int) ∧ shl64 1 (A.length : Int) ≤ 4611686018427387904 := shl_rng _ (by omega) (by omega)
 have hrlA : okRl ((ordT A).length : Int) (ordT A) := okRl_of (by omega) hRl
 refine CallA.of Tryz.func128 rfl (by kernel_rfl) (R.go 13 (k16 true (irred_c A O J bo t hIH) (R.go 4 (k17 ((fun | (i, m) => (⟨(frm 26 [(1, AI x), (2, .ptr 0 0), (5, AI m), (9, LI (irI (ordT A))), (10, AI ((irI (ordT A)).length)), (11, AI (i : Int))]), [.box 26 [LLI A, LLI O, LLI J, AI bo, AI t]]⟩ : St) : Nat × Int → St)) (fun | (i, m) => (i ≤ (irI (ordT A)).length) ∧ (m = mkB (stB (ordT A) (x).toNat) i)) (fun | (i, m) => (irI (ordT A)).length - i) (0, 0) [1, 2, 5, 9, 10, 11] none ⟨(by omega), (by rfl)⟩ ?_))))
 rintro ⟨i, m⟩ ⟨h4_1, rfl⟩ R1 N2
 refine R.go 5 (k3 ((i : Int) < ((irI (ordT A)).length : Int)) (fun c5 => ?_) (fun c5 => ?_))
 ·have hgi := irI_get (xs := ordT A) (i := i) (by omega)
  have hgr := (irN_get (xs := ordT A) (i := i) (by omega)).1
  have hgr2 : 0 ≤ (irI (ordT A)).getD i 0 ∧ (irI (ordT A)).getD i 0 < (A.length : Int) := by rw [hgi]; omega
  have hgA := hsA ((irI (ordT A)).getD i 0).toNat (by omega)
  refine R.go 6 (k9 eI (irI (ordT A)) 0 i (i : Int) eI_len (R.go 9 (k16 true (isBelow_c A O J bo t ((irI (ordT A)).getD i 0) x (by first | omega | (simp <;> omega)) (by first | omega | (simp <;> omega))) (R.go 1 (k3 ((A.getD (((irI (ordT A)).getD i 0)).toNat []).getD (x).toNat 0 = ((irI (ordT A)).getD i 0)) (fun c6 => ?_) (fun c6 => ?_))))))
  ·refine R.go 3 (R.shl 1 (i : Int) (by kernel_rfl) (by omega) (by kernel_rfl) (R.go 5 (k1 ((i : Int) + 1) ?_)))
   exact R.go 2 (k18 R1 (N2 (i + 1, bor (mkB (stB (ordT A) (x).toNat) i) (shl64 1 (i : Int))) [1, 2, 5, 9, 10, 11] none _ (by kernel_rfl) (by kernel_rfl) ⟨(by omega), (by first | exact mkB_yes (P := stB (ordT A) (x).toNat) (st_y hIH (by omega) (by omega) (by assumption)) | exact mkB_no (P := stB (ordT A) (x).toNat) (st_n hIH (by omega) (by omega) (by assumption)))⟩ (by show ((irI (ordT A)).length - (i + 1)) < ((irI (ordT A)).length - i); omega)))
  refine R.go 3 (k1 ((i : Int) + 1) ?_)
  exact R.go 2 (k18 R1 (N2 (i + 1, mkB (stB (ordT A) (x).toNat) i) [1, 2, 5, 9, 10, 11] none _ (by kernel_rfl) (by kernel_rfl) ⟨(by omega), (by first | exact mkB_yes (P := stB (ordT A) (x).toNat) (st_y hIH (by omega) (by omega) (by assumption)) | exact mkB_no (P := stB (ordT A) (x).toNat) (st_n hIH (by omega) (by omega) (by assumption)))⟩ (by show ((irI (ordT A)).length - (i + 1)) < ((irI (ordT A)).length - i); omega)))
 exact R.go 6 (k19 (AI (mkB (stB (ordT A) (x).toNat) i)) (by first | (rw [st_end (by omega)]) | (exfalso; omega)))
theorem dualH_c (A O J : List (List Int)) (bo t : Int) (hIH : IsHy (ordT A) A O J bo t) : CallA Tryz.prog 62 [.agg [LLI A, LLI O, LLI J, AI bo, AI t]] (.agg [AI ((irN (ordT A)).length : Int), ownA eI 2 1 (dualL (ordT A))]) := by
 have hsz := isHy_sz hIH
 obtain ⟨hs0, hsA, hsO, hsJ⟩ := hsz
 have hT : tabB A.length A = true := (hyIs_parts.1 hIH.is.1).2.1
 have hol := ordT_len A
 have hRl : RelOK (ordT A).length (ordT A) := ordT_rel (by omega)
 have hb3 := isHy_b hIH
 have ht3 := isHy_t hIH
 have hil := irN_len (ordT A)
 have hiI := irI_len (ordT A)
 have hbn := hb3.2
 have htn := ht3.2
 have hsh : 1 ≤ shl64 1 (A.length : Int) ∧ shl64 1 (A.length : Int) ≤ 4611686018427387904 := shl_rng _ (by omega) (by omega)
 have hrlA : okRl ((ordT A).length : Int) (ordT A) := okRl_of (by omega) hRl
 refine CallA.of Tryz.func62 rfl (by kernel_rfl) (R.go 8 (k16 true (irred_c A O J bo t hIH) (R.go 14 (R.nil 4 2 1 (by kernel_rfl) (k17 ((fun | (i, ab) => (⟨(frm 24 [(1, .ptr 0 0), (2, .ptr 1 0), (4, .ref 2), (9, LI (irI (ordT A))), (10, AI ((irI (ordT A)).length)), (11, AI (i : Int))]), [.box 26 [LLI A, LLI O, LLI J, AI bo, AI t], .box 35 [AI 0, .nil], rowA eI 2 1 ab]⟩ : St) : Nat × (List Int) → St)) (fun | (i, ab) => (i ≤ (irI (ordT A)).length) ∧ (ab = rowR (dlR (ordT A)) i)) (fun | (i, ab) => (irI (ordT A)).length - i) (0, []) [1, 2, 4, 9, 10, 11] none ⟨(by omega), (by rfl)⟩ ?_)))))
 rintro ⟨i, ab⟩ ⟨h4_1, rfl⟩ R1 N2
 have hrl := rowR_len (dlR (ordT A)) i
 refine R.go 5 (k3 ((i : Int) < ((irI (ordT A)).length : Int)) (fun c5 => ?_) (fun c5 => ?_))
 ·have hgi := irI_get (xs := ordT A) (i := i) (by omega)
  have hgr := (irN_get (xs := ordT A) (i := i) (by omega)).1
  have hgr2 : 0 ≤ (irI (ordT A)).getD i 0 ∧ (irI (ordT A)).getD i 0 < (A.length : Int) := by rw [hgi]; omega
  refine R.go 5 (k9 eI (irI (ordT A)) 0 i (i : Int) eI_len (R.go 7 (k16 true (setOf_c A O J bo t ((irI (ordT A)).getD i 0) hIH (by first | omega | (simp <;> omega))) (R.go 1 (k14 eI (rowR (dlR (ordT A)) i) [setX (ordT A) (((irI (ordT A)).getD i 0)).toNat] 2 2 1 8 eI_one (R.go 4 (k1 ((i : Int) + 1) ?_)))))))
  exact R.go 2 (k18 R1 (N2 (i + 1, (rowR (dlR (ordT A)) i) ++ [setX (ordT A) (((irI (ordT A)).getD i 0)).toNat]) [1, 2, 4, 9, 10, 11] (some [0, 1, 2]) _ (by kernel_rfl) (by kernel_rfl) ⟨(by omega), (by (rw [← rowR_snoc]; exact congrArg (fun q => rowR (dlR (ordT A)) i ++ [q]) (by rw [hgi, Int.toNat_natCast]; rfl)))⟩ (by show ((irI (ordT A)).length - (i + 1)) < ((irI (ordT A)).length - i); omega)))
 refine R.go 4 (R.enter (avs := [.ref 2]) Tryz.func89 rfl (by kernel_rfl) (by kernel_rfl) (by kernel_rfl) ?_)
 intro us6
 refine R.go 7 (k16 false (size_c (rowR (dlR (ordT A)) i)) (R.go 4 (R.back (.agg [AI ((rowR (dlR (ordT A)) i).length), .ref 2]) (frm 24 [(1, .ptr 0 0), (2, .ptr 1 0), (4, .ref 2), (9, LI (irI (ordT A))), (10, AI ((irI (ordT A)).length)), (11, AI (i : Int)), (12, .bool (decide ((i : Int) < ((irI (ordT A)).length : Int)))), (22, .ref 2)]) (by kernel_rfl) (by kernel_rfl) (by kernel_rfl) ?_)))
 exact R.go 2 (k19 (.agg [AI ((rowR (dlR (ordT A)) i).length), ownA eI 2 1 (rowR (dlR (ordT A)) i)]) (by first | (rw [dl_end (by omega), dualL_len]) | (exfalso; omega)))
theorem dualOf_c (A O J : List (List Int)) (bo t : Int) (la : A.length ≤ 1000000000 ∧ O.length ≤ 1000000000 ∧ J.length ≤ 1000000000) (mA : ∀ i0 : Nat, i0 < A.length → (A.getD i0 []).length ≤ 1000000000) (mO : ∀ i0 : Nat, i0 < O.length → (O.getD i0 []).length ≤ 1000000000) (mJ : ∀ i0 : Nat, i0 < J.length → (J.getD i0 []).length ≤ 1000000000) : CallA Tryz.prog 13 [.agg [LLI A, LLI O, LLI J, AI bo, AI t]] (.tup [.agg [AI (duN A O J bo t), ownA eI 2 1 (duL A O J bo t)], AI (duK A O J bo t)]) := by
 refine CallA.of Tryz.func13 rfl (by kernel_rfl) (R.go 11 (k16 true (isHeyting_c A O J bo t la mA mO mJ) (R.go 3 (k22 (hyIs A O J bo t) (fun c1 => ?_) (fun c1 => ?_)))))
 ·obtain ⟨hd1, hd2, hd3⟩ := du_1 (by assumption : hyIs A O J bo t = false)
  refine R.go 6 (k21 1 1 2 1 ?_)
  exact k19 (.tup [.agg [AI 0, ownA eI 2 1 []], AI 1]) (by first | (rw [hd1, hd2, hd3]) | (exfalso; omega))
 have hIH := hyIs_hy (by assumption : hyIs A O J bo t = true)
 have hsz := isHy_sz hIH
 obtain ⟨hs0, hsA, hsO, hsJ⟩ := hsz
 have hT : tabB A.length A = true := (hyIs_parts.1 hIH.is.1).2.1
 have hol := ordT_len A
 have hRl : RelOK (ordT A).length (ordT A) := ordT_rel (by omega)
 have hb3 := isHy_b hIH
 have ht3 := isHy_t hIH
 have hil := irN_len (ordT A)
 have hiI := irI_len (ordT A)
 have hbn := hb3.2
 have htn := ht3.2
 have hsh : 1 ≤ shl64 1 (A.length : Int) ∧ shl64 1 (A.length : Int) ≤ 4611686018427387904 := shl_rng _ (by omega) (by omega)
 have hrlA : okRl ((ordT A).length : Int) (ordT A) := okRl_of (by omega) hRl
 refine R.go 3 (k16 true (irred_c A O J bo t (by assumption)) (R.go 4 (k3 (((irI (ordT A)).length : Int) > 8) (fun c2 => ?_) (fun c2 => ?_))))
 ·obtain ⟨hd1, hd2, hd3⟩ := du_3 (by assumption : hyIs A O J bo t = true) (by omega)
  refine R.go 6 (k21 1 1 2 1 ?_)
  exact k19 (.tup [.agg [AI 0, ownA eI 2 1 []], AI 3]) (by first | (rw [hd1, hd2, hd3]) | (exfalso; omega))
 obtain ⟨hd1, hd2, hd3⟩ := du_0 (by assumption : hyIs A O J bo t = true) (by omega)
 refine R.go 5 (k16 true (dualH_c A O J bo t (by assumption)) ?_)
 exact R.go 3 (k19 (.tup [.agg [AI ((irN (ordT A)).length : Int), ownA eI 2 1 (dualL (ordT A))], AI 0]) (by first | (rw [hd1, hd2, hd3]) | (exfalso; omega)))
end Go.Proofs.YtjllngcefoohpaaGreat

/-! Least forms of posets (texts of sh4, sh5, sh6) and orders that are alike. -/
namespace Go.Proofs.YtjllngcefoohpaaGreat
open Go.RowKit Go.Abs
theorem mem_in {N : Nat} {C : Int} (hN : N ≤ 61) (hC : InM N C) {k : Nat} (hk : k < (mem C).length) : (mem C).getD k 0 = (((mem C).getD k 0).toNat : Int) ∧ ((mem C).getD k 0).toNat < N ∧ tb C ((mem C).getD k 0).toNat = true := by
 have hg : (mem C).getD k 0 ∈ mem C := by
  rw [List.getD_eq_getElem?_getD, List.getElem?_eq_getElem hk]
  exact List.getElem_mem _
 obtain ⟨j, _, h2, h3⟩ := memN_mem.1 hg
 have := tb_lt hC h2
 rw [h3]
 exact ⟨by omega, by omega, h2⟩

def cmpI (x y : Int) : Int := if x < y then -1 else if x > y then 1 else 0
def cmpL : List Int → List Int → Int
 | [], [] => 0
 | [], _ :: _ => -1
 | _ :: _, [] => 1
 | x :: a, y :: b => if cmpI x y = 0 then cmpL a b else cmpI x y
def ltL (a b : List Int) : Prop := cmpL a b < 0
instance (a b : List Int) : Decidable (ltL a b) := by unfold ltL; infer_instance
theorem cmpI_eq {x y : Int} : cmpI x y = 0 ↔ x = y := by
 unfold cmpI
 split
 ·constructor <;> intro h <;> omega
 ·split
  ·constructor <;> intro h <;> omega
  ·constructor <;> intro h <;> omega
theorem cmpI_lt {x y : Int} : cmpI x y < 0 ↔ x < y := by
 unfold cmpI
 split
 ·constructor <;> intro h <;> omega
 ·split
  ·constructor <;> intro h <;> omega
  ·constructor <;> intro h <;> omega
theorem lt_irr : ∀ a : List Int, ¬ ltL a a
 | [] => by simp [ltL, cmpL]
 | x :: a => by
  have := lt_irr a
  unfold ltL at this ⊢
  rw [cmpL, if_pos (cmpI_eq.2 rfl)]
  exact this
theorem lt_trans' : ∀ {a b c : List Int}, ltL a b → ltL b c → ltL a c
 | [], [], _, h, _ => by simp [ltL, cmpL] at h
 | [], _ :: _, [], _, h => by simp [ltL, cmpL] at h
 | [], _ :: _, _ :: _, _, _ => by simp [ltL, cmpL]
 | _ :: _, [], _, h, _ => by simp [ltL, cmpL] at h
 | _ :: _, _ :: _, [], _, h => by simp [ltL, cmpL] at h
 | x :: a, y :: b, z :: c, h1, h2 => by
  unfold ltL at h1 h2 ⊢
  rw [cmpL] at h1 h2 ⊢
  by_cases e1 : cmpI x y = 0
  ·rw [if_pos e1] at h1
   have := cmpI_eq.1 e1; subst this
   by_cases e2 : cmpI x z = 0
   ·rw [if_pos e2] at h2 ⊢
    exact lt_trans' h1 h2
   ·rw [if_neg e2] at h2 ⊢
    exact h2
  ·rw [if_neg e1] at h1
   have h1' := cmpI_lt.1 h1
   by_cases e2 : cmpI y z = 0
   ·have := cmpI_eq.1 e2; subst this
    rw [if_neg e1]; exact h1
   ·rw [if_neg e2] at h2
    have h2' := cmpI_lt.1 h2
    have h3 : cmpI x z < 0 := cmpI_lt.2 (by omega)
    rw [if_neg (by omega)]; exact h3
theorem nlt_le {r b b' : List Int} (h : ¬ ltL r b) (hb : b' = b ∨ ltL b' b) : ¬ ltL r b' := by
 rcases hb with rfl | hb
 ·exact h
 ·exact fun h2 => h (lt_trans' h2 hb)
section
variable {a b : List Int} {i : Nat}
theorem dropC (h : i < a.length) : a.drop i = a.getD i 0 :: a.drop (i + 1) := by
 rw [List.drop_eq_getElem_cons h, List.getD_eq_getElem?_getD, List.getElem?_eq_getElem h]; rfl
theorem cmp_gt (h : cmpL a b = cmpL (a.drop i) (b.drop i)) (ha : i < a.length) (hb : b.length ≤ i) : 1 = cmpL a b := by
 rw [h, dropC ha, List.drop_eq_nil_of_le hb, cmpL]
theorem cmp_ne {c : Int} (h : cmpL a b = cmpL (a.drop i) (b.drop i)) (ha : i < a.length) (hb : i < b.length) (hc : c = cmpI (a.getD i 0) (b.getD i 0)) (h0 : ¬ c = 0) : c = cmpL a b := by
 rw [h, dropC ha, dropC hb, cmpL, if_neg (by rw [← hc]; exact h0), hc]
theorem cmp_eq (h : cmpL a b = cmpL (a.drop i) (b.drop i)) (ha : i < a.length) (hb : i < b.length) (hc : cmpI (a.getD i 0) (b.getD i 0) = 0) : cmpL a b = cmpL (a.drop (i + 1)) (b.drop (i + 1)) := by
 rw [h, dropC ha, dropC hb, cmpL, if_pos hc]
theorem cmp_lt (h : cmpL a b = cmpL (a.drop i) (b.drop i)) (ha : a.length = i) (hb : i < b.length) : -1 = cmpL a b := by
 rw [h, List.drop_eq_nil_of_le (by omega), dropC hb, cmpL]
theorem cmp_end (h : cmpL a b = cmpL (a.drop i) (b.drop i)) (ha : a.length = i) (hb : b.length ≤ i) : 0 = cmpL a b := by
 rw [h, List.drop_eq_nil_of_le (by omega), List.drop_eq_nil_of_le hb, cmpL]
end
theorem nan_c (x : Int) : CallA Tryz.prog 306 [AI x] (.bool false) := by
 refine CallA.of Tryz.func306 rfl (by kernel_rfl) ?_
 exact R.go 11 (R.retE (.bool (!decide (x = x))) (by kernel_rfl) (by kernel_rfl) (by first | ((apply congrArg AV.bool; simp)) | (exfalso; omega)))
theorem cmpI_c (x y : Int) : CallA Tryz.prog 196 [AI x, AI y] (AI (cmpI x y)) := by
 refine CallA.of Tryz.func196 rfl (by kernel_rfl) (R.go 7 (k16 true (nan_c x) (R.go 5 (k16 true (nan_c y) (R.go 23 (k3 (x < y) (fun c1 => ?_) (fun c1 => ?_)))))))
 ·exact R.go 4 (k19 (AI (-1)) (by first | (apply congrArg AI; unfold cmpI; first | (rw [if_pos (by assumption)]) | (rw [if_neg (by assumption), if_pos (by assumption)]) | (rw [if_neg (by assumption), if_neg (by assumption)])) | (exfalso; omega)))
 refine R.go 8 (k3 (x > y) (fun c2 => ?_) (fun c2 => ?_))
 ·exact R.go 4 (k19 (AI 1) (by first | (apply congrArg AI; unfold cmpI; first | (rw [if_pos (by assumption)]) | (rw [if_neg (by assumption), if_pos (by assumption)]) | (rw [if_neg (by assumption), if_neg (by assumption)])) | (exfalso; omega)))
 exact R.go 5 (k19 (AI 0) (by first | (apply congrArg AI; unfold cmpI; first | (rw [if_pos (by assumption)]) | (rw [if_neg (by assumption), if_pos (by assumption)]) | (rw [if_neg (by assumption), if_neg (by assumption)])) | (exfalso; omega)))
theorem cmpL_c (a b : List Int) (la : a.length ≤ 1000000000) (lb : b.length ≤ 1000000000) : CallA Tryz.prog 193 [LI a, LI b] (AI (cmpL a b)) := by
 refine CallA.of Tryz.func193 rfl (by kernel_rfl) (R.go 12 (k17 (fun (i : Nat) => (⟨(frm 36 [(0, LI a), (1, LI b), (9, LI a), (10, AI a.length), (11, AI (i : Int))]), []⟩ : St)) (fun (i : Nat) => (i ≤ a.length) ∧ (i ≤ b.length) ∧ (cmpL a b = cmpL (a.drop i) (b.drop i))) (fun (i : Nat) => a.length - i) 0 [0, 1, 9, 10, 11] none ⟨(by omega), (by omega), (by rfl)⟩ ?_))
 rintro i ⟨h3_1, h3_2, h3_3⟩ R1 N2
 refine R.go 5 (k3 ((i : Int) < (a.length : Int)) (fun c4 => ?_) (fun c4 => ?_))
 ·refine R.go 6 (k9 eI a 0 i (i : Int) eI_len (R.go 12 (k3 ((i : Int) ≥ (b.length : Int)) (fun c5 => ?_) (fun c5 => ?_))))
  ·exact R.go 4 (k19 (AI 1) (by first | (apply congrArg AI; first | exact cmp_gt (i := i) (by assumption) (by omega) (by omega) | exact cmp_ne (i := i) (by assumption) (by omega) (by omega) rfl (by assumption) | exact cmp_lt (i := i) (by assumption) (by omega) (by omega) | exact cmp_end (i := i) (by assumption) (by omega) (by omega)) | (exfalso; omega)))
  refine R.go 5 (k9 eI b 0 i (i : Int) eI_len (R.go 7 (k16 true (cmpI_c (a.getD i 0) (b.getD i 0)) (R.go 7 (k4 ((cmpI (a.getD i 0) (b.getD i 0)) = 0) (fun c6 => ?_) (fun c6 => ?_))))))
  ·exact R.go 5 (k19 (AI (cmpI (a.getD i 0) (b.getD i 0))) (by first | (apply congrArg AI; first | exact cmp_gt (i := i) (by assumption) (by omega) (by omega) | exact cmp_ne (i := i) (by assumption) (by omega) (by omega) rfl (by assumption) | exact cmp_lt (i := i) (by assumption) (by omega) (by omega) | exact cmp_end (i := i) (by assumption) (by omega) (by omega)) | (exfalso; omega)))
  refine R.go 3 (k1 ((i : Int) + 1) ?_)
  exact R.go 2 (k18 R1 (N2 (i + 1) [0, 1, 9, 10, 11] none _ (by kernel_rfl) (by kernel_rfl) ⟨(by omega), (by omega), (by exact cmp_eq (by assumption) (by omega) (by omega) (by assumption))⟩ (by show (a.length - (i + 1)) < (a.length - i); omega)))
 refine R.go 10 (k3 ((a.length : Int) < (b.length : Int)) (fun c7 => ?_) (fun c7 => ?_))
 ·exact R.go 4 (k19 (AI (-1)) (by first | (apply congrArg AI; first | exact cmp_gt (i := i) (by assumption) (by omega) (by omega) | exact cmp_ne (i := i) (by assumption) (by omega) (by omega) rfl (by assumption) | exact cmp_lt (i := i) (by assumption) (by omega) (by omega) | exact cmp_end (i := i) (by assumption) (by omega) (by omega)) | (exfalso; omega)))
 exact R.go 5 (k19 (AI 0) (by first | (apply congrArg AI; first | exact cmp_gt (i := i) (by assumption) (by omega) (by omega) | exact cmp_ne (i := i) (by assumption) (by omega) (by omega) rfl (by assumption) | exact cmp_lt (i := i) (by assumption) (by omega) (by omega) | exact cmp_end (i := i) (by assumption) (by omega) (by omega)) | (exfalso; omega)))

def toF (o : List Int) : Nat → List Int
 | 0 => List.replicate o.length 0
 | i + 1 => (toF o i).set (o.getD i 0).toNat (i : Int)
theorem toF_len (o : List Int) : ∀ i, (toF o i).length = o.length
 | 0 => by simp [toF]
 | i + 1 => by rw [toF, List.length_set, toF_len o i]
theorem toF_rng (o : List Int) (j : Nat) : ∀ i : Nat, 0 ≤ (toF o i).getD j 0 ∧ (toF o i).getD j 0 ≤ (i : Int)
 | 0 => by
  rw [toF, List.getD_eq_getElem?_getD, List.getElem?_replicate]
  split <;> simp
 | i + 1 => by
  have ih := toF_rng o j i
  by_cases hi : (o.getD i 0).toNat < (toF o i).length
  ·rw [toF, getD_set_if _ _ _ _ _ hi]
   split <;> omega
  ·rw [toF, List.set_eq_of_length_le (by omega)]; omega
def reoK (a o T' R : List Int) (i : Nat) : Nat → List Int
 | 0 => R
 | k + 1 => (reoK a o T' R i k).set i (bor ((reoK a o T' R i k).getD i 0) (shl64 1 (T'.getD ((mem (a.getD (o.getD i 0).toNat 0)).getD k 0).toNat 0)))
def reoF (a o T' : List Int) : Nat → List Int
 | 0 => List.replicate o.length 0
 | i + 1 => reoK a o T' (reoF a o T' i) i (mem (a.getD (o.getD i 0).toNat 0)).length
def reo (a o : List Int) : List Int := reoF a o (toF o o.length) o.length
theorem reoK_len (a o T' R : List Int) (i : Nat) : ∀ k, (reoK a o T' R i k).length = R.length
 | 0 => rfl
 | k + 1 => by rw [reoK, List.length_set, reoK_len]
theorem reoF_len (a o T' : List Int) : ∀ i, (reoF a o T' i).length = o.length
 | 0 => by simp [reoF]
 | i + 1 => by rw [reoF, reoK_len, reoF_len]
theorem reo_len (a o : List Int) : (reo a o).length = o.length := reoF_len _ _ _ _
theorem pm_inj {n : Int} {o : List Int} (h : gPM n o) {i j : Nat} (hi : i < n.toNat) (hj : j < n.toNat) (e : o.getD i 0 = o.getD j 0) : i = j := by
 have hi' : i < o.length := by rw [h.1]; exact hi
 have hj' : j < o.length := by rw [h.1]; exact hj
 rw [List.getD_eq_getElem?_getD, List.getD_eq_getElem?_getD, List.getElem?_eq_getElem hi', List.getElem?_eq_getElem hj'] at e
 exact (List.getElem_inj h.2.1).1 e
theorem toF_inv {n : Int} {o : List Int} (h : gPM n o) : ∀ i : Nat, i ≤ n.toNat → ∀ k, k < i → (toF o i).getD (o.getD k 0).toNat 0 = (k : Int)
 | 0, _, k, hk => by omega
 | i + 1, hi, k, hk => by
  have hk2 := gpm_get h (i := k) (by omega)
  have hi2 := gpm_get h (i := i) (by omega)
  have hl := h.1
  rw [toF, getD_set_if _ _ _ _ _ (by rw [toF_len]; omega)]
  by_cases e : k = i
  ·subst e; rw [if_pos rfl]
  ·rw [if_neg (fun e2 => e (pm_inj h (by omega) (by omega) (by omega)))]
   exact toF_inv h i (by omega) k (by omega)
theorem reoK_bits {n : Int} {a o T' R : List Int} {i : Nat} (h8 : n ≤ 8) (hR : ∀ j, j < R.length → InM n.toNat (R.getD j 0)) (hi : i < R.length) (hT : ∀ t, t < (mem (a.getD (o.getD i 0).toNat 0)).length → 0 ≤ T'.getD ((mem (a.getD (o.getD i 0).toNat 0)).getD t 0).toNat 0 ∧ T'.getD ((mem (a.getD (o.getD i 0).toNat 0)).getD t 0).toNat 0 < n) : ∀ k, k ≤ (mem (a.getD (o.getD i 0).toNat 0)).length → (∀ j, j < R.length → InM n.toNat ((reoK a o T' R i k).getD j 0)) ∧ (∀ j, ¬ j = i → (reoK a o T' R i k).getD j 0 = R.getD j 0) ∧ ∀ q, tb ((reoK a o T' R i k).getD i 0) q = true ↔ tb (R.getD i 0) q = true ∨ ∃ t, t < k ∧ T'.getD ((mem (a.getD (o.getD i 0).toNat 0)).getD t 0).toNat 0 = (q : Int)
 | 0, _ => ⟨hR, fun _ _ => rfl, fun q => by simp [reoK]⟩
 | k + 1, hk => by
  obtain ⟨h1, h2, h3⟩ := reoK_bits h8 hR hi hT k (by omega)
  have ht := hT k (by omega)
  obtain ⟨v, hv⟩ := Int.eq_ofNat_of_zero_le ht.1
  have ho : InM n.toNat (shl64 1 (v : Int)) := inM_one (by omega) (by omega)
  have hl := reoK_len a o T' R i k
  have hset : ∀ j, (reoK a o T' R i (k + 1)).getD j 0 = if i = j then bor ((reoK a o T' R i k).getD i 0) (shl64 1 (v : Int)) else (reoK a o T' R i k).getD j 0 := fun j => by
   rw [reoK, hv, getD_set_if _ _ _ _ _ (by omega)]
  refine ⟨fun j hj => ?_, fun j hj => ?_, fun q => ?_⟩
  ·rw [hset]
   split
   ·exact inM_bor (by omega) (h1 i hi) ho
   ·exact h1 j hj
  ·rw [hset, if_neg (fun e => hj e.symm)]; exact h2 j hj
  ·rw [hset, if_pos rfl, tb_bor (n := n.toNat) (by omega) (h1 i hi) ho, Bool.or_eq_true, h3, tb_one (by omega), decide_eq_true_iff]
   constructor
   ·rintro ((h | ⟨t, t1, t2⟩) | rfl)
    ·exact .inl h
    ·exact .inr ⟨t, by omega, t2⟩
    ·exact .inr ⟨k, by omega, hv⟩
   ·rintro (h | ⟨t, t1, t2⟩)
    ·exact .inl (.inl h)
    ·by_cases e : t = k
     ·subst e; exact .inr (by omega)
     ·exact .inl (.inr ⟨t, by omega, t2⟩)
theorem reo_bits {n : Int} {a o : List Int} (hF : okFr n a = true) (h : gPM n o) {i : Nat} (hi : i < n.toNat) : InM n.toNat ((reo a o).getD i 0) ∧ ∀ k, tb ((reo a o).getD i 0) k = true ↔ k < n.toNat ∧ tb (a.getD (o.getD i 0).toNat 0) (o.getD k 0).toNat = true := by
 obtain ⟨h0, h8, hl, hr⟩ := okFr_rel hF
 have hol := h.1
 have hrow : ∀ i, i < n.toNat → InM n.toNat (a.getD (o.getD i 0).toNat 0) := fun i hi => hr.2 _ (by have := gpm_get h hi; omega)
 have hTr : ∀ y, y < n.toNat → ∃ k, k < n.toNat ∧ o.getD k 0 = (y : Int) ∧ (toF o o.length).getD y 0 = (k : Int) := fun y hy => by
  obtain ⟨k, hk, e⟩ := gpm_onto h hy
  have := toF_inv h o.length (by omega) k (by omega)
  rw [e, Int.toNat_natCast] at this
  exact ⟨k, hk, e, this⟩
 have hT : ∀ i, i < n.toNat → ∀ t, t < (mem (a.getD (o.getD i 0).toNat 0)).length → 0 ≤ (toF o o.length).getD ((mem (a.getD (o.getD i 0).toNat 0)).getD t 0).toNat 0 ∧ (toF o o.length).getD ((mem (a.getD (o.getD i 0).toNat 0)).getD t 0).toNat 0 < n := fun i hi t ht => by
  obtain ⟨m1, m2, _⟩ := mem_in (N := n.toNat) (by omega) (hrow i hi) ht
  obtain ⟨k, hk, _, e⟩ := hTr _ m2
  rw [e]; omega
 have main : ∀ c, c ≤ n.toNat → (∀ j, j < n.toNat → InM n.toNat ((reoF a o (toF o o.length) c).getD j 0)) ∧ (∀ j, c ≤ j → (reoF a o (toF o o.length) c).getD j 0 = 0) ∧ ∀ i, i < c → ∀ q, tb ((reoF a o (toF o o.length) c).getD i 0) q = true ↔ q < n.toNat ∧ tb (a.getD (o.getD i 0).toNat 0) (o.getD q 0).toNat = true := by
  intro c
  induction c with
  | zero =>
   intro _
   have hz : ∀ j, (reoF a o (toF o o.length) 0).getD j 0 = 0 := fun j => by
    rw [reoF, List.getD_eq_getElem?_getD, List.getElem?_replicate]
    split <;> rfl
   exact ⟨fun j _ => by rw [hz]; exact inM_zero _, fun j _ => hz j, fun i hi => by omega⟩
  | succ c ih =>
   intro hc
   obtain ⟨i1, i2, i3⟩ := ih (by omega)
   have hRl := reoF_len a o (toF o o.length) c
   obtain ⟨k1, k2, k3⟩ := reoK_bits (n := n) (a := a) (o := o) (T' := toF o o.length) (R := reoF a o (toF o o.length) c) (i := c) h8 (fun j hj => i1 j (by omega)) (by omega) (hT c (by omega)) _ (Nat.le_refl _)
   rw [reoF]
   refine ⟨fun j hj => k1 j (by omega), fun j hj => ?_, fun i hi q => ?_⟩
   ·rw [k2 j (by omega)]; exact i2 j (by omega)
   ·by_cases e : i = c
    ·subst e
     rw [k3, i2 i (Nat.le_refl _), tb_zero]
     have hmr := hrow i (by omega)
     constructor
     ·rintro (h5 | ⟨t, t1, t2⟩)
      ·cases h5
      ·obtain ⟨m1, m2, m3⟩ := mem_in (N := n.toNat) (by omega) hmr t1
       obtain ⟨k, hk, e1, e2⟩ := hTr _ m2
       rw [e2] at t2
       have ekq : k = q := by omega
       subst ekq
       refine ⟨hk, ?_⟩
       rw [e1, Int.toNat_natCast]
       exact m3
     ·rintro ⟨q1, q2⟩
      have hoq := gpm_get h q1
      have hmm : o.getD q 0 ∈ mem (a.getD (o.getD i 0).toNat 0) := (by
       have := (mem_iff (j := (o.getD q 0).toNat) (N := n.toNat) (by omega) hmr).2 q2
       rwa [show (((o.getD q 0).toNat : Nat) : Int) = o.getD q 0 by omega] at this)
      obtain ⟨t, ht, et⟩ := List.getElem_of_mem hmm
      refine .inr ⟨t, ht, ?_⟩
      have et2 : (mem (a.getD (o.getD i 0).toNat 0)).getD t 0 = o.getD q 0 := by rw [List.getD_eq_getElem?_getD (l := mem _), List.getElem?_eq_getElem ht, et]; rfl
      rw [et2]
      exact toF_inv h o.length (by omega) q (by omega)
    ·rw [k2 i e]; exact i3 i (by omega) q
 obtain ⟨j1, j2, j3⟩ := main n.toNat (Nat.le_refl _)
 unfold reo
 rw [hol] at j1 j3 ⊢
 exact ⟨j1 i hi, j3 i hi⟩
theorem reo_po {n : Int} {a o : List Int} (hP : okPo n a = true) (h : gPM n o) : okPo n (reo a o) = true := by
 obtain ⟨h0, h8, hl, hr, rf, tr, asy⟩ := hq_po_rel hP
 have hF := okPo_fr hP
 have hg := fun i (hi : i < n.toNat) => gpm_get h hi
 refine gpo_mk h0 h8 (by rw [reo_len, h.1]; omega) (fun i hi => (reo_bits hF h hi).1) (fun i hi => ?_) (fun i j k hi a1 b1 => ?_) (fun i j hi a1 b1 => ?_)
 ·exact ((reo_bits hF h hi).2 i).2 ⟨hi, rf _ (by have := hg i hi; omega)⟩
 ·obtain ⟨u1, u2⟩ := ((reo_bits hF h hi).2 j).1 a1
  obtain ⟨v1, v2⟩ := ((reo_bits hF h u1).2 k).1 b1
  exact ((reo_bits hF h hi).2 k).2 ⟨v1, tr _ _ _ (by have := hg i hi; omega) u2 v2⟩
 ·obtain ⟨u1, u2⟩ := ((reo_bits hF h hi).2 j).1 a1
  obtain ⟨v1, v2⟩ := ((reo_bits hF h u1).2 i).1 b1
  have hi2 := hg i hi
  have hj2 := hg j u1
  have := asy _ _ (by omega) u2 v2
  exact pm_inj h hi u1 (by omega)
def cmpO (o o' : List Int) : List Int := o'.map fun v => o.getD v.toNat 0
theorem cmpO_get {n : Int} {o o' : List Int} (h' : gPM n o') {i : Nat} (hi : i < n.toNat) : (cmpO o o').getD i 0 = o.getD (o'.getD i 0).toNat 0 := by
 have : i < o'.length := by rw [h'.1]; exact hi
 simp only [cmpO, List.getD_eq_getElem?_getD, List.getElem?_map, List.getElem?_eq_getElem this, Option.map_some, Option.getD_some]
theorem cmpO_pm {n : Int} {o o' : List Int} (h : gPM n o) (h' : gPM n o') : gPM n (cmpO o o') := by
 refine ⟨by rw [cmpO, List.length_map, h'.1], nodup_map h'.2.1 fun x hx y hy e => ?_, fun v hv => ?_⟩
 ·have h1 := h'.2.2 x hx
  have h2 := h'.2.2 y hy
  have := pm_inj h (i := x.toNat) (j := y.toNat) (by omega) (by omega) e
  omega
 ·obtain ⟨x, hx, rfl⟩ := List.mem_map.1 hv
  have h1 := h'.2.2 x hx
  exact (gpm_get h (i := x.toNat) (by omega)).2
theorem reo_reo {n : Int} {a o o' : List Int} (hP : okPo n a = true) (h : gPM n o) (h' : gPM n o') : reo (reo a o) o' = reo a (cmpO o o') := by
 have hF := okPo_fr hP
 have hF2 := okPo_fr (reo_po hP h)
 have hc := cmpO_pm h h'
 refine List.ext_getElem (by rw [reo_len, reo_len, h'.1, hc.1]) fun i hi hi2 => ?_
 rw [reo_len, h'.1] at hi
 have e : ∀ (l : List Int) (hl : i < l.length), l[i] = l.getD i 0 := fun l hl => by rw [List.getD_eq_getElem?_getD, List.getElem?_eq_getElem hl]; rfl
 rw [e _ (by rw [reo_len, h'.1]; exact hi), e _ hi2]
 have hi3 := gpm_get h' hi
 refine hq_bits_eq (N := n.toNat) (reo_bits hF2 h' hi).1 (reo_bits hF hc hi).1 fun k hk => ?_
 have hk3 := gpm_get h' hk
 rw [(reo_bits hF2 h' hi).2 k, (reo_bits hF hc hi).2 k, cmpO_get h' hi, cmpO_get h' hk, (reo_bits hF h (i := (o'.getD i 0).toNat) (by omega)).2]
 constructor
 ·rintro ⟨_, _, h5⟩; exact ⟨hk, h5⟩
 ·rintro ⟨_, h5⟩; exact ⟨hk, by omega, h5⟩

def Ext (X o : List Int) : Prop := o.take X.length = X
def BST (n : Int) (xs b b' : List Int) : Prop := b' = b ∨ (∃ o, gPM n o ∧ b' = reo xs o) ∧ ltL b' b
theorem bst_le {n : Int} {xs b b' : List Int} (h : BST n xs b b') : b' = b ∨ ltL b' b := h.elim .inl fun h => .inr h.2
theorem bst_trans {n : Int} {xs b b' b2 : List Int} (h : BST n xs b b') (h2 : BST n xs b' b2) : BST n xs b b2 := by
 rcases h2 with rfl | ⟨h3, h4⟩
 ·exact h
 ·rcases h with rfl | ⟨h5, h6⟩
  ·exact .inr ⟨h3, h4⟩
  ·exact .inr ⟨h3, lt_trans' h4 h6⟩
def LST (n : Int) (xs X b b' : List Int) : Prop := BST n xs b b' ∧ ∀ o, gPM n o → Ext X o → ¬ ltL (reo xs o) b'
def LSI (n : Int) (xs X : List Int) (i : Nat) (b b' : List Int) : Prop := BST n xs b b' ∧ ∀ o, gPM n o → Ext X o → o.getD X.length 0 < (i : Int) → ¬ ltL (reo xs o) b'
def PX (n : Int) (X : List Int) (u : Int) : Prop := X.Nodup ∧ (∀ v ∈ X, 0 ≤ v ∧ v < n) ∧ InM n.toNat u ∧ ∀ k : Nat, tb u k = true ↔ (k : Int) ∈ X
theorem px_nil (n : Int) : PX n [] 0 := ⟨List.nodup_nil, by simp, inM_zero _, fun k => by simp [tb_zero]⟩
theorem px_step {n u : Int} {X : List Int} {i : Nat} (h8 : n ≤ 8) (h : PX n X u) (hi : (i : Int) < n) (hu : ¬ band (shr64 u (i : Int)) 1 = 1) : PX n (X ++ [(i : Int)]) (bor u (shl64 1 (i : Int))) := by
 obtain ⟨h1, h2, h3, h4⟩ := h
 have ho : InM n.toNat (shl64 1 (i : Int)) := inM_one (by omega) (by omega)
 have hn : ¬ (i : Int) ∈ X := fun e => hu ((has_tb (n := n.toNat) (by omega) h3 (by omega)).2 ((h4 i).2 e))
 refine ⟨List.nodup_append.2 ⟨h1, by simp, fun a ha b hb e => ?_⟩, fun v hv => ?_, inM_bor (by omega) h3 ho, fun k => ?_⟩
 ·have : b = (i : Int) := by simpa using hb
  rw [e, this] at ha
  exact hn ha
 ·rcases List.mem_append.1 hv with hv | hv
  ·exact h2 v hv
  ·have : v = (i : Int) := by simpa using hv
   omega
 ·rw [tb_bor (n := n.toNat) (by omega) h3 ho, Bool.or_eq_true, h4, tb_one (by omega), decide_eq_true_iff, List.mem_append, List.mem_singleton]
  constructor
  ·rintro (h | rfl)
   ·exact .inl h
   ·exact .inr rfl
  ·rintro (h | h)
   ·exact .inl h
   ·exact .inr (by omega)
theorem px_pm {n u : Int} {X : List Int} (h : PX n X u) (hl : X.length = n.toNat) : gPM n X := ⟨hl, h.1, h.2.1⟩
theorem ls_0 (n : Int) (xs X b : List Int) (hX : ∀ o, gPM n o → 0 ≤ o.getD X.length 0) : LSI n xs X 0 b b := ⟨.inl rfl, fun o h1 _ h3 => by have := hX o h1; omega⟩
theorem pm_nn {n : Int} {o : List Int} (h : gPM n o) (k : Nat) : 0 ≤ o.getD k 0 := by
 rw [List.getD_eq_getElem?_getD]
 rcases Nat.lt_or_ge k o.length with hk | hk
 ·rw [List.getElem?_eq_getElem hk]; exact (h.2.2 _ (List.getElem_mem hk)).1
 ·rw [List.getElem?_eq_none hk]; exact Int.le_refl 0
theorem ext_succ {n : Int} {X o : List Int} {i : Nat} (h : gPM n o) (hX : Ext X o) (hl : X.length < n.toNat) (e : o.getD X.length 0 = (i : Int)) : Ext (X ++ [(i : Int)]) o := by
 have hlt : X.length < o.length := by rw [h.1]; exact hl
 unfold Ext at hX ⊢
 rw [List.length_append, List.length_singleton, List.take_succ_eq_append_getElem hlt, hX]
 rw [List.getD_eq_getElem?_getD, List.getElem?_eq_getElem hlt] at e
 rw [show o[X.length] = (i : Int) from e]
theorem ls_skip {n u : Int} {xs X b b' : List Int} {i : Nat} (h8 : n ≤ 8) (hp : PX n X u) (h : LSI n xs X i b b') (hi : (i : Int) < n) (hl : X.length < n.toNat) (hu : band (shr64 u (i : Int)) 1 = 1) : LSI n xs X (i + 1) b b' := by
 refine ⟨h.1, fun o h1 h2 h3 => ?_⟩
 by_cases e : o.getD X.length 0 = (i : Int)
 ·exfalso
  have hm := (hp.2.2.2 i).1 ((has_tb (n := n.toNat) (by omega) hp.2.2.1 (by omega)).1 hu)
  have h4 := ext_succ h1 h2 hl e
  have hnd : (X ++ [(i : Int)]).Nodup := by
   have := h1.2.1
   rw [← h4]
   exact this.sublist (List.take_sublist _ _)
  rw [List.nodup_append] at hnd
  exact hnd.2.2 _ hm _ (by simp) rfl
 ·exact h.2 o h1 h2 (by omega)
theorem ls_rec {n : Int} {xs X b b1 b2 : List Int} {i : Nat} (h : LSI n xs X i b b1) (hl : X.length < n.toNat) (h2 : LST n xs (X ++ [(i : Int)]) b1 b2) : LSI n xs X (i + 1) b b2 := by
 refine ⟨bst_trans h.1 h2.1, fun o h3 h4 h5 => ?_⟩
 by_cases e : o.getD X.length 0 = (i : Int)
 ·exact h2.2 o h3 (ext_succ h3 h4 hl e)
 ·exact nlt_le (h.2 o h3 h4 (by omega)) (bst_le h2.1)
theorem ls_end {n : Int} {xs X b b' : List Int} {i : Nat} (h : LSI n xs X i b b') (hi : ¬ (i : Int) < n) (hl : X.length < n.toNat) : LST n xs X b b' := by
 refine ⟨h.1, fun o h1 h2 => h.2 o h1 h2 ?_⟩
 have := (gpm_get h1 hl).2.2
 omega
theorem ls_one {n : Int} {xs X b b' : List Int} (hX : gPM n X) (h : b' = if cmpL (reo xs X) b < 0 then reo xs X else b) : LST n xs X b b' := by
 by_cases e : cmpL (reo xs X) b < 0
 ·rw [if_pos e] at h
  refine ⟨.inr ⟨⟨X, hX, h⟩, by rw [h]; exact e⟩, fun o h1 h2 => ?_⟩
  have : o = X := by rw [← h2, hX.1, ← h1.1, List.take_length]
  rw [this, h]; exact lt_irr _
 ·rw [if_neg e] at h
  refine ⟨.inl h, fun o h1 h2 => ?_⟩
  have : o = X := by rw [← h2, hX.1, ← h1.1, List.take_length]
  rw [this, h]; exact e
theorem toF_ge {o : List Int} {i : Nat} {j : Nat} (hl : o.length ≤ 8) (hi : i ≤ o.length) : 0 ≤ (toF o i).getD j 0 ∧ (toF o i).getD j 0 ≤ 8 := by
 have := toF_rng o j i; omega
theorem reoK_e {a o T' R Q : List Int} {i k : Nat} (h : Q = reoK a o T' R i k) (hR : R = reoF a o T' i) (hk : k = (mem (a.getD (o.getD i 0).toNat 0)).length) : Q = reoF a o T' (i + 1) := by rw [h, hR, reoF, hk]
theorem reo_c (n : Int) (a o : List Int) (hF : okFr n a = true) (ho : gPM n o) : CallA Tryz.prog 192 [LI a, LI o] (ownA eI 2 1 (reo a o)) := by
 have hFr := okFr_rel hF
 have hb : 0 ≤ n ∧ n ≤ 8 ∧ (a.length : Int) = n := ⟨hFr.1, hFr.2.1, hFr.2.2.1⟩
 have hol : o.length = n.toNat := ho.1
 have hgo := fun (i : Nat) (h : i < n.toNat) => (gpm_get ho h).2
 have hrr := fun (i : Nat) (h : i < n.toNat) => hFr.2.2.2.2 i h
 refine CallA.of Tryz.func192 rfl (by kernel_rfl) (R.go 8 (k15 eI 0 2 8 o.length o.length (R.go 10 (k17 ((fun | (ii, T') => (⟨(frm 62 [(0, LI a), (1, LI o), (5, .ref 0), (16, LI o), (17, AI o.length), (18, AI (ii : Int))]), [rowA eI 2 1 T']⟩ : St) : Nat × (List Int) → St)) (fun | (ii, T') => (ii ≤ o.length) ∧ (T'.length = o.length) ∧ (T' = toF o ii)) (fun | (ii, T') => o.length - ii) (0, (List.replicate o.length 0)) [0, 1, 5, 16, 17, 18] none ⟨(by omega), (by (simp <;> omega)), (by rfl)⟩ ?_))))
 rintro ⟨ii, T'⟩ ⟨h4_1, h4_2, h4_3⟩ R1 N2
 have hgi := fun h : ii < o.length => hgo ii (by omega)
 refine R.go 5 (k3 ((ii : Int) < (o.length : Int)) (fun c5 => ?_) (fun c5 => ?_))
 ·refine R.go 6 (k9 eI o 0 ii (ii : Int) eI_len ?_)
  have hgj := hgi (by omega)
  refine R.go 8 (k10 0 1 T'.length (((o.getD ii 0)).toNat) (o.getD ii 0) ?_ (hji := by omega))
  refine k13 0 2 T' (((o.getD ii 0)).toNat) (ii : Int) (R.go 3 (k1 ((ii : Int) + 1) ?_))
  exact R.go 2 (k18 R1 (N2 (ii + 1, T'.set (((o.getD ii 0)).toNat) (ii : Int)) [0, 1, 5, 16, 17, 18] none _ (by kernel_rfl) (by kernel_rfl) ⟨(by omega), (by (simp <;> omega)), (by rw [toF, ← ‹T' = toF o ii›])⟩ (by show (o.length - (ii + 1)) < (o.length - ii); omega)))
 refine R.go 5 (k15 eI 0 2 8 o.length o.length (R.go 10 (k17 ((fun | (i, V) => (⟨(frm 62 [(0, LI a), (5, .ref 0), (8, .ref 1), (31, LI o), (32, AI o.length), (33, AI (i : Int))]), [rowA eI 2 1 T', rowA eI 2 1 V]⟩ : St) : Nat × (List Int) → St)) (fun | (i, V) => (i ≤ o.length) ∧ (V.length = o.length) ∧ (V = reoF a o T' i)) (fun | (i, V) => o.length - i) (0, (List.replicate o.length 0)) [0, 5, 8, 31, 32, 33] none ⟨(by omega), (by (simp <;> omega)), (by rfl)⟩ ?_)))
 rintro ⟨i, V⟩ ⟨h9_1, h9_2, h9_3⟩ R6 N7
 have hgi := fun h : i < o.length => hgo i (by omega)
 refine R.go 5 (k3 ((i : Int) < (o.length : Int)) (fun c10 => ?_) (fun c10 => ?_))
 ·refine R.go 6 (k9 eI o 0 i (i : Int) eI_len ?_)
  have hgj := hgi (by omega)
  have hrow := hrr (o.getD i 0).toNat (by omega)
  have hr61 := inM_mono (n' := 61) (by omega) hrow
  have hml := mem_le (a.getD (o.getD i 0).toNat 0)
  refine R.go 8 (k9 eI a 0 (((o.getD i 0)).toNat) (o.getD i 0) eI_len ?_ (hji := by omega))
  refine R.go 1 (k16 true (membersOf_c (a.getD (((o.getD i 0)).toNat) 0) (by first | assumption | exact inM61 (by omega) (by omega))) (R.go 4 (k17 ((fun | (k, Q) => (⟨(frm 62 [(0, LI a), (5, .ref 0), (8, .ref 1), (9, AI (i : Int)), (31, LI o), (32, AI o.length), (33, AI (i : Int)), (42, .ref 2), (43, AI ((mem (a.getD (((o.getD i 0)).toNat) 0)).length)), (44, AI (k : Int))]), [rowA eI 2 1 T', rowA eI 2 1 Q, rowA eI 2 1 (mem (a.getD (((o.getD i 0)).toNat) 0))]⟩ : St) : Nat × (List Int) → St)) (fun | (k, Q) => (k ≤ (mem (a.getD (o.getD i 0).toNat 0)).length) ∧ (Q.length = o.length) ∧ (Q = reoK a o T' V i k)) (fun | (k, Q) => (mem (a.getD (o.getD i 0).toNat 0)).length - k) (0, V) [0, 5, 8, 9, 31, 32, 33, 42, 43, 44] none ⟨(by omega), (by omega), (by rfl)⟩ ?_)))
  rintro ⟨k, Q⟩ ⟨h14_1, h14_2, h14_3⟩ R11 N12
  refine R.go 5 (k3 ((k : Int) < ((mem (a.getD (((o.getD i 0)).toNat) 0)).length : Int)) (fun c15 => ?_) (fun c15 => ?_))
  ·refine R.go 5 (k10 2 1 (mem (a.getD (((o.getD i 0)).toNat) 0)).length k (k : Int) (k12 (mem (a.getD (((o.getD i 0)).toNat) 0)) k ?_))
   have hm3 := mem_in (N := n.toNat) (by omega) hrow (show k < (mem (a.getD (o.getD i 0).toNat 0)).length by omega)
   have htr := toF_ge (o := o) (i := o.length) (j := ((mem (a.getD (o.getD i 0).toNat 0)).getD k 0).toNat) (by omega) (Nat.le_refl _)
   have hTe : T' = toF o o.length := by rw [‹T' = toF o ii›, show ii = o.length by omega]
   rw [← hTe] at htr
   refine R.go 5 (k10 1 1 Q.length i (i : Int) (k12 Q i (R.go 2 (k10 0 1 T'.length (((mem (a.getD (((o.getD i 0)).toNat) 0)).getD k 0).toNat) ((mem (a.getD (((o.getD i 0)).toNat) 0)).getD k 0) ?_ (hji := by omega)))))
   refine k12 T' (((mem (a.getD (((o.getD i 0)).toNat) 0)).getD k 0).toNat) (R.shl 1 (T'.getD (((mem (a.getD (((o.getD i 0)).toNat) 0)).getD k 0).toNat) 0) (by kernel_rfl) (by omega) (by kernel_rfl) (R.go 1 (k10 1 1 Q.length i (i : Int) (k13 1 2 Q i (bor (Q.getD i 0) (shl64 1 (T'.getD (((mem (a.getD (((o.getD i 0)).toNat) 0)).getD k 0).toNat) 0))) (R.go 3 (k1 ((k : Int) + 1) ?_))))))
   exact R.go 2 (k18 R11 (N12 (k + 1, Q.set i (bor (Q.getD i 0) (shl64 1 (T'.getD (((mem (a.getD (((o.getD i 0)).toNat) 0)).getD k 0).toNat) 0)))) [0, 5, 8, 9, 31, 32, 33, 42, 43, 44] none _ (by kernel_rfl) (by kernel_rfl) ⟨(by omega), (by (simp <;> omega)), (by rw [reoK, ← ‹Q = reoK a o T' V i k›])⟩ (by show ((mem (a.getD (o.getD i 0).toNat 0)).length - (k + 1)) < ((mem (a.getD (o.getD i 0).toNat 0)).length - k); omega)))
  refine R.go 3 (k1 ((i : Int) + 1) ?_)
  exact R.go 2 (k18 R6 (N7 (i + 1, Q) [0, 5, 8, 31, 32, 33] (some [0, 1]) _ (by kernel_rfl) (by kernel_rfl) ⟨(by omega), (by omega), (by exact reoK_e (by assumption) (by assumption) (by omega))⟩ (by show (o.length - (i + 1)) < (o.length - i); omega)))
 exact R.go 6 (k19 (ownA eI 2 1 V) (by first | (rw [‹V = reoF a o T' i›, ‹T' = toF o ii›, show i = o.length by omega, show ii = o.length by omega]; rfl) | (exfalso; omega)))
theorem leastStep_c (n : Int) (xs b X : List Int) (hF : okFr n xs = true) (ho : gPM n X) (hb : b.length ≤ 1000) : CallX Tryz.prog 191 [.ref 4, .ptr 0 0, .ptr 1 0] [.box 30 [LI xs], .box 30 [LI b], .box 2 [AI n], .box 94 [.fn 191 [.ptr 0 0, .ptr 1 0]], rowA eI 2 1 X, .box 30 [.ref 4], .box 239 [.fn 297 [.ptr 5 0, .ptr 2 0, .ptr 3 0, .ptr 6 0]]] (fun (resX : AV) (objX : List AObj) => ∃ b2 : List Int, (b2 = if cmpL (reo xs X) b < 0 then reo xs X else b) ∧ resX = .tup [] ∧ objX = [.box 30 [LI xs], .box 30 [LI b2], .box 2 [AI n], .box 94 [.fn 191 [.ptr 0 0, .ptr 1 0]], rowA eI 2 1 X, .box 30 [.ref 4], .box 239 [.fn 297 [.ptr 5 0, .ptr 2 0, .ptr 3 0, .ptr 6 0]]]) := by
 have hol : X.length ≤ 8 := by have := (okFr_rel hF).2.1; have := ho.1; omega
 have hrl := reo_len xs X
 refine CallX.dropE (CallX.ofF Tryz.func191 rfl (by kernel_rfl) ?_)
 intro usC frC hfC
 refine R.go 4 (k16 false (reo_c n xs X hF ho) ?_ (hr := ownA_closed eI_closed 2 1 (reo xs X)))
 refine R.go 4 (k20 8 (R.kfix 7 (us := usC) (by kernel_rfl) (hfC.frz 8 (LI (reo xs X)) (Nat.le_of_ble_eq_true (by kernel_rfl))) (R.go 2 (k16 true (cmpL_c (reo xs X) b (by first | omega | (simp <;> omega)) (by first | omega | (simp <;> omega))) (R.go 2 (k3 ((cmpL (reo xs X) b) < 0) (fun c1 => ?_) (fun c1 => ?_)))))))
 ·exact R.go 4 (R.retX (res := .tup []) (hp' := [.box 30 [LI xs], .box 30 [LI (reo xs X)], .box 2 [AI n], .box 94 [.fn 191 [.ptr 0 0, .ptr 1 0]], rowA eI 2 1 X, .box 30 [.ref 4], .box 239 [.fn 297 [.ptr 5 0, .ptr 2 0, .ptr 3 0, .ptr 6 0]], .dead, .dead]) (by kernel_rfl) (by kernel_rfl) (by kernel_rfl) (by kernel_rfl) ⟨[0, 1, 2, 3, 4, 5, 6], by kernel_rfl, by decide, reo xs X, by first | (rw [if_pos (by assumption)]) | (rw [if_neg (by assumption)]), by kernel_rfl, by kernel_rfl⟩)
 exact R.go 1 (R.retX (res := .tup []) (hp' := [.box 30 [LI xs], .box 30 [LI b], .box 2 [AI n], .box 94 [.fn 191 [.ptr 0 0, .ptr 1 0]], rowA eI 2 1 X, .box 30 [.ref 4], .box 239 [.fn 297 [.ptr 5 0, .ptr 2 0, .ptr 3 0, .ptr 6 0]], .dead, .dead]) (by kernel_rfl) (by kernel_rfl) (by kernel_rfl) (by kernel_rfl) ⟨[0, 1, 2, 3, 4, 5, 6], by kernel_rfl, by decide, b, by first | (rw [if_pos (by assumption)]) | (rw [if_neg (by assumption)]), by kernel_rfl, by kernel_rfl⟩)
theorem ls_len {n : Int} {xs X b b2 : List Int} (hb : b.length ≤ 1000) (hX : gPM n X) (h8 : n ≤ 8) (h : b2 = if cmpL (reo xs X) b < 0 then reo xs X else b) : b2.length ≤ 1000 := by
 have := reo_len xs X
 have := hX.1
 rw [h]; split <;> omega
theorem cut_snoc (X : List Int) (v : Int) {k : Nat} (hk : k = X.length) : (X ++ [v]).take k = X := by rw [hk, List.take_left]
theorem grow_c : ∀ (d : Nat) (n : Int) (xs b X : List Int) (u : Int) (hd : X.length + d = n.toNat) (hF : okFr n xs = true) (hX : PX n X u) (hb : b.length ≤ 1000), CallY Tryz.prog 4 297 [AI u, .ptr 5 0, .ptr 2 0, .ptr 3 0, .ptr 6 0] [.box 30 [LI xs], .box 30 [LI b], .box 2 [AI n], .box 94 [.fn 191 [.ptr 0 0, .ptr 1 0]], rowA eI 2 1 X, .box 30 [.ref 4], .box 239 [.fn 297 [.ptr 5 0, .ptr 2 0, .ptr 3 0, .ptr 6 0]]] (fun (resX : AV) (objX : List AObj) => ∃ b2 : List Int, (LST n xs X b b2 ∧ b2.length ≤ 1000) ∧ resX = .tup [] ∧ objX = [.box 30 [LI xs], .box 30 [LI b2], .box 2 [AI n], .box 94 [.fn 191 [.ptr 0 0, .ptr 1 0]], rowA eI 2 1 X, .box 30 [.ref 4], .box 239 [.fn 297 [.ptr 5 0, .ptr 2 0, .ptr 3 0, .ptr 6 0]]]) := by
 intro d
 induction d using Nat.strongRecOn with
 | _ d ih =>
 intro n xs b X u hd hF hX hb
 have hFr := okFr_rel hF
 have hb0 : 0 ≤ n ∧ n ≤ 8 := ⟨hFr.1, hFr.2.1⟩
 have hpm := fun h : X.length = n.toNat => px_pm hX h
 have hu61 := inM_mono (n' := 61) (by omega) hX.2.2.1
 refine CallY.dropE (CallY.ofF Tryz.func297 rfl (by kernel_rfl) ?_)
 intro usC frC hfC hkC
 refine R.go 2 (R.meet (⟨(frm 38 [(0, AI u), (1, .ptr 5 0), (2, .ptr 2 0), (3, .ptr 3 0), (4, .ptr 6 0), (7, .ref 4), (8, AI X.length), (9, AI n), (10, .bool (decide ((X.length : Int) = n)))]), [.box 30 [LI xs], .box 30 [LI b], .box 2 [AI n], .box 94 [.fn 191 [.ptr 0 0, .ptr 1 0]], rowA eI 2 1 X, .box 30 [.ref 4], .box 239 [.fn 297 [.ptr 5 0, .ptr 2 0, .ptr 3 0, .ptr 6 0]], .frame usC frC]⟩ : St) (by kernel_rfl) ?_ ?_)
 ·refine R.any (by decide +kernel) (by kernel_rfl) (k25 0 2 ?_ ?_)
  ·refine R.go 2 (k25 1 2 ?_ ?_)
   ·refine k16 false (size_c X) (R.go 1 (k24 2 (R.go 2 (k24 3 (R.go 2 (k23 ?_))))))
    exact k28
   refine R.go 2 (k24 1 (k16 false (size_c X) (R.go 1 (k24 3 (R.go 2 (k23 ?_))))))
   exact k28
  refine R.go 2 (k24 0 (R.go 2 (k24 1 (k16 false (size_c X) (R.go 1 (k24 3 (R.go 2 (k23 ?_))))))))
  exact k28
 refine k3 ((X.length : Int) = n) (fun c1 => ?_) (fun c1 => ?_)
 ·refine R.go 4 (k29 (k31i 7 usC frC (leastStep_c n xs b X (by assumption) (by first | assumption | exact hpm (by omega)) hb)) ?_)
  rintro _ _ ⟨_, _, ⟨b2_2, f3, rfl, rfl⟩, rfl, rfl⟩
  exact R.go 1 (R.retX (res := .tup []) (hp' := [.box 30 [LI xs], .box 30 [LI b2_2], .box 2 [AI n], .box 94 [.fn 191 [.ptr 0 0, .ptr 1 0]], rowA eI 2 1 X, .box 30 [.ref 4], .box 239 [.fn 297 [.ptr 5 0, .ptr 2 0, .ptr 3 0, .ptr 6 0]], .dead]) (by kernel_rfl) (by kernel_rfl) (by kernel_rfl) (by kernel_rfl) ⟨[0, 1, 2, 3, 4, 5, 6], by kernel_rfl, by decide, b2_2, by first | exact ⟨ls_end (by assumption) (by assumption) (by omega), by assumption⟩ | exact ⟨ls_one (hpm (by omega)) (by assumption), ls_len hb (hpm (by omega)) hb0.2 (by assumption)⟩, by kernel_rfl, by kernel_rfl⟩)
 refine R.go 7 (k17 ((fun | (i, bI, Z) => (⟨(frm 38 [(0, AI u), (1, .ptr 5 0), (4, .ptr 6 0), (14, AI n), (15, AI (i : Int))]), [.box 30 [LI xs], .box 30 [LI bI], .box 2 [AI n], .box 94 [.fn 191 [.ptr 0 0, .ptr 1 0]], rowA eI 2 1 Z, .box 30 [.ref 4], .box 239 [.fn 297 [.ptr 5 0, .ptr 2 0, .ptr 3 0, .ptr 6 0]], .frame usC frC]⟩ : St) : Nat × (List Int) × (List Int) → St)) (fun | (i, bI, Z) => ((i : Int) ≤ n) ∧ (LSI n xs X i b bI) ∧ (bI.length ≤ 1000) ∧ (X = Z)) (fun | (i, bI, Z) => n.toNat - i) (0, b, X) [0, 1, 4, 14, 15] none ⟨(by omega), (by exact ls_0 n xs X b fun o h => pm_nn h _), (by omega), (by rfl)⟩ ?_)
 rintro ⟨i, bI, Z⟩ ⟨h7_1, h7_2, h7_3, rfl⟩ R4 N5
 have hsn : (X ++ [(i : Int)]).length = X.length + 1 := by simp
 refine R.go 5 (k3 ((i : Int) < n) (fun c8 => ?_) (fun c8 => ?_))
 ·refine R.go 12 (k16 true (has_c u (i : Int) (by omega)) (R.go 2 (k4 (band (shr64 u (i : Int)) 1 = 1) (fun c9 => ?_) (fun c9 => ?_))))
  ·refine R.go 5 (k14 eI X [(i : Int)] 4 2 1 8 eI_one (R.kfix 7 (us := usC) (by kernel_rfl) hkC (k20 8 (R.kfix 7 (us := usC) (by kernel_rfl) (hfC.frz 8 (LI [(i : Int)]) (Nat.le_of_ble_eq_true (by kernel_rfl))) (R.deadF 8 (by kernel_rfl) (by kernel_rfl) (R.go 3 (R.any (by decide +kernel) (by kernel_rfl) (k27 1 ?_ (np := np_retX _ _ _ _ _ _)))))))))
   refine k27 2 ?_ (np := np_retX _ _ _ _ _ _)
   refine k25 0 3 ?_ ?_
   ·refine R.go 2 (k24 3 (R.shl 1 (i : Int) (by kernel_rfl) (by omega) (by kernel_rfl) (R.go 1 (k24 4 (R.go 2 (k24 5 (R.callZ (CallY.inF 7 usC frC (CallY.inF 7 [] [] (ih (n.toNat - ((X ++ [(i : Int)]) : List Int).length) (by omega) n xs bI (X ++ [(i : Int)]) (bor u (shl64 1 (i : Int))) (by first | omega | (simp; done) | (simp; omega)) (by assumption) (by first | assumption | exact px_step (by omega) hX (by omega) (by assumption)) h7_3) (Nat.le_of_ble_eq_true (by kernel_rfl)) (by kernel_rfl) (by kernel_rfl) (by rintro _ _ ⟨_, _, rfl, rfl⟩; exact Nat.le_of_ble_eq_true (by kernel_rfl)) 4 rfl (by kernel_rfl)) (Nat.le_of_ble_eq_true (by kernel_rfl)) (by kernel_rfl) (by kernel_rfl) (by rintro _ _ ⟨_, _, ⟨_, _, rfl, rfl⟩, rfl, rfl⟩; exact Nat.le_of_ble_eq_true (by kernel_rfl)) 4 rfl hkC) (by kernel_rfl) (by kernel_rfl) (by kernel_rfl) ?_)))))))
    rintro _ _ ⟨_, _, ⟨_, _, ⟨b2_10, f11, rfl, rfl⟩, rfl, rfl⟩, rfl, rfl⟩
    refine R.go 1 (k23 (R.go 4 (k1 (((X ++ [(i : Int)]).length : Int) - 1) (R.cut eI (X ++ [(i : Int)]) 4 2 ((((X ++ [(i : Int)]).length : Int) - 1).toNat) (((X ++ [(i : Int)]).length : Int) - 1) (by kernel_rfl) (by omega) eI_len (by first | omega | (simp only [List.length_set]; omega) | (simp <;> omega)) (by kernel_rfl) (R.kfix 7 (us := usC) (by kernel_rfl) hkC (R.go 4 (k1 ((i : Int) + 1) ?_)))))))
    exact R.go 2 (k18 R4 (N5 (i + 1, b2_10, (X ++ [(i : Int)]).take ((((X ++ [(i : Int)]).length : Int) - 1).toNat)) [0, 1, 4, 14, 15] (some [0, 1, 2, 3, 4, 5, 6, 7]) _ (by kernel_rfl) (canonF (fr := frC) (fun (frX : List AV) => (⟨(frm 38 [(0, AI u), (1, .ptr 5 0), (4, .ptr 6 0), (14, AI n), (15, AI ((i : Int) + 1))]), [.box 30 [LI xs], .box 30 [LI b2_10], .box 2 [AI n], .box 94 [.fn 191 [.ptr 0 0, .ptr 1 0]], rowA eI 2 1 ((X ++ [(i : Int)]).take ((((X ++ [(i : Int)]).length : Int) - 1).toNat)), .box 30 [.ref 4], .box 239 [.fn 297 [.ptr 5 0, .ptr 2 0, .ptr 3 0, .ptr 6 0]], .frame usC frX]⟩ : St)) (hfC.ren _ (by kernel_rfl)) (by kernel_rfl) (by kernel_rfl)) ⟨(by omega), (by first | exact ls_skip hb0.2 hX (by assumption) (by omega) (by omega) (by assumption) | exact ls_rec (by assumption) (by omega) ((by assumption : LST n xs (X ++ [(i : Int)]) bI _ ∧ _).1)), (by omega), (by first | rfl | exact (cut_snoc _ _ (by simp)).symm)⟩ (by show (n.toNat - (i + 1)) < (n.toNat - i); omega)))
   refine R.shl 1 (i : Int) (by kernel_rfl) (by omega) (by kernel_rfl) (R.go 1 (k25 0 4 ?_ ?_))
   ·refine R.go 2 (k24 4 (R.go 2 (k24 5 (R.callZ (CallY.inF 7 usC frC (CallY.inF 7 [] [] (ih (n.toNat - ((X ++ [(i : Int)]) : List Int).length) (by omega) n xs bI (X ++ [(i : Int)]) (bor u (shl64 1 (i : Int))) (by first | omega | (simp; done) | (simp; omega)) (by assumption) (by first | assumption | exact px_step (by omega) hX (by omega) (by assumption)) h7_3) (Nat.le_of_ble_eq_true (by kernel_rfl)) (by kernel_rfl) (by kernel_rfl) (by rintro _ _ ⟨_, _, rfl, rfl⟩; exact Nat.le_of_ble_eq_true (by kernel_rfl)) 4 rfl (by kernel_rfl)) (Nat.le_of_ble_eq_true (by kernel_rfl)) (by kernel_rfl) (by kernel_rfl) (by rintro _ _ ⟨_, _, ⟨_, _, rfl, rfl⟩, rfl, rfl⟩; exact Nat.le_of_ble_eq_true (by kernel_rfl)) 4 rfl hkC) (by kernel_rfl) (by kernel_rfl) (by kernel_rfl) ?_))))
    rintro _ _ ⟨_, _, ⟨_, _, ⟨b2_12, f13, rfl, rfl⟩, rfl, rfl⟩, rfl, rfl⟩
    refine R.go 1 (k23 (R.go 4 (k1 (((X ++ [(i : Int)]).length : Int) - 1) (R.cut eI (X ++ [(i : Int)]) 4 2 ((((X ++ [(i : Int)]).length : Int) - 1).toNat) (((X ++ [(i : Int)]).length : Int) - 1) (by kernel_rfl) (by omega) eI_len (by first | omega | (simp only [List.length_set]; omega) | (simp <;> omega)) (by kernel_rfl) (R.kfix 7 (us := usC) (by kernel_rfl) hkC (R.go 4 (k1 ((i : Int) + 1) ?_)))))))
    exact R.go 2 (k18 R4 (N5 (i + 1, b2_12, (X ++ [(i : Int)]).take ((((X ++ [(i : Int)]).length : Int) - 1).toNat)) [0, 1, 4, 14, 15] (some [0, 1, 2, 3, 4, 5, 6, 7]) _ (by kernel_rfl) (canonF (fr := frC) (fun (frX : List AV) => (⟨(frm 38 [(0, AI u), (1, .ptr 5 0), (4, .ptr 6 0), (14, AI n), (15, AI ((i : Int) + 1))]), [.box 30 [LI xs], .box 30 [LI b2_12], .box 2 [AI n], .box 94 [.fn 191 [.ptr 0 0, .ptr 1 0]], rowA eI 2 1 ((X ++ [(i : Int)]).take ((((X ++ [(i : Int)]).length : Int) - 1).toNat)), .box 30 [.ref 4], .box 239 [.fn 297 [.ptr 5 0, .ptr 2 0, .ptr 3 0, .ptr 6 0]], .frame usC frX]⟩ : St)) (hfC.ren _ (by kernel_rfl)) (by kernel_rfl) (by kernel_rfl)) ⟨(by omega), (by first | exact ls_skip hb0.2 hX (by assumption) (by omega) (by omega) (by assumption) | exact ls_rec (by assumption) (by omega) ((by assumption : LST n xs (X ++ [(i : Int)]) bI _ ∧ _).1)), (by omega), (by first | rfl | exact (cut_snoc _ _ (by simp)).symm)⟩ (by show (n.toNat - (i + 1)) < (n.toNat - i); omega)))
   refine R.go 2 (k24 0 (R.go 2 (k24 5 (R.callZ (CallY.inF 7 usC frC (CallY.inF 7 [] [] (ih (n.toNat - ((X ++ [(i : Int)]) : List Int).length) (by omega) n xs bI (X ++ [(i : Int)]) (bor u (shl64 1 (i : Int))) (by first | omega | (simp; done) | (simp; omega)) (by assumption) (by first | assumption | exact px_step (by omega) hX (by omega) (by assumption)) h7_3) (Nat.le_of_ble_eq_true (by kernel_rfl)) (by kernel_rfl) (by kernel_rfl) (by rintro _ _ ⟨_, _, rfl, rfl⟩; exact Nat.le_of_ble_eq_true (by kernel_rfl)) 4 rfl (by kernel_rfl)) (Nat.le_of_ble_eq_true (by kernel_rfl)) (by kernel_rfl) (by kernel_rfl) (by rintro _ _ ⟨_, _, ⟨_, _, rfl, rfl⟩, rfl, rfl⟩; exact Nat.le_of_ble_eq_true (by kernel_rfl)) 4 rfl hkC) (by kernel_rfl) (by kernel_rfl) (by kernel_rfl) ?_))))
   rintro _ _ ⟨_, _, ⟨_, _, ⟨b2_14, f15, rfl, rfl⟩, rfl, rfl⟩, rfl, rfl⟩
   refine R.go 1 (k23 (R.go 4 (k1 (((X ++ [(i : Int)]).length : Int) - 1) (R.cut eI (X ++ [(i : Int)]) 4 2 ((((X ++ [(i : Int)]).length : Int) - 1).toNat) (((X ++ [(i : Int)]).length : Int) - 1) (by kernel_rfl) (by omega) eI_len (by first | omega | (simp only [List.length_set]; omega) | (simp <;> omega)) (by kernel_rfl) (R.kfix 7 (us := usC) (by kernel_rfl) hkC (R.go 4 (k1 ((i : Int) + 1) ?_)))))))
   exact R.go 2 (k18 R4 (N5 (i + 1, b2_14, (X ++ [(i : Int)]).take ((((X ++ [(i : Int)]).length : Int) - 1).toNat)) [0, 1, 4, 14, 15] (some [0, 1, 2, 3, 4, 5, 6, 7]) _ (by kernel_rfl) (canonF (fr := frC) (fun (frX : List AV) => (⟨(frm 38 [(0, AI u), (1, .ptr 5 0), (4, .ptr 6 0), (14, AI n), (15, AI ((i : Int) + 1))]), [.box 30 [LI xs], .box 30 [LI b2_14], .box 2 [AI n], .box 94 [.fn 191 [.ptr 0 0, .ptr 1 0]], rowA eI 2 1 ((X ++ [(i : Int)]).take ((((X ++ [(i : Int)]).length : Int) - 1).toNat)), .box 30 [.ref 4], .box 239 [.fn 297 [.ptr 5 0, .ptr 2 0, .ptr 3 0, .ptr 6 0]], .frame usC frX]⟩ : St)) (hfC.ren _ (by kernel_rfl)) (by kernel_rfl) (by kernel_rfl)) ⟨(by omega), (by first | exact ls_skip hb0.2 hX (by assumption) (by omega) (by omega) (by assumption) | exact ls_rec (by assumption) (by omega) ((by assumption : LST n xs (X ++ [(i : Int)]) bI _ ∧ _).1)), (by omega), (by first | rfl | exact (cut_snoc _ _ (by simp)).symm)⟩ (by show (n.toNat - (i + 1)) < (n.toNat - i); omega)))
  refine R.go 3 (k1 ((i : Int) + 1) ?_)
  exact R.go 2 (k18 R4 (N5 (i + 1, bI, X) [0, 1, 4, 14, 15] none _ (by kernel_rfl) (by kernel_rfl) ⟨(by omega), (by first | exact ls_skip hb0.2 hX (by assumption) (by omega) (by omega) (by assumption) | exact ls_rec (by assumption) (by omega) ((by assumption : LST n xs (X ++ [(i : Int)]) bI _ ∧ _).1)), (by omega), (by first | rfl | exact (cut_snoc _ _ (by simp)).symm)⟩ (by show (n.toNat - (i + 1)) < (n.toNat - i); omega)))
 exact R.go 1 (R.retX (res := .tup []) (hp' := [.box 30 [LI xs], .box 30 [LI bI], .box 2 [AI n], .box 94 [.fn 191 [.ptr 0 0, .ptr 1 0]], rowA eI 2 1 X, .box 30 [.ref 4], .box 239 [.fn 297 [.ptr 5 0, .ptr 2 0, .ptr 3 0, .ptr 6 0]], .dead]) (by kernel_rfl) (by kernel_rfl) (by kernel_rfl) (by kernel_rfl) ⟨[0, 1, 2, 3, 4, 5, 6], by kernel_rfl, by decide, bI, by first | exact ⟨ls_end (by assumption) (by assumption) (by omega), by assumption⟩ | exact ⟨ls_one (hpm (by omega)) (by assumption), ls_len hb (hpm (by omega)) hb0.2 (by assumption)⟩, by kernel_rfl, by kernel_rfl⟩)
theorem perms_c (n : Int) (xs b : List Int) (hF : okFr n xs = true) (hb : b.length ≤ 1000) : CallX Tryz.prog 190 [AI n, .fn 191 [.ptr 0 0, .ptr 1 0]] [.box 30 [LI xs], .box 30 [LI b]] (fun (resX : AV) (objX : List AObj) => ∃ b2 : List Int, (LST n xs [] b b2 ∧ b2.length ≤ 1000) ∧ resX = .tup [] ∧ objX = [.box 30 [LI xs], .box 30 [LI b2]]) := by
 have hFr := okFr_rel hF
 have hb0 : 0 ≤ n ∧ n ≤ 8 := ⟨hFr.1, hFr.2.1⟩
 have hpx := px_nil n
 refine CallX.dropE (CallX.ofF Tryz.func190 rfl (by kernel_rfl) ?_)
 intro usC frC hfC
 refine R.go 8 (R.mkC eI 0 2 8 0 ((n).toNat) 0 n (by kernel_rfl) rfl (by omega) (by omega) (by decide) (by omega) (by kernel_rfl) (R.go 14 (R.callZ (CallY.inF 2 usC frC (grow_c (n.toNat - ([] : List Int).length) n xs b [] 0 (by first | omega | (simp; done) | (simp; omega)) (by assumption) (by first | assumption | exact px_step (by omega) hX (by omega) (by assumption)) hb) (Nat.le_of_ble_eq_true (by kernel_rfl)) (by kernel_rfl) (by kernel_rfl) (by rintro _ _ ⟨_, _, rfl, rfl⟩; exact Nat.le_of_ble_eq_true (by kernel_rfl)) 5 rfl (hfC.kill 5 (Nat.le_of_ble_eq_true (by kernel_rfl)))) (by kernel_rfl) (by kernel_rfl) (by kernel_rfl) ?_)))
 rintro _ _ ⟨_, _, ⟨b2_1, f2, rfl, rfl⟩, rfl, rfl⟩
 exact R.go 1 (R.retX (res := .tup []) (hp' := [.box 30 [LI xs], .box 30 [LI b2_1], .dead, .box 2 [AI n], .box 94 [.fn 191 [.ptr 0 0, .ptr 1 0]], rowA eI 2 1 [], .box 30 [.ref 5], .box 239 [.fn 297 [.ptr 6 0, .ptr 3 0, .ptr 4 0, .ptr 7 0]]]) (by kernel_rfl) (by kernel_rfl) (by kernel_rfl) (by kernel_rfl) ⟨[0, 1], by kernel_rfl, by decide, b2_1, by assumption, by kernel_rfl, by kernel_rfl⟩)
theorem ls_n {n : Int} {xs r : List Int} (hl : (xs.length : Int) = n) (h : LST n xs [] xs r) : (r.length : Int) = n := by
 rcases h.1 with rfl | ⟨⟨o, ho, e⟩, _⟩
 ·exact hl
 ·have := ho.1
  rw [e, reo_len]; omega
theorem leastRel_c (n : Int) (xs : List Int) (hF : okFr n xs = true) : CallX Tryz.prog 92 [LI xs] [] (fun (resX : AV) (objX : List AObj) => ∃ r : List Int, (LST n xs [] xs r ∧ r.length ≤ 1000) ∧ resX = LI r ∧ objX = []) := by
 have hFr := okFr_rel hF
 have hb0 : 0 ≤ n ∧ n ≤ 8 ∧ (xs.length : Int) = n := ⟨hFr.1, hFr.2.1, hFr.2.2.1⟩
 obtain rfl := hb0.2.2
 refine CallX.dropE (CallX.ofF Tryz.func92 rfl (by kernel_rfl) ?_)
 intro usC frC hfC
 refine R.go 8 (k16 true (clone_c xs (by first | omega | (simp <;> omega))).frz (R.go 6 (k16 true (size_c xs) (R.go 1 (k29 (k31i 0 usC frC (perms_c xs.length xs xs (by assumption) (by first | assumption | omega))) ?_)))))
 rintro _ _ ⟨_, _, ⟨b2_1, f2, rfl, rfl⟩, rfl, rfl⟩
 exact R.go 6 (R.retX (res := LI b2_1) (hp' := [.dead, .box 30 [LI xs], .box 30 [LI b2_1]]) (by kernel_rfl) (by kernel_rfl) (by kernel_rfl) (by kernel_rfl) ⟨[], by kernel_rfl, by decide, b2_1, by assumption, by kernel_rfl, by kernel_rfl⟩)
theorem posetOfU_c (xs : List Int) : CallA Tryz.prog 89 [LI xs] (.agg [AI xs.length, LI xs]) := by
 refine CallA.of Tryz.func89 rfl (by kernel_rfl) (R.go 7 (k16 true (size_c xs) ?_))
 exact R.go 4 (k19 (.agg [AI xs.length, LI xs]) (by rfl))
theorem LP_big (n : Int) (xs : List Int) (hP : okPo n xs = true) (hn : (n : Int) > 6) : CallA Tryz.prog 50 [.agg [AI n, LI xs]] (.tup [.agg [AI 0, .nil], AI 3]) := by
 have hF : okFr n xs = true := okPo_fr hP
 have hbr := okFr_rel hF
 have hb : 0 ≤ n ∧ n ≤ 8 ∧ (xs.length : Int) = n := ⟨hbr.1, hbr.2.1, hbr.2.2.1⟩
 refine CallA.of Tryz.func50 rfl (by kernel_rfl) (R.go 11 (k16 true (isPoset_c n xs (by first | omega | (simp <;> omega))) (R.go 3 (k5 (bnF hP) (R.go 7 (k3 (n > 6) (fun c1 => ?_) (fun c1 => ?_)))))))
 ·exact R.go 6 (k19 (.tup [.agg [AI 0, .nil], AI 3]) (by rfl))
 exfalso; omega -- call leastRel_c: not found: ['n']
theorem LP_impl (n : Int) (xs : List Int) (hP : okPo n xs = true) (hn : ¬ n > 6) : CallX Tryz.prog 50 [.agg [AI n, LI xs]] [] (fun (resX : AV) (objX : List AObj) => ∃ k : Int, ∃ r : List Int, (k = n ∧ LST n xs [] xs r ∧ r.length ≤ 1000) ∧ resX = .tup [.agg [AI k, LI r], AI 0] ∧ objX = []) := by
 have hF : okFr n xs = true := okPo_fr hP
 have hbr := okFr_rel hF
 have hb : 0 ≤ n ∧ n ≤ 8 ∧ (xs.length : Int) = n := ⟨hbr.1, hbr.2.1, hbr.2.2.1⟩
 refine CallX.dropE (CallX.ofF Tryz.func50 rfl (by kernel_rfl) ?_)
 intro usC frC hfC
 refine R.go 11 (k16 true (isPoset_c n xs (by first | omega | (simp <;> omega))) (R.go 3 (k5 (bnF hP) (R.go 7 (k5 (dF hn) (R.go 6 (k35a (leastRel_c n xs (by assumption)) ?_ (h0 := by rintro _ _ ⟨_, _, rfl, rfl⟩; rfl))))))))
 rintro _ ⟨r_1, f2, rfl, _⟩
 refine k16 true (posetOfU_c r_1) ?_
 exact R.go 3 (R.retX (res := .tup [.agg [AI r_1.length, LI r_1], AI 0]) (hp' := [.dead, .box 35 [AI n, LI xs], .box 35 [AI r_1.length, LI r_1]]) (by kernel_rfl) (by kernel_rfl) (by kernel_rfl) (by kernel_rfl) ⟨[], by kernel_rfl, by decide, r_1.length, r_1, by (have hq := (by assumption : LST n xs [] xs _ ∧ _); exact ⟨ls_n hb.2.2 hq.1, hq.1, hq.2⟩), by kernel_rfl, by kernel_rfl⟩)
end Go.Proofs.YtjllngcefoohpaaGreat

/-! The dual of the algebra of a dual's upsets: isomorphic orders, least forms. -/
namespace Go.Proofs.YtjllngcefoohpaaGreat
open Go.RowKit Go.Abs

theorem cmpI_neg (x y : Int) : cmpI y x = - cmpI x y := by
 unfold cmpI
 repeat' split
 all_goals omega
theorem cmpL_neg : ∀ a b : List Int, cmpL b a = - cmpL a b
 | [], [] => rfl
 | [], _ :: _ => rfl
 | _ :: _, [] => rfl
 | x :: a, y :: b => by
  rw [cmpL, cmpL, cmpI_neg x y]
  by_cases e : cmpI x y = 0
  ·rw [if_pos e, if_pos (by omega)]; exact cmpL_neg a b
  ·rw [if_neg e, if_neg (by omega)]
theorem cmpL_zero : ∀ {a b : List Int}, cmpL a b = 0 → a = b
 | [], [], _ => rfl
 | [], _ :: _, h => by simp [cmpL] at h
 | _ :: _, [], h => by simp [cmpL] at h
 | x :: a, y :: b, h => by
  rw [cmpL] at h
  by_cases e : cmpI x y = 0
  ·rw [if_pos e] at h; rw [cmpI_eq.1 e, cmpL_zero h]
  ·rw [if_neg e] at h; exact absurd h e
theorem lt_tri {a b : List Int} (h1 : ¬ ltL a b) (h2 : ¬ ltL b a) : a = b := by
 refine cmpL_zero ?_
 have := cmpL_neg a b
 unfold ltL at h1 h2; omega
def idP (n : Int) : List Int := (List.range n.toNat).map fun i : Nat => (i : Int)
theorem idP_get {n : Int} {i : Nat} (h : i < n.toNat) : (idP n).getD i 0 = (i : Int) := by simp [idP, List.getD_eq_getElem?_getD, List.getElem?_range h]
theorem idP_pm (n : Int) : gPM n (idP n) := ⟨by simp [idP], nodup_map List.nodup_range fun x _ y _ e => by omega, fun v hv => by
 obtain ⟨i, hi, rfl⟩ := List.mem_map.1 hv
 have := List.mem_range.1 hi; omega⟩
theorem reo_id {n : Int} {a o : List Int} (hP : okPo n a = true) (ho : gPM n o) (h : ∀ i, i < n.toNat → o.getD i 0 = (i : Int)) : reo a o = a := by
 obtain ⟨h0, h8, hl, hr, _⟩ := hq_po_rel hP
 refine rowN_ext (N := n.toNat) (by rw [reo_len, ho.1]) (by omega) fun i hi => ?_
 refine hq_bits_eq (N := n.toNat) (reo_bits (okPo_fr hP) ho hi).1 (hr.2 i hi) fun k hk => ?_
 rw [(reo_bits (okPo_fr hP) ho hi).2 k, h i hi, h k hk]
 simp [hk]
theorem toF_pm {n : Int} {o : List Int} (h : gPM n o) : gPM n (toF o o.length) ∧ ∀ i, i < n.toNat → (cmpO o (toF o o.length)).getD i 0 = (i : Int) := by
 have hol := h.1
 have hg : ∀ y, y < n.toNat → ∃ k, k < n.toNat ∧ o.getD k 0 = (y : Int) ∧ (toF o o.length).getD y 0 = (k : Int) := fun y hy => by
  obtain ⟨k, hk, e⟩ := gpm_onto h hy
  have := toF_inv h o.length (by omega) k (by omega)
  rw [e, Int.toNat_natCast] at this
  exact ⟨k, hk, e, this⟩
 have hge : ∀ (i : Nat) (hi : i < (toF o o.length).length), (toF o o.length)[i] = (toF o o.length).getD i 0 := fun i hi => by rw [List.getD_eq_getElem?_getD, List.getElem?_eq_getElem hi]; rfl
 have hlen : (toF o o.length).length = n.toNat := by rw [toF_len, hol]
 have hP : gPM n (toF o o.length) := by
  refine ⟨hlen, List.pairwise_iff_getElem.2 fun i j hi hj hlt e => ?_, fun v hv => ?_⟩
  ·rw [hge i hi, hge j hj] at e
   obtain ⟨k, _, e1, e2⟩ := hg i (by omega)
   obtain ⟨k', _, e1', e2'⟩ := hg j (by omega)
   have : k = k' := by omega
   subst this; omega
  ·obtain ⟨i, hi, e⟩ := List.getElem_of_mem hv
   rw [hge i hi] at e
   obtain ⟨k, hk, _, e2⟩ := hg i (by omega)
   omega
 refine ⟨hP, fun i hi => ?_⟩
 obtain ⟨k, hk, e1, e2⟩ := hg i hi
 rw [cmpO_get hP hi, e2, Int.toNat_natCast, e1]
theorem ls_iso {n : Int} {P Q o0 r1 r2 : List Int} (hP : okPo n P = true) (ho : gPM n o0) (hQ : Q = reo P o0) (h1 : LST n P [] P r1) (h2 : LST n Q [] Q r2) : r1 = r2 := by
 subst hQ
 have hQo := reo_po hP ho
 have hex : ∀ o : List Int, Ext [] o := fun o => rfl
 obtain ⟨hpm, hid⟩ := toF_pm ho
 have hback : reo (reo P o0) (toF o0 o0.length) = P := by
  rw [reo_reo hP ho hpm]; exact reo_id hP (cmpO_pm ho hpm) hid
 have f : ∀ {X r : List Int}, okPo n X = true → LST n X [] X r → ∃ o, gPM n o ∧ r = reo X o := fun {X r} hX hr => by
  rcases hr.1 with e | ⟨⟨o, ho, e⟩, _⟩
  ·exact ⟨_, idP_pm n, by rw [e, reo_id hX (idP_pm n) fun i hi => idP_get hi]⟩
  ·exact ⟨o, ho, e⟩
 obtain ⟨a, ha, ea⟩ := f hP h1
 obtain ⟨b, hb, eb⟩ := f hQo h2
 refine lt_tri (fun q => ?_) (fun q => ?_)
 ·refine h2.2 (cmpO (toF o0 o0.length) a) (cmpO_pm hpm ha) (hex _) ?_
  rw [← reo_reo hQo hpm ha, hback, ← ea]; exact q
 ·refine h1.2 (cmpO o0 b) (cmpO_pm ho hb) (hex _) ?_
  rw [← reo_reo hP ho hb, ← eb]; exact q

section
variable {xs ys : List Int} {f : Nat → Nat} (hI : Iso xs ys f) (h : HyOK xs) (hO : Ord ys)
include hI h hO
theorem iso_irN : (irN ys).length = (irN xs).length := by
 refine Nat.le_antisymm ?_ ?_
 ·have := glen_le (l := irN ys) (m := (irN xs).map f) (irN_nodup ys) fun y hy => by
   obtain ⟨h1, h2⟩ := irN_mem.1 hy
   obtain ⟨x, hx, rfl⟩ := hI.onto y (by have := hI.len; omega)
   exact List.mem_map.2 ⟨x, irN_mem.2 ⟨hx, (iso_ir hI h hO hx).1 h2⟩, rfl⟩
  simpa using this
 ·have := glen_le (l := (irN xs).map f) (m := irN ys) (nodup_map (irN_nodup xs) fun x hx y hy e => hI.inj x y (irN_mem.1 hx).1 (irN_mem.1 hy).1 e) fun y hy => by
   obtain ⟨x, hx, rfl⟩ := List.mem_map.1 hy
   obtain ⟨h1, h2⟩ := irN_mem.1 hx
   exact irN_mem.2 ⟨by have := hI.len; have := hI.lt x h1; omega, (iso_ir hI h hO h1).2 h2⟩
  simpa using this
theorem iso_dual (h8 : (irN xs).length ≤ 8) : ∃ o, gPM ((irN xs).length : Int) o ∧ dualL ys = reo (dualL xs) o := by
 have hys := iso_hy hI h hO
 have hl := iso_irN hI h hO
 have hex : ∀ i, i < (irN xs).length → ∃ k, k < (irN xs).length ∧ f ((irN xs).getD k 0) = (irN ys).getD i 0 := fun i hi => by
  obtain ⟨g1, g2⟩ := irN_get (xs := ys) (i := i) (by omega)
  obtain ⟨x, hx, e⟩ := hI.onto ((irN ys).getD i 0) (by have := hI.len; omega)
  rw [← e] at g2
  obtain ⟨k, hk, e2⟩ := irN_at hx ((iso_ir hI h hO hx).1 g2)
  exact ⟨k, hk, by rw [e2, e]⟩
 obtain ⟨j, hj⟩ : ∃ j : Nat → Nat, ∀ i, i < (irN xs).length → j i < (irN xs).length ∧ f ((irN xs).getD (j i) 0) = (irN ys).getD i 0 := ⟨fun i => if hi : i < (irN xs).length then Classical.choose (hex i hi) else 0, fun i hi => by simp only [dif_pos hi]; exact Classical.choose_spec (hex i hi)⟩
 have hge : ∀ i : Nat, i < (irN xs).length → ((List.range (irN xs).length).map fun i : Nat => (j i : Int)).getD i 0 = (j i : Int) := fun i hi => by
  simp [List.getD_eq_getElem?_getD, List.getElem?_range hi]
 have hpm : gPM ((irN xs).length : Int) ((List.range (irN xs).length).map fun i : Nat => (j i : Int)) := by
  refine ⟨by simp, nodup_map List.nodup_range fun x hx y hy e => ?_, fun v hv => ?_⟩
  ·have hx := List.mem_range.1 hx
   have hy := List.mem_range.1 hy
   have e1 := (hj x hx).2
   rw [Int.ofNat.inj e] at e1
   exact irN_inj (by omega) (by omega) (e1.symm.trans (hj y hy).2)
  ·obtain ⟨i, hi, rfl⟩ := List.mem_map.1 hv
   have := (hj i (List.mem_range.1 hi)).1
   omega
 refine ⟨_, hpm, ?_⟩
 have hF := okPo_fr (dual_po h h8)
 refine rowN_ext (N := (irN xs).length) (by rw [dualL_len, hl]) (by rw [reo_len]; simp) fun i hi => ?_
 refine hq_bits_eq (N := (irN xs).length) (by have := (dual_rel hys).2 i (by omega); rwa [hl] at this) (reo_bits hF hpm (i := i) hi).1 fun k hk => ?_
 obtain ⟨i1, i2⟩ := hj i hi
 obtain ⟨k1, k2⟩ := hj k hk
 rw [dual_bits hys (by omega), (reo_bits hF hpm (i := i) hi).2 k, hge i hi, hge k hk, Int.toNat_natCast, Int.toNat_natCast, dual_bits h i1, hl, Int.toNat_natCast, ← i2, ← k2, ← hI.le _ _ (irN_get k1).1 (irN_get i1).1]
 exact ⟨fun q => ⟨hk, k1, q.2⟩, fun q => ⟨hk, q.2.2⟩⟩
end

def duU (xs : List Int) : List Int := upL ((irN xs).length : Int) (dualL xs)
noncomputable def ixU (xs : List Int) (x : Nat) : Nat := Classical.epsilon fun k => k < (duU xs).length ∧ (duU xs).getD k 0 = setX xs x
section
variable {xs : List Int} (h : HyOK xs) (h8 : (irN xs).length ≤ 8)
include h h8
theorem duU_mem {m : Int} : m ∈ duU xs ↔ ∃ x, x < xs.length ∧ setX xs x = m := by
 have hP := dual_po h h8
 have e : duU xs = upR ((irN xs).length : Int) (dualL xs) := by rw [upR, if_pos hP]; rfl
 rw [e, hq_up_iff hP, Int.toNat_natCast]
 constructor
 ·rintro ⟨a, b⟩; exact setX_onto h a b
 ·rintro ⟨x, hx, rfl⟩; exact ⟨(setX_in h x).1, setX_up h x⟩
theorem duU_len : (duU xs).length = xs.length := by
 refine Nat.le_antisymm ?_ ?_
 ·have := glen_le (l := duU xs) (m := (List.range xs.length).map (setX xs)) (hq_upTo_nodup _) fun m hm => by
   obtain ⟨x, hx, e⟩ := (duU_mem h h8).1 hm
   exact List.mem_map.2 ⟨x, List.mem_range.2 hx, e⟩
  simpa using this
 ·have := glen_le (l := (List.range xs.length).map (setX xs)) (m := duU xs) (nodup_map List.nodup_range fun x hx y hy e => setX_inj h (List.mem_range.1 hx) (List.mem_range.1 hy) e) fun m hm => by
   obtain ⟨x, hx, e⟩ := List.mem_map.1 hm
   exact (duU_mem h h8).2 ⟨x, List.mem_range.1 hx, e⟩
  simpa using this
theorem duU_sys : SysU (irN xs).length (duU xs) (uJ ((irN xs).length : Int) (dualL xs)) := up_sys (dual_po h h8) (by have := duU_len h h8; have := h.n30; unfold duU at *; omega)
theorem ixU_get {x : Nat} (hx : x < xs.length) : ixU xs x < (duU xs).length ∧ (duU xs).getD (ixU xs x) 0 = setX xs x := by
 obtain ⟨k, hk, e⟩ := List.getElem_of_mem ((duU_mem h h8).2 ⟨x, hx, rfl⟩)
 exact Classical.epsilon_spec (p := fun k => k < (duU xs).length ∧ (duU xs).getD k 0 = setX xs x) ⟨k, hk, by rw [List.getD_eq_getElem?_getD, List.getElem?_eq_getElem hk]; exact e⟩
theorem ixU_is {x k : Nat} (hx : x < xs.length) (hk : k < (duU xs).length) : (duU xs).getD k 0 = setX xs x ↔ k = ixU xs x := by
 obtain ⟨a, b⟩ := ixU_get h h8 hx
 constructor
 ·intro e; exact (duU_sys h h8).inj _ _ hk a (e.trans b.symm)
 ·rintro rfl; exact b
theorem duU_hy : HyOK (ordU (duU xs)) := sys_hy (duU_sys h h8)
theorem duU_iso : Iso xs (ordU (duU xs)) (ixU xs) := by
 have hl := duU_len h h8
 have hS := duU_sys h h8
 refine ⟨by rw [ordU_len, hl], fun x hx => by have := (ixU_get h h8 hx).1; omega, fun x y hx hy e => ?_, fun y hy => ?_, fun x y hx hy => ?_⟩
 ·have h1 := (ixU_get h h8 hx).2
  rw [e, (ixU_get h h8 hy).2] at h1
  exact setX_inj h hx hy h1.symm
 ·have hy' : y < (duU xs).length := by omega
  have hm : (duU xs).getD y 0 ∈ duU xs := by rw [List.getD_eq_getElem?_getD, List.getElem?_eq_getElem hy']; exact List.getElem_mem _
  obtain ⟨x, hx, e⟩ := (duU_mem h h8).1 hm
  exact ⟨x, hx, ((ixU_is h h8 hx hy').1 e.symm).symm⟩
 ·obtain ⟨a, a2⟩ := ixU_get h h8 hx
  obtain ⟨b, b2⟩ := ixU_get h h8 hy
  show leX xs x y ↔ tb ((ordU (duU xs)).getD (ixU xs x) 0) (ixU xs y) = true
  rw [ordU_tb hS a, sub_bits hS a b, a2, b2, setX_le h hx hy]
  exact ⟨fun q => ⟨b, q⟩, fun q => q.2⟩
end
end Go.Proofs.YtjllngcefoohpaaGreat
