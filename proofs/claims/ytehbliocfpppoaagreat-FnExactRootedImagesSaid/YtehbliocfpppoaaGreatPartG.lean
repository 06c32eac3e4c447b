/- Texts of the proof: SymL, SymM, Sym4, Sym6, Sym9, Sym3, Sym0, Syma. -/
import Derived.Laws.StructEq
import Derived.Test.YtehbliocfpppoaaGreatPartF

/-! Calls of which only what holds behind them is told (draws). -/
namespace Go.Abs
open Go.RowKit Go.ChangeShapes Go.WideShapes Go.Deep
def CallX (P : Program) (f : FuncId) (args : List AV) (hp : List AObj) (Φ : AV → List AObj → Prop) : Prop :=
 Enters P f ∧ ∀ (Z0 F : Nat → Prop) (w0 w : World) (μ vs us : List Value) (fr : List AV), (∀ b, F b → w0.heap.size ≤ b ∧ b < w.heap.size) → HRel w (Zone Z0 F w0.heap.size) w0.heap.size μ hp → RelL w (Zone Z0 F w0.heap.size) μ args vs → RelL w (Zone Z0 F w0.heap.size) μ fr us → Below w0.heap.size w0 w →
  Calls P f vs.toArray w fun e w' => ∃ v μ' F' res hp', Φ res hp' ∧ e = .returned v ∧ (∀ b, F' b → w0.heap.size ≤ b ∧ b < w'.heap.size) ∧ HRel w' (Zone Z0 F' w0.heap.size) w0.heap.size μ' hp' ∧ Rel w' (Zone Z0 F' w0.heap.size) μ' res v ∧ RelL w' (Zone Z0 F' w0.heap.size) μ' fr us ∧ Below w0.heap.size w0 w'
section
variable {rd : Option Nat} {P : Program} {m : M} {Q : Exit → St → Prop}
theorem CallX.mono {f : FuncId} {args : List AV} {hp : List AObj} {Φ Ψ : AV → List AObj → Prop} (h : CallX P f args hp Φ) (hm : ∀ r h', Φ r h' → Ψ r h') : CallX P f args hp Ψ := by
 refine ⟨h.1, fun Z0 F w0 w μ vs us fr hFb hH hvs hus hbel => (h.2 Z0 F w0 w μ vs us fr hFb hH hvs hus hbel).mono ?_⟩
 rintro e w' ⟨v, μ', F', res, hp', hΦ, r⟩
 exact ⟨v, μ', F', res, hp', hm _ _ hΦ, r⟩
def retX (P : Program) (fn : Func) (n : Nat) (us : List Value) (fr : List AV) (Φ : AV → List AObj → Prop) : Exit → St → Prop := fun e st' => ∃ res hp', Φ res hp' ∧ Go.Abs.retS P fn n us fr res hp' e st'
theorem CallX.of {f : FuncId} {fn : Func} {c : Code} {args : List AV} {hp : List AObj} {Φ : AV → List AObj → Prop} (hf : P.funcs[f]? = some fn) (hb : fn.body = some c) (hnm : (fn.name == "runtime.NumGoroutine") = false)
  (h : ∀ us fr, Runs none P ⟨[.code c], ⟨frameOf fn.ntmps args, hp ++ [.frame us fr]⟩⟩ (retX P fn hp.length us fr Φ)) : CallX P f args hp Φ := by
 refine ⟨enters_of hf hnm (by rw [hb]; rfl), ?_⟩
 intro Z0 F w0 w μ vs us fr hFb hH hvs hus hbel
 have hlen := hvs.length
 refine calls_of_wpIn hf hb ?_
 have hS : Sim Z0 w0 ⟨frameOf fn.ntmps args, hp ++ [.frame us fr]⟩ { tmps := vs.toArray ++ Array.replicate (fn.ntmps - vs.toArray.size) undef, defers := [] } w := by
  refine ⟨μ ++ [.bool false], F, hFb, hH.extend1 (zone_new hbel.size hFb) (Below.refl _ _) ?_ (fun g hg => by simp [blk] at hg) rfl, ?_, .inl rfl, hbel⟩
  ·exact RelL.keep (w := w) (fun _ _ _ => rfl) (fun i u hu => append_old i u hu) hus
  ·simp only [Array.toList_append, Array.toList_replicate, List.size_toArray, hlen, frameOf]
   refine RelL.append (RelL.keep (w := w) (fun _ _ _ => rfl) (fun i u hu => append_old i u hu) hvs) ?_
   generalize fn.ntmps - args.length = n
   induction n with
   | zero => exact RelL.nil
   | succ n ih => exact RelL.cons (by simp [Rel]) ih
 have hrun2 := h us fr
 simp only [runs_iff] at hrun2
 simp only [RunsK] at hrun2
 refine wpIn_mono (hrun2 Z0 w0 _ w hS) ?_
 have fin : ∀ (e : Exit) (st' : St) (a' : Act) (w' : World), retX P fn hp.length us fr Φ e st' → Sim Z0 w0 st' a' w' → a'.defers = [] ∧ ∃ v, (results fn a'.tmps).run P w' = .ok v w' ∧ ∃ v' μ' F' res hp', Φ res hp' ∧ Ending.returned v = .returned v' ∧ (∀ b, F' b → w0.heap.size ≤ b ∧ b < w'.heap.size) ∧ HRel w' (Zone Z0 F' w0.heap.size) w0.heap.size μ' hp' ∧ Rel w' (Zone Z0 F' w0.heap.size) μ' res v' ∧ RelL w' (Zone Z0 F' w0.heap.size) μ' fr us ∧ Below w0.heap.size w0 w' := by
  rintro e st' a' w' ⟨res, hp', hΦ, _, hres, hfr, hh⟩ ⟨μ', F', hFb', hH', hF', hd', hbel'⟩
  obtain ⟨x, h1, h2⟩ := resIn_run hH' hF' hres
  unfold frameAt at hfr
  split at hfr
  ·rename_i us2 fr2 hi
   cases hfr
   have hil : hp.length < μ'.length := by rw [hH'.len]; exact (List.getElem?_eq_some_iff.1 hi).1
   have hfrr : RelL w' (Zone Z0 F' w0.heap.size) μ' fr us := hH'.obj _ _ _ hi (List.getElem?_eq_getElem hil)
   exact ⟨hd'.none (resIn_mark hres), x, h1, x, μ', F', res, hp', hΦ, rfl, hFb', hh ▸ hH'.bury _, h2, hfrr, hbel'⟩
  ·cases hfr
 rintro e a' w' ⟨st', hq, hS'⟩
 cases e with
 | normal => exact fin _ st' a' w' hq hS'
 | ret => exact fin _ st' a' w' hq hS'
 | exit id => (obtain ⟨_, _, _, hq, _⟩ := hq; exact absurd hq (by simp))
 | goto l => (obtain ⟨_, _, _, hq, _⟩ := hq; exact absurd hq (by simp))
 | panic ch => (obtain ⟨_, _, _, hq, _⟩ := hq; exact absurd hq (by simp))
 | outgrown => (obtain ⟨_, _, _, hq, _⟩ := hq; exact absurd hq (by simp))
theorem R.retX {fn : Func} {n : Nat} {us : List Value} {fr : List AV} {Φ : AV → List AObj → Prop} {res : AV} {hp' : List AObj} (h : (edAt m).isSome = true) (hr : resIn P fn m.st = some res) (hf : frameAt n m.st = some (us, fr)) (hh : m.st.hp.set n .dead = hp') (hΦ : Φ res hp') :
  Runs rd P m (Go.Abs.retX P fn n us fr Φ) :=
 R.fin h ⟨res, hp', hΦ, .inl rfl, hr, hf, hh⟩ ⟨res, hp', hΦ, .inr rfl, hr, hf, hh⟩
theorem OpsQ.callX {all : Array Oper} {o : Oper} {l : List Oper} {fr : List AV} {hp : List AObj} {R : Exit → St → Prop} {c : Operand} {args : Array Operand} {tys : Array TypeId} {f : FuncId} {caps : List AV} {Φ : AV → List AObj → Prop} (hnm : noMark hp = true) (hw : WantedA all o fr)
  (hop : o.op = .call { callee := .value c, args := args, argTypes := tys }) (hc : ev fr c = .fn f caps) (hcall : CallX P f (args.toList.map (ev fr) ++ caps) hp Φ) (h' : ∀ res hp', Φ res hp' → OpsQ rd P all l ⟨putF fr o.dst res, hp'⟩ R) : OpsQ rd P all (o :: l) ⟨fr, hp⟩ R := by
 intro Z0 w0 a w hS
 refine wpListIn_step fun K hK => ?_
 obtain ⟨μ, F, hFb, hH, hF, hd, hb⟩ := hS
 rw [wanted_rel hF hw, if_pos rfl]
 have hE : ∀ y, Rel w (Zone Z0 F w0.heap.size) μ (ev fr y) (a.eval y) := fun y => ev_rel hF y
 have hcv := hc ▸ hE c
 simp only [Rel] at hcv
 obtain ⟨cv, hcv, hrc⟩ := hcv
 have hargs' : RelL w (Zone Z0 F w0.heap.size) μ (args.toList.map (ev fr)) (args.toList.map a.eval) := by
  generalize args.toList = l
  induction l with
  | nil => exact RelL.nil
  | cons x l ih => exact RelL.cons (hE x) ih
 obtain ⟨hen, hcall⟩ := hcall
 have hC := hcall Z0 F w0 w μ _ _ fr hFb hH (hargs'.append hrc) hF hb
 have hrun : (execOp a.eval o).run P w = .ok (.enter f (args.toList.map a.eval ++ cv).toArray) w := by
  have e1 : (args.map a.eval ++ cv.toArray) = (args.toList.map a.eval ++ cv).toArray := by
   apply Array.toList_inj.1; simp
  simp only [execOp, hop, resolve, Deferred.ofValue, hcv, Sem.run_bind, Sem.run_pure, Result.andThen_ok, invoke, Array.empty_append]
  rw [e1]
  exact hen _ _
 refine wpIn_of_run (fun c' => by rw [hop]; simp) ?_
 rw [hrun]
 refine upon_enter hC ?_
 rintro en w' ⟨x, μ', F', res, hp', hΦ, rfl, hFb', hH', hr, hF', hbel⟩
 exact ⟨x, rfl, hK _ _ (h' res hp' hΦ Z0 w0 _ _ ⟨μ', F', hFb', hH', put_rel hF' _ hr, by rw [put_defers']; exact .inl (hd.none hnm), hbel⟩)⟩
def opsHd (m : M) : Bool :=
 match m.ks with
 | .ops _ (_ :: _) _ :: _ => true
 | _ => false
theorem R.callX {f : FuncId} {avs : List AV} {hp : List AObj} {Φ : AV → List AObj → Prop} (hc : CallX P f avs hp Φ) (h : csAt m = some (f, avs)) (hh : m.st.hp = hp) (ht : opsHd m = true) (h' : ∀ res hp', Φ res hp' → Runs rd P (putM m none res hp') Q) : Runs rd P m Q := by
 have hnm := csAt_mark h
 obtain ⟨fo, args, tys, caps, hop, hf, rfl⟩ := csAt_parts h
 subst hh
 obtain ⟨ks, ⟨fr, hp⟩⟩ := m
 unfold opM headOf at hop
 unfold opsHd at ht
 unfold putM at h'
 simp only [runs_iff] at h' ⊢
 try simp only at hop ht h' hf hc hnm ⊢
 split at hop
 ·rename_i all o fl t heq
  split at hop
  ·rename_i hw
   simp only [Option.some.injEq] at hop
   split at heq
   ·cases heq
    intro hW
    exact OpsQ.callX hnm (wantH_true hw hW) hop hf hc fun res hp' hΦ => h' res hp' hΦ headW_false
   ·simp at ht
   ·cases heq
  ·cases hop
 ·cases hop
theorem CallX.frame {P : Program} {f : FuncId} {args : List AV} {hp : List AObj} {Φ : AV → List AObj → Prop} (us2 : List Value) (fr2 : List AV) (hc : CallX P f args hp Φ) (h1 : renH (List.range hp.length) hp = hp)
  (h2 : renL (List.range hp.length) args = args) (h3 : ∀ r h', Φ r h' → hp.length ≤ h'.length) : CallX P f args (hp ++ [.frame us2 fr2]) fun r h => ∃ res hp', Φ res hp' ∧ r = res.ren (insJ hp.length hp'.length) ∧ h = insF hp.length us2 fr2 hp' := by
 obtain ⟨hen, hc⟩ := hc
 refine ⟨hen, ?_⟩
 intro Z0 F w0 w μ vs us fr hFb hH hvs hus hbel
 have hml : μ.length = hp.length + 1 := by rw [hH.len]; simp
 have hH0 := hH.ren (List.range hp.length) List.nodup_range
 have e0 : ((List.range hp.length).map fun i => ((hp ++ [AObj.frame us2 fr2]).getD i .dead).ren (List.range hp.length)) = hp := by
  refine Eq.trans (List.map_congr_left fun i hi => ?_) h1
  have hi := List.mem_range.1 hi
  simp only [List.getD_eq_getElem?_getD]
  rw [List.getElem?_append_left hi]
 rw [e0] at hH0
 have hvs0 := hvs.ren (List.range hp.length)
 rw [h2] at hvs0
 have hn2 : (hp ++ [AObj.frame us2 fr2])[hp.length]? = some (.frame us2 fr2) := by simp
 obtain ⟨u, hu⟩ : ∃ u, μ[hp.length]? = some u := ⟨_, List.getElem?_eq_getElem (by omega)⟩
 have hf2 : RelL w (Zone Z0 F w0.heap.size) μ fr2 us2 := hH.obj _ _ u hn2 hu
 have hus0 := (hus.append hf2).ren (List.range hp.length)
 refine (hc Z0 F w0 w _ vs (us ++ us2) _ hFb hH0 hvs0 hus0 hbel).mono ?_
 rintro e w' ⟨v, μ1, F1, res, hp', hΦ, rfl, hF1, hH1, hres, hfr1, hb1⟩
 have h3 := h3 _ _ hΦ
 have hm1 := hH1.len
 have hHd := hH1.addDead u (hH.one _ u hu)
 have hH2 := hHd.ren (insJ hp.length hp'.length) (insJ_nodup h3)
 obtain ⟨μ2, hμ2⟩ : ∃ μ2, μ2 = ((insJ hp.length hp'.length).map fun i => (μ1 ++ [u]).getD i (.bool false)) := ⟨_, rfl⟩
 have hA : ∀ (i : Nat) x, i < hp.length → μ1[i]? = some x → μ2[i]? = some x := by
  intro i x hi hx
  have hj : (insJ hp.length hp'.length)[i]? = some i := by
   unfold insJ
   rw [List.getElem?_append_left (by simpa using hi)]
   simp [hi]
  rw [hμ2, List.getElem?_map, hj]
  simp only [Option.map_some, List.getD_eq_getElem?_getD]
  rw [List.getElem?_append_left (by omega), hx]
  rfl
 have hB : ∀ (i : Nat) x, hp.length ≤ i → μ[i]? = some x → μ2[i]? = some x := by
  intro i x hi hx
  have hin : i = hp.length := by have := (List.getElem?_eq_some_iff.1 hx).1; omega
  subst hin
  rw [hu] at hx
  have hj : (insJ hp.length hp'.length)[hp.length]? = some hp'.length := by
   unfold insJ
   rw [List.getElem?_append_right (by simp)]
   simp
  rw [hμ2, List.getElem?_map, hj]
  simp only [Option.map_some, List.getD_eq_getElem?_getD]
  rw [List.getElem?_append_right (by omega), hm1]
  simpa using hx
 rw [← hμ2] at hH2
 have hall := RelL.mix hA hB (hus.append hf2) hfr1
 have hul := hus.length
 have hfr : RelL w' (Zone Z0 F1 w0.heap.size) μ2 fr us := by
  have := hall.take fr.length
  rwa [List.take_left, ← hul, List.take_left] at this
 have hfr2 : RelL w' (Zone Z0 F1 w0.heap.size) μ2 fr2 us2 := by
  have := hall.drop fr.length
  rwa [List.drop_left, ← hul, List.drop_left] at this
 refine ⟨v, μ2, F1, _, _, ⟨res, hp', hΦ, rfl, rfl⟩, rfl, hF1, ?_, ?_, hfr, hb1⟩
 ·refine hH2.frameAt ?_ hfr2
  have hj : (insJ hp.length hp'.length)[hp.length]? = some hp'.length := by
   unfold insJ
   rw [List.getElem?_append_right (by simp)]
   simp
  rw [List.getElem?_map, hj]
  simp [AObj.ren]
 ·rw [hμ2]
  exact Rel.ren _ (Rel.keep (w := w') (fun _ _ _ => rfl) (fun i u hu => append_old i u hu) hres)
theorem CallX.drop {P : Program} {f : FuncId} {args : List AV} {hp : List AObj} {Φ : AV → List AObj → Prop} (js : List Nat) (hc : CallX P f args hp Φ) (h1 : js.take hp.length = List.range hp.length) (h2 : js.Nodup) :
  CallX P f args hp fun r h => ∃ res hp', Φ res hp' ∧ r = res.ren js ∧ h = renH js hp' := by
 obtain ⟨hen, hc⟩ := hc
 refine ⟨hen, ?_⟩
 intro Z0 F w0 w μ vs us fr hFb hH hvs hus hbel
 refine (hc Z0 F w0 w μ vs us fr hFb hH hvs hus hbel).mono ?_
 rintro e w' ⟨v, μ1, F1, res, hp', hΦ, rfl, hF1, hH1, hres, hfr1, hb1⟩
 have hm1 := hH1.len
 have hjs : ∀ i, i < hp.length → js[i]? = some i := by
  intro i hi
  have := congrArg (fun l : List Nat => l[i]?) h1
  simp only [List.getElem?_take, if_pos hi] at this
  rw [this]
  simp [hi]
 refine ⟨v, _, F1, _, _, ⟨res, hp', hΦ, rfl, rfl⟩, rfl, hF1, hH1.ren js h2, Rel.ren js hres, ?_, hb1⟩
 refine RelL.mix (n := hp.length) ?_ ?_ hus (hfr1.ren (List.range hp.length))
 ·intro i x hi hx
  rw [List.getElem?_map, hjs i hi]
  rw [List.getElem?_map] at hx
  simpa [hi] using hx
 ·intro i x hi hx
  have h4 := (List.getElem?_eq_some_iff.1 hx).1
  have h5 := hH.len
  omega
theorem CallX.dropE {P : Program} {f : FuncId} {args : List AV} {hp : List AObj} {Φ : AV → List AObj → Prop} (hc : CallX P f args hp fun r h => ∃ js : List Nat, js.take hp.length = List.range hp.length ∧ js.Nodup ∧ Φ (r.ren js) (renH js h)) :
  CallX P f args hp Φ := by
 obtain ⟨hen, hc⟩ := hc
 refine ⟨hen, ?_⟩
 intro Z0 F w0 w μ vs us fr hFb hH hvs hus hbel
 refine (hc Z0 F w0 w μ vs us fr hFb hH hvs hus hbel).mono ?_
 rintro e w' ⟨v, μ1, F1, res, hp', ⟨js, h1, h2, hΦ⟩, rfl, hF1, hH1, hres, hfr1, hb1⟩
 have hm1 := hH1.len
 have hjs : ∀ i, i < hp.length → js[i]? = some i := by
  intro i hi
  have := congrArg (fun l : List Nat => l[i]?) h1
  simp only [List.getElem?_take, if_pos hi] at this
  rw [this]
  simp [hi]
 refine ⟨v, _, F1, _, _, hΦ, rfl, hF1, hH1.ren js h2, Rel.ren js hres, ?_, hb1⟩
 refine RelL.mix (n := hp.length) ?_ ?_ hus (hfr1.ren (List.range hp.length))
 ·intro i x hi hx
  rw [List.getElem?_map, hjs i hi]
  rw [List.getElem?_map] at hx
  simpa [hi] using hx
 ·intro i x hi hx
  have h4 := (List.getElem?_eq_some_iff.1 hx).1
  have h5 := hH.len
  omega
def opsHd0 (m : M) : Bool :=
 match m.ks with
 | .ops _ (_ :: _) false :: _ => true
 | _ => false
theorem R.deadF (i : Nat) (h : opsHd0 m = true) (hd : m.st.hp[i]? = some .dead) (h' : Runs rd P ⟨m.ks, ⟨m.st.fr, m.st.hp.set i (.frame [] [])⟩⟩ Q) : Runs rd P m Q := by
 obtain ⟨ks, ⟨fr, hp⟩⟩ := m
 unfold opsHd0 at h
 simp only [runs_iff] at h h' hd ⊢
 split at h
 ·simp only [RunsK] at h' ⊢
  intro _ Z0 w0 a w hS
  obtain ⟨μ, F, hFb, hH, hF, hdf, hb⟩ := hS
  refine h' headW_false Z0 w0 a w ⟨μ, F, hFb, hH.frameAt hd RelL.nil, hF, hdf.keep (fun j x hj => ⟨?_, fun u hu => hu⟩), hb⟩
  have hne : i ≠ j := fun e => by subst e; rw [hd] at hj; cases hj
  simp only
  rw [List.getElem?_set_ne hne]; exact hj
 ·cases h
end
end Go.Abs

/-! Calls told by what holds behind them, under further frames that lie anywhere among the objects. -/
namespace Go.Abs
open Go.RowKit Go.ChangeShapes Go.WideShapes Go.Deep
mutual
theorem Rel.mixJ {w w' : World} {Z Z' : Nat → Prop} {μ μ1 μ2 : List Value} {js : List Nat} (hA : ∀ (i : Nat) u, js.contains i = true → μ1[js.idxOf i]? = some u → μ2[i]? = some u) (hB : ∀ (i : Nat) u, js.contains i = false → μ[i]? = some u → μ2[i]? = some u) :
  ∀ {c : AV} {v : Value}, Rel w Z μ c v → Rel w' Z' μ1 (c.ren js) v → Rel w' Z' μ2 c v
 | .int _ _, _, _, h => by simpa [Rel, AV.ren] using h
 | .bool _, _, _, h => by simpa [Rel, AV.ren] using h
 | .str _, _, _, h => by simpa [Rel, AV.ren] using h
 | .nil, _, _, h => by simpa [Rel, AV.ren] using h
 | .top, _, _, _ => by simp [Rel]
 | .own _ _ _ _, _, h, _ => by simp [Rel] at h
 | .lst _ _ _, _, _, h => by simpa [Rel, AV.ren] using h
 | .clp _ _ _, _, _, h => by simpa [Rel, AV.ren] using h
 | .nam _ _ _ _ _, _, _, h => by simpa [Rel, AV.ren] using h
 | .rptr _, _, _, h => by simpa [Rel, AV.ren] using h
 | .ref i, v, h1, h2 => by
  simp only [Rel] at h1 ⊢
  cases hc : js.contains i with
  | true =>
   simp only [AV.ren, hc, if_true, Rel] at h2
   exact hA i v hc h2
  | false => exact hB i v hc h1
 | .ptr i o, v, h1, h2 => by
  simp only [Rel] at h1 ⊢
  cases hc : js.contains i with
  | true =>
   simp only [AV.ren, hc, if_true, Rel] at h2
   obtain ⟨u, g, e1, e2, e3⟩ := h2
   exact ⟨u, g, hA i u hc e1, e2, e3⟩
  | false =>
   obtain ⟨u, g, e1, e2, e3⟩ := h1
   exact ⟨u, g, hB i u hc e1, e2, e3⟩
 | .agg cs, v, h1, h2 => by
  simp only [Rel, AV.ren] at h1 h2 ⊢
  obtain ⟨xs, e1, r1⟩ := h1
  obtain ⟨ys, e2, r2⟩ := h2
  rw [e1] at e2
  simp only [Value.agg.injEq] at e2
  have e3 : xs = ys := by simpa using e2
  subst e3
  exact ⟨xs, e1, RelL.mixJ hA hB r1 r2⟩
 | .tup cs, v, h1, h2 => by
  simp only [Rel, AV.ren] at h1 h2 ⊢
  obtain ⟨xs, e1, r1⟩ := h1
  obtain ⟨ys, e2, r2⟩ := h2
  rw [e1] at e2
  simp only [Value.tuple.injEq] at e2
  have e3 : xs = ys := by simpa using e2
  subst e3
  exact ⟨xs, e1, RelL.mixJ hA hB r1 r2⟩
 | .fn f cs, v, h1, h2 => by
  simp only [Rel, AV.ren] at h1 h2 ⊢
  obtain ⟨xs, e1, r1⟩ := h1
  obtain ⟨ys, e2, r2⟩ := h2
  rw [e1] at e2
  simp only [Value.func.injEq, true_and] at e2
  have e3 : xs = ys := by simpa using e2
  subst e3
  exact ⟨xs, e1, RelL.mixJ hA hB r1 r2⟩
theorem RelL.mixJ {w w' : World} {Z Z' : Nat → Prop} {μ μ1 μ2 : List Value} {js : List Nat} (hA : ∀ (i : Nat) u, js.contains i = true → μ1[js.idxOf i]? = some u → μ2[i]? = some u) (hB : ∀ (i : Nat) u, js.contains i = false → μ[i]? = some u → μ2[i]? = some u) :
  ∀ {cs : List AV} {vs : List Value}, RelL w Z μ cs vs → RelL w' Z' μ1 (renL js cs) vs → RelL w' Z' μ2 cs vs
 | [], _, _, h => by simpa [RelL, renL] using h
 | c :: cs, _, h1, h2 => by
  simp only [RelL, renL] at h1 h2 ⊢
  obtain ⟨x, xs, e1, a1, b1⟩ := h1
  obtain ⟨y, ys, e2, a2, b2⟩ := h2
  rw [e1] at e2
  simp only [List.cons.injEq] at e2
  obtain ⟨rfl, rfl⟩ := e2
  exact ⟨x, xs, e1, Rel.mixJ hA hB a1 a2, RelL.mixJ hA hB b1 b2⟩
end
def insI (k n : Nat) : List Nat := List.range k ++ (List.range (n - k)).map (· + (k + 1))
theorem insI_get {k n j : Nat} (hk : k ≤ n) (hj : j < n) : (insI k n)[j]? = some (if j < k then j else j + 1) := by
 unfold insI
 rcases Nat.lt_or_ge j k with h | h
 ·rw [List.getElem?_append_left (by simpa using h)]
  simp [h]
 ·rw [List.getElem?_append_right (by simpa using h)]
  simp only [List.length_range, List.getElem?_map]
  rw [List.getElem?_range (by omega)]
  simp only [Option.map_some, if_neg (Nat.not_lt.2 h), Option.some.injEq]
  omega
theorem insI_length {k n : Nat} (hk : k ≤ n) : (insI k n).length = n := by
 unfold insI
 simp
 omega
theorem insI_mem {k n i : Nat} (hk : k ≤ n) (hi : i ≤ n) (hne : i ≠ k) : (insI k n).contains i = true := by
 have : i ∈ insI k n := by
  rcases Nat.lt_or_ge i k with h | h
  ·exact List.mem_of_getElem? (i := i) (by rw [insI_get hk (by omega), if_pos h])
  ·exact List.mem_of_getElem? (i := i - 1) (by rw [insI_get hk (by omega), if_neg (by omega)]; congr 1; omega)
 simpa using this
theorem insI_nodup {k n : Nat} (hk : k ≤ n) : (insI k n).Nodup := by
 unfold insI
 rw [List.nodup_append]
 refine ⟨List.nodup_range, ?_, ?_⟩
 ·rw [List.nodup_iff_pairwise_ne, List.pairwise_map]
  exact List.nodup_range.imp fun h e => h (by omega)
 ·intro a ha b hb e
  rw [List.mem_range] at ha
  rw [List.mem_map] at hb
  obtain ⟨c, _, hc⟩ := hb
  omega
theorem insI_idx {k n i : Nat} (hk : k ≤ n) (hc : (insI k n).contains i = true) : (insI k n).idxOf i < n ∧ i = (if (insI k n).idxOf i < k then (insI k n).idxOf i else (insI k n).idxOf i + 1) := by
 have hm : i ∈ insI k n := by simpa using hc
 have hlt := List.idxOf_lt_length_iff.2 hm
 have hlt' : (insI k n).idxOf i < n := by rw [insI_length hk] at hlt; exact hlt
 refine ⟨hlt', ?_⟩
 have h1 := List.getElem_idxOf hlt
 have h2 := insI_get hk hlt'
 rw [List.getElem?_eq_getElem hlt, h1] at h2
 exact Option.some.inj h2
theorem insJ_lo {k m j : Nat} (hj : j < k) : (insJ k m)[j]? = some j := by
 unfold insJ
 rw [List.getElem?_append_left (by simpa using hj)]
 simp [hj]
theorem insJ_at {k m : Nat} : (insJ k m)[k]? = some m := by
 unfold insJ
 rw [List.getElem?_append_right (by simp)]
 simp
theorem insJ_hi {k m j : Nat} (hj : k ≤ j) (hm : j < m) : (insJ k m)[j + 1]? = some j := by
 unfold insJ
 rw [List.getElem?_append_right (by simp; omega)]
 have e : j + 1 - (List.range k).length = (j - k) + 1 := by simp; omega
 rw [e, List.getElem?_cons_succ, List.getElem?_map, List.getElem?_range (by omega)]
 simp
 omega
section
variable {P : Program}
theorem CallX.inF {f : FuncId} {args : List AV} {hp : List AObj} {Φ : AV → List AObj → Prop} (k : Nat) (us2 : List Value) (fr2 : List AV) (hc : CallX P f args hp Φ) (hk : k ≤ hp.length)
  (h1 : renH (insI k hp.length) (insF k us2 fr2 hp) = hp) (h2 : renL (insI k hp.length) (renL (insJ k hp.length) args) = args) (h3 : ∀ r h', Φ r h' → hp.length ≤ h'.length) :
  CallX P f (renL (insJ k hp.length) args) (insF k us2 fr2 hp) fun r h => ∃ res hp', Φ res hp' ∧ r = res.ren (insJ k hp'.length) ∧ h = insF k us2 fr2 hp' := by
 obtain ⟨hen, hc⟩ := hc
 refine ⟨hen, ?_⟩
 intro Z0 F w0 w μ vs us fr hFb hH hvs hus hbel
 have hHl : (insF k us2 fr2 hp).length = hp.length + 1 := by
  unfold insF renH insJ
  simp
  omega
 have hml : μ.length = hp.length + 1 := by rw [hH.len, hHl]
 have hH0 := hH.ren (insI k hp.length) (insI_nodup hk)
 have e0 : ((insI k hp.length).map fun i => ((insF k us2 fr2 hp).getD i .dead).ren (insI k hp.length)) = hp := h1
 rw [e0] at hH0
 have hvs0 := hvs.ren (insI k hp.length)
 rw [h2] at hvs0
 have hn2 : (insF k us2 fr2 hp)[k]? = some (.frame us2 fr2) := by
  unfold insF
  rw [List.getElem?_set_self]
  have : (renH (insJ k hp.length) (hp ++ [.dead])).length = hp.length + 1 := by unfold renH insJ; simp; omega
  omega
 obtain ⟨u, hu⟩ : ∃ u, μ[k]? = some u := ⟨_, List.getElem?_eq_getElem (by omega)⟩
 have hf2 : RelL w (Zone Z0 F w0.heap.size) μ fr2 us2 := hH.obj _ _ u hn2 hu
 have hus0 := (hus.append hf2).ren (insI k hp.length)
 refine (hc Z0 F w0 w _ vs (us ++ us2) _ hFb hH0 hvs0 hus0 hbel).mono ?_
 rintro e w' ⟨v, μ1, F1, res, hp', hΦ, rfl, hF1, hH1, hres, hfr1, hb1⟩
 have h3 := h3 _ _ hΦ
 have hm1 := hH1.len
 have hHd := hH1.addDead u (hH.one _ u hu)
 have hH2 := hHd.ren (insJ k hp'.length) (insJ_nodup (by omega))
 obtain ⟨μ2, hμ2⟩ : ∃ μ2, μ2 = ((insJ k hp'.length).map fun i => (μ1 ++ [u]).getD i (.bool false)) := ⟨_, rfl⟩
 have hA : ∀ (i : Nat) x, (insI k hp.length).contains i = true → μ1[(insI k hp.length).idxOf i]? = some x → μ2[i]? = some x := by
  intro i x hi hx
  obtain ⟨g1, g2⟩ := insI_idx hk hi
  generalize (insI k hp.length).idxOf i = j at g1 g2 hx
  have hj : (insJ k hp'.length)[i]? = some j := by
   split at g2
   ·rw [g2]; exact insJ_lo (by assumption)
   ·rw [g2]; exact insJ_hi (by omega) (by omega)
  rw [hμ2, List.getElem?_map, hj]
  simp only [Option.map_some, List.getD_eq_getElem?_getD]
  rw [List.getElem?_append_left (List.getElem?_eq_some_iff.1 hx).1, hx]
  rfl
 have hB : ∀ (i : Nat) x, (insI k hp.length).contains i = false → μ[i]? = some x → μ2[i]? = some x := by
  intro i x hi hx
  have hlt := (List.getElem?_eq_some_iff.1 hx).1
  have hin : i = k := by
   refine Classical.byContradiction fun hne => ?_
   have := insI_mem hk (i := i) (by omega) hne
   rw [this] at hi
   cases hi
  subst hin
  rw [hu] at hx
  rw [hμ2, List.getElem?_map, insJ_at]
  simp only [Option.map_some, List.getD_eq_getElem?_getD]
  rw [List.getElem?_append_right (by omega), hm1]
  simpa using hx
 rw [← hμ2] at hH2
 have hall := RelL.mixJ hA hB (hus.append hf2) hfr1
 have hul := hus.length
 have hfr : RelL w' (Zone Z0 F1 w0.heap.size) μ2 fr us := by
  have := hall.take fr.length
  rwa [List.take_left, ← hul, List.take_left] at this
 have hfr2 : RelL w' (Zone Z0 F1 w0.heap.size) μ2 fr2 us2 := by
  have := hall.drop fr.length
  rwa [List.drop_left, ← hul, List.drop_left] at this
 refine ⟨v, μ2, F1, _, _, ⟨res, hp', hΦ, rfl, rfl⟩, rfl, hF1, ?_, ?_, hfr, hb1⟩
 ·refine hH2.frameAt ?_ hfr2
  rw [List.getElem?_map, insJ_at]
  simp [AObj.ren]
 ·rw [hμ2]
  exact Rel.ren _ (Rel.keep (w := w') (fun _ _ _ => rfl) (fun i u hu => append_old i u hu) hres)
end
section
variable {P : Program}
theorem CallX.perm {f : FuncId} {args : List AV} {hp : List AObj} {Φ : AV → List AObj → Prop} (js ks : List Nat) (hc : CallX P f args hp Φ)
  (hk : (decide js.Nodup && decide ks.Nodup && decide (js.length = hp.length) && js.all (fun i => decide (i < hp.length)) && ks.all (fun i => decide (i < hp.length)) && (List.range hp.length).all fun i => ks.contains i && decide (js[i]? = some (ks.idxOf i))) = true)
  (h1 : renH ks (renH js hp) = hp) (h2 : renL ks (renL js args) = args) (h3 : ∀ r h', Φ r h' → hp.length ≤ h'.length) :
  CallX P f (renL js args) (renH js hp) fun r h => ∃ res hp', Φ res hp' ∧ r = res.ren (js ++ (List.range (hp'.length - hp.length)).map (· + hp.length)) ∧ h = renH (js ++ (List.range (hp'.length - hp.length)).map (· + hp.length)) hp' := by
 obtain ⟨hen, hc⟩ := hc
 refine ⟨hen, ?_⟩
 simp only [Bool.and_eq_true, decide_eq_true_eq, List.all_eq_true, List.mem_range] at hk
 obtain ⟨⟨⟨⟨⟨k1, k2⟩, k3⟩, k4⟩, k6⟩, k5⟩ := hk
 intro Z0 F w0 w μ vs us fr hFb hH hvs hus hbel
 have hml : μ.length = hp.length := by rw [hH.len]; unfold renH; simp [k3]
 have hH0 := hH.ren ks k2
 have e0 : (ks.map fun i => ((renH js hp).getD i .dead).ren ks) = hp := h1
 rw [e0] at hH0
 have hvs0 := hvs.ren ks
 rw [h2] at hvs0
 have hus0 := hus.ren ks
 refine (hc Z0 F w0 w _ vs us _ hFb hH0 hvs0 hus0 hbel).mono ?_
 rintro e w' ⟨v, μ1, F1, res, hp', hΦ, rfl, hF1, hH1, hres, hfr1, hb1⟩
 have h3 := h3 _ _ hΦ
 have hm1 := hH1.len
 obtain ⟨js', hjs'⟩ : ∃ js', js' = js ++ (List.range (hp'.length - hp.length)).map (· + hp.length) := ⟨_, rfl⟩
 have hnd : js'.Nodup := by
  rw [hjs', List.nodup_append]
  refine ⟨k1, ?_, ?_⟩
  ·rw [List.nodup_iff_pairwise_ne, List.pairwise_map]
   exact List.nodup_range.imp fun h e => h (by omega)
  ·intro a ha b hb e
   rw [List.mem_map] at hb
   obtain ⟨c, _, hc⟩ := hb
   have := k4 a ha
   omega
 have hH2 := hH1.ren js' hnd
 refine ⟨v, _, F1, res.ren js', renH js' hp', ⟨res, hp', hΦ, by rw [hjs'], by rw [hjs']⟩, rfl, hF1, hH2, Rel.ren js' hres, RelL.mixJ ?_ ?_ hus hfr1, hb1⟩
 ·intro i x hi hx
  have hlt : i < hp.length := k6 i (by simpa using hi)
  have h5 := (k5 i hlt).2
  have hj' : js'[i]? = some (ks.idxOf i) := by
   rw [hjs', List.getElem?_append_left (by omega)]; exact h5
  rw [List.getElem?_map, hj']
  simp only [Option.map_some, List.getD_eq_getElem?_getD, hx, Option.getD_some]
 ·intro i x hi hx
  have hlt := (List.getElem?_eq_some_iff.1 hx).1
  have := (k5 i (by omega)).1
  rw [this] at hi
  cases hi
end

theorem fit_idx {n i : Nat} {js : List Nat} (hjs : js.take n = List.range n) (hi : i < n) : js.contains i = true ∧ js.idxOf i = i := by
 have e : js = List.range n ++ js.drop n := by rw [← hjs, List.take_append_drop]
 have hm : i ∈ List.range n := List.mem_range.2 hi
 refine ⟨?_, ?_⟩
 ·have : i ∈ js := by rw [e]; exact List.mem_append_left _ hm
  simpa using this
 ·rw [e, List.idxOf_append, if_pos hm, idx_range hi]
mutual
theorem Rel.fitR {w : World} {Z : Nat → Prop} {μ : List Value} {js : List Nat} (hjs : js.take μ.length = List.range μ.length) : ∀ {c : AV} {v : Value}, Rel w Z μ c v → c.ren js = c
 | .int _ _, _, _ => rfl
 | .bool _, _, _ => rfl
 | .str _, _, _ => rfl
 | .nil, _, _ => rfl
 | .top, _, _ => rfl
 | .own _ _ _ _, _, _ => rfl
 | .lst _ _ _, _, _ => rfl
 | .clp _ _ _, _, _ => rfl
 | .nam _ _ _ _ _, _, _ => rfl
 | .rptr _, _, _ => rfl
 | .ref i, v, h => by
  simp only [Rel] at h
  obtain ⟨h1, h2⟩ := fit_idx hjs (List.getElem?_eq_some_iff.1 h).1
  simp only [AV.ren, h1, h2, if_true]
 | .ptr i o, v, h => by
  simp only [Rel] at h
  obtain ⟨u, g, h, _⟩ := h
  obtain ⟨h1, h2⟩ := fit_idx hjs (List.getElem?_eq_some_iff.1 h).1
  simp only [AV.ren, h1, h2, if_true]
 | .agg cs, v, h => by
  simp only [Rel] at h
  obtain ⟨xs, _, h⟩ := h
  simp only [AV.ren, RelL.fitR hjs h]
 | .tup cs, v, h => by
  simp only [Rel] at h
  obtain ⟨xs, _, h⟩ := h
  simp only [AV.ren, RelL.fitR hjs h]
 | .fn f cs, v, h => by
  simp only [Rel] at h
  obtain ⟨xs, _, h⟩ := h
  simp only [AV.ren, RelL.fitR hjs h]
theorem RelL.fitR {w : World} {Z : Nat → Prop} {μ : List Value} {js : List Nat} (hjs : js.take μ.length = List.range μ.length) : ∀ {cs : List AV} {vs : List Value}, RelL w Z μ cs vs → renL js cs = cs
 | [], _, _ => rfl
 | c :: cs, _, h => by
  simp only [RelL] at h
  obtain ⟨x, xs, _, h1, h2⟩ := h
  simp only [renL, Rel.fitR hjs h1, RelL.fitR hjs h2]
end
mutual
theorem Rel.fitK {w : World} {Z : Nat → Prop} {μ : List Value} {k : Nat} (hk : μ.length ≤ k) : ∀ {c : AV} {v : Value}, Rel w Z μ c v → c.kill k = c
 | .int _ _, _, _ => rfl
 | .bool _, _, _ => rfl
 | .str _, _, _ => rfl
 | .nil, _, _ => rfl
 | .top, _, _ => rfl
 | .own _ _ _ _, _, _ => rfl
 | .lst _ _ _, _, _ => rfl
 | .clp _ _ _, _, _ => rfl
 | .nam _ _ _ _ _, _, _ => rfl
 | .rptr _, _, _ => rfl
 | .ref i, v, h => by
  simp only [Rel] at h
  have := (List.getElem?_eq_some_iff.1 h).1
  simp only [AV.kill]
  rw [if_neg (by omega)]
 | .ptr i o, v, h => by
  simp only [Rel] at h
  obtain ⟨u, g, h, _⟩ := h
  have := (List.getElem?_eq_some_iff.1 h).1
  simp only [AV.kill]
  rw [if_neg (by omega)]
 | .agg cs, v, h => by
  simp only [Rel] at h
  obtain ⟨xs, _, h⟩ := h
  simp only [AV.kill, RelL.fitK hk h]
 | .tup cs, v, h => by
  simp only [Rel] at h
  obtain ⟨xs, _, h⟩ := h
  simp only [AV.kill, RelL.fitK hk h]
 | .fn f cs, v, h => by
  simp only [Rel] at h
  obtain ⟨xs, _, h⟩ := h
  simp only [AV.kill, RelL.fitK hk h]
theorem RelL.fitK {w : World} {Z : Nat → Prop} {μ : List Value} {k : Nat} (hk : μ.length ≤ k) : ∀ {cs : List AV} {vs : List Value}, RelL w Z μ cs vs → killL k cs = cs
 | [], _, _ => rfl
 | c :: cs, _, h => by
  simp only [RelL] at h
  obtain ⟨x, xs, _, h1, h2⟩ := h
  simp only [killL, Rel.fitK hk h1, RelL.fitK hk h2]
end
mutual
theorem Rel.fitF {w : World} {Z : Nat → Prop} {μ : List Value} {k : Nat} {r : AV} (hk : μ.length ≤ k) : ∀ {c : AV} {v : Value}, Rel w Z μ c v → frzV k r c = c
 | .int _ _, _, _ => rfl
 | .bool _, _, _ => rfl
 | .str _, _, _ => rfl
 | .nil, _, _ => rfl
 | .top, _, _ => rfl
 | .own _ _ _ _, _, _ => rfl
 | .lst _ _ _, _, _ => rfl
 | .clp _ _ _, _, _ => rfl
 | .nam _ _ _ _ _, _, _ => rfl
 | .rptr _, _, _ => rfl
 | .ref i, v, h => by
  simp only [Rel] at h
  have := (List.getElem?_eq_some_iff.1 h).1
  simp only [frzV]
  rw [if_neg (by omega)]
 | .ptr i o, v, h => by
  simp only [Rel] at h
  obtain ⟨u, g, h, _⟩ := h
  have := (List.getElem?_eq_some_iff.1 h).1
  simp only [frzV]
  rw [if_neg (by omega)]
 | .agg cs, v, h => by
  simp only [Rel] at h
  obtain ⟨xs, _, h⟩ := h
  simp only [frzV, RelL.fitF hk h]
 | .tup cs, v, h => by
  simp only [Rel] at h
  obtain ⟨xs, _, h⟩ := h
  simp only [frzV, RelL.fitF hk h]
 | .fn f cs, v, h => by
  simp only [Rel] at h
  obtain ⟨xs, _, h⟩ := h
  simp only [frzV, RelL.fitF hk h]
theorem RelL.fitF {w : World} {Z : Nat → Prop} {μ : List Value} {k : Nat} {r : AV} (hk : μ.length ≤ k) : ∀ {cs : List AV} {vs : List Value}, RelL w Z μ cs vs → frzL k r cs = cs
 | [], _, _ => rfl
 | c :: cs, _, h => by
  simp only [RelL] at h
  obtain ⟨x, xs, _, h1, h2⟩ := h
  simp only [frzL, Rel.fitF hk h1, RelL.fitF hk h2]
end
structure Fits (n : Nat) (fr : List AV) : Prop where
 ren : ∀ js : List Nat, js.take n = List.range n → renL js fr = fr
 kill : ∀ i, n ≤ i → killL i fr = fr
 frz : ∀ i r, n ≤ i → frzL i r fr = fr
section
variable {rd : Option Nat} {P : Program} {m : M} {Q : Exit → St → Prop}
theorem CallX.ofF {f : FuncId} {fn : Func} {c : Code} {args : List AV} {hp : List AObj} {Φ : AV → List AObj → Prop} (hf : P.funcs[f]? = some fn) (hb : fn.body = some c) (hnm : (fn.name == "runtime.NumGoroutine") = false)
  (h : ∀ us fr, Fits hp.length fr → Runs none P ⟨[.code c], ⟨frameOf fn.ntmps args, hp ++ [.frame us fr]⟩⟩ (retX P fn hp.length us fr Φ)) : CallX P f args hp Φ := by
 refine ⟨enters_of hf hnm (by rw [hb]; rfl), ?_⟩
 intro Z0 F w0 w μ vs us fr hFb hH hvs hus hbel
 have hml := hH.len
 have hfit : Fits hp.length fr := ⟨fun js hjs => RelL.fitR (by rw [hml]; exact hjs) hus, fun i hi => RelL.fitK (by rw [hml]; exact hi) hus, fun i r hi => RelL.fitF (by rw [hml]; exact hi) hus⟩
 ·have hlen := hvs.length
  refine calls_of_wpIn hf hb ?_
  have hS : Sim Z0 w0 ⟨frameOf fn.ntmps args, hp ++ [.frame us fr]⟩ { tmps := vs.toArray ++ Array.replicate (fn.ntmps - vs.toArray.size) undef, defers := [] } w := by
   refine ⟨μ ++ [.bool false], F, hFb, hH.extend1 (zone_new hbel.size hFb) (Below.refl _ _) ?_ (fun g hg => by simp [blk] at hg) rfl, ?_, .inl rfl, hbel⟩
   ·exact RelL.keep (w := w) (fun _ _ _ => rfl) (fun i u hu => append_old i u hu) hus
   ·simp only [Array.toList_append, Array.toList_replicate, List.size_toArray, hlen, frameOf]
    refine RelL.append (RelL.keep (w := w) (fun _ _ _ => rfl) (fun i u hu => append_old i u hu) hvs) ?_
    generalize fn.ntmps - args.length = n
    induction n with
    | zero => exact RelL.nil
    | succ n ih => exact RelL.cons (by simp [Rel]) ih
  have hrun2 := h us fr hfit
  simp only [runs_iff] at hrun2
  simp only [RunsK] at hrun2
  refine wpIn_mono (hrun2 Z0 w0 _ w hS) ?_
  have fin : ∀ (e : Exit) (st' : St) (a' : Act) (w' : World), retX P fn hp.length us fr Φ e st' → Sim Z0 w0 st' a' w' → a'.defers = [] ∧ ∃ v, (results fn a'.tmps).run P w' = .ok v w' ∧ ∃ v' μ' F' res hp', Φ res hp' ∧ Ending.returned v = .returned v' ∧ (∀ b, F' b → w0.heap.size ≤ b ∧ b < w'.heap.size) ∧ HRel w' (Zone Z0 F' w0.heap.size) w0.heap.size μ' hp' ∧ Rel w' (Zone Z0 F' w0.heap.size) μ' res v' ∧ RelL w' (Zone Z0 F' w0.heap.size) μ' fr us ∧ Below w0.heap.size w0 w' := by
   rintro e st' a' w' ⟨res, hp', hΦ, _, hres, hfr, hh⟩ ⟨μ', F', hFb', hH', hF', hd', hbel'⟩
   obtain ⟨x, h1, h2⟩ := resIn_run hH' hF' hres
   unfold frameAt at hfr
   split at hfr
   ·rename_i us2 fr2 hi
    cases hfr
    have hil : hp.length < μ'.length := by rw [hH'.len]; exact (List.getElem?_eq_some_iff.1 hi).1
    have hfrr : RelL w' (Zone Z0 F' w0.heap.size) μ' fr us := hH'.obj _ _ _ hi (List.getElem?_eq_getElem hil)
    exact ⟨hd'.none (resIn_mark hres), x, h1, x, μ', F', res, hp', hΦ, rfl, hFb', hh ▸ hH'.bury _, h2, hfrr, hbel'⟩
   ·cases hfr
  rintro e a' w' ⟨st', hq, hS'⟩
  cases e with
  | normal => exact fin _ st' a' w' hq hS'
  | ret => exact fin _ st' a' w' hq hS'
  | exit id => (obtain ⟨_, _, _, hq, _⟩ := hq; exact absurd hq (by simp))
  | goto l => (obtain ⟨_, _, _, hq, _⟩ := hq; exact absurd hq (by simp))
  | panic ch => (obtain ⟨_, _, _, hq, _⟩ := hq; exact absurd hq (by simp))
  | outgrown => (obtain ⟨_, _, _, hq, _⟩ := hq; exact absurd hq (by simp))
theorem R.kfix (n : Nat) {us : List Value} {fr fr2 : List AV} (h0 : m.st.hp[n]? = some (.frame us fr2)) (hk : fr2 = fr) (h' : Runs rd P ⟨m.ks, ⟨m.st.fr, m.st.hp.set n (.frame us fr)⟩⟩ Q) : Runs rd P m Q := by
 subst hk
 obtain ⟨ks, ⟨f, hp⟩⟩ := m
 have e : hp.set n (.frame us fr2) = hp := by
  refine List.ext_getElem? fun i => ?_
  rw [List.getElem?_set]
  split
  ·rename_i hi
   subst hi
   simp only at h0
   have hlt := (List.getElem?_eq_some_iff.1 h0).1
   rw [if_pos hlt, h0]
  ·rfl
 simp only [e] at h'
 exact h'
theorem canonF {ks : List Nat} {js : List Nat} {st s' : St} {fr : List AV} (S : List AV → St) (hfit : renL js fr = fr) (h1 : canon ks (some js) st = S (renL js fr)) (h2 : S fr = s') : canon ks (some js) st = s' := by rw [h1, hfit, h2]
end

mutual
theorem Rel.mixK {w w' : World} {Z Z' : Nat → Prop} {μ μ1 μ2 : List Value} {j : Nat} (hA : ∀ (i : Nat) u, i ≠ j → μ1[i]? = some u → μ2[i]? = some u) (hB : ∀ u, μ[j]? = some u → μ2[j]? = some u) :
  ∀ {c : AV} {v : Value}, Rel w Z μ c v → Rel w' Z' μ1 (c.kill j) v → Rel w' Z' μ2 c v
 | .int _ _, _, _, h => by simpa [Rel, AV.kill] using h
 | .bool _, _, _, h => by simpa [Rel, AV.kill] using h
 | .str _, _, _, h => by simpa [Rel, AV.kill] using h
 | .nil, _, _, h => by simpa [Rel, AV.kill] using h
 | .top, _, _, _ => by simp [Rel]
 | .own _ _ _ _, _, h, _ => by simp [Rel] at h
 | .lst _ _ _, _, _, h => by simpa [Rel, AV.kill] using h
 | .clp _ _ _, _, _, h => by simpa [Rel, AV.kill] using h
 | .nam _ _ _ _ _, _, _, h => by simpa [Rel, AV.kill] using h
 | .rptr _, _, _, h => by simpa [Rel, AV.kill] using h
 | .ref i, v, h1, h2 => by
  simp only [Rel] at h1 ⊢
  by_cases hi : i = j
  ·subst hi; exact hB v h1
  ·simp only [AV.kill, if_neg hi, Rel] at h2
   exact hA i v hi h2
 | .ptr i o, v, h1, h2 => by
  simp only [Rel] at h1 ⊢
  by_cases hi : i = j
  ·subst hi
   obtain ⟨u, g, e1, e2, e3⟩ := h1
   exact ⟨u, g, hB u e1, e2, e3⟩
  ·simp only [AV.kill, if_neg hi, Rel] at h2
   obtain ⟨u, g, e1, e2, e3⟩ := h2
   exact ⟨u, g, hA i u hi e1, e2, e3⟩
 | .agg cs, v, h1, h2 => by
  simp only [Rel, AV.kill] at h1 h2 ⊢
  obtain ⟨xs, e1, r1⟩ := h1
  obtain ⟨ys, e2, r2⟩ := h2
  rw [e1] at e2
  simp only [Value.agg.injEq] at e2
  have e3 : xs = ys := by simpa using e2
  subst e3
  exact ⟨xs, e1, RelL.mixK hA hB r1 r2⟩
 | .tup cs, v, h1, h2 => by
  simp only [Rel, AV.kill] at h1 h2 ⊢
  obtain ⟨xs, e1, r1⟩ := h1
  obtain ⟨ys, e2, r2⟩ := h2
  rw [e1] at e2
  simp only [Value.tuple.injEq] at e2
  have e3 : xs = ys := by simpa using e2
  subst e3
  exact ⟨xs, e1, RelL.mixK hA hB r1 r2⟩
 | .fn f cs, v, h1, h2 => by
  simp only [Rel, AV.kill] at h1 h2 ⊢
  obtain ⟨xs, e1, r1⟩ := h1
  obtain ⟨ys, e2, r2⟩ := h2
  rw [e1] at e2
  simp only [Value.func.injEq, true_and] at e2
  have e3 : xs = ys := by simpa using e2
  subst e3
  exact ⟨xs, e1, RelL.mixK hA hB r1 r2⟩
theorem RelL.mixK {w w' : World} {Z Z' : Nat → Prop} {μ μ1 μ2 : List Value} {j : Nat} (hA : ∀ (i : Nat) u, i ≠ j → μ1[i]? = some u → μ2[i]? = some u) (hB : ∀ u, μ[j]? = some u → μ2[j]? = some u) :
  ∀ {cs : List AV} {vs : List Value}, RelL w Z μ cs vs → RelL w' Z' μ1 (killL j cs) vs → RelL w' Z' μ2 cs vs
 | [], _, _, h => by simpa [RelL, killL] using h
 | c :: cs, _, h1, h2 => by
  simp only [RelL, killL] at h1 h2 ⊢
  obtain ⟨x, xs, e1, a1, b1⟩ := h1
  obtain ⟨y, ys, e2, a2, b2⟩ := h2
  rw [e1] at e2
  simp only [List.cons.injEq] at e2
  obtain ⟨rfl, rfl⟩ := e2
  exact ⟨x, xs, e1, Rel.mixK hA hB a1 a2, RelL.mixK hA hB b1 b2⟩
end
theorem HRel.swap {w : World} {Z : Nat → Prop} {B j : Nat} {μ : List Value} {hp : List AObj} {u u' : Value} {o o' : AObj} (h : HRel w Z B μ hp) (hj : hp[j]? = some o) (hu : μ[j]? = some u) (ha : o.alive = true)
  (hblk : blk u' = blk u) (hone : u'.oneCell' = true) (hk : ∀ i oi, i ≠ j → hp[i]? = some oi → oi.kill j = oi) (hnew : ObjRel w Z (μ.set j u') B u' o') : HRel w Z B (μ.set j u') (hp.set j o') := by
 have hjl := (List.getElem?_eq_some_iff.1 hj).1
 have hul := (List.getElem?_eq_some_iff.1 hu).1
 have get : ∀ (i : Nat) oi ui, (hp.set j o')[i]? = some oi → (μ.set j u')[i]? = some ui → (i = j ∧ oi = o' ∧ ui = u') ∨ (i ≠ j ∧ hp[i]? = some oi ∧ μ[i]? = some ui) := by
  intro i oi ui h1 h2
  by_cases e : j = i
  ·subst e
   rw [List.getElem?_set_self hjl] at h1
   rw [List.getElem?_set_self hul] at h2
   simp at h1 h2
   exact .inl ⟨rfl, h1.symm, h2.symm⟩
  ·rw [List.getElem?_set_ne e] at h1 h2
   exact .inr ⟨fun h => e h.symm, h1, h2⟩
 refine ⟨by simp [h.len], fun i oi ui g h1 ha' h2 hg => ?_, fun i x hx => ?_, fun i oi ui h1 h2 => ?_, fun i k oi ok ui uk g hne h1 h2 a1 a2 m1 m2 b1 b2 => ?_⟩
 ·rcases get i oi ui h1 h2 with ⟨rfl, rfl, rfl⟩ | ⟨_, e1, e2⟩
  ·exact h.zone _ o u g hj ha hu (hblk ▸ hg)
  ·exact h.zone i oi ui g e1 ha' e2 hg
 ·by_cases e : j = i
  ·subst e
   rw [List.getElem?_set_self hul] at hx
   simp at hx
   rw [← hx]; exact hone
  ·rw [List.getElem?_set_ne e] at hx
   exact h.one i x hx
 ·rcases get i oi ui h1 h2 with ⟨rfl, rfl, rfl⟩ | ⟨hne, e1, e2⟩
  ·exact hnew
  ·have := (h.obj i oi ui e1 e2).keep_kill (μ' := μ.set j u') j (fun _ _ _ => rfl) (fun k x hk hx => by rw [List.getElem?_set_ne (fun e => hk e.symm)]; exact hx) (fun _ _ => rfl)
   rwa [hk i oi hne e1] at this
 ·rcases get i oi ui h1 m1 with ⟨rfl, rfl, rfl⟩ | ⟨hi, e1, e2⟩ <;> rcases get k ok uk h2 m2 with ⟨rfl, rfl, rfl⟩ | ⟨hk', e3, e4⟩
  ·exact hne rfl
  ·exact h.sep _ k o ok u uk g (fun e => hk' e.symm) hj e3 ha a2 hu e4 (hblk ▸ b1) b2
  ·exact h.sep i _ oi o ui u g hi e1 hj a1 ha e2 hu b1 (hblk ▸ b2)
  ·exact h.sep i k oi ok ui uk g hne e1 e3 a1 a2 e2 e4 b1 b2
theorem CallX.box {P : Program} {f : FuncId} {args : List AV} {hp : List AObj} {Φ : AV → List AObj → Prop} (j : Nat) (t : TypeId) (cs : List AV) (hc : CallX P f args hp Φ) (hj : hp[j]? = some (.list t cs.length 1 cs)) (hl : leafyL cs = true)
  (h1 : hp.map (AObj.kill j) = hp) (h2 : killL j args = args) (h3 : ∀ r h', Φ r h' → h'[j]? = some (.list t cs.length 1 cs) ∧ h'.map (AObj.kill j) = h' ∧ r.kill j = r) :
  CallX P f args (hp.set j (.box t cs)) fun r h => ∃ hp', Φ r hp' ∧ h = hp'.set j (.box t cs) := by
 obtain ⟨hen, hc⟩ := hc
 refine ⟨hen, ?_⟩
 intro Z0 F w0 w μ vs us fr hFb hH hvs hus hbel
 have hjl := (List.getElem?_eq_some_iff.1 hj).1
 have kof : ∀ {l : List AObj}, l.map (AObj.kill j) = l → ∀ (i : Nat) (oi : AObj), l[i]? = some oi → oi.kill j = oi := by
  intro l hl i oi hi
  have := congrArg (fun l : List AObj => l[i]?) hl
  simp only [List.getElem?_map, hi, Option.map_some, Option.some.injEq] at this
  exact this
 have hbj : (hp.set j (.box t cs))[j]? = some (.box t cs) := List.getElem?_set_self hjl
 obtain ⟨u, hu⟩ : ∃ u, μ[j]? = some u := ⟨_, List.getElem?_eq_getElem (by rw [hH.len, List.length_set]; exact hjl)⟩
 have hul := (List.getElem?_eq_some_iff.1 hu).1
 obtain ⟨g, xs, rfl, hBg, hg, hr⟩ := hH.obj j _ u hbj hu
 have hr0 : RelL w (Zone Z0 F w0.heap.size) [] cs xs := RelL.leafy hl hr
 have hxl := hr0.length
 obtain ⟨u', hu'⟩ : ∃ u', u' = Value.slice (some ⟨g, 0, none⟩) 1 1 := ⟨_, rfl⟩
 have hset : ((hp.set j (.box t cs)).set j (.list t cs.length 1 cs)) = hp := by
  rw [List.set_set]
  refine List.ext_getElem? fun i => ?_
  rw [List.getElem?_set]
  split
  ·rename_i e
   subst e
   exact hj.symm
  ·rfl
 have hH0 : HRel w (Zone Z0 F w0.heap.size) w0.heap.size (μ.set j u') hp := by
  have := hH.swap (u' := u') (o' := .list t cs.length 1 cs) hbj hu rfl (by rw [hu']; rfl) (by rw [hu']; rfl) (fun i oi hne hi => kof h1 i oi (by rw [List.getElem?_set_ne (fun e => hne e.symm)] at hi; exact hi)) ⟨xs, ⟨by rw [hxl, Nat.one_mul], .inr ⟨g, 1, xs.toArray, hu', hBg, hg, Nat.le_refl _, by decide, by simp [hxl], by simp [← hxl]⟩⟩, hr0⟩
  rwa [hset] at this
 have hm : ∀ (i : Nat) (x : Value), i ≠ j → μ[i]? = some x → (μ.set j u')[i]? = some x := fun i x hne hx => by rw [List.getElem?_set_ne (fun e => hne e.symm)]; exact hx
 have hvs0 := RelL.keep_kill (w := w) (w' := w) j (fun _ _ _ => rfl) hm hvs
 rw [h2] at hvs0
 have hus0 := RelL.keep_kill (w := w) (w' := w) j (fun _ _ _ => rfl) hm hus
 have hrefj : RelL w (Zone Z0 F w0.heap.size) (μ.set j u') [.ref j] [u'] := RelL.cons (by simp only [Rel]; rw [List.getElem?_set_self hul]) RelL.nil
 refine (hc Z0 F w0 w _ vs (us ++ [u']) _ hFb hH0 hvs0 (hus0.append hrefj) hbel).mono ?_
 rintro e w' ⟨v, μ1, F1, res, hp', hΦ, rfl, hF1, hH1, hres, hfr1, hb1⟩
 obtain ⟨k1, k2, k3⟩ := h3 _ _ hΦ
 have hlen1 := hus0.length
 have hfrA : RelL w' (Zone Z0 F1 w0.heap.size) μ1 (killL j fr) us := by
  have := hfr1.take (killL j fr).length
  rwa [List.take_left, ← hlen1, List.take_left] at this
 have hrj : RelL w' (Zone Z0 F1 w0.heap.size) μ1 [.ref j] [u'] := by
  have := hfr1.drop (killL j fr).length
  rwa [List.drop_left, ← hlen1, List.drop_left] at this
 have hm1 : μ1[j]? = some u' := by
  simp only [RelL, Rel] at hrj
  obtain ⟨x, _, e1, e2, _⟩ := hrj
  simp only [List.cons.injEq] at e1
  rw [e1.1]; exact e2
 have hjl1 := (List.getElem?_eq_some_iff.1 hm1).1
 obtain ⟨xs1, hown, hr1⟩ := hH1.obj j _ u' k1 hm1
 have hcell : w0.heap.size ≤ g ∧ w'.heap[g]? = some (.cells xs1.toArray t (0, 0)) := by
  rcases hown.2 with ⟨e1, _⟩ | ⟨g', cap, cur, e1, e2, e3, e4, e5, e6, e7⟩
  ·rw [hu'] at e1; cases e1
  ·rw [hu'] at e1
   simp only [Value.slice.injEq, Option.some.injEq, Addr.mk.injEq, true_and, and_true] at e1
   obtain ⟨rfl, rfl⟩ := e1
   refine ⟨e2, ?_⟩
   have : cur = xs1.toArray := by
    apply Array.toList_inj.1
    rw [← e7, List.take_of_length_le (by simp [e6])]
   rw [e3, this]
 refine ⟨v, μ1.set j (.pointer (some ⟨g, 0, none⟩)), F1, res, _, ⟨hp', hΦ, rfl⟩, rfl, hF1, ?_, ?_, ?_, hb1⟩
 ·exact hH1.swap k1 hm1 rfl (by rw [hu']; rfl) rfl (fun i oi _ hi => kof k2 i oi hi) ⟨g, xs1, rfl, hcell.1, hcell.2, hr1.lift⟩
 ·have := Rel.keep_kill (w := w') (w' := w') (μ' := μ1.set j (.pointer (some ⟨g, 0, none⟩))) j (fun _ _ _ => rfl) (fun i x hne hx => by rw [List.getElem?_set_ne (fun e => hne e.symm)]; exact hx) hres
  rwa [k3] at this
 ·refine RelL.mixK ?_ ?_ hus hfrA
  ·intro i x hne hx
   rw [List.getElem?_set_ne (fun e => hne e.symm)]; exact hx
  ·intro x hx
   rw [hu] at hx
   rw [List.getElem?_set_self hjl1]
   exact hx

section
variable {P : Program} {m : M} {Q : Exit → St → Prop}
def faAt (P : Program) (m : M) (i : Nat) : Option AV :=
 match m.ks with
 | .any ops listed (_ + 1) :: _ => match ops[i]? with
  | some o => match o.op with
   | .fieldAddr s x f => if o.guard.isNone && Region.noSelect ops && Region.free .any ops listed i && (Region.ready .any ops listed).contains i then (match ev m.st.fr x, fieldB P s f with
    | .ptr j q, some (off, k) => if k = 0 then none else some (.ptr j (q + off))
    | _, _ => none) else none
   | _ => none
  | none => none
 | _ => none
theorem R.anyA (i : Nat) (v : AV) (h : faAt P m i = some v) (np : NoPanic Q) (h' : Runs none P (exM i v m) Q) : Runs none P m Q := by
 obtain ⟨ks, ⟨fr, hp⟩⟩ := m
 simp only [runs_iff] at h' ⊢
 unfold faAt at h
 simp only at h
 split at h
 ·rename_i ops listed n ks'
  split at h
  ·rename_i o ho
   split at h
   ·rename_i s x f hx
    split at h
    ·rename_i hc
     simp only [Bool.and_eq_true] at hc
     obtain ⟨⟨⟨hg, hs⟩, hf⟩, hr⟩ := hc
     split at h
     ·rename_i j q off k hcs hfb
      split at h
      ·cases h
      ·rename_i hk
       simp only [Option.some.injEq] at h
       subst h
       simp only [exM, ho, RunsK] at h' ⊢
       intro Z0 w0 a w hS
       have hW : Region.wanted o (yielded ops a.tmps) = true := by
        unfold Region.wanted
        rw [Option.isNone_iff_eq_none.1 hg]
       have hrun : ∃ u, ∀ w, (execOp a.eval o).run P w = .ok (.value u) w := by
        obtain ⟨μ, F, _, _, hFr, _, _⟩ := hS
        have h1 := ev_rel hFr x
        rw [hcs] at h1
        simp only [Rel] at h1
        obtain ⟨u, g, hu, hg', h2⟩ := h1
        refine ⟨.pointer (some ((⟨g, q, none⟩ : Addr).add off)), fun w => ?_⟩
        unfold execOp
        rw [hx]
        simp [h2, run_fieldAt hfb hk w] <;> rfl
       obtain ⟨u, hrun⟩ := hrun
       have hw' : WantedA ops o fr := wantedE_true (by unfold wantedE; rw [Option.isNone_iff_eq_none.1 hg])
       have h1 := StepR.sound (rd := none) (K := fun a' w' => Sim Z0 w0 ⟨putF fr o.dst (.ptr j (q + off)), hp⟩ a' w') (Q := fun _ _ _ => True) (st' := ⟨putF fr o.dst (.ptr j (q + off)), hp⟩) (by simpa using StepR.eff (P := P) (st := ⟨fr, hp⟩) hw' (v := .ptr j (q + off)) (news := []) (by rw [hx]; exact EffR.fieldAddr j q off k hcs hfb hk)) hS (fun _ _ h => h)
       rw [if_pos hW] at h1
       unfold Oper.wpIn at h1
       have h1 := h1.2
       rw [show (Fc none).round = none from rfl, Oper.semAt_none, hrun w] at h1
       simp only [Oper.uponIn] at h1
       exact wpAnyIn_take rfl ho hs hf hr (fun c a w ⟨st', hq, _⟩ => absurd (runsK_panic ks' st' hq) (np c st')) ⟨.inl ⟨hW, hrun⟩, fun w => by unfold Oper.about; rw [hx]⟩ (h' Z0 w0 _ w h1)
     ·cases h
    ·cases h
   ·cases h
  ·cases h
 ·cases h
theorem np_retX (P : Program) (fn : Func) (n : Nat) (us : List Value) (fr : List AV) (Φ : AV → List AObj → Prop) : NoPanic (retX P fn n us fr Φ) := fun _ _ h => by
 obtain ⟨_, _, _, h⟩ := h
 simp [retS] at h
end

section
variable {P : Program} {m : M} {Q : Exit → St → Prop}

end
end Go.Abs

/-! Calls that need no object of the caller's, beside any objects. -/
namespace Go.Abs
open Go.RowKit
theorem zone_two {Z0 F F1 : Nat → Prop} {B C : Nat} (hBC : B ≤ C) (hF : ∀ b, F b → B ≤ b ∧ b < C) (hF1 : ∀ b, F1 b → C ≤ b) (b : Nat) : Zone Z0 (fun b => F b ∨ F1 b) B b ↔ Zone (Zone Z0 F B) F1 C b := by
 unfold Zone
 constructor
 ·rintro (⟨h1, h2⟩ | ⟨h1, h2⟩)
  ·exact .inl ⟨by omega, .inl ⟨h1, h2⟩⟩
  ·rcases Nat.lt_or_ge b C with h | h
   ·exact .inl ⟨h, .inr ⟨h1, fun hf => h2 (.inl hf)⟩⟩
   ·exact .inr ⟨h, fun hf => h2 (.inr hf)⟩
 ·rintro (⟨h1, h2 | h2⟩ | ⟨h1, h2⟩)
  ·exact .inl h2
  ·refine .inr ⟨h2.1, ?_⟩
   rintro (hf | hf)
   ·exact h2.2 hf
   ·have := hF1 b hf; omega
  ·refine .inr ⟨by omega, ?_⟩
   rintro (hf | hf)
   ·have := hF b hf; omega
   ·exact h2 hf
section
variable {rd : Option Nat} {P : Program} {m : M} {Q : Exit → St → Prop}
theorem CallX.any {f : FuncId} {args : List AV} {Φ : AV → List AObj → Prop} (hp : List AObj) (hc : CallX P f args [] Φ) (hl : leafyL args = true) (hΦ : ∀ r h, Φ r h → h = []) : CallX P f args hp fun r h => h = hp ∧ Φ r [] := by
 obtain ⟨hen, hc⟩ := hc
 refine ⟨hen, ?_⟩
 intro Z0 F w0 w μ vs us fr hFb hH hvs hus hbel
 have hBC := hbel.size
 have zn : ∀ b, b < w.heap.size → (Zone (Zone Z0 F w0.heap.size) NoF w.heap.size b ↔ Zone Z0 F w0.heap.size b) := fun b hb => by
  unfold Zone NoF
  constructor
  ·rintro (h | h)
   ·exact h.2
   ·omega
  ·exact fun h => .inl ⟨hb, h⟩
 have hvs1 : RelL w (Zone (Zone Z0 F w0.heap.size) NoF w.heap.size) [] args vs := (RelL.leafy hl hvs).weak fun b hb h1 h2 => h1 ((zn b hb).1 h2)
 have h0 : HRel w (Zone (Zone Z0 F w0.heap.size) NoF w.heap.size) w.heap.size [] [] := ⟨rfl, fun i o u g h => by simp at h, fun i u h => by simp at h, fun i o u h => by simp at h, fun i j oi oj ui uj g _ h => by simp at h⟩
 refine (hc (Zone Z0 F w0.heap.size) NoF w w [] vs [] [] (fun b h => h.elim) h0 hvs1 RelL.nil (Below.refl _ _)).mono ?_
 rintro e w' ⟨v, μ', F1, res, hp', hΦ1, rfl, hF1, hH1, hres, _, hb1⟩
 have e1 := hΦ _ _ hΦ1
 subst e1
 have hm' : μ' = [] := List.eq_nil_of_length_eq_zero (by simpa using hH1.len)
 subst hm'
 have z2 := zone_two (Z0 := Z0) hBC hFb (fun b h => (hF1 b h).1)
 have hk : ∀ b, b < w.heap.size → w'.heap[b]? = w.heap[b]? := fun b hb => hb1.block b hb
 have hold : ∀ b, b < w'.heap.size → ¬ Zone Z0 F w0.heap.size b → ¬ Zone Z0 (fun b => F b ∨ F1 b) w0.heap.size b := by
  intro b _ h1 h2
  rcases Nat.lt_or_ge b w.heap.size with h | h
  ·rcases (z2 b).1 h2 with h3 | h3
   ·exact h1 h3.2
   ·omega
  ·exact h1 (.inr ⟨by omega, fun hf => by have := hFb b hf; omega⟩)
 refine ⟨v, μ, fun b => F b ∨ F1 b, res, hp, ⟨rfl, hΦ1⟩, rfl, ?_, ?_, ?_, ?_, hbel.trans (hb1.mono hBC)⟩
 ·rintro b (h | h)
  ·have := hFb b h; have := hb1.size; omega
  ·have := hF1 b h; omega
 ·refine ⟨hH.len, fun i o u g h1 ha h2 hg => ?_, hH.one, fun i o u h1 h2 => ?_, hH.sep⟩
  ·have hz := hH.zone i o u g h1 ha h2 hg
   have hlt := ((hH.obj i o u h1 h2).blk_ge ha hg).2
   exact (z2 g).2 (.inl ⟨hlt, hz⟩)
  ·have h3 := hH.obj i o u h1 h2
   cases ha : o.alive with
   | true => exact (h3.keep (w' := w') (fun b hb _ => hk b hb) (fun _ _ h => h) (fun g hg => hk g (h3.blk_ge ha hg).2)).weak hold
   | false => exact (h3.keep_dead (w' := w') (B' := w0.heap.size) (u' := u) (fun b hb _ => hk b hb) (fun _ _ h => h) ha).weak hold
 ·exact Rel.lift (hres.weak fun b _ h1 h2 => h1 ((z2 b).1 h2))
 ·exact (hus.keep (w' := w') (fun b hb _ => hk b hb) (fun _ _ h => h)).weak hold
end
end Go.Abs

/-! Calls by reference whose caller's frame does not name one object (a row that the call may move). -/
namespace Go.Abs
open Go.RowKit Go.ChangeShapes Go.WideShapes Go.Deep
mutual
theorem AV.kill_ren {js : List Nat} {q q2 : Nat} (h : ∀ i, js.contains i = true → js.idxOf i = q → i = q2) : ∀ c : AV, c.kill q2 = c → (c.ren js).kill q = c.ren js
 | .int _ _, _ => rfl
 | .bool _, _ => rfl
 | .str _, _ => rfl
 | .nil, _ => rfl
 | .top, _ => rfl
 | .own _ _ _ _, _ => rfl
 | .lst _ _ _, _ => rfl
 | .clp _ _ _, _ => rfl
 | .nam _ _ _ _ _, _ => rfl
 | .rptr _, _ => rfl
 | .ref i, hk => by
  simp only [AV.kill, AV.ren] at hk ⊢
  split at hk
  ·cases hk
  ·rename_i hne
   cases hc : js.contains i with
   | true =>
    simp only [if_true, AV.kill]
    rw [if_neg fun e => hne (h i hc e)]
   | false => simp [AV.kill]
 | .ptr i o, hk => by
  simp only [AV.kill, AV.ren] at hk ⊢
  split at hk
  ·cases hk
  ·rename_i hne
   cases hc : js.contains i with
   | true =>
    simp only [if_true, AV.kill]
    rw [if_neg fun e => hne (h i hc e)]
   | false => simp [AV.kill]
 | .agg cs, hk => by
  simp only [AV.kill, AV.agg.injEq] at hk
  simp only [AV.ren, AV.kill, killL_ren h cs hk]
 | .tup cs, hk => by
  simp only [AV.kill, AV.tup.injEq] at hk
  simp only [AV.ren, AV.kill, killL_ren h cs hk]
 | .fn f cs, hk => by
  simp only [AV.kill, AV.fn.injEq, true_and] at hk
  simp only [AV.ren, AV.kill, killL_ren h cs hk]
theorem killL_ren {js : List Nat} {q q2 : Nat} (h : ∀ i, js.contains i = true → js.idxOf i = q → i = q2) : ∀ cs : List AV, killL q2 cs = cs → killL q (renL js cs) = renL js cs
 | [], _ => rfl
 | c :: cs, hk => by
  simp only [killL, List.cons.injEq] at hk
  simp only [renL, killL, AV.kill_ren h c hk.1, killL_ren h cs hk.2]
end
theorem killL_app (q : Nat) : ∀ xs ys : List AV, killL q (xs ++ ys) = killL q xs ++ killL q ys
 | [], _ => rfl
 | x :: xs, ys => by simp [killL, killL_app q xs ys]
theorem insI_kill {k n q : Nat} (hk : k ≤ n) : ∀ i, (insI k n).contains i = true → (insI k n).idxOf i = q → i = (if q < k then q else q + 1) := fun i hi hq => by
 obtain ⟨_, g2⟩ := insI_idx hk hi
 rw [hq] at g2
 exact g2
def CallY (P : Program) (q : Nat) (f : FuncId) (args : List AV) (hp : List AObj) (Φ : AV → List AObj → Prop) : Prop :=
 Enters P f ∧ ∀ (Z0 F : Nat → Prop) (w0 w : World) (μ vs us : List Value) (fr : List AV), (∀ b, F b → w0.heap.size ≤ b ∧ b < w.heap.size) → HRel w (Zone Z0 F w0.heap.size) w0.heap.size μ hp → RelL w (Zone Z0 F w0.heap.size) μ args vs → RelL w (Zone Z0 F w0.heap.size) μ fr us → Below w0.heap.size w0 w → killL q fr = fr →
  Calls P f vs.toArray w fun e w' => ∃ v μ' F' res hp', Φ res hp' ∧ e = .returned v ∧ (∀ b, F' b → w0.heap.size ≤ b ∧ b < w'.heap.size) ∧ HRel w' (Zone Z0 F' w0.heap.size) w0.heap.size μ' hp' ∧ Rel w' (Zone Z0 F' w0.heap.size) μ' res v ∧ RelL w' (Zone Z0 F' w0.heap.size) μ' fr us ∧ Below w0.heap.size w0 w'
section
variable {rd : Option Nat} {P : Program} {m : M} {Q : Exit → St → Prop}
theorem CallY.ofF {q : Nat} {f : FuncId} {fn : Func} {c : Code} {args : List AV} {hp : List AObj} {Φ : AV → List AObj → Prop} (hf : P.funcs[f]? = some fn) (hb : fn.body = some c) (hnm : (fn.name == "runtime.NumGoroutine") = false)
  (h : ∀ us fr, Fits hp.length fr → killL q fr = fr → Runs none P ⟨[.code c], ⟨frameOf fn.ntmps args, hp ++ [.frame us fr]⟩⟩ (retX P fn hp.length us fr Φ)) : CallY P q f args hp Φ := by
 refine ⟨enters_of hf hnm (by rw [hb]; rfl), ?_⟩
 intro Z0 F w0 w μ vs us fr hFb hH hvs hus hbel hkq
 have hml := hH.len
 have hfit : Fits hp.length fr := ⟨fun js hjs => RelL.fitR (by rw [hml]; exact hjs) hus, fun i hi => RelL.fitK (by rw [hml]; exact hi) hus, fun i r hi => RelL.fitF (by rw [hml]; exact hi) hus⟩
 ·have hlen := hvs.length
  refine calls_of_wpIn hf hb ?_
  have hS : Sim Z0 w0 ⟨frameOf fn.ntmps args, hp ++ [.frame us fr]⟩ { tmps := vs.toArray ++ Array.replicate (fn.ntmps - vs.toArray.size) undef, defers := [] } w := by
   refine ⟨μ ++ [.bool false], F, hFb, hH.extend1 (zone_new hbel.size hFb) (Below.refl _ _) ?_ (fun g hg => by simp [blk] at hg) rfl, ?_, .inl rfl, hbel⟩
   ·exact RelL.keep (w := w) (fun _ _ _ => rfl) (fun i u hu => append_old i u hu) hus
   ·simp only [Array.toList_append, Array.toList_replicate, List.size_toArray, hlen, frameOf]
    refine RelL.append (RelL.keep (w := w) (fun _ _ _ => rfl) (fun i u hu => append_old i u hu) hvs) ?_
    generalize fn.ntmps - args.length = n
    induction n with
    | zero => exact RelL.nil
    | succ n ih => exact RelL.cons (by simp [Rel]) ih
  have hrun2 := h us fr hfit hkq
  simp only [runs_iff] at hrun2
  simp only [RunsK] at hrun2
  refine wpIn_mono (hrun2 Z0 w0 _ w hS) ?_
  have fin : ∀ (e : Exit) (st' : St) (a' : Act) (w' : World), retX P fn hp.length us fr Φ e st' → Sim Z0 w0 st' a' w' → a'.defers = [] ∧ ∃ v, (results fn a'.tmps).run P w' = .ok v w' ∧ ∃ v' μ' F' res hp', Φ res hp' ∧ Ending.returned v = .returned v' ∧ (∀ b, F' b → w0.heap.size ≤ b ∧ b < w'.heap.size) ∧ HRel w' (Zone Z0 F' w0.heap.size) w0.heap.size μ' hp' ∧ Rel w' (Zone Z0 F' w0.heap.size) μ' res v' ∧ RelL w' (Zone Z0 F' w0.heap.size) μ' fr us ∧ Below w0.heap.size w0 w' := by
   rintro e st' a' w' ⟨res, hp', hΦ, _, hres, hfr, hh⟩ ⟨μ', F', hFb', hH', hF', hd', hbel'⟩
   obtain ⟨x, h1, h2⟩ := resIn_run hH' hF' hres
   unfold frameAt at hfr
   split at hfr
   ·rename_i us2 fr2 hi
    cases hfr
    have hil : hp.length < μ'.length := by rw [hH'.len]; exact (List.getElem?_eq_some_iff.1 hi).1
    have hfrr : RelL w' (Zone Z0 F' w0.heap.size) μ' fr us := hH'.obj _ _ _ hi (List.getElem?_eq_getElem hil)
    exact ⟨hd'.none (resIn_mark hres), x, h1, x, μ', F', res, hp', hΦ, rfl, hFb', hh ▸ hH'.bury _, h2, hfrr, hbel'⟩
   ·cases hfr
  rintro e a' w' ⟨st', hq, hS'⟩
  cases e with
  | normal => exact fin _ st' a' w' hq hS'
  | ret => exact fin _ st' a' w' hq hS'
  | exit id => (obtain ⟨_, _, _, hq, _⟩ := hq; exact absurd hq (by simp))
  | goto l => (obtain ⟨_, _, _, hq, _⟩ := hq; exact absurd hq (by simp))
  | panic ch => (obtain ⟨_, _, _, hq, _⟩ := hq; exact absurd hq (by simp))
  | outgrown => (obtain ⟨_, _, _, hq, _⟩ := hq; exact absurd hq (by simp))
end
section
variable {P : Program}
theorem CallY.dropE {P : Program} {q : Nat} {f : FuncId} {args : List AV} {hp : List AObj} {Φ : AV → List AObj → Prop} (hc : CallY P q f args hp fun r h => ∃ js : List Nat, js.take hp.length = List.range hp.length ∧ js.Nodup ∧ Φ (r.ren js) (renH js h)) :
  CallY P q f args hp Φ := by
 obtain ⟨hen, hc⟩ := hc
 refine ⟨hen, ?_⟩
 intro Z0 F w0 w μ vs us fr hFb hH hvs hus hbel hkq
 refine (hc Z0 F w0 w μ vs us fr hFb hH hvs hus hbel hkq).mono ?_
 rintro e w' ⟨v, μ1, F1, res, hp', ⟨js, h1, h2, hΦ⟩, rfl, hF1, hH1, hres, hfr1, hb1⟩
 have hm1 := hH1.len
 have hjs : ∀ i, i < hp.length → js[i]? = some i := by
  intro i hi
  have := congrArg (fun l : List Nat => l[i]?) h1
  simp only [List.getElem?_take, if_pos hi] at this
  rw [this]
  simp [hi]
 refine ⟨v, _, F1, _, _, hΦ, rfl, hF1, hH1.ren js h2, Rel.ren js hres, ?_, hb1⟩
 refine RelL.mix (n := hp.length) ?_ ?_ hus (hfr1.ren (List.range hp.length))
 ·intro i x hi hx
  rw [List.getElem?_map, hjs i hi]
  rw [List.getElem?_map] at hx
  simpa [hi] using hx
 ·intro i x hi hx
  have h4 := (List.getElem?_eq_some_iff.1 hx).1
  have h5 := hH.len
  omega
theorem CallY.inF {q : Nat} {f : FuncId} {args : List AV} {hp : List AObj} {Φ : AV → List AObj → Prop} (k : Nat) (us2 : List Value) (fr2 : List AV) (hc : CallY P q f args hp Φ) (hk : k ≤ hp.length)
  (h1 : renH (insI k hp.length) (insF k us2 fr2 hp) = hp) (h2 : renL (insI k hp.length) (renL (insJ k hp.length) args) = args) (h3 : ∀ r h', Φ r h' → hp.length ≤ h'.length) (q2 : Nat) (hq2 : q2 = if q < k then q else q + 1) (hkf : killL q2 fr2 = fr2) :
  CallY P q2 f (renL (insJ k hp.length) args) (insF k us2 fr2 hp) fun r h => ∃ res hp', Φ res hp' ∧ r = res.ren (insJ k hp'.length) ∧ h = insF k us2 fr2 hp' := by
 obtain ⟨hen, hc⟩ := hc
 refine ⟨hen, ?_⟩
 intro Z0 F w0 w μ vs us fr hFb hH hvs hus hbel hkq
 have hHl : (insF k us2 fr2 hp).length = hp.length + 1 := by
  unfold insF renH insJ
  simp
  omega
 have hml : μ.length = hp.length + 1 := by rw [hH.len, hHl]
 have hH0 := hH.ren (insI k hp.length) (insI_nodup hk)
 have e0 : ((insI k hp.length).map fun i => ((insF k us2 fr2 hp).getD i .dead).ren (insI k hp.length)) = hp := h1
 rw [e0] at hH0
 have hvs0 := hvs.ren (insI k hp.length)
 rw [h2] at hvs0
 have hn2 : (insF k us2 fr2 hp)[k]? = some (.frame us2 fr2) := by
  unfold insF
  rw [List.getElem?_set_self]
  have : (renH (insJ k hp.length) (hp ++ [.dead])).length = hp.length + 1 := by unfold renH insJ; simp; omega
  omega
 obtain ⟨u, hu⟩ : ∃ u, μ[k]? = some u := ⟨_, List.getElem?_eq_getElem (by omega)⟩
 have hf2 : RelL w (Zone Z0 F w0.heap.size) μ fr2 us2 := hH.obj _ _ u hn2 hu
 have hus0 := (hus.append hf2).ren (insI k hp.length)
 refine (hc Z0 F w0 w _ vs (us ++ us2) _ hFb hH0 hvs0 hus0 hbel (killL_ren (q2 := q2) (fun i hi e => by rw [hq2]; exact insI_kill hk i hi e) _ (by rw [killL_app, hkq, hkf]))).mono ?_
 rintro e w' ⟨v, μ1, F1, res, hp', hΦ, rfl, hF1, hH1, hres, hfr1, hb1⟩
 have h3 := h3 _ _ hΦ
 have hm1 := hH1.len
 have hHd := hH1.addDead u (hH.one _ u hu)
 have hH2 := hHd.ren (insJ k hp'.length) (insJ_nodup (by omega))
 obtain ⟨μ2, hμ2⟩ : ∃ μ2, μ2 = ((insJ k hp'.length).map fun i => (μ1 ++ [u]).getD i (.bool false)) := ⟨_, rfl⟩
 have hA : ∀ (i : Nat) x, (insI k hp.length).contains i = true → μ1[(insI k hp.length).idxOf i]? = some x → μ2[i]? = some x := by
  intro i x hi hx
  obtain ⟨g1, g2⟩ := insI_idx hk hi
  generalize (insI k hp.length).idxOf i = j at g1 g2 hx
  have hj : (insJ k hp'.length)[i]? = some j := by
   split at g2
   ·rw [g2]; exact insJ_lo (by assumption)
   ·rw [g2]; exact insJ_hi (by omega) (by omega)
  rw [hμ2, List.getElem?_map, hj]
  simp only [Option.map_some, List.getD_eq_getElem?_getD]
  rw [List.getElem?_append_left (List.getElem?_eq_some_iff.1 hx).1, hx]
  rfl
 have hB : ∀ (i : Nat) x, (insI k hp.length).contains i = false → μ[i]? = some x → μ2[i]? = some x := by
  intro i x hi hx
  have hlt := (List.getElem?_eq_some_iff.1 hx).1
  have hin : i = k := by
   refine Classical.byContradiction fun hne => ?_
   have := insI_mem hk (i := i) (by omega) hne
   rw [this] at hi
   cases hi
  subst hin
  rw [hu] at hx
  rw [hμ2, List.getElem?_map, insJ_at]
  simp only [Option.map_some, List.getD_eq_getElem?_getD]
  rw [List.getElem?_append_right (by omega), hm1]
  simpa using hx
 rw [← hμ2] at hH2
 have hall := RelL.mixJ hA hB (hus.append hf2) hfr1
 have hul := hus.length
 have hfr : RelL w' (Zone Z0 F1 w0.heap.size) μ2 fr us := by
  have := hall.take fr.length
  rwa [List.take_left, ← hul, List.take_left] at this
 have hfr2 : RelL w' (Zone Z0 F1 w0.heap.size) μ2 fr2 us2 := by
  have := hall.drop fr.length
  rwa [List.drop_left, ← hul, List.drop_left] at this
 refine ⟨v, μ2, F1, _, _, ⟨res, hp', hΦ, rfl, rfl⟩, rfl, hF1, ?_, ?_, hfr, hb1⟩
 ·refine hH2.frameAt ?_ hfr2
  rw [List.getElem?_map, insJ_at]
  simp [AObj.ren]
 ·rw [hμ2]
  exact Rel.ren _ (Rel.keep (w := w') (fun _ _ _ => rfl) (fun i u hu => append_old i u hu) hres)
end
end Go.Abs

/-! Calls by reference that may move a row which the caller's frame names: the frame forgets it. -/
namespace Go.Abs
open Go.RowKit Go.ChangeShapes Go.WideShapes Go.Deep
mutual
theorem AV.kill_kill (q : Nat) : ∀ c : AV, (c.kill q).kill q = c.kill q
 | .int _ _ => rfl
 | .bool _ => rfl
 | .str _ => rfl
 | .nil => rfl
 | .top => rfl
 | .own _ _ _ _ => rfl
 | .lst _ _ _ => rfl
 | .clp _ _ _ => rfl
 | .nam _ _ _ _ _ => rfl
 | .rptr _ => rfl
 | .ref i => by
  simp only [AV.kill]
  split
  ·rfl
  ·rename_i h
   simp only [AV.kill, if_neg h]
 | .ptr i o => by
  simp only [AV.kill]
  split
  ·rfl
  ·rename_i h
   simp only [AV.kill, if_neg h]
 | .agg cs => by simp only [AV.kill, killL_kill q cs]
 | .tup cs => by simp only [AV.kill, killL_kill q cs]
 | .fn f cs => by simp only [AV.kill, killL_kill q cs]
theorem killL_kill (q : Nat) : ∀ cs : List AV, killL q (killL q cs) = killL q cs
 | [] => rfl
 | c :: cs => by simp only [killL, AV.kill_kill q c, killL_kill q cs]
end
section
variable {rd : Option Nat} {P : Program} {m : M} {Q : Exit → St → Prop}
theorem OpsQ.callZ {all : Array Oper} {o : Oper} {l : List Oper} {fr : List AV} {hp : List AObj} {R : Exit → St → Prop} {c : Operand} {args : Array Operand} {tys : Array TypeId} {q : Nat} {f : FuncId} {caps : List AV} {Φ : AV → List AObj → Prop} (hnm : noMark hp = true) (hw : WantedA all o fr)
  (hop : o.op = .call { callee := .value c, args := args, argTypes := tys }) (hc : ev fr c = .fn f caps) (hcall : CallY P q f (args.toList.map (ev fr) ++ caps) hp Φ) (h' : ∀ res hp', Φ res hp' → OpsQ rd P all l ⟨putF (killL q fr) o.dst res, hp'⟩ R) : OpsQ rd P all (o :: l) ⟨fr, hp⟩ R := by
 intro Z0 w0 a w hS
 refine wpListIn_step fun K hK => ?_
 obtain ⟨μ, F, hFb, hH, hF, hd, hb⟩ := hS
 rw [wanted_rel hF hw, if_pos rfl]
 have hE : ∀ y, Rel w (Zone Z0 F w0.heap.size) μ (ev fr y) (a.eval y) := fun y => ev_rel hF y
 have hcv := hc ▸ hE c
 simp only [Rel] at hcv
 obtain ⟨cv, hcv, hrc⟩ := hcv
 have hargs' : RelL w (Zone Z0 F w0.heap.size) μ (args.toList.map (ev fr)) (args.toList.map a.eval) := by
  generalize args.toList = l
  induction l with
  | nil => exact RelL.nil
  | cons x l ih => exact RelL.cons (hE x) ih
 obtain ⟨hen, hcall⟩ := hcall
 have hFk : RelL w (Zone Z0 F w0.heap.size) μ (killL q fr) a.tmps.toList := RelL.keep_kill q (fun _ _ _ => rfl) (fun i u _ h => h) hF
 have hC := hcall Z0 F w0 w μ _ _ (killL q fr) hFb hH (hargs'.append hrc) hFk hb (killL_kill q fr)
 have hrun : (execOp a.eval o).run P w = .ok (.enter f (args.toList.map a.eval ++ cv).toArray) w := by
  have e1 : (args.map a.eval ++ cv.toArray) = (args.toList.map a.eval ++ cv).toArray := by
   apply Array.toList_inj.1; simp
  simp only [execOp, hop, resolve, Deferred.ofValue, hcv, Sem.run_bind, Sem.run_pure, Result.andThen_ok, invoke, Array.empty_append]
  rw [e1]
  exact hen _ _
 refine wpIn_of_run (fun c' => by rw [hop]; simp) ?_
 rw [hrun]
 refine upon_enter hC ?_
 rintro en w' ⟨x, μ', F', res, hp', hΦ, rfl, hFb', hH', hr, hF', hbel⟩
 exact ⟨x, rfl, hK _ _ (h' res hp' hΦ Z0 w0 _ _ ⟨μ', F', hFb', hH', put_rel hF' _ hr, by rw [put_defers']; exact .inl (hd.none hnm), hbel⟩)⟩
theorem R.callZ {q : Nat} {f : FuncId} {avs : List AV} {hp : List AObj} {Φ : AV → List AObj → Prop} (hc : CallY P q f avs hp Φ) (h : csAt m = some (f, avs)) (hh : m.st.hp = hp) (ht : opsHd m = true) (h' : ∀ res hp', Φ res hp' → Runs rd P (putM ⟨m.ks, ⟨killL q m.st.fr, m.st.hp⟩⟩ none res hp') Q) : Runs rd P m Q := by
 have hnm := csAt_mark h
 obtain ⟨fo, args, tys, caps, hop, hf, rfl⟩ := csAt_parts h
 subst hh
 obtain ⟨ks, ⟨fr, hp⟩⟩ := m
 unfold opM headOf at hop
 unfold opsHd at ht
 unfold putM at h'
 simp only [runs_iff] at h' ⊢
 try simp only at hop ht h' hf hc hnm ⊢
 split at hop
 ·rename_i all o fl t heq
  split at hop
  ·rename_i hw
   simp only [Option.some.injEq] at hop
   split at heq
   ·cases heq
    intro hW
    exact OpsQ.callZ hnm (wantH_true hw hW) hop hf hc fun res hp' hΦ => h' res hp' hΦ headW_false
   ·simp at ht
   ·cases heq
  ·cases hop
 ·cases hop
end
end Go.Abs

/-! The machine's rules: pairs of numbers are compared. -/
namespace Go.Abs
open Go.RowKit
section
variable {rd : Option Nat} {P : Program} {m : M} {Q : Exit → St → Prop}
theorem OpsQ.val {all : Array Oper} {o : Oper} {l : List Oper} {fr : List AV} {hp : List AObj} {R : Exit → St → Prop} {b : AV} (hw : WantedA all o fr) (hcall : ∀ c, o.op ≠ .defer c)
  (hrun : ∀ (Z : Nat → Prop) (μ : List Value) (a : Act) (w : World), RelL w Z μ fr a.tmps.toList → ∃ v, (execOp a.eval o).run P w = .ok (.value v) w ∧ Rel w Z μ b v) (h' : OpsQ rd P all l ⟨putF fr o.dst b, hp⟩ R) : OpsQ rd P all (o :: l) ⟨fr, hp⟩ R := by
 intro Z0 w0 a w hS
 obtain ⟨μ, F, hFb, hH, hF, hd, hbel⟩ := hS
 refine wpListIn_step fun K hK => ?_
 rw [wanted_rel hF hw, if_pos rfl]
 obtain ⟨v, hr, hv⟩ := hrun _ μ a w hF
 refine wpIn_of_run (fun c' h => hcall _ h) ?_
 rw [hr]
 exact hK _ _ (h' Z0 w0 _ w ⟨μ, F, hFb, hH, put_rel hF _ hv, by rw [put_defers']; exact hd, hbel⟩)
end
end Go.Abs

/-! The machine's rules: triples of numbers are compared. -/
namespace Go.Abs
open Go.RowKit
section
variable {rd : Option Nat} {P : Program} {m : M} {Q : Exit → St → Prop}
end
section
variable {P : Program} {m : M} {Q : Exit → St → Prop}
def sbAt (m : M) (i : Nat) : Option AV :=
 match m.ks with
 | .any ops listed (_ + 1) :: _ => match ops[i]? with
  | some o => match o.op with
   | .binOp .sub _ x y _ => if o.guard.isNone && Region.noSelect ops && Region.free .any ops listed i && (Region.ready .any ops listed).contains i then (match ev m.st.fr x, ev m.st.fr y with
    | .int k a, .int k' b => if k = k' then some (.int k (k.wrap (a - b))) else none
    | _, _ => none) else none
   | _ => none
  | none => none
 | _ => none
theorem R.anyJ (i : Nat) (v : AV) (h : sbAt m i = some v) (np : NoPanic Q) (h' : Runs none P (exM i v m) Q) : Runs none P m Q := by
 obtain ⟨ks, ⟨fr, hp⟩⟩ := m
 simp only [runs_iff] at h' ⊢
 unfold sbAt at h
 simp only at h
 split at h
 ·rename_i ops listed n ks'
  split at h
  ·rename_i o ho
   split at h
   ·rename_i t x y ty hx
    split at h
    ·rename_i hc
     simp only [Bool.and_eq_true] at hc
     obtain ⟨⟨⟨hg, hs⟩, hf⟩, hr⟩ := hc
     split at h
     ·rename_i k a k' b h1 h2
      split at h
      ·rename_i hk
       subst hk
       simp only [Option.some.injEq] at h
       subst h
       simp only [exM, ho, RunsK] at h' ⊢
       intro Z0 w0 ac w hS
       have hW : Region.wanted o (yielded ops ac.tmps) = true := by
        unfold Region.wanted
        rw [Option.isNone_iff_eq_none.1 hg]
       have hrun : ∃ u, ∀ w, (execOp ac.eval o).run P w = .ok (.value u) w := by
        obtain ⟨μ, F, _, _, hFr, _, _⟩ := hS
        have e1 := rel_int (h1 ▸ ev_rel hFr x)
        have e2 := rel_int (h2 ▸ ev_rel hFr y)
        refine ⟨.int k (k.wrap (a - b)), fun w => ?_⟩
        unfold execOp
        rw [hx]
        simp [e1, e2, eqGuard_at_int, binOp_sub, Op.intArith] <;> rfl
       obtain ⟨u, hrun⟩ := hrun
       have hw' : WantedA ops o fr := wantedE_true (by unfold wantedE; rw [Option.isNone_iff_eq_none.1 hg])
       have h1' := StepR.sound (rd := none) (K := fun a' w' => Sim Z0 w0 ⟨putF fr o.dst (.int k (k.wrap (a - b))), hp⟩ a' w') (Q := fun _ _ _ => True) (st' := ⟨putF fr o.dst (.int k (k.wrap (a - b))), hp⟩) (by simpa using StepR.eff (P := P) (st := ⟨fr, hp⟩) hw' (v := .int k (k.wrap (a - b))) (news := []) (by rw [hx]; exact EffR.bin k a b h1 h2 rfl)) hS (fun _ _ h => h)
       rw [if_pos hW] at h1'
       unfold Oper.wpIn at h1'
       have h1' := h1'.2
       rw [show (Fc none).round = none from rfl, Oper.semAt_none, hrun w] at h1'
       simp only [Oper.uponIn] at h1'
       exact wpAnyIn_take rfl ho hs hf hr (fun c a w ⟨st', hq, _⟩ => absurd (runsK_panic ks' st' hq) (np c st')) ⟨.inl ⟨hW, hrun⟩, fun w => by unfold Oper.about; rw [hx]⟩ (h' Z0 w0 _ w h1')
      ·cases h
     ·cases h
    ·cases h
   ·cases h
  ·cases h
 ·cases h
theorem R.anyJn (i : Nat) (v : AV) (n : Int) (h : sbAt m i = some v) (hv : v = .int .i64 n) (np : NoPanic Q) (h' : Runs none P (exM i (AI n) m) Q) : Runs none P m Q := R.anyJ i v h np (by rw [hv]; exact h')
end
end Go.Abs

/-! Named slices: rows of one's own laid into rows; a named row taken back to be written; slots read by names. -/
namespace Go.Abs
open Go.RowKit

mutual
def InN (u : Value) : AV → Prop
 | .nam v o _ _ cs => (u = v ∧ (cs ≠ [] ∨ o ≠ none)) ∨ InNL u cs
 | .lst _ _ cs => InNL u cs
 | .clp _ _ cs => InNL u cs
 | .rptr cs => InNL u cs
 | .agg cs => InNL u cs
 | .tup cs => InNL u cs
 | .fn _ cs => InNL u cs
 | .int _ _ => False
 | .bool _ => False
 | .str _ => False
 | .nil => False
 | .ref _ => False
 | .ptr _ _ => False
 | .own _ _ _ _ => False
 | .top => False
def InNL (u : Value) : List AV → Prop
 | [] => False
 | c :: cs => InN u c ∨ InNL u cs
end
mutual
def NoRaw : AV → Bool
 | .nam _ _ _ _ cs => NoRawL cs
 | .lst _ _ cs => cs.isEmpty
 | .clp _ _ cs => cs.isEmpty
 | .rptr _ => false
 | .agg cs => NoRawL cs
 | .tup cs => NoRawL cs
 | .fn _ cs => NoRawL cs
 | .int _ _ => true
 | .bool _ => true
 | .str _ => true
 | .nil => true
 | .ref _ => true
 | .ptr _ _ => true
 | .own _ _ _ _ => true
 | .top => true
def NoRawL : List AV → Bool
 | [] => true
 | c :: cs => NoRaw c && NoRawL cs
end
theorem inNL_iff {u : Value} : ∀ {cs : List AV}, InNL u cs ↔ ∃ c ∈ cs, InN u c
 | [] => by simp [InNL]
 | c :: cs => by rw [InNL, inNL_iff]; simp
theorem add_block' (a : Addr) (j : Nat) : (a.add j).block = a.block := by unfold Addr.add; split <;> rfl
section
variable {w : World}
mutual
theorem InN.of {Z : Nat → Prop} {μ : List Value} {u : Value} {g : Nat} (hg : blk u = some g) : ∀ {c : AV} {v : Value}, Rel w Z μ c v → InN u c → g < w.heap.size ∧ ¬ Z g
 | .nam v' o s n cs, v, h, hn => by
  simp only [Rel] at h
  simp only [InN] at hn
  obtain ⟨⟨h0, h00⟩, A, c, xs, h1, h2, h3, h4, h5⟩ := h
  rcases hn with ⟨rfl, hn⟩ | hn
  ·subst h0
   by_cases ho : o = none
   ·have hcs : cs ≠ [] := by
     rcases hn with hn | hn
     ·exact hn
     ·exact absurd ho hn
    have hx : xs ≠ [] := by
     intro e
     have h6 := h5.length
     rw [e] at h6
     exact hcs (List.eq_nil_of_length_eq_zero (by simpa using h6.symm))
    obtain ⟨ad, rfl, hz, hc⟩ := h4 hx
    rw [h1] at hg
    simp only [blk, Option.some.injEq] at hg
    subst hg
    cases xs with
    | nil => exact absurd rfl hx
    | cons y ys =>
     have h6 := World.block_lt_of_cell? w _ (hc 0 y rfl)
     rw [add_block'] at h6
     exact ⟨h6, hz⟩
   ·cases o with
    | none => exact absurd rfl ho
    | some e =>
     obtain ⟨xs', hown, hz⟩ := h00 e rfl
     exact ⟨ownsRow_lt' hown hg, hz g hg⟩
  ·exact InNL.of hg h5 hn
 | .lst s n cs, v, h, hn => by
  simp only [Rel] at h
  simp only [InN] at hn
  obtain ⟨A, c, xs, h1, h2, h3, h4, h5⟩ := h
  exact InNL.of hg h5 hn
 | .clp s n cs, v, h, hn => by
  simp only [Rel] at h
  simp only [InN] at hn
  obtain ⟨A, c, xs, h1, h2, h3, h4, h5⟩ := h
  exact InNL.of hg h5 hn
 | .rptr cs, v, h, hn => by
  simp only [Rel] at h
  simp only [InN] at hn
  obtain ⟨ad, xs, h1, h4, h5⟩ := h
  exact InNL.of hg h5 hn
 | .agg cs, v, h, hn => by
  simp only [Rel] at h
  simp only [InN] at hn
  obtain ⟨xs, h1, h5⟩ := h
  exact InNL.of hg h5 hn
 | .tup cs, v, h, hn => by
  simp only [Rel] at h
  simp only [InN] at hn
  obtain ⟨xs, h1, h5⟩ := h
  exact InNL.of hg h5 hn
 | .fn f cs, v, h, hn => by
  simp only [Rel] at h
  simp only [InN] at hn
  obtain ⟨xs, h1, h5⟩ := h
  exact InNL.of hg h5 hn
 | .int _ _, _, _, hn => by simp [InN] at hn
 | .bool _, _, _, hn => by simp [InN] at hn
 | .str _, _, _, hn => by simp [InN] at hn
 | .nil, _, _, hn => by simp [InN] at hn
 | .ref _, _, _, hn => by simp [InN] at hn
 | .ptr _ _, _, _, hn => by simp [InN] at hn
 | .own _ _ _ _, _, _, hn => by simp [InN] at hn
 | .top, _, _, hn => by simp [InN] at hn
theorem InNL.of {Z : Nat → Prop} {μ : List Value} {u : Value} {g : Nat} (hg : blk u = some g) : ∀ {cs : List AV} {vs : List Value}, RelL w Z μ cs vs → InNL u cs → g < w.heap.size ∧ ¬ Z g
 | [], _, _, hn => by simp [InNL] at hn
 | c :: cs, _, h, hn => by
  simp only [RelL] at h
  simp only [InNL] at hn
  obtain ⟨x, xs, rfl, h1, h2⟩ := h
  rcases hn with hn | hn
  ·exact InN.of hg h1 hn
  ·exact InNL.of hg h2 hn
end
mutual
theorem Rel.thaw {Z Z' : Nat → Prop} {g : Option Nat} (hz : ∀ b, ¬ Z b → g ≠ some b → ¬ Z' b) : ∀ {μ μ' : List Value} (_ : ∀ (i : Nat) (u : Value), μ[i]? = some u → μ'[i]? = some u) {c : AV} {v : Value}, NoRaw c = true → (∀ u, InN u c → ∀ b, g = some b → blk u ≠ some b) → Rel w Z μ c v → Rel w Z' μ' c v
 | μ, μ', hm, .nam u o s n cs, v, hr, hn, h => by
  simp only [Rel] at h ⊢
  simp only [NoRaw] at hr
  obtain ⟨⟨h0, h00⟩, A, c, xs, h1, h2, h3, h4, h5⟩ := h
  refine ⟨⟨h0, fun e he => ?_⟩, A, c, xs, h1, h2, h3, fun hx => ?_, RelL.thaw hz (μ := []) (μ' := []) (fun _ _ h => h) hr (fun u' hu' => hn u' (by simp only [InN]; exact .inr hu')) h5⟩
  ·obtain ⟨ys, k1, k2⟩ := h00 e he
   refine ⟨ys, k1, fun b hb => hz b (k2 b hb) (fun hgb => hn u (by rw [InN]; exact .inl ⟨rfl, .inr (by rw [he]; simp)⟩) b hgb (by rw [← h0]; exact hb))⟩
  ·obtain ⟨ad, rfl, k1, k2⟩ := h4 hx
   refine ⟨ad, rfl, hz _ k1 (fun hgb => hn u (by rw [InN]; exact .inl ⟨rfl, .inl (fun e => hx (List.eq_nil_of_length_eq_zero (by have h6 := h5.length; rw [e] at h6; simpa using h6)))⟩) _ hgb (by rw [← h0, h1]; rfl)), k2⟩
 | μ, μ', hm, .lst s n cs, v, hr, hn, h => by
  simp only [Rel] at h ⊢
  simp only [NoRaw, List.isEmpty_iff] at hr
  subst hr
  obtain ⟨A, c, xs, h1, h2, h3, h4, h5⟩ := h
  rw [RelL] at h5
  subst h5
  exact ⟨A, c, [], h1, h2, h3, fun h => absurd rfl h, RelL.nil⟩
 | μ, μ', hm, .clp s n cs, v, hr, hn, h => by
  simp only [Rel] at h ⊢
  simp only [NoRaw, List.isEmpty_iff] at hr
  subst hr
  obtain ⟨A, c, xs, h1, h2, h3, h4, h5⟩ := h
  rw [RelL] at h5
  subst h5
  exact ⟨A, c, [], h1, h2, h3, fun h => absurd rfl h, RelL.nil⟩
 | μ, μ', hm, .rptr cs, v, hr, hn, h => by simp [NoRaw] at hr
 | μ, μ', hm, .agg cs, v, hr, hn, h => by
  simp only [Rel] at h ⊢
  simp only [NoRaw] at hr
  obtain ⟨xs, h1, h5⟩ := h
  exact ⟨xs, h1, RelL.thaw hz hm hr (fun u' hu' => hn u' (by simp only [InN]; exact hu')) h5⟩
 | μ, μ', hm, .tup cs, v, hr, hn, h => by
  simp only [Rel] at h ⊢
  simp only [NoRaw] at hr
  obtain ⟨xs, h1, h5⟩ := h
  exact ⟨xs, h1, RelL.thaw hz hm hr (fun u' hu' => hn u' (by simp only [InN]; exact hu')) h5⟩
 | μ, μ', hm, .fn f cs, v, hr, hn, h => by
  simp only [Rel] at h ⊢
  simp only [NoRaw] at hr
  obtain ⟨xs, h1, h5⟩ := h
  exact ⟨xs, h1, RelL.thaw hz hm hr (fun u' hu' => hn u' (by simp only [InN]; exact hu')) h5⟩
 | μ, μ', hm, .int _ _, _, _, _, h => by simpa [Rel] using h
 | μ, μ', hm, .bool _, _, _, _, h => by simpa [Rel] using h
 | μ, μ', hm, .str _, _, _, _, h => by simpa [Rel] using h
 | μ, μ', hm, .nil, _, _, _, h => by simpa [Rel] using h
 | μ, μ', hm, .ref i, v, _, _, h => by simp only [Rel] at h ⊢; exact hm i v h
 | μ, μ', hm, .ptr i o, v, _, _, h => by
  simp only [Rel] at h ⊢
  obtain ⟨u, g, h1, h2, h3⟩ := h
  exact ⟨u, g, hm i u h1, h2, h3⟩
 | μ, μ', hm, .own _ _ _ _, _, _, _, h => by simp [Rel] at h
 | μ, μ', hm, .top, _, _, _, h => by simp [Rel]
theorem RelL.thaw {Z Z' : Nat → Prop} {g : Option Nat} (hz : ∀ b, ¬ Z b → g ≠ some b → ¬ Z' b) : ∀ {μ μ' : List Value} (_ : ∀ (i : Nat) (u : Value), μ[i]? = some u → μ'[i]? = some u) {cs : List AV} {vs : List Value}, NoRawL cs = true → (∀ u, InNL u cs → ∀ b, g = some b → blk u ≠ some b) → RelL w Z μ cs vs → RelL w Z' μ' cs vs
 | μ, μ', hm, [], vs, _, _, h => by simpa [RelL] using h
 | μ, μ', hm, c :: cs, vs, hr, hn, h => by
  simp only [RelL] at h ⊢
  simp only [NoRawL, Bool.and_eq_true] at hr
  obtain ⟨x, xs, h1, h2, h3⟩ := h
  exact ⟨x, xs, h1, Rel.thaw hz hm hr.1 (fun u' hu' => hn u' (by simp only [InNL]; exact .inl hu')) h2, RelL.thaw hz hm hr.2 (fun u' hu' => hn u' (by simp only [InNL]; exact .inr hu')) h3⟩
end
end
def Safe (v : Value) (c : AV) : Prop := NoRaw c = true ∧ ∀ u, InN u c → ∀ g, blk v = some g → blk u ≠ some g
def SafeL (v : Value) (cs : List AV) : Prop := NoRawL cs = true ∧ ∀ u, InNL u cs → ∀ g, blk v = some g → blk u ≠ some g
def SafeO (v : Value) : AObj → Prop
 | .box _ cs => SafeL v cs
 | .list _ _ _ cs => SafeL v cs
 | .frame _ cs => SafeL v cs
 | .dead => True
 | .inert (.base _) => True
 | .inert _ => False
theorem safeL_nil {v : Value} : SafeL v [] := ⟨rfl, fun u h => by simp [InNL] at h⟩
theorem safeL_cons {v : Value} {c : AV} {cs : List AV} : SafeL v (c :: cs) ↔ Safe v c ∧ SafeL v cs := by
 simp only [SafeL, Safe, NoRawL, Bool.and_eq_true, InNL]
 exact ⟨fun ⟨h1, h2⟩ => ⟨⟨h1.1, fun u hu => h2 u (.inl hu)⟩, h1.2, fun u hu => h2 u (.inr hu)⟩, fun ⟨h1, h2⟩ => ⟨⟨h1.1, h2.1⟩, fun u hu => hu.elim (h1.2 u) (h2.2 u)⟩⟩
theorem safeL_iff {v : Value} {cs : List AV} : SafeL v cs ↔ ∀ c ∈ cs, Safe v c := by
 induction cs with
 | nil => simp [safeL_nil]
 | cons c cs ih => rw [safeL_cons, ih]; simp
theorem safe_int {v : Value} {k : IntKind} {n : Int} : Safe v (.int k n) := ⟨rfl, fun u h => by simp [InN] at h⟩
theorem safe_AI {v : Value} {n : Int} : Safe v (AI n) := safe_int
theorem safe_bool {v : Value} {b : Bool} : Safe v (.bool b) := ⟨rfl, fun u h => by simp [InN] at h⟩
theorem safe_nil {v : Value} : Safe v .nil := ⟨rfl, fun u h => by simp [InN] at h⟩
theorem safe_ref {v : Value} {i : Nat} : Safe v (.ref i) := ⟨rfl, fun u h => by simp [InN] at h⟩
theorem safe_ptr {v : Value} {i o : Nat} : Safe v (.ptr i o) := ⟨rfl, fun u h => by simp [InN] at h⟩
theorem safe_top {v : Value} : Safe v .top := ⟨rfl, fun u h => by simp [InN] at h⟩
theorem safe_agg {v : Value} {cs : List AV} (h : SafeL v cs) : Safe v (.agg cs) := ⟨by simpa [NoRaw] using h.1, fun u hu => h.2 u (by simpa [InN] using hu)⟩
theorem safe_tup {v : Value} {cs : List AV} (h : SafeL v cs) : Safe v (.tup cs) := ⟨by simpa [NoRaw] using h.1, fun u hu => h.2 u (by simpa [InN] using hu)⟩
theorem safe_nam {v u : Value} {o : Option Nat} {s n : Nat} {cs : List AV} (h : SafeL v cs) (hu : ∀ g, blk v = some g → blk u ≠ some g) : Safe v (.nam u o s n cs) :=
 ⟨by simpa [NoRaw] using h.1, fun u' hu' => by
  simp only [InN] at hu'
  rcases hu' with ⟨rfl, _⟩ | hu'
  ·exact hu
  ·exact h.2 u' hu'⟩
theorem own_read {w : World} {Z : Nat → Prop} {B e s n c : Nat} {v : Value} {A : Option Addr} {xs ys : List Value} (h : w.ownsRow B e s v n ys) (hv : v = .slice A n c) (hl : xs.length = n * s) (hr : Rd w Z A xs) : xs = ys := by
 have hl2 := h.1
 rcases h.2 with ⟨h1, rfl⟩ | ⟨g, cap, cur, h1, h2, h3, h4, h5, h6, h7⟩
 ·simp at hl hl2
  rw [hl, hl2]
 ·subst h1
  simp only [Value.slice.injEq] at hv
  obtain ⟨rfl, _, rfl⟩ := hv
  apply List.ext_getElem?
  intro j
  rcases Nat.lt_or_ge j (n * s) with hj | hj
  ·obtain ⟨x, hx⟩ : ∃ x, xs[j]? = some x := ⟨_, List.getElem?_eq_getElem (by omega)⟩
   obtain ⟨ad, e1, _, e2⟩ := hr (by rintro rfl; simp at hx)
   cases e1
   have h8 := e2 j x hx
   rw [add_lit', Nat.zero_add, h.cellAt j hj] at h8
   rw [hx, h8]
  ·rw [List.getElem?_eq_none (by omega), List.getElem?_eq_none (by omega)]
theorem ownsRow_from {w : World} {B B' e s n : Nat} {v : Value} {xs : List Value} (h : w.ownsRow B e s v n xs) (hg : ∀ g, blk v = some g → B' ≤ g) : w.ownsRow B' e s v n xs := by
 refine ⟨h.1, h.2.imp id ?_⟩
 rintro ⟨g, cap, cur, h1, h2, h3⟩
 exact ⟨g, cap, cur, h1, hg g (by rw [h1]; rfl), h3⟩

def SubE {ι : Type} (st : St) (st' : ι → St) (Φ : ι → Prop) : Prop := ∀ (Z0 : Nat → Prop) (w0 : World) (a : Act) (w : World), Sim Z0 w0 st a w → ∃ x, Φ x ∧ Sim Z0 w0 (st' x) a w
section
variable {rd : Option Nat} {P : Program} {m : M} {Q : Exit → St → Prop}
theorem R.subE {ι : Type} (st' : ι → St) (Φ : ι → Prop) (h : subOk m = true) (hs : SubE m.st st' Φ) (h' : ∀ x, Φ x → Runs rd P ⟨m.ks, st' x⟩ Q) : Runs rd P m Q := by
 obtain ⟨ks, st⟩ := m
 unfold subOk at h
 simp only [runs_iff] at h' ⊢
 try simp only at h hs h' ⊢
 split at h
 ·intro Z0 w0 a w hS
  obtain ⟨x, hx, hS'⟩ := hs Z0 w0 a w hS
  exact h' x hx Z0 w0 a w hS'
 ·intro _ Z0 w0 a w hS
  obtain ⟨x, hx, hS'⟩ := hs Z0 w0 a w hS
  exact h' x hx headW_false Z0 w0 a w hS'
 ·intro Z0 w0 a w hS
  obtain ⟨x, hx, hS'⟩ := hs Z0 w0 a w hS
  exact h' x hx Z0 w0 a w hS'
 ·cases h
end

def InS (u : Value) (st : St) : Prop := InNL u st.fr ∨ ∃ (j : Nat) (o : AObj), st.hp[j]? = some o ∧ InNL u o.cells
theorem InS.of {w : World} {Z : Nat → Prop} {B : Nat} {μ : List Value} {st : St} {vs : List Value} {u : Value} {g : Nat} (hH : HRel w Z B μ st.hp) (hF : RelL w Z μ st.fr vs) (hg : blk u = some g) (h : InS u st) : g < w.heap.size ∧ ¬ Z g := by
 rcases h with h | ⟨j, o, ho, h⟩
 ·exact InNL.of hg hF h
 ·have hjl : j < μ.length := by rw [hH.len]; exact (List.getElem?_eq_some_iff.1 ho).1
  obtain ⟨xs, hx, _⟩ := obj_cells (hH.obj j o _ ho (List.getElem?_eq_getElem hjl))
  exact InNL.of hg hx h
def NewN (st : St) (v : Value) : Prop :=
 (∀ u, InS u st → ∀ g, blk v = some g → blk u ≠ some g) ∧ ∀ (k b : Nat), st.hp[k]? = some (.inert (.base b)) → ∀ g, blk v = some g → b ≤ g
theorem SubE.pin (i e s n : Nat) (cs : List AV) (st : St) (hi : st.hp[i]? = some (.list e s n cs)) : SubE st (fun u => frzS i (.nam u (some e) s n cs) st) (NewN st) := by
 rintro Z0 w0 a w ⟨μ, F, hFb, hH, hF, hd, hb⟩
 have hil : i < μ.length := by rw [hH.len]; exact (List.getElem?_eq_some_iff.1 hi).1
 obtain ⟨u, hu⟩ : ∃ u, μ[i]? = some u := ⟨_, List.getElem?_eq_getElem hil⟩
 obtain ⟨xs, hown, hx⟩ := hH.obj i _ u hi hu
 have hge : ∀ g, blk u = some g → w0.heap.size ≤ g := fun g hg => ((hH.obj i _ u hi hu).blk_ge rfl hg).1
 refine ⟨u, ⟨fun u' hu' g hg hg' => (InS.of hH hF hg' hu').2 (hH.zone i _ u g hi rfl hu hg), fun k b hk g hg => ?_⟩, ?_⟩
 ·have hkl : k < μ.length := by rw [hH.len]; exact (List.getElem?_eq_some_iff.1 hk).1
  have h1 := hH.obj k _ _ hk (List.getElem?_eq_getElem hkl)
  obtain ⟨_, rfl⟩ := h1
  exact hge g hg
 have hz : ∀ b, b < w.heap.size → ¬ Zone Z0 F w0.heap.size b → ¬ Zone Z0 (fun b => F b ∨ blk u = some b) w0.heap.size b := fun b _ h => zone_more b h
 have hr0 : Rel w (Zone Z0 (fun b => F b ∨ blk u = some b) w0.heap.size) μ (.lst s n cs) u := own_lst hown hx hz (fun g hg hzz => hzz.elim (fun h => by
  have := hge g hg
  omega) (fun h => h.2 (.inr hg)))
 have hr : Rel w (Zone Z0 (fun b => F b ∨ blk u = some b) w0.heap.size) μ (.nam u (some e) s n cs) u := by
  simp only [Rel] at hr0 ⊢
  refine ⟨⟨trivial, fun e' he' => ?_⟩, hr0⟩
  cases he'
  refine ⟨xs, ownsRow_from hown (fun _ _ => Nat.zero_le _), fun g hg hzz => ?_⟩
  exact hzz.elim (fun h => by
   have := hge g hg
   omega) (fun h => h.2 (.inr hg))
 refine ⟨μ, fun b => F b ∨ blk u = some b, fun b h => h.elim (hFb b) (fun h => (hH.obj i _ u hi hu).blk_ge rfl h), ?_, RelL.frz i _ u hz hu hr hF, hd.keep (fun j x hj => ⟨?_, fun u hu => hu⟩), hb⟩
 rotate_left
 ·have hne : i ≠ j := by
   rintro rfl
   rw [hi] at hj
   cases hj
  show ((st.hp.map (AObj.frz i _)).set i .dead)[j]? = _
  rw [List.getElem?_set_ne hne, List.getElem?_map, hj]
  rfl
 have get : ∀ (j : Nat) o, ((st.hp.map (AObj.frz i (.nam u (some e) s n cs))).set i .dead)[j]? = some o → o = .dead ∨ (j ≠ i ∧ ∃ o', st.hp[j]? = some o' ∧ o = o'.frz i (.nam u (some e) s n cs)) := by
  intro j o ho
  by_cases hj : j = i
  ·subst hj
   rw [List.getElem?_set_self (by simpa using (List.getElem?_eq_some_iff.1 hi).1)] at ho
   simp at ho
   exact .inl ho.symm
  ·rw [List.getElem?_set_ne (Ne.symm hj), List.getElem?_map, Option.map_eq_some_iff] at ho
   obtain ⟨o', h1, rfl⟩ := ho
   exact .inr ⟨hj, o', h1, rfl⟩
 refine ⟨by simp [frzS, hH.len], fun j o v g h1 ha h2 hg => ?_, hH.one, fun j o v h1 h2 => ?_, fun j k oj ok uj uk g hne h1 h2 a1 a2 m1 m2 b1 b2 => ?_⟩
 ·rcases get j o h1 with rfl | ⟨hj, o', ho, rfl⟩
  ·cases ha
  ·rw [AObj.frz_alive] at ha
   have h3 := hH.zone j o' v g ho ha h2 hg
   exact h3.elim .inl (fun h => .inr ⟨h.1, fun hf => hf.elim h.2 (fun h4 => hH.sep i j _ o' u v g (Ne.symm hj) hi ho rfl ha hu h2 h4 hg)⟩)
 ·rcases get j o h1 with rfl | ⟨hj, o', ho, rfl⟩
  ·trivial
  ·have hO := hH.obj j o' v ho h2
   cases o' with
   | box t ds => obtain ⟨g, ys, e1, e2, e3, e4⟩ := hO; exact ⟨g, ys, e1, e2, e3, RelL.frz i _ u hz hu hr e4⟩
   | list e s n ds => obtain ⟨ys, e1, e2⟩ := hO; exact ⟨ys, e1, e2.weak hz⟩
   | dead => trivial
   | frame us ds => exact RelL.frz i _ u hz hu hr hO
   | inert x => exact InertRel.keep (fun b h1 h2 => ⟨rfl, hz b h1 h2⟩) hO
 ·rcases get j oj h1 with rfl | ⟨hj, o1, ho1, rfl⟩
  ·cases a1
  ·rcases get k ok h2 with rfl | ⟨hk, o2, ho2, rfl⟩
   ·cases a2
   ·rw [AObj.frz_alive] at a1 a2
    exact hH.sep j k o1 o2 uj uk g hne ho1 ho2 a1 a2 m1 m2 b1 b2
section
variable {rd : Option Nat} {P : Program} {m : M} {Q : Exit → St → Prop}
theorem R.pin (i e s n : Nat) (cs : List AV) (h : subOk m = true) (hi : m.st.hp[i]? = some (.list e s n cs)) (h' : ∀ u, NewN m.st u → Runs rd P ⟨m.ks, frzS i (.nam u (some e) s n cs) m.st⟩ Q) : Runs rd P m Q :=
 R.subE _ _ h (SubE.pin i e s n cs m.st hi) h'
end

theorem HRel.swapO {w : World} {Z : Nat → Prop} {B : Nat} {μ : List Value} {hp : List AObj} {i : Nat} {o o' : AObj} (h : HRel w Z B μ hp) (hi : hp[i]? = some o) (ha : o'.alive = true → o.alive = true) (ho : ∀ u, μ[i]? = some u → ObjRel w Z μ B u o → ObjRel w Z μ B u o') : HRel w Z B μ (hp.set i o') := by
 have hil := (List.getElem?_eq_some_iff.1 hi).1
 have get : ∀ (j : Nat) oj, (hp.set i o')[j]? = some oj → (j = i ∧ oj = o') ∨ (j ≠ i ∧ hp[j]? = some oj) := by
  intro j oj hj
  by_cases hji : j = i
  ·subst hji
   rw [List.getElem?_set_self hil] at hj
   simp at hj
   exact .inl ⟨rfl, hj.symm⟩
  ·rw [List.getElem?_set_ne (Ne.symm hji)] at hj
   exact .inr ⟨hji, hj⟩
 have old : ∀ (j : Nat) oj, (hp.set i o')[j]? = some oj → ∃ o1, hp[j]? = some o1 ∧ (oj.alive = true → o1.alive = true) := by
  intro j oj hj
  rcases get j oj hj with ⟨rfl, rfl⟩ | ⟨_, h1⟩
  ·exact ⟨o, hi, ha⟩
  ·exact ⟨oj, h1, id⟩
 refine ⟨by simpa using h.len, fun j oj u g h1 h2 h3 hg => ?_, h.one, fun j oj u h1 h2 => ?_, fun j k oj ok uj uk g hne h1 h2 a1 a2 m1 m2 b1 b2 => ?_⟩
 ·obtain ⟨o1, e1, f1⟩ := old j oj h1
  exact h.zone j o1 u g e1 (f1 h2) h3 hg
 ·rcases get j oj h1 with ⟨rfl, rfl⟩ | ⟨_, e1⟩
  ·exact ho u h2 (h.obj j o u hi h2)
  ·exact h.obj j oj u e1 h2
 ·obtain ⟨o1, e1, f1⟩ := old j oj h1
  obtain ⟨o2, e2, f2⟩ := old k ok h2
  exact h.sep j k o1 o2 uj uk g hne e1 e2 (f1 a1) (f2 a2) m1 m2 b1 b2

def weakN (v : Value) (n : Nat) : AV := .nam v none 0 n []
theorem weakN_of {w : World} {Z Z' : Nat → Prop} {μ μ' : List Value} {v x : Value} {o : Option Nat} {s n : Nat} {cs : List AV} (h : Rel w Z μ (.nam v o s n cs) x) : Rel w Z' μ' (weakN v n) x := by
 simp only [Rel, weakN] at h ⊢
 obtain ⟨⟨h0, _⟩, A, c, xs, h1, h2, h3, h4, h5⟩ := h
 exact ⟨⟨h0, fun e he => by cases he⟩, A, c, [], h1, by simp, h3, fun h => absurd rfl h, RelL.nil⟩
def thawS (j p t e s n : Nat) (v : Value) (cs : List AV) (el s1 n1 : Nat) (cells : List AV) (st : St) : St :=
 ⟨st.fr.set t (.ref st.hp.length), st.hp.set j (.list el s1 n1 (cells.set p (weakN v n))) ++ [.list e s n cs, .frame [v] [.ref st.hp.length]]⟩
theorem Sub.thaw (j p t k e s n el s1 n1 b : Nat) (v : Value) (cs cells : List AV) (st : St) (hj : st.hp[j]? = some (.list el s1 n1 cells)) (hp : cells[p]? = some (.nam v (some e) s n cs)) (ht : st.fr[t]? = some (.nam v (some e) s n cs)) (hcs : closedL cs = true)
  (hk : st.hp[k]? = some (.inert (.base b))) (hge : ∀ g, blk v = some g → b ≤ g) (hfr : ∀ i c, st.fr[i]? = some c → i ≠ t → Safe v c) (hcell : ∀ q c, cells[q]? = some c → q ≠ p → Safe v c) (hoth : ∀ i o, st.hp[i]? = some o → i ≠ j → SafeO v o) :
  Sub st (thawS j p t e s n v cs el s1 n1 cells st) := by
 rintro Z0 w0 a w ⟨μ, F, hFb, hH, hF, hd, hb⟩
 have hjl := (List.getElem?_eq_some_iff.1 hj).1
 obtain ⟨x, hx, hrx⟩ := hF.get ht
 simp only [Rel] at hrx
 obtain ⟨⟨rfl, h00⟩, A, c, xs, h1, h2, h3, h4, h5⟩ := hrx
 obtain ⟨ys, hown, hyz⟩ := h00 e rfl
 have hxy : xs = ys := own_read hown h1 (by rw [h5.length, h2]) h4
 subst hxy
 have hB : ∀ g, blk x = some g → w0.heap.size ≤ g := fun g hg => by
  have hkl : k < μ.length := by rw [hH.len]; exact (List.getElem?_eq_some_iff.1 hk).1
  have h1 := hH.obj k _ _ hk (List.getElem?_eq_getElem hkl)
  obtain ⟨_, rfl⟩ := h1
  exact hge g hg
 have hz : ∀ b, ¬ Zone Z0 F w0.heap.size b → blk x ≠ some b → ¬ Zone Z0 (fun b => F b ∧ blk x ≠ some b) w0.heap.size b := fun b h1 h2 hzz => h1 (hzz.elim .inl (fun h => .inr ⟨h.1, fun hf => h.2 ⟨hf, h2⟩⟩))
 have hzz : ∀ b, Zone Z0 F w0.heap.size b → Zone Z0 (fun b => F b ∧ blk x ≠ some b) w0.heap.size b := fun b h => h.elim .inl (fun h => .inr ⟨h.1, fun hf => h.2 hf.1⟩)
 have hm : ∀ (i : Nat) (u : Value), μ[i]? = some u → (μ ++ [x, .bool false])[i]? = some u := fun i u h => append_old i u h
 have hml : (μ ++ [x, .bool false])[st.hp.length]? = some x := by rw [← hH.len]; simp
 have hSc : ∀ {μ1 μ2 : List Value}, (∀ (i : Nat) (u : Value), μ1[i]? = some u → μ2[i]? = some u) → ∀ {c : AV} {v : Value}, Safe x c → Rel w (Zone Z0 F w0.heap.size) μ1 c v → Rel w (Zone Z0 (fun b => F b ∧ blk x ≠ some b) w0.heap.size) μ2 c v := fun hm _ _ hs hr => Rel.thaw (g := blk x) hz hm hs.1 hs.2 hr
 have hSl : ∀ {μ1 μ2 : List Value}, (∀ (i : Nat) (u : Value), μ1[i]? = some u → μ2[i]? = some u) → ∀ {c : List AV} {v : List Value}, SafeL x c → RelL w (Zone Z0 F w0.heap.size) μ1 c v → RelL w (Zone Z0 (fun b => F b ∧ blk x ≠ some b) w0.heap.size) μ2 c v := fun hm _ _ hs hr => RelL.thaw (g := blk x) hz hm hs.1 hs.2 hr
 refine ⟨μ ++ [x, .bool false], fun b => F b ∧ blk x ≠ some b, fun b h => hFb b h.1, ?_, ?_, hd.keep (fun i y hi => ⟨?_, fun u hu => hm i u hu⟩), hb⟩
 rotate_left
 ·refine relL_of_get (by rw [hF.length]; simp [thawS]) (fun i c y hi hy => ?_)
  simp only [thawS] at hi
  by_cases hit : i = t
  ·subst hit
   rw [List.getElem?_set_self (List.getElem?_eq_some_iff.1 ht).1] at hi
   simp only [Option.some.injEq] at hi
   subst hi
   rw [hx] at hy
   cases hy
   simp only [Rel]
   exact hml
  ·rw [List.getElem?_set_ne (Ne.symm hit)] at hi
   obtain ⟨y', hy', hr⟩ := hF.get hi
   rw [hy] at hy'
   cases hy'
   exact hSc hm (hfr i c hi hit) hr
 ·have hne : j ≠ i := by
   rintro rfl
   rw [hj] at hi
   cases hi
  simp only [thawS]
  rw [List.getElem?_append_left (by simpa using (List.getElem?_eq_some_iff.1 hi).1), List.getElem?_set_ne hne]
  exact hi
 -- objects
 have get : ∀ (i : Nat) o u, (thawS j p t e s n x cs el s1 n1 cells st).hp[i]? = some o → (μ ++ [x, .bool false])[i]? = some u →
   (i ≠ j ∧ st.hp[i]? = some o ∧ μ[i]? = some u) ∨ (i = j ∧ o = .list el s1 n1 (cells.set p (weakN x n)) ∧ μ[i]? = some u) ∨ (i = st.hp.length ∧ o = .list e s n cs ∧ u = x) ∨ (i = st.hp.length + 1 ∧ o = .frame [x] [.ref st.hp.length] ∧ u = .bool false) := by
  intro i o u h1 h2
  simp only [thawS] at h1
  rcases Nat.lt_or_ge i st.hp.length with hi | hi
  ·rw [List.getElem?_append_left (by simpa using hi)] at h1
   rw [List.getElem?_append_left (by rw [hH.len]; exact hi)] at h2
   by_cases hij : i = j
   ·subst hij
    rw [List.getElem?_set_self hi] at h1
    simp only [Option.some.injEq] at h1
    exact .inr (.inl ⟨rfl, h1.symm, h2⟩)
   ·rw [List.getElem?_set_ne (Ne.symm hij)] at h1
    exact .inl ⟨hij, h1, h2⟩
  ·rw [List.getElem?_append_right (by simpa using hi)] at h1
   rw [List.getElem?_append_right (by rw [hH.len]; exact hi), hH.len] at h2
   simp only [List.length_set] at h1
   rcases Nat.lt_trichotomy (i - st.hp.length) 1 with h | h | h
   ·have h0 : i - st.hp.length = 0 := by omega
    rw [h0] at h1 h2
    simp at h1 h2
    exact .inr (.inr (.inl ⟨by omega, h1.symm, h2.symm⟩))
   ·rw [h] at h1 h2
    simp at h1 h2
    exact .inr (.inr (.inr ⟨by omega, h1.symm, h2.symm⟩))
   ·rw [List.getElem?_eq_none (by simp; omega)] at h1
    cases h1
 have old : ∀ (i : Nat) o u, (thawS j p t e s n x cs el s1 n1 cells st).hp[i]? = some o → (μ ++ [x, .bool false])[i]? = some u → o.alive = true → (∃ o', st.hp[i]? = some o' ∧ o'.alive = true ∧ μ[i]? = some u) ∨ (i = st.hp.length ∧ u = x) := by
  intro i o u h1 h2 ha
  rcases get i o u h1 h2 with ⟨_, e1, e2⟩ | ⟨rfl, rfl, e2⟩ | ⟨e1, rfl, e2⟩ | ⟨_, rfl, _⟩
  ·exact .inl ⟨o, e1, ha, e2⟩
  ·exact .inl ⟨_, hj, rfl, e2⟩
  ·exact .inr ⟨e1, e2⟩
  ·cases ha
 refine ⟨by simp [thawS, hH.len], fun i o u g h1 ha h2 hg => ?_, fun i u hu => ?_, fun i o u h1 h2 => ?_, fun i i2 o o2 u u2 g hne h1 h2 a1 a2 m1 m2 b1 b2 => ?_⟩
 ·rcases old i o u h1 h2 ha with ⟨o', e1, e2, e3⟩ | ⟨_, rfl⟩
  ·exact hzz g (hH.zone i o' u g e1 e2 e3 hg)
  ·exact .inr ⟨hB g hg, fun hf => hf.2 hg⟩
 ·rcases Nat.lt_or_ge i μ.length with hi | hi
  ·rw [List.getElem?_append_left hi] at hu
   exact hH.one i u hu
  ·rw [List.getElem?_append_right hi] at hu
   rcases Nat.lt_trichotomy (i - μ.length) 1 with h | h | h
   ·have h0 : i - μ.length = 0 := by omega
    rw [h0] at hu
    simp at hu
    subst hu
    rw [h1]; rfl
   ·rw [h] at hu
    simp at hu
    subst hu
    rfl
   ·rw [List.getElem?_eq_none (by simp; omega)] at hu
    cases hu
 ·rcases get i o u h1 h2 with ⟨hij, e1, e2⟩ | ⟨rfl, rfl, e2⟩ | ⟨_, rfl, rfl⟩ | ⟨_, rfl, rfl⟩
  ·have hO := hH.obj i o u e1 e2
   have hs := hoth i o e1 hij
   cases o with
   | box t ds => obtain ⟨g, zs, e1, e2, e3, e4⟩ := hO; exact ⟨g, zs, e1, e2, e3, hSl hm hs e4⟩
   | list e s n ds => obtain ⟨zs, e1, e2⟩ := hO; exact ⟨zs, e1, hSl (fun _ _ h => h) hs e2⟩
   | dead => trivial
   | frame us ds => exact hSl hm hs hO
   | inert y =>
    cases y with
    | base b' => exact hO
    | mark D => exact hs.elim
    | lrec D s us ps asg bd => exact hs.elim
    | map P k e ks => exact hs.elim
  ·obtain ⟨zs, e1, e3⟩ := hH.obj i _ u hj e2
   refine ⟨zs, e1, relL_of_get (by rw [e3.length]; simp) (fun q c y hq hy => ?_)⟩
   by_cases hqp : q = p
   ·subst hqp
    rw [List.getElem?_set_self (List.getElem?_eq_some_iff.1 hp).1] at hq
    simp only [Option.some.injEq] at hq
    subst hq
    obtain ⟨y', hy', hr⟩ := e3.get hp
    rw [hy] at hy'
    cases hy'
    exact weakN_of hr
   ·rw [List.getElem?_set_ne (Ne.symm hqp)] at hq
    obtain ⟨y', hy', hr⟩ := e3.get hq
    rw [hy] at hy'
    cases hy'
    exact hSc (fun _ _ h => h) (hcell q c hq hqp) hr
  ·exact ⟨xs, ownsRow_from hown hB, RelL.shut hcs h5⟩
  ·exact RelL.cons (by simp only [Rel]; exact hml) RelL.nil
 ·rcases old i o u h1 m1 a1 with ⟨o', e1, e2, e3⟩ | ⟨e1, rfl⟩ <;> rcases old i2 o2 u2 h2 m2 a2 with ⟨o2', f1, f2, f3⟩ | ⟨f1, rfl⟩
  ·exact hH.sep i i2 o' o2' u u2 g hne e1 f1 e2 f2 e3 f3 b1 b2
  ·exact hyz g b2 (hH.zone i o' u g e1 e2 e3 b1)
  ·exact hyz g b1 (hH.zone i2 o2' u2 g f1 f2 f3 b2)
  ·omega
def pinS (j p k e s n : Nat) (v : Value) (cs : List AV) (el s1 n1 : Nat) (cells : List AV) (st : St) : St :=
 ⟨(frzS k (.nam v (some e) s n cs) st).fr, ((frzS k (.nam v (some e) s n cs) st).hp.set j (.list el s1 n1 (cells.set p (.nam v (some e) s n cs)))).set (k + 1) .dead⟩
theorem Sub.repin (j p k e s n el s1 n1 n0 : Nat) (v : Value) (cs cells : List AV) (st : St) (hj : st.hp[j]? = some (.list el s1 n1 cells)) (hp : cells[p]? = some (weakN v n0)) (hk : st.hp[k]? = some (.list e s n cs)) (hk1 : st.hp[k + 1]? = some (.frame [v] [.ref k])) (hjk : j ≠ k) :
  Sub st (pinS j p k e s n v cs el s1 n1 cells st) := by
 intro Z0 w0 a w hS
 obtain ⟨u, _, μ, F, hFb, hH, hF, hd, hb⟩ := SubE.pin k e s n cs st hk Z0 w0 a w hS
 have hml : μ.length = (frzS k (.nam u (some e) s n cs) st).hp.length := hH.len
 have hkl := (List.getElem?_eq_some_iff.1 hk1).1
 have hjl := (List.getElem?_eq_some_iff.1 hj).1
 have hL : (frzS k (.nam u (some e) s n cs) st).hp.length = st.hp.length := by simp [frzS]
 have hfr : (frzS k (.nam u (some e) s n cs) st).hp[k + 1]? = some (.frame [v] [.nam u (some e) s n cs]) := by
  simp only [frzS]
  rw [List.getElem?_set_ne (by omega), List.getElem?_map, hk1]
  simp [AObj.frz, frzL, frzV]
 have hjj : (frzS k (.nam u (some e) s n cs) st).hp[j]? = some (.list el s1 n1 cells) := by
  simp only [frzS]
  rw [List.getElem?_set_ne (Ne.symm hjk), List.getElem?_map, hj]
  rfl
 have hO := hH.obj (k + 1) _ _ hfr (List.getElem?_eq_getElem (by omega))
 obtain ⟨y, ys, hy, hr, hys⟩ := hO
 cases hy
 have huv : v = u := by
  have h2 := hr
  simp only [Rel] at h2
  exact h2.1.1
 subst huv
 have hr0 := Rel.leafy (by rfl) hr
 refine ⟨μ, F, hFb, ?_, hF, hd.keep (fun i x hi => ⟨?_, fun u hu => hu⟩), hb⟩
 ·have h1 := hH.swapO (i := j) (o' := .list el s1 n1 (cells.set p (.nam v (some e) s n cs))) hjj (fun _ => rfl) (fun u hu hO => ?_)
  ·exact h1.swapO (i := k + 1) (o' := .dead) (o := .frame [v] [.nam v (some e) s n cs]) (by rw [List.getElem?_set_ne (by rintro rfl; rw [hfr] at hjj; cases hjj)]; exact hfr) (fun h => by cases h) (fun _ _ _ => trivial)
  ·obtain ⟨zs, e1, e3⟩ := hO
   refine ⟨zs, e1, relL_of_get (by rw [e3.length]; simp) (fun q c y hq hy => ?_)⟩
   by_cases hqp : q = p
   ·subst hqp
    rw [List.getElem?_set_self (List.getElem?_eq_some_iff.1 hp).1] at hq
    simp only [Option.some.injEq] at hq
    subst hq
    obtain ⟨y', hy', hr2⟩ := e3.get hp
    rw [hy] at hy'
    cases hy'
    have h3 := hr2
    simp only [weakN, Rel] at h3
    rw [h3.1.1]
    exact hr0
   ·rw [List.getElem?_set_ne (Ne.symm hqp)] at hq
    obtain ⟨y', hy', hr⟩ := e3.get hq
    rw [hy] at hy'
    cases hy'
    exact hr
 ·have h1 : j ≠ i := by rintro rfl; rw [hjj] at hi; cases hi
  have h2 : k + 1 ≠ i := by rintro rfl; rw [hfr] at hi; cases hi
  simp only [pinS]
  rw [List.getElem?_set_ne h2, List.getElem?_set_ne h1]
  exact hi
section
variable {rd : Option Nat} {P : Program} {m : M} {Q : Exit → St → Prop}
theorem R.thaw (j p t k e s n el s1 n1 b : Nat) (v : Value) (cs cells : List AV) (h : subOk m = true) (hj : m.st.hp[j]? = some (.list el s1 n1 cells)) (hp : cells[p]? = some (.nam v (some e) s n cs)) (ht : m.st.fr[t]? = some (.nam v (some e) s n cs)) (hcs : closedL cs = true)
  (hk : m.st.hp[k]? = some (.inert (.base b))) (hge : ∀ g, blk v = some g → b ≤ g) (hfr : SafeL v (m.st.fr.set t .top)) (hcell : ∀ q c, cells[q]? = some c → q ≠ p → Safe v c) (hoth : ∀ o ∈ m.st.hp.set j .dead, SafeO v o)
  (h' : Runs rd P ⟨m.ks, thawS j p t e s n v cs el s1 n1 cells m.st⟩ Q) : Runs rd P m Q :=
 R.sub _ h (Sub.thaw j p t k e s n el s1 n1 b v cs cells m.st hj hp ht hcs hk hge (fun i c hi hit => safeL_iff.1 hfr c (List.mem_of_getElem? (i := i) (by rw [List.getElem?_set_ne (Ne.symm hit)]; exact hi))) hcell
  (fun i o hi hij => hoth o (List.mem_of_getElem? (i := i) (by rw [List.getElem?_set_ne (Ne.symm hij)]; exact hi)))) h'
theorem R.repin (j p k e s n el s1 n1 n0 : Nat) (v : Value) (cs cells : List AV) (h : subOk m = true) (hj : m.st.hp[j]? = some (.list el s1 n1 cells)) (hp : cells[p]? = some (weakN v n0)) (hk : m.st.hp[k]? = some (.list e s n cs)) (hk1 : m.st.hp[k + 1]? = some (.frame [v] [.ref k])) (hjk : j ≠ k)
  (h' : Runs rd P ⟨m.ks, pinS j p k e s n v cs el s1 n1 cells m.st⟩ Q) : Runs rd P m Q :=
 R.sub _ h (Sub.repin j p k e s n el s1 n1 n0 v cs cells m.st hj hp hk hk1 hjk) h'
end

mutual
def nameable : AV → Bool
 | .lst _ _ cs => nameableL cs
 | .agg cs => nameableL cs
 | .int _ _ => true
 | .bool _ => true
 | .nil => true
 | .nam _ _ _ _ _ => false
 | .clp _ _ _ => false
 | .rptr _ => false
 | .tup _ => false
 | .fn _ _ => false
 | .str _ => true
 | .ref _ => false
 | .ptr _ _ => false
 | .own _ _ _ _ => false
 | .top => true
def nameableL : List AV → Bool
 | [] => true
 | c :: cs => nameable c && nameableL cs
end
structure ByN (c' c : AV) : Prop where
 leafy : c'.leafy = true
 raw : NoRaw c' = true
 fgt : ∀ (w : World) (Z : Nat → Prop) v, Rel w Z [] c' v → Rel w Z [] c v
structure ByNL (c' c : List AV) : Prop where
 leafy : leafyL c' = true
 raw : NoRawL c' = true
 fgt : ∀ (w : World) (Z : Nat → Prop) v, RelL w Z [] c' v → RelL w Z [] c v
mutual
theorem name_of {w : World} {Z : Nat → Prop} : ∀ {c : AV} {v : Value}, nameable c = true → Rel w Z [] c v → ∃ c', ByN c' c ∧ Rel w Z [] c' v
 | .lst s n cs, v, h, hr => by
  simp only [nameable] at h
  simp only [Rel] at hr
  obtain ⟨A, c, xs, h1, h2, h3, h4, h5⟩ := hr
  obtain ⟨cs', ⟨k1, k2, k3⟩, k4⟩ := nameL_of h h5
  refine ⟨.nam v none s n cs', ⟨rfl, by simpa [NoRaw] using k2, fun w Z x hx => ?_⟩, ?_⟩
  ·simp only [Rel] at hx ⊢
   obtain ⟨_, A, c, xs', e1, e2, e3, e4, e5⟩ := hx
   exact ⟨A, c, xs', e1, by rw [← h2, ← h5.length, k4.length, e2, ← e2, ← k4.length, h5.length, h2] , e3, e4, k3 _ _ _ e5⟩
  ·simp only [Rel]
   exact ⟨⟨trivial, fun e he => by cases he⟩, A, c, xs, h1, by rw [← k4.length, h5.length, h2], h3, h4, k4⟩
 | .agg cs, v, h, hr => by
  simp only [nameable] at h
  simp only [Rel] at hr
  obtain ⟨xs, h1, h5⟩ := hr
  obtain ⟨cs', ⟨k1, k2, k3⟩, k4⟩ := nameL_of h h5
  refine ⟨.agg cs', ⟨by simpa [AV.leafy] using k1, by simpa [NoRaw] using k2, fun w Z x hx => ?_⟩, ?_⟩
  ·simp only [Rel] at hx ⊢
   obtain ⟨xs', e1, e5⟩ := hx
   exact ⟨xs', e1, k3 _ _ _ e5⟩
  ·simp only [Rel]
   exact ⟨xs, h1, k4⟩
 | .int k n, v, _, hr => ⟨.int k n, ⟨rfl, rfl, fun _ _ _ h => h⟩, hr⟩
 | .bool b, v, _, hr => ⟨.bool b, ⟨rfl, rfl, fun _ _ _ h => h⟩, hr⟩
 | .str b, v, _, hr => ⟨.str b, ⟨rfl, rfl, fun _ _ _ h => h⟩, hr⟩
 | .nil, v, _, hr => ⟨.nil, ⟨rfl, rfl, fun _ _ _ h => h⟩, hr⟩
 | .top, v, _, hr => ⟨.top, ⟨rfl, rfl, fun _ _ _ h => h⟩, hr⟩
 | .nam _ _ _ _ _, _, h, _ => by simp [nameable] at h
 | .clp _ _ _, _, h, _ => by simp [nameable] at h
 | .rptr _, _, h, _ => by simp [nameable] at h
 | .tup _, _, h, _ => by simp [nameable] at h
 | .fn _ _, _, h, _ => by simp [nameable] at h
 | .ref _, _, h, _ => by simp [nameable] at h
 | .ptr _ _, _, h, _ => by simp [nameable] at h
 | .own _ _ _ _, _, h, _ => by simp [nameable] at h
theorem nameL_of {w : World} {Z : Nat → Prop} : ∀ {c : List AV} {v : List Value}, nameableL c = true → RelL w Z [] c v → ∃ c', ByNL c' c ∧ RelL w Z [] c' v
 | [], v, _, hr => ⟨[], ⟨rfl, rfl, fun _ _ _ h => h⟩, hr⟩
 | c :: cs, v, h, hr => by
  simp only [nameableL, Bool.and_eq_true] at h
  simp only [RelL] at hr
  obtain ⟨x, xs, rfl, h1, h2⟩ := hr
  obtain ⟨c', ⟨k1, k2, k3⟩, k4⟩ := name_of h.1 h1
  obtain ⟨cs', ⟨l1, l2, l3⟩, l4⟩ := nameL_of h.2 h2
  refine ⟨c' :: cs', ⟨by simp [leafyL, k1, l1], by simp [NoRawL, k2, l2], fun w Z v hv => ?_⟩, RelL.cons k4 l4⟩
  simp only [RelL] at hv ⊢
  obtain ⟨x, xs, e1, e2, e3⟩ := hv
  exact ⟨x, xs, e1, k3 _ _ _ e2, l3 _ _ _ e3⟩
end
theorem SubE.name (t : Nat) (c : AV) (st : St) (ht : st.fr[t]? = some c) (hn : nameable c = true) (hl : c.leafy = true) : SubE st (fun c' => ⟨st.fr.set t c', st.hp⟩) (fun c' => ByN c' c) := by
 rintro Z0 w0 a w ⟨μ, F, hFb, hH, hF, hd, hb⟩
 obtain ⟨x, hx, hr⟩ := hF.get ht
 obtain ⟨c', h1, h2⟩ := name_of hn (Rel.leafy hl hr)
 refine ⟨c', h1, μ, F, hFb, hH, ?_, hd, hb⟩
 have h3 := hF.set t h2.lift
 rwa [show a.tmps.toList.set t x = a.tmps.toList by
  apply List.ext_getElem?
  intro i
  by_cases hi : i = t
  ·subst hi; rw [List.getElem?_set_self (List.getElem?_eq_some_iff.1 hx).1, hx]
  ·rw [List.getElem?_set_ne (Ne.symm hi)]] at h3
section
variable {rd : Option Nat} {P : Program} {m : M} {Q : Exit → St → Prop}
theorem R.name (t : Nat) (c : AV) (h : subOk m = true) (ht : m.st.fr[t]? = some c) (hn : nameable c = true) (hl : c.leafy = true) (h' : ∀ c', ByN c' c → Runs rd P ⟨m.ks, ⟨m.st.fr.set t c', m.st.hp⟩⟩ Q) : Runs rd P m Q :=
 R.subE _ _ h (SubE.name t c m.st ht hn hl) h'
end
end Go.Abs
