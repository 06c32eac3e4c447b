/- Texts of the proof: Sym6, Sym9, SH5, SH6. -/
import Derived.Test.YtogehjciaamcfaaPartJ

/-! Calls by reference whose caller's frame does not name one object (a row that the call may move). -/
namespace Go.Abs
open Go.RowKit Go.ChangeShapes Go.WideShapes Go.Deep

mutual
theorem AV.kill_ren {js : List Nat} {q q2 : Nat} (h : ∀ i, js.contains i = true → js.idxOf i = q → i = q2) : ∀ c : AV, c.kill q2 = c → (c.ren js).kill q = c.ren js
  | .int _ _, _ => rfl
  | .bool _, _ => rfl
  | .str _, _ => rfl
  | .nil, _ => rfl
  | .top, _ => rfl
  | .own _ _ _ _, _ => rfl
  | .lst _ _ _, _ => rfl
  | .clp _ _ _, _ => rfl
  | .rptr _, _ => rfl
  | .ref i, hk => by
    simp only [AV.kill, AV.ren] at hk ⊢
    split at hk
    · cases hk
    · rename_i hne
      cases hc : js.contains i with
      | true =>
        simp only [if_true, AV.kill]
        rw [if_neg fun e => hne (h i hc e)]
      | false => simp [AV.kill]
  | .ptr i o, hk => by
    simp only [AV.kill, AV.ren] at hk ⊢
    split at hk
    · cases hk
    · rename_i hne
      cases hc : js.contains i with
      | true =>
        simp only [if_true, AV.kill]
        rw [if_neg fun e => hne (h i hc e)]
      | false => simp [AV.kill]
  | .agg cs, hk => by
    simp only [AV.kill, AV.agg.injEq] at hk
    simp only [AV.ren, AV.kill, killL_ren h cs hk]
  | .tup cs, hk => by
    simp only [AV.kill, AV.tup.injEq] at hk
    simp only [AV.ren, AV.kill, killL_ren h cs hk]
  | .fn f cs, hk => by
    simp only [AV.kill, AV.fn.injEq, true_and] at hk
    simp only [AV.ren, AV.kill, killL_ren h cs hk]
theorem killL_ren {js : List Nat} {q q2 : Nat} (h : ∀ i, js.contains i = true → js.idxOf i = q → i = q2) : ∀ cs : List AV, killL q2 cs = cs → killL q (renL js cs) = renL js cs
  | [], _ => rfl
  | c :: cs, hk => by
    simp only [killL, List.cons.injEq] at hk
    simp only [renL, killL, AV.kill_ren h c hk.1, killL_ren h cs hk.2]
end
theorem killL_app (q : Nat) : ∀ xs ys : List AV, killL q (xs ++ ys) = killL q xs ++ killL q ys
  | [], _ => rfl
  | x :: xs, ys => by simp [killL, killL_app q xs ys]
theorem insI_kill {k n q : Nat} (hk : k ≤ n) : ∀ i, (insI k n).contains i = true → (insI k n).idxOf i = q → i = (if q < k then q else q + 1) := fun i hi hq => by
  obtain ⟨_, g2⟩ := insI_idx hk hi
  rw [hq] at g2
  exact g2

def CallY (P : Program) (q : Nat) (f : FuncId) (args : List AV) (hp : List AObj) (Φ : AV → List AObj → Prop) : Prop :=
  Enters P f ∧ ∀ (Z0 F : Nat → Prop) (w0 w : World) (μ vs us : List Value) (fr : List AV), (∀ b, F b → w0.heap.size ≤ b ∧ b < w.heap.size) → HRel w (Zone Z0 F w0.heap.size) w0.heap.size μ hp → RelL w (Zone Z0 F w0.heap.size) μ args vs → RelL w (Zone Z0 F w0.heap.size) μ fr us → Below w0.heap.size w0 w → killL q fr = fr →
    Calls P f vs.toArray w fun e w' => ∃ v μ' F' res hp', Φ res hp' ∧ e = .returned v ∧ (∀ b, F' b → w0.heap.size ≤ b ∧ b < w'.heap.size) ∧ HRel w' (Zone Z0 F' w0.heap.size) w0.heap.size μ' hp' ∧ Rel w' (Zone Z0 F' w0.heap.size) μ' res v ∧ RelL w' (Zone Z0 F' w0.heap.size) μ' fr us ∧ Below w0.heap.size w0 w'

section
variable {rd : Option Nat} {P : Program} {m : M} {Q : Exit → St → Prop}
theorem CallY.ofF {q : Nat} {f : FuncId} {fn : Func} {c : Code} {args : List AV} {hp : List AObj} {Φ : AV → List AObj → Prop} (hf : P.funcs[f]? = some fn) (hb : fn.body = some c) (hnm : (fn.name == "runtime.NumGoroutine") = false)
    (h : ∀ us fr, Fits hp.length fr → killL q fr = fr → Runs none P ⟨[.code c], ⟨frameOf fn.ntmps args, hp ++ [.frame us fr]⟩⟩ (retX P fn hp.length us fr Φ)) : CallY P q f args hp Φ := by
  refine ⟨enters_of hf hnm (by rw [hb]; rfl), ?_⟩
  intro Z0 F w0 w μ vs us fr hFb hH hvs hus hbel hkq
  have hml := hH.len
  have hfit : Fits hp.length fr := ⟨fun js hjs => RelL.fitR (by rw [hml]; exact hjs) hus, fun i hi => RelL.fitK (by rw [hml]; exact hi) hus, fun i r hi => RelL.fitF (by rw [hml]; exact hi) hus⟩
  · have hlen := hvs.length
    refine calls_of_wpIn hf hb ?_
    have hS : Sim Z0 w0 ⟨frameOf fn.ntmps args, hp ++ [.frame us fr]⟩ { tmps := vs.toArray ++ Array.replicate (fn.ntmps - vs.toArray.size) undef, defers := [] } w := by
      refine ⟨μ ++ [.bool false], F, hFb, hH.extend1 (zone_new hbel.size hFb) (Below.refl _ _) ?_ (fun g hg => by simp [blk] at hg) rfl, ?_, .inl rfl, hbel⟩
      · exact RelL.keep (w := w) (fun _ _ _ => rfl) (fun i u hu => append_old i u hu) hus
      · simp only [Array.toList_append, Array.toList_replicate, List.size_toArray, hlen, frameOf]
        refine RelL.append (RelL.keep (w := w) (fun _ _ _ => rfl) (fun i u hu => append_old i u hu) hvs) ?_
        generalize fn.ntmps - args.length = n
        induction n with
        | zero => exact RelL.nil
        | succ n ih => exact RelL.cons (by simp [Rel]) ih
    have hrun2 := h us fr hfit hkq
    simp only [runs_iff] at hrun2
    simp only [RunsK] at hrun2
    refine wpIn_mono (hrun2 Z0 w0 _ w hS) ?_
    have fin : ∀ (e : Exit) (st' : St) (a' : Act) (w' : World), retX P fn hp.length us fr Φ e st' → Sim Z0 w0 st' a' w' → a'.defers = [] ∧ ∃ v, (results fn a'.tmps).run P w' = .ok v w' ∧ ∃ v' μ' F' res hp', Φ res hp' ∧ Ending.returned v = .returned v' ∧ (∀ b, F' b → w0.heap.size ≤ b ∧ b < w'.heap.size) ∧ HRel w' (Zone Z0 F' w0.heap.size) w0.heap.size μ' hp' ∧ Rel w' (Zone Z0 F' w0.heap.size) μ' res v' ∧ RelL w' (Zone Z0 F' w0.heap.size) μ' fr us ∧ Below w0.heap.size w0 w' := by
      rintro e st' a' w' ⟨res, hp', hΦ, _, hres, hfr, hh⟩ ⟨μ', F', hFb', hH', hF', hd', hbel'⟩
      obtain ⟨x, h1, h2⟩ := resIn_run hH' hF' hres
      unfold frameAt at hfr
      split at hfr
      · rename_i us2 fr2 hi
        cases hfr
        have hil : hp.length < μ'.length := by rw [hH'.len]; exact (List.getElem?_eq_some_iff.1 hi).1
        have hfrr : RelL w' (Zone Z0 F' w0.heap.size) μ' fr us := hH'.obj _ _ _ hi (List.getElem?_eq_getElem hil)
        exact ⟨hd'.none (resIn_mark hres), x, h1, x, μ', F', res, hp', hΦ, rfl, hFb', hh ▸ hH'.bury _, h2, hfrr, hbel'⟩
      · cases hfr
    rintro e a' w' ⟨st', hq, hS'⟩
    cases e with
    | normal => exact fin _ st' a' w' hq hS'
    | ret => exact fin _ st' a' w' hq hS'
    | exit id => (obtain ⟨_, _, _, hq, _⟩ := hq; exact absurd hq (by simp))
    | goto l => (obtain ⟨_, _, _, hq, _⟩ := hq; exact absurd hq (by simp))
    | panic ch => (obtain ⟨_, _, _, hq, _⟩ := hq; exact absurd hq (by simp))
    | outgrown => (obtain ⟨_, _, _, hq, _⟩ := hq; exact absurd hq (by simp))
end
section
variable {P : Program}
theorem CallY.dropE {P : Program} {q : Nat} {f : FuncId} {args : List AV} {hp : List AObj} {Φ : AV → List AObj → Prop} (hc : CallY P q f args hp fun r h => ∃ js : List Nat, js.take hp.length = List.range hp.length ∧ js.Nodup ∧ Φ (r.ren js) (renH js h)) :
    CallY P q f args hp Φ := by
  obtain ⟨hen, hc⟩ := hc
  refine ⟨hen, ?_⟩
  intro Z0 F w0 w μ vs us fr hFb hH hvs hus hbel hkq
  refine (hc Z0 F w0 w μ vs us fr hFb hH hvs hus hbel hkq).mono ?_
  rintro e w' ⟨v, μ1, F1, res, hp', ⟨js, h1, h2, hΦ⟩, rfl, hF1, hH1, hres, hfr1, hb1⟩
  have hm1 := hH1.len
  have hjs : ∀ i, i < hp.length → js[i]? = some i := by
    intro i hi
    have := congrArg (fun l : List Nat => l[i]?) h1
    simp only [List.getElem?_take, if_pos hi] at this
    rw [this]
    simp [hi]
  refine ⟨v, _, F1, _, _, hΦ, rfl, hF1, hH1.ren js h2, Rel.ren js hres, ?_, hb1⟩
  refine RelL.mix (n := hp.length) ?_ ?_ hus (hfr1.ren (List.range hp.length))
  · intro i x hi hx
    rw [List.getElem?_map, hjs i hi]
    rw [List.getElem?_map] at hx
    simpa [hi] using hx
  · intro i x hi hx
    have h4 := (List.getElem?_eq_some_iff.1 hx).1
    have h5 := hH.len
    omega
theorem CallY.inF {q : Nat} {f : FuncId} {args : List AV} {hp : List AObj} {Φ : AV → List AObj → Prop} (k : Nat) (us2 : List Value) (fr2 : List AV) (hc : CallY P q f args hp Φ) (hk : k ≤ hp.length)
    (h1 : renH (insI k hp.length) (insF k us2 fr2 hp) = hp) (h2 : renL (insI k hp.length) (renL (insJ k hp.length) args) = args) (h3 : ∀ r h', Φ r h' → hp.length ≤ h'.length) (q2 : Nat) (hq2 : q2 = if q < k then q else q + 1) (hkf : killL q2 fr2 = fr2) :
    CallY P q2 f (renL (insJ k hp.length) args) (insF k us2 fr2 hp) fun r h => ∃ res hp', Φ res hp' ∧ r = res.ren (insJ k hp'.length) ∧ h = insF k us2 fr2 hp' := by
  obtain ⟨hen, hc⟩ := hc
  refine ⟨hen, ?_⟩
  intro Z0 F w0 w μ vs us fr hFb hH hvs hus hbel hkq
  have hHl : (insF k us2 fr2 hp).length = hp.length + 1 := by
    unfold insF renH insJ
    simp
    omega
  have hml : μ.length = hp.length + 1 := by rw [hH.len, hHl]
  have hH0 := hH.ren (insI k hp.length) (insI_nodup hk)
  have e0 : ((insI k hp.length).map fun i => ((insF k us2 fr2 hp).getD i .dead).ren (insI k hp.length)) = hp := h1
  rw [e0] at hH0
  have hvs0 := hvs.ren (insI k hp.length)
  rw [h2] at hvs0
  have hn2 : (insF k us2 fr2 hp)[k]? = some (.frame us2 fr2) := by
    unfold insF
    rw [List.getElem?_set_self]
    have : (renH (insJ k hp.length) (hp ++ [.dead])).length = hp.length + 1 := by unfold renH insJ; simp; omega
    omega
  obtain ⟨u, hu⟩ : ∃ u, μ[k]? = some u := ⟨_, List.getElem?_eq_getElem (by omega)⟩
  have hf2 : RelL w (Zone Z0 F w0.heap.size) μ fr2 us2 := hH.obj _ _ u hn2 hu
  have hus0 := (hus.append hf2).ren (insI k hp.length)
  refine (hc Z0 F w0 w _ vs (us ++ us2) _ hFb hH0 hvs0 hus0 hbel (killL_ren (q2 := q2) (fun i hi e => by rw [hq2]; exact insI_kill hk i hi e) _ (by rw [killL_app, hkq, hkf]))).mono ?_
  rintro e w' ⟨v, μ1, F1, res, hp', hΦ, rfl, hF1, hH1, hres, hfr1, hb1⟩
  have h3 := h3 _ _ hΦ
  have hm1 := hH1.len
  have hHd := hH1.addDead u (hH.one _ u hu)
  have hH2 := hHd.ren (insJ k hp'.length) (insJ_nodup (by omega))
  obtain ⟨μ2, hμ2⟩ : ∃ μ2, μ2 = ((insJ k hp'.length).map fun i => (μ1 ++ [u]).getD i (.bool false)) := ⟨_, rfl⟩
  have hA : ∀ (i : Nat) x, (insI k hp.length).contains i = true → μ1[(insI k hp.length).idxOf i]? = some x → μ2[i]? = some x := by
    intro i x hi hx
    obtain ⟨g1, g2⟩ := insI_idx hk hi
    generalize (insI k hp.length).idxOf i = j at g1 g2 hx
    have hj : (insJ k hp'.length)[i]? = some j := by
      split at g2
      · rw [g2]; exact insJ_lo (by assumption)
      · rw [g2]; exact insJ_hi (by omega) (by omega)
    rw [hμ2, List.getElem?_map, hj]
    simp only [Option.map_some, List.getD_eq_getElem?_getD]
    rw [List.getElem?_append_left (List.getElem?_eq_some_iff.1 hx).1, hx]
    rfl
  have hB : ∀ (i : Nat) x, (insI k hp.length).contains i = false → μ[i]? = some x → μ2[i]? = some x := by
    intro i x hi hx
    have hlt := (List.getElem?_eq_some_iff.1 hx).1
    have hin : i = k := by
      refine Classical.byContradiction fun hne => ?_
      have := insI_mem hk (i := i) (by omega) hne
      rw [this] at hi
      cases hi
    subst hin
    rw [hu] at hx
    rw [hμ2, List.getElem?_map, insJ_at]
    simp only [Option.map_some, List.getD_eq_getElem?_getD]
    rw [List.getElem?_append_right (by omega), hm1]
    simpa using hx
  rw [← hμ2] at hH2
  have hall := RelL.mixJ hA hB (hus.append hf2) hfr1
  have hul := hus.length
  have hfr : RelL w' (Zone Z0 F1 w0.heap.size) μ2 fr us := by
    have := hall.take fr.length
    rwa [List.take_left, ← hul, List.take_left] at this
  have hfr2 : RelL w' (Zone Z0 F1 w0.heap.size) μ2 fr2 us2 := by
    have := hall.drop fr.length
    rwa [List.drop_left, ← hul, List.drop_left] at this
  refine ⟨v, μ2, F1, _, _, ⟨res, hp', hΦ, rfl, rfl⟩, rfl, hF1, ?_, ?_, hfr, hb1⟩
  · refine hH2.frameAt ?_ hfr2
    rw [List.getElem?_map, insJ_at]
    simp [AObj.ren]
  · rw [hμ2]
    exact Rel.ren _ (Rel.keep (w := w') (fun _ _ _ => rfl) (fun i u hu => append_old i u hu) hres)
end
end Go.Abs


/-! Calls by reference that may move a row which the caller's frame names: the frame forgets it. -/
namespace Go.Abs
open Go.RowKit Go.ChangeShapes Go.WideShapes Go.Deep

mutual
theorem AV.kill_kill (q : Nat) : ∀ c : AV, (c.kill q).kill q = c.kill q
  | .int _ _ => rfl
  | .bool _ => rfl
  | .str _ => rfl
  | .nil => rfl
  | .top => rfl
  | .own _ _ _ _ => rfl
  | .lst _ _ _ => rfl
  | .clp _ _ _ => rfl
  | .rptr _ => rfl
  | .ref i => by
    simp only [AV.kill]
    split
    · rfl
    · rename_i h
      simp only [AV.kill, if_neg h]
  | .ptr i o => by
    simp only [AV.kill]
    split
    · rfl
    · rename_i h
      simp only [AV.kill, if_neg h]
  | .agg cs => by simp only [AV.kill, killL_kill q cs]
  | .tup cs => by simp only [AV.kill, killL_kill q cs]
  | .fn f cs => by simp only [AV.kill, killL_kill q cs]
theorem killL_kill (q : Nat) : ∀ cs : List AV, killL q (killL q cs) = killL q cs
  | [] => rfl
  | c :: cs => by simp only [killL, AV.kill_kill q c, killL_kill q cs]
end

section
variable {rd : Option Nat} {P : Program} {m : M} {Q : Exit → St → Prop}
theorem OpsQ.callZ {all : Array Oper} {o : Oper} {l : List Oper} {fr : List AV} {hp : List AObj} {R : Exit → St → Prop} {c : Operand} {args : Array Operand} {tys : Array TypeId} {q : Nat} {f : FuncId} {caps : List AV} {Φ : AV → List AObj → Prop} (hnm : noMark hp = true) (hw : WantedA all o fr)
    (hop : o.op = .call { callee := .value c, args := args, argTypes := tys }) (hc : ev fr c = .fn f caps) (hcall : CallY P q f (args.toList.map (ev fr) ++ caps) hp Φ) (h' : ∀ res hp', Φ res hp' → OpsQ rd P all l ⟨putF (killL q fr) o.dst res, hp'⟩ R) : OpsQ rd P all (o :: l) ⟨fr, hp⟩ R := by
  intro Z0 w0 a w hS
  refine wpListIn_step fun K hK => ?_
  obtain ⟨μ, F, hFb, hH, hF, hd, hb⟩ := hS
  rw [wanted_rel hF hw, if_pos rfl]
  have hE : ∀ y, Rel w (Zone Z0 F w0.heap.size) μ (ev fr y) (a.eval y) := fun y => ev_rel hF y
  have hcv := hc ▸ hE c
  simp only [Rel] at hcv
  obtain ⟨cv, hcv, hrc⟩ := hcv
  have hargs' : RelL w (Zone Z0 F w0.heap.size) μ (args.toList.map (ev fr)) (args.toList.map a.eval) := by
    generalize args.toList = l
    induction l with
    | nil => exact RelL.nil
    | cons x l ih => exact RelL.cons (hE x) ih
  obtain ⟨hen, hcall⟩ := hcall
  have hFk : RelL w (Zone Z0 F w0.heap.size) μ (killL q fr) a.tmps.toList := RelL.keep_kill q (fun _ _ _ => rfl) (fun i u _ h => h) hF
  have hC := hcall Z0 F w0 w μ _ _ (killL q fr) hFb hH (hargs'.append hrc) hFk hb (killL_kill q fr)
  have hrun : (execOp a.eval o).run P w = .ok (.enter f (args.toList.map a.eval ++ cv).toArray) w := by
    have e1 : (args.map a.eval ++ cv.toArray) = (args.toList.map a.eval ++ cv).toArray := by
      apply Array.toList_inj.1; simp
    simp only [execOp, hop, resolve, Deferred.ofValue, hcv, Sem.run_bind, Sem.run_pure, Result.andThen_ok, invoke, Array.empty_append]
    rw [e1]
    exact hen _ _
  refine wpIn_of_run (fun c' => by rw [hop]; simp) ?_
  rw [hrun]
  refine upon_enter hC ?_
  rintro en w' ⟨x, μ', F', res, hp', hΦ, rfl, hFb', hH', hr, hF', hbel⟩
  exact ⟨x, rfl, hK _ _ (h' res hp' hΦ Z0 w0 _ _ ⟨μ', F', hFb', hH', put_rel hF' _ hr, by rw [put_defers']; exact .inl (hd.none hnm), hbel⟩)⟩

theorem R.callZ {q : Nat} {f : FuncId} {avs : List AV} {hp : List AObj} {Φ : AV → List AObj → Prop} (hc : CallY P q f avs hp Φ) (h : csAt m = some (f, avs)) (hh : m.st.hp = hp) (ht : opsHd m = true) (h' : ∀ res hp', Φ res hp' → Runs rd P (putM ⟨m.ks, ⟨killL q m.st.fr, m.st.hp⟩⟩ none res hp') Q) : Runs rd P m Q := by
  have hnm := csAt_mark h
  obtain ⟨fo, args, tys, caps, hop, hf, rfl⟩ := csAt_parts h
  subst hh
  obtain ⟨ks, ⟨fr, hp⟩⟩ := m
  unfold opM headOf at hop
  unfold opsHd at ht
  unfold putM at h'
  simp only [runs_iff] at h' ⊢
  try simp only at hop ht h' hf hc hnm ⊢
  split at hop
  · rename_i all o fl t heq
    split at hop
    · rename_i hw
      simp only [Option.some.injEq] at hop
      split at heq
      · cases heq
        intro hW
        exact OpsQ.callZ hnm (wantH_true hw hW) hop hf hc fun res hp' hΦ => h' res hp' hΦ headW_false
      · simp at ht
      · cases heq
    · cases hop
  · cases hop
end
end Go.Abs


/-! Least forms: what the program computes. -/
namespace Go.Proofs.Ytogehjciaamcfaa
open Go.RowKit Go.Abs

theorem toF_ge {o : List Int} {i : Nat} {j : Nat} (hl : o.length ≤ 8) (hi : i ≤ o.length) : 0 ≤ (toF o i).getD j 0 ∧ (toF o i).getD j 0 ≤ 8 := by
  have := toF_rng o j i; omega
theorem reoK_e {a o T' R Q : List Int} {i k : Nat} (h : Q = reoK a o T' R i k) (hR : R = reoF a o T' i) (hk : k = (mem (a.getD (o.getD i 0).toNat 0)).length) : Q = reoF a o T' (i + 1) := by rw [h, hR, reoF, hk]

theorem reo_c (n : Int) (a : List Int) (o : List Int) (hF : okFr n a = true) (ho : PM n o) : CallA Try.prog 77 [LI a, LI o] (ownA eI 2 1 (reo a o)) := by
  have hFr := okFr_rel hF
  have hb : 0 ≤ n ∧ n ≤ 8 ∧ (a.length : Int) = n := ⟨hFr.1, hFr.2.1, hFr.2.2.1⟩
  have hol : o.length = n.toNat := ho.1
  have hgo := fun (i : Nat) (h : i < n.toNat) => (pm_get ho h).2
  have hrr := fun (i : Nat) (h : i < n.toNat) => hFr.2.2.2.2 i h
  refine CallA.of Try.func77 rfl (by kernel_rfl) ?_
  refine R.go 8 (R.mk eI 0 2 8 o.length o.length (by kernel_rfl) rfl (by decide) (by omega) (by kernel_rfl) ?_)
  refine R.go 10 (R.loop ((fun | (ii, T') => (⟨(frm 62 [(0, LI a), (1, LI o), (5, .ref 0), (16, LI o), (17, AI o.length), (18, AI (ii : Int))]), [rowA eI 2 1 T']⟩ : St) : Nat × (List Int) → St)) (fun | (ii, T') => (ii ≤ o.length) ∧ (T'.length = o.length) ∧ (T' = toF o ii)) (fun | (ii, T') => o.length - ii) (0, (List.replicate o.length 0)) [0, 1, 5, 16, 17, 18] none (by kernel_rfl) (by kernel_rfl) (by kernel_rfl) ⟨(by omega), (by (simp <;> omega)), (by rfl)⟩ ?_)
  rintro ⟨ii, T'⟩ ⟨h4_1, h4_2, h4_3⟩ R1 N2
  have hgi := fun h : ii < o.length => hgo ii (by omega)
  refine R.go 5 (R.cond ((ii : Int) < (o.length : Int)) (by kernel_rfl) (fun c5 => ?_) (fun c5 => ?_))
  · refine R.go 6 (R.idx eI o 0 ii (ii : Int) (by kernel_rfl) rfl eI_len (by omega) (by kernel_rfl) ?_)
    have hgj := hgi (by omega)
    refine R.go 8 (R.idxO 0 1 T'.length (((o.getD ii 0)).toNat) (o.getD ii 0) (by kernel_rfl) (by omega) (by omega) (by kernel_rfl) ?_)
    refine R.stI 0 2 T' (((o.getD ii 0)).toNat) (ii : Int) (by kernel_rfl) (by omega) (by kernel_rfl) ?_
    refine R.go 3 (R.ar ((ii : Int) + 1) (by kernel_rfl) (by omega) (by omega) (by kernel_rfl) ?_)
    exact R.go 2 (R.stop R1 (by kernel_rfl) (N2 (ii + 1, T'.set (((o.getD ii 0)).toNat) (ii : Int)) [0, 1, 5, 16, 17, 18] none _ (by kernel_rfl) (by kernel_rfl) ⟨(by omega), (by (simp <;> omega)), (by rw [toF, ← ‹T' = toF o ii›])⟩ (by show (o.length - (ii + 1)) < (o.length - ii); omega)))
  · refine R.go 5 (R.mk eI 0 2 8 o.length o.length (by kernel_rfl) rfl (by decide) (by omega) (by kernel_rfl) ?_)
    refine R.go 10 (R.loop ((fun | (i, V) => (⟨(frm 62 [(0, LI a), (5, .ref 0), (8, .ref 1), (31, LI o), (32, AI o.length), (33, AI (i : Int))]), [rowA eI 2 1 T', rowA eI 2 1 V]⟩ : St) : Nat × (List Int) → St)) (fun | (i, V) => (i ≤ o.length) ∧ (V.length = o.length) ∧ (V = reoF a o T' i)) (fun | (i, V) => o.length - i) (0, (List.replicate o.length 0)) [0, 5, 8, 31, 32, 33] none (by kernel_rfl) (by kernel_rfl) (by kernel_rfl) ⟨(by omega), (by (simp <;> omega)), (by rfl)⟩ ?_)
    rintro ⟨i, V⟩ ⟨h9_1, h9_2, h9_3⟩ R6 N7
    have hgi := fun h : i < o.length => hgo i (by omega)
    refine R.go 5 (R.cond ((i : Int) < (o.length : Int)) (by kernel_rfl) (fun c10 => ?_) (fun c10 => ?_))
    · refine R.go 6 (R.idx eI o 0 i (i : Int) (by kernel_rfl) rfl eI_len (by omega) (by kernel_rfl) ?_)
      have hgj := hgi (by omega)
      have hrow := hrr (o.getD i 0).toNat (by omega)
      have hr61 := inM_mono (n' := 61) (by omega) hrow
      have hml := mem_le (a.getD (o.getD i 0).toNat 0)
      refine R.go 8 (R.idx eI a 0 (((o.getD i 0)).toNat) (o.getD i 0) (by kernel_rfl) (by omega) eI_len (by omega) (by kernel_rfl) ?_)
      refine R.go 1 (R.call true (membersOf_c (a.getD (((o.getD i 0)).toNat) 0) (by first | assumption | exact inM61 (by omega) (by omega))) (by kernel_rfl) rfl (by kernel_rfl) ?_)
      refine R.go 4 (R.loop ((fun | (k, Q) => (⟨(frm 62 [(0, LI a), (5, .ref 0), (8, .ref 1), (9, AI (i : Int)), (31, LI o), (32, AI o.length), (33, AI (i : Int)), (42, .ref 2), (43, AI ((mem (a.getD (((o.getD i 0)).toNat) 0)).length)), (44, AI (k : Int))]), [rowA eI 2 1 T', rowA eI 2 1 Q, rowA eI 2 1 (mem (a.getD (((o.getD i 0)).toNat) 0))]⟩ : St) : Nat × (List Int) → St)) (fun | (k, Q) => (k ≤ (mem (a.getD (o.getD i 0).toNat 0)).length) ∧ (Q.length = o.length) ∧ (Q = reoK a o T' V i k)) (fun | (k, Q) => (mem (a.getD (o.getD i 0).toNat 0)).length - k) (0, V) [0, 5, 8, 9, 31, 32, 33, 42, 43, 44] none (by kernel_rfl) (by kernel_rfl) (by kernel_rfl) ⟨(by omega), (by omega), (by rfl)⟩ ?_)
      rintro ⟨k, Q⟩ ⟨h14_1, h14_2, h14_3⟩ R11 N12
      refine R.go 5 (R.cond ((k : Int) < ((mem (a.getD (((o.getD i 0)).toNat) 0)).length : Int)) (by kernel_rfl) (fun c15 => ?_) (fun c15 => ?_))
      · refine R.go 5 (R.idxO 2 1 (mem (a.getD (((o.getD i 0)).toNat) 0)).length k (k : Int) (by kernel_rfl) rfl (by omega) (by kernel_rfl) ?_)
        refine R.ldI (mem (a.getD (((o.getD i 0)).toNat) 0)) k (by kernel_rfl) (by omega) (by kernel_rfl) ?_
        have hm3 := mem_in (N := n.toNat) (by omega) hrow (show k < (mem (a.getD (o.getD i 0).toNat 0)).length by omega)
        have htr := toF_ge (o := o) (i := o.length) (j := ((mem (a.getD (o.getD i 0).toNat 0)).getD k 0).toNat) (by omega) (Nat.le_refl _)
        have hTe : T' = toF o o.length := by rw [‹T' = toF o ii›, show ii = o.length by omega]
        rw [← hTe] at htr
        refine R.go 5 (R.idxO 1 1 Q.length i (i : Int) (by kernel_rfl) rfl (by omega) (by kernel_rfl) ?_)
        refine R.ldI Q i (by kernel_rfl) (by omega) (by kernel_rfl) ?_
        refine R.go 2 (R.idxO 0 1 T'.length (((mem (a.getD (((o.getD i 0)).toNat) 0)).getD k 0).toNat) ((mem (a.getD (((o.getD i 0)).toNat) 0)).getD k 0) (by kernel_rfl) (by omega) (by omega) (by kernel_rfl) ?_)
        refine R.ldI T' (((mem (a.getD (((o.getD i 0)).toNat) 0)).getD k 0).toNat) (by kernel_rfl) (by omega) (by kernel_rfl) ?_
        refine R.shl 1 (T'.getD (((mem (a.getD (((o.getD i 0)).toNat) 0)).getD k 0).toNat) 0) (by kernel_rfl) (by omega) (by kernel_rfl) ?_
        refine R.go 1 (R.idxO 1 1 Q.length i (i : Int) (by kernel_rfl) rfl (by omega) (by kernel_rfl) ?_)
        refine R.stI 1 2 Q i (bor (Q.getD i 0) (shl64 1 (T'.getD (((mem (a.getD (((o.getD i 0)).toNat) 0)).getD k 0).toNat) 0))) (by kernel_rfl) (by omega) (by kernel_rfl) ?_
        refine R.go 3 (R.ar ((k : Int) + 1) (by kernel_rfl) (by omega) (by omega) (by kernel_rfl) ?_)
        exact R.go 2 (R.stop R11 (by kernel_rfl) (N12 (k + 1, Q.set i (bor (Q.getD i 0) (shl64 1 (T'.getD (((mem (a.getD (((o.getD i 0)).toNat) 0)).getD k 0).toNat) 0)))) [0, 5, 8, 9, 31, 32, 33, 42, 43, 44] none _ (by kernel_rfl) (by kernel_rfl) ⟨(by omega), (by (simp <;> omega)), (by rw [reoK, ← ‹Q = reoK a o T' V i k›])⟩ (by show ((mem (a.getD (o.getD i 0).toNat 0)).length - (k + 1)) < ((mem (a.getD (o.getD i 0).toNat 0)).length - k); omega)))
      · refine R.go 3 (R.ar ((i : Int) + 1) (by kernel_rfl) (by omega) (by omega) (by kernel_rfl) ?_)
        exact R.go 2 (R.stop R6 (by kernel_rfl) (N7 (i + 1, Q) [0, 5, 8, 31, 32, 33] (some [0, 1]) _ (by kernel_rfl) (by kernel_rfl) ⟨(by omega), (by omega), (by exact reoK_e (by assumption) (by assumption) (by omega))⟩ (by show (o.length - (i + 1)) < (o.length - i); omega)))
    · exact R.go 6 (R.retE (ownA eI 2 1 V) (by kernel_rfl) (by kernel_rfl) (by first | (rw [‹V = reoF a o T' i›, ‹T' = toF o ii›, show i = o.length by omega, show ii = o.length by omega]; rfl) | (exfalso; omega)))

theorem leastStep_c (n : Int) (xs : List Int) (b : List Int) (X : List Int) (hF : okFr n xs = true) (ho : PM n X) (hb : b.length ≤ 1000) : CallX Try.prog 76 [.ref 4, .ptr 0 0, .ptr 1 0] [.box 24 [LI xs], .box 24 [LI b], .box 2 [AI n], .box 85 [.fn 76 [.ptr 0 0, .ptr 1 0]], rowA eI 2 1 X, .box 24 [.ref 4], .box 94 [.fn 110 [.ptr 5 0, .ptr 2 0, .ptr 3 0, .ptr 6 0]]] (fun (resX : AV) (objX : List AObj) => ∃ b2 : List Int, (b2 = if cmpL (reo xs X) b < 0 then reo xs X else b) ∧ resX = .tup [] ∧ objX = [.box 24 [LI xs], .box 24 [LI b2], .box 2 [AI n], .box 85 [.fn 76 [.ptr 0 0, .ptr 1 0]], rowA eI 2 1 X, .box 24 [.ref 4], .box 94 [.fn 110 [.ptr 5 0, .ptr 2 0, .ptr 3 0, .ptr 6 0]]]) := by
  have hol : X.length ≤ 8 := by have := (okFr_rel hF).2.1; have := ho.1; omega
  have hrl := reo_len xs X
  refine CallX.dropE (CallX.ofF Try.func76 rfl (by kernel_rfl) ?_)
  intro usC frC hfC
  refine R.go 4 (R.call false (reo_c n xs X hF ho) (by kernel_rfl) (ownA_closed eI_closed 2 1 (reo xs X)) (by kernel_rfl) ?_)
  refine R.go 4 (R.frz 8 (by kernel_rfl) ?_)
  refine R.kfix 7 (us := usC) (by kernel_rfl) (hfC.frz 8 (LI (reo xs X)) (Nat.le_of_ble_eq_true (by kernel_rfl))) ?_
  refine R.go 2 (R.call true (cmpL_c (reo xs X) b (by first | omega | (simp <;> omega)) (by first | omega | (simp <;> omega))) (by kernel_rfl) rfl (by kernel_rfl) ?_)
  refine R.go 2 (R.cond ((cmpL (reo xs X) b) < 0) (by kernel_rfl) (fun c1 => ?_) (fun c1 => ?_))
  · exact R.go 4 (R.retX (res := .tup []) (hp' := [.box 24 [LI xs], .box 24 [LI (reo xs X)], .box 2 [AI n], .box 85 [.fn 76 [.ptr 0 0, .ptr 1 0]], rowA eI 2 1 X, .box 24 [.ref 4], .box 94 [.fn 110 [.ptr 5 0, .ptr 2 0, .ptr 3 0, .ptr 6 0]], .dead, .dead]) (by kernel_rfl) (by kernel_rfl) (by kernel_rfl) (by kernel_rfl) ⟨[0, 1, 2, 3, 4, 5, 6], by kernel_rfl, by decide, reo xs X, by first | (rw [if_pos (by assumption)]) | (rw [if_neg (by assumption)]), by kernel_rfl, by kernel_rfl⟩)
  · exact R.go 1 (R.retX (res := .tup []) (hp' := [.box 24 [LI xs], .box 24 [LI b], .box 2 [AI n], .box 85 [.fn 76 [.ptr 0 0, .ptr 1 0]], rowA eI 2 1 X, .box 24 [.ref 4], .box 94 [.fn 110 [.ptr 5 0, .ptr 2 0, .ptr 3 0, .ptr 6 0]], .dead, .dead]) (by kernel_rfl) (by kernel_rfl) (by kernel_rfl) (by kernel_rfl) ⟨[0, 1, 2, 3, 4, 5, 6], by kernel_rfl, by decide, b, by first | (rw [if_pos (by assumption)]) | (rw [if_neg (by assumption)]), by kernel_rfl, by kernel_rfl⟩)

end Go.Proofs.Ytogehjciaamcfaa


/-! All orders, by a closure that calls itself; least forms of posets. -/
namespace Go.Proofs.Ytogehjciaamcfaa
open Go.RowKit Go.Abs

theorem ls_len {n : Int} {xs X b b2 : List Int} (hb : b.length ≤ 1000) (hX : PM n X) (h8 : n ≤ 8) (h : b2 = if cmpL (reo xs X) b < 0 then reo xs X else b) : b2.length ≤ 1000 := by
  have := reo_len xs X
  have := hX.1
  rw [h]; split <;> omega
theorem cut_snoc (X : List Int) (v : Int) {k : Nat} (hk : k = X.length) : (X ++ [v]).take k = X := by rw [hk, List.take_left]

theorem grow_c : ∀ (d : Nat) (n : Int) (xs : List Int) (b : List Int) (X : List Int) (u : Int) (hd : X.length + d = n.toNat) (hF : okFr n xs = true) (hX : PX n X u) (hb : b.length ≤ 1000), CallY Try.prog 4 110 [AI u, .ptr 5 0, .ptr 2 0, .ptr 3 0, .ptr 6 0] [.box 24 [LI xs], .box 24 [LI b], .box 2 [AI n], .box 85 [.fn 76 [.ptr 0 0, .ptr 1 0]], rowA eI 2 1 X, .box 24 [.ref 4], .box 94 [.fn 110 [.ptr 5 0, .ptr 2 0, .ptr 3 0, .ptr 6 0]]] (fun (resX : AV) (objX : List AObj) => ∃ b2 : List Int, (LST n xs X b b2 ∧ b2.length ≤ 1000) ∧ resX = .tup [] ∧ objX = [.box 24 [LI xs], .box 24 [LI b2], .box 2 [AI n], .box 85 [.fn 76 [.ptr 0 0, .ptr 1 0]], rowA eI 2 1 X, .box 24 [.ref 4], .box 94 [.fn 110 [.ptr 5 0, .ptr 2 0, .ptr 3 0, .ptr 6 0]]]) := by
  intro d
  induction d using Nat.strongRecOn with
  | _ d ih =>
  intro n xs b X u hd hF hX hb
  have hFr := okFr_rel hF
  have hb0 : 0 ≤ n ∧ n ≤ 8 := ⟨hFr.1, hFr.2.1⟩
  have hpm := fun h : X.length = n.toNat => px_pm hX h
  have hu61 := inM_mono (n' := 61) (by omega) hX.2.2.1
  refine CallY.dropE (CallY.ofF Try.func110 rfl (by kernel_rfl) ?_)
  intro usC frC hfC hkC
  refine R.go 2 (R.meet (⟨(frm 38 [(0, AI u), (1, .ptr 5 0), (2, .ptr 2 0), (3, .ptr 3 0), (4, .ptr 6 0), (7, .ref 4), (8, AI X.length), (9, AI n), (10, .bool (decide ((X.length : Int) = n)))]), [.box 24 [LI xs], .box 24 [LI b], .box 2 [AI n], .box 85 [.fn 76 [.ptr 0 0, .ptr 1 0]], rowA eI 2 1 X, .box 24 [.ref 4], .box 94 [.fn 110 [.ptr 5 0, .ptr 2 0, .ptr 3 0, .ptr 6 0]], .frame usC frC]⟩ : St) (by kernel_rfl) ?_ ?_)
  · refine R.any (by decide +kernel) (by kernel_rfl) ?_
    refine R.any2 0 2 (by kernel_rfl) (by kernel_rfl) ?_ ?_
    · refine R.go 2 (R.any2 1 2 (by kernel_rfl) (by kernel_rfl) ?_ ?_)
      · refine R.call false (size_c X) (by kernel_rfl) rfl (by kernel_rfl) ?_
        refine R.go 1 (R.any1 2 (by kernel_rfl) (by kernel_rfl) ?_)
        refine R.go 2 (R.any1 3 (by kernel_rfl) (by kernel_rfl) ?_)
        refine R.go 2 (R.any0 (by kernel_rfl) ?_)
        exact R.met (by kernel_rfl) (by kernel_rfl)
      · refine R.go 2 (R.any1 1 (by kernel_rfl) (by kernel_rfl) ?_)
        refine R.call false (size_c X) (by kernel_rfl) rfl (by kernel_rfl) ?_
        refine R.go 1 (R.any1 3 (by kernel_rfl) (by kernel_rfl) ?_)
        refine R.go 2 (R.any0 (by kernel_rfl) ?_)
        exact R.met (by kernel_rfl) (by kernel_rfl)
    · refine R.go 2 (R.any1 0 (by kernel_rfl) (by kernel_rfl) ?_)
      refine R.go 2 (R.any1 1 (by kernel_rfl) (by kernel_rfl) ?_)
      refine R.call false (size_c X) (by kernel_rfl) rfl (by kernel_rfl) ?_
      refine R.go 1 (R.any1 3 (by kernel_rfl) (by kernel_rfl) ?_)
      refine R.go 2 (R.any0 (by kernel_rfl) ?_)
      exact R.met (by kernel_rfl) (by kernel_rfl)
  · refine R.cond ((X.length : Int) = n) (by kernel_rfl) (fun c1 => ?_) (fun c1 => ?_)
    · refine R.go 4 (R.callX (CallX.inF 7 usC frC (leastStep_c n xs b X (by assumption) (by first | assumption | exact hpm (by omega)) hb) (Nat.le_of_ble_eq_true (by kernel_rfl)) (by kernel_rfl) (by kernel_rfl) (by rintro _ _ ⟨_, _, rfl, rfl⟩; exact Nat.le_of_ble_eq_true (by kernel_rfl))) (by kernel_rfl) (by kernel_rfl) (by kernel_rfl) ?_)
      rintro _ _ ⟨_, _, ⟨b2_2, f3, rfl, rfl⟩, rfl, rfl⟩
      exact R.go 1 (R.retX (res := .tup []) (hp' := [.box 24 [LI xs], .box 24 [LI b2_2], .box 2 [AI n], .box 85 [.fn 76 [.ptr 0 0, .ptr 1 0]], rowA eI 2 1 X, .box 24 [.ref 4], .box 94 [.fn 110 [.ptr 5 0, .ptr 2 0, .ptr 3 0, .ptr 6 0]], .dead]) (by kernel_rfl) (by kernel_rfl) (by kernel_rfl) (by kernel_rfl) ⟨[0, 1, 2, 3, 4, 5, 6], by kernel_rfl, by decide, b2_2, by first | exact ⟨ls_end (by assumption) (by assumption) (by omega), by assumption⟩ | exact ⟨ls_one (hpm (by omega)) (by assumption), ls_len hb (hpm (by omega)) hb0.2 (by assumption)⟩, by kernel_rfl, by kernel_rfl⟩)
    · refine R.go 7 (R.loop ((fun | (i, bI, Z) => (⟨(frm 38 [(0, AI u), (1, .ptr 5 0), (4, .ptr 6 0), (14, AI n), (15, AI (i : Int))]), [.box 24 [LI xs], .box 24 [LI bI], .box 2 [AI n], .box 85 [.fn 76 [.ptr 0 0, .ptr 1 0]], rowA eI 2 1 Z, .box 24 [.ref 4], .box 94 [.fn 110 [.ptr 5 0, .ptr 2 0, .ptr 3 0, .ptr 6 0]], .frame usC frC]⟩ : St) : Nat × (List Int) × (List Int) → St)) (fun | (i, bI, Z) => ((i : Int) ≤ n) ∧ (LSI n xs X i b bI) ∧ (bI.length ≤ 1000) ∧ (X = Z)) (fun | (i, bI, Z) => n.toNat - i) (0, b, X) [0, 1, 4, 14, 15] none (by kernel_rfl) (by kernel_rfl) (by kernel_rfl) ⟨(by omega), (by exact ls_0 n xs X b fun o h => pm_nn h _), (by omega), (by rfl)⟩ ?_)
      rintro ⟨i, bI, Z⟩ ⟨h7_1, h7_2, h7_3, rfl⟩ R4 N5
      have hsn : (X ++ [(i : Int)]).length = X.length + 1 := by simp
      refine R.go 5 (R.cond ((i : Int) < n) (by kernel_rfl) (fun c8 => ?_) (fun c8 => ?_))
      · refine R.go 12 (R.call true (has_c u (i : Int) (by omega)) (by kernel_rfl) rfl (by kernel_rfl) ?_)
        refine R.go 2 (R.condN (band (shr64 u (i : Int)) 1 = 1) (by kernel_rfl) (fun c9 => ?_) (fun c9 => ?_))
        · refine R.go 5 (R.app eI X [(i : Int)] 4 2 1 8 (by kernel_rfl) eI_one (by decide) (by first | omega | (simp <;> omega)) (by kernel_rfl) ?_)
          refine R.kfix 7 (us := usC) (by kernel_rfl) hkC ?_
          refine R.frz 8 (by kernel_rfl) ?_
          refine R.kfix 7 (us := usC) (by kernel_rfl) (hfC.frz 8 (LI [(i : Int)]) (Nat.le_of_ble_eq_true (by kernel_rfl))) ?_
          refine R.deadF 8 (by kernel_rfl) (by kernel_rfl) ?_
          refine R.go 3 (R.any (by decide +kernel) (by kernel_rfl) ?_)
          refine R.anyF 1 (by kernel_rfl) (np_retX _ _ _ _ _ _) ?_
          refine R.anyF 2 (by kernel_rfl) (np_retX _ _ _ _ _ _) ?_
          refine R.any2 0 3 (by kernel_rfl) (by kernel_rfl) ?_ ?_
          · refine R.go 2 (R.any1 3 (by kernel_rfl) (by kernel_rfl) ?_)
            refine R.shl 1 (i : Int) (by kernel_rfl) (by omega) (by kernel_rfl) ?_
            refine R.go 1 (R.any1 4 (by kernel_rfl) (by kernel_rfl) ?_)
            refine R.go 2 (R.any1 5 (by kernel_rfl) (by kernel_rfl) ?_)
            refine R.callZ (CallY.inF 7 usC frC (CallY.inF 7 [] [] (ih (n.toNat - ((X ++ [(i : Int)]) : List Int).length) (by omega) n xs bI (X ++ [(i : Int)]) (bor u (shl64 1 (i : Int))) (by first | omega | (simp; done) | (simp; omega)) (by assumption) (by first | assumption | exact px_step (by omega) hX (by omega) (by assumption)) h7_3) (Nat.le_of_ble_eq_true (by kernel_rfl)) (by kernel_rfl) (by kernel_rfl) (by rintro _ _ ⟨_, _, rfl, rfl⟩; exact Nat.le_of_ble_eq_true (by kernel_rfl)) 4 rfl (by kernel_rfl)) (Nat.le_of_ble_eq_true (by kernel_rfl)) (by kernel_rfl) (by kernel_rfl) (by rintro _ _ ⟨_, _, ⟨_, _, rfl, rfl⟩, rfl, rfl⟩; exact Nat.le_of_ble_eq_true (by kernel_rfl)) 4 rfl hkC) (by kernel_rfl) (by kernel_rfl) (by kernel_rfl) ?_
            rintro _ _ ⟨_, _, ⟨_, _, ⟨b2_10, f11, rfl, rfl⟩, rfl, rfl⟩, rfl, rfl⟩
            refine R.go 1 (R.any0 (by kernel_rfl) ?_)
            refine R.go 4 (R.ar (((X ++ [(i : Int)]).length : Int) - 1) (by kernel_rfl) (by omega) (by omega) (by kernel_rfl) ?_)
            refine R.cut eI (X ++ [(i : Int)]) 4 2 ((((X ++ [(i : Int)]).length : Int) - 1).toNat) (((X ++ [(i : Int)]).length : Int) - 1) (by kernel_rfl) (by omega) eI_len (by first | omega | (simp <;> omega)) (by kernel_rfl) ?_
            refine R.kfix 7 (us := usC) (by kernel_rfl) hkC ?_
            refine R.go 4 (R.ar ((i : Int) + 1) (by kernel_rfl) (by omega) (by omega) (by kernel_rfl) ?_)
            exact R.go 2 (R.stop R4 (by kernel_rfl) (N5 (i + 1, b2_10, (X ++ [(i : Int)]).take ((((X ++ [(i : Int)]).length : Int) - 1).toNat)) [0, 1, 4, 14, 15] (some [0, 1, 2, 3, 4, 5, 6, 7]) _ (by kernel_rfl) (canonF (fr := frC) (fun (frX : List AV) => (⟨(frm 38 [(0, AI u), (1, .ptr 5 0), (4, .ptr 6 0), (14, AI n), (15, AI ((i : Int) + 1))]), [.box 24 [LI xs], .box 24 [LI b2_10], .box 2 [AI n], .box 85 [.fn 76 [.ptr 0 0, .ptr 1 0]], rowA eI 2 1 ((X ++ [(i : Int)]).take ((((X ++ [(i : Int)]).length : Int) - 1).toNat)), .box 24 [.ref 4], .box 94 [.fn 110 [.ptr 5 0, .ptr 2 0, .ptr 3 0, .ptr 6 0]], .frame usC frX]⟩ : St)) (hfC.ren _ (by kernel_rfl)) (by kernel_rfl) (by kernel_rfl)) ⟨(by omega), (by first | exact ls_skip hb0.2 hX (by assumption) (by omega) (by omega) (by assumption) | exact ls_rec (by assumption) (by omega) ((by assumption : LST n xs (X ++ [(i : Int)]) bI _ ∧ _).1)), (by omega), (by first | rfl | exact (cut_snoc _ _ (by simp)).symm)⟩ (by show (n.toNat - (i + 1)) < (n.toNat - i); omega)))
          · refine R.shl 1 (i : Int) (by kernel_rfl) (by omega) (by kernel_rfl) ?_
            refine R.go 1 (R.any2 0 4 (by kernel_rfl) (by kernel_rfl) ?_ ?_)
            · refine R.go 2 (R.any1 4 (by kernel_rfl) (by kernel_rfl) ?_)
              refine R.go 2 (R.any1 5 (by kernel_rfl) (by kernel_rfl) ?_)
              refine R.callZ (CallY.inF 7 usC frC (CallY.inF 7 [] [] (ih (n.toNat - ((X ++ [(i : Int)]) : List Int).length) (by omega) n xs bI (X ++ [(i : Int)]) (bor u (shl64 1 (i : Int))) (by first | omega | (simp; done) | (simp; omega)) (by assumption) (by first | assumption | exact px_step (by omega) hX (by omega) (by assumption)) h7_3) (Nat.le_of_ble_eq_true (by kernel_rfl)) (by kernel_rfl) (by kernel_rfl) (by rintro _ _ ⟨_, _, rfl, rfl⟩; exact Nat.le_of_ble_eq_true (by kernel_rfl)) 4 rfl (by kernel_rfl)) (Nat.le_of_ble_eq_true (by kernel_rfl)) (by kernel_rfl) (by kernel_rfl) (by rintro _ _ ⟨_, _, ⟨_, _, rfl, rfl⟩, rfl, rfl⟩; exact Nat.le_of_ble_eq_true (by kernel_rfl)) 4 rfl hkC) (by kernel_rfl) (by kernel_rfl) (by kernel_rfl) ?_
              rintro _ _ ⟨_, _, ⟨_, _, ⟨b2_12, f13, rfl, rfl⟩, rfl, rfl⟩, rfl, rfl⟩
              refine R.go 1 (R.any0 (by kernel_rfl) ?_)
              refine R.go 4 (R.ar (((X ++ [(i : Int)]).length : Int) - 1) (by kernel_rfl) (by omega) (by omega) (by kernel_rfl) ?_)
              refine R.cut eI (X ++ [(i : Int)]) 4 2 ((((X ++ [(i : Int)]).length : Int) - 1).toNat) (((X ++ [(i : Int)]).length : Int) - 1) (by kernel_rfl) (by omega) eI_len (by first | omega | (simp <;> omega)) (by kernel_rfl) ?_
              refine R.kfix 7 (us := usC) (by kernel_rfl) hkC ?_
              refine R.go 4 (R.ar ((i : Int) + 1) (by kernel_rfl) (by omega) (by omega) (by kernel_rfl) ?_)
              exact R.go 2 (R.stop R4 (by kernel_rfl) (N5 (i + 1, b2_12, (X ++ [(i : Int)]).take ((((X ++ [(i : Int)]).length : Int) - 1).toNat)) [0, 1, 4, 14, 15] (some [0, 1, 2, 3, 4, 5, 6, 7]) _ (by kernel_rfl) (canonF (fr := frC) (fun (frX : List AV) => (⟨(frm 38 [(0, AI u), (1, .ptr 5 0), (4, .ptr 6 0), (14, AI n), (15, AI ((i : Int) + 1))]), [.box 24 [LI xs], .box 24 [LI b2_12], .box 2 [AI n], .box 85 [.fn 76 [.ptr 0 0, .ptr 1 0]], rowA eI 2 1 ((X ++ [(i : Int)]).take ((((X ++ [(i : Int)]).length : Int) - 1).toNat)), .box 24 [.ref 4], .box 94 [.fn 110 [.ptr 5 0, .ptr 2 0, .ptr 3 0, .ptr 6 0]], .frame usC frX]⟩ : St)) (hfC.ren _ (by kernel_rfl)) (by kernel_rfl) (by kernel_rfl)) ⟨(by omega), (by first | exact ls_skip hb0.2 hX (by assumption) (by omega) (by omega) (by assumption) | exact ls_rec (by assumption) (by omega) ((by assumption : LST n xs (X ++ [(i : Int)]) bI _ ∧ _).1)), (by omega), (by first | rfl | exact (cut_snoc _ _ (by simp)).symm)⟩ (by show (n.toNat - (i + 1)) < (n.toNat - i); omega)))
            · refine R.go 2 (R.any1 0 (by kernel_rfl) (by kernel_rfl) ?_)
              refine R.go 2 (R.any1 5 (by kernel_rfl) (by kernel_rfl) ?_)
              refine R.callZ (CallY.inF 7 usC frC (CallY.inF 7 [] [] (ih (n.toNat - ((X ++ [(i : Int)]) : List Int).length) (by omega) n xs bI (X ++ [(i : Int)]) (bor u (shl64 1 (i : Int))) (by first | omega | (simp; done) | (simp; omega)) (by assumption) (by first | assumption | exact px_step (by omega) hX (by omega) (by assumption)) h7_3) (Nat.le_of_ble_eq_true (by kernel_rfl)) (by kernel_rfl) (by kernel_rfl) (by rintro _ _ ⟨_, _, rfl, rfl⟩; exact Nat.le_of_ble_eq_true (by kernel_rfl)) 4 rfl (by kernel_rfl)) (Nat.le_of_ble_eq_true (by kernel_rfl)) (by kernel_rfl) (by kernel_rfl) (by rintro _ _ ⟨_, _, ⟨_, _, rfl, rfl⟩, rfl, rfl⟩; exact Nat.le_of_ble_eq_true (by kernel_rfl)) 4 rfl hkC) (by kernel_rfl) (by kernel_rfl) (by kernel_rfl) ?_
              rintro _ _ ⟨_, _, ⟨_, _, ⟨b2_14, f15, rfl, rfl⟩, rfl, rfl⟩, rfl, rfl⟩
              refine R.go 1 (R.any0 (by kernel_rfl) ?_)
              refine R.go 4 (R.ar (((X ++ [(i : Int)]).length : Int) - 1) (by kernel_rfl) (by omega) (by omega) (by kernel_rfl) ?_)
              refine R.cut eI (X ++ [(i : Int)]) 4 2 ((((X ++ [(i : Int)]).length : Int) - 1).toNat) (((X ++ [(i : Int)]).length : Int) - 1) (by kernel_rfl) (by omega) eI_len (by first | omega | (simp <;> omega)) (by kernel_rfl) ?_
              refine R.kfix 7 (us := usC) (by kernel_rfl) hkC ?_
              refine R.go 4 (R.ar ((i : Int) + 1) (by kernel_rfl) (by omega) (by omega) (by kernel_rfl) ?_)
              exact R.go 2 (R.stop R4 (by kernel_rfl) (N5 (i + 1, b2_14, (X ++ [(i : Int)]).take ((((X ++ [(i : Int)]).length : Int) - 1).toNat)) [0, 1, 4, 14, 15] (some [0, 1, 2, 3, 4, 5, 6, 7]) _ (by kernel_rfl) (canonF (fr := frC) (fun (frX : List AV) => (⟨(frm 38 [(0, AI u), (1, .ptr 5 0), (4, .ptr 6 0), (14, AI n), (15, AI ((i : Int) + 1))]), [.box 24 [LI xs], .box 24 [LI b2_14], .box 2 [AI n], .box 85 [.fn 76 [.ptr 0 0, .ptr 1 0]], rowA eI 2 1 ((X ++ [(i : Int)]).take ((((X ++ [(i : Int)]).length : Int) - 1).toNat)), .box 24 [.ref 4], .box 94 [.fn 110 [.ptr 5 0, .ptr 2 0, .ptr 3 0, .ptr 6 0]], .frame usC frX]⟩ : St)) (hfC.ren _ (by kernel_rfl)) (by kernel_rfl) (by kernel_rfl)) ⟨(by omega), (by first | exact ls_skip hb0.2 hX (by assumption) (by omega) (by omega) (by assumption) | exact ls_rec (by assumption) (by omega) ((by assumption : LST n xs (X ++ [(i : Int)]) bI _ ∧ _).1)), (by omega), (by first | rfl | exact (cut_snoc _ _ (by simp)).symm)⟩ (by show (n.toNat - (i + 1)) < (n.toNat - i); omega)))
        · refine R.go 3 (R.ar ((i : Int) + 1) (by kernel_rfl) (by omega) (by omega) (by kernel_rfl) ?_)
          exact R.go 2 (R.stop R4 (by kernel_rfl) (N5 (i + 1, bI, X) [0, 1, 4, 14, 15] none _ (by kernel_rfl) (by kernel_rfl) ⟨(by omega), (by first | exact ls_skip hb0.2 hX (by assumption) (by omega) (by omega) (by assumption) | exact ls_rec (by assumption) (by omega) ((by assumption : LST n xs (X ++ [(i : Int)]) bI _ ∧ _).1)), (by omega), (by first | rfl | exact (cut_snoc _ _ (by simp)).symm)⟩ (by show (n.toNat - (i + 1)) < (n.toNat - i); omega)))
      · exact R.go 1 (R.retX (res := .tup []) (hp' := [.box 24 [LI xs], .box 24 [LI bI], .box 2 [AI n], .box 85 [.fn 76 [.ptr 0 0, .ptr 1 0]], rowA eI 2 1 X, .box 24 [.ref 4], .box 94 [.fn 110 [.ptr 5 0, .ptr 2 0, .ptr 3 0, .ptr 6 0]], .dead]) (by kernel_rfl) (by kernel_rfl) (by kernel_rfl) (by kernel_rfl) ⟨[0, 1, 2, 3, 4, 5, 6], by kernel_rfl, by decide, bI, by first | exact ⟨ls_end (by assumption) (by assumption) (by omega), by assumption⟩ | exact ⟨ls_one (hpm (by omega)) (by assumption), ls_len hb (hpm (by omega)) hb0.2 (by assumption)⟩, by kernel_rfl, by kernel_rfl⟩)

theorem perms_c (n : Int) (xs : List Int) (b : List Int) (hF : okFr n xs = true) (hb : b.length ≤ 1000) : CallX Try.prog 75 [AI n, .fn 76 [.ptr 0 0, .ptr 1 0]] [.box 24 [LI xs], .box 24 [LI b]] (fun (resX : AV) (objX : List AObj) => ∃ b2 : List Int, (LST n xs [] b b2 ∧ b2.length ≤ 1000) ∧ resX = .tup [] ∧ objX = [.box 24 [LI xs], .box 24 [LI b2]]) := by
  have hFr := okFr_rel hF
  have hb0 : 0 ≤ n ∧ n ≤ 8 := ⟨hFr.1, hFr.2.1⟩
  have hpx := px_nil n
  refine CallX.dropE (CallX.ofF Try.func75 rfl (by kernel_rfl) ?_)
  intro usC frC hfC
  refine R.go 8 (R.mkC eI 0 2 8 0 ((n).toNat) 0 n (by kernel_rfl) rfl (by omega) (by omega) (by decide) (by omega) (by kernel_rfl) ?_)
  refine R.go 14 (R.callZ (CallY.inF 2 usC frC (grow_c (n.toNat - ([] : List Int).length) n xs b [] 0 (by first | omega | (simp; done) | (simp; omega)) (by assumption) (by first | assumption | exact px_step (by omega) hX (by omega) (by assumption)) hb) (Nat.le_of_ble_eq_true (by kernel_rfl)) (by kernel_rfl) (by kernel_rfl) (by rintro _ _ ⟨_, _, rfl, rfl⟩; exact Nat.le_of_ble_eq_true (by kernel_rfl)) 5 rfl (hfC.kill 5 (Nat.le_of_ble_eq_true (by kernel_rfl)))) (by kernel_rfl) (by kernel_rfl) (by kernel_rfl) ?_)
  rintro _ _ ⟨_, _, ⟨b2_1, f2, rfl, rfl⟩, rfl, rfl⟩
  exact R.go 1 (R.retX (res := .tup []) (hp' := [.box 24 [LI xs], .box 24 [LI b2_1], .dead, .box 2 [AI n], .box 85 [.fn 76 [.ptr 0 0, .ptr 1 0]], rowA eI 2 1 [], .box 24 [.ref 5], .box 94 [.fn 110 [.ptr 6 0, .ptr 3 0, .ptr 4 0, .ptr 7 0]]]) (by kernel_rfl) (by kernel_rfl) (by kernel_rfl) (by kernel_rfl) ⟨[0, 1], by kernel_rfl, by decide, b2_1, by assumption, by kernel_rfl, by kernel_rfl⟩)

theorem ls_n {n : Int} {xs r : List Int} (hl : (xs.length : Int) = n) (h : LST n xs [] xs r) : (r.length : Int) = n := by
  rcases h.1 with rfl | ⟨⟨o, ho, e⟩, _⟩
  · exact hl
  · have := ho.1
    rw [e, reo_len]; omega

theorem leastRel_c (n : Int) (xs : List Int) (hF : okFr n xs = true) : CallX Try.prog 50 [LI xs] [] (fun (resX : AV) (objX : List AObj) => ∃ r : List Int, (LST n xs [] xs r ∧ r.length ≤ 1000) ∧ resX = LI r ∧ objX = []) := by
  have hFr := okFr_rel hF
  have hb0 : 0 ≤ n ∧ n ≤ 8 ∧ (xs.length : Int) = n := ⟨hFr.1, hFr.2.1, hFr.2.2.1⟩
  obtain rfl := hb0.2.2
  refine CallX.dropE (CallX.ofF Try.func50 rfl (by kernel_rfl) ?_)
  intro usC frC hfC
  refine R.go 8 (R.call true (clone_c xs (by first | omega | (simp <;> omega))).frz (by kernel_rfl) rfl (by kernel_rfl) ?_)
  refine R.go 6 (R.call true (size_c xs) (by kernel_rfl) rfl (by kernel_rfl) ?_)
  refine R.go 1 (R.callX (CallX.inF 0 usC frC (perms_c xs.length xs xs (by assumption) (by first | assumption | omega)) (Nat.le_of_ble_eq_true (by kernel_rfl)) (by kernel_rfl) (by kernel_rfl) (by rintro _ _ ⟨_, _, rfl, rfl⟩; exact Nat.le_of_ble_eq_true (by kernel_rfl))) (by kernel_rfl) (by kernel_rfl) (by kernel_rfl) ?_)
  rintro _ _ ⟨_, _, ⟨b2_1, f2, rfl, rfl⟩, rfl, rfl⟩
  exact R.go 6 (R.retX (res := LI b2_1) (hp' := [.dead, .box 24 [LI xs], .box 24 [LI b2_1]]) (by kernel_rfl) (by kernel_rfl) (by kernel_rfl) (by kernel_rfl) ⟨[], by kernel_rfl, by decide, b2_1, by assumption, by kernel_rfl, by kernel_rfl⟩)

theorem LP_big (n : Int) (xs : List Int) (hP : okPo n xs = true) (hn : (n : Int) > 6) : CallA Try.prog 26 [.agg [AI n, LI xs]] (.tup [.agg [AI 0, .nil], AI 3]) := by
  have hF : okFr n xs = true := okPo_fr hP
  have hbr := okFr_rel hF
  have hb : 0 ≤ n ∧ n ≤ 8 ∧ (xs.length : Int) = n := ⟨hbr.1, hbr.2.1, hbr.2.2.1⟩
  refine CallA.of Try.func26 rfl (by kernel_rfl) ?_
  refine R.go 11 (R.call true (isPoset_c n xs (by first | omega | (simp <;> omega))) (by kernel_rfl) rfl (by kernel_rfl) ?_)
  refine R.go 3 (R.els (!(okPo n xs)) (by kernel_rfl) (bnF hP) ?_)
  refine R.go 7 (R.cond (n > 6) (by kernel_rfl) (fun c1 => ?_) (fun c1 => ?_))
  · exact R.go 6 (R.retE (.tup [.agg [AI 0, .nil], AI 3]) (by kernel_rfl) (by kernel_rfl) (by rfl))
  · exfalso; omega -- call leastRel_c: not found: ['n']

theorem LP_impl (n : Int) (xs : List Int) (hP : okPo n xs = true) (hn : ¬ n > 6) : CallX Try.prog 26 [.agg [AI n, LI xs]] [] (fun (resX : AV) (objX : List AObj) => ∃ k : Int, ∃ r : List Int, (k = n ∧ LST n xs [] xs r ∧ r.length ≤ 1000) ∧ resX = .tup [.agg [AI k, LI r], AI 0] ∧ objX = []) := by
  have hF : okFr n xs = true := okPo_fr hP
  have hbr := okFr_rel hF
  have hb : 0 ≤ n ∧ n ≤ 8 ∧ (xs.length : Int) = n := ⟨hbr.1, hbr.2.1, hbr.2.2.1⟩
  refine CallX.dropE (CallX.ofF Try.func26 rfl (by kernel_rfl) ?_)
  intro usC frC hfC
  refine R.go 11 (R.call true (isPoset_c n xs (by first | omega | (simp <;> omega))) (by kernel_rfl) rfl (by kernel_rfl) ?_)
  refine R.go 3 (R.els (!(okPo n xs)) (by kernel_rfl) (bnF hP) ?_)
  refine R.go 7 (R.els (decide (n > 6)) (by kernel_rfl) (dF hn) ?_)
  refine R.go 6 (R.callX0 (leastRel_c n xs (by assumption)) (by kernel_rfl) (by rintro _ _ ⟨_, _, rfl, rfl⟩; rfl) (by kernel_rfl) (by kernel_rfl) ?_)
  rintro _ ⟨r_1, f2, rfl, _⟩
  refine R.call true (posetOfP_c r_1) (by kernel_rfl) rfl (by kernel_rfl) ?_
  exact R.go 3 (R.retX (res := .tup [.agg [AI r_1.length, LI r_1], AI 0]) (hp' := [.dead, .box 26 [AI n, LI xs], .box 26 [AI r_1.length, LI r_1]]) (by kernel_rfl) (by kernel_rfl) (by kernel_rfl) (by kernel_rfl) ⟨[], by kernel_rfl, by decide, r_1.length, r_1, by (have hq := (by assumption : LST n xs [] xs _ ∧ _); exact ⟨ls_n hb.2.2 hq.1, hq.1, hq.2⟩), by kernel_rfl, by kernel_rfl⟩)

end Go.Proofs.Ytogehjciaamcfaa
