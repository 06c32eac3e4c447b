/- Calls that change the caller's objects. -/
import Derived.Test.YtbkfbpddeedgoaaAbsL
namespace Go.Abs
open Go.RowKit

theorem HRel.bury {w : World} {Z : Nat → Prop} {B : Nat} {μ : List Value} {hp tl : List AObj} {o : AObj} (h : HRel w Z B μ (hp ++ o :: tl)) : HRel w Z B μ (hp ++ .dead :: tl) := by
  have get : ∀ (i : Nat) oi, (hp ++ AObj.dead :: tl)[i]? = some oi → oi = .dead ∨ (hp ++ o :: tl)[i]? = some oi := by
    intro i oi hi
    rcases Nat.lt_or_ge i hp.length with hlt | hge
    · right
      rw [List.getElem?_append_left hlt] at hi ⊢
      exact hi
    · rw [List.getElem?_append_right hge] at hi ⊢
      cases h0 : i - hp.length with
      | zero => left; rw [h0] at hi; simpa using hi.symm
      | succ k => right; rw [h0] at hi; simpa using hi
  refine ⟨by simpa using h.len, h.one, fun i oi u h1 h2 => ?_, fun i j oi oj ui uj g hne h1 h2 a1 a2 m1 m2 b1 b2 => ?_⟩
  · rcases get i oi h1 with rfl | h1
    · trivial
    · exact h.obj i oi u h1 h2
  · rcases get i oi h1 with rfl | h1
    · cases a1
    · rcases get j oj h2 with rfl | h2
      · cases a2
      · exact h.sep i j oi oj ui uj g hne h1 h2 a1 a2 m1 m2 b1 b2

/-- How a function that changes its caller's objects ends. -/
def ReturnsS (P : Program) (fn : Func) (st : St) (res : AV) (hp' junk : List AObj) (us : List Value) (fr : List AV) : Prop := ∃ vs, ResVs P st fn.results.toList vs ∧ oneOf vs = res ∧ st.hp = hp' ++ .frame us fr :: junk

theorem callS_of_run {P : Program} {f : FuncId} {fn : Func} {c : Code} {args : List AV} {hp : List AObj} {res : AV} {hp' junk : List AObj} (hf : P.funcs[f]? = some fn) (hb : fn.body = some c)
    (h : ∀ us fr, RunA P c ⟨args ++ List.replicate (fn.ntmps - args.length) .top, hp ++ [.frame us fr]⟩ fun e st' => match e with | .normal => ReturnsS P fn st' res hp' junk us fr | .ret => ReturnsS P fn st' res hp' junk us fr | _ => False) : CallS P f args hp res (hp' ++ .dead :: junk) := by
  intro Z0 w0 w μ vs us fr hH hvs hus hbel
  have hlen := hvs.length
  refine calls_of_wp hf hb ?_
  have hS : Sim Z0 w0 ⟨args ++ List.replicate (fn.ntmps - args.length) .top, hp ++ [.frame us fr]⟩ { tmps := vs.toArray ++ Array.replicate (fn.ntmps - vs.toArray.size) undef, defers := [] } w := by
    refine ⟨μ ++ [.bool false], hH.extend1 (Below.refl _ _) ?_ (fun g hg => by simp [blk] at hg) rfl, ?_, rfl, hbel⟩
    · exact RelL.keep (w := w) (fun _ _ _ => rfl) (fun i u hu => append_old i u hu) hus
    · simp only [Array.toList_append, Array.toList_replicate, List.size_toArray, hlen]
      refine RelL.append (RelL.keep (w := w) (fun _ _ _ => rfl) (fun i u hu => append_old i u hu) hvs) ?_
      generalize fn.ntmps - args.length = n
      induction n with
      | zero => exact RelL.nil
      | succ n ih => exact RelL.cons (by simp [Rel]) ih
  refine wp_mono (h us fr Z0 w0 _ w hS) ?_
  have fin : ∀ (st' : St) (a' : Act) (w' : World), ReturnsS P fn st' res hp' junk us fr → Sim Z0 w0 st' a' w' → a'.defers = [] ∧ ∃ v, (results fn a'.tmps).run P w' = .ok v w' ∧ ∃ v' μ', Ending.returned v = .returned v' ∧ HRel w' (Zone Z0 w0.heap.size) w0.heap.size μ' (hp' ++ .dead :: junk) ∧ Rel w' (Zone Z0 w0.heap.size) μ' res v' ∧ RelL w' (Zone Z0 w0.heap.size) μ' fr us ∧ Below w0.heap.size w0 w' := by
    rintro st' a' w' ⟨rs, hr, he, hh⟩ ⟨μ', hH', hF', hd, hbel'⟩
    obtain ⟨x, h1, h2⟩ := results_run hH' hF' hr
    rw [hh] at hH'
    have hg : (hp' ++ AObj.frame us fr :: junk)[hp'.length]? = some (.frame us fr) := by simp
    have hi : hp'.length < μ'.length := by rw [hH'.len]; simp
    have hfr := hH'.obj _ _ _ hg (List.getElem?_eq_getElem hi)
    exact ⟨hd, x, h1, x, μ', rfl, hH'.bury, he ▸ h2, hfr, hbel'⟩
  rintro e a' w' ⟨st', hq, hS'⟩
  cases e with
  | normal => exact fin st' a' w' hq hS'
  | ret => exact fin st' a' w' hq hS'
  | exit id => exact hq.elim
  | goto l => exact hq.elim
  | panic ch => exact hq.elim
  | outgrown => exact hq.elim

theorem Goes.callS {P : Program} {ops : Array Oper} {o : Oper} {l : List Oper} {st : St} {Q : St → Prop} {c args tys} (hw : wantedE ops o st.fr = some true) (f : FuncId) (caps : List AV) (res : AV) (hp' : List AObj) (hop : o.op = .call { callee := .value c, args := args, argTypes := tys })
    (hc : ev st.fr c = .fn f caps) (hen : Enters P f) (h : CallS P f (args.toList.map (ev st.fr) ++ caps) st.hp res hp') (h' : Goes P ops l ⟨putF st.fr o.dst res, hp'⟩ Q) : Goes P ops (o :: l) st Q :=
  Goes.step _ (.callS (wantedE_true hw) f caps res hp' hop hc hen h) h'

/-- Objects that are left out, the others numbered anew. -/
theorem Sub.renTo (js : List Nat) {st : St} (st1 : St) (hn : js.Nodup) (h : renS js st = st1) : Sub st st1 := h ▸ Sub.ren js st hn

/-- Reading and writing cells of a row of integers that is held. -/
theorem get_intsO {xs : List Int} {j : Nat} (h : j < xs.length) : (xs.map AI)[j * 1]? = some (.int .i64 (xs.getD j 0)) := by
  rw [Nat.mul_one, List.getElem?_map, List.getElem?_eq_getElem h]
  simp [AI, List.getD_eq_getElem?_getD, List.getElem?_eq_getElem h]

/-- Integers appended to a row of integers that is held. -/
theorem Goes.appendI {P : Program} {ops : Array Oper} {o : Oper} {l : List Oper} {st : St} {Q : St → Prop} {t x y} (hw : wantedE ops o st.fr = some true) (i el by_ n m : Nat) (zs : List AV) (xs ds : List Int) (hop : o.op = .call { callee := .builtin .append, args := #[x, y], argTypes := #[t, t] })
    (hx : ev st.fr x = .ref i) (hi : st.hp[i]? = some (.list el 1 n (xs.map AI))) (hy : SrcR st.hp 1 (ev st.fr y) m (ds.map AI)) (ht : rowB P t = some (el, 1, zs, by_)) (hb : (n + m) * by_ ≤ 140737488355328) (hm : n + m ≤ maxLen)
    (fr1 : List AV) (hp1 : List AObj) (hfr : killL i st.fr = fr1) (hpk : st.hp.map (AObj.kill i) = hp1) (h' : Goes P ops l ⟨putF fr1 o.dst (.ref i), hp1.set i (.list el 1 (n + m) ((xs ++ ds).map AI))⟩ Q) : Goes P ops (o :: l) st Q := by
  subst hfr hpk
  have h := EffW.append (P := P) (e := ev st.fr) (hp := st.hp) i el 1 by_ n m zs _ _ hx hi hy ht (ones_ints ds) hb hm
  rw [← List.map_append, killL_ints] at h
  refine Goes.write hw (kl := some i) (v := .ref i) ?_ h'
  rw [hop]
  exact h

theorem u64_nn (n : Int) : 0 ≤ IntKind.u64.wrap n := by rw [IntKind.wrap_u64]; omega
theorem u64_id {n : Int} (h0 : 0 ≤ n) (h1 : n < 18446744073709551616) : IntKind.u64.wrap n = n := IntWalk.u64_in n ⟨h0, by omega⟩

theorem imp_AI (k : Nat) (n : Int) : imp k (AI n) = (AI n, []) := rfl
theorem impL_ints (k : Nat) (xs : List Int) : impL k (xs.map AI) = (xs.map AI, []) := by
  induction xs generalizing k with
  | nil => rfl
  | cons x xs ih => simp only [List.map_cons, impL, imp_AI, List.length_nil, Nat.add_zero, ih, List.append_nil]

/-- A call whose result is taken in as v and news. -/
theorem Goes.callV {P : Program} {ops : Array Oper} {o : Oper} {l : List Oper} {st : St} {Q : St → Prop} {v : AV} {news : List AObj} (hw : wantedE ops o st.fr = some true) (h : CallR P (ev st.fr) st.hp o.op v news) (v1 : AV) (news1 : List AObj) (h1 : v = v1) (h2 : news = news1)
    (h' : Goes P ops l ⟨putF st.fr o.dst v1, st.hp ++ news1⟩ Q) : Goes P ops (o :: l) st Q := by
  subst h1 h2
  exact Goes.call hw h h'

theorem Sub.of_eq {st st' : St} (h : st = st') : Sub st st' := h ▸ Sub.refl _

theorem renL_ints (js : List Nat) (xs : List Int) : renL js (xs.map AI) = xs.map AI := by
  induction xs with
  | nil => rfl
  | cons x xs ih => simp [renL, AI, AV.ren, ih]

theorem Sub.renI (js : List Nat) {st : St} (fr1 : List AV) (hp1 : List AObj) (hn : js.Nodup) (h1 : renL js st.fr = fr1) (h2 : (js.map fun i => (st.hp.getD i .dead).ren js) = hp1) : Sub st ⟨fr1, hp1⟩ := by
  subst h1 h2
  exact Sub.ren js st hn

theorem obj_ints (js : List Nat) (e s n : Nat) (xs : List Int) : (AObj.list e s n (xs.map AI)).ren js = .list e s n (xs.map AI) := by simp [AObj.ren, renL_ints]

theorem kill_ints (i e s n : Nat) (xs : List Int) : (AObj.list e s n (xs.map AI)).kill i = .list e s n (xs.map AI) := by simp [AObj.kill, killL_ints]
theorem killCons {i : Nat} {o o' : AObj} {l l' : List AObj} (h : o.kill i = o') (h' : l.map (AObj.kill i) = l') : (o :: l).map (AObj.kill i) = o' :: l' := by rw [List.map_cons, h, h']
theorem killNil {i : Nat} : ([] : List AObj).map (AObj.kill i) = [] := rfl
theorem renCons {js : List Nat} {hp : List AObj} {j : Nat} {l : List Nat} {o' : AObj} {l' : List AObj} (h : (hp.getD j .dead).ren js = o') (h' : (l.map fun i => (hp.getD i .dead).ren js) = l') : ((j :: l).map fun i => (hp.getD i .dead).ren js) = o' :: l' := by rw [List.map_cons, h, h']
theorem renNil {js : List Nat} {hp : List AObj} : (([] : List Nat).map fun i => (hp.getD i .dead).ren js) = [] := rfl

theorem ReturnsS.of {P : Program} {fn : Func} {st : St} {res : AV} {us : List Value} {fr : List AV} (vs : List AV) (hp' junk : List AObj) (h : ResVs P st fn.results.toList vs) (h1 : oneOf vs = res) (h2 : st.hp = hp' ++ .frame us fr :: junk) : ReturnsS P fn st res hp' junk us fr := ⟨vs, h, h1, h2⟩

theorem closed_AI (n : Int) : (AI n).closed = true := rfl
theorem closedL_ints (xs : List Int) : closedL (xs.map AI) = true := by
  induction xs with
  | nil => rfl
  | cons x xs ih => simp [closedL, closed_AI, ih]

/-- An integer stored into a row of integers that is held. -/
theorem Goes.storeI {P : Program} {ops : Array Oper} {o : Oper} {l : List Oper} {st : St} {Q : St → Prop} {t p x} (hw : wantedE ops o st.fr = some true) (i el n : Nat) (xs : List Int) (j : Nat) (v : Int) (hop : o.op = .store t p x) (hp' : ev st.fr p = .ptr i (j * 1))
    (hi : st.hp[i]? = some (.list el 1 n (xs.map AI))) (hs : sizeB P t = some 1) (hx : ev st.fr x = .int .i64 v) (hj : j < xs.length) (h' : Goes P ops l ⟨putF st.fr o.dst .top, st.hp.set i (.list el 1 n ((xs.set j v).map AI))⟩ Q) : Goes P ops (o :: l) st Q := by
  have h := EffW.store1 (P := P) (e := ev st.fr) (hp := st.hp) (t := t) (p := p) (x := x) i (j * 1) (.list el 1 n (xs.map AI)) hp' hi hs (by rw [hx]; rfl) (by simpa [AObj.cells] using hj)
  rw [hx] at h
  simp only [AObj.cells, AObj.withCells, Nat.mul_one] at h
  rw [show AV.int IntKind.i64 v = AI v from rfl, set_ints] at h
  refine Goes.write hw (kl := none) (v := .top) ?_ h'
  rw [hop]
  exact h

/-- A round's end. -/
theorem next_of {α : Type} {st' st2 : St} {S : α → St} {I : α → Prop} {m : α → Nat} {k : Nat} (a : α) (h : Sub st' st2) (h2 : st2 = S a) (h3 : I a) (h4 : m a < k) : ∃ a', Sub st' (S a') ∧ I a' ∧ m a' < k := ⟨a, h2 ▸ h, h3, h4⟩

attribute [simp] imp impL impL_ints imp_AI AV.closed closedL closedL_ints closed_AI

end Go.Abs
