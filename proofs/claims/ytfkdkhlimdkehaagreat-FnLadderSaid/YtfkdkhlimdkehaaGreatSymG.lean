/- One operation as a step of the abstract machine; regions in the order of the text. -/
import Derived.Test.YtfkdkhlimdkehaaGreatSymF
namespace Go.Abs
open Go.RowKit

def putF (fr : List AV) (d : Option Tmp) (v : AV) : List AV :=
  match d with
  | some t => fr.set t v
  | none => fr

def yieldA (ops : Array Oper) (fr : List AV) (j : Nat) : Option Bool :=
  match ((ops[j]?).bind (·.dst)).bind (fr[·]?) with
  | some (.bool b) => some b
  | _ => none

/-- The operation is not carried out: its guard yields otherwise, or is itself not carried out. -/
def noA (ops : Array Oper) (fr : List AV) (j : Nat) (want : Bool) : Bool :=
  match ((ops[j]?).bind (·.dst)).bind (fr[·]?) with
  | some (.bool b) => b != want
  | some (.tup []) => true
  | _ => false

/-- The operation is carried out. -/
def WantedA (ops : Array Oper) (o : Oper) (fr : List AV) : Prop := o.guard = none ∨ ∃ j b, o.guard = some (j, b) ∧ yieldA ops fr j = some b

/-- A call by value. -/
inductive CallR (P : Program) (e : Operand → AV) (hp : List AObj) : Op → AV → List AObj → Prop
  | pure {c args tys} (f : FuncId) (caps : List AV) (res : AV) (hc : e c = .fn f caps) (hl : leafyL (args.toList.map e ++ caps) = true) (h : CallA P f (args.toList.map e ++ caps) res) :
      CallR P e hp (.call { callee := .value c, args := args, argTypes := tys }) (imp hp.length res).1 (imp hp.length res).2
  | snap {c args tys} (f : FuncId) (caps avs : List AV) (res : AV) (hc : e c = .fn f caps) (hs : SnapL hp (args.toList.map e ++ caps) avs) (h : CallA P f avs res) (hcl : res.closed = true) :
      CallR P e hp (.call { callee := .value c, args := args, argTypes := tys }) (imp hp.length res).1 (imp hp.length res).2
  | lit {t n parts} (el s by_ : Nat) (zs cs : List AV) (ht : rowB P t = some (el, s, zs, by_)) (hn : n * s ≤ 16777216) (hf : fillA (fun i => some (i * s, s)) (zerosA zs s n) (parts.toList.map fun x => (x.1, e x.2)) = some cs) (hlf : leafyL cs = true) :
      CallR P e hp (.buildSlice t n parts) (.lst s n cs) []

/-- A call that may change the caller's objects: from the objects hp to the objects hp'; the caller's frame stays what it is. -/
def CallS (P : Program) (f : FuncId) (args : List AV) (hp : List AObj) (res : AV) (hp' : List AObj) : Prop :=
  Enters P f ∧ ∀ (Z0 F : Nat → Prop) (w0 w : World) (μ vs us : List Value) (fr : List AV), (∀ b, F b → w0.heap.size ≤ b ∧ b < w.heap.size) → HRel w (Zone Z0 F w0.heap.size) w0.heap.size μ hp → RelL w (Zone Z0 F w0.heap.size) μ args vs → RelL w (Zone Z0 F w0.heap.size) μ fr us → Below w0.heap.size w0 w →
    Calls P f vs.toArray w fun e w' => ∃ v μ' F', e = .returned v ∧ (∀ b, F' b → w0.heap.size ≤ b ∧ b < w'.heap.size) ∧ HRel w' (Zone Z0 F' w0.heap.size) w0.heap.size μ' hp' ∧ Rel w' (Zone Z0 F' w0.heap.size) μ' res v ∧ RelL w' (Zone Z0 F' w0.heap.size) μ' fr us ∧ Below w0.heap.size w0 w'

inductive StepR (P : Program) (ops : Array Oper) (o : Oper) (st : St) : St → Prop
  | skip (j : Nat) (want : Bool) (hg : o.guard = some (j, want)) (hn : noA ops st.fr j want = true) : StepR P ops o st ⟨putF st.fr o.dst (.tup []), st.hp⟩
  | eff {v news} (hw : WantedA ops o st.fr) (h : EffR P (ev st.fr) st.hp o.op v news) : StepR P ops o st ⟨putF st.fr o.dst v, st.hp ++ news⟩
  | call {v news} (hw : WantedA ops o st.fr) (h : CallR P (ev st.fr) st.hp o.op v news) : StepR P ops o st ⟨putF st.fr o.dst v, st.hp ++ news⟩
  | write {v kl hp'} (hw : WantedA ops o st.fr) (h : EffW P (ev st.fr) st.hp o.op v kl hp') : StepR P ops o st ⟨putF (killF kl st.fr) o.dst v, hp'⟩
  | callS {c args tys} (hnm : noMark st.hp = true) (hw : WantedA ops o st.fr) (f : FuncId) (caps : List AV) (res : AV) (hp' : List AObj) (hop : o.op = .call { callee := .value c, args := args, argTypes := tys }) (hc : ev st.fr c = .fn f caps)
      (h : CallS P f (args.toList.map (ev st.fr) ++ caps) st.hp res hp') : StepR P ops o st ⟨putF st.fr o.dst res, hp'⟩

theorem yield_rel {w : World} {Z : Nat → Prop} {μ : List Value} {ops : Array Oper} {fr : List AV} {tmps : Array Value} (h : RelL w Z μ fr tmps.toList) {j : Nat} {b : Bool} (hy : yieldA ops fr j = some b) : yielded ops tmps j = some b := by
  unfold yieldA at hy
  unfold yielded
  cases hd : (ops[j]?).bind (·.dst) with
  | none => simp [hd] at hy
  | some t =>
    simp only [hd, Option.bind_some] at hy ⊢
    cases hf : fr[t]? with
    | none => simp [hf] at hy
    | some c =>
      obtain ⟨x, hx, hr⟩ := h.get hf
      simp only [hf] at hy
      cases c <;> simp at hy
      subst hy
      have hx' : tmps[t]? = some x := by simpa using hx
      rw [hx', rel_bool hr]

theorem no_rel {w : World} {Z : Nat → Prop} {μ : List Value} {ops : Array Oper} {fr : List AV} {tmps : Array Value} (h : RelL w Z μ fr tmps.toList) {j : Nat} {want : Bool} (hy : noA ops fr j want = true) : yielded ops tmps j ≠ some want := by
  unfold noA at hy
  unfold yielded
  cases hd : (ops[j]?).bind (·.dst) with
  | none => simp [hd] at hy
  | some t =>
    simp only [hd, Option.bind_some] at hy ⊢
    cases hf : fr[t]? with
    | none => simp [hf] at hy
    | some c =>
      obtain ⟨x, hx, hr⟩ := h.get hf
      simp only [hf] at hy
      have hx' : tmps[t]? = some x := by simpa using hx
      rw [hx']
      cases c with
      | bool b =>
        simp only [bne_iff_ne, ne_eq] at hy
        rw [rel_bool hr]
        simpa using hy
      | tup cs =>
        cases cs with
        | nil =>
          simp only [Rel, RelL] at hr
          obtain ⟨xs, rfl, _⟩ := hr
          simp
        | cons c cs => simp at hy
      | _ => simp at hy

theorem wanted_rel {w : World} {Z : Nat → Prop} {μ : List Value} {ops : Array Oper} {fr : List AV} {tmps : Array Value} {o : Oper} (h : RelL w Z μ fr tmps.toList) (hw : WantedA ops o fr) : Region.wanted o (yielded ops tmps) = true := by
  unfold Region.wanted
  rcases hw with hg | ⟨j, b, hg, hy⟩
  · rw [hg]
  · rw [hg]
    simp [yield_rel h hy]

theorem put_rel {w : World} {Z : Nat → Prop} {μ : List Value} {fr : List AV} {a : Act} (h : RelL w Z μ fr a.tmps.toList) (d : Option Tmp) {v : AV} {x : Value} (hv : Rel w Z μ v x) : RelL w Z μ (putF fr d v) (a.put d x).tmps.toList := by
  cases d with
  | none => exact h
  | some t => simpa [putF, Act.put] using h.set t hv

theorem put_defers' (a : Act) (d : Option Tmp) (x : Value) : (a.put d x).defers = a.defers := by cases d <;> rfl

theorem zone_new {Z0 F : Nat → Prop} {B : Nat} {w : World} (hB : B ≤ w.heap.size) (hF : ∀ b, F b → B ≤ b ∧ b < w.heap.size) : ∀ b, w.heap.size ≤ b → Zone Z0 F B b := fun b h => .inr ⟨Nat.le_trans hB h, fun h2 => absurd (hF b h2).2 (by omega)⟩

theorem ObjRel.weak {w : World} {Z Z' : Nat → Prop} {μ : List Value} {B : Nat} {u : Value} {o : AObj} (hz : ∀ b, b < w.heap.size → ¬ Z b → ¬ Z' b) (h : ObjRel w Z μ B u o) : ObjRel w Z' μ B u o := by
  cases o with
  | box t cs => obtain ⟨g, xs, h1, h2, h3, h4⟩ := h; exact ⟨g, xs, h1, h2, h3, h4.weak hz⟩
  | list e s n cs => obtain ⟨xs, h1, h2⟩ := h; exact ⟨xs, h1, h2.weak hz⟩
  | dead => trivial
  | frame us cs => exact RelL.weak hz h
  | inert x => exact InertRel.keep (fun b h1 h2 => ⟨rfl, hz b h1 h2⟩) h

theorem HRel.weak {w : World} {Z Z' : Nat → Prop} {B : Nat} {μ : List Value} {hp : List AObj} (hz : ∀ b, b < w.heap.size → ¬ Z b → ¬ Z' b) (hzz : ∀ b, b < w.heap.size → Z b → Z' b) (h : HRel w Z B μ hp) : HRel w Z' B μ hp :=
  ⟨h.len, fun i o u g h1 ha h2 hg => hzz g ((h.obj i o u h1 h2).blk_ge ha hg).2 (h.zone i o u g h1 ha h2 hg), h.one, fun i o u h1 h2 => (h.obj i o u h1 h2).weak hz, h.sep⟩

/-- More blocks that are written no more. -/
theorem zone_more {Z0 F F' : Nat → Prop} {B : Nat} (b : Nat) (h : ¬ Zone Z0 F B b) : ¬ Zone Z0 (fun b => F b ∨ F' b) B b := fun hz => h (hz.elim .inl (fun h2 => .inr ⟨h2.1, fun hf => h2.2 (.inl hf)⟩))

/-- The kit's fence that lets everything in, for a function's own activation or for a round of a loop over a function. -/
def Fc (rd : Option Nat) : Fence := { Fence.wide with round := rd }

theorem CallsIn.of_calls {rd : Option Nat} {n : Nat} {P : Program} {f : FuncId} {args : Array Value} {w : World} {R : Ending → World → Prop} (h : Calls P f args w R) : CallsIn (Fc rd) n P f args w R := callsIn_wide (n := n).2 h

theorem wpIn_of_run {rd : Option Nat} {P : Program} {o : Oper} {a : Act} {w : World} {K : Act → World → Prop} {Q : Exit → Act → World → Prop} (hnd : ∀ c, o.op ≠ .defer c)
    (h : o.uponIn (Fc rd) 0 P a K Q ((execOp a.eval o).run P w)) : o.wpIn (Fc rd) 0 P a w K Q := by
  refine ⟨fun _ _ => trivial, ?_⟩
  cases rd with
  | none => show o.uponIn (Fc none) 0 P a K Q ((o.semAt none a.eval).run P w); rw [Oper.semAt_none]; exact h
  | some l => show o.uponIn (Fc (some l)) 0 P a K Q ((o.semAt (some l) a.eval).run P w); rw [Oper.semAt_some l _ _ hnd]; exact h

theorem calls_of_wpIn {P : Program} {f : FuncId} {fn : Func} {c : Code} {args : Array Value} {w : World} {R : Ending → World → Prop} (hf : P.funcs[f]? = some fn) (hb : fn.body = some c)
    (h : c.wpIn (Fc none) 0 P (bodyPost P fn R) { tmps := args ++ Array.replicate (fn.ntmps - args.size) undef, defers := [] } w) : Calls P f args w R :=
  callsIn_wide.1 (callsIn_of_wp (F := Fence.wide) (n := 0) hf hb trivial h)

theorem upon_enter {rd : Option Nat} {P : Program} {o : Oper} {a : Act} {w : World} {K : Act → World → Prop} {Q : Exit → Act → World → Prop} {f : FuncId} {args : Array Value} {R : Ending → World → Prop} (h : Calls P f args w R)
    (hR : ∀ e w', R e w' → ∃ v, e = .returned v ∧ K (a.put o.dst v) w') : o.uponIn (Fc rd) 0 P a K Q (.ok (.enter f args) w) := by
  rw [Oper.uponIn_enter]
  refine ⟨fun hd => absurd hd (by simp [Fc, Fence.wide]), CallsIn.of_calls (h.mono ?_)⟩
  intro e w' hr
  obtain ⟨v, rfl, hk⟩ := hR e w' hr
  exact hk

/-- What an owned row reads as. -/
theorem own_lst {w : World} {Z Z' : Nat → Prop} {μ : List Value} {B e s n : Nat} {u : Value} {cs : List AV} {xs : List Value} (hown : w.ownsRow B e s u n xs) (hx : RelL w Z [] cs xs) (hz : ∀ b, b < w.heap.size → ¬ Z b → ¬ Z' b) (hg : ∀ g, blk u = some g → ¬ Z' g) :
    Rel w Z' μ (.lst s n cs) u := by
  have hlen := hx.length
  have hl := hown.1
  simp only [Rel]
  rcases hown.2 with ⟨rfl, rfl⟩ | ⟨g, cap, cur, rfl, hB, hh, hnc, hcm, hcs, ht⟩
  · have : xs = [] := List.eq_nil_of_length_eq_zero (by simpa using hl)
    subst this
    exact ⟨none, 0, [], rfl, by simp at hlen; simp [← hlen], Nat.le_refl _, fun h => absurd rfl h, hx.weak hz⟩
  · refine ⟨some ⟨g, 0, none⟩, cap, xs, rfl, by omega, hnc, fun _ => ⟨_, rfl, hg g rfl, fun j v hv => ?_⟩, hx.weak hz⟩
    rw [add_lit', Nat.zero_add, hown.cellAt j (by have := (List.getElem?_eq_some_iff.1 hv).1; omega)]
    exact hv

theorem call_wp {rd : Option Nat} {P : Program} {Z0 F : Nat → Prop} {w0 w : World} {μ : List Value} {hp : List AObj} {e : Operand → AV} {ρ : Operand → Value} {o : Oper} {a : Act} {v : AV} {news : List AObj} {K : Act → World → Prop} {Q : Exit → Act → World → Prop}
    (hρ : ρ = a.eval) (hF : ∀ b, F b → w0.heap.size ≤ b ∧ b < w.heap.size) (hH : HRel w (Zone Z0 F w0.heap.size) w0.heap.size μ hp) (hE : ∀ x, Rel w (Zone Z0 F w0.heap.size) μ (e x) (ρ x)) (hB : w0.heap.size ≤ w.heap.size) (h : CallR P e hp o.op v news)
    (hK : ∀ x w' μs (F' : Nat → Prop), Below w.heap.size w w' → (∀ b, F' b → w0.heap.size ≤ b ∧ b < w'.heap.size) → HRel w' (Zone Z0 (fun b => F b ∨ F' b) w0.heap.size) w0.heap.size (μ ++ μs) (hp ++ news) → Rel w' (Zone Z0 (fun b => F b ∨ F' b) w0.heap.size) (μ ++ μs) v x → K (a.put o.dst x) w') : o.wpIn (Fc rd) 0 P a w K Q := by
  obtain ⟨dst, op, ty, pos, after, guard⟩ := o
  simp only at h hK ⊢
  subst hρ
  -- both ways: the arguments stand for avs, outside Z'
  have main : ∀ {c : Operand} {args : Array Operand} {tys : Array TypeId} (f : FuncId) (caps avs : List AV) (res : AV) (Z' : Nat → Prop), op = .call { callee := .value c, args := args, argTypes := tys } → e c = .fn f caps →
      (∀ vs, RelL w (Zone Z0 F w0.heap.size) μ (args.toList.map e ++ caps) vs → RelL w (Zone Z' NoF w.heap.size) [] avs vs) → CallA P f avs res →
      (∀ w' v bs (F' : Nat → Prop), Below w.heap.size w w' → RF w' (Zone Z' F' w.heap.size) w.heap.size res v bs → RF w' (Zone Z0 (fun b => F b ∨ F' b) w0.heap.size) w0.heap.size res v bs) → v = (imp hp.length res).1 → news = (imp hp.length res).2 →
      Oper.wpIn (Fc rd) 0 P { dst := dst, op := op, type := ty, pos := pos, after := after, guard := guard } a w K Q := by
    intro c args tys f caps avs res Z' hop hc hargs hcall hres hv hn
    subst hop hv hn
    have hcv := hc ▸ hE c
    simp only [Rel] at hcv
    obtain ⟨cv, hcv, hrc⟩ := hcv
    have hargs' : RelL w (Zone Z0 F w0.heap.size) μ (args.toList.map e) (args.toList.map a.eval) := by
      generalize args.toList = l
      induction l with
      | nil => exact RelL.nil
      | cons x l ih => exact RelL.cons (hE x) ih
    have hall := hargs _ (hargs'.append hrc)
    obtain ⟨hen, hcall⟩ := hcall
    have hC := hcall Z' w _ hall
    have hrun : (execOp a.eval { dst := dst, op := .call { callee := .value c, args := args, argTypes := tys }, type := ty, pos := pos, after := after, guard := guard }).run P w = .ok (.enter f (args.toList.map a.eval ++ cv).toArray) w := by
      have e1 : (args.map a.eval ++ cv.toArray) = (args.toList.map a.eval ++ cv).toArray := by
        apply Array.toList_inj.1; simp
      simp only [execOp, resolve, Deferred.ofValue, hcv, Sem.run_bind, Sem.run_pure, Result.andThen_ok, invoke, Array.empty_append]
      rw [e1]
      exact hen _ _
    refine wpIn_of_run (fun c => by simp) ?_
    rw [hrun]
    refine upon_enter hC ?_
    rintro en w' ⟨x, bs, F', rfl, hF', hrf, hnd, hbf, hbel⟩
    refine ⟨x, rfl, ?_⟩
    have hrf2 := hres w' x bs F' hbel hrf
    obtain ⟨μs, ht, hr⟩ := imp_sound μ hp.length hH.len hrf2
    refine hK x w' μs F' hbel (fun b hb => ⟨Nat.le_trans hB (hF' b hb).1, (hF' b hb).2⟩) ?_ hr
    refine HRel.extend (bs := bs) (hH.weak (fun b _ hz => zone_more b hz) (fun b hb hz => ?_)) hbel ht (fun g hg => RF.ge hrf g hg) (fun g hg => ?_) hnd
    · exact hz.elim .inl (fun h2 => .inr ⟨h2.1, fun hf => hf.elim h2.2 (fun h3 => absurd (hF' b h3).1 (by omega))⟩)
    · have := RF.ge hrf g hg
      exact .inr ⟨by omega, fun hf => hf.elim (fun h3 => absurd (hF g h3).2 (by omega)) (hbf g hg)⟩
  cases h with
  | pure f caps res hc hl hcall =>
    refine main f caps _ res (Zone Z0 F w0.heap.size) rfl hc (fun vs hvs => ?_) hcall (fun w' v bs F' hbel hrf => hrf.older hB (fun b hb hz hz2 => hz ?_)) rfl rfl
    · exact RelL.weak (fun b hb hz hz2 => hz2.elim (fun h => hz h.2) (fun h => absurd hb (by omega))) (RelL.leafy hl hvs)
    · rcases hz2 with h | h
      · exact .inl ⟨Nat.lt_of_lt_of_le h.1 hB, .inl h⟩
      · rcases Nat.lt_or_ge b w.heap.size with hlt | hge
        · exact .inl ⟨hlt, .inr ⟨h.1, fun hf => h.2 (.inl hf)⟩⟩
        · exact .inr ⟨hge, fun hf => h.2 (.inr hf)⟩
  | snap f caps avs res hc hs hcall hcl =>
    refine main f caps avs res (fun _ => False) rfl hc (fun vs hvs => ?_) hcall (fun w' v bs F' hbel hrf => ?_) rfl rfl
    · exact RelL.weak (fun b hb hz hz2 => hz2.elim (fun h => h.2) (fun h => hz h.1)) (SnapL.sound hH hs hvs)
    · exact (hrf.older hB (Z' := Zone (fun _ => False) F' w.heap.size) (fun b _ hz hz2 => hz hz2)).weak hcl
  | lit el s by_ zs cs ht hn hf hlf =>
    rename_i t n parts
    have hEf : EffR P e hp (.buildSlice t n parts) (.ref hp.length) [.list el s n cs] := .buildSlice el s by_ zs cs ht hn hf hlf
    obtain ⟨x, w', μs, hr, hbel, hH', hv⟩ := EffR.sound (o := { dst := dst, op := .buildSlice t n parts, type := ty, pos := pos, after := after, guard := guard }) hH (zone_new (Z0 := Z0) hB hF) hE hB hEf
    refine wpIn_of_run (fun c => by simp) ?_
    rw [hr]
    simp only [Rel] at hv
    have hobj := hH'.obj hp.length (.list el s n cs) x (by simp) hv
    have hbg := fun g => hobj.blk_ge rfl (g := g)
    obtain ⟨ys, hown, hx⟩ := hobj
    have hz : ∀ b, b < w'.heap.size → ¬ Zone Z0 F w0.heap.size b → ¬ Zone Z0 (fun b => F b ∨ blk x = some b) w0.heap.size b := fun b _ h => zone_more b h
    have hr2 : Rel w' (Zone Z0 (fun b => F b ∨ blk x = some b) w0.heap.size) (μ ++ []) (.lst s n cs) x := own_lst hown hx hz (fun g hg hzz => hzz.elim (fun h => by
      have := (hbg g hg).1
      omega) (fun h => h.2 (.inr hg)))
    have hHk := HRel.extend (os := []) (μs := []) (bs := []) hH hbel ⟨rfl, fun i o u ho => by simp at ho, rfl, fun u hu => by simp at hu⟩ (fun g hg => by simp at hg) (fun g hg => by simp at hg) List.nodup_nil
    refine hK x w' [] (fun b => blk x = some b) hbel hbg ⟨hHk.len, fun i oi ui g h1 ha h2 hg => ?_, hHk.one, fun i oi ui h1 h2 => (hHk.obj i oi ui h1 h2).weak hz, hHk.sep⟩ hr2
    have h3 := hHk.zone i oi ui g h1 ha h2 hg
    refine h3.elim .inl fun h => .inr ⟨h.1, fun hf => hf.elim h.2 fun h4 => ?_⟩
    rw [List.append_nil] at h1 h2
    have hil := (List.getElem?_eq_some_iff.1 h1).1
    exact hH'.sep i hp.length oi (.list el s n cs) ui x g (by omega) (by rw [List.getElem?_append_left hil]; exact h1) (by simp) ha rfl (append_old i ui h2) hv hg h4

theorem EffR.not_defer {P : Program} {e : Operand → AV} {hp news : List AObj} {op : Op} {v : AV} (h : EffR P e hp op v news) : ∀ c, op ≠ .defer c := by
  rintro c rfl
  cases h

theorem EffW.not_defer {P : Program} {e : Operand → AV} {hp hp' : List AObj} {op : Op} {v : AV} {kl : Option Nat} (h : EffW P e hp op v kl hp') : ∀ c, op ≠ .defer c := by
  rintro c rfl
  cases h

theorem StepR.sound {rd : Option Nat} {P : Program} {Z0 : Nat → Prop} {w0 : World} {ops : Array Oper} {o : Oper} {st st' : St} {a : Act} {w : World} {K : Act → World → Prop} {Q : Exit → Act → World → Prop}
    (h : StepR P ops o st st') (hS : Sim Z0 w0 st a w) (hK : ∀ a' w', Sim Z0 w0 st' a' w' → K a' w') : if Region.wanted o (yielded ops a.tmps) then o.wpIn (Fc rd) 0 P a w K Q else (∀ f, o.about P w a.eval = some f → (Fc rd).fn f) ∧ K (a.put o.dst undef) w := by
  obtain ⟨μ, F, hFb, hH, hF, hd, hb⟩ := hS
  have hB := hb.size
  have hZn := zone_new (Z0 := Z0) hB hFb
  cases h with
  | skip j want hg hn =>
    have : Region.wanted o (yielded ops a.tmps) = false := by
      unfold Region.wanted
      rw [hg]
      simpa using no_rel hF hn
    rw [this]
    refine ⟨fun _ _ => trivial, ?_⟩
    exact hK _ _ ⟨μ, F, hFb, hH, put_rel hF _ (by simp only [Rel]; exact ⟨[], rfl, RelL.nil⟩), by rw [put_defers']; exact hd, hb⟩
  | eff hw h =>
    rw [wanted_rel hF hw, if_pos rfl]
    obtain ⟨x, w', μs, hr, hbel, hH', hv⟩ := EffR.sound hH hZn (fun y => ev_rel hF y) hB h
    refine wpIn_of_run h.not_defer ?_
    rw [hr]
    exact hK _ _ ⟨μ ++ μs, F, fun b h => ⟨(hFb b h).1, Nat.lt_of_lt_of_le (hFb b h).2 hbel.size⟩, hH', put_rel (hF.keep (fun b hb1 _ => hbel.block b hb1) (fun i u hu => append_old i u hu)) _ hv, by rw [put_defers']; exact hd.app, hb.trans (hbel.mono hB)⟩
  | call hw h =>
    rw [wanted_rel hF hw, if_pos rfl]
    refine call_wp rfl hFb hH (fun y => ev_rel hF y) hB h fun x w' μs F' hbel hF' hH' hv => ?_
    refine hK _ _ ⟨μ ++ μs, _, fun b h => ?_, hH', put_rel ((hF.weak (fun b _ hz => zone_more b hz)).keep (fun b hb1 _ => hbel.block b hb1) (fun i u hu => append_old i u hu)) _ hv, by rw [put_defers']; exact hd.app, hb.trans (hbel.mono hB)⟩
    rcases h with h | h
    · exact ⟨(hFb b h).1, Nat.lt_of_lt_of_le (hFb b h).2 hbel.size⟩
    · exact hF' b h
  | write hw h =>
    rename_i v kl hp'
    rw [wanted_rel hF hw, if_pos rfl]
    obtain ⟨x, w', μ', nx, hr, hnx, hbel, hH', hv, hk, hsz, hm⟩ := EffW.sound hH hZn (fun y => ev_rel hF y) hB h
    have hF' : RelL w' (Zone Z0 F w0.heap.size) μ' (killF kl st.fr) a.tmps.toList := by
      cases kl with
      | none => exact hF.keep hk (fun i u hu => hm i u (by simp) hu)
      | some k => exact hF.keep_kill k hk (fun i u hne hu => hm i u (by simpa using Ne.symm hne) hu)
    have hfin : Sim Z0 w0 ⟨putF (killF kl st.fr) o.dst v, hp'⟩ (a.put o.dst x) w' := ⟨μ', F, fun b h => ⟨(hFb b h).1, Nat.lt_of_lt_of_le (hFb b h).2 hsz⟩, hH', put_rel hF' _ hv, by rw [put_defers']; exact hd.keep fun i x hi => ⟨(h.inert hi).1, fun u hu => hm i u (h.inert hi).2 hu⟩, hb.trans hbel⟩
    refine wpIn_of_run h.not_defer ?_
    rw [hr]
    rcases hnx with rfl | ⟨rfl, rfl⟩
    · exact hK _ _ hfin
    · exact hK _ _ hfin
  | callS hnm hw f caps res hp' hop hc hcall =>
    rename_i c args tys
    rw [wanted_rel hF hw, if_pos rfl]
    have hE : ∀ y, Rel w (Zone Z0 F w0.heap.size) μ (ev st.fr y) (a.eval y) := fun y => ev_rel hF y
    have hcv := hc ▸ hE c
    simp only [Rel] at hcv
    obtain ⟨cv, hcv, hrc⟩ := hcv
    have hargs' : RelL w (Zone Z0 F w0.heap.size) μ (args.toList.map (ev st.fr)) (args.toList.map a.eval) := by
      generalize args.toList = l
      induction l with
      | nil => exact RelL.nil
      | cons x l ih => exact RelL.cons (hE x) ih
    obtain ⟨hen, hcall⟩ := hcall
    have hC := hcall Z0 F w0 w μ _ _ st.fr hFb hH (hargs'.append hrc) hF hb
    have hrun : (execOp a.eval o).run P w = .ok (.enter f (args.toList.map a.eval ++ cv).toArray) w := by
      have e1 : (args.map a.eval ++ cv.toArray) = (args.toList.map a.eval ++ cv).toArray := by
        apply Array.toList_inj.1; simp
      simp only [execOp, hop, resolve, Deferred.ofValue, hcv, Sem.run_bind, Sem.run_pure, Result.andThen_ok, invoke, Array.empty_append]
      rw [e1]
      exact hen _ _
    refine wpIn_of_run (fun c' => by rw [hop]; simp) ?_
    rw [hrun]
    refine upon_enter hC ?_
    rintro en w' ⟨x, μ', F', rfl, hFb', hH', hr, hF', hbel⟩
    exact ⟨x, rfl, hK _ _ ⟨μ', F', hFb', hH', put_rel hF' _ hr, by rw [put_defers']; exact .inl (hd.none hnm), hbel⟩⟩

inductive OpsR (P : Program) (ops : Array Oper) : List Oper → St → St → Prop
  | nil {st} : OpsR P ops [] st st
  | cons {o rest st st1 st2} (h : StepR P ops o st st1) (h' : OpsR P ops rest st1 st2) : OpsR P ops (o :: rest) st st2

theorem ops_sound {rd : Option Nat} {P : Program} {Z0 : Nat → Prop} {w0 : World} {ops : Array Oper} {Q : Exit → Act → World → Prop} : ∀ {l : List Oper} {st st' : St} {a : Act} {w : World}, OpsR P ops l st st' → Sim Z0 w0 st a w →
    (∀ a' w', Sim Z0 w0 st' a' w' → Q .normal a' w') → wpListIn (Fc rd) 0 P ops Q l a w
  | [], _, _, a, w, .nil, hS, hQ => wpListIn_nil (hQ a w hS)
  | _ :: _, _, _, _, _, .cons h h', hS, hQ => wpListIn_step fun _ hK => h.sound hS fun a' w' hS' => hK a' w' (ops_sound h' hS' hQ)

/-! ### Code -/

/-- From the state st the code c comes to an exit and a state of which Q holds. -/
def RunA (rd : Option Nat) (P : Program) (c : Code) (st : St) (Q : Exit → St → Prop) : Prop :=
  ∀ (Z0 : Nat → Prop) (w0 : World) (a : Act) (w : World), Sim Z0 w0 st a w → c.wpIn (Fc rd) 0 P (fun e a' w' => ∃ st', Q e st' ∧ Sim Z0 w0 st' a' w') a w

theorem RunA.region {rd : Option Nat} {P : Program} {id : Nat} {l : List Oper} {st st' : St} {Q : Exit → St → Prop} (h : OpsR P l.toArray l st st') (hQ : Q .normal st') : RunA rd P (.region id l.toArray false) st Q :=
  fun _ _ _ _ hS => wpIn_region_lit (ops_sound h hS fun _ _ hS' => ⟨_, hQ, hS'⟩)

theorem RunA.seq {rd : Option Nat} {P : Program} {x y : Code} {st : St} {Q : Exit → St → Prop} (h : RunA rd P x st fun e st' => match e with | .normal => RunA rd P y st' Q | e => Q e st') : RunA rd P (.seq x y) st Q := by
  intro Z0 w0 a w hS
  refine wpIn_seq (wpIn_mono (h Z0 w0 a w hS) ?_)
  rintro e a' w' ⟨st', hq, hS'⟩
  cases e with
  | normal => exact hq Z0 w0 a' w' hS'
  | exit id => exact ⟨st', hq, hS'⟩
  | goto l => exact ⟨st', hq, hS'⟩
  | ret => exact ⟨st', hq, hS'⟩
  | panic ch => exact ⟨st', hq, hS'⟩
  | outgrown => exact ⟨st', hq, hS'⟩

theorem RunA.skip {rd : Option Nat} {P : Program} {st : St} {Q : Exit → St → Prop} (h : Q .normal st) : RunA rd P .skip st Q := fun _ _ _ _ hS => wpIn_skip ⟨_, h, hS⟩
theorem RunA.exit {rd : Option Nat} {P : Program} {id : Nat} {st : St} {Q : Exit → St → Prop} (h : Q (.exit id) st) : RunA rd P (.exit id) st Q := fun _ _ _ _ hS => wpIn_exit ⟨_, h, hS⟩
theorem RunA.ret {rd : Option Nat} {P : Program} {st : St} {Q : Exit → St → Prop} (h : Q .ret st) : RunA rd P .ret st Q := fun _ _ _ _ hS => wpIn_ret ⟨_, h, hS⟩

theorem RunA.cond {rd : Option Nat} {P : Program} {c : Operand} {x y : Code} {st : St} {Q : Exit → St → Prop} (b : Bool) (hc : ev st.fr c = .bool b) (ht : b = true → RunA rd P x st Q) (hf : b = false → RunA rd P y st Q) : RunA rd P (.cond c x y) st Q := by
  intro Z0 w0 a w hS
  have hS2 := hS
  obtain ⟨μ, F, hFb, hH, hF, hd, hb⟩ := hS2
  have h1 := rel_bool (hc ▸ ev_rel hF c)
  exact wpIn_cond_split h1 (fun e => ht e Z0 w0 a w hS) (fun e => hf e Z0 w0 a w hS)

theorem RunA.block {rd : Option Nat} {P : Program} {id : Nat} {c : Code} {st : St} {Q : Exit → St → Prop} (h : RunA rd P c st fun e st' => match e with | .exit id' => if id' = id then Q .normal st' else Q (.exit id') st' | e => Q e st') : RunA rd P (.block id c) st Q := by
  intro Z0 w0 a w hS
  refine wpIn_block (wpIn_mono (h Z0 w0 a w hS) ?_)
  rintro e a' w' ⟨st', hq, hS'⟩
  cases e with
  | exit id' =>
    simp only [Exit.inBlock]
    by_cases hid : id' = id
    · simp only [hid, if_true] at hq ⊢
      exact ⟨st', hq, hS'⟩
    · simp only [hid, if_false] at hq ⊢
      exact ⟨st', hq, hS'⟩
  | normal => exact ⟨st', hq, hS'⟩
  | goto l => exact ⟨st', hq, hS'⟩
  | ret => exact ⟨st', hq, hS'⟩
  | panic ch => exact ⟨st', hq, hS'⟩
  | outgrown => exact ⟨st', hq, hS'⟩

/-- What stands for st stands for st' too. -/
def Sub (st st' : St) : Prop := ∀ (Z0 : Nat → Prop) (w0 : World) (a : Act) (w : World), Sim Z0 w0 st a w → Sim Z0 w0 st' a w

theorem Sub.refl (st : St) : Sub st st := fun _ _ _ _ h => h
theorem Sub.trans {a b c : St} (h : Sub a b) (h' : Sub b c) : Sub a c := fun _ _ _ _ hS => h' _ _ _ _ (h _ _ _ _ hS)

theorem RunA.sub {rd : Option Nat} {P : Program} {c : Code} {st st' : St} {Q : Exit → St → Prop} (hs : Sub st st') (h : RunA rd P c st' Q) : RunA rd P c st Q := fun Z0 w0 a w hS => h Z0 w0 a w (hs _ _ _ _ hS)

theorem RunA.post {rd : Option Nat} {P : Program} {c : Code} {st : St} {Q Q' : Exit → St → Prop} (h : RunA rd P c st Q) (hq : ∀ e st', Q e st' → ∃ st'', Sub st' st'' ∧ Q' e st'') : RunA rd P c st Q' := fun Z0 w0 a w hS =>
  wpIn_mono (h Z0 w0 a w hS) fun e _ _ ⟨st', h1, h2⟩ => let ⟨st'', h3, h4⟩ := hq e st' h1; ⟨st'', h4, h3 _ _ _ _ h2⟩

theorem RunA.mono {rd : Option Nat} {P : Program} {c : Code} {st : St} {Q Q' : Exit → St → Prop} (h : RunA rd P c st Q) (hq : ∀ e st', Q e st' → Q' e st') : RunA rd P c st Q' := h.post fun e st' h1 => ⟨st', Sub.refl _, hq e st' h1⟩

/-- A loop, by an invariant with a measure. -/
theorem RunA.loop {rd : Option Nat} {P : Program} {c : Code} {st : St} {Q : Exit → St → Prop} (I : Nat → St → Prop) (n : Nat) (h0 : I n st)
    (round : ∀ n st, I n st → RunA rd P c st fun e st' => match e with | .normal => ∃ st'', Sub st' st'' ∧ ∃ n', n' < n ∧ I n' st'' | e => Q e st') : RunA rd P (.loop c) st Q := by
  intro Z0 w0 a w hS
  intro b k cs hro hb hr
  have key : ∀ (n : Nat) st a w, I n st → Sim Z0 w0 st a w →
      ∃ e a' w', (∃ st', Q e st' ∧ Sim Z0 w0 st' a' w') ∧ ArrivesIn (Machine.fenced P (Fc rd)) P (lone (b.atR a (.code c :: .inLoop c :: k)) cs w) b k cs e a' w' := by
    intro n
    induction n using Nat.strongRecOn with
    | _ n ih =>
      intro st a w hI hS
      obtain ⟨e, a1, w1, ⟨st1, hq, hS1⟩, harr⟩ := round n st hI Z0 w0 a w hS b (.inLoop c :: k) cs hro hb hr
      cases e with
      | normal =>
        obtain ⟨st2, hsub, n', hlt, hI'⟩ := hq
        obtain ⟨e2, a2, w2, hq2, harr2⟩ := ih n' hlt st2 a1 w1 hI' (hsub _ _ _ _ hS1)
        exact ⟨e2, a2, w2, hq2, .of_steps (StepsIn.trans harr (.one (fenced_calm hb hr rfl) stepR_inLoop)) harr2⟩
      | exit id => exact ⟨_, a1, w1, ⟨st1, hq, hS1⟩, .pass (x := .inLoop c) rfl (fun _ _ => .inl (by simp)) harr⟩
      | goto l => exact ⟨_, a1, w1, ⟨st1, hq, hS1⟩, .pass (x := .inLoop c) rfl (fun _ _ => .inl (by simp)) harr⟩
      | ret => exact ⟨_, a1, w1, ⟨st1, hq, hS1⟩, .pass (x := .inLoop c) rfl (fun _ _ => .inl (by simp)) harr⟩
      | panic ch => exact ⟨_, a1, w1, ⟨st1, hq, hS1⟩, .pass (x := .inLoop c) rfl (fun _ _ => .inl (by simp)) harr⟩
      | outgrown => exact ⟨_, a1, w1, ⟨st1, hq, hS1⟩, .pass (x := .inLoop c) rfl (fun _ _ => .inl (by simp)) harr⟩
  obtain ⟨e, a', w', hq, harr⟩ := key n st a w h0 hS
  exact ⟨e, a', w', hq, .of_steps (.one (fenced_calm hb hr rfl) stepR_loop) harr⟩

end Go.Abs
