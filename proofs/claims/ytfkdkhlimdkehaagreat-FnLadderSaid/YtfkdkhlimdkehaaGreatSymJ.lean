/- Regions whose order is drawn: where what may change places does not mind, the order of the text tells all. -/
import Derived.Test.YtfkdkhlimdkehaaGreatSymI
import Derived.OrdersIn
namespace Go.Abs
open Go.RowKit

/-! ### Operations at frames that agree, and on more objects -/
section
variable {P : Program} {e e' : Operand → AV} {hp : List AObj}

theorem parts_congr {parts : Array (Nat × Operand)} (h : ∀ x ∈ (parts.toList.map (·.2)), e x = e' x) : (parts.toList.map fun x => (x.1, e x.2)) = parts.toList.map fun x => (x.1, e' x.2) := by
  apply List.map_congr_left
  intro x hx
  rw [h x.2 (List.mem_map.2 ⟨x, hx, rfl⟩)]

theorem EffR.congr {op : Op} {v : AV} {news : List AObj} (hx : ∀ x ∈ op.operands.toList, e x = e' x) (h : EffR P e hp op v news) : EffR P e' hp op v news := by
  cases h
  case move x => rw [hx x (by simp [Op.operands])]; exact .move
  case assign x => rw [hx x (by simp [Op.operands])]; exact .assign
  case pick c a b t h =>
    rw [hx a (by simp [Op.operands]), hx b (by simp [Op.operands])]
    exact .pick t (by rw [← hx c (by simp [Op.operands])]; exact h)
  case bin k m n h1 h2 hv => exact .bin k m n (by rw [← hx _ (by simp [Op.operands])]; exact h1) (by rw [← hx _ (by simp [Op.operands])]; exact h2) hv
  case quo k m n h1 h2 hv => exact .quo k m n (by rw [← hx _ (by simp [Op.operands])]; exact h1) (by rw [← hx _ (by simp [Op.operands])]; exact h2) hv
  case rem k m n h1 h2 hv => exact .rem k m n (by rw [← hx _ (by simp [Op.operands])]; exact h1) (by rw [← hx _ (by simp [Op.operands])]; exact h2) hv
  case shl k k' m n h1 h2 hv => exact .shl k k' m n (by rw [← hx _ (by simp [Op.operands])]; exact h1) (by rw [← hx _ (by simp [Op.operands])]; exact h2) hv
  case shr k k' m n h1 h2 hv => exact .shr k k' m n (by rw [← hx _ (by simp [Op.operands])]; exact h1) (by rw [← hx _ (by simp [Op.operands])]; exact h2) hv
  case eqlB a b h1 h2 ht => exact .eqlB a b (by rw [← hx _ (by simp [Op.operands])]; exact h1) (by rw [← hx _ (by simp [Op.operands])]; exact h2) ht
  case neqB a b h1 h2 ht => exact .neqB a b (by rw [← hx _ (by simp [Op.operands])]; exact h1) (by rw [← hx _ (by simp [Op.operands])]; exact h2) ht
  case not a h1 => exact .not a (by rw [← hx _ (by simp [Op.operands])]; exact h1)
  case neg k n h1 => exact .neg k n (by rw [← hx _ (by simp [Op.operands])]; exact h1)
  case conv k k' n h1 hs hd => exact .conv k k' n (by rw [← hx _ (by simp [Op.operands])]; exact h1) hs hd
  case extract cs h1 hi => exact .extract cs (by rw [← hx _ (by simp [Op.operands])]; exact h1) hi
  case nilP i o h1 => exact .nilP i o (by rw [← hx _ (by simp [Op.operands])]; exact h1)
  case nilR cs h1 => exact .nilR cs (by rw [← hx _ (by simp [Op.operands])]; exact h1)
  case fieldAddr i o off k h1 hf hk => exact .fieldAddr i o off k (by rw [← hx _ (by simp [Op.operands])]; exact h1) hf hk
  case fieldAddrR cs off k h1 hf hk => exact .fieldAddrR cs off k (by rw [← hx _ (by simp [Op.operands])]; exact h1) hf hk
  case field1 cs off k h1 hf hv => exact .field1 cs off k (by rw [← hx _ (by simp [Op.operands])]; exact h1) hf hv
  case fieldN cs off k h1 hf => exact .fieldN cs off k (by rw [← hx _ (by simp [Op.operands])]; exact h1) hf
  case indexAddr s n cs k j el h1 h2 ht hs h0 h3 => exact .indexAddr s n cs k j el (by rw [← hx _ (by simp [Op.operands])]; exact h1) (by rw [← hx _ (by simp [Op.operands])]; exact h2) ht hs h0 h3
  case indexAddrE s n cs k j el ds rest h1 h2 ht hs h0 h3 hd => exact .indexAddrE s n cs k j el ds rest (by rw [← hx _ (by simp [Op.operands])]; exact h1) (by rw [← hx _ (by simp [Op.operands])]; exact h2) ht hs h0 h3 hd
  case indexAddrO i el s n cs k j h1 hi h2 ht hs h0 h3 => exact .indexAddrO i el s n cs k j (by rw [← hx _ (by simp [Op.operands])]; exact h1) hi (by rw [← hx _ (by simp [Op.operands])]; exact h2) ht hs h0 h3
  case load i o ob h1 hi ht hv => exact .load i o ob (by rw [← hx _ (by simp [Op.operands])]; exact h1) hi ht hv
  case loadN i o k ob h1 hi ht hk hl => exact .loadN i o k ob (by rw [← hx _ (by simp [Op.operands])]; exact h1) hi ht hk hl
  case loadR cs h1 ht hv => exact .loadR cs (by rw [← hx _ (by simp [Op.operands])]; exact h1) ht hv
  case loadRN cs k h1 ht hk hl => exact .loadRN cs k (by rw [← hx _ (by simp [Op.operands])]; exact h1) ht hk hl
  case lenR s n cs h1 ht => exact .lenR s n cs (by rw [← hx _ (by simp [Op.operands, Call.operands])]; exact h1) ht
  case lenO i el s n cs h1 hi ht => exact .lenO i el s n cs (by rw [← hx _ (by simp [Op.operands, Call.operands])]; exact h1) hi ht
  case lenN h1 ht => exact .lenN (by rw [← hx _ (by simp [Op.operands, Call.operands])]; exact h1) ht
  case capN h1 ht => exact .capN (by rw [← hx _ (by simp [Op.operands, Call.operands])]; exact h1) ht
  case sliceN k h1 h2 ht => exact .sliceN k (by rw [← hx _ (by simp [Op.operands])]; exact h1) (by rw [← hx _ (by simp [Op.operands])]; exact h2) ht
  case max2 k m n h1 h2 => exact .max2 k m n (by rw [← hx _ (by simp [Op.operands, Call.operands])]; exact h1) (by rw [← hx _ (by simp [Op.operands, Call.operands])]; exact h2)
  case min2 k m n h1 h2 => exact .min2 k m n (by rw [← hx _ (by simp [Op.operands, Call.operands])]; exact h1) (by rw [← hx _ (by simp [Op.operands, Call.operands])]; exact h2)
  case makeSliceC el s b n c k k' zs ht h1 h2 hnc hb hn => exact .makeSliceC el s b n c k k' zs ht (by rw [← hx _ (by simp [Op.operands])]; exact h1) (by rw [← hx _ (by simp [Op.operands])]; exact h2) hnc hb hn
  case alloc t cs hz => exact .alloc cs hz
  case box t x h1 =>
    rw [hx x (by simp [Op.operands])] at h1 ⊢
    exact .box h1
  case makeFunc f caps =>
    have : caps.toList.map e = caps.toList.map e' := List.map_congr_left fun x h => hx x (by simp [Op.operands]; simpa using h)
    rw [this]
    exact .makeFunc
  case build t parts pl zs cs h1 hz hf =>
    refine .build pl zs cs h1 hz ?_
    rw [← parts_congr (e := e) (fun x h => hx x (by simpa [Op.operands] using h))]
    exact hf
  case buildSlice t n parts el s b zs cs ht hn hf hlf =>
    refine .buildSlice el s b zs cs ht hn ?_ hlf
    rw [← parts_congr (e := e) (fun x h => hx x (by simpa [Op.operands] using h))]
    exact hf
  case makeSlice el s b n k k' zs ht h1 h2 hb hn => exact .makeSlice el s b n k k' zs ht (by rw [← hx _ (by simp [Op.operands])]; exact h1) (by rw [← hx _ (by simp [Op.operands])]; exact h2) hb hn
  case sliceLH s n el cs k k' l h h1 h2 h3 ht h4 h5 => exact .sliceLH s n el cs k k' l h (by rw [← hx _ (by simp [Op.operands])]; exact h1) (by rw [← hx _ (by simp [Op.operands])]; exact h2) (by rw [← hx _ (by simp [Op.operands])]; exact h3) ht h4 h5
  case sliceL s n el cs k l h1 h2 ht h4 => exact .sliceL s n el cs k l (by rw [← hx _ (by simp [Op.operands])]; exact h1) (by rw [← hx _ (by simp [Op.operands])]; exact h2) ht h4
  case sliceH s n el cs k h h1 h2 ht h4 => exact .sliceH s n el cs k h (by rw [← hx _ (by simp [Op.operands])]; exact h1) (by rw [← hx _ (by simp [Op.operands])]; exact h2) ht h4
  case sliceHM t x hi mx s n el cs k k' h1 h2 h3 ht => exact .sliceHM s n el cs k k' (by rw [← hx _ (by simp [Op.operands])]; exact h1) (by rw [← hx _ (by simp [Op.operands])]; exact h2) (by rw [← hx _ (by simp [Op.operands])]; exact h3) ht
  case sliceLHM s n el cs k k' k'' l h m h1 h2 h3 h6 ht h4 h5 h7 => exact .sliceLHM s n el cs k k' k'' l h m (by rw [← hx _ (by simp [Op.operands])]; exact h1) (by rw [← hx _ (by simp [Op.operands])]; exact h2) (by rw [← hx _ (by simp [Op.operands])]; exact h3) (by rw [← hx _ (by simp [Op.operands])]; exact h6) ht h4 h5 h7

theorem get_more {hp nj : List AObj} {i : Nat} {o : AObj} (h : hp[i]? = some o) : (hp ++ nj)[i]? = some o := by
  rw [List.getElem?_append_left (List.getElem?_eq_some_iff.1 h).1]; exact h

/-- An operation that makes no object, on more objects. -/
theorem EffR.more (nj : List AObj) {op : Op} {v : AV} {news : List AObj} (h : EffR P e hp op v news) (hn : news = []) : EffR P e (hp ++ nj) op v news := by
  cases h
  case move x => exact .move
  case assign x => exact .assign
  case pick c a b t h => exact .pick t h
  case bin k m n h1 h2 hv => exact .bin k m n h1 h2 hv
  case quo k m n h1 h2 hv => exact .quo k m n h1 h2 hv
  case rem k m n h1 h2 hv => exact .rem k m n h1 h2 hv
  case shl k k' m n h1 h2 hv => exact .shl k k' m n h1 h2 hv
  case shr k k' m n h1 h2 hv => exact .shr k k' m n h1 h2 hv
  case eqlB a b h1 h2 ht => exact .eqlB a b h1 h2 ht
  case neqB a b h1 h2 ht => exact .neqB a b h1 h2 ht
  case not a h1 => exact .not a h1
  case neg k n h1 => exact .neg k n h1
  case conv k k' n h1 hs hd => exact .conv k k' n h1 hs hd
  case extract cs h1 hi => exact .extract cs h1 hi
  case nilP i o h1 => exact .nilP i o h1
  case nilR cs h1 => exact .nilR cs h1
  case fieldAddr i o off k h1 hf hk => exact .fieldAddr i o off k h1 hf hk
  case fieldAddrR cs off k h1 hf hk => exact .fieldAddrR cs off k h1 hf hk
  case field1 cs off k h1 hf hv => exact .field1 cs off k h1 hf hv
  case fieldN cs off k h1 hf => exact .fieldN cs off k h1 hf
  case indexAddr s n cs k j el h1 h2 ht hs h0 h3 => exact .indexAddr s n cs k j el h1 h2 ht hs h0 h3
  case indexAddrE s n cs k j el ds rest h1 h2 ht hs h0 h3 hd => exact .indexAddrE s n cs k j el ds rest h1 h2 ht hs h0 h3 hd
  case indexAddrO i el s n cs k j h1 hi h2 ht hs h0 h3 => exact .indexAddrO i el s n cs k j h1 (get_more hi) h2 ht hs h0 h3
  case load i o ob h1 hi ht hv => exact .load i o ob h1 (get_more hi) ht hv
  case loadN i o k ob h1 hi ht hk hl => exact .loadN i o k ob h1 (get_more hi) ht hk hl
  case loadR cs h1 ht hv => exact .loadR cs h1 ht hv
  case loadRN cs k h1 ht hk hl => exact .loadRN cs k h1 ht hk hl
  case lenR s n cs h1 ht => exact .lenR s n cs h1 ht
  case lenO i el s n cs h1 hi ht => exact .lenO i el s n cs h1 (get_more hi) ht
  case lenN h1 ht => exact .lenN h1 ht
  case capN h1 ht => exact .capN h1 ht
  case sliceN k h1 h2 ht => exact .sliceN k h1 h2 ht
  case max2 k m n h1 h2 => exact .max2 k m n h1 h2
  case min2 k m n h1 h2 => exact .min2 k m n h1 h2
  case makeFunc f caps => exact .makeFunc
  case build t parts pl zs cs h1 hz hf => exact .build pl zs cs h1 hz hf
  case sliceLH s n el cs k k' l h h1 h2 h3 ht h4 h5 => exact .sliceLH s n el cs k k' l h h1 h2 h3 ht h4 h5
  case sliceL s n el cs k l h1 h2 ht h4 => exact .sliceL s n el cs k l h1 h2 ht h4
  case sliceH s n el cs k h h1 h2 ht h4 => exact .sliceH s n el cs k h h1 h2 ht h4
  case sliceHM t x hi mx s n el cs k k' h1 h2 h3 ht => exact .sliceHM s n el cs k k' h1 h2 h3 ht
  case sliceLHM s n el cs k k' k'' l h m h1 h2 h3 h6 ht h4 h5 h7 => exact .sliceLHM s n el cs k k' k'' l h m h1 h2 h3 h6 ht h4 h5 h7
  all_goals cases hn

mutual
theorem imp_none : ∀ {c : AV} {k : Nat} (k' : Nat), (imp k c).2 = [] → imp k' c = imp k c
  | .own e s n cs, k, k', h => by simp [imp] at h
  | .agg cs, k, k', h => by
    simp only [imp] at h ⊢
    have := impL_none k' h
    rw [this]
  | .tup cs, k, k', h => by
    simp only [imp] at h ⊢
    have := impL_none k' h
    rw [this]
  | .int _ _, _, _, _ => rfl
  | .bool _, _, _, _ => rfl
  | .str _, _, _, _ => rfl
  | .nil, _, _, _ => rfl
  | .lst _ _ _, _, _, _ => rfl
  | .clp _ _ _, _, _, _ => rfl
  | .rptr _, _, _, _ => rfl
  | .top, _, _, _ => rfl
  | .ref _, _, _, _ => rfl
  | .ptr _ _, _, _, _ => rfl
  | .fn _ _, _, _, _ => rfl
theorem impL_none : ∀ {cs : List AV} {k : Nat} (k' : Nat), (impL k cs).2 = [] → impL k' cs = impL k cs
  | [], _, _, _ => rfl
  | c :: cs, k, k', h => by
    simp only [impL, List.append_eq_nil_iff] at h ⊢
    have h1 := imp_none k' h.1
    have h2 := impL_none (k' + (imp k c).2.length) h.2
    rw [h1, h2]
end

mutual
theorem Snap.more {hp : List AObj} (nj : List AObj) : ∀ {c c' : AV}, Snap hp c c' → Snap (hp ++ nj) c c'
  | _, _, .leaf h => .leaf h
  | _, _, .ref hi => .ref (get_more hi)
  | _, _, .ptr hi h => .ptr (get_more hi) (h.more nj)
  | _, _, .agg h => .agg (h.more nj)
  | _, _, .fn h => .fn (h.more nj)
  | _, _, .top => .top
theorem SnapL.more {hp : List AObj} (nj : List AObj) : ∀ {c c' : List AV}, SnapL hp c c' → SnapL (hp ++ nj) c c'
  | _, _, .nil => .nil
  | _, _, .cons h h' => .cons (h.more nj) (h'.more nj)
end
end

theorem CallR.congr {P : Program} {e e' : Operand → AV} {hp : List AObj} {op : Op} {v : AV} {news : List AObj} (hx : ∀ x ∈ op.operands.toList, e x = e' x) (h : CallR P e hp op v news) : CallR P e' hp op v news := by
  cases h
  case pure c args tys f caps res hc hl h =>
    have h1 : args.toList.map e = args.toList.map e' := List.map_congr_left fun x h => hx x (by simp [Op.operands, Call.operands]; exact .inr (by simpa using h))
    have h2 : e c = e' c := hx c (by simp [Op.operands, Call.operands])
    rw [h1] at h hl
    exact .pure f caps res (h2 ▸ hc) hl h
  case snap c args tys f caps avs res hc hs h hcl =>
    have h1 : args.toList.map e = args.toList.map e' := List.map_congr_left fun x h => hx x (by simp [Op.operands, Call.operands]; exact .inr (by simpa using h))
    have h2 : e c = e' c := hx c (by simp [Op.operands, Call.operands])
    rw [h1] at hs
    exact .snap f caps avs res (h2 ▸ hc) hs h hcl
  case lit t n parts el s b zs cs ht hn hf hlf =>
    refine .lit el s b zs cs ht hn ?_ hlf
    rw [← parts_congr (e := e) (fun x h => hx x (by simpa [Op.operands] using h))]
    exact hf

theorem CallR.more {P : Program} {e : Operand → AV} {hp : List AObj} (nj : List AObj) {op : Op} {v : AV} {news : List AObj} (h : CallR P e hp op v news) (hn : news = []) : CallR P e (hp ++ nj) op v news := by
  cases h
  case pure c args tys f caps res hc hl h =>
    have h1 := imp_none (k := hp.length) (hp ++ nj).length hn
    rw [← h1]
    exact .pure f caps res hc hl h
  case snap c args tys f caps avs res hc hs h hcl =>
    have h1 := imp_none (k := hp.length) (hp ++ nj).length hn
    rw [← h1]
    exact .snap f caps avs res hc (hs.more nj) h hcl
  case lit t n parts el s b zs cs ht hn' hf hlf => exact .lit el s b zs cs ht hn' hf hlf

/-! ### Steps that write to no object -/
inductive StepN (P : Program) (ops : Array Oper) (o : Oper) (fr : List AV) (hp : List AObj) : AV → List AObj → Prop
  | skip (j : Nat) (want : Bool) (hg : o.guard = some (j, want)) (hn : noA ops fr j want = true) : StepN P ops o fr hp (.tup []) []
  | eff {v news} (hw : WantedA ops o fr) (h : EffR P (ev fr) hp o.op v news) : StepN P ops o fr hp v news
  | call {v news} (hw : WantedA ops o fr) (h : CallR P (ev fr) hp o.op v news) : StepN P ops o fr hp v news

/-- A step with its tag: 0: no object is made or changed; 1: objects are made; 2: anything. -/
inductive StepT (P : Program) (ops : Array Oper) (o : Oper) : Nat → St → St → Prop
  | quiet {fr hp v} (h : StepN P ops o fr hp v []) : StepT P ops o 0 ⟨fr, hp⟩ ⟨putF fr o.dst v, hp⟩
  | ext {fr hp v news} (h : StepN P ops o fr hp v news) : StepT P ops o 1 ⟨fr, hp⟩ ⟨putF fr o.dst v, hp ++ news⟩
  | write {st st'} (h : StepR P ops o st st') : StepT P ops o 2 st st'

theorem StepT.toR {P : Program} {ops : Array Oper} {o : Oper} {t : Nat} {st st' : St} (h : StepT P ops o t st st') : StepR P ops o st st' := by
  have key : ∀ {fr hp v news}, StepN P ops o fr hp v news → StepR P ops o ⟨fr, hp⟩ ⟨putF fr o.dst v, hp ++ news⟩ := by
    intro fr hp v news h
    cases h
    case skip j want hg hn => simpa using StepR.skip (P := P) (st := ⟨fr, hp⟩) j want hg hn
    case eff hw h => exact .eff hw h
    case call hw h => exact .call hw h
  cases h
  case quiet fr hp v h => simpa using key h
  case ext fr hp v news h => exact key h
  case write h => exact h

theorem ev_putF {fr : List AV} {d : Option Tmp} {v : AV} {x : Operand} (h : ∀ t, d = some t → x ≠ .tmp t) : ev (putF fr d v) x = ev fr x := by
  cases d with
  | none => rfl
  | some t =>
    cases x with
    | tmp u =>
      have hne : t ≠ u := fun e => h t rfl (by rw [e])
      simp [ev, putF, List.getD_eq_getElem?_getD, List.getElem?_set_ne hne]
    | const v => rfl
    | global g => rfl
    | func f => rfl

theorem yield_putF {ops : Array Oper} {fr : List AV} {d : Option Tmp} {v : AV} {j : Nat} (h : ∀ t, d = some t → (ops[j]?).bind (·.dst) ≠ some t) : yieldA ops (putF fr d v) j = yieldA ops fr j := by
  unfold yieldA
  cases hd : (ops[j]?).bind (·.dst) with
  | none => rfl
  | some u =>
    cases d with
    | none => rfl
    | some t =>
      have hne : t ≠ u := fun e => h t rfl (by rw [hd, e])
      simp [putF, List.getElem?_set_ne hne]

theorem no_putF {ops : Array Oper} {fr : List AV} {d : Option Tmp} {v : AV} {j : Nat} {want : Bool} (h : ∀ t, d = some t → (ops[j]?).bind (·.dst) ≠ some t) : noA ops (putF fr d v) j want = noA ops fr j want := by
  unfold noA
  cases hd : (ops[j]?).bind (·.dst) with
  | none => rfl
  | some u =>
    cases d with
    | none => rfl
    | some t =>
      have hne : t ≠ u := fun e => h t rfl (by rw [hd, e])
      simp [putF, List.getElem?_set_ne hne]

/-- A step does not mind a slot that it does not look at. -/
theorem StepN.congr {P : Program} {ops : Array Oper} {o : Oper} {fr : List AV} {hp : List AObj} {d : Option Tmp} {u v : AV} {news : List AObj} (hd : ∀ t, d = some t → t ∉ o.looksAt ops) :
    StepN P ops o (putF fr d u) hp v news ↔ StepN P ops o fr hp v news := by
  have hx : ∀ x ∈ o.op.operands.toList, ev (putF fr d u) x = ev fr x := fun x hx => ev_putF fun t ht e => hd t ht (by
    unfold Oper.looksAt
    refine List.mem_append_left _ (List.mem_filterMap.2 ⟨x, hx, by rw [e]⟩))
  have hy : ∀ j b, o.guard = some (j, b) → yieldA ops (putF fr d u) j = yieldA ops fr j := fun j b hg => yield_putF fun t ht e => hd t ht (by
    unfold Oper.looksAt
    refine List.mem_append_right _ ?_
    rw [hg]
    simp [e])
  have hn : ∀ j b, o.guard = some (j, b) → noA ops (putF fr d u) j b = noA ops fr j b := fun j b hg => no_putF fun t ht e => hd t ht (by
    unfold Oper.looksAt
    refine List.mem_append_right _ ?_
    rw [hg]
    simp [e])
  have hw : WantedA ops o (putF fr d u) ↔ WantedA ops o fr := by
    unfold WantedA
    constructor
    · rintro (h | ⟨j, b, hg, h⟩)
      · exact .inl h
      · exact .inr ⟨j, b, hg, by rw [← hy j b hg]; exact h⟩
    · rintro (h | ⟨j, b, hg, h⟩)
      · exact .inl h
      · exact .inr ⟨j, b, hg, by rw [hy j b hg]; exact h⟩
  constructor
  · intro h
    cases h
    case skip j want hg hyy => exact .skip j want hg (by rw [← hn j want hg]; exact hyy)
    case eff hww h => exact .eff (hw.1 hww) (h.congr hx)
    case call hww h => exact .call (hw.1 hww) (h.congr hx)
  · intro h
    cases h
    case skip j want hg hyy => exact .skip j want hg (by rw [hn j want hg]; exact hyy)
    case eff hww h => exact .eff (hw.2 hww) (h.congr fun x h => (hx x h).symm)
    case call hww h => exact .call (hw.2 hww) (h.congr fun x h => (hx x h).symm)

theorem StepN.more {P : Program} {ops : Array Oper} {o : Oper} {fr : List AV} {hp : List AObj} (nj : List AObj) {v : AV} (h : StepN P ops o fr hp v []) : StepN P ops o fr (hp ++ nj) v [] := by
  cases h
  case skip j want hg hy => exact .skip j want hg hy
  case eff hw h => exact .eff hw (h.more nj rfl)
  case call hw h => exact .call hw (h.more nj rfl)

theorem putF_comm {fr : List AV} {d d' : Option Tmp} {u v : AV} (h : ∀ t, d = some t → d' ≠ some t) : putF (putF fr d u) d' v = putF (putF fr d' v) d u := by
  cases d with
  | none => rfl
  | some t =>
    cases d' with
    | none => rfl
    | some t' =>
      have hne : t ≠ t' := fun e => h t rfl (by rw [e])
      simp only [putF]
      exact List.set_comm _ _ hne

/-- Two steps change places. -/
theorem StepT.swap {P : Program} {ops : Array Oper} {oi oj : Oper} {t : Nat} {a b c : St} (h1 : StepT P ops oi 0 a b) (h2 : StepT P ops oj t b c) (ht : t ≤ 1) (hap : oi.apart ops oj = true) :
    ∃ b', StepT P ops oj t a b' ∧ StepT P ops oi 0 b' c := by
  obtain ⟨k1, k2, k3⟩ := Oper.apart_spec hap
  cases h1
  case quiet fr hp v h =>
    cases h2
    case quiet u h' =>
      refine ⟨_, .quiet ((StepN.congr k1).1 h'), ?_⟩
      rw [putF_comm k2]
      exact .quiet ((StepN.congr k3).2 h)
    case ext u news h' =>
      refine ⟨_, .ext ((StepN.congr k1).1 h'), ?_⟩
      rw [putF_comm k2]
      exact .quiet ((StepN.congr k3).2 (h.more news))
    case write h' => omega

/-! ### The drawn order -/
/-- j comes ahead of i in every order. -/
inductive Ahead (ops : Array Oper) : Nat → Nat → Prop
  | edge {i j oi ed} (hi : ops[i]? = some oi) (he : ed ∈ oi.after) (hb : Region.binds .any ed = true) (hj : ed.on = j) : Ahead ops j i
  | trans {i j m oi ed} (h : Ahead ops j m) (hi : ops[i]? = some oi) (he : ed ∈ oi.after) (hb : Region.binds .any ed = true) (hj : ed.on = m) : Ahead ops j i

inductive DrawT (P : Program) (ops : Array Oper) : List (Nat × Nat) → St → St → Prop
  | nil {st} : DrawT P ops [] st st
  | cons {k t o l st st1 st2} (ho : ops[k]? = some o) (h : StepT P ops o t st st1) (h' : DrawT P ops l st1 st2) : DrawT P ops ((k, t) :: l) st st2

def Free (ops : Array Oper) (x y : Nat × Nat) : Prop := Ahead ops x.1 y.1 ∨ (x.2 = 0 ∧ y.2 ≤ 1 ∧ ∀ oi oj, ops[x.1]? = some oi → ops[y.1]? = some oj → oi.apart ops oj = true)

theorem DrawT.front {P : Program} {ops : Array Oper} {x : Nat × Nat} {post : List (Nat × Nat)} {o : Oper} (ho : ops[x.1]? = some o) : ∀ {pre : List (Nat × Nat)} {st st' : St}, DrawT P ops (pre ++ x :: post) st st' →
    (∀ y ∈ pre, y.2 = 0 ∧ x.2 ≤ 1 ∧ ∀ oi oj, ops[y.1]? = some oi → ops[x.1]? = some oj → oi.apart ops oj = true) → ∃ st1, StepT P ops o x.2 st st1 ∧ DrawT P ops (pre ++ post) st1 st'
  | [], st, st', h, _ => by
    cases h with
    | cons ho' h h' =>
      simp only at ho
      rw [ho] at ho'
      obtain rfl := Option.some.inj ho'
      exact ⟨_, h, h'⟩
  | y :: pre, st, st', h, hf => by
    cases h
    case cons st1 k t o' ho' h h' =>
      obtain ⟨st2, g1, g2⟩ := DrawT.front ho h' fun z hz => hf z (List.mem_cons_of_mem _ hz)
      obtain ⟨f1, f2, f3⟩ := hf _ (List.mem_cons_self ..)
      simp only at f1
      subst f1
      obtain ⟨st3, g3, g4⟩ := h.swap g1 f2 (f3 _ _ ho' ho)
      exact ⟨st3, g3, .cons ho' g4 g2⟩

def Back (ops : Array Oper) : List (Nat × Nat) → Prop
  | [] => True
  | x :: l => (∀ o, ops[x.1]? = some o → ∀ ed ∈ o.after, Region.binds .any ed = true → ed.on < ops.size ∧ ∀ y ∈ x :: l, y.1 ≠ ed.on) ∧ Back ops l

theorem Back.drop {ops : Array Oper} {x : Nat × Nat} {post : List (Nat × Nat)} : ∀ {pre : List (Nat × Nat)}, Back ops (pre ++ x :: post) → Back ops (pre ++ post)
  | [], h => h.2
  | y :: pre, h => ⟨fun o ho ed he hb => ⟨(h.1 o ho ed he hb).1, fun z hz => (h.1 o ho ed he hb).2 z (by
      rcases List.mem_cons.1 hz with rfl | hz
      · exact List.mem_cons_self ..
      · refine List.mem_cons_of_mem _ ?_
        rcases List.mem_append.1 hz with hz | hz
        · exact List.mem_append_left _ hz
        · exact List.mem_append_right _ (List.mem_cons_of_mem _ hz))⟩, Back.drop h.2⟩

def Closed (ops : Array Oper) (listed : Array Bool) : Prop := ∀ k o, ops[k]? = some o → listed.getD k true = true → ∀ ed ∈ o.after, Region.binds .any ed = true → listed.getD ed.on false = true

theorem getD_ft {listed : Array Bool} {k : Nat} (h : listed.getD k false = true) : listed.getD k true = true := by
  rcases Nat.lt_or_ge k listed.size with hlt | hge
  · simpa [hlt] using h
  · simp [Array.getElem?_eq_none hge] at h

theorem ahead_listed {ops : Array Oper} {listed : Array Bool} (hc : Closed ops listed) : ∀ {j i : Nat}, Ahead ops j i → (∀ o, ops[i]? = some o → ∀ ed ∈ o.after, Region.binds .any ed = true → listed.getD ed.on false = true) → listed.getD j false = true := by
  intro j i h
  induction h with
  | edge hi he hb hj => intro hd; rw [← hj]; exact hd _ hi _ he hb
  | trans h hi he hb hj ih =>
    intro hd
    have h1 := hd _ hi _ he hb
    rw [hj] at h1
    exact ih fun o ho ed hed hbed => hc _ o ho (getD_ft h1) ed hed hbed

theorem any_sound {rd : Option Nat} {P : Program} {Z0 : Nat → Prop} {w0 : World} {ops : Array Oper} {Q : Exit → Act → World → Prop} {st' : St} (hQ : ∀ a' w', Sim Z0 w0 st' a' w' → Q .normal a' w') : ∀ (l : List (Nat × Nat)) (listed : Array Bool) (st : St) (a : Act) (w : World),
    listed.size = ops.size → (∀ k, k < ops.size → (listed.getD k true = false ↔ k ∈ l.map (·.1))) → (∀ x ∈ l, x.1 < ops.size) → (l.map (·.1)).Nodup → l.Pairwise (Free ops) → Back ops l → Closed ops listed →
    DrawT P ops l st st' → Sim Z0 w0 st a w → wpAnyIn (Fc rd) 0 P .any ops Q l.length listed a w := by
  intro l
  induction hn : l.length generalizing l with
  | zero =>
    intro listed st a w hsz hl _ _ _ _ _ hD hS
    obtain rfl := List.length_eq_zero_iff.1 hn
    cases hD
    refine ⟨?_, hQ _ _ hS⟩
    refine List.eq_nil_iff_forall_not_mem.2 fun j hj => ?_
    obtain ⟨h0, o, ho, _⟩ := mem_ready.1 hj
    have := (hl j (Array.getElem?_eq_some_iff.1 ho).1).1 h0
    simp at this
  | succ n ih =>
    intro listed st a w hsz hl hlt hnd hpw hbk hc hD hS
    refine ⟨fun h => ?_, fun i hi => ?_⟩
    · exfalso
      obtain ⟨x, l', rfl⟩ := List.exists_cons_of_length_eq_add_one hn
      have hx := hlt x (List.mem_cons_self ..)
      have : x.1 ∈ Region.ready .any ops listed := mem_ready.2 ⟨(hl _ hx).2 (by simp), ops[x.1], Array.getElem?_eq_getElem hx, fun ed he hb => by
        obtain ⟨h1, h2⟩ := hbk.1 _ (Array.getElem?_eq_getElem hx) ed he hb
        cases hg : listed.getD ed.on true with
        | false =>
          have h3 := (hl _ h1).1 hg
          obtain ⟨y, hy, hye⟩ := List.mem_map.1 h3
          exact absurd hye (h2 y hy)
        | true =>
          have hlt' : ed.on < listed.size := by rw [hsz]; exact h1
          simpa [hlt'] using hg⟩
      rw [h] at this
      cases this
    · obtain ⟨h0, o, ho, hall⟩ := mem_ready.1 hi
      have hilt := (Array.getElem?_eq_some_iff.1 ho).1
      have him := (hl i hilt).1 h0
      obtain ⟨x, hx, hxi⟩ := List.mem_map.1 him
      obtain ⟨pre, post, rfl⟩ := List.append_of_mem hx
      subst hxi
      have hpre : ∀ y ∈ pre, y.2 = 0 ∧ x.2 ≤ 1 ∧ ∀ oi oj, ops[y.1]? = some oi → ops[x.1]? = some oj → oi.apart ops oj = true := by
        intro y hy
        have h1 := (List.pairwise_append.1 hpw).2.2 y hy x (List.mem_cons_self ..)
        rcases h1 with h1 | h1
        · exfalso
          have h2 := ahead_listed hc h1 fun o' ho' ed he hb => by
            rw [ho] at ho'
            cases ho'
            exact hall ed he hb
          have hylt := hlt y (List.mem_append_left _ hy)
          have h3 := (hl y.1 hylt).2 (List.mem_map.2 ⟨y, List.mem_append_left _ hy, rfl⟩)
          have hlt' : y.1 < listed.size := by rw [hsz]; exact hylt
          simp [hlt'] at h2 h3
          rw [h2] at h3
          cases h3
        · exact h1
      obtain ⟨st1, hstep, hrest⟩ := hD.front ho hpre
      have hlen : (pre ++ post).length = n := by
        simp only [List.length_append, List.length_cons] at hn ⊢
        omega
      have hnd' : ((pre ++ post).map (·.1)).Nodup ∧ x.1 ∉ (pre ++ post).map (·.1) := by
        have e : ((pre ++ x :: post).map (·.1)) = pre.map (·.1) ++ x.1 :: post.map (·.1) := by simp
        rw [e] at hnd
        have h1 := (List.perm_middle (a := x.1) (l₁ := pre.map (·.1)) (l₂ := post.map (·.1))).nodup_iff.1 hnd
        rw [List.nodup_cons] at h1
        rw [List.map_append]
        exact ⟨h1.2, h1.1⟩
      have sub : ∀ y ∈ pre ++ post, y ∈ pre ++ x :: post := fun y hy => by
        rcases List.mem_append.1 hy with hy | hy
        · exact List.mem_append_left _ hy
        · exact List.mem_append_right _ (List.mem_cons_of_mem _ hy)
      have hK : ∀ a' w', Sim Z0 w0 st1 a' w' → wpAnyIn (Fc rd) 0 P .any ops Q n (listed.setIfInBounds x.1 true) a' w' := by
        intro a' w' hS'
        have := ih (pre ++ post) hlen (listed.setIfInBounds x.1 true) st1 a' w' (by simpa using hsz) (fun k hk => ?_) (fun y hy => hlt y (sub y hy)) hnd'.1
          (hpw.sublist (List.Sublist.append_left (List.sublist_cons_self ..) _)) hbk.drop (fun k o' ho' hk ed he hb => ?_) hrest hS'
        · exact this
        · by_cases hkx : k = x.1
          · subst hkx
            have hlt' : x.1 < listed.size := by rw [hsz]; exact hk
            simp only [hnd'.2, iff_false]
            simp [hlt']
          · rw [getD_set_ne true (Ne.symm hkx), hl k hk]
            simp only [List.map_append, List.map_cons, List.mem_append, List.mem_cons, hkx, false_or]
        · by_cases hkx : k = x.1
          · subst hkx
            rw [ho] at ho'
            cases ho'
            exact getD_set_true (hall ed he hb)
          · rw [getD_set_ne true (Ne.symm hkx)] at hk
            exact getD_set_true (hc k o' ho' hk ed he hb)
      unfold wpOpIn
      simp only [ho]
      have := hstep.toR.sound (rd := rd) (Q := Q) hS hK
      split
      · rename_i hw
        rw [if_pos hw] at this
        exact this
      · rename_i hw
        rw [if_neg hw] at this
        exact this

theorem Sim.drew {Z0 : Nat → Prop} {w0 : World} {st : St} {a : Act} {w : World} (h : Sim Z0 w0 st a w) (n : Nat) : Sim Z0 w0 st a { w with drawn := n } := by
  obtain ⟨μ, F, hFb, hH, hF, hd, hb⟩ := h
  have hbel : Below w.heap.size w { w with drawn := n } := ⟨rfl, rfl, rfl, Nat.le_refl _, fun _ _ => rfl⟩
  have hH' := HRel.extend (os := []) (μs := []) (bs := []) hH hbel ⟨rfl, fun i o u ho => by simp at ho, rfl, fun u hu => by simp at hu⟩ (fun g hg => by simp at hg) (fun g hg => by simp at hg) List.nodup_nil
  simp only [List.append_nil] at hH'
  exact ⟨μ, F, hFb, hH', RelL.keep (w := w) (w' := { w with drawn := n }) (fun _ _ _ => rfl) (fun _ _ h => h) hF, hd, hb.trans (hbel.mono hb.size)⟩

/-! ### The check, by reckoning -/
/-- Which come ahead of each, as bits. -/
def tabOf (l : List Oper) : List Nat :=
  l.foldl (fun acc o => acc ++ [o.after.foldl (fun s e => if Region.binds .any e then s ||| 2 ^ e.on ||| acc.getD e.on 0 else s) 0]) []

def okOne (ops : Array Oper) (tab tags : List Nat) (i : Nat) : Bool :=
  match ops[i]? with
  | none => false
  | some o =>
    (o.after.all fun e => !Region.binds .any e || decide (e.on < i)) &&
    ((List.range i).all fun j => !(tab.getD i 0).testBit j || o.after.any fun e => Region.binds .any e && (e.on == j || (decide (j < e.on) && (tab.getD e.on 0).testBit j))) &&
    ((List.range i).all fun j => (tab.getD i 0).testBit j || ((tags.getD j 2 == 0) && decide (tags.getD i 2 ≤ 1) && match ops[j]? with | some oj => oj.apart ops o | none => true))

def okDraw (ops : Array Oper) (tags : List Nat) : Bool :=
  let tab := tabOf ops.toList
  (List.range ops.size).all (okOne ops tab tags)

theorem okOne_back {ops : Array Oper} {tab tags : List Nat} {i : Nat} (h : okOne ops tab tags i = true) {o : Oper} (ho : ops[i]? = some o) {ed : Edge} (he : ed ∈ o.after) (hb : Region.binds .any ed = true) : ed.on < i := by
  unfold okOne at h
  rw [ho] at h
  simp only [Bool.and_eq_true] at h
  have := Array.all_eq_true_iff_forall_mem.1 h.1.1 ed he
  simpa [hb] using this

theorem okOne_ahead {ops : Array Oper} {tab tags : List Nat} (i : Nat) : (∀ k, k ≤ i → okOne ops tab tags k = true) → ∀ {j : Nat}, j < i → (tab.getD i 0).testBit j = true → Ahead ops j i := by
  induction i using Nat.strongRecOn with
  | _ i ih =>
    intro h j hj ht
    have hi := h i (Nat.le_refl _)
    have hi' := hi
    unfold okOne at hi
    cases ho : ops[i]? with
    | none => rw [ho] at hi; simp at hi
    | some o =>
      rw [ho] at hi
      simp only [Bool.and_eq_true, List.all_eq_true, List.mem_range] at hi
      have h1 := hi.1.2 j hj
      rw [ht] at h1
      simp only [Bool.not_true, Bool.false_or] at h1
      obtain ⟨ed, he, hb⟩ := Array.any_eq_true'.1 h1
      simp only [Bool.and_eq_true, Bool.or_eq_true, beq_iff_eq, decide_eq_true_eq] at hb
      have hlt := okOne_back hi' ho he hb.1
      rcases hb.2 with hb2 | ⟨hb2, hb3⟩
      · exact .edge ho he hb.1 hb2
      · exact .trans (ih ed.on hlt (fun k hk => h k (by omega)) hb2 hb3) ho he hb.1 rfl

theorem okOne_free {ops : Array Oper} {tab tags : List Nat} {i j : Nat} (h : ∀ k, k ≤ i → okOne ops tab tags k = true) (hj : j < i) : Free ops (j, tags.getD j 2) (i, tags.getD i 2) := by
  have hi := h i (Nat.le_refl _)
  unfold okOne at hi
  cases ho : ops[i]? with
  | none => rw [ho] at hi; simp at hi
  | some o =>
    rw [ho] at hi
    simp only [Bool.and_eq_true, List.all_eq_true, List.mem_range, Bool.or_eq_true, beq_iff_eq, decide_eq_true_eq] at hi
    rcases hi.2 j hj with h1 | ⟨⟨h1, h2⟩, h3⟩
    · exact .inl (okOne_ahead i h hj h1)
    · refine .inr ⟨h1, h2, fun oi oj e1 e2 => ?_⟩
      simp only at e1 e2
      rw [ho] at e2
      obtain rfl := Option.some.inj e2
      rw [e1] at h3
      exact h3

/-- A drawn region's steps in the order of the text, with their tags. -/
inductive DrawR (P : Program) (ops : Array Oper) : List Oper → List Nat → St → St → Prop
  | nil {st} : DrawR P ops [] [] st st
  | cons {o l t ts st st1 st2} (h : StepT P ops o t st st1) (h' : DrawR P ops l ts st1 st2) : DrawR P ops (o :: l) (t :: ts) st st2

theorem DrawR.toT {P : Program} {ops : Array Oper} {tags : List Nat} : ∀ {l : List Oper} {ts : List Nat} {st st' : St} (k : Nat), DrawR P ops l ts st st' → (∀ j, l[j]? = ops[k + j]?) → (∀ j, ts[j]? = tags[k + j]?) → DrawT P ops ((List.range' k l.length).map fun i => (i, tags.getD i 2)) st st'
  | [], _, st, _, k, .nil, _, _ => by simpa using .nil
  | o :: l, _, st, st', k, .cons (t := t) h h', hl, ht => by
    have h1 := DrawR.toT (k + 1) h' (fun j => by have := hl (j + 1); simpa [Nat.add_assoc, Nat.add_comm 1 j] using this) (fun j => by have := ht (j + 1); simpa [Nat.add_assoc, Nat.add_comm 1 j] using this)
    have h2 : tags.getD k 2 = t := by
      have := ht 0
      simp only [List.getElem?_cons_zero, Nat.add_zero] at this
      simp [List.getD_eq_getElem?_getD, ← this]
    simp only [List.length_cons, List.range'_succ, List.map_cons, h2]
    exact .cons (by have := hl 0; simpa using this.symm) h h1

/-- A region whose order is drawn: the steps in the order of the text. -/
theorem RunA.draw {rd : Option Nat} {P : Program} {id : Nat} {l : List Oper} {st st' : St} {Q : Exit → St → Prop} (hm : P.follows .mixedOrders = true) (tags : List Nat) (hok : okDraw l.toArray tags = true) (h : DrawR P l.toArray l tags st st') (hQ : Q .normal st') :
    RunA rd P (.region id l.toArray true) st Q := by
  intro Z0 w0 a w hS
  have hok' : ∀ i, i < l.toArray.size → okOne l.toArray (tabOf l) tags i = true := by
    simpa [okDraw] using hok
  refine wpIn_region_any hm ?_
  have hT := DrawR.toT (tags := tags) 0 h (fun j => by simp) (fun j => by simp)
  have hfst : (((List.range' 0 l.length).map fun i => (i, tags.getD i 2)).map (·.1)) = List.range l.length := by
    rw [List.map_map, ← List.range_eq_range']
    exact List.map_id _
  have key := any_sound (rd := rd) (P := P) (Z0 := Z0) (w0 := w0) (ops := l.toArray) (Q := fun e a' w' => ∃ st', Q e st' ∧ Sim Z0 w0 st' a' w') (st' := st') (fun a' w' hS' => ⟨_, hQ, hS'⟩)
    ((List.range' 0 l.length).map fun i => (i, tags.getD i 2)) (Array.replicate l.toArray.size false) st a { w with drawn := w.drawn + 1 } (by simp)
    (fun k hk => by rw [hfst]; simp at hk; simp [hk])
    (fun x hx => by obtain ⟨i, hi, rfl⟩ := List.mem_map.1 hx; simp at hi; simpa using hi)
    (by rw [hfst]; exact List.nodup_range)
    (by
      rw [← List.range_eq_range', List.pairwise_map]
      refine List.Pairwise.imp_of_mem (fun {a b} ha hb hab => ?_) List.pairwise_lt_range
      exact okOne_free (fun k hk => hok' k (by simp at hb ⊢; omega)) hab)
    ?_ ?_ hT (hS.drew _)
  · simpa using key
  · -- edges lead backwards
    have : ∀ (m k : Nat), k + m = l.length → Back l.toArray ((List.range' k m).map fun i => (i, tags.getD i 2)) := by
      intro m
      induction m with
      | zero => intro k _; simp [Back]
      | succ m ih =>
        intro k hk
        simp only [List.range'_succ, List.map_cons]
        refine ⟨fun o ho ed he hb => ?_, ih (k + 1) (by omega)⟩
        have hlt := okOne_back (hok' k (by simp; omega)) ho he hb
        refine ⟨by simp; omega, fun y hy => ?_⟩
        rcases List.mem_cons.1 hy with rfl | hy
        · simp; omega
        · obtain ⟨i, hi, rfl⟩ := List.mem_map.1 hy
          simp only [List.mem_range'_1] at hi
          simp; omega
    exact this l.length 0 (by omega)
  · intro k o ho hk
    exfalso
    have hlt := (Array.getElem?_eq_some_iff.1 ho).1
    have hlt' : k < l.length := by simpa using hlt
    have : (Array.replicate l.toArray.size false).getD k true = false := by simp [hlt']
    rw [this] at hk
    cases hk

end Go.Abs
