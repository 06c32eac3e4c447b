/- The machine's rules: the end of a row is cleared. -/
import Derived.Test.YtfkdkhlimdkehaaGreatSymZ
namespace Go.Abs
open Go.RowKit

theorem set_self {α : Type} {xs : List α} {i : Nat} {x : α} (h : xs[i]? = some x) : xs.set i x = xs := by
  apply List.ext_getElem?
  intro j
  by_cases e : i = j
  · subst e
    rw [List.getElem?_set_self (List.getElem?_eq_some_iff.1 h).1, h]
  · rw [List.getElem?_set_ne e]

section
variable {rd : Option Nat} {P : Program} {Q : Exit → St → Prop}

/-- The slice of a row of one's own from l on is laid into d, and cleared. -/
theorem OpsQ.clr {all : Array Oper} {o1 o2 : Oper} {rest : List Oper} {fr : List AV} {hp : List AObj} {R : Exit → St → Prop} {t d i el s n by_ l : Nat} {k : IntKind} {x lo : Operand} {cs zs : List AV}
    (g1 : o1.guard = none) (p1 : o1.op = .slice t x (some lo) none none) (d1 : o1.dst = some d) (g2 : o2.guard = none) (p2 : o2.op = .call { callee := .builtin .clear, args := #[.tmp d], argTypes := #[t] })
    (hx : ev fr x = .ref i) (hlo : ev fr lo = .int k l) (hr : rowB P t = some (el, s, zs, by_)) (hi : hp[i]? = some (.list el s n cs)) (hl : l ≤ n) (hd : d < fr.length)
    (h1 : ∀ c ∈ zerosA zs s (n - l), c.one = true) (h2 : leafyL (zerosA zs s (n - l)) = true)
    (h' : OpsQ rd P all rest ⟨putF (putF fr (some d) .top) o2.dst (.tup []), hp.set i (.list el s n (setMany cs (l * s) (zerosA zs s (n - l))))⟩ R) :
    OpsQ rd P all (o1 :: o2 :: rest) ⟨fr, hp⟩ R := by
  intro Z0 w0 a w hS
  obtain ⟨μ, F, hFb, hH, hF, hdf, hb⟩ := hS
  have hB := hb.size
  have hZn := zone_new (Z0 := Z0) hB hFb
  obtain ⟨info, z, hu, hinf, hz, rfl, rfl, hzs, hs0, rfl⟩ := row_parts hr
  have hxv := hx ▸ ev_rel hF x
  simp only [Rel] at hxv
  have hlv := rel_int (hlo ▸ ev_rel hF lo)
  have hsize : d < a.tmps.size := by
    have : a.tmps.size = fr.length := by simpa using hF.length
    omega
  have hel : elemB P t = some (el, info.size) := by
    unfold elemB
    rw [hu]
    simp [hinf]
  obtain ⟨xs, hown, hrx⟩ := hH.obj i _ _ hi hxv
  have hlen := hrx.length
  have hcl := hown.1
  -- what a state behind the clearing needs
  have main : ∀ v, (Instr.sliceAt t (a.eval x) (some (.int k l)) none none).run P w = .ok v w →
      (∃ w', (Builtin.clear_ #[t] o2.type #[v]).run P w = .ok (.tuple #[]) w' ∧ HRel w' (Zone Z0 F w0.heap.size) w0.heap.size μ (hp.set i (.list el info.size n (setMany cs (l * info.size) (zerosA (z.cells.toList.map ofConst) info.size (n - l))))) ∧
        Below w0.heap.size w w' ∧ (∀ b, b < w.heap.size → ¬ Zone Z0 F w0.heap.size b → w'.heap[b]? = w.heap[b]?) ∧ w.heap.size ≤ w'.heap.size) →
      wpListIn (Fc rd) 0 P all (fun e a' w' => ∃ st', R e st' ∧ Sim Z0 w0 st' a' w') (o1 :: o2 :: rest) a w := by
    rintro v hv ⟨w', hc, hH', hbel, hk, hsz⟩
    refine wpListIn_plain g1 fun K1 hK1 => ?_
    refine wpIn_of_run (fun c h => by rw [p1] at h; cases h) ?_
    have e1 : (execOp a.eval o1).run P w = .ok (.value v) w := by
      simp only [execOp, p1, hlv, Option.map_some, Option.map_none, Sem.run_bind, hv, Result.andThen_ok, Sem.run_pure]
    rw [e1]
    refine hK1 _ _ ?_
    refine wpListIn_plain g2 fun K2 hK2 => ?_
    refine wpIn_of_run (fun c h => by rw [p2] at h; cases h) ?_
    have ed : (a.put o1.dst v).eval (.tmp d) = v := by
      rw [d1]
      simp [Act.put, Act.eval, hsize]
    have e2 : (execOp (a.put o1.dst v).eval o2).run P w = .ok (.value (.tuple #[])) w' := by
      simp only [execOp, p2, resolve, List.map_toArray, List.map_cons, List.map_nil, ed, Sem.run_bind, Sem.run_pure, Result.andThen_ok, invoke, builtin, hc]
    rw [e2]
    refine hK2 _ _ (h' Z0 w0 _ _ ⟨μ, F, fun b h => ⟨(hFb b h).1, Nat.lt_of_lt_of_le (hFb b h).2 hsz⟩, hH', ?_, ?_, hb.trans hbel⟩)
    · refine put_rel ?_ _ (by simp only [Rel]; exact ⟨[], rfl, RelL.nil⟩)
      rw [← d1]
      exact put_rel (hF.keep hk (fun _ _ h => h)) _ (by simp [Rel])
    · rw [put_defers', put_defers']
      refine hdf.keep fun j y hj => ⟨?_, fun u hu => hu⟩
      rw [List.getElem?_set_ne (by rintro rfl; rw [hi] at hj; cases hj)]
      exact hj
  have hlz : (zerosA (z.cells.toList.map ofConst) info.size (n - l)).length = (n - l) * info.size := by simp [zerosA]
  have hmul : l * info.size + (n - l) * info.size = n * info.size := by rw [← Nat.add_mul]; congr 1; omega
  have hun : (underlying t).run P w = .ok (.slice el) w := run_underlying hu w
  rcases hown.2 with ⟨hv0, rfl⟩ | ⟨g, cap, cur, hv0, hB2, hg, hnc, hcm, hcs, htk⟩
  · have hl0 : l = 0 := by omega
    subst hl0
    have hb0 := run_sliceAt (P := P) hel none 0 0 (some (.int k ((0 : Nat) : Int))) none none 0 0 0 (fun w => by
      have hbb : (Instr.sliceBound (.int k ((0 : Nat) : Int)) 0 .sliceB).run P w = .ok 0 w := run_bound (P := P) k 0 0 .sliceB (Nat.le_refl _) w
      simp [Instr.sliceBounds] at hbb ⊢; simp [hbb]) w
    rw [hv0] at *
    refine main _ hb0 ⟨w, by simp [Builtin.clear_, run_underlying hu], ?_, Below.refl _ _, fun _ _ _ => rfl, Nat.le_refl _⟩
    have ecs : cs = [] := List.eq_nil_of_length_eq_zero (by rw [← hlen, hcl]; simp)
    have hset : hp.set i (.list el info.size 0 (setMany cs (0 * info.size) (zerosA (z.cells.toList.map ofConst) info.size (0 - 0)))) = hp := by
      rw [ecs]
      have : setMany ([] : List AV) (0 * info.size) (zerosA (z.cells.toList.map ofConst) info.size (0 - 0)) = [] := by simp [setMany, zerosA]
      rw [this, ← ecs]
      exact set_self hi
    rw [hset]
    exact hH
  · rw [hv0] at hxv
    have hb0 := run_sliceAt (P := P) hel (some ⟨g, 0, none⟩) n cap (some (.int k l)) none none l n cap (fun w => by simp [Instr.sliceBounds, run_bound (P := P) k l n _ hl]) w
    rw [← hv0] at hb0
    rcases Nat.lt_or_ge l n with hln | hln
    · have hne : ¬ cap = l := by omega
      rw [if_neg hne] at hb0
      have hadd : (some (⟨g, 0, none⟩ : Addr)).map (·.add (l * info.size)) = some ⟨g, l * info.size, none⟩ := by simp [add_lit']
      refine main _ hb0 ?_
      have hpos : 0 < (n - l) * info.size := Nat.mul_pos (by omega) hs0
      have hval : (Builtin.zeroCells z.cells (n - l)).toList = (List.range ((n - l) * info.size)).map fun j => z.cells[j % info.size]! := by simp [Builtin.zeroCells, hzs]
      have hzr : RelL w (Zone Z0 F w0.heap.size) μ (zerosA (z.cells.toList.map ofConst) info.size (n - l)) (Builtin.zeroCells z.cells (n - l)).toList := by
        rw [hval]
        exact zeros_rel z.cells info.size (n - l) hzs hs0 _ (fun j _ => rfl)
      obtain ⟨w', hst, hH', hbel, hk, hsz⟩ := store_obj (P := P) hH hZn (o := l * info.size) hi hxv (g := g) rfl hzr (ones_rel hH.one h1 hzr) (by simp only [AObj.cells]; rw [hlz, ← hlen, hcl]; omega) (by intro h; rw [h] at hlz; simp at hlz; omega) (by simp [h2])
      refine ⟨w', ?_, hH', hbel, hk, hsz⟩
      have hnl : ∃ q, n - l = q + 1 := ⟨n - l - 1, by omega⟩
      obtain ⟨q, hq⟩ := hnl
      rw [hadd]
      rw [hq] at hst ⊢
      simp [Builtin.clear_, run_underlying hu, zeroValue, typeInfo, hinf, hz, hst]
    · have e : n - l = 0 := by omega
      refine main _ hb0 ⟨w, ?_, ?_, Below.refl _ _, fun _ _ _ => rfl, Nat.le_refl _⟩
      · rw [e]
        by_cases ec : cap = l <;> simp [Builtin.clear_, run_underlying hu, ec]
      · have hset : hp.set i (.list el info.size n (setMany cs (l * info.size) (zerosA (z.cells.toList.map ofConst) info.size (n - l)))) = hp := by
          have : setMany cs (l * info.size) (zerosA (z.cells.toList.map ofConst) info.size (n - l)) = cs := by
            rw [e]
            simp [setMany, zerosA]
          rw [this]
          exact set_self hi
        rw [hset]
        exact hH

def clrAt (P : Program) (m : M) : Option (Nat × Nat × Nat × Nat × List AV × List AV × Int) :=
  match m.ks with
  | .ops _ (o1 :: o2 :: _) _ :: _ => match o1.op, o2.op with
    | .slice t x (some lo) none none, .call c => match c.callee, c.args.toList, c.argTypes.toList with
      | .builtin .clear, [.tmp d], [t'] =>
        if decide (t' = t) && o1.guard.isNone && o2.guard.isNone && decide (o1.dst = some d) && decide (d < m.st.fr.length) then
          match ev m.st.fr x, ev m.st.fr lo, rowB P t with
          | .ref i, .int _ l, some (el, s, zs, _) => match m.st.hp[i]? with
            | some (.list el' s' n cs) => if el' = el ∧ s' = s then some (i, el, s, n, cs, zs, l) else none
            | _ => none
          | _, _, _ => none
        else none
      | _, _, _ => none
    | _, _ => none
  | _ => none

def clrM (m : M) (hp : List AObj) : M :=
  match m.ks with
  | .ops all (o1 :: o2 :: l) _ :: ks => ⟨.ops all l false :: ks, ⟨putF (putF m.st.fr o1.dst .top) o2.dst (.tup []), hp⟩⟩
  | _ => m

theorem setMany_tail {α : Type} {E : α → List AV} (xs : List α) (d : α) {l : Nat} (hE : ∀ x, (E x).length = (E d).length) (h1 : l ≤ xs.length) :
    setMany (rows E xs) (l * (E d).length) (zerosA (E d) (E d).length (xs.length - l)) = rows E (xs.take l ++ List.replicate (xs.length - l) d) := by
  rw [zerosA_rows, rows_append, setMany, rows_take hE, rows_length hE, List.length_replicate]
  have e : l * (E d).length + (xs.length - l) * (E d).length = xs.length * (E d).length := by rw [← Nat.add_mul]; congr 1; omega
  rw [e, List.drop_of_length_le (by rw [rows_length hE]; exact Nat.le_refl _), List.append_nil]

theorem R.clr {α : Type} {m : M} (E : α → List AV) (d : α) (xs : List α) (i el l : Nat) (li : Int) (h : clrAt P m = some (i, el, (E d).length, xs.length, rows E xs, E d, li)) (hl : li = (l : Int)) (hE : ∀ x, (E x).length = (E d).length) (hE1 : ∀ x, (E x).all AV.one = true)
    (hE2 : ∀ x, leafyL (E x) = true) (h1 : l ≤ xs.length) (h' : Runs rd P (clrM m (m.st.hp.set i (.list el (E d).length (xs.take l ++ List.replicate (xs.length - l) d).length (rows E (xs.take l ++ List.replicate (xs.length - l) d))))) Q) : Runs rd P m Q := by
  subst hl
  obtain ⟨ks, ⟨fr, hp⟩⟩ := m
  unfold clrAt at h
  simp only at h
  split at h
  · rename_i all o1 o2 rest f ks'
    split at h
    · rename_i t x lo c hp1 hp2
      obtain ⟨callee, args, tys⟩ := c
      simp only at h
      split at h
      · rename_i d0 t' ha hb
        split at h
        · rename_i hc
          simp only [Bool.and_eq_true, decide_eq_true_eq, Option.isNone_iff_eq_none] at hc
          obtain ⟨⟨⟨⟨rfl, g1⟩, g2⟩, hd1⟩, hd⟩ := hc
          split at h
          · rename_i i0 k0 l0 el0 s0 zs0 b0 hx hlo hr
            split at h
            · rename_i el1 s1 n1 cs1 hi
              split at h
              · rename_i he
                obtain ⟨rfl, rfl⟩ := he
                simp only [Option.some.injEq, Prod.mk.injEq] at h
                obtain ⟨rfl, rfl, rfl, rfl, rfl, rfl, rfl⟩ := h
                have ea : args = #[.tmp d0] := Array.toList_inj.1 ha
                have et : tys = #[t'] := Array.toList_inj.1 hb
                subst ea
                subst et
                rw [runs_iff] at h' ⊢
                simp only [clrM, RunsK] at h' ⊢
                have hlen : (xs.take l ++ List.replicate (xs.length - l) d).length = xs.length := by simp; omega
                rw [hlen, ← setMany_tail xs d hE h1] at h'
                intro _
                refine OpsQ.clr g1 hp1 hd1 g2 hp2 hx hlo hr hi h1 hd ?_ ?_ ?_
                · rw [zerosA_rows]
                  exact fun c hc => List.all_eq_true.1 (rows_all hE1 _) c hc
                · rw [zerosA_rows]
                  exact leafyL_rows hE2 _
                · rw [← hd1]
                  exact h' headW_false
              · cases h
            · cases h
          · cases h
        · cases h
      · cases h
    · cases h
  · cases h
end
end Go.Abs
