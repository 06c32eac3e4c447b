/- The machine's rules: slices without spare room; ways that meet again. -/
import Derived.Test.YtfkdkhlimdkehaaGreatSymY
namespace Go.Abs
open Go.RowKit Go.ChangeShapes Go.WideShapes Go.Deep

section
variable {rd : Option Nat} {P : Program} {m : M} {Q : Exit → St → Prop} {α : Type}

/-- A slice cut so that it has no spare room. -/
def cpAt (P : Program) (m : M) : Option (Nat × Nat × List AV × Int × Int) :=
  match opM m with
  | some (.slice t x none (some hi) (some mx)) => match ev m.st.fr x, ev m.st.fr hi, ev m.st.fr mx, elemB P t with
    | .lst s n cs, .int _ h, .int _ h', some (_, s') => if s' = s then some (s, n, cs, h, h') else none
    | _, _, _, _ => none
  | _ => none

theorem R.clip (s n : Nat) (cs : List AV) (h : cpAt P m = some (s, n, cs, (n : Int), (n : Int))) (ht : quietOk m [] = true) (h' : Runs rd P (putM m none (.clp s n cs) m.st.hp) Q) : Runs rd P m Q := by
  unfold cpAt at h
  split at h
  · rename_i t x hi mx hop
    split at h
    · rename_i s0 n0 cs0 k h1 k' h2 el s' hx hhi hmx hel
      split at h
      · rename_i hs
        subst hs
        simp only [Option.some.injEq, Prod.mk.injEq] at h
        obtain ⟨rfl, rfl, rfl, rfl, rfl⟩ := h
        exact R.effM hop (.inl (.sliceHM _ _ el _ k k' hx hhi hmx hel)) ht (by rw [List.append_nil]; exact h')
      · cases h
    · cases h
  · cases h

def srcAt (hp : List AObj) (s : Nat) : AV → Option (Nat × List AV)
  | .lst s' k ds => if s' = s then some (k, ds) else none
  | .ref j => match hp[j]? with
    | some (.list _ s' k ds) => if s' = s then some (k, ds) else none
    | _ => none
  | _ => none

theorem srcAt_sound {hp : List AObj} {s k : Nat} {v : AV} {ds : List AV} (h : srcAt hp s v = some (k, ds)) : SrcR hp s v k ds := by
  unfold srcAt at h
  split at h
  · split at h
    · rename_i hs; cases h; subst hs; exact .lst
    · cases h
  · rename_i j
    split at h
    · rename_i e s' k' ds' hj
      split at h
      · rename_i hs; cases h; subst hs; exact .ref hj
      · cases h
    · cases h
  · cases h

def acAt (P : Program) (m : M) : Option (Nat × Nat × Nat × Nat × List AV × Nat × List AV) :=
  match opM m with
  | some (.call c) => match c.callee, c.args.toList, c.argTypes.toList with
    | .builtin .append, [x, y], [t, t'] =>
      if t = t' then
        match rowB P t with
        | some (el, s, _, b) => match srcAt m.st.hp s (ev m.st.fr y), ev m.st.fr x with
          | some (k, ds), .clp s' n cs => if s' = s then some (el, s, b, n, cs, k, ds) else none
          | _, _ => none
        | none => none
      else none
    | _, _, _ => none
  | _ => none

theorem R.appC (E : α → List AV) (xs ys : List α) (el s b : Nat) (h : acAt P m = some (el, s, b, xs.length, rows E xs, ys.length, rows E ys)) (hE : ∀ x, (E x).all AV.one = true) (h0 : 0 < b) (hb : (xs.length + ys.length) * b ≤ 140737488355328) (hy : 0 < ys.length) (ht : writeOk m = true)
    (h' : Runs rd P (putM m none (.ref m.st.hp.length) (m.st.hp ++ [.list el s (xs ++ ys).length (rows E (xs ++ ys))])) Q) : Runs rd P m Q := by
  unfold acAt at h
  split at h
  · rename_i c hop
    obtain ⟨callee, args, tys⟩ := c
    simp only at h
    split at h
    · rename_i x y t t' h2 h3
      obtain rfl : args = #[x, y] := Array.toList_inj.1 (by simpa using h2)
      obtain rfl : tys = #[t, t'] := Array.toList_inj.1 (by simpa using h3)
      split at h
      · rename_i htt
        subst htt
        split at h
        · rename_i el0 s0 zs b0 hrow
          split at h
          · rename_i k ds s' n cs hsrc hx
            split at h
            · rename_i hs
              subst hs
              simp only [Option.some.injEq, Prod.mk.injEq] at h
              obtain ⟨rfl, rfl, rfl, rfl, rfl, rfl, rfl⟩ := h
              rw [List.length_append, rows_append] at h'
              exact R.effW hop (.appendC _ _ _ xs.length ys.length zs (rows E xs) (rows E ys) hx (srcAt_sound hsrc) hrow (by simpa using rows_all hE ys) hb (app_bound hb h0) hy) ht h'
            · cases h
          · cases h
        · cases h
      · cases h
    · cases h
  · cases h

/-! ### Rows of slices, all nil at first -/
theorem Sub.rowW (i el s n : Nat) (cs cs' : List AV) (st : St) (hi : st.hp[i]? = some (.list el s n cs)) (hl : ∀ w Z xs, RelL w Z [] cs xs → RelL w Z [] cs' xs) : Sub st ⟨st.fr, st.hp.set i (.list el s n cs')⟩ := by
  rintro Z0 w0 a w ⟨μ, F, hFb, hH, hF, hd, hb⟩
  have hil := (List.getElem?_eq_some_iff.1 hi).1
  obtain ⟨u, hu⟩ : ∃ u, μ[i]? = some u := ⟨_, List.getElem?_eq_getElem (by rw [hH.len]; exact hil)⟩
  obtain ⟨xs, h1, h2⟩ := hH.obj i _ u hi hu
  refine ⟨μ, F, hFb, hH.update_same (w' := w) (zone_new (Z0 := Z0) hb.size hFb) hi hu rfl (fun _ _ _ => rfl) ⟨xs, h1, hl _ _ _ h2⟩, hF, hd.keep (fun j x hj => ⟨?_, fun _ h => h⟩), hb⟩
  rw [List.getElem?_set_ne (by rintro rfl; rw [hi] at hj; cases hj)]
  exact hj

theorem Rel.nilLst {w : World} {Z : Nat → Prop} {μ : List Value} {v : Value} (s : Nat) (h : Rel w Z μ .nil v) : Rel w Z μ (.lst s 0 []) v := by
  simp only [Rel] at h
  subst h
  exact ⟨none, 0, [], rfl, by simp, Nat.le_refl _, fun h => absurd rfl h, RelL.nil⟩

theorem RelL.nils {E : α → List AV} {d : α} {s : Nat} (hE : E d = [.lst s 0 []]) {w : World} {Z : Nat → Prop} : ∀ (n : Nat) (xs : List Value), RelL w Z [] (rows (fun _ : α => [AV.nil]) (List.replicate n d)) xs → RelL w Z [] (rows E (List.replicate n d)) xs := by
  intro n
  induction n with
  | zero => intro xs h; exact h
  | succ n ih =>
    intro xs h
    rw [List.replicate_succ] at h ⊢
    simp only [rows, hE, List.cons_append, List.nil_append] at h ⊢
    obtain ⟨x, ys, rfl, h1, h2⟩ := h
    exact .cons (Rel.nilLst s h1) (ih _ h2)

theorem R.mkL (E : α → List AV) (d : α) (el b n s : Nat) (ni : Int) (h : mkAt P m = some (el, 1, [.nil], b, ni, ni)) (ho : opsAt m = true) (hE : E d = [.lst s 0 []]) (hn : ni = (n : Int)) (h0 : 0 < b) (hb : n * b ≤ 140737488355328) (ht : quietOk m [.list el 1 0 []] = true)
    (h' : Runs rd P (putM m none (.ref m.st.hp.length) (m.st.hp ++ [.list el 1 (List.replicate n d).length (rows E (List.replicate n d))])) Q) : Runs rd P m Q := by
  refine R.mk (fun _ : α => [AV.nil]) d el b n ni h hn h0 hb ht ?_
  rw [List.length_replicate] at h' ⊢
  obtain ⟨ks, st⟩ := m
  unfold opsAt at ho
  simp only at ho
  split at ho
  · rename_i all o l g ks'
    simp only [putM] at h' ⊢
    refine R.sub _ rfl (Sub.rowW st.hp.length el 1 n _ (rows E (List.replicate n d)) _ (by simp) fun w Z xs h => RelL.nils hE n xs h) ?_
    simpa using h'
  · cases ho

/-! ### A part of a tuple that may come first -/
def exAt (m : M) (i : Nat) : Option AV :=
  match m.ks with
  | .any ops listed (_ + 1) :: _ => match ops[i]? with
    | some o => match o.op with
      | .extract x k => if o.guard.isNone && Region.noSelect ops && Region.free .any ops listed i && (Region.ready .any ops listed).contains i then (match ev m.st.fr x with | .tup cs => cs[k]? | _ => none) else none
      | _ => none
    | none => none
  | _ => none
def exM (i : Nat) (v : AV) (m : M) : M :=
  match m.ks with
  | .any ops listed n :: ks => match ops[i]? with
    | some o => ⟨.any ops (listed.setIfInBounds i true) (n - 1) :: ks, ⟨putF m.st.fr o.dst v, m.st.hp⟩⟩
    | none => m
  | _ => m

theorem R.anyX (i : Nat) (v : AV) (h : exAt m i = some v) (np : NoPanic Q) (h' : Runs none P (exM i v m) Q) : Runs none P m Q := by
  obtain ⟨ks, ⟨fr, hp⟩⟩ := m
  simp only [runs_iff] at h' ⊢
  unfold exAt at h
  simp only at h
  split at h
  · rename_i ops listed n ks'
    split at h
    · rename_i o ho
      split at h
      · rename_i x k hx
        split at h
        · rename_i hc
          simp only [Bool.and_eq_true] at hc
          obtain ⟨⟨⟨hg, hs⟩, hf⟩, hr⟩ := hc
          split at h
          · rename_i cs hcs
            simp only [exM, ho, RunsK] at h' ⊢
            intro Z0 w0 a w hS
            have hW : Region.wanted o (yielded ops a.tmps) = true := by
              unfold Region.wanted
              rw [Option.isNone_iff_eq_none.1 hg]
            have hrun : ∃ u, ∀ w, (execOp a.eval o).run P w = .ok (.value u) w := by
              obtain ⟨μ, F, _, _, hFr, _, _⟩ := hS
              have h1 := ev_rel hFr x
              rw [hcs] at h1
              simp only [Rel] at h1
              obtain ⟨xs, h2, hr2⟩ := h1
              obtain ⟨u, hu, _⟩ := hr2.get h
              refine ⟨u, fun w => ?_⟩
              unfold execOp
              rw [hx]
              simp [h2, Instr.extract, hu] <;> rfl
            obtain ⟨u, hrun⟩ := hrun
            have hw' : WantedA ops o fr := wantedE_true (by unfold wantedE; rw [Option.isNone_iff_eq_none.1 hg])
            have h1 := StepR.sound (rd := none) (K := fun a' w' => Sim Z0 w0 ⟨putF fr o.dst v, hp⟩ a' w') (Q := fun _ _ _ => True) (st' := ⟨putF fr o.dst v, hp⟩) (by simpa using StepR.eff (P := P) (st := ⟨fr, hp⟩) hw' (v := v) (news := []) (by rw [hx]; exact EffR.extract cs hcs h)) hS (fun _ _ h => h)
            rw [if_pos hW] at h1
            unfold Oper.wpIn at h1
            have h1 := h1.2
            rw [show (Fc none).round = none from rfl, Oper.semAt_none, hrun w] at h1
            simp only [Oper.uponIn] at h1
            exact wpAnyIn_take rfl ho hs hf hr (fun c a w ⟨st', hq, _⟩ => absurd (runsK_panic ks' st' hq) (np c st')) ⟨.inl ⟨hW, hrun⟩, fun w => by unfold Oper.about; rw [hx]⟩ (h' Z0 w0 _ w h1)
          · cases h
        · cases h
      · cases h
    · cases h
  · cases h

/-! ### Ways that meet again -/
def meetQ (S : St) : Exit → St → Prop := fun e st => e = .normal ∧ st = S
theorem np_meet (S : St) : NoPanic (meetQ S) := fun _ _ h => by simp [meetQ] at h

def mtAt (m : M) : Bool :=
  match m.ks with
  | .code _ :: _ => true
  | _ => false

theorem R.meet (S : St) (h : mtAt m = true) (h1 : Runs rd P ⟨m.ks.take 1, m.st⟩ (meetQ S)) (h2 : Runs rd P ⟨m.ks.tail, S⟩ Q) : Runs rd P m Q := by
  obtain ⟨ks, st⟩ := m
  unfold mtAt at h
  simp only [runs_iff] at h h1 h2 ⊢
  split at h
  · rename_i c ks'
    simp only [List.take_succ_cons, List.take_zero, List.tail_cons, RunsK] at h1 h2 ⊢
    refine h1.mono ?_
    rintro e st' ⟨rfl, rfl⟩
    exact h2
  · cases h

theorem R.met {S : St} (h : m.ks = []) (hs : m.st = S) : Runs rd P m (meetQ S) := by
  obtain ⟨ks, st⟩ := m
  simp only at h hs
  subst h hs
  rw [runs_iff]
  exact ⟨rfl, rfl⟩

end

/-! ### Rows of rows of pairs, handed to a law -/
section
variable {H : Type} {enc : TypeId × Value → H} {P : Program} {w : World} {base : Nat} {spare : Nat → Bool} {held : Bool}

theorem RelL_lists {Z : Nat → Prop} {μ : List Value} : ∀ (xs : List (List (Int × Int))) (vs : List Value), vs.length = xs.length → (∀ i, i < xs.length → Rel w Z μ (LN (xs.getD i [])) (vs.getD i default)) → RelL w Z μ (rows eLN xs) vs
  | [], [], _, _ => RelL.nil
  | [], _ :: _, h, _ => by simp at h
  | _ :: _, [], h, _ => by simp at h
  | x :: xs, v :: vs, h, h2 => RelL.cons (by simpa using h2 0 (by simp)) (RelL_lists xs vs (by simpa using h) fun i hi => by simpa using h2 (i + 1) (by simp; omega))

theorem trod_pairss {t e p : TypeId} {f0 f1 : Field} {fuel : Nat} {cs : List Value} {x : DataW H × List MemPlace} (ht : P.underlying t = some (.slice e)) (hc : P.cellsOf e = 1) (he : P.underlying e = some (.slice p)) (hp : P.underlying p = some (.struct #[f0, f1]))
    (ce : P.cellsOf p = 2) (o0 : f0.offset = 0) (o1 : f1.offset = 1) (c0 : P.cellsOf f0.type = 1) (c1 : P.cellsOf f1.type = 1) (u0 : P.underlying f0.type = some (.int .i64)) (u1 : P.underlying f1.type = some (.int .i64))
    (h : DataW.trod enc P w base spare held fuel t cs = some x) : ∃ v, cs = [v] ∧ ∃ xs : List (List (Int × Int)), xs.length ≤ maxLen ∧ (∀ j : Nat, j < xs.length → (xs.getD j []).length ≤ maxLen) ∧ Rel w (Z0 w) [] (LLN xs) v := by
  rcases open_slice1 ht hc h with ⟨rfl, _⟩ | ⟨a, len, cap, m, n, V, D, Pl, rfl, _, hl, hm, hmm, _, hx⟩
  · exact ⟨_, rfl, [], Nat.zero_le _, fun j hj => by simp at hj, none, 0, [], rfl, rfl, Nat.le_refl _, fun h => absurd rfl h, RelL.nil⟩
  · have hlm : len ≤ m := by rw [hmm]; split <;> omega
    obtain ⟨xs, h1, h2⟩ := choose_list (n := len) (p := fun i (y : List (Int × Int)) => y.length ≤ maxLen ∧ ∃ v, w.cell? (a.add i) = some v ∧ Rel w (Z0 w) [] (LN y) v) fun i hi => by
      obtain ⟨g1, g2⟩ := hx i (by omega)
      obtain ⟨v, hv, y, hy, hr⟩ := trod_pairs he hp ce o0 o1 c0 c1 u0 u1 g2
      simp at hv
      exact ⟨y, hy, v, by rw [g1, hv], hr⟩
    obtain ⟨vs, h3, h4⟩ := choose_list (n := len) (p := fun i v => w.cell? (a.add i) = some v ∧ Rel w (Z0 w) [] (LN (xs.getD i default)) v) fun i hi => (h2 i hi).2
    refine ⟨_, rfl, xs, by omega, fun j hj => (h2 j (by omega)).1, ⟨some a, cap, vs, by rw [h1], by rw [rows_length eLN_len, h1], by omega, fun hne => ⟨a, rfl, ?_, fun j u hj => ?_⟩, RelL_lists xs vs (by omega) fun i hi => (h4 i (by omega)).2⟩⟩
    · have : 0 < len := by
        rw [← h3]
        exact List.length_pos_iff.2 hne
      have := not_Z0 (h4 0 this).1
      simpa [Addr.add] using this
    · have hjl := (List.getElem?_eq_some_iff.1 hj).1
      rw [(h4 j (by omega)).1, List.getD_eq_getElem?_getD, hj]
      rfl

theorem open_pairss {r : Reach} {b0 : Nat} {t e p : TypeId} {f0 f1 : Field} {v : Value} {d : DataW H} {ps : List MemPlace} (ht : P.underlying t = some (.slice e)) (hc : P.cellsOf e = 1) (he : P.underlying e = some (.slice p)) (hp : P.underlying p = some (.struct #[f0, f1]))
    (ce : P.cellsOf p = 2) (o0 : f0.offset = 0) (o1 : f1.offset = 1) (c0 : P.cellsOf f0.type = 1) (c1 : P.cellsOf f1.type = 1) (u0 : P.underlying f0.type = some (.int .i64)) (u1 : P.underlying f1.type = some (.int .i64))
    (hval : Value.okWide P w r b0 t v) (hd : DataW.Trod enc P w base spare held t v d ps) : ∃ xs : List (List (Int × Int)), xs.length ≤ maxLen ∧ (∀ j : Nat, j < xs.length → (xs.getD j []).length ≤ maxLen) ∧ Rel w (Z0 w) [] (LLN xs) v := by
  obtain ⟨A, n, c, rfl⟩ := okWide_slice ht hval
  obtain ⟨fuel, hf⟩ := hd
  obtain ⟨v, h1, h2⟩ := trod_pairss ht hc he hp ce o0 o1 c0 c1 u0 u1 hf
  simp [Value.cells] at h1
  subst h1
  exact h2

end

end Go.Abs
