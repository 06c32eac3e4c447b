/- Texts of the proof: SymZ, Sym2, Z01, Z02. -/
import Derived.Test.YtogehjciaamcfaaGreatPartG

/-! The machine's rules: slices without spare room; ways that meet again. -/
namespace Go.Abs
open Go.RowKit Go.ChangeShapes Go.WideShapes Go.Deep

section
variable {rd : Option Nat} {P : Program} {m : M} {Q : Exit → St → Prop} {α : Type}

/-- A slice cut so that it has no spare room. -/
def cpAt (P : Program) (m : M) : Option (Nat × Nat × List AV × Int × Int) :=
  match opM m with
  | some (.slice t x none (some hi) (some mx)) => match ev m.st.fr x, ev m.st.fr hi, ev m.st.fr mx, elemB P t with
    | .lst s n cs, .int _ h, .int _ h', some (_, s') => if s' = s then some (s, n, cs, h, h') else none
    | _, _, _, _ => none
  | _ => none

theorem R.clip (s n : Nat) (cs : List AV) (h : cpAt P m = some (s, n, cs, (n : Int), (n : Int))) (ht : quietOk m [] = true) (h' : Runs rd P (putM m none (.clp s n cs) m.st.hp) Q) : Runs rd P m Q := by
  unfold cpAt at h
  split at h
  · rename_i t x hi mx hop
    split at h
    · rename_i s0 n0 cs0 k h1 k' h2 el s' hx hhi hmx hel
      split at h
      · rename_i hs
        subst hs
        simp only [Option.some.injEq, Prod.mk.injEq] at h
        obtain ⟨rfl, rfl, rfl, rfl, rfl⟩ := h
        exact R.effM hop (.inl (.sliceHM _ _ el _ k k' hx hhi hmx hel)) ht (by rw [List.append_nil]; exact h')
      · cases h
    · cases h
  · cases h

def srcAt (hp : List AObj) (s : Nat) : AV → Option (Nat × List AV)
  | .lst s' k ds => if s' = s then some (k, ds) else none
  | .ref j => match hp[j]? with
    | some (.list _ s' k ds) => if s' = s then some (k, ds) else none
    | _ => none
  | _ => none

theorem srcAt_sound {hp : List AObj} {s k : Nat} {v : AV} {ds : List AV} (h : srcAt hp s v = some (k, ds)) : SrcR hp s v k ds := by
  unfold srcAt at h
  split at h
  · split at h
    · rename_i hs; cases h; subst hs; exact .lst
    · cases h
  · rename_i j
    split at h
    · rename_i e s' k' ds' hj
      split at h
      · rename_i hs; cases h; subst hs; exact .ref hj
      · cases h
    · cases h
  · cases h

def acAt (P : Program) (m : M) : Option (Nat × Nat × Nat × Nat × List AV × Nat × List AV) :=
  match opM m with
  | some (.call c) => match c.callee, c.args.toList, c.argTypes.toList with
    | .builtin .append, [x, y], [t, t'] =>
      if t = t' then
        match rowB P t with
        | some (el, s, _, b) => match srcAt m.st.hp s (ev m.st.fr y), ev m.st.fr x with
          | some (k, ds), .clp s' n cs => if s' = s then some (el, s, b, n, cs, k, ds) else none
          | _, _ => none
        | none => none
      else none
    | _, _, _ => none
  | _ => none

theorem R.appC (E : α → List AV) (xs ys : List α) (el s b : Nat) (h : acAt P m = some (el, s, b, xs.length, rows E xs, ys.length, rows E ys)) (hE : ∀ x, (E x).all AV.one = true) (h0 : 0 < b) (hb : (xs.length + ys.length) * b ≤ 140737488355328) (hy : 0 < ys.length) (ht : writeOk m = true)
    (h' : Runs rd P (putM m none (.ref m.st.hp.length) (m.st.hp ++ [.list el s (xs ++ ys).length (rows E (xs ++ ys))])) Q) : Runs rd P m Q := by
  unfold acAt at h
  split at h
  · rename_i c hop
    obtain ⟨callee, args, tys⟩ := c
    simp only at h
    split at h
    · rename_i x y t t' h2 h3
      obtain rfl : args = #[x, y] := Array.toList_inj.1 (by simpa using h2)
      obtain rfl : tys = #[t, t'] := Array.toList_inj.1 (by simpa using h3)
      split at h
      · rename_i htt
        subst htt
        split at h
        · rename_i el0 s0 zs b0 hrow
          split at h
          · rename_i k ds s' n cs hsrc hx
            split at h
            · rename_i hs
              subst hs
              simp only [Option.some.injEq, Prod.mk.injEq] at h
              obtain ⟨rfl, rfl, rfl, rfl, rfl, rfl, rfl⟩ := h
              rw [List.length_append, rows_append] at h'
              exact R.effW hop (.appendC _ _ _ xs.length ys.length zs (rows E xs) (rows E ys) hx (srcAt_sound hsrc) hrow (by simpa using rows_all hE ys) hb (app_bound hb h0) hy) ht h'
            · cases h
          · cases h
        · cases h
      · cases h
    · cases h
  · cases h

/-! ### Rows of slices, all nil at first -/
theorem Rel.nilLst {w : World} {Z : Nat → Prop} {μ : List Value} {v : Value} (s : Nat) (h : Rel w Z μ .nil v) : Rel w Z μ (.lst s 0 []) v := by
  simp only [Rel] at h
  subst h
  exact ⟨none, 0, [], rfl, by simp, Nat.le_refl _, fun h => absurd rfl h, RelL.nil⟩

/-! ### A part of a tuple that may come first -/
def exM (i : Nat) (v : AV) (m : M) : M :=
  match m.ks with
  | .any ops listed n :: ks => match ops[i]? with
    | some o => ⟨.any ops (listed.setIfInBounds i true) (n - 1) :: ks, ⟨putF m.st.fr o.dst v, m.st.hp⟩⟩
    | none => m
  | _ => m

/-! ### Ways that meet again -/
def meetQ (S : St) : Exit → St → Prop := fun e st => e = .normal ∧ st = S
def mtAt (m : M) : Bool :=
  match m.ks with
  | .code _ :: _ => true
  | _ => false

theorem R.meet (S : St) (h : mtAt m = true) (h1 : Runs rd P ⟨m.ks.take 1, m.st⟩ (meetQ S)) (h2 : Runs rd P ⟨m.ks.tail, S⟩ Q) : Runs rd P m Q := by
  obtain ⟨ks, st⟩ := m
  unfold mtAt at h
  simp only [runs_iff] at h h1 h2 ⊢
  split at h
  · rename_i c ks'
    simp only [List.take_succ_cons, List.take_zero, List.tail_cons, RunsK] at h1 h2 ⊢
    refine h1.mono ?_
    rintro e st' ⟨rfl, rfl⟩
    exact h2
  · cases h

end

/-! ### Rows of rows of pairs, handed to a law -/
section
variable {H : Type} {enc : TypeId × Value → H} {P : Program} {w : World} {base : Nat} {spare : Nat → Bool} {held : Bool}

end

end Go.Abs


/-! Calls that change the caller's objects: under a further frame; with objects left out. -/
namespace Go.Abs
open Go.RowKit

theorem idx_range {n i : Nat} (h : i < n) : (List.range n).idxOf i = i := by
  have hm : i ∈ List.range n := List.mem_range.2 h
  have hlt := List.idxOf_lt_length_iff.2 hm
  have := List.getElem_idxOf hlt
  rw [List.getElem_range] at this
  exact this

mutual
theorem Rel.mix {w w' : World} {Z Z' : Nat → Prop} {μ μ1 μ2 : List Value} {n : Nat} (hA : ∀ (i : Nat) u, i < n → μ1[i]? = some u → μ2[i]? = some u) (hB : ∀ (i : Nat) u, n ≤ i → μ[i]? = some u → μ2[i]? = some u) :
    ∀ {c : AV} {v : Value}, Rel w Z μ c v → Rel w' Z' μ1 (c.ren (List.range n)) v → Rel w' Z' μ2 c v
  | .int _ _, _, _, h => by simpa [Rel, AV.ren] using h
  | .bool _, _, _, h => by simpa [Rel, AV.ren] using h
  | .str _, _, _, h => by simpa [Rel, AV.ren] using h
  | .nil, _, _, h => by simpa [Rel, AV.ren] using h
  | .top, _, _, _ => by simp [Rel]
  | .own _ _ _ _, _, h, _ => by simp [Rel] at h
  | .lst _ _ _, _, _, h => by simpa [Rel, AV.ren] using h
  | .clp _ _ _, _, _, h => by simpa [Rel, AV.ren] using h
  | .rptr _, _, _, h => by simpa [Rel, AV.ren] using h
  | .ref i, v, h1, h2 => by
    simp only [Rel] at h1 ⊢
    rcases Nat.lt_or_ge i n with hi | hi
    · have hc : (List.range n).contains i = true := by simpa using hi
      simp only [AV.ren, hc, if_true, idx_range hi, Rel] at h2
      exact hA i v hi h2
    · exact hB i v hi h1
  | .ptr i o, v, h1, h2 => by
    simp only [Rel] at h1 ⊢
    rcases Nat.lt_or_ge i n with hi | hi
    · have hc : (List.range n).contains i = true := by simpa using hi
      simp only [AV.ren, hc, if_true, idx_range hi, Rel] at h2
      obtain ⟨u, g, e1, e2, e3⟩ := h2
      exact ⟨u, g, hA i u hi e1, e2, e3⟩
    · obtain ⟨u, g, e1, e2, e3⟩ := h1
      exact ⟨u, g, hB i u hi e1, e2, e3⟩
  | .agg cs, v, h1, h2 => by
    simp only [Rel, AV.ren] at h1 h2 ⊢
    obtain ⟨xs, e1, r1⟩ := h1
    obtain ⟨ys, e2, r2⟩ := h2
    rw [e1] at e2
    simp only [Value.agg.injEq] at e2
    have e3 : xs = ys := by simpa using e2
    subst e3
    exact ⟨xs, e1, RelL.mix hA hB r1 r2⟩
  | .tup cs, v, h1, h2 => by
    simp only [Rel, AV.ren] at h1 h2 ⊢
    obtain ⟨xs, e1, r1⟩ := h1
    obtain ⟨ys, e2, r2⟩ := h2
    rw [e1] at e2
    simp only [Value.tuple.injEq] at e2
    have e3 : xs = ys := by simpa using e2
    subst e3
    exact ⟨xs, e1, RelL.mix hA hB r1 r2⟩
  | .fn f cs, v, h1, h2 => by
    simp only [Rel, AV.ren] at h1 h2 ⊢
    obtain ⟨xs, e1, r1⟩ := h1
    obtain ⟨ys, e2, r2⟩ := h2
    rw [e1] at e2
    simp only [Value.func.injEq, true_and] at e2
    have e3 : xs = ys := by simpa using e2
    subst e3
    exact ⟨xs, e1, RelL.mix hA hB r1 r2⟩
theorem RelL.mix {w w' : World} {Z Z' : Nat → Prop} {μ μ1 μ2 : List Value} {n : Nat} (hA : ∀ (i : Nat) u, i < n → μ1[i]? = some u → μ2[i]? = some u) (hB : ∀ (i : Nat) u, n ≤ i → μ[i]? = some u → μ2[i]? = some u) :
    ∀ {cs : List AV} {vs : List Value}, RelL w Z μ cs vs → RelL w' Z' μ1 (renL (List.range n) cs) vs → RelL w' Z' μ2 cs vs
  | [], _, _, h => by simpa [RelL, renL] using h
  | c :: cs, _, h1, h2 => by
    simp only [RelL, renL] at h1 h2 ⊢
    obtain ⟨x, xs, e1, a1, b1⟩ := h1
    obtain ⟨y, ys, e2, a2, b2⟩ := h2
    rw [e1] at e2
    simp only [List.cons.injEq] at e2
    obtain ⟨rfl, rfl⟩ := e2
    exact ⟨x, xs, e1, Rel.mix hA hB a1 a2, RelL.mix hA hB b1 b2⟩
end

/-- One object more, of which nothing is known. -/
theorem HRel.addDead {w : World} {Z : Nat → Prop} {B : Nat} {μ : List Value} {hp : List AObj} (h : HRel w Z B μ hp) (u : Value) (hu : u.oneCell' = true) : HRel w Z B (μ ++ [u]) (hp ++ [.dead]) := by
  have split : ∀ (i : Nat) oi ui, (hp ++ [.dead])[i]? = some oi → (μ ++ [u])[i]? = some ui → (hp[i]? = some oi ∧ μ[i]? = some ui) ∨ oi = .dead := by
    intro i oi ui h1 h2
    rcases Nat.lt_or_ge i hp.length with hi | hi
    · rw [List.getElem?_append_left hi] at h1
      rw [List.getElem?_append_left (by rw [h.len]; exact hi)] at h2
      exact .inl ⟨h1, h2⟩
    · rw [List.getElem?_append_right hi] at h1
      rcases Nat.eq_zero_or_pos (i - hp.length) with h0 | h0
      · rw [h0] at h1; simp at h1; exact .inr h1.symm
      · rw [List.getElem?_eq_none (by simp; omega)] at h1; cases h1
  refine ⟨by simp [h.len], fun i oi ui g h1 ha h2 hg => ?_, fun i x hx => ?_, fun i oi ui h1 h2 => ?_, fun i j oi oj ui uj g hne h1 h2 a1 a2 m1 m2 b1 b2 => ?_⟩
  · rcases split i oi ui h1 h2 with ⟨e1, e2⟩ | rfl
    · exact h.zone i oi ui g e1 ha e2 hg
    · cases ha
  · rcases Nat.lt_or_ge i μ.length with hi | hi
    · rw [List.getElem?_append_left hi] at hx
      exact h.one i x hx
    · rw [List.getElem?_append_right hi] at hx
      rcases Nat.eq_zero_or_pos (i - μ.length) with h0 | h0
      · rw [h0] at hx; simp at hx; rw [← hx]; exact hu
      · rw [List.getElem?_eq_none (by simp; omega)] at hx; cases hx
  · rcases split i oi ui h1 h2 with ⟨e1, e2⟩ | rfl
    · exact (h.obj i oi ui e1 e2).keep (fun _ _ _ => rfl) (fun i u hu => append_old i u hu) (fun _ _ => rfl)
    · trivial
  · rcases split i oi ui h1 m1 with ⟨e1, e2⟩ | rfl
    · rcases split j oj uj h2 m2 with ⟨e3, e4⟩ | rfl
      · exact h.sep i j oi oj ui uj g hne e1 e3 a1 a2 e2 e4 b1 b2
      · cases a2
    · cases a1

/-- A caller's frame where nothing is known. -/
theorem HRel.frameAt {w : World} {Z : Nat → Prop} {B n : Nat} {μ : List Value} {hp : List AObj} {us : List Value} {fr : List AV} (h : HRel w Z B μ hp) (hd : hp[n]? = some .dead) (hr : RelL w Z μ fr us) : HRel w Z B μ (hp.set n (.frame us fr)) := by
  have hn := (List.getElem?_eq_some_iff.1 hd).1
  have get : ∀ (i : Nat) oi, (hp.set n (.frame us fr))[i]? = some oi → oi = .frame us fr ∨ hp[i]? = some oi := by
    intro i oi h1
    by_cases e : n = i
    · subst e
      rw [List.getElem?_set_self hn] at h1
      simp at h1; exact .inl h1.symm
    · rw [List.getElem?_set_ne e] at h1; exact .inr h1
  refine ⟨by rw [List.length_set]; exact h.len, fun i oi ui g h1 ha h2 hg => ?_, h.one, fun i oi ui h1 h2 => ?_, fun i j oi oj ui uj g hne h1 h2 a1 a2 m1 m2 b1 b2 => ?_⟩
  · rcases get i oi h1 with rfl | h1
    · cases ha
    · exact h.zone i oi ui g h1 ha h2 hg
  · rcases get i oi h1 with rfl | h1
    · exact hr
    · exact h.obj i oi ui h1 h2
  · rcases get i oi h1 with rfl | h1
    · cases a1
    · rcases get j oj h2 with rfl | h2
      · cases a2
      · exact h.sep i j oi oj ui uj g hne h1 h2 a1 a2 m1 m2 b1 b2

def renH (js : List Nat) (hp : List AObj) : List AObj := js.map fun i => (hp.getD i .dead).ren js
/-- The caller's frame laid between the n objects of the call and those that the call has made. -/
def insJ (n m : Nat) : List Nat := List.range n ++ (m :: (List.range (m - n)).map (· + n))
def insF (n : Nat) (us : List Value) (fr : List AV) (hp : List AObj) : List AObj := (renH (insJ n hp.length) (hp ++ [.dead])).set n (.frame us fr)

theorem insJ_nodup {n m : Nat} (h : n ≤ m) : (insJ n m).Nodup := by
  unfold insJ
  rw [List.nodup_append]
  refine ⟨List.nodup_range, ?_, ?_⟩
  · rw [List.nodup_cons]
    refine ⟨?_, ?_⟩
    · intro hm
      rw [List.mem_map] at hm
      obtain ⟨k, hk, e⟩ := hm
      rw [List.mem_range] at hk
      omega
    · rw [List.nodup_iff_pairwise_ne, List.pairwise_map]
      exact List.nodup_range.imp fun h e => h (by omega)
  · intro a ha b hb e
    rw [List.mem_range] at ha
    rw [List.mem_cons, List.mem_map] at hb
    rcases hb with hb | ⟨k, _, hk⟩ <;> omega

theorem CallS.frame {P : Program} {f : FuncId} {args : List AV} {hp : List AObj} {res : AV} {hp' : List AObj} (us2 : List Value) (fr2 : List AV) (hc : CallS P f args hp res hp') (h1 : renH (List.range hp.length) hp = hp)
    (h2 : renL (List.range hp.length) args = args) (h3 : hp.length ≤ hp'.length) : CallS P f args (hp ++ [.frame us2 fr2]) (res.ren (insJ hp.length hp'.length)) (insF hp.length us2 fr2 hp') := by
  obtain ⟨hen, hc⟩ := hc
  refine ⟨hen, ?_⟩
  intro Z0 F w0 w μ vs us fr hFb hH hvs hus hbel
  have hml : μ.length = hp.length + 1 := by rw [hH.len]; simp
  have hH0 := hH.ren (List.range hp.length) List.nodup_range
  have e0 : ((List.range hp.length).map fun i => ((hp ++ [AObj.frame us2 fr2]).getD i .dead).ren (List.range hp.length)) = hp := by
    refine Eq.trans (List.map_congr_left fun i hi => ?_) h1
    have hi := List.mem_range.1 hi
    simp only [List.getD_eq_getElem?_getD]
    rw [List.getElem?_append_left hi]
  rw [e0] at hH0
  have hvs0 := hvs.ren (List.range hp.length)
  rw [h2] at hvs0
  have hn2 : (hp ++ [AObj.frame us2 fr2])[hp.length]? = some (.frame us2 fr2) := by simp
  obtain ⟨u, hu⟩ : ∃ u, μ[hp.length]? = some u := ⟨_, List.getElem?_eq_getElem (by omega)⟩
  have hf2 : RelL w (Zone Z0 F w0.heap.size) μ fr2 us2 := hH.obj _ _ u hn2 hu
  have hus0 := (hus.append hf2).ren (List.range hp.length)
  refine (hc Z0 F w0 w _ vs (us ++ us2) _ hFb hH0 hvs0 hus0 hbel).mono ?_
  rintro e w' ⟨v, μ1, F1, rfl, hF1, hH1, hres, hfr1, hb1⟩
  have hm1 := hH1.len
  have hHd := hH1.addDead u (hH.one _ u hu)
  have hH2 := hHd.ren (insJ hp.length hp'.length) (insJ_nodup h3)
  obtain ⟨μ2, hμ2⟩ : ∃ μ2, μ2 = ((insJ hp.length hp'.length).map fun i => (μ1 ++ [u]).getD i (.bool false)) := ⟨_, rfl⟩
  have hA : ∀ (i : Nat) x, i < hp.length → μ1[i]? = some x → μ2[i]? = some x := by
    intro i x hi hx
    have hj : (insJ hp.length hp'.length)[i]? = some i := by
      unfold insJ
      rw [List.getElem?_append_left (by simpa using hi)]
      simp [hi]
    rw [hμ2, List.getElem?_map, hj]
    simp only [Option.map_some, List.getD_eq_getElem?_getD]
    rw [List.getElem?_append_left (by omega), hx]
    rfl
  have hB : ∀ (i : Nat) x, hp.length ≤ i → μ[i]? = some x → μ2[i]? = some x := by
    intro i x hi hx
    have hin : i = hp.length := by have := (List.getElem?_eq_some_iff.1 hx).1; omega
    subst hin
    rw [hu] at hx
    have hj : (insJ hp.length hp'.length)[hp.length]? = some hp'.length := by
      unfold insJ
      rw [List.getElem?_append_right (by simp)]
      simp
    rw [hμ2, List.getElem?_map, hj]
    simp only [Option.map_some, List.getD_eq_getElem?_getD]
    rw [List.getElem?_append_right (by omega), hm1]
    simpa using hx
  rw [← hμ2] at hH2
  have hall := RelL.mix hA hB (hus.append hf2) hfr1
  have hul := hus.length
  have hfr : RelL w' (Zone Z0 F1 w0.heap.size) μ2 fr us := by
    have := hall.take fr.length
    rwa [List.take_left, ← hul, List.take_left] at this
  have hfr2 : RelL w' (Zone Z0 F1 w0.heap.size) μ2 fr2 us2 := by
    have := hall.drop fr.length
    rwa [List.drop_left, ← hul, List.drop_left] at this
  refine ⟨v, μ2, F1, rfl, hF1, ?_, ?_, hfr, hb1⟩
  · refine hH2.frameAt ?_ hfr2
    have hj : (insJ hp.length hp'.length)[hp.length]? = some hp'.length := by
      unfold insJ
      rw [List.getElem?_append_right (by simp)]
      simp
    rw [List.getElem?_map, hj]
    simp [AObj.ren]
  · rw [hμ2]
    exact Rel.ren _ (Rel.keep (w := w') (fun _ _ _ => rfl) (fun i u hu => append_old i u hu) hres)

/-- Objects left out that the call has made, or put in another order. -/
theorem CallS.drop {P : Program} {f : FuncId} {args : List AV} {hp : List AObj} {res : AV} {hp' : List AObj} (js : List Nat) (hc : CallS P f args hp res hp') (h1 : js.take hp.length = List.range hp.length) (h2 : js.Nodup) :
    CallS P f args hp (res.ren js) (renH js hp') := by
  obtain ⟨hen, hc⟩ := hc
  refine ⟨hen, ?_⟩
  intro Z0 F w0 w μ vs us fr hFb hH hvs hus hbel
  refine (hc Z0 F w0 w μ vs us fr hFb hH hvs hus hbel).mono ?_
  rintro e w' ⟨v, μ1, F1, rfl, hF1, hH1, hres, hfr1, hb1⟩
  have hm1 := hH1.len
  have hjs : ∀ i, i < hp.length → js[i]? = some i := by
    intro i hi
    have := congrArg (fun l : List Nat => l[i]?) h1
    simp only [List.getElem?_take, if_pos hi] at this
    rw [this]
    simp [hi]
  refine ⟨v, _, F1, rfl, hF1, hH1.ren js h2, Rel.ren js hres, ?_, hb1⟩
  refine RelL.mix (n := hp.length) ?_ ?_ hus (hfr1.ren (List.range hp.length))
  · intro i x hi hx
    rw [List.getElem?_map, hjs i hi]
    rw [List.getElem?_map] at hx
    simpa [hi] using hx
  · intro i x hi hx
    have h4 := (List.getElem?_eq_some_iff.1 hx).1
    have h5 := hH.len
    omega

theorem CallS.cast {P : Program} {f : FuncId} {args : List AV} {hp hp1 hp2 : List AObj} {res res2 : AV} (h : CallS P f args hp res hp1) (e1 : res = res2) (e2 : hp1 = hp2) : CallS P f args hp res2 hp2 := by subst e1 e2; exact h

end Go.Abs


/-! Forcing on posets; the codes of searches. -/
namespace Go.Proofs.YtogehjciaamcfaaGreat
open Go.RowKit Go.Abs

def pxB (xs : List Int) (m : Int) : Int := boxB xs m xs.length
def pxA (xs : List Int) (m : Int) : Int := boxA xs m xs.length
theorem pxAB {n : Int} {xs : List Int} (h : okFr n xs = true) : pxA xs = pxB xs := by
  obtain ⟨h0, h8, hl, hr⟩ := okFr_rel h
  funext m
  refine boxAB xs m (fun x hx => ?_) _ (Nat.le_refl _)
  obtain ⟨j, hj, rfl⟩ := List.getElem_of_mem hx
  have hg : xs[j] = xs.getD j 0 := by rw [List.getD_eq_getElem?_getD, List.getElem?_eq_getElem hj]; rfl
  rw [hg]
  exact wrap_inM (by omega) (hr.2 j (by omega))
/-- The words of plain formulas. -/
def pT (n : Int) (bx : Int → Int) (k p q : Int) : Int := if k = 2 then band p q else if k = 3 then bor p q else bx (bor (bnot ((shl64 1 n) - 1) p) q)
def pU (_ _ : Int) : Int := 0
/-- The value of a formula. -/
def fcd (n : Int) (xs vs : List Int) (a : List (Int × Int)) : Int := gv (pT n (pxB xs)) pU vs a
theorem plain_get {a : List (Int × Int)} (h : a.any modN = false) {j : Nat} (hj : j < a.length) : ¬ ((a.getD j (0, 0)).1 = 5 ∨ (a.getD j (0, 0)).1 = 6) := by
  have h1 := List.any_eq_false.1 h (a.getD j (0, 0)) (by rw [List.getD_eq_getElem?_getD, List.getElem?_eq_getElem hj]; exact List.getElem_mem _)
  exact (mod_no _).1 (by simpa using h1)
theorem plain_sub {a b : List (Int × Int)} (h : a.any modN = false) (hb : ∀ x ∈ b, x ∈ a) : b.any modN = false := List.any_eq_false.2 fun x hx => List.any_eq_false.1 h x (hb x hx)
theorem plain_lef {a : List (Int × Int)} (h : a.any modN = false) : (lef a).any modN = false := plain_sub h fun x hx => List.mem_of_mem_take (List.mem_of_mem_drop hx)
theorem plain_rig {a : List (Int × Int)} (h : a.any modN = false) : (rig a).any modN = false := plain_sub h fun x hx => List.mem_of_mem_drop hx
def anyM (a : List (Int × Int)) : Bool := a.any modN
def allPl (l : List (List (Int × Int))) : Bool := !l.any anyM
def pwT (U : Int) : Nat → Int
  | 0 => 1
  | k + 1 => if pwT U k ≤ 4096 then pwT U k * U else pwT U k
theorem pwT_step {U : Int} {k : Nat} (h : pwT U k ≤ 4096) : pwT U k * U = pwT U (k + 1) := by rw [pwT, if_pos h]
theorem pwT_stay {U : Int} {k : Nat} (h : ¬ pwT U k ≤ 4096) : ∀ m : Nat, k ≤ m → pwT U m = pwT U k := by
  intro m hm
  induction m with
  | zero => rw [show k = 0 by omega]
  | succ m ih =>
    by_cases e : k = m + 1
    · rw [e]
    · rw [pwT, ih (by omega), if_neg h]
theorem pwT_pow {U : Nat} {m : Nat} (h : pwT (U : Int) m ≤ 4096) : ∀ k : Nat, k ≤ m → pwT (U : Int) k = ((U ^ k : Nat) : Int)
  | 0, _ => rfl
  | k + 1, hk => by
    have h1 : pwT (U : Int) k ≤ 4096 := by
      rcases Int.lt_or_le 4096 (pwT (U : Int) k) with h2 | h2
      · have := pwT_stay (U := (U : Int)) (k := k) (by omega) m (by omega)
        omega
      · exact h2
    rw [pwT, if_pos h1, pwT_pow h k (by omega), Nat.pow_succ, Int.natCast_mul]
theorem pwT_rng {U : Int} (h0 : 0 ≤ U) (h1 : U ≤ 1000) : ∀ k : Nat, 0 ≤ pwT U k ∧ pwT U k ≤ 4096000
  | 0 => by simp [pwT]
  | k + 1 => by
    have ih := pwT_rng h0 h1 k
    rw [pwT]
    split
    · rename_i h
      refine ⟨Int.mul_nonneg ih.1 h0, ?_⟩
      have := Int.mul_le_mul h h1 h0 (by omega)
      omega
    · exact ih
theorem mul_rng {p U : Int} (h0 : 0 ≤ U) (h1 : U ≤ 1000) (h2 : 0 ≤ p) (h3 : p ≤ 4096) : 0 ≤ p * U ∧ p * U ≤ 4096000 := by
  refine ⟨Int.mul_nonneg h2 h0, ?_⟩
  have := Int.mul_le_mul h3 h1 h0 (by omega)
  omega
theorem upL_len {n : Int} {xs : List Int} (h : okPo n xs = true) : (upL n xs).length ≤ 256 := by
  have := upR_len n xs
  rwa [upR, if_pos h] at this
/-- The code of a search. -/
def pcode (n : Int) (xs : List Int) (l : List (List (Int × Int))) : Int := if okPo n xs = true ∧ allF l = true then (if allPl l = true then (if pwT ((upL n xs).length : Int) (mem (vmT l l.length)).length ≤ 4096 then 0 else 3) else 5) else 1
section
variable {n : Int} {xs : List Int} {l : List (List (Int × Int))}
theorem pc_1 (h : okPo n xs = false) : 1 = pcode n xs l := by rw [pcode, if_neg (by simp [h])]
theorem pc_2 (h : allF l = false) : 1 = pcode n xs l := by rw [pcode, if_neg (by simp [h])]
theorem pc_5 (h : okPo n xs = true) (h2 : allF l = true) (h3 : allPl l = false) : 5 = pcode n xs l := by rw [pcode, if_pos ⟨h, h2⟩, if_neg (by rw [h3]; decide)]
theorem pc_3 (h : okPo n xs = true) (h2 : allF l = true) (h3 : allPl l = true) (h4 : ¬ pwT ((upL n xs).length : Int) (mem (vmT l l.length)).length ≤ 4096) : 3 = pcode n xs l := by rw [pcode, if_pos ⟨h, h2⟩, if_pos h3, if_neg h4]
theorem pc_0 (h : okPo n xs = true) (h2 : allF l = true) (h3 : allPl l = true) (h4 : pwT ((upL n xs).length : Int) (mem (vmT l l.length)).length ≤ 4096) : 0 = pcode n xs l := by rw [pcode, if_pos ⟨h, h2⟩, if_pos h3, if_pos h4]
theorem pc_ok (h : pcode n xs l = 0) : okPo n xs = true ∧ allF l = true ∧ allPl l = true ∧ pwT ((upL n xs).length : Int) (mem (vmT l l.length)).length ≤ 4096 := by
  unfold pcode at h
  split at h
  · rename_i h1
    split at h
    · rename_i h2
      split at h
      · rename_i h3; exact ⟨h1.1, h1.2, h2, h3⟩
      · cases h
    · cases h
  · cases h
theorem allF_no {i : Nat} (hi : i < l.length) (h : isF (l.getD i []) = false) : allF l = false := by
  rw [allF_not, show l.any notF = true from ?_]
  · rfl
  · rw [List.any_eq_true]
    refine ⟨l.getD i [], ?_, notF_yes h⟩
    rw [List.getD_eq_getElem?_getD, List.getElem?_eq_getElem hi, Option.getD_some]
    exact List.getElem_mem hi
theorem allF_all (h : ∀ j : Nat, j < l.length → isF (l.getD j []) = true) : allF l = true := by
  rw [allF_not, show l.any notF = false from ?_]
  · rfl
  · rw [List.any_eq_false]
    intro x hx
    obtain ⟨j, hj, rfl⟩ := List.getElem_of_mem hx
    have := h j hj
    rw [List.getD_eq_getElem?_getD, List.getElem?_eq_getElem hj, Option.getD_some] at this
    rw [notF_no this]; decide
/-- The first i formulas are plain. -/
def plTo (l : List (List (Int × Int))) (i : Nat) : Bool := !(l.take i).any anyM
theorem plTo_step {b : Bool} {i : Nat} (h : i < l.length) (hb : b = true) (hp : plTo l i = b) : (!(l.getD i []).any modN) = plTo l (i + 1) := by
  subst hb
  have h1 : (l.take i).any anyM = false := by simpa [plTo] using hp
  rw [plTo, List.take_succ_eq_append_getElem h, List.any_append, h1, Bool.false_or, List.getD_eq_getElem?_getD, List.getElem?_eq_getElem h]
  simp [anyM]
theorem plTo_off {b : Bool} {i : Nat} (h : i < l.length) (hb : b = false) (hp : plTo l i = b) : false = plTo l (i + 1) := by
  subst hb
  have h1 : (l.take i).any anyM = true := by simpa [plTo] using hp
  rw [plTo, List.take_succ_eq_append_getElem h, List.any_append, h1]
  rfl
theorem plTo_all {i : Nat} (h : l.length ≤ i) : plTo l i = allPl l := by rw [plTo, List.take_of_length_le h]; rfl
end

theorem imply2_c (n : Int) (xs : List Int) (a : Int) (b : Int) (h0 : 0 ≤ n) (h1 : n ≤ 62) (hl : xs.length ≤ 60) : CallA Tryz.prog 60 [.agg [AI n, LI xs], AI a, AI b] (AI (pxB xs (bor (bnot ((shl64 1 n) - 1) a) b))) := by
  refine CallA.of Tryz.func60 rfl (by kernel_rfl) ?_
  refine R.go 10 (R.call true (pAll_c n xs h0 h1) (by kernel_rfl) rfl (by kernel_rfl) ?_)
  refine R.go 4 (R.call true (box_c xs (bor (bnot ((shl64 1 n) - 1) a) b) hl) (by kernel_rfl) rfl (by kernel_rfl) ?_)
  exact R.go 2 (R.retE (AI (boxB xs (bor (bnot ((shl64 1 n) - 1) a) b) xs.length)) (by kernel_rfl) (by kernel_rfl) (by first | (rfl) | (exfalso; omega)))

theorem arrow2_c (n : Int) (xs : List Int) (a : Int) (b : Int) (h0 : 0 ≤ n) (h1 : n ≤ 62) (hl : xs.length ≤ 60) : CallA Tryz.prog 91 [.agg [AI n, LI xs], AI a, AI b] (AI (pxA xs (bor (bnot ((shl64 1 n) - 1) a) b))) := by
  refine CallA.of Tryz.func91 rfl (by kernel_rfl) ?_
  refine R.go 11 (R.call true (l01Full_c n h0 h1) (by kernel_rfl) rfl (by kernel_rfl) ?_)
  refine R.go 4 (R.call true (l01Box_c xs (bor (bnot ((shl64 1 n) - 1) a) b) hl) (by kernel_rfl) rfl (by kernel_rfl) ?_)
  exact R.go 2 (R.retE (AI (boxA xs (bor (bnot ((shl64 1 n) - 1) a) b) xs.length)) (by kernel_rfl) (by kernel_rfl) (by first | (rfl) | (exfalso; omega)))

theorem forced2_c (n : Int) (xs : List Int) (vs : List Int) (a : List (Int × Int)) (hok : OKM vs.length a) (hp : a.any modN = false) (h0 : 0 ≤ n) (h1 : n ≤ 8) (hx : xs.length ≤ 60) (hl : a.length ≤ 1000000000) : CallA Tryz.prog 28 [.agg [AI n, LI xs], LI vs, LN a] (AI (fcd n xs vs a)) := by
  have hlen := okm_pos hok
  refine CallA.of Tryz.func28 rfl (by kernel_rfl) ?_
  refine R.go 19 (R.arE ((a.length : Int) - 1) ((a.length - 1 : Nat) : Int) (by kernel_rfl) (by omega) (by omega) (by omega) (by kernel_rfl) ?_)
  refine R.go 3 (R.nilB 1 0 2 1 (by kernel_rfl) ?_)
  refine R.loop ((fun | (i, S) => (⟨(frm 65 [(1, LI vs), (2, LN a), (3, .ptr 0 0), (7, .ptr 1 0), (8, .fn 59 [.ptr 1 0]), (9, AI i)]), [.box 26 [AI n, LI xs], .box 24 [.ref 2], rowA eI 2 1 S]⟩ : St) : Int × (List Int) → St)) (fun | (i, S) => (-1 ≤ i) ∧ (i < a.length) ∧ (S.length ≤ a.length - i) ∧ (S = (stkG (pT n (pxB xs)) pU vs (a.drop (i + 1).toNat)).reverse)) (fun | (i, S) => (i + 1).toNat) (((a.length - 1 : Nat) : Int), []) [1, 2, 3, 7, 8, 9] none (by kernel_rfl) (by kernel_rfl) (by kernel_rfl) ⟨(by omega), (by omega), (by simp <;> omega), (by rw [show (((a.length - 1 : Nat) : Int) + 1).toNat = a.length by omega, List.drop_length]; rfl)⟩ ?_
  rintro ⟨i, S⟩ ⟨h4_1, h4_2, h4_3, h4_4⟩ R1 N2
  have hk := fun h : 0 ≤ i => okm_get hok i.toNat (by omega)
  have hkp := fun h : 0 ≤ i => plain_get hp (j := i.toNat) (by omega)
  have hS2 := fun h : 0 ≤ i => stkg_room hok ‹S = _› h (by omega)
  have hP2 := fun h : ((a.getD i.toNat (0, 0)).1 = 2 ∨ (a.getD i.toNat (0, 0)).1 = 3 ∨ (a.getD i.toNat (0, 0)).1 = 4) => (partsN_two _).2 h
  have hS1 := fun h : i = -1 => congrArg List.length (stkg_fin hok ‹S = _› h)
  simp only [List.length_cons, List.length_nil] at hS1
  have hT : (S.take (S.length - 1)).length = S.length - 1 := by simp
  refine R.go 6 (R.cond (i ≥ 0) (by kernel_rfl) (fun c5 => ?_) (fun c5 => ?_))
  · refine R.go 12 (R.idx eN a (0, 0) ((i).toNat) i (by kernel_rfl) (by omega) eN_len (by omega) (by kernel_rfl) ?_)
    refine R.go 9 (R.cond (((a.getD ((i).toNat) (0, 0)).1) = 0) (by kernel_rfl) (fun c6 => ?_) (fun c6 => ?_))
    · refine R.go 4 (R.idx eN a (0, 0) ((i).toNat) i (by kernel_rfl) (by omega) eN_len (by omega) (by kernel_rfl) ?_)
      refine R.go 2 (R.idx eI vs 0 (((a.getD ((i).toNat) (0, 0)).2).toNat) ((a.getD ((i).toNat) (0, 0)).2) (by kernel_rfl) (by omega) eI_len (by omega) (by kernel_rfl) ?_)
      refine R.go 8 (R.app eI S [(vs.getD (((a.getD ((i).toNat) (0, 0)).2).toNat) 0)] 2 2 1 8 (by kernel_rfl) eI_one (by decide) (by first | omega | (simp <;> omega)) (by kernel_rfl) ?_)
      refine R.go 5 (R.ar (i - 1) (by kernel_rfl) (by omega) (by omega) (by kernel_rfl) ?_)
      exact R.go 2 (R.stop R1 (by kernel_rfl) (N2 (i - 1, S ++ [(vs.getD (((a.getD ((i).toNat) (0, 0)).2).toNat) 0)]) [1, 2, 3, 7, 8, 9] (some [0, 1, 2]) _ (by kernel_rfl) (by kernel_rfl) ⟨(by omega), (by omega), (by simp <;> omega), (by first | exact stkg_push ‹S = _› (by omega) (by omega) (by omega) | exact stkg_bot ‹S = _› (by omega) (by omega) (by omega) | exact stkg_two hok ‹S = _› (by omega) (by omega) ‹(a.getD i.toNat (0, 0)).1 = _› (by omega) rfl rfl rfl rfl)⟩ (by show (((i - 1) + 1).toNat) < ((i + 1).toNat); omega)))
    · refine R.go 5 (R.cond (((a.getD ((i).toNat) (0, 0)).1) = 2) (by kernel_rfl) (fun c7 => ?_) (fun c7 => ?_))
      · refine R.go 2 (R.enter (avs := [.ptr 1 0]) Tryz.func59 rfl (by kernel_rfl) (by kernel_rfl) (by kernel_rfl) ?_)
        intro us8
        refine R.go 9 (R.arE ((S.length : Int) - 1) ((S.length - 1 : Nat) : Int) (by kernel_rfl) (by omega) (by omega) (by omega) (by kernel_rfl) ?_)
        refine R.idxO 2 1 S.length (S.length - 1) ((S.length - 1 : Nat) : Int) (by kernel_rfl) (by omega) (by omega) (by kernel_rfl) ?_
        refine R.ldI S (S.length - 1) (by kernel_rfl) (by omega) (by kernel_rfl) ?_
        refine R.go 7 (R.arE ((S.length : Int) - 1) ((S.length - 1 : Nat) : Int) (by kernel_rfl) (by omega) (by omega) (by omega) (by kernel_rfl) ?_)
        refine R.cut eI S 2 2 (S.length - 1) ((S.length - 1 : Nat) : Int) (by kernel_rfl) (by omega) eI_len (by omega) (by kernel_rfl) ?_
        refine R.go 7 (R.back (AI (S.getD (S.length - 1) 0)) (frm 65 [(1, LI vs), (2, LN a), (3, .ptr 0 0), (7, .ptr 1 0), (8, .fn 59 [.ptr 1 0]), (9, AI i), (10, AI 0), (16, AI i), (17, .bool (decide (i ≥ 0))), (20, LN a), (21, AI i), (22, .rptr [AI ((a.getD ((i).toNat) (0, 0)).1), AI ((a.getD ((i).toNat) (0, 0)).2)]), (23, .rptr [AI ((a.getD ((i).toNat) (0, 0)).1), AI ((a.getD ((i).toNat) (0, 0)).2)]), (24, AI ((a.getD ((i).toNat) (0, 0)).1)), (25, .bool (decide (((a.getD ((i).toNat) (0, 0)).1) = 0))), (26, .bool (decide (((a.getD ((i).toNat) (0, 0)).1) = 0))), (35, .bool (decide (((a.getD ((i).toNat) (0, 0)).1) = 2))), (36, .bool (decide (((a.getD ((i).toNat) (0, 0)).1) = 2))), (37, .fn 59 [.ptr 1 0])]) (by kernel_rfl) (by kernel_rfl) (by kernel_rfl) ?_)
        refine R.go 1 (R.enter (avs := [.ptr 1 0]) Tryz.func59 rfl (by kernel_rfl) (by kernel_rfl) (by kernel_rfl) ?_)
        intro us9
        refine R.go 9 (R.arE (((S.take (S.length - 1)).length : Int) - 1) ((((S.take (S.length - 1)).length) - 1 : Nat) : Int) (by kernel_rfl) (by omega) (by omega) (by omega) (by kernel_rfl) ?_)
        refine R.idxO 2 1 (S.take (S.length - 1)).length (((S.take (S.length - 1)).length) - 1) ((((S.take (S.length - 1)).length) - 1 : Nat) : Int) (by kernel_rfl) (by omega) (by first | omega | (simp <;> omega)) (by kernel_rfl) ?_
        refine R.ldI (S.take (S.length - 1)) (((S.take (S.length - 1)).length) - 1) (by kernel_rfl) (by first | omega | (simp <;> omega)) (by kernel_rfl) ?_
        refine R.go 7 (R.arE (((S.take (S.length - 1)).length : Int) - 1) ((((S.take (S.length - 1)).length) - 1 : Nat) : Int) (by kernel_rfl) (by omega) (by omega) (by omega) (by kernel_rfl) ?_)
        refine R.cut eI (S.take (S.length - 1)) 2 2 (((S.take (S.length - 1)).length) - 1) ((((S.take (S.length - 1)).length) - 1 : Nat) : Int) (by kernel_rfl) (by omega) eI_len (by first | omega | (simp <;> omega)) (by kernel_rfl) ?_
        refine R.go 7 (R.back (AI ((S.take (S.length - 1)).getD (((S.take (S.length - 1)).length) - 1) 0)) (frm 65 [(1, LI vs), (2, LN a), (3, .ptr 0 0), (7, .ptr 1 0), (8, .fn 59 [.ptr 1 0]), (9, AI i), (10, AI 0), (16, AI i), (17, .bool (decide (i ≥ 0))), (20, LN a), (21, AI i), (22, .rptr [AI ((a.getD ((i).toNat) (0, 0)).1), AI ((a.getD ((i).toNat) (0, 0)).2)]), (23, .rptr [AI ((a.getD ((i).toNat) (0, 0)).1), AI ((a.getD ((i).toNat) (0, 0)).2)]), (24, AI ((a.getD ((i).toNat) (0, 0)).1)), (25, .bool (decide (((a.getD ((i).toNat) (0, 0)).1) = 0))), (26, .bool (decide (((a.getD ((i).toNat) (0, 0)).1) = 0))), (35, .bool (decide (((a.getD ((i).toNat) (0, 0)).1) = 2))), (36, .bool (decide (((a.getD ((i).toNat) (0, 0)).1) = 2))), (37, .fn 59 [.ptr 1 0]), (38, AI (S.getD (S.length - 1) 0)), (39, .fn 59 [.ptr 1 0])]) (by kernel_rfl) (by kernel_rfl) (by kernel_rfl) ?_)
        refine R.go 8 (R.app eI ((S.take (S.length - 1)).take (((S.take (S.length - 1)).length) - 1)) [band (S.getD (S.length - 1) 0) ((S.take (S.length - 1)).getD (((S.take (S.length - 1)).length) - 1) 0)] 2 2 1 8 (by kernel_rfl) eI_one (by decide) (by first | omega | (simp <;> omega)) (by kernel_rfl) ?_)
        refine R.go 5 (R.ar (i - 1) (by kernel_rfl) (by omega) (by omega) (by kernel_rfl) ?_)
        exact R.go 2 (R.stop R1 (by kernel_rfl) (N2 (i - 1, ((S.take (S.length - 1)).take (((S.take (S.length - 1)).length) - 1)) ++ [band (S.getD (S.length - 1) 0) ((S.take (S.length - 1)).getD (((S.take (S.length - 1)).length) - 1) 0)]) [1, 2, 3, 7, 8, 9] (some [0, 1, 2]) _ (by kernel_rfl) (by kernel_rfl) ⟨(by omega), (by omega), (by simp <;> omega), (by first | exact stkg_push ‹S = _› (by omega) (by omega) (by omega) | exact stkg_bot ‹S = _› (by omega) (by omega) (by omega) | exact stkg_two hok ‹S = _› (by omega) (by omega) ‹(a.getD i.toNat (0, 0)).1 = _› (by omega) rfl rfl rfl rfl)⟩ (by show (((i - 1) + 1).toNat) < ((i + 1).toNat); omega)))
      · refine R.go 5 (R.cond (((a.getD ((i).toNat) (0, 0)).1) = 3) (by kernel_rfl) (fun c10 => ?_) (fun c10 => ?_))
        · refine R.go 2 (R.enter (avs := [.ptr 1 0]) Tryz.func59 rfl (by kernel_rfl) (by kernel_rfl) (by kernel_rfl) ?_)
          intro us11
          refine R.go 9 (R.arE ((S.length : Int) - 1) ((S.length - 1 : Nat) : Int) (by kernel_rfl) (by omega) (by omega) (by omega) (by kernel_rfl) ?_)
          refine R.idxO 2 1 S.length (S.length - 1) ((S.length - 1 : Nat) : Int) (by kernel_rfl) (by omega) (by omega) (by kernel_rfl) ?_
          refine R.ldI S (S.length - 1) (by kernel_rfl) (by omega) (by kernel_rfl) ?_
          refine R.go 7 (R.arE ((S.length : Int) - 1) ((S.length - 1 : Nat) : Int) (by kernel_rfl) (by omega) (by omega) (by omega) (by kernel_rfl) ?_)
          refine R.cut eI S 2 2 (S.length - 1) ((S.length - 1 : Nat) : Int) (by kernel_rfl) (by omega) eI_len (by omega) (by kernel_rfl) ?_
          refine R.go 7 (R.back (AI (S.getD (S.length - 1) 0)) (frm 65 [(1, LI vs), (2, LN a), (3, .ptr 0 0), (7, .ptr 1 0), (8, .fn 59 [.ptr 1 0]), (9, AI i), (10, AI 0), (16, AI i), (17, .bool (decide (i ≥ 0))), (20, LN a), (21, AI i), (22, .rptr [AI ((a.getD ((i).toNat) (0, 0)).1), AI ((a.getD ((i).toNat) (0, 0)).2)]), (23, .rptr [AI ((a.getD ((i).toNat) (0, 0)).1), AI ((a.getD ((i).toNat) (0, 0)).2)]), (24, AI ((a.getD ((i).toNat) (0, 0)).1)), (25, .bool (decide (((a.getD ((i).toNat) (0, 0)).1) = 0))), (26, .bool (decide (((a.getD ((i).toNat) (0, 0)).1) = 0))), (35, .bool (decide (((a.getD ((i).toNat) (0, 0)).1) = 2))), (36, .bool (decide (((a.getD ((i).toNat) (0, 0)).1) = 2))), (42, .bool (decide (((a.getD ((i).toNat) (0, 0)).1) = 3))), (43, .bool (decide (((a.getD ((i).toNat) (0, 0)).1) = 3))), (44, .fn 59 [.ptr 1 0])]) (by kernel_rfl) (by kernel_rfl) (by kernel_rfl) ?_)
          refine R.go 1 (R.enter (avs := [.ptr 1 0]) Tryz.func59 rfl (by kernel_rfl) (by kernel_rfl) (by kernel_rfl) ?_)
          intro us12
          refine R.go 9 (R.arE (((S.take (S.length - 1)).length : Int) - 1) ((((S.take (S.length - 1)).length) - 1 : Nat) : Int) (by kernel_rfl) (by omega) (by omega) (by omega) (by kernel_rfl) ?_)
          refine R.idxO 2 1 (S.take (S.length - 1)).length (((S.take (S.length - 1)).length) - 1) ((((S.take (S.length - 1)).length) - 1 : Nat) : Int) (by kernel_rfl) (by omega) (by first | omega | (simp <;> omega)) (by kernel_rfl) ?_
          refine R.ldI (S.take (S.length - 1)) (((S.take (S.length - 1)).length) - 1) (by kernel_rfl) (by first | omega | (simp <;> omega)) (by kernel_rfl) ?_
          refine R.go 7 (R.arE (((S.take (S.length - 1)).length : Int) - 1) ((((S.take (S.length - 1)).length) - 1 : Nat) : Int) (by kernel_rfl) (by omega) (by omega) (by omega) (by kernel_rfl) ?_)
          refine R.cut eI (S.take (S.length - 1)) 2 2 (((S.take (S.length - 1)).length) - 1) ((((S.take (S.length - 1)).length) - 1 : Nat) : Int) (by kernel_rfl) (by omega) eI_len (by first | omega | (simp <;> omega)) (by kernel_rfl) ?_
          refine R.go 7 (R.back (AI ((S.take (S.length - 1)).getD (((S.take (S.length - 1)).length) - 1) 0)) (frm 65 [(1, LI vs), (2, LN a), (3, .ptr 0 0), (7, .ptr 1 0), (8, .fn 59 [.ptr 1 0]), (9, AI i), (10, AI 0), (16, AI i), (17, .bool (decide (i ≥ 0))), (20, LN a), (21, AI i), (22, .rptr [AI ((a.getD ((i).toNat) (0, 0)).1), AI ((a.getD ((i).toNat) (0, 0)).2)]), (23, .rptr [AI ((a.getD ((i).toNat) (0, 0)).1), AI ((a.getD ((i).toNat) (0, 0)).2)]), (24, AI ((a.getD ((i).toNat) (0, 0)).1)), (25, .bool (decide (((a.getD ((i).toNat) (0, 0)).1) = 0))), (26, .bool (decide (((a.getD ((i).toNat) (0, 0)).1) = 0))), (35, .bool (decide (((a.getD ((i).toNat) (0, 0)).1) = 2))), (36, .bool (decide (((a.getD ((i).toNat) (0, 0)).1) = 2))), (42, .bool (decide (((a.getD ((i).toNat) (0, 0)).1) = 3))), (43, .bool (decide (((a.getD ((i).toNat) (0, 0)).1) = 3))), (44, .fn 59 [.ptr 1 0]), (45, AI (S.getD (S.length - 1) 0)), (46, .fn 59 [.ptr 1 0])]) (by kernel_rfl) (by kernel_rfl) (by kernel_rfl) ?_)
          refine R.go 8 (R.app eI ((S.take (S.length - 1)).take (((S.take (S.length - 1)).length) - 1)) [bor (S.getD (S.length - 1) 0) ((S.take (S.length - 1)).getD (((S.take (S.length - 1)).length) - 1) 0)] 2 2 1 8 (by kernel_rfl) eI_one (by decide) (by first | omega | (simp <;> omega)) (by kernel_rfl) ?_)
          refine R.go 5 (R.ar (i - 1) (by kernel_rfl) (by omega) (by omega) (by kernel_rfl) ?_)
          exact R.go 2 (R.stop R1 (by kernel_rfl) (N2 (i - 1, ((S.take (S.length - 1)).take (((S.take (S.length - 1)).length) - 1)) ++ [bor (S.getD (S.length - 1) 0) ((S.take (S.length - 1)).getD (((S.take (S.length - 1)).length) - 1) 0)]) [1, 2, 3, 7, 8, 9] (some [0, 1, 2]) _ (by kernel_rfl) (by kernel_rfl) ⟨(by omega), (by omega), (by simp <;> omega), (by first | exact stkg_push ‹S = _› (by omega) (by omega) (by omega) | exact stkg_bot ‹S = _› (by omega) (by omega) (by omega) | exact stkg_two hok ‹S = _› (by omega) (by omega) ‹(a.getD i.toNat (0, 0)).1 = _› (by omega) rfl rfl rfl rfl)⟩ (by show (((i - 1) + 1).toNat) < ((i + 1).toNat); omega)))
        · refine R.go 5 (R.cond (((a.getD ((i).toNat) (0, 0)).1) = 4) (by kernel_rfl) (fun c13 => ?_) (fun c13 => ?_))
          · refine R.go 3 (R.enter (avs := [.ptr 1 0]) Tryz.func59 rfl (by kernel_rfl) (by kernel_rfl) (by kernel_rfl) ?_)
            intro us14
            refine R.go 9 (R.arE ((S.length : Int) - 1) ((S.length - 1 : Nat) : Int) (by kernel_rfl) (by omega) (by omega) (by omega) (by kernel_rfl) ?_)
            refine R.idxO 2 1 S.length (S.length - 1) ((S.length - 1 : Nat) : Int) (by kernel_rfl) (by omega) (by omega) (by kernel_rfl) ?_
            refine R.ldI S (S.length - 1) (by kernel_rfl) (by omega) (by kernel_rfl) ?_
            refine R.go 7 (R.arE ((S.length : Int) - 1) ((S.length - 1 : Nat) : Int) (by kernel_rfl) (by omega) (by omega) (by omega) (by kernel_rfl) ?_)
            refine R.cut eI S 2 2 (S.length - 1) ((S.length - 1 : Nat) : Int) (by kernel_rfl) (by omega) eI_len (by omega) (by kernel_rfl) ?_
            refine R.go 7 (R.back (AI (S.getD (S.length - 1) 0)) (frm 65 [(1, LI vs), (2, LN a), (3, .ptr 0 0), (7, .ptr 1 0), (8, .fn 59 [.ptr 1 0]), (9, AI i), (10, AI 0), (16, AI i), (17, .bool (decide (i ≥ 0))), (20, LN a), (21, AI i), (22, .rptr [AI ((a.getD ((i).toNat) (0, 0)).1), AI ((a.getD ((i).toNat) (0, 0)).2)]), (23, .rptr [AI ((a.getD ((i).toNat) (0, 0)).1), AI ((a.getD ((i).toNat) (0, 0)).2)]), (24, AI ((a.getD ((i).toNat) (0, 0)).1)), (25, .bool (decide (((a.getD ((i).toNat) (0, 0)).1) = 0))), (26, .bool (decide (((a.getD ((i).toNat) (0, 0)).1) = 0))), (35, .bool (decide (((a.getD ((i).toNat) (0, 0)).1) = 2))), (36, .bool (decide (((a.getD ((i).toNat) (0, 0)).1) = 2))), (42, .bool (decide (((a.getD ((i).toNat) (0, 0)).1) = 3))), (43, .bool (decide (((a.getD ((i).toNat) (0, 0)).1) = 3))), (49, .bool (decide (((a.getD ((i).toNat) (0, 0)).1) = 4))), (50, .bool (decide (((a.getD ((i).toNat) (0, 0)).1) = 4))), (51, .fn 59 [.ptr 1 0])]) (by kernel_rfl) (by kernel_rfl) (by kernel_rfl) ?_)
            refine R.go 2 (R.any (by decide +kernel) (by kernel_rfl) ?_)
            refine R.anyF 1 (by kernel_rfl) (np_ret _ _ _) ?_
            refine R.anyF 2 (by kernel_rfl) (np_ret _ _ _) ?_
            refine R.any2 0 3 (by kernel_rfl) (by kernel_rfl) ?_ ?_
            · refine R.go 2 (R.any1 3 (by kernel_rfl) (by kernel_rfl) ?_)
              refine R.enter (avs := [.ptr 1 0]) Tryz.func59 rfl (by kernel_rfl) (by kernel_rfl) (by kernel_rfl) ?_
              intro us15
              refine R.go 9 (R.arE (((S.take (S.length - 1)).length : Int) - 1) ((((S.take (S.length - 1)).length) - 1 : Nat) : Int) (by kernel_rfl) (by omega) (by omega) (by omega) (by kernel_rfl) ?_)
              refine R.idxO 2 1 (S.take (S.length - 1)).length (((S.take (S.length - 1)).length) - 1) ((((S.take (S.length - 1)).length) - 1 : Nat) : Int) (by kernel_rfl) (by omega) (by first | omega | (simp <;> omega)) (by kernel_rfl) ?_
              refine R.ldI (S.take (S.length - 1)) (((S.take (S.length - 1)).length) - 1) (by kernel_rfl) (by first | omega | (simp <;> omega)) (by kernel_rfl) ?_
              refine R.go 7 (R.arE (((S.take (S.length - 1)).length : Int) - 1) ((((S.take (S.length - 1)).length) - 1 : Nat) : Int) (by kernel_rfl) (by omega) (by omega) (by omega) (by kernel_rfl) ?_)
              refine R.cut eI (S.take (S.length - 1)) 2 2 (((S.take (S.length - 1)).length) - 1) ((((S.take (S.length - 1)).length) - 1 : Nat) : Int) (by kernel_rfl) (by omega) eI_len (by first | omega | (simp <;> omega)) (by kernel_rfl) ?_
              refine R.go 7 (R.back (AI ((S.take (S.length - 1)).getD (((S.take (S.length - 1)).length) - 1) 0)) (frm 65 [(1, LI vs), (2, LN a), (3, .ptr 0 0), (7, .ptr 1 0), (8, .fn 59 [.ptr 1 0]), (9, AI i), (10, AI 0), (11, AI (S.getD (S.length - 1) 0)), (16, AI i), (17, .bool (decide (i ≥ 0))), (20, LN a), (21, AI i), (22, .rptr [AI ((a.getD ((i).toNat) (0, 0)).1), AI ((a.getD ((i).toNat) (0, 0)).2)]), (23, .rptr [AI ((a.getD ((i).toNat) (0, 0)).1), AI ((a.getD ((i).toNat) (0, 0)).2)]), (24, AI ((a.getD ((i).toNat) (0, 0)).1)), (25, .bool (decide (((a.getD ((i).toNat) (0, 0)).1) = 0))), (26, .bool (decide (((a.getD ((i).toNat) (0, 0)).1) = 0))), (35, .bool (decide (((a.getD ((i).toNat) (0, 0)).1) = 2))), (36, .bool (decide (((a.getD ((i).toNat) (0, 0)).1) = 2))), (42, .bool (decide (((a.getD ((i).toNat) (0, 0)).1) = 3))), (43, .bool (decide (((a.getD ((i).toNat) (0, 0)).1) = 3))), (49, .bool (decide (((a.getD ((i).toNat) (0, 0)).1) = 4))), (50, .bool (decide (((a.getD ((i).toNat) (0, 0)).1) = 4))), (51, .fn 59 [.ptr 1 0]), (52, AI (S.getD (S.length - 1) 0)), (53, .agg [AI n, LI xs]), (54, AI (S.getD (S.length - 1) 0)), (55, .fn 59 [.ptr 1 0])]) (by kernel_rfl) (by kernel_rfl) (by kernel_rfl) ?_)
              refine R.go 1 (R.any1 4 (by kernel_rfl) (by kernel_rfl) ?_)
              refine R.call true (imply2_c n xs (S.getD (S.length - 1) 0) ((S.take (S.length - 1)).getD (((S.take (S.length - 1)).length) - 1) 0) h0 (by omega) hx) (by kernel_rfl) rfl (by kernel_rfl) ?_
              refine R.go 1 (R.any1 5 (by kernel_rfl) (by kernel_rfl) ?_)
              refine R.go 2 (R.any0 (by kernel_rfl) ?_)
              refine R.go 5 (R.app eI ((S.take (S.length - 1)).take (((S.take (S.length - 1)).length) - 1)) [pxB xs (bor (bnot ((shl64 1 n) - 1) (S.getD (S.length - 1) 0)) ((S.take (S.length - 1)).getD (((S.take (S.length - 1)).length) - 1) 0))] 2 2 1 8 (by kernel_rfl) eI_one (by decide) (by first | omega | (simp <;> omega)) (by kernel_rfl) ?_)
              refine R.go 5 (R.ar (i - 1) (by kernel_rfl) (by omega) (by omega) (by kernel_rfl) ?_)
              exact R.go 2 (R.stop R1 (by kernel_rfl) (N2 (i - 1, ((S.take (S.length - 1)).take (((S.take (S.length - 1)).length) - 1)) ++ [pxB xs (bor (bnot ((shl64 1 n) - 1) (S.getD (S.length - 1) 0)) ((S.take (S.length - 1)).getD (((S.take (S.length - 1)).length) - 1) 0))]) [1, 2, 3, 7, 8, 9] (some [0, 1, 2]) _ (by kernel_rfl) (by kernel_rfl) ⟨(by omega), (by omega), (by simp <;> omega), (by first | exact stkg_push ‹S = _› (by omega) (by omega) (by omega) | exact stkg_bot ‹S = _› (by omega) (by omega) (by omega) | exact stkg_two hok ‹S = _› (by omega) (by omega) ‹(a.getD i.toNat (0, 0)).1 = _› (by omega) rfl rfl rfl rfl)⟩ (by show (((i - 1) + 1).toNat) < ((i + 1).toNat); omega)))
            · refine R.enter (avs := [.ptr 1 0]) Tryz.func59 rfl (by kernel_rfl) (by kernel_rfl) (by kernel_rfl) ?_
              intro us16
              refine R.go 9 (R.arE (((S.take (S.length - 1)).length : Int) - 1) ((((S.take (S.length - 1)).length) - 1 : Nat) : Int) (by kernel_rfl) (by omega) (by omega) (by omega) (by kernel_rfl) ?_)
              refine R.idxO 2 1 (S.take (S.length - 1)).length (((S.take (S.length - 1)).length) - 1) ((((S.take (S.length - 1)).length) - 1 : Nat) : Int) (by kernel_rfl) (by omega) (by first | omega | (simp <;> omega)) (by kernel_rfl) ?_
              refine R.ldI (S.take (S.length - 1)) (((S.take (S.length - 1)).length) - 1) (by kernel_rfl) (by first | omega | (simp <;> omega)) (by kernel_rfl) ?_
              refine R.go 7 (R.arE (((S.take (S.length - 1)).length : Int) - 1) ((((S.take (S.length - 1)).length) - 1 : Nat) : Int) (by kernel_rfl) (by omega) (by omega) (by omega) (by kernel_rfl) ?_)
              refine R.cut eI (S.take (S.length - 1)) 2 2 (((S.take (S.length - 1)).length) - 1) ((((S.take (S.length - 1)).length) - 1 : Nat) : Int) (by kernel_rfl) (by omega) eI_len (by first | omega | (simp <;> omega)) (by kernel_rfl) ?_
              refine R.go 7 (R.back (AI ((S.take (S.length - 1)).getD (((S.take (S.length - 1)).length) - 1) 0)) (frm 65 [(1, LI vs), (2, LN a), (3, .ptr 0 0), (7, .ptr 1 0), (8, .fn 59 [.ptr 1 0]), (9, AI i), (10, AI 0), (11, AI (S.getD (S.length - 1) 0)), (16, AI i), (17, .bool (decide (i ≥ 0))), (20, LN a), (21, AI i), (22, .rptr [AI ((a.getD ((i).toNat) (0, 0)).1), AI ((a.getD ((i).toNat) (0, 0)).2)]), (23, .rptr [AI ((a.getD ((i).toNat) (0, 0)).1), AI ((a.getD ((i).toNat) (0, 0)).2)]), (24, AI ((a.getD ((i).toNat) (0, 0)).1)), (25, .bool (decide (((a.getD ((i).toNat) (0, 0)).1) = 0))), (26, .bool (decide (((a.getD ((i).toNat) (0, 0)).1) = 0))), (35, .bool (decide (((a.getD ((i).toNat) (0, 0)).1) = 2))), (36, .bool (decide (((a.getD ((i).toNat) (0, 0)).1) = 2))), (42, .bool (decide (((a.getD ((i).toNat) (0, 0)).1) = 3))), (43, .bool (decide (((a.getD ((i).toNat) (0, 0)).1) = 3))), (49, .bool (decide (((a.getD ((i).toNat) (0, 0)).1) = 4))), (50, .bool (decide (((a.getD ((i).toNat) (0, 0)).1) = 4))), (51, .fn 59 [.ptr 1 0]), (52, AI (S.getD (S.length - 1) 0)), (54, AI (S.getD (S.length - 1) 0)), (55, .fn 59 [.ptr 1 0])]) (by kernel_rfl) (by kernel_rfl) (by kernel_rfl) ?_)
              refine R.go 1 (R.any1 0 (by kernel_rfl) (by kernel_rfl) ?_)
              refine R.go 2 (R.any1 4 (by kernel_rfl) (by kernel_rfl) ?_)
              refine R.call true (imply2_c n xs (S.getD (S.length - 1) 0) ((S.take (S.length - 1)).getD (((S.take (S.length - 1)).length) - 1) 0) h0 (by omega) hx) (by kernel_rfl) rfl (by kernel_rfl) ?_
              refine R.go 1 (R.any1 5 (by kernel_rfl) (by kernel_rfl) ?_)
              refine R.go 2 (R.any0 (by kernel_rfl) ?_)
              refine R.go 5 (R.app eI ((S.take (S.length - 1)).take (((S.take (S.length - 1)).length) - 1)) [pxB xs (bor (bnot ((shl64 1 n) - 1) (S.getD (S.length - 1) 0)) ((S.take (S.length - 1)).getD (((S.take (S.length - 1)).length) - 1) 0))] 2 2 1 8 (by kernel_rfl) eI_one (by decide) (by first | omega | (simp <;> omega)) (by kernel_rfl) ?_)
              refine R.go 5 (R.ar (i - 1) (by kernel_rfl) (by omega) (by omega) (by kernel_rfl) ?_)
              exact R.go 2 (R.stop R1 (by kernel_rfl) (N2 (i - 1, ((S.take (S.length - 1)).take (((S.take (S.length - 1)).length) - 1)) ++ [pxB xs (bor (bnot ((shl64 1 n) - 1) (S.getD (S.length - 1) 0)) ((S.take (S.length - 1)).getD (((S.take (S.length - 1)).length) - 1) 0))]) [1, 2, 3, 7, 8, 9] (some [0, 1, 2]) _ (by kernel_rfl) (by kernel_rfl) ⟨(by omega), (by omega), (by simp <;> omega), (by first | exact stkg_push ‹S = _› (by omega) (by omega) (by omega) | exact stkg_bot ‹S = _› (by omega) (by omega) (by omega) | exact stkg_two hok ‹S = _› (by omega) (by omega) ‹(a.getD i.toNat (0, 0)).1 = _› (by omega) rfl rfl rfl rfl)⟩ (by show (((i - 1) + 1).toNat) < ((i + 1).toNat); omega)))
          · refine R.go 6 (R.app eI S [0] 2 2 1 8 (by kernel_rfl) eI_one (by decide) (by first | omega | (simp <;> omega)) (by kernel_rfl) ?_)
            refine R.go 5 (R.ar (i - 1) (by kernel_rfl) (by omega) (by omega) (by kernel_rfl) ?_)
            exact R.go 2 (R.stop R1 (by kernel_rfl) (N2 (i - 1, S ++ [0]) [1, 2, 3, 7, 8, 9] (some [0, 1, 2]) _ (by kernel_rfl) (by kernel_rfl) ⟨(by omega), (by omega), (by simp <;> omega), (by first | exact stkg_push ‹S = _› (by omega) (by omega) (by omega) | exact stkg_bot ‹S = _› (by omega) (by omega) (by omega) | exact stkg_two hok ‹S = _› (by omega) (by omega) ‹(a.getD i.toNat (0, 0)).1 = _› (by omega) rfl rfl rfl rfl)⟩ (by show (((i - 1) + 1).toNat) < ((i + 1).toNat); omega)))
  · refine R.go 4 (R.idxO 2 1 S.length 0 0 (by kernel_rfl) rfl (by omega) (by kernel_rfl) ?_)
    refine R.ldI S 0 (by kernel_rfl) (by omega) (by kernel_rfl) ?_
    exact R.go 2 (R.retE (AI (S.getD 0 0)) (by kernel_rfl) (by kernel_rfl) (by first | (apply congrArg AI; rw [fcd, stkg_fin hok ‹S = _› (by omega)]; rfl) | (exfalso; omega)))

theorem l17Force2_c : ∀ (k : Nat) (n : Int) (xs : List Int) (vs : List Int) (a : List (Int × Int)) (hk : a.length = k) (hok : OKM vs.length a) (hp : a.any modN = false) (h0 : 0 ≤ n) (h1 : n ≤ 8) (hx : xs.length ≤ 60) (hl : a.length ≤ 1000000000), CallA Tryz.prog 54 [.agg [AI n, LI xs], LI vs, LN a] (AI (gv (pT n (pxA xs)) pU vs a)) := by
  intro k
  induction k using Nat.strongRecOn with
  | _ k ih =>
  intro n xs vs a hk hok hp h0 h1 hx hl
  have hlen := okm_pos hok
  have hg := okm_get hok 0 (by omega)
  have hgp := plain_get hp (j := 0) (by omega)
  refine CallA.of Tryz.func54 rfl (by kernel_rfl) ?_
  refine R.go 9 (R.idx eN a (0, 0) 0 0 (by kernel_rfl) rfl eN_len (by first | omega | (have hq := lenm_lef hok ((partsN_two _).2 (by omega)); omega)) (by kernel_rfl) ?_)
  refine R.go 9 (R.cond (((a.getD 0 (0, 0)).1) = 0) (by kernel_rfl) (fun c1 => ?_) (fun c1 => ?_))
  · refine R.go 4 (R.idx eN a (0, 0) 0 0 (by kernel_rfl) rfl eN_len (by first | omega | (have hq := lenm_lef hok ((partsN_two _).2 (by omega)); omega)) (by kernel_rfl) ?_)
    refine R.go 2 (R.idx eI vs 0 (((a.getD 0 (0, 0)).2).toNat) ((a.getD 0 (0, 0)).2) (by kernel_rfl) (by first | omega | (have hq := lenm_lef hok ((partsN_two _).2 (by omega)); omega)) eI_len (by first | omega | (have hq := lenm_lef hok ((partsN_two _).2 (by omega)); omega)) (by kernel_rfl) ?_)
    exact R.go 3 (R.retE (AI (vs.getD (((a.getD 0 (0, 0)).2).toNat) 0)) (by kernel_rfl) (by kernel_rfl) (by first | (apply congrArg AI; first | exact gv_two (pT n (pxA xs)) pU vs hok ‹(a.getD 0 (0, 0)).1 = _› (by omega) | exact gv_two (pT n (pxA xs)) pU vs hok (k := 4) (by omega) (by omega) | exact gv_var _ _ _ hok (by omega) | exact gv_bot _ _ _ hok (by omega)) | (exfalso; omega)))
  · refine R.go 5 (R.cond (((a.getD 0 (0, 0)).1) = 1) (by kernel_rfl) (fun c2 => ?_) (fun c2 => ?_))
    · exact R.go 4 (R.retE (AI 0) (by kernel_rfl) (by kernel_rfl) (by first | (apply congrArg AI; first | exact gv_two (pT n (pxA xs)) pU vs hok ‹(a.getD 0 (0, 0)).1 = _› (by omega) | exact gv_two (pT n (pxA xs)) pU vs hok (k := 4) (by omega) (by omega) | exact gv_var _ _ _ hok (by omega) | exact gv_bot _ _ _ hok (by omega)) | (exfalso; omega)))
    · refine R.go 5 (R.cond (((a.getD 0 (0, 0)).1) = 2) (by kernel_rfl) (fun c3 => ?_) (fun c3 => ?_))
      · refine R.go 5 (R.call true (l02Left_c vs.length a hok (by exact (partsN_two _).2 (by omega)) hl) (by kernel_rfl) rfl (by kernel_rfl) ?_)
        refine R.call true (ih ((lef a).length) (by first | omega | (have hq := lenm_lef hok ((partsN_two _).2 (by omega)); omega)) n xs vs (lef a) (by first | rfl | simp) (by first | assumption | exact okm_lef hok ((partsN_two _).2 (by omega)) | exact okm_rig hok ((partsN_two _).2 (by omega))) (by first | assumption | exact plain_lef hp | exact plain_rig hp) h0 h1 hx (by first | omega | (have hq := lenm_lef hok ((partsN_two _).2 (by omega)); omega))) (by kernel_rfl) rfl (by kernel_rfl) ?_
        refine R.go 3 (R.call true (l02Right_c vs.length a hok (by exact (partsN_two _).2 (by omega)) hl) (by kernel_rfl) rfl (by kernel_rfl) ?_)
        refine R.call true (ih ((rig a).length) (by first | omega | (have hq := lenm_lef hok ((partsN_two _).2 (by omega)); omega)) n xs vs (rig a) (by first | rfl | simp) (by first | assumption | exact okm_lef hok ((partsN_two _).2 (by omega)) | exact okm_rig hok ((partsN_two _).2 (by omega))) (by first | assumption | exact plain_lef hp | exact plain_rig hp) h0 h1 hx (by first | omega | (have hq := lenm_lef hok ((partsN_two _).2 (by omega)); omega))) (by kernel_rfl) rfl (by kernel_rfl) ?_
        exact R.go 3 (R.retE (AI (band (gv (pT n (pxA xs)) pU vs (lef a)) (gv (pT n (pxA xs)) pU vs (rig a)))) (by kernel_rfl) (by kernel_rfl) (by first | (apply congrArg AI; first | exact gv_two (pT n (pxA xs)) pU vs hok ‹(a.getD 0 (0, 0)).1 = _› (by omega) | exact gv_two (pT n (pxA xs)) pU vs hok (k := 4) (by omega) (by omega) | exact gv_var _ _ _ hok (by omega) | exact gv_bot _ _ _ hok (by omega)) | (exfalso; omega)))
      · refine R.go 5 (R.cond (((a.getD 0 (0, 0)).1) = 3) (by kernel_rfl) (fun c4 => ?_) (fun c4 => ?_))
        · refine R.go 5 (R.call true (l02Left_c vs.length a hok (by exact (partsN_two _).2 (by omega)) hl) (by kernel_rfl) rfl (by kernel_rfl) ?_)
          refine R.call true (ih ((lef a).length) (by first | omega | (have hq := lenm_lef hok ((partsN_two _).2 (by omega)); omega)) n xs vs (lef a) (by first | rfl | simp) (by first | assumption | exact okm_lef hok ((partsN_two _).2 (by omega)) | exact okm_rig hok ((partsN_two _).2 (by omega))) (by first | assumption | exact plain_lef hp | exact plain_rig hp) h0 h1 hx (by first | omega | (have hq := lenm_lef hok ((partsN_two _).2 (by omega)); omega))) (by kernel_rfl) rfl (by kernel_rfl) ?_
          refine R.go 3 (R.call true (l02Right_c vs.length a hok (by exact (partsN_two _).2 (by omega)) hl) (by kernel_rfl) rfl (by kernel_rfl) ?_)
          refine R.call true (ih ((rig a).length) (by first | omega | (have hq := lenm_lef hok ((partsN_two _).2 (by omega)); omega)) n xs vs (rig a) (by first | rfl | simp) (by first | assumption | exact okm_lef hok ((partsN_two _).2 (by omega)) | exact okm_rig hok ((partsN_two _).2 (by omega))) (by first | assumption | exact plain_lef hp | exact plain_rig hp) h0 h1 hx (by first | omega | (have hq := lenm_lef hok ((partsN_two _).2 (by omega)); omega))) (by kernel_rfl) rfl (by kernel_rfl) ?_
          exact R.go 3 (R.retE (AI (bor (gv (pT n (pxA xs)) pU vs (lef a)) (gv (pT n (pxA xs)) pU vs (rig a)))) (by kernel_rfl) (by kernel_rfl) (by first | (apply congrArg AI; first | exact gv_two (pT n (pxA xs)) pU vs hok ‹(a.getD 0 (0, 0)).1 = _› (by omega) | exact gv_two (pT n (pxA xs)) pU vs hok (k := 4) (by omega) (by omega) | exact gv_var _ _ _ hok (by omega) | exact gv_bot _ _ _ hok (by omega)) | (exfalso; omega)))
        · refine R.go 8 (R.call true (l02Left_c vs.length a hok (by exact (partsN_two _).2 (by omega)) hl) (by kernel_rfl) rfl (by kernel_rfl) ?_)
          refine R.call true (ih ((lef a).length) (by first | omega | (have hq := lenm_lef hok ((partsN_two _).2 (by omega)); omega)) n xs vs (lef a) (by first | rfl | simp) (by first | assumption | exact okm_lef hok ((partsN_two _).2 (by omega)) | exact okm_rig hok ((partsN_two _).2 (by omega))) (by first | assumption | exact plain_lef hp | exact plain_rig hp) h0 h1 hx (by first | omega | (have hq := lenm_lef hok ((partsN_two _).2 (by omega)); omega))) (by kernel_rfl) rfl (by kernel_rfl) ?_
          refine R.go 3 (R.call true (l02Right_c vs.length a hok (by exact (partsN_two _).2 (by omega)) hl) (by kernel_rfl) rfl (by kernel_rfl) ?_)
          refine R.call true (ih ((rig a).length) (by first | omega | (have hq := lenm_lef hok ((partsN_two _).2 (by omega)); omega)) n xs vs (rig a) (by first | rfl | simp) (by first | assumption | exact okm_lef hok ((partsN_two _).2 (by omega)) | exact okm_rig hok ((partsN_two _).2 (by omega))) (by first | assumption | exact plain_lef hp | exact plain_rig hp) h0 h1 hx (by first | omega | (have hq := lenm_lef hok ((partsN_two _).2 (by omega)); omega))) (by kernel_rfl) rfl (by kernel_rfl) ?_
          refine R.call true (arrow2_c n xs (gv (pT n (pxA xs)) pU vs (lef a)) (gv (pT n (pxA xs)) pU vs (rig a)) h0 (by first | omega | (have hq := lenm_lef hok ((partsN_two _).2 (by omega)); omega)) hx) (by kernel_rfl) rfl (by kernel_rfl) ?_
          exact R.go 2 (R.retE (AI (pxA xs (bor (bnot ((shl64 1 n) - 1) (gv (pT n (pxA xs)) pU vs (lef a))) (gv (pT n (pxA xs)) pU vs (rig a))))) (by kernel_rfl) (by kernel_rfl) (by first | (apply congrArg AI; first | exact gv_two (pT n (pxA xs)) pU vs hok ‹(a.getD 0 (0, 0)).1 = _› (by omega) | exact gv_two (pT n (pxA xs)) pU vs hok (k := 4) (by omega) (by omega) | exact gv_var _ _ _ hok (by omega) | exact gv_bot _ _ _ hok (by omega)) | (exfalso; omega)))

theorem l17ForceF_c (n : Int) (xs vs : List Int) (a : List (Int × Int)) (hok : OKM vs.length a) (hp : a.any modN = false) (hR : okFr n xs = true) (hl : a.length ≤ 1000000000) : CallA Tryz.prog 54 [.agg [AI n, LI xs], LI vs, LN a] (AI (fcd n xs vs a)) := by
  have hF := okFr_rel hR
  have h := l17Force2_c a.length n xs vs a rfl hok hp hF.1 hF.2.1 (by omega) hl
  rw [pxAB hR] at h
  exact h

theorem allPlain1_c (a : List (Int × Int)) (hl : a.length ≤ 1000000000) : CallA Tryz.prog 83 [LN a] (.bool (anyM a)) := by
  refine CallA.of Tryz.func83 rfl (by kernel_rfl) ?_
  refine R.go 7 (R.call true (isPlain_c a hl) (by kernel_rfl) rfl (by kernel_rfl) ?_)
  exact R.go 3 (R.retE (.bool (!(!(a.any modN)))) (by kernel_rfl) (by kernel_rfl) (by first | (apply congrArg AV.bool; simp [anyM]) | (exfalso; omega)))

theorem index_anyM_c (l : List (List (Int × Int))) (hs : shortL l) : CallA Tryz.prog 126 [LLN l, .fn 83 []] (AI (fidxF anyM l 0)) := by
  have hl := hs.1
  refine CallA.of Tryz.func126 rfl (by kernel_rfl) ?_
  refine R.go 12 (R.loop (fun (i : Nat) => (⟨(frm 19 [(0, LLN l), (1, .fn 83 []), (7, AI l.length), (8, AI (i : Int))]), []⟩ : St)) (fun (i : Nat) => (i ≤ l.length) ∧ (fidxF anyM l 0 = fidxF anyM (l.drop i) i)) (fun (i : Nat) => l.length - i) 0 [0, 1, 7, 8] none (by kernel_rfl) (by kernel_rfl) (by kernel_rfl) ⟨(by omega), (by rfl)⟩ ?_)
  rintro i ⟨h3_1, h3_2⟩ R1 N2
  refine R.go 5 (R.cond ((i : Int) < (l.length : Int)) (by kernel_rfl) (fun c4 => ?_) (fun c4 => ?_))
  · have hj := hs.2 i (by omega)
    refine R.go 13 (R.idx eLN l [] i (i : Int) (by kernel_rfl) rfl eLN_len (by omega) (by kernel_rfl) ?_)
    refine R.go 1 (R.call true (allPlain1_c (l.getD i []) (by first | omega | (simp <;> omega))) (by kernel_rfl) rfl (by kernel_rfl) ?_)
    refine R.go 1 (R.condB (anyM (l.getD i [])) (by kernel_rfl) (fun c5 => ?_) (fun c5 => ?_))
    · exact R.go 5 (R.retE (AI (i : Int)) (by kernel_rfl) (by kernel_rfl) (by first | (apply congrArg AI; rw [‹fidxF anyM l 0 = _›]; first | exact (fidxF_end (by omega)).symm | exact (fidxF_hit (by omega) (by assumption)).symm) | (exfalso; omega)))
    · refine R.go 3 (R.ar ((i : Int) + 1) (by kernel_rfl) (by omega) (by omega) (by kernel_rfl) ?_)
      exact R.go 2 (R.stop R1 (by kernel_rfl) (N2 (i + 1) [0, 1, 7, 8] none _ (by kernel_rfl) (by kernel_rfl) ⟨(by omega), (by rw [‹fidxF anyM l 0 = _›]; exact fidxF_miss (by omega) (by assumption))⟩ (by show (l.length - (i + 1)) < (l.length - i); omega)))
  · exact R.go 5 (R.retE (AI (-1)) (by kernel_rfl) (by kernel_rfl) (by first | (apply congrArg AI; rw [‹fidxF anyM l 0 = _›]; first | exact (fidxF_end (by omega)).symm | exact (fidxF_hit (by omega) (by assumption)).symm) | (exfalso; omega)))

theorem contains_anyM_c (l : List (List (Int × Int))) (hs : shortL l) : CallA Tryz.prog 81 [LLN l, .fn 83 []] (.bool (l.any anyM)) := by
  refine CallA.of Tryz.func81 rfl (by kernel_rfl) ?_
  refine R.go 8 (R.call true (index_anyM_c l hs) (by kernel_rfl) rfl (by kernel_rfl) ?_)
  exact R.go 3 (R.retE (.bool (decide ((fidxF anyM l 0) ≥ 0))) (by kernel_rfl) (by kernel_rfl) (by first | (apply congrArg AV.bool; rw [Bool.eq_iff_iff, decide_eq_true_iff]; exact fidxF_any (Int.le_refl 0)) | (exfalso; omega)))

theorem allPlain_c (l : List (List (Int × Int))) (hs : shortL l) : CallA Tryz.prog 42 [LLN l] (.bool (allPl l)) := by
  refine CallA.of Tryz.func42 rfl (by kernel_rfl) ?_
  refine R.go 7 (R.call true (contains_anyM_c l hs) (by kernel_rfl) rfl (by kernel_rfl) ?_)
  exact R.go 3 (R.retE (.bool (!(l.any anyM))) (by kernel_rfl) (by kernel_rfl) (by first | (rfl) | (exfalso; omega)))

theorem fits_c (U : Int) (m : Nat) (h0 : 0 ≤ U) (h1 : U ≤ 1000) (hm : m ≤ 1000) : CallA Tryz.prog 43 [AI U, AI (m : Int)] (.bool (decide (pwT U m ≤ 4096))) := by
  refine CallA.of Tryz.func43 rfl (by kernel_rfl) ?_
  refine R.go 15 (R.loop ((fun | (j, p) => (⟨(frm 15 [(0, AI U), (5, AI p), (6, AI (m : Int)), (7, AI (j : Int))]), []⟩ : St) : Nat × Int → St)) (fun | (j, p) => (j ≤ m) ∧ (pwT U j ≤ 4096) ∧ (p = pwT U j)) (fun | (j, p) => m - j) (0, 1) [0, 5, 6, 7] none (by kernel_rfl) (by kernel_rfl) (by kernel_rfl) ⟨(by omega), (by simp [pwT]), (by rfl)⟩ ?_)
  rintro ⟨j, p⟩ ⟨h4_1, h4_2, rfl⟩ R1 N2
  have hpr := pwT_rng h0 h1 j
  have hmr := mul_rng h0 h1 hpr.1 (by assumption)
  refine R.go 5 (R.cond ((j : Int) < (m : Int)) (by kernel_rfl) (fun c5 => ?_) (fun c5 => ?_))
  · refine R.go 7 (R.ar ((pwT U j) * U) (by kernel_rfl) (by omega) (by omega) (by kernel_rfl) ?_)
    refine R.go 7 (R.cond (((pwT U j) * U) > 4096) (by kernel_rfl) (fun c6 => ?_) (fun c6 => ?_))
    · exact R.go 4 (R.retE (.bool false) (by kernel_rfl) (by kernel_rfl) (by first | (apply congrArg AV.bool; first | (refine (decide_eq_true ?_).symm; rw [show m = j by omega]; assumption) | (refine (decide_eq_false ?_).symm; rw [pwT_stay (k := j + 1) (by rw [← pwT_step (by assumption)]; omega) m (by omega), ← pwT_step (by assumption)]; omega)) | (exfalso; omega)))
    · refine R.go 3 (R.ar ((j : Int) + 1) (by kernel_rfl) (by omega) (by omega) (by kernel_rfl) ?_)
      exact R.go 2 (R.stop R1 (by kernel_rfl) (N2 (j + 1, (pwT U j) * U) [0, 5, 6, 7] none _ (by kernel_rfl) (by kernel_rfl) ⟨(by omega), (by rw [← pwT_step (by assumption)]; omega), (by exact pwT_step (by assumption))⟩ (by show (m - (j + 1)) < (m - j); omega)))
  · exact R.go 5 (R.retE (.bool true) (by kernel_rfl) (by kernel_rfl) (by first | (apply congrArg AV.bool; first | (refine (decide_eq_true ?_).symm; rw [show m = j by omega]; assumption) | (refine (decide_eq_false ?_).symm; rw [pwT_stay (k := j + 1) (by rw [← pwT_step (by assumption)]; omega) m (by omega), ← pwT_step (by assumption)]; omega)) | (exfalso; omega)))

theorem l17Power_c (U : Int) (m : Nat) (h0 : 0 ≤ U) (h1 : U ≤ 1000) (hm : m ≤ 1000) : CallA Tryz.prog 49 [AI U, AI (m : Int)] (AI (pwT U m)) := by
  refine CallA.of Tryz.func49 rfl (by kernel_rfl) ?_
  refine R.go 10 (R.loop ((fun | (j, kk, p) => (⟨(frm 18 [(0, AI U), (1, AI kk), (5, AI p)]), []⟩ : St) : Nat × Int × Int → St)) (fun | (j, kk, p) => (j ≤ m) ∧ (kk = (m : Int) - j) ∧ (p = pwT U j)) (fun | (j, kk, p) => m - j) (0, (m : Int), 1) [0, 1, 5] none (by kernel_rfl) (by kernel_rfl) (by kernel_rfl) ⟨(by omega), (by simp), (by rfl)⟩ ?_)
  rintro ⟨j, kk, p⟩ ⟨h4_1, h4_2, rfl⟩ R1 N2
  have hpr := pwT_rng h0 h1 j
  have hmr := fun h : pwT U j ≤ 4096 => mul_rng h0 h1 hpr.1 h
  refine R.go 6 ?_
  by_cases c5 : kk > 0
  · refine R.want (decide (kk > 0)) true (by kernel_rfl) (dT c5) ?_
    refine R.go 1 (R.want (decide (kk > 0)) true (by kernel_rfl) (dT c5) ?_)
    refine R.go 1 (R.pick (decide (kk > 0)) true (by kernel_rfl) (dT c5) (by kernel_rfl) ?_)
    refine R.go 1 (R.cond ((pwT U j) ≤ 4096) (by kernel_rfl) (fun c6 => ?_) (fun c6 => ?_))
    · refine R.go 6 (R.ar ((pwT U j) * U) (by kernel_rfl) (by omega) (by omega) (by kernel_rfl) ?_)
      refine R.go 5 (R.ar (kk - 1) (by kernel_rfl) (by omega) (by omega) (by kernel_rfl) ?_)
      exact R.go 2 (R.stop R1 (by kernel_rfl) (N2 ((j + 1), kk - 1, (pwT U j) * U) [0, 1, 5] none _ (by kernel_rfl) (by kernel_rfl) ⟨(by omega), (by omega), (by exact pwT_step (by assumption))⟩ (by show (m - (j + 1)) < (m - j); omega)))
    · exact R.go 6 (R.retE (AI (pwT U j)) (by kernel_rfl) (by kernel_rfl) (by first | (apply congrArg AI; first | (rw [show m = j by omega]) | exact (pwT_stay (by omega) m (by omega)).symm) | (exfalso; omega)))
  · refine R.skp (decide (kk > 0)) true (by kernel_rfl) (dF c5) (by kernel_rfl) ?_
    refine R.skp (decide (kk > 0)) true (by kernel_rfl) (dF c5) (by kernel_rfl) ?_
    refine R.pick (decide (kk > 0)) false (by kernel_rfl) (dF c5) (by kernel_rfl) ?_
    exact R.go 8 (R.retE (AI (pwT U j)) (by kernel_rfl) (by kernel_rfl) (by first | (apply congrArg AI; first | (rw [show m = j by omega]) | exact (pwT_stay (by omega) m (by omega)).symm) | (exfalso; omega)))

theorem posetSearch_c (n : Int) (xs : List Int) (l : List (List (Int × Int))) (lx : xs.length ≤ 1048576) (hs : shortL l) : CallA Tryz.prog 17 [.agg [AI n, LI xs], LLN l] (AI (pcode n xs l)) := by
  have hub := fun h : okPo n xs = true => upL_len h
  have hmm := mem_le (vmT l l.length)
  have hsl := hs.1
  refine CallA.of Tryz.func17 rfl (by kernel_rfl) ?_
  refine R.go 10 (R.call true (isPoset_c n xs (by first | omega | (have h2 := hub (by assumption); omega))) (by kernel_rfl) rfl (by kernel_rfl) ?_)
  refine R.go 2 ?_
  refine (Bool.eq_false_or_eq_true (okPo n xs)).elim (fun c1 => ?_) (fun c1 => ?_)
  · refine R.want (!(okPo n xs)) false (by kernel_rfl) (bnF c1) ?_
    refine R.go 1 (R.want (!(okPo n xs)) false (by kernel_rfl) (bnF c1) ?_)
    refine R.call true (areFormulas_c l hs) (by kernel_rfl) rfl (by kernel_rfl) ?_
    refine R.want (!(okPo n xs)) false (by kernel_rfl) (bnF c1) ?_
    refine R.go 1 (R.pick (!(okPo n xs)) false (by kernel_rfl) (bnF c1) (by kernel_rfl) ?_)
    refine R.go 2 (R.condM (allF l) (by kernel_rfl) (fun c2 => ?_) (fun c2 => ?_))
    · exact R.go 4 (R.retE (AI 1) (by kernel_rfl) (by kernel_rfl) (by first | (apply congrArg AI; first | exact pc_1 (by assumption) | exact pc_2 (by assumption) | exact pc_5 (by assumption) (by assumption) (by assumption) | exact pc_3 (by assumption) (by assumption) (by assumption) (by assumption) | exact pc_0 (by assumption) (by assumption) (by assumption) (by assumption)) | (exfalso; omega)))
    · refine R.go 3 (R.call true (allPlain_c l hs) (by kernel_rfl) rfl (by kernel_rfl) ?_)
      refine R.go 3 (R.condM (allPl l) (by kernel_rfl) (fun c3 => ?_) (fun c3 => ?_))
      · exact R.go 4 (R.retE (AI 5) (by kernel_rfl) (by kernel_rfl) (by first | (apply congrArg AI; first | exact pc_1 (by assumption) | exact pc_2 (by assumption) | exact pc_5 (by assumption) (by assumption) (by assumption) | exact pc_3 (by assumption) (by assumption) (by assumption) (by assumption) | exact pc_0 (by assumption) (by assumption) (by assumption) (by assumption)) | (exfalso; omega)))
      · refine R.go 3 (R.call true (upsets_c n xs c1).frz (by kernel_rfl) rfl (by kernel_rfl) ?_)
        refine R.go 2 (R.call true (variablesIn_c l c2 (by first | omega | (have h2 := hub (by assumption); omega))).frz (by kernel_rfl) rfl (by kernel_rfl) ?_)
        refine R.go 1 (R.call true (fits_c ((upL n xs).length) ((mem (vmT l l.length)).length) (by first | omega | (have h2 := hub (by assumption); omega)) (by first | omega | (have h2 := hub (by assumption); omega)) (by first | omega | (have h2 := hub (by assumption); omega))) (by kernel_rfl) rfl (by kernel_rfl) ?_)
        refine R.go 3 (R.condN (pwT ((upL n xs).length) ((mem (vmT l l.length)).length) ≤ 4096) (by kernel_rfl) (fun c4 => ?_) (fun c4 => ?_))
        · exact R.go 4 (R.retE (AI 3) (by kernel_rfl) (by kernel_rfl) (by first | (apply congrArg AI; first | exact pc_1 (by assumption) | exact pc_2 (by assumption) | exact pc_5 (by assumption) (by assumption) (by assumption) | exact pc_3 (by assumption) (by assumption) (by assumption) (by assumption) | exact pc_0 (by assumption) (by assumption) (by assumption) (by assumption)) | (exfalso; omega)))
        · exact R.go 6 (R.retE (AI 0) (by kernel_rfl) (by kernel_rfl) (by first | (apply congrArg AI; first | exact pc_1 (by assumption) | exact pc_2 (by assumption) | exact pc_5 (by assumption) (by assumption) (by assumption) | exact pc_3 (by assumption) (by assumption) (by assumption) (by assumption) | exact pc_0 (by assumption) (by assumption) (by assumption) (by assumption)) | (exfalso; omega)))
  · refine R.skp (!(okPo n xs)) false (by kernel_rfl) (bnT c1) (by kernel_rfl) ?_
    refine R.skp (!(okPo n xs)) false (by kernel_rfl) (bnT c1) (by kernel_rfl) ?_
    refine R.skp (!(okPo n xs)) false (by kernel_rfl) (bnT c1) (by kernel_rfl) ?_
    refine R.pick (!(okPo n xs)) true (by kernel_rfl) (bnT c1) (by kernel_rfl) ?_
    exact R.go 7 (R.retE (AI 1) (by kernel_rfl) (by kernel_rfl) (by first | (apply congrArg AI; first | exact pc_1 (by assumption) | exact pc_2 (by assumption) | exact pc_5 (by assumption) (by assumption) (by assumption) | exact pc_3 (by assumption) (by assumption) (by assumption) (by assumption) | exact pc_0 (by assumption) (by assumption) (by assumption) (by assumption)) | (exfalso; omega)))

theorem l17Search_c (n : Int) (xs : List Int) (l : List (List (Int × Int))) (lx : xs.length ≤ 1048576) (hs : shortL l) : CallA Tryz.prog 21 [.agg [AI n, LI xs], LLN l] (AI (pcode n xs l)) := by
  have hub := fun h : okPo n xs = true => upL_len h
  have hmm := mem_le (vmT l l.length)
  have hsl := hs.1
  have hs2 := hs.2
  refine CallA.of Tryz.func21 rfl (by kernel_rfl) ?_
  refine R.go 9 (R.call true (l16Is_c n xs (by first | omega | assumption | (have h2 := hub (by assumption); omega))) (by kernel_rfl) rfl (by kernel_rfl) ?_)
  refine R.go 2 (R.condM (okPo n xs) (by kernel_rfl) (fun c1 => ?_) (fun c1 => ?_))
  · exact R.go 4 (R.retE (AI 1) (by kernel_rfl) (by kernel_rfl) (by first | (apply congrArg AI; first | exact pc_1 (by assumption) | exact pc_2 (allF_no (i := i) (by omega) (by assumption)) | exact pc_5 (by assumption) hAF (by rw [hAP]; assumption) | exact pc_3 (by assumption) hAF (by rw [hAP]; assumption) (by omega) | exact pc_0 (by assumption) hAF (by rw [hAP]; assumption) (by omega)) | (exfalso; omega)))
  · refine R.go 11 (R.loop ((fun | (i, pl) => (⟨(frm 42 [(1, LLN l), (2, .ptr 0 0), (5, .bool pl), (6, AI (i : Int))]), [.box 26 [AI n, LI xs]]⟩ : St) : Nat × Bool → St)) (fun | (i, pl) => (i ≤ l.length) ∧ (∀ j : Nat, j < i → isF (l.getD j []) = true) ∧ (plTo l i = pl)) (fun | (i, pl) => l.length - i) (0, true) [1, 2, 5, 6] none (by kernel_rfl) (by kernel_rfl) (by kernel_rfl) ⟨(by omega), (by exact fun j hj => absurd hj (by omega)), (by rfl)⟩ ?_)
    rintro ⟨i, pl⟩ ⟨h5_1, h5_2, h5_3⟩ R2 N3
    have hsi := hs2 i
    refine R.go 8 (R.cond ((i : Int) < (l.length : Int)) (by kernel_rfl) (fun c6 => ?_) (fun c6 => ?_))
    · have hsj := hsi (by omega)
      refine R.go 8 (R.idx eLN l [] i (i : Int) (by kernel_rfl) rfl eLN_len (by first | omega | (have h2 := hub (by assumption); omega)) (by kernel_rfl) ?_)
      refine R.go 1 (R.call true (l02Is_c (l.getD i []) (by first | omega | assumption | (have h2 := hub (by assumption); omega))) (by kernel_rfl) rfl (by kernel_rfl) ?_)
      refine R.go 2 (R.condM (isF (l.getD i [])) (by kernel_rfl) (fun c7 => ?_) (fun c7 => ?_))
      · exact R.go 4 (R.retE (AI 1) (by kernel_rfl) (by kernel_rfl) (by first | (apply congrArg AI; first | exact pc_1 (by assumption) | exact pc_2 (allF_no (i := i) (by omega) (by assumption)) | exact pc_5 (by assumption) hAF (by rw [hAP]; assumption) | exact pc_3 (by assumption) hAF (by rw [hAP]; assumption) (by omega) | exact pc_0 (by assumption) hAF (by rw [hAP]; assumption) (by omega)) | (exfalso; omega)))
      · refine R.go 4 ?_
        refine (Bool.eq_false_or_eq_true (pl)).elim (fun c8 => ?_) (fun c8 => ?_)
        · refine R.want (pl) true (by kernel_rfl) c8 ?_
          refine R.go 1 (R.want (pl) true (by kernel_rfl) c8 ?_)
          refine R.go 1 (R.want (pl) true (by kernel_rfl) c8 ?_)
          refine R.idx eLN l [] i (i : Int) (by kernel_rfl) rfl eLN_len (by first | omega | (have h2 := hub (by assumption); omega)) (by kernel_rfl) ?_
          refine R.want (pl) true (by kernel_rfl) c8 ?_
          refine R.go 1 (R.want (pl) true (by kernel_rfl) c8 ?_)
          refine R.call true (l02Plain_c (l.getD i []) (by first | omega | assumption | (have h2 := hub (by assumption); omega))) (by kernel_rfl) rfl (by kernel_rfl) ?_
          refine R.pick (pl) true (by kernel_rfl) c8 (by kernel_rfl) ?_
          refine R.go 5 (R.ar ((i : Int) + 1) (by kernel_rfl) (by first | omega | (have h2 := hub (by assumption); omega)) (by first | omega | (have h2 := hub (by assumption); omega)) (by kernel_rfl) ?_)
          exact R.go 2 (R.stop R2 (by kernel_rfl) (N3 (i + 1, !((l.getD i []).any modN)) [1, 2, 5, 6] none _ (by kernel_rfl) (by kernel_rfl) ⟨(by omega), (by exact below1 (P := fun j => isF (l.getD j []) = true) (by assumption) (by assumption)), (by first | exact (plTo_step (by omega) (by assumption) (by assumption)).symm | exact (plTo_off (by omega) (by assumption) (by assumption)).symm)⟩ (by show (l.length - (i + 1)) < (l.length - i); omega)))
        · refine R.skp (pl) true (by kernel_rfl) c8 (by kernel_rfl) ?_
          refine R.skp (pl) true (by kernel_rfl) c8 (by kernel_rfl) ?_
          refine R.skp (pl) true (by kernel_rfl) c8 (by kernel_rfl) ?_
          refine R.skp (pl) true (by kernel_rfl) c8 (by kernel_rfl) ?_
          refine R.skp (pl) true (by kernel_rfl) c8 (by kernel_rfl) ?_
          refine R.pick (pl) false (by kernel_rfl) c8 (by kernel_rfl) ?_
          refine R.go 5 (R.ar ((i : Int) + 1) (by kernel_rfl) (by first | omega | (have h2 := hub (by assumption); omega)) (by first | omega | (have h2 := hub (by assumption); omega)) (by kernel_rfl) ?_)
          exact R.go 2 (R.stop R2 (by kernel_rfl) (N3 (i + 1, false) [1, 2, 5, 6] none _ (by kernel_rfl) (by kernel_rfl) ⟨(by omega), (by exact below1 (P := fun j => isF (l.getD j []) = true) (by assumption) (by assumption)), (by first | exact (plTo_step (by omega) (by assumption) (by assumption)).symm | exact (plTo_off (by omega) (by assumption) (by assumption)).symm)⟩ (by show (l.length - (i + 1)) < (l.length - i); omega)))
    · have hAF : allF l = true := allF_all fun j hj => (‹∀ j : Nat, j < i → isF (l.getD j []) = true›) j (by omega)
      have hAP : allPl l = pl := by rw [← plTo_all (show l.length ≤ i by omega)]; assumption
      refine R.go 9 (R.condM (pl) (by kernel_rfl) (fun c9 => ?_) (fun c9 => ?_))
      · exact R.go 4 (R.retE (AI 5) (by kernel_rfl) (by kernel_rfl) (by first | (apply congrArg AI; first | exact pc_1 (by assumption) | exact pc_2 (allF_no (i := i) (by omega) (by assumption)) | exact pc_5 (by assumption) hAF (by rw [hAP]; assumption) | exact pc_3 (by assumption) hAF (by rw [hAP]; assumption) (by omega) | exact pc_0 (by assumption) hAF (by rw [hAP]; assumption) (by omega)) | (exfalso; omega)))
      · refine R.go 3 (R.call true (l16Upsets_c n xs c1).frz (by kernel_rfl) rfl (by kernel_rfl) ?_)
        refine R.go 2 (R.call true (l06Variables_c l hAF (by first | omega | assumption | (have h2 := hub (by assumption); omega))).frz (by kernel_rfl) rfl (by kernel_rfl) ?_)
        refine R.go 1 (R.call true (l17Power_c ((upL n xs).length) ((mem (vmT l l.length)).length) (by first | omega | assumption | (have h2 := hub (by assumption); omega)) (by first | omega | assumption | (have h2 := hub (by assumption); omega)) (by first | omega | assumption | (have h2 := hub (by assumption); omega))) (by kernel_rfl) rfl (by kernel_rfl) ?_)
        refine R.go 3 (R.cond ((pwT ((upL n xs).length) ((mem (vmT l l.length)).length)) > 4096) (by kernel_rfl) (fun c10 => ?_) (fun c10 => ?_))
        · exact R.go 4 (R.retE (AI 3) (by kernel_rfl) (by kernel_rfl) (by first | (apply congrArg AI; first | exact pc_1 (by assumption) | exact pc_2 (allF_no (i := i) (by omega) (by assumption)) | exact pc_5 (by assumption) hAF (by rw [hAP]; assumption) | exact pc_3 (by assumption) hAF (by rw [hAP]; assumption) (by omega) | exact pc_0 (by assumption) hAF (by rw [hAP]; assumption) (by omega)) | (exfalso; omega)))
        · exact R.go 6 (R.retE (AI 0) (by kernel_rfl) (by kernel_rfl) (by first | (apply congrArg AI; first | exact pc_1 (by assumption) | exact pc_2 (allF_no (i := i) (by omega) (by assumption)) | exact pc_5 (by assumption) hAF (by rw [hAP]; assumption) | exact pc_3 (by assumption) hAF (by rw [hAP]; assumption) (by omega) | exact pc_0 (by assumption) hAF (by rw [hAP]; assumption) (by omega)) | (exfalso; omega)))

end Go.Proofs.YtogehjciaamcfaaGreat


/-! Valuations on posets by numbers; what the reference answers. -/
namespace Go.Proofs.YtogehjciaamcfaaGreat
open Go.RowKit Go.Abs

def VS (vs : List Int) : Prop := vs.Nodup ∧ ∀ v ∈ vs, 0 ≤ v ∧ v < 6
theorem row_ext {X Y : List Int} (hx : X.length = 6) (hy : Y.length = 6) (h : ∀ j : Nat, j < 6 → X.getD j 0 = Y.getD j 0) : X = Y := by
  apply List.ext_getElem (by omega)
  intro j h1 h2
  have := h j (by omega)
  simpa [List.getD_eq_getElem?_getD, List.getElem?_eq_getElem h1, List.getElem?_eq_getElem h2] using this
theorem vs_get {vs : List Int} (h : VS vs) {k : Nat} (hk : k < vs.length) : vs.getD k 0 ∈ vs ∧ 0 ≤ vs.getD k 0 ∧ vs.getD k 0 < 6 ∧ vs.idxOf (vs.getD k 0) = k := by
  have e : vs.getD k 0 = vs[k] := by rw [List.getD_eq_getElem?_getD, List.getElem?_eq_getElem hk, Option.getD_some]
  have hm : vs.getD k 0 ∈ vs := by rw [e]; exact List.getElem_mem hk
  have := h.2 _ hm
  exact ⟨hm, this.1, this.2, by rw [e]; exact h.1.idxOf_getElem k hk⟩
theorem zero_out (vs : List Int) (j : Nat) (_ : j < 6) (_ : ¬ (j : Int) ∈ vs) : (List.replicate 6 (0 : Int)).getD j 0 = 0 := by
  simp only [List.getD_eq_getElem?_getD, List.getElem?_replicate]
  split <;> rfl
/-! The first number of which p holds. -/
def fstN (p : Nat → Bool) (t : Nat) : Option Nat := (List.range t).find? p
theorem fst_none {p : Nat → Bool} {t : Nat} (h : ∀ M, M < t → p M = false) : fstN p t = none := by
  rw [fstN, List.find?_eq_none]
  intro x hx
  rw [h x (by simpa using hx)]
  decide
theorem fst_some {p : Nat → Bool} {t N : Nat} (h : ∀ M, M < N → p M = false) (hp : p N = true) (ht : N < t) : fstN p t = some N := by
  rw [fstN, List.find?_eq_some_iff_append]
  refine ⟨hp, List.range N, (List.range t).drop (N + 1), ?_, fun x hx => by rw [h x (by simpa using hx)]; rfl⟩
  have h1 : (List.range t).take N = List.range N := by rw [List.take_range]; congr 1; omega
  have h2 : (List.range t).drop N = N :: (List.range t).drop (N + 1) := by
    rw [List.drop_eq_getElem_cons (by simpa using ht)]
    simp
  rw [← h1, ← h2, List.take_append_drop]
theorem below_succ {p : Nat → Bool} {N : Nat} (h : ∀ M, M < N → p M = false) (hp : p N = false) : ∀ M, M < N + 1 → p M = false := fun M hM => by
  by_cases e : M = N
  · rw [e]; exact hp
  · exact h M (by omega)
theorem VS_mem {m : Int} (hm : InM 6 m) : VS (mem m) := ⟨memN_nodup m 62, fun v hv => by have := mem_get hv hm; exact ⟨this.1, this.2.1⟩⟩
theorem VS_vmT {l : List (List (Int × Int))} (h : allF l = true) : VS (mem (vmT l l.length)) := VS_mem (inM6 (vmT_rng h _ (Nat.le_refl _)).1 (vmT_rng h _ (Nat.le_refl _)).2)
theorem allF_one {a : List (Int × Int)} (h : isF a = true) : allF [a] = true := by simp [allF, h]
theorem bor_zero {m : Int} (h : InM 6 m) : bor 0 m = m := by
  refine tb_ext (inM_bor (by decide) (inM_zero 6) h).1 h.1 fun i => ?_
  rw [tb_bor (by decide) (inM_zero 6) h, tb_zero, Bool.false_or]
theorem vmT_one {a : List (Int × Int)} (h : isF a = true) : vmT [a] [a].length = vmTo a a.length := by
  show bor 0 (vmTo a a.length) = _
  exact bor_zero (vm63 (isF_parts h).2.2.1)

/-- The value of variable j in the valuation N. -/
def vatU (ups vs : List Int) (N j : Nat) : Int := if (j : Int) ∈ vs then ups.getD (N / ups.length ^ (vs.length - 1 - vs.idxOf (j : Int)) % ups.length) 0 else 0
def vrU (ups vs : List Int) (N : Nat) : List Int := (List.range 6).map (vatU ups vs N)
theorem vrU_len (ups vs : List Int) (N : Nat) : (vrU ups vs N).length = 6 := by simp [vrU]
theorem vrU_get {ups vs : List Int} {N j : Nat} (h : j < 6) : (vrU ups vs N).getD j 0 = vatU ups vs N j := by
  simp [vrU, List.getD_eq_getElem?_getD, h]
/-! From the end on. -/
def PDU (ups vs : List Int) (N k : Nat) (X : List Int) : Prop := X.length = 6 ∧ ∀ j : Nat, j < 6 → ((j : Int) ∈ vs.drop k → X.getD j 0 = vatU ups vs N j) ∧ (¬ (j : Int) ∈ vs.drop k → X.getD j 0 = 0)
theorem pdU_start {ups vs : List Int} {N k : Nat} (hk : vs.length ≤ k) : PDU ups vs N k (List.replicate 6 0) := ⟨by simp, fun j hj => ⟨fun h => by rw [List.drop_eq_nil_of_le hk] at h; simp at h, fun _ => by
  simp only [List.getD_eq_getElem?_getD, List.getElem?_replicate]
  split <;> rfl⟩⟩
theorem pdU_step {ups vs : List Int} {N k : Nat} {X : List Int} {v : Int} (h : PDU ups vs N (k + 1) X) (hv : VS vs) (hk : k < vs.length) (he : v = ups.getD (N / ups.length ^ (vs.length - 1 - k) % ups.length) 0) : PDU ups vs N k (X.set (vs.getD k 0).toNat v) := by
  obtain ⟨hm, h0, h6, hi⟩ := vs_get hv hk
  have hd : vs.drop k = vs.getD k 0 :: vs.drop (k + 1) := by
    rw [List.drop_eq_getElem_cons hk, List.getD_eq_getElem?_getD, List.getElem?_eq_getElem hk]; rfl
  refine ⟨by rw [List.length_set]; exact h.1, fun j hj => ?_⟩
  rw [getD_set_if _ _ _ _ _ (by rw [h.1]; omega), hd, List.mem_cons]
  by_cases e : (vs.getD k 0).toNat = j
  · rw [if_pos e]
    have ej : (j : Int) = vs.getD k 0 := by omega
    exact ⟨fun _ => by rw [vatU, if_pos (by rw [ej]; exact hm), ej, hi, he], fun h => absurd (.inl ej) h⟩
  · rw [if_neg e]
    have hne : ¬ (j : Int) = vs.getD k 0 := fun h => e (by omega)
    exact ⟨fun h2 => (h.2 j hj).1 (h2.elim (fun h => absurd h hne) id), fun h2 => (h.2 j hj).2 (fun h3 => h2 (.inr h3))⟩
theorem pdU_end {ups vs : List Int} {N : Nat} {X : List Int} (h : PDU ups vs N 0 X) : X = vrU ups vs N := by
  refine row_ext h.1 (vrU_len _ _ _) fun j hj => ?_
  rw [vrU_get hj]
  have := h.2 j hj
  rw [List.drop_zero] at this
  by_cases hm : (j : Int) ∈ vs
  · exact this.1 hm
  · rw [this.2 hm, vatU, if_neg hm]
/-! From the beginning on: p, the number of the first k digits. -/
def PVU (ups vs : List Int) (p k : Nat) (X : List Int) : Prop := X.length = 6 ∧ ∀ j : Nat, j < 6 → ((j : Int) ∈ vs.take k → X.getD j 0 = ups.getD (p / ups.length ^ (k - 1 - vs.idxOf (j : Int)) % ups.length) 0) ∧ (¬ (j : Int) ∈ vs → X.getD j 0 = 0)
theorem idx_take {vs : List Int} (hv : VS vs) {j k : Nat} (hk : k ≤ vs.length) (h : (j : Int) ∈ vs.take k) : vs.idxOf (j : Int) < k := by
  obtain ⟨t, ht, e⟩ := List.getElem_of_mem h
  rw [List.length_take] at ht
  rw [List.getElem_take] at e
  rw [← e, hv.1.idxOf_getElem t (by omega)]
  omega
theorem pvU_step {ups vs : List Int} {p k i : Nat} {X : List Int} (h : PVU ups vs p k X) (hv : VS vs) (hk : k < vs.length) (hi : i < ups.length) : PVU ups vs (p * ups.length + i) (k + 1) (X.set (vs.getD k 0).toNat (ups.getD i 0)) := by
  obtain ⟨hm, h0, h6, hix⟩ := vs_get hv hk
  refine ⟨by rw [List.length_set]; exact h.1, fun j hj => ⟨fun hjm => ?_, fun hjn => ?_⟩⟩
  · rw [getD_set_if _ _ _ _ _ (by rw [h.1]; omega)]
    by_cases e : (vs.getD k 0).toNat = j
    · rw [if_pos e]
      have ej : (j : Int) = vs.getD k 0 := by omega
      rw [ej, hix, show k + 1 - 1 - k = 0 by omega, Nat.pow_zero, Nat.div_one, Nat.mul_comm, Nat.mul_add_mod, Nat.mod_eq_of_lt hi]
    · rw [if_neg e]
      rw [List.take_succ_eq_append_getElem hk, List.mem_append, List.mem_singleton] at hjm
      rcases hjm with hjm | hjm
      · have hlt := idx_take hv (by omega) hjm
        rw [(h.2 j hj).1 hjm, show k + 1 - 1 - vs.idxOf (j : Int) = (k - 1 - vs.idxOf (j : Int)) + 1 by omega, Nat.pow_succ, Nat.mul_comm (ups.length ^ _) ups.length, ← Nat.div_div_eq_div_mul, Nat.mul_comm p, Nat.mul_add_div (by omega), Nat.div_eq_of_lt hi, Nat.add_zero]
      · exfalso
        apply e
        rw [List.getD_eq_getElem?_getD, List.getElem?_eq_getElem hk, Option.getD_some, ← hjm]
        omega
  · rw [getD_set_if _ _ _ _ _ (by rw [h.1]; omega), if_neg (by rintro rfl; exact hjn (by rw [show ((vs.getD k 0).toNat : Int) = vs.getD k 0 by omega]; exact hm))]
    exact (h.2 j hj).2 hjn
theorem pvU_end {ups vs : List Int} {p k : Nat} {X : List Int} (h : PVU ups vs p k X) (hk : k = vs.length) : X = vrU ups vs p := by
  subst hk
  refine row_ext h.1 (vrU_len _ _ _) fun j hj => ?_
  rw [vrU_get hj]
  by_cases hm : (j : Int) ∈ vs
  · rw [(h.2 j hj).1 (by rw [List.take_length]; exact hm), vatU, if_pos hm]
  · rw [(h.2 j hj).2 hm, vatU, if_neg hm]
theorem pvU_start (ups vs : List Int) : PVU ups vs 0 0 (List.replicate 6 0) := ⟨by simp, fun j hj => ⟨fun h => by simp at h, zero_out vs j hj⟩⟩
theorem pvU_of {ups vs : List Int} {N p k : Nat} (hv : VS vs) (hk : k ≤ vs.length) (h : N / ups.length ^ (vs.length - k) = p) : PVU ups vs p k (vrU ups vs N) := by
  refine ⟨vrU_len _ _ _, fun j hj => ⟨fun hjm => ?_, fun hjn => ?_⟩⟩
  · have hlt := idx_take hv hk hjm
    rw [vrU_get hj, vatU, if_pos (List.mem_of_mem_take hjm), ← h, Nat.div_div_eq_div_mul, ← Nat.pow_add, show vs.length - k + (k - 1 - vs.idxOf (j : Int)) = vs.length - 1 - vs.idxOf (j : Int) by omega]
  · rw [vrU_get hj, vatU, if_neg hjn]
/-- The last valuation of part i of the numbers that begin with p. -/
theorem last_div {U d p i N : Nat} (hi : i < U) (h1 : (p * U + i) * U ^ d ≤ N) (h2 : N < (p * U + i + 1) * U ^ d) : N / U ^ (d + 1) = p := by
  have hU : 0 < U ^ d := by
    rcases Nat.eq_zero_or_pos (U ^ d) with h | h
    · rw [h] at h2; omega
    · exact h
  have h3 : N / U ^ d = p * U + i := by
    apply Nat.div_eq_of_lt_le
    · exact h1
    · exact h2
  rw [Nat.pow_succ, ← Nat.div_div_eq_div_mul, h3, Nat.mul_comm p, Nat.mul_add_div (by omega), Nat.div_eq_of_lt hi, Nat.add_zero]
theorem img_zero (xs : List Int) : ∀ i : Nat, i ≤ 61 → img xs 0 i = 0
  | 0, _ => rfl
  | i + 1, h => by
    have := has_tb (n := 8) (i := i) (m := 0) (by decide) (inM_zero 8) (by omega)
    rw [img, if_neg (fun e => by have := this.1 e; rw [tb_zero] at this; cases this)]
    exact img_zero xs i (by omega)
theorem upTo_pos (xs : List Int) (h : xs.length ≤ 60) : ∀ k : Nat, 1 ≤ k → 1 ≤ (upTo xs k).length
  | 0, hk => by omega
  | 1, _ => by
    have e : img xs ((0 : Nat) : Int) xs.length = ((0 : Nat) : Int) := img_zero xs xs.length (by omega)
    rw [← upTo_yes e]
    simp
  | k + 2, _ => by
    have ih := upTo_pos xs h (k + 1) (by omega)
    by_cases e : img xs ((k + 1 : Nat) : Int) xs.length = ((k + 1 : Nat) : Int)
    · rw [← upTo_yes e]; simp
    · rw [← upTo_no e]; exact ih
theorem upL_pos {n : Int} {xs : List Int} (h : okPo n xs = true) : 1 ≤ (upL n xs).length := by
  have hF := okFr_rel (okPo_fr h)
  have hs := shl_rng n hF.1 (by omega)
  exact upTo_pos xs (by omega) _ (by omega)
/-- Is the formula not forced everywhere in the valuation N? -/
def badU (n : Int) (xs vs : List Int) (a : List (Int × Int)) (N : Nat) : Bool := !decide (fcd n xs (vrU (upL n xs) vs N) a = (shl64 1 n) - 1)
theorem badU_no {n : Int} {xs vs : List Int} {a : List (Int × Int)} {N : Nat} (h : fcd n xs (vrU (upL n xs) vs N) a = (shl64 1 n) - 1) : badU n xs vs a N = false := by simp [badU, h]
theorem badU_yes {n : Int} {xs vs : List Int} {a : List (Int × Int)} {N : Nat} (h : ¬ fcd n xs (vrU (upL n xs) vs N) a = (shl64 1 n) - 1) : badU n xs vs a N = true := by simp [badU, h]
def totU (n : Int) (xs vs : List Int) : Nat := (upL n xs).length ^ vs.length
def fstU (n : Int) (xs vs : List Int) (a : List (Int × Int)) : Option Nat := fstN (badU n xs vs a) (totU n xs vs)
def uRow (n : Int) (xs vs : List Int) (a : List (Int × Int)) : List Int := match fstU n xs vs a with | some N => vrU (upL n xs) vs N | none => []
def uVal (n : Int) (xs vs : List Int) (a : List (Int × Int)) : Int := match fstU n xs vs a with | some N => fcd n xs (vrU (upL n xs) vs N) a | none => 0
def uTo (n : Int) (xs vs : List Int) (a : List (Int × Int)) : Nat → Int
  | 0 => 0
  | N + 1 => bor (uTo n xs vs a N) (bnot ((shl64 1 n) - 1) (fcd n xs (vrU (upL n xs) vs N) a))
theorem tup3 {s : Nat} {a c : List Int} {b d : Int} {p q : Bool} (h : a = c) (h2 : b = d) (h3 : p = q) : AV.tup [ownA eI s 1 a, AI b, .bool p] = AV.tup [ownA eI s 1 c, AI d, .bool q] := by rw [h, h2, h3]
theorem tot_le {n : Int} {xs vs : List Int} (h : pwT ((upL n xs).length : Int) vs.length ≤ 4096) : (totU n xs vs : Int) = pwT ((upL n xs).length : Int) vs.length := (pwT_pow h vs.length (Nat.le_refl _)).symm

theorem variablesInG_c (l : List (List (Int × Int))) (vs : List Int) (hvs : vs = mem (vmT l l.length)) (hF : allF l = true) (hl : l.length ≤ 1000000000) : CallA Tryz.prog 27 [LLN l] (ownA eI 2 1 vs) := by rw [hvs]; exact variablesIn_c l hF hl
theorem l02VariablesG_c (a : List (Int × Int)) (vs : List Int) (hvs : vs = mem (vmT [a] [a].length)) (hF : isF a = true) : CallA Tryz.prog 52 [LN a] (ownA eI 2 1 vs) := by
  rw [hvs, vmT_one hF]
  exact l02VariablesM_c a (isF_parts hF).2.2.1 (isF_parts hF).1
theorem upsetsG_c (n : Int) (xs ups : List Int) (hu : ups = upL n xs) (hP : okPo n xs = true) : CallA Tryz.prog 44 [.agg [AI n, LI xs]] (ownA eI 2 1 ups) := by rw [hu]; exact upsets_c n xs hP
theorem l16UpsetsG_c (n : Int) (xs ups : List Int) (hu : ups = upL n xs) (hP : okPo n xs = true) : CallA Tryz.prog 50 [.agg [AI n, LI xs]] (ownA eI 2 1 ups) := by rw [hu]; exact l16Upsets_c n xs hP

theorem l17Values_c (ups : List Int) (vs : List Int) (N : Nat) (hVS : VS vs) (hu : 1 ≤ ups.length) (hul : ups.length ≤ 1000) (hvl : vs.length ≤ 62) (hN : (N : Int) ≤ 1000000) : CallA Tryz.prog 53 [LI ups, LI vs, AI (N : Int)] (ownA eI 2 1 (vrU ups vs N)) := by
  refine CallA.of Tryz.func53 rfl (by kernel_rfl) ?_
  refine R.go 14 (R.ar ((vs.length : Int) - 1) (by kernel_rfl) (by omega) (by omega) (by kernel_rfl) ?_)
  refine R.go 3 (R.loop ((fun | (k, X, q) => (⟨(frm 35 [(0, LI ups), (1, LI vs), (2, AI q), (7, .ref 0), (8, AI k)]), [rowA eI 2 1 X]⟩ : St) : Int × (List Int) × Int → St)) (fun | (k, X, q) => (-1 ≤ k) ∧ (k < vs.length) ∧ (PDU ups vs N (k + 1).toNat X) ∧ (q = ((N / ups.length ^ (vs.length - 1 - k).toNat : Nat) : Int))) (fun | (k, X, q) => (k + 1).toNat) (((vs.length : Int) - 1), (List.replicate 6 0), (N : Int)) [0, 1, 2, 7, 8] none (by kernel_rfl) (by kernel_rfl) (by kernel_rfl) ⟨(by omega), (by omega), (by exact pdU_start (by omega)), (by rw [show ((vs.length : Int) - 1 - ((vs.length : Int) - 1)).toNat = 0 by omega, Nat.pow_zero, Nat.div_one])⟩ ?_)
  rintro ⟨k, X, q⟩ ⟨h4_1, h4_2, h4_3, h4_4⟩ R1 N2
  have hP : PDU ups vs N (k + 1).toNat X := by assumption
  have hXl : X.length = 6 := hP.1
  have hg := fun h : 0 ≤ k => vs_get hVS (k := k.toNat) (by omega)
  have hqr : 0 ≤ q ∧ q ≤ 1000000 := by
    have h1 := Nat.div_le_self N (ups.length ^ (vs.length - 1 - k).toNat)
    have h2 : q = ((N / ups.length ^ (vs.length - 1 - k).toNat : Nat) : Int) := by assumption
    generalize N / ups.length ^ (vs.length - 1 - k).toNat = z at h1 h2
    omega
  have hqm : 0 ≤ q % (ups.length : Int) ∧ q % (ups.length : Int) < (ups.length : Int) := ⟨Int.emod_nonneg _ (by omega), Int.emod_lt_of_pos _ (by omega)⟩
  have hqd : 0 ≤ q / (ups.length : Int) ∧ q / (ups.length : Int) ≤ q := ⟨Int.ediv_nonneg (by omega) (by omega), Int.ediv_le_self _ (by omega)⟩
  refine R.go 6 (R.cond (k ≥ 0) (by kernel_rfl) (fun c5 => ?_) (fun c5 => ?_))
  · have hq : q = ((N / ups.length ^ (vs.length - 1 - k).toNat : Nat) : Int) := by assumption
    have hg2 := hg (by omega)
    have hk0 : 0 ≤ k := by omega
    refine R.go 8 (R.idx eI vs 0 ((k).toNat) k (by kernel_rfl) (by omega) eI_len (by omega) (by kernel_rfl) ?_)
    refine R.go 5 (R.rem q ups.length (by kernel_rfl) (by omega) (by omega) (by kernel_rfl) ?_)
    refine R.idx eI ups 0 ((q % ups.length).toNat) (q % ups.length) (by kernel_rfl) (by omega) eI_len (by omega) (by kernel_rfl) ?_
    refine R.go 1 (R.idxO 0 1 X.length (((vs.getD ((k).toNat) 0)).toNat) (vs.getD ((k).toNat) 0) (by kernel_rfl) (by omega) (by omega) (by kernel_rfl) ?_)
    refine R.stI 0 2 X (((vs.getD ((k).toNat) 0)).toNat) (ups.getD ((q % ups.length).toNat) 0) (by kernel_rfl) (by omega) (by kernel_rfl) ?_
    refine R.go 5 (R.quo q ups.length (by kernel_rfl) (by omega) (by omega) (by omega) (by kernel_rfl) ?_)
    refine R.go 5 (R.ar (k - 1) (by kernel_rfl) (by omega) (by omega) (by kernel_rfl) ?_)
    exact R.go 2 (R.stop R1 (by kernel_rfl) (N2 (k - 1, X.set (((vs.getD ((k).toNat) 0)).toNat) (ups.getD ((q % ups.length).toNat) 0), q / ups.length) [0, 1, 2, 7, 8] none _ (by kernel_rfl) (by kernel_rfl) ⟨(by omega), (by omega), (by rw [show (k - 1 + 1).toNat = k.toNat by omega]; exact pdU_step (by rw [show k.toNat + 1 = (k + 1).toNat by omega]; exact hP) hVS (by omega) (by rw [hq, show (vs.length - 1 - k).toNat = vs.length - 1 - k.toNat by omega, ← Int.natCast_emod, Int.toNat_natCast])), (by rw [hq, ← Int.natCast_ediv, Nat.div_div_eq_div_mul, ← Nat.pow_succ, show (vs.length - 1 - (k - 1)).toNat = (vs.length - 1 - k).toNat + 1 by omega])⟩ (by show (((k - 1) + 1).toNat) < ((k + 1).toNat); omega)))
  · exact R.go 6 (R.retE (ownA eI 2 1 X) (by kernel_rfl) (by kernel_rfl) (by first | (rw [pdU_end (ups := ups) (vs := vs) (N := N) (X := X) (by rw [show 0 = (k + 1).toNat by omega]; exact hP)]) | (exfalso; omega)))

theorem l17First_c (n : Int) (xs : List Int) (a : List (Int × Int)) (hR : okPo n xs = true) (hF : isF a = true) (hpl : a.any modN = false) (ht : pwT ((upL n xs).length : Int) (mem (vmT [a] [a].length)).length ≤ 4096) : CallA Tryz.prog 22 [.agg [AI n, LI xs], LN a] (.tup [ownA eI 2 1 (uRow n xs (mem (vmT [a] [a].length)) a), AI (uVal n xs (mem (vmT [a] [a].length)) a), .bool ((fstU n xs (mem (vmT [a] [a].length)) a).isSome)]) := by
  obtain ⟨vs, hvs⟩ : ∃ vs, vs = mem (vmT [a] [a].length) := ⟨_, rfl⟩
  obtain ⟨ups, hu⟩ : ∃ ups, ups = upL n xs := ⟨_, rfl⟩
  rw [← hvs] at ht ⊢
  rw [← hu] at ht
  have hfr : okFr n xs = true := okPo_fr hR
  have hFr := okFr_rel hfr
  have hb0 : 0 ≤ n ∧ n ≤ 8 ∧ (xs.length : Int) = n := ⟨hFr.1, hFr.2.1, hFr.2.2.1⟩
  have hAF : allF [a] = true := allF_one hF
  have hVS : VS vs := by rw [hvs]; exact VS_vmT hAF
  have hvl : vs.length ≤ 62 := by rw [hvs]; exact mem_le _
  have hul : ups.length ≤ 256 := by rw [hu]; exact upL_len hR
  have hup : 1 ≤ ups.length := by rw [hu]; exact upL_pos hR
  have htt : (totU n xs vs : Int) = pwT (ups.length : Int) vs.length := by rw [hu]; rw [hu] at ht; exact tot_le ht
  have hok : OKM 6 a := (isF_okm hF).1
  have hal : a.length ≤ 40 := (isF_okm hF).2
  have hok2 := fun N => show OKM (vrU ups vs N).length a by rw [vrU_len]; exact hok
  have hlen := okm_pos hok
  refine CallA.of Tryz.func22 rfl (by kernel_rfl) ?_
  refine R.go 10 (R.call true (l16UpsetsG_c n xs ups (by assumption) hR).frz (by kernel_rfl) rfl (by kernel_rfl) ?_)
  refine R.go 1 (R.call true (l02VariablesG_c a vs (by assumption) hF).frz (by kernel_rfl) rfl (by kernel_rfl) ?_)
  refine R.go 9 (R.call true (l17Power_c ups.length vs.length (by first | omega | (simp <;> omega)) (by first | omega | (simp <;> omega)) (by first | omega | (simp <;> omega))) (by kernel_rfl) rfl (by kernel_rfl) ?_)
  refine R.go 8 (R.loop (fun (N : Nat) => (⟨(frm 42 [(1, LN a), (2, .ptr 0 0), (7, LI ups), (8, LI vs), (9, AI (pwT ups.length vs.length)), (10, AI (N : Int))]), [.box 26 [AI n, LI xs]]⟩ : St)) (fun (N : Nat) => ((N : Int) ≤ pwT (ups.length : Int) vs.length) ∧ (∀ M : Nat, M < N → badU n xs vs a M = false)) (fun (N : Nat) => (totU n xs vs) - N) 0 [1, 2, 7, 8, 9, 10] none (by kernel_rfl) (by kernel_rfl) (by kernel_rfl) ⟨(by omega), (by exact fun M hM => absurd hM (by omega))⟩ ?_)
  rintro N ⟨h3_1, h3_2⟩ R1 N2
  have hoX := hok2 N
  have hvl6 := vrU_len ups vs N
  refine R.go 7 (R.cond ((N : Int) < (pwT ups.length vs.length)) (by kernel_rfl) (fun c4 => ?_) (fun c4 => ?_))
  · refine R.go 8 (R.call true (l17Values_c ups vs N hVS hup (by first | omega | (simp <;> omega)) hvl (by omega)) (by kernel_rfl) rfl (by kernel_rfl) ?_)
    refine R.go 7 (R.call false (l17ForceF_c n xs (vrU ups vs N) a (by assumption) hpl hfr (by first | omega | (simp <;> omega))) (by kernel_rfl) rfl (by kernel_rfl) ?_)
    refine R.go 7 (R.call true (l01Full_c n (by omega) (by omega)) (by kernel_rfl) rfl (by kernel_rfl) ?_)
    refine R.go 2 (R.condN ((fcd n xs (vrU ups vs N) a) = ((shl64 1 n) - 1)) (by kernel_rfl) (fun c5 => ?_) (fun c5 => ?_))
    · exact R.go 8 (R.retE (.tup [ownA eI 2 1 (vrU ups vs N), AI (fcd n xs (vrU ups vs N) a), .bool true]) (by kernel_rfl) (by kernel_rfl) (by first | (refine tup3 ?_ ?_ ?_ <;> first | (have e : fstU n xs vs a = some N := fst_some (‹∀ M : Nat, M < N → badU n xs vs a M = false›) (badU_yes (by rw [← hu]; assumption)) (by omega); simp [uRow, uVal, e, ← hu]; done) | (have e : fstU n xs vs a = none := fst_none (fun M hM => (‹∀ M : Nat, M < N → badU n xs vs a M = false›) M (by omega)); simp [uRow, uVal, e]; done)) | (exfalso; omega)))
    · refine R.go 4 (R.ar ((N : Int) + 1) (by kernel_rfl) (by omega) (by omega) (by kernel_rfl) ?_)
      exact R.go 2 (R.stop R1 (by kernel_rfl) (N2 (N + 1) [1, 2, 7, 8, 9, 10] (some [0]) _ (by kernel_rfl) (by kernel_rfl) ⟨(by omega), (by exact below_succ (by assumption) (badU_no (by rw [← hu]; assumption)))⟩ (by show ((totU n xs vs) - (N + 1)) < ((totU n xs vs) - N); omega)))
  · refine R.go 7 (R.nil 4 2 1 (by kernel_rfl) ?_)
    exact R.retE (.tup [ownA eI 2 1 [], AI 0, .bool false]) (by kernel_rfl) (by kernel_rfl) (by first | (refine tup3 ?_ ?_ ?_ <;> first | (have e : fstU n xs vs a = some N := fst_some (‹∀ M : Nat, M < N → badU n xs vs a M = false›) (badU_yes (by rw [← hu]; assumption)) (by omega); simp [uRow, uVal, e, ← hu]; done) | (have e : fstU n xs vs a = none := fst_none (fun M hM => (‹∀ M : Nat, M < N → badU n xs vs a M = false›) M (by omega)); simp [uRow, uVal, e]; done)) | (exfalso; omega))

def pvV (n : Int) (xs : List Int) (a : List (Int × Int)) : Bool := decide (pcode n xs [a] = 0) && (fstU n xs (mem (vmT [a] [a].length)) a).isNone
theorem pv_no {n : Int} {xs : List Int} {a : List (Int × Int)} (h : ¬ pcode n xs [a] = 0) : AV.tup [.bool false, AI (pcode n xs [a])] = AV.tup [.bool (pvV n xs a), AI (pcode n xs [a])] := by rw [pvV, decide_eq_false h]; rfl
theorem pv_yes {n : Int} {xs : List Int} {a : List (Int × Int)} (h : pcode n xs [a] = 0) : AV.tup [.bool (fstU n xs (mem (vmT [a] [a].length)) a).isNone, AI 0] = AV.tup [.bool (pvV n xs a), AI (pcode n xs [a])] := by rw [pvV, decide_eq_true h, h]; rfl
theorem pl_one {a : List (Int × Int)} (h : allPl [a] = true) : a.any modN = false := by simpa [allPl, anyM] using h
theorem isF_all {a : List (Int × Int)} (h : allF [a] = true) : isF a = true := by
  have := allF_get h 0 (by simp)
  exact this
def ueV (n : Int) (xs : List Int) (a : List (Int × Int)) : Int := if pcode n xs [a] = 0 then uTo n xs (mem (vmT [a] [a].length)) a (totU n xs (mem (vmT [a] [a].length))) else 0
theorem ue_no {n : Int} {xs : List Int} {a : List (Int × Int)} (h : ¬ pcode n xs [a] = 0) : AV.tup [AI 0, AI (pcode n xs [a])] = AV.tup [AI (ueV n xs a), AI (pcode n xs [a])] := by rw [ueV, if_neg h]
theorem ue_yes {n : Int} {xs vs : List Int} {a : List (Int × Int)} {N : Nat} (h : pcode n xs [a] = 0) (hv : vs = mem (vmT [a] [a].length)) (hN : N = totU n xs vs) : AV.tup [AI (uTo n xs vs a N), AI 0] = AV.tup [AI (ueV n xs a), AI (pcode n xs [a])] := by subst hv; subst hN; rw [ueV, if_pos h, h]

end Go.Proofs.YtogehjciaamcfaaGreat
