/- Texts of the proof: Sym2, SymL, SymM, Sym4, Sym6, Sym9, Syma, Symb, Symc, Syme, Symf, Symk. -/
import Derived.Shelf.SortM.Plain
import Derived.Shelf.SortM.SortNone
import Derived.Sort.OwnSortedInts
import Derived.Maps.OwnSet
import Derived.Test.YtjllngcefoohpaaPartF

/-! Calls that change the caller's objects: under a further frame; with objects left out. -/
namespace Go.Abs
open Go.RowKit

theorem idx_range {n i : Nat} (h : i < n) : (List.range n).idxOf i = i := by
  have hm : i ∈ List.range n := List.mem_range.2 h
  have hlt := List.idxOf_lt_length_iff.2 hm
  have := List.getElem_idxOf hlt
  rw [List.getElem_range] at this
  exact this

mutual
theorem Rel.mix {w w' : World} {Z Z' : Nat → Prop} {μ μ1 μ2 : List Value} {n : Nat} (hA : ∀ (i : Nat) u, i < n → μ1[i]? = some u → μ2[i]? = some u) (hB : ∀ (i : Nat) u, n ≤ i → μ[i]? = some u → μ2[i]? = some u) :
    ∀ {c : AV} {v : Value}, Rel w Z μ c v → Rel w' Z' μ1 (c.ren (List.range n)) v → Rel w' Z' μ2 c v
  | .int _ _, _, _, h => by simpa [Rel, AV.ren] using h
  | .bool _, _, _, h => by simpa [Rel, AV.ren] using h
  | .str _, _, _, h => by simpa [Rel, AV.ren] using h
  | .nil, _, _, h => by simpa [Rel, AV.ren] using h
  | .top, _, _, _ => by simp [Rel]
  | .own _ _ _ _, _, h, _ => by simp [Rel] at h
  | .lst _ _ _, _, _, h => by simpa [Rel, AV.ren] using h
  | .clp _ _ _, _, _, h => by simpa [Rel, AV.ren] using h
  | .nam _ _ _ _ _, _, _, h => by simpa [Rel, AV.ren] using h
  | .rptr _, _, _, h => by simpa [Rel, AV.ren] using h
  | .ref i, v, h1, h2 => by
    simp only [Rel] at h1 ⊢
    rcases Nat.lt_or_ge i n with hi | hi
    · have hc : (List.range n).contains i = true := by simpa using hi
      simp only [AV.ren, hc, if_true, idx_range hi, Rel] at h2
      exact hA i v hi h2
    · exact hB i v hi h1
  | .ptr i o, v, h1, h2 => by
    simp only [Rel] at h1 ⊢
    rcases Nat.lt_or_ge i n with hi | hi
    · have hc : (List.range n).contains i = true := by simpa using hi
      simp only [AV.ren, hc, if_true, idx_range hi, Rel] at h2
      obtain ⟨u, g, e1, e2, e3⟩ := h2
      exact ⟨u, g, hA i u hi e1, e2, e3⟩
    · obtain ⟨u, g, e1, e2, e3⟩ := h1
      exact ⟨u, g, hB i u hi e1, e2, e3⟩
  | .agg cs, v, h1, h2 => by
    simp only [Rel, AV.ren] at h1 h2 ⊢
    obtain ⟨xs, e1, r1⟩ := h1
    obtain ⟨ys, e2, r2⟩ := h2
    rw [e1] at e2
    simp only [Value.agg.injEq] at e2
    have e3 : xs = ys := by simpa using e2
    subst e3
    exact ⟨xs, e1, RelL.mix hA hB r1 r2⟩
  | .tup cs, v, h1, h2 => by
    simp only [Rel, AV.ren] at h1 h2 ⊢
    obtain ⟨xs, e1, r1⟩ := h1
    obtain ⟨ys, e2, r2⟩ := h2
    rw [e1] at e2
    simp only [Value.tuple.injEq] at e2
    have e3 : xs = ys := by simpa using e2
    subst e3
    exact ⟨xs, e1, RelL.mix hA hB r1 r2⟩
  | .fn f cs, v, h1, h2 => by
    simp only [Rel, AV.ren] at h1 h2 ⊢
    obtain ⟨xs, e1, r1⟩ := h1
    obtain ⟨ys, e2, r2⟩ := h2
    rw [e1] at e2
    simp only [Value.func.injEq, true_and] at e2
    have e3 : xs = ys := by simpa using e2
    subst e3
    exact ⟨xs, e1, RelL.mix hA hB r1 r2⟩
theorem RelL.mix {w w' : World} {Z Z' : Nat → Prop} {μ μ1 μ2 : List Value} {n : Nat} (hA : ∀ (i : Nat) u, i < n → μ1[i]? = some u → μ2[i]? = some u) (hB : ∀ (i : Nat) u, n ≤ i → μ[i]? = some u → μ2[i]? = some u) :
    ∀ {cs : List AV} {vs : List Value}, RelL w Z μ cs vs → RelL w' Z' μ1 (renL (List.range n) cs) vs → RelL w' Z' μ2 cs vs
  | [], _, _, h => by simpa [RelL, renL] using h
  | c :: cs, _, h1, h2 => by
    simp only [RelL, renL] at h1 h2 ⊢
    obtain ⟨x, xs, e1, a1, b1⟩ := h1
    obtain ⟨y, ys, e2, a2, b2⟩ := h2
    rw [e1] at e2
    simp only [List.cons.injEq] at e2
    obtain ⟨rfl, rfl⟩ := e2
    exact ⟨x, xs, e1, Rel.mix hA hB a1 a2, RelL.mix hA hB b1 b2⟩
end

/-- One object more, of which nothing is known. -/
theorem HRel.addDead {w : World} {Z : Nat → Prop} {B : Nat} {μ : List Value} {hp : List AObj} (h : HRel w Z B μ hp) (u : Value) (hu : u.oneCell' = true) : HRel w Z B (μ ++ [u]) (hp ++ [.dead]) := by
  have split : ∀ (i : Nat) oi ui, (hp ++ [.dead])[i]? = some oi → (μ ++ [u])[i]? = some ui → (hp[i]? = some oi ∧ μ[i]? = some ui) ∨ oi = .dead := by
    intro i oi ui h1 h2
    rcases Nat.lt_or_ge i hp.length with hi | hi
    · rw [List.getElem?_append_left hi] at h1
      rw [List.getElem?_append_left (by rw [h.len]; exact hi)] at h2
      exact .inl ⟨h1, h2⟩
    · rw [List.getElem?_append_right hi] at h1
      rcases Nat.eq_zero_or_pos (i - hp.length) with h0 | h0
      · rw [h0] at h1; simp at h1; exact .inr h1.symm
      · rw [List.getElem?_eq_none (by simp; omega)] at h1; cases h1
  refine ⟨by simp [h.len], fun i oi ui g h1 ha h2 hg => ?_, fun i x hx => ?_, fun i oi ui h1 h2 => ?_, fun i j oi oj ui uj g hne h1 h2 a1 a2 m1 m2 b1 b2 => ?_⟩
  · rcases split i oi ui h1 h2 with ⟨e1, e2⟩ | rfl
    · exact h.zone i oi ui g e1 ha e2 hg
    · cases ha
  · rcases Nat.lt_or_ge i μ.length with hi | hi
    · rw [List.getElem?_append_left hi] at hx
      exact h.one i x hx
    · rw [List.getElem?_append_right hi] at hx
      rcases Nat.eq_zero_or_pos (i - μ.length) with h0 | h0
      · rw [h0] at hx; simp at hx; rw [← hx]; exact hu
      · rw [List.getElem?_eq_none (by simp; omega)] at hx; cases hx
  · rcases split i oi ui h1 h2 with ⟨e1, e2⟩ | rfl
    · exact (h.obj i oi ui e1 e2).keep (fun _ _ _ => rfl) (fun i u hu => append_old i u hu) (fun _ _ => rfl)
    · trivial
  · rcases split i oi ui h1 m1 with ⟨e1, e2⟩ | rfl
    · rcases split j oj uj h2 m2 with ⟨e3, e4⟩ | rfl
      · exact h.sep i j oi oj ui uj g hne e1 e3 a1 a2 e2 e4 b1 b2
      · cases a2
    · cases a1

/-- A caller's frame where nothing is known. -/
theorem HRel.frameAt {w : World} {Z : Nat → Prop} {B n : Nat} {μ : List Value} {hp : List AObj} {us : List Value} {fr : List AV} (h : HRel w Z B μ hp) (hd : hp[n]? = some .dead) (hr : RelL w Z μ fr us) : HRel w Z B μ (hp.set n (.frame us fr)) := by
  have hn := (List.getElem?_eq_some_iff.1 hd).1
  have get : ∀ (i : Nat) oi, (hp.set n (.frame us fr))[i]? = some oi → oi = .frame us fr ∨ hp[i]? = some oi := by
    intro i oi h1
    by_cases e : n = i
    · subst e
      rw [List.getElem?_set_self hn] at h1
      simp at h1; exact .inl h1.symm
    · rw [List.getElem?_set_ne e] at h1; exact .inr h1
  refine ⟨by rw [List.length_set]; exact h.len, fun i oi ui g h1 ha h2 hg => ?_, h.one, fun i oi ui h1 h2 => ?_, fun i j oi oj ui uj g hne h1 h2 a1 a2 m1 m2 b1 b2 => ?_⟩
  · rcases get i oi h1 with rfl | h1
    · cases ha
    · exact h.zone i oi ui g h1 ha h2 hg
  · rcases get i oi h1 with rfl | h1
    · exact hr
    · exact h.obj i oi ui h1 h2
  · rcases get i oi h1 with rfl | h1
    · cases a1
    · rcases get j oj h2 with rfl | h2
      · cases a2
      · exact h.sep i j oi oj ui uj g hne h1 h2 a1 a2 m1 m2 b1 b2

def renH (js : List Nat) (hp : List AObj) : List AObj := js.map fun i => (hp.getD i .dead).ren js
/-- The caller's frame laid between the n objects of the call and those that the call has made. -/
def insJ (n m : Nat) : List Nat := List.range n ++ (m :: (List.range (m - n)).map (· + n))
def insF (n : Nat) (us : List Value) (fr : List AV) (hp : List AObj) : List AObj := (renH (insJ n hp.length) (hp ++ [.dead])).set n (.frame us fr)

theorem insJ_nodup {n m : Nat} (h : n ≤ m) : (insJ n m).Nodup := by
  unfold insJ
  rw [List.nodup_append]
  refine ⟨List.nodup_range, ?_, ?_⟩
  · rw [List.nodup_cons]
    refine ⟨?_, ?_⟩
    · intro hm
      rw [List.mem_map] at hm
      obtain ⟨k, hk, e⟩ := hm
      rw [List.mem_range] at hk
      omega
    · rw [List.nodup_iff_pairwise_ne, List.pairwise_map]
      exact List.nodup_range.imp fun h e => h (by omega)
  · intro a ha b hb e
    rw [List.mem_range] at ha
    rw [List.mem_cons, List.mem_map] at hb
    rcases hb with hb | ⟨k, _, hk⟩ <;> omega

theorem CallS.frame {P : Program} {f : FuncId} {args : List AV} {hp : List AObj} {res : AV} {hp' : List AObj} (us2 : List Value) (fr2 : List AV) (hc : CallS P f args hp res hp') (h1 : renH (List.range hp.length) hp = hp)
    (h2 : renL (List.range hp.length) args = args) (h3 : hp.length ≤ hp'.length) : CallS P f args (hp ++ [.frame us2 fr2]) (res.ren (insJ hp.length hp'.length)) (insF hp.length us2 fr2 hp') := by
  obtain ⟨hen, hc⟩ := hc
  refine ⟨hen, ?_⟩
  intro Z0 F w0 w μ vs us fr hFb hH hvs hus hbel
  have hml : μ.length = hp.length + 1 := by rw [hH.len]; simp
  have hH0 := hH.ren (List.range hp.length) List.nodup_range
  have e0 : ((List.range hp.length).map fun i => ((hp ++ [AObj.frame us2 fr2]).getD i .dead).ren (List.range hp.length)) = hp := by
    refine Eq.trans (List.map_congr_left fun i hi => ?_) h1
    have hi := List.mem_range.1 hi
    simp only [List.getD_eq_getElem?_getD]
    rw [List.getElem?_append_left hi]
  rw [e0] at hH0
  have hvs0 := hvs.ren (List.range hp.length)
  rw [h2] at hvs0
  have hn2 : (hp ++ [AObj.frame us2 fr2])[hp.length]? = some (.frame us2 fr2) := by simp
  obtain ⟨u, hu⟩ : ∃ u, μ[hp.length]? = some u := ⟨_, List.getElem?_eq_getElem (by omega)⟩
  have hf2 : RelL w (Zone Z0 F w0.heap.size) μ fr2 us2 := hH.obj _ _ u hn2 hu
  have hus0 := (hus.append hf2).ren (List.range hp.length)
  refine (hc Z0 F w0 w _ vs (us ++ us2) _ hFb hH0 hvs0 hus0 hbel).mono ?_
  rintro e w' ⟨v, μ1, F1, rfl, hF1, hH1, hres, hfr1, hb1⟩
  have hm1 := hH1.len
  have hHd := hH1.addDead u (hH.one _ u hu)
  have hH2 := hHd.ren (insJ hp.length hp'.length) (insJ_nodup h3)
  obtain ⟨μ2, hμ2⟩ : ∃ μ2, μ2 = ((insJ hp.length hp'.length).map fun i => (μ1 ++ [u]).getD i (.bool false)) := ⟨_, rfl⟩
  have hA : ∀ (i : Nat) x, i < hp.length → μ1[i]? = some x → μ2[i]? = some x := by
    intro i x hi hx
    have hj : (insJ hp.length hp'.length)[i]? = some i := by
      unfold insJ
      rw [List.getElem?_append_left (by simpa using hi)]
      simp [hi]
    rw [hμ2, List.getElem?_map, hj]
    simp only [Option.map_some, List.getD_eq_getElem?_getD]
    rw [List.getElem?_append_left (by omega), hx]
    rfl
  have hB : ∀ (i : Nat) x, hp.length ≤ i → μ[i]? = some x → μ2[i]? = some x := by
    intro i x hi hx
    have hin : i = hp.length := by have := (List.getElem?_eq_some_iff.1 hx).1; omega
    subst hin
    rw [hu] at hx
    have hj : (insJ hp.length hp'.length)[hp.length]? = some hp'.length := by
      unfold insJ
      rw [List.getElem?_append_right (by simp)]
      simp
    rw [hμ2, List.getElem?_map, hj]
    simp only [Option.map_some, List.getD_eq_getElem?_getD]
    rw [List.getElem?_append_right (by omega), hm1]
    simpa using hx
  rw [← hμ2] at hH2
  have hall := RelL.mix hA hB (hus.append hf2) hfr1
  have hul := hus.length
  have hfr : RelL w' (Zone Z0 F1 w0.heap.size) μ2 fr us := by
    have := hall.take fr.length
    rwa [List.take_left, ← hul, List.take_left] at this
  have hfr2 : RelL w' (Zone Z0 F1 w0.heap.size) μ2 fr2 us2 := by
    have := hall.drop fr.length
    rwa [List.drop_left, ← hul, List.drop_left] at this
  refine ⟨v, μ2, F1, rfl, hF1, ?_, ?_, hfr, hb1⟩
  · refine hH2.frameAt ?_ hfr2
    have hj : (insJ hp.length hp'.length)[hp.length]? = some hp'.length := by
      unfold insJ
      rw [List.getElem?_append_right (by simp)]
      simp
    rw [List.getElem?_map, hj]
    simp [AObj.ren]
  · rw [hμ2]
    exact Rel.ren _ (Rel.keep (w := w') (fun _ _ _ => rfl) (fun i u hu => append_old i u hu) hres)

/-- Objects left out that the call has made, or put in another order. -/
theorem CallS.drop {P : Program} {f : FuncId} {args : List AV} {hp : List AObj} {res : AV} {hp' : List AObj} (js : List Nat) (hc : CallS P f args hp res hp') (h1 : js.take hp.length = List.range hp.length) (h2 : js.Nodup) :
    CallS P f args hp (res.ren js) (renH js hp') := by
  obtain ⟨hen, hc⟩ := hc
  refine ⟨hen, ?_⟩
  intro Z0 F w0 w μ vs us fr hFb hH hvs hus hbel
  refine (hc Z0 F w0 w μ vs us fr hFb hH hvs hus hbel).mono ?_
  rintro e w' ⟨v, μ1, F1, rfl, hF1, hH1, hres, hfr1, hb1⟩
  have hm1 := hH1.len
  have hjs : ∀ i, i < hp.length → js[i]? = some i := by
    intro i hi
    have := congrArg (fun l : List Nat => l[i]?) h1
    simp only [List.getElem?_take, if_pos hi] at this
    rw [this]
    simp [hi]
  refine ⟨v, _, F1, rfl, hF1, hH1.ren js h2, Rel.ren js hres, ?_, hb1⟩
  refine RelL.mix (n := hp.length) ?_ ?_ hus (hfr1.ren (List.range hp.length))
  · intro i x hi hx
    rw [List.getElem?_map, hjs i hi]
    rw [List.getElem?_map] at hx
    simpa [hi] using hx
  · intro i x hi hx
    have h4 := (List.getElem?_eq_some_iff.1 hx).1
    have h5 := hH.len
    omega

end Go.Abs


/-! Calls of which only what holds behind them is told (draws). -/
namespace Go.Abs
open Go.RowKit Go.ChangeShapes Go.WideShapes Go.Deep

/-- A call by reference: behind it the objects and the result are some of those that Φ tells. -/
def CallX (P : Program) (f : FuncId) (args : List AV) (hp : List AObj) (Φ : AV → List AObj → Prop) : Prop :=
  Enters P f ∧ ∀ (Z0 F : Nat → Prop) (w0 w : World) (μ vs us : List Value) (fr : List AV), (∀ b, F b → w0.heap.size ≤ b ∧ b < w.heap.size) → HRel w (Zone Z0 F w0.heap.size) w0.heap.size μ hp → RelL w (Zone Z0 F w0.heap.size) μ args vs → RelL w (Zone Z0 F w0.heap.size) μ fr us → Below w0.heap.size w0 w →
    Calls P f vs.toArray w fun e w' => ∃ v μ' F' res hp', Φ res hp' ∧ e = .returned v ∧ (∀ b, F' b → w0.heap.size ≤ b ∧ b < w'.heap.size) ∧ HRel w' (Zone Z0 F' w0.heap.size) w0.heap.size μ' hp' ∧ Rel w' (Zone Z0 F' w0.heap.size) μ' res v ∧ RelL w' (Zone Z0 F' w0.heap.size) μ' fr us ∧ Below w0.heap.size w0 w'

section
variable {rd : Option Nat} {P : Program} {m : M} {Q : Exit → St → Prop}

theorem CallX.mono {f : FuncId} {args : List AV} {hp : List AObj} {Φ Ψ : AV → List AObj → Prop} (h : CallX P f args hp Φ) (hm : ∀ r h', Φ r h' → Ψ r h') : CallX P f args hp Ψ := by
  refine ⟨h.1, fun Z0 F w0 w μ vs us fr hFb hH hvs hus hbel => (h.2 Z0 F w0 w μ vs us fr hFb hH hvs hus hbel).mono ?_⟩
  rintro e w' ⟨v, μ', F', res, hp', hΦ, r⟩
  exact ⟨v, μ', F', res, hp', hm _ _ hΦ, r⟩

theorem CallS.toX {f : FuncId} {args : List AV} {hp : List AObj} {res : AV} {hp' : List AObj} (h : CallS P f args hp res hp') : CallX P f args hp fun r h' => r = res ∧ h' = hp' := by
  refine ⟨h.1, fun Z0 F w0 w μ vs us fr hFb hH hvs hus hbel => (h.2 Z0 F w0 w μ vs us fr hFb hH hvs hus hbel).mono ?_⟩
  rintro e w' ⟨v, μ', F', r⟩
  exact ⟨v, μ', F', res, hp', ⟨rfl, rfl⟩, r⟩

/-- How the body of such a function ends. -/
def retX (P : Program) (fn : Func) (n : Nat) (us : List Value) (fr : List AV) (Φ : AV → List AObj → Prop) : Exit → St → Prop := fun e st' => ∃ res hp', Φ res hp' ∧ Go.Abs.retS P fn n us fr res hp' e st'

theorem CallX.of {f : FuncId} {fn : Func} {c : Code} {args : List AV} {hp : List AObj} {Φ : AV → List AObj → Prop} (hf : P.funcs[f]? = some fn) (hb : fn.body = some c) (hnm : (fn.name == "runtime.NumGoroutine") = false)
    (h : ∀ us fr, Runs none P ⟨[.code c], ⟨frameOf fn.ntmps args, hp ++ [.frame us fr]⟩⟩ (retX P fn hp.length us fr Φ)) : CallX P f args hp Φ := by
  refine ⟨enters_of hf hnm (by rw [hb]; rfl), ?_⟩
  intro Z0 F w0 w μ vs us fr hFb hH hvs hus hbel
  have hlen := hvs.length
  refine calls_of_wpIn hf hb ?_
  have hS : Sim Z0 w0 ⟨frameOf fn.ntmps args, hp ++ [.frame us fr]⟩ { tmps := vs.toArray ++ Array.replicate (fn.ntmps - vs.toArray.size) undef, defers := [] } w := by
    refine ⟨μ ++ [.bool false], F, hFb, hH.extend1 (zone_new hbel.size hFb) (Below.refl _ _) ?_ (fun g hg => by simp [blk] at hg) rfl, ?_, .inl rfl, hbel⟩
    · exact RelL.keep (w := w) (fun _ _ _ => rfl) (fun i u hu => append_old i u hu) hus
    · simp only [Array.toList_append, Array.toList_replicate, List.size_toArray, hlen, frameOf]
      refine RelL.append (RelL.keep (w := w) (fun _ _ _ => rfl) (fun i u hu => append_old i u hu) hvs) ?_
      generalize fn.ntmps - args.length = n
      induction n with
      | zero => exact RelL.nil
      | succ n ih => exact RelL.cons (by simp [Rel]) ih
  have hrun2 := h us fr
  simp only [runs_iff] at hrun2
  simp only [RunsK] at hrun2
  refine wpIn_mono (hrun2 Z0 w0 _ w hS) ?_
  have fin : ∀ (e : Exit) (st' : St) (a' : Act) (w' : World), retX P fn hp.length us fr Φ e st' → Sim Z0 w0 st' a' w' → a'.defers = [] ∧ ∃ v, (results fn a'.tmps).run P w' = .ok v w' ∧ ∃ v' μ' F' res hp', Φ res hp' ∧ Ending.returned v = .returned v' ∧ (∀ b, F' b → w0.heap.size ≤ b ∧ b < w'.heap.size) ∧ HRel w' (Zone Z0 F' w0.heap.size) w0.heap.size μ' hp' ∧ Rel w' (Zone Z0 F' w0.heap.size) μ' res v' ∧ RelL w' (Zone Z0 F' w0.heap.size) μ' fr us ∧ Below w0.heap.size w0 w' := by
    rintro e st' a' w' ⟨res, hp', hΦ, _, hres, hfr, hh⟩ ⟨μ', F', hFb', hH', hF', hd', hbel'⟩
    obtain ⟨x, h1, h2⟩ := resIn_run hH' hF' hres
    unfold frameAt at hfr
    split at hfr
    · rename_i us2 fr2 hi
      cases hfr
      have hil : hp.length < μ'.length := by rw [hH'.len]; exact (List.getElem?_eq_some_iff.1 hi).1
      have hfrr : RelL w' (Zone Z0 F' w0.heap.size) μ' fr us := hH'.obj _ _ _ hi (List.getElem?_eq_getElem hil)
      exact ⟨hd'.none (resIn_mark hres), x, h1, x, μ', F', res, hp', hΦ, rfl, hFb', hh ▸ hH'.bury _, h2, hfrr, hbel'⟩
    · cases hfr
  rintro e a' w' ⟨st', hq, hS'⟩
  cases e with
  | normal => exact fin _ st' a' w' hq hS'
  | ret => exact fin _ st' a' w' hq hS'
  | exit id => (obtain ⟨_, _, _, hq, _⟩ := hq; exact absurd hq (by simp))
  | goto l => (obtain ⟨_, _, _, hq, _⟩ := hq; exact absurd hq (by simp))
  | panic ch => (obtain ⟨_, _, _, hq, _⟩ := hq; exact absurd hq (by simp))
  | outgrown => (obtain ⟨_, _, _, hq, _⟩ := hq; exact absurd hq (by simp))

theorem R.retX {fn : Func} {n : Nat} {us : List Value} {fr : List AV} {Φ : AV → List AObj → Prop} {res : AV} {hp' : List AObj} (h : (edAt m).isSome = true) (hr : resIn P fn m.st = some res) (hf : frameAt n m.st = some (us, fr)) (hh : m.st.hp.set n .dead = hp') (hΦ : Φ res hp') :
    Runs rd P m (Go.Abs.retX P fn n us fr Φ) :=
  R.fin h ⟨res, hp', hΦ, .inl rfl, hr, hf, hh⟩ ⟨res, hp', hΦ, .inr rfl, hr, hf, hh⟩

theorem OpsQ.callX {all : Array Oper} {o : Oper} {l : List Oper} {fr : List AV} {hp : List AObj} {R : Exit → St → Prop} {c : Operand} {args : Array Operand} {tys : Array TypeId} {f : FuncId} {caps : List AV} {Φ : AV → List AObj → Prop} (hnm : noMark hp = true) (hw : WantedA all o fr)
    (hop : o.op = .call { callee := .value c, args := args, argTypes := tys }) (hc : ev fr c = .fn f caps) (hcall : CallX P f (args.toList.map (ev fr) ++ caps) hp Φ) (h' : ∀ res hp', Φ res hp' → OpsQ rd P all l ⟨putF fr o.dst res, hp'⟩ R) : OpsQ rd P all (o :: l) ⟨fr, hp⟩ R := by
  intro Z0 w0 a w hS
  refine wpListIn_step fun K hK => ?_
  obtain ⟨μ, F, hFb, hH, hF, hd, hb⟩ := hS
  rw [wanted_rel hF hw, if_pos rfl]
  have hE : ∀ y, Rel w (Zone Z0 F w0.heap.size) μ (ev fr y) (a.eval y) := fun y => ev_rel hF y
  have hcv := hc ▸ hE c
  simp only [Rel] at hcv
  obtain ⟨cv, hcv, hrc⟩ := hcv
  have hargs' : RelL w (Zone Z0 F w0.heap.size) μ (args.toList.map (ev fr)) (args.toList.map a.eval) := by
    generalize args.toList = l
    induction l with
    | nil => exact RelL.nil
    | cons x l ih => exact RelL.cons (hE x) ih
  obtain ⟨hen, hcall⟩ := hcall
  have hC := hcall Z0 F w0 w μ _ _ fr hFb hH (hargs'.append hrc) hF hb
  have hrun : (execOp a.eval o).run P w = .ok (.enter f (args.toList.map a.eval ++ cv).toArray) w := by
    have e1 : (args.map a.eval ++ cv.toArray) = (args.toList.map a.eval ++ cv).toArray := by
      apply Array.toList_inj.1; simp
    simp only [execOp, hop, resolve, Deferred.ofValue, hcv, Sem.run_bind, Sem.run_pure, Result.andThen_ok, invoke, Array.empty_append]
    rw [e1]
    exact hen _ _
  refine wpIn_of_run (fun c' => by rw [hop]; simp) ?_
  rw [hrun]
  refine upon_enter hC ?_
  rintro en w' ⟨x, μ', F', res, hp', hΦ, rfl, hFb', hH', hr, hF', hbel⟩
  exact ⟨x, rfl, hK _ _ (h' res hp' hΦ Z0 w0 _ _ ⟨μ', F', hFb', hH', put_rel hF' _ hr, by rw [put_defers']; exact .inl (hd.none hnm), hbel⟩)⟩

def opsHd (m : M) : Bool :=
  match m.ks with
  | .ops _ (_ :: _) _ :: _ => true
  | _ => false

theorem R.callX {f : FuncId} {avs : List AV} {hp : List AObj} {Φ : AV → List AObj → Prop} (hc : CallX P f avs hp Φ) (h : csAt m = some (f, avs)) (hh : m.st.hp = hp) (ht : opsHd m = true) (h' : ∀ res hp', Φ res hp' → Runs rd P (putM m none res hp') Q) : Runs rd P m Q := by
  have hnm := csAt_mark h
  obtain ⟨fo, args, tys, caps, hop, hf, rfl⟩ := csAt_parts h
  subst hh
  obtain ⟨ks, ⟨fr, hp⟩⟩ := m
  unfold opM headOf at hop
  unfold opsHd at ht
  unfold putM at h'
  simp only [runs_iff] at h' ⊢
  try simp only at hop ht h' hf hc hnm ⊢
  split at hop
  · rename_i all o fl t heq
    split at hop
    · rename_i hw
      simp only [Option.some.injEq] at hop
      split at heq
      · cases heq
        intro hW
        exact OpsQ.callX hnm (wantH_true hw hW) hop hf hc fun res hp' hΦ => h' res hp' hΦ headW_false
      · simp at ht
      · cases heq
    · cases hop
  · cases hop
/-- Under one more frame. -/
theorem CallX.frame {P : Program} {f : FuncId} {args : List AV} {hp : List AObj} {Φ : AV → List AObj → Prop} (us2 : List Value) (fr2 : List AV) (hc : CallX P f args hp Φ) (h1 : renH (List.range hp.length) hp = hp)
    (h2 : renL (List.range hp.length) args = args) (h3 : ∀ r h', Φ r h' → hp.length ≤ h'.length) : CallX P f args (hp ++ [.frame us2 fr2]) fun r h => ∃ res hp', Φ res hp' ∧ r = res.ren (insJ hp.length hp'.length) ∧ h = insF hp.length us2 fr2 hp' := by
  obtain ⟨hen, hc⟩ := hc
  refine ⟨hen, ?_⟩
  intro Z0 F w0 w μ vs us fr hFb hH hvs hus hbel
  have hml : μ.length = hp.length + 1 := by rw [hH.len]; simp
  have hH0 := hH.ren (List.range hp.length) List.nodup_range
  have e0 : ((List.range hp.length).map fun i => ((hp ++ [AObj.frame us2 fr2]).getD i .dead).ren (List.range hp.length)) = hp := by
    refine Eq.trans (List.map_congr_left fun i hi => ?_) h1
    have hi := List.mem_range.1 hi
    simp only [List.getD_eq_getElem?_getD]
    rw [List.getElem?_append_left hi]
  rw [e0] at hH0
  have hvs0 := hvs.ren (List.range hp.length)
  rw [h2] at hvs0
  have hn2 : (hp ++ [AObj.frame us2 fr2])[hp.length]? = some (.frame us2 fr2) := by simp
  obtain ⟨u, hu⟩ : ∃ u, μ[hp.length]? = some u := ⟨_, List.getElem?_eq_getElem (by omega)⟩
  have hf2 : RelL w (Zone Z0 F w0.heap.size) μ fr2 us2 := hH.obj _ _ u hn2 hu
  have hus0 := (hus.append hf2).ren (List.range hp.length)
  refine (hc Z0 F w0 w _ vs (us ++ us2) _ hFb hH0 hvs0 hus0 hbel).mono ?_
  rintro e w' ⟨v, μ1, F1, res, hp', hΦ, rfl, hF1, hH1, hres, hfr1, hb1⟩
  have h3 := h3 _ _ hΦ
  have hm1 := hH1.len
  have hHd := hH1.addDead u (hH.one _ u hu)
  have hH2 := hHd.ren (insJ hp.length hp'.length) (insJ_nodup h3)
  obtain ⟨μ2, hμ2⟩ : ∃ μ2, μ2 = ((insJ hp.length hp'.length).map fun i => (μ1 ++ [u]).getD i (.bool false)) := ⟨_, rfl⟩
  have hA : ∀ (i : Nat) x, i < hp.length → μ1[i]? = some x → μ2[i]? = some x := by
    intro i x hi hx
    have hj : (insJ hp.length hp'.length)[i]? = some i := by
      unfold insJ
      rw [List.getElem?_append_left (by simpa using hi)]
      simp [hi]
    rw [hμ2, List.getElem?_map, hj]
    simp only [Option.map_some, List.getD_eq_getElem?_getD]
    rw [List.getElem?_append_left (by omega), hx]
    rfl
  have hB : ∀ (i : Nat) x, hp.length ≤ i → μ[i]? = some x → μ2[i]? = some x := by
    intro i x hi hx
    have hin : i = hp.length := by have := (List.getElem?_eq_some_iff.1 hx).1; omega
    subst hin
    rw [hu] at hx
    have hj : (insJ hp.length hp'.length)[hp.length]? = some hp'.length := by
      unfold insJ
      rw [List.getElem?_append_right (by simp)]
      simp
    rw [hμ2, List.getElem?_map, hj]
    simp only [Option.map_some, List.getD_eq_getElem?_getD]
    rw [List.getElem?_append_right (by omega), hm1]
    simpa using hx
  rw [← hμ2] at hH2
  have hall := RelL.mix hA hB (hus.append hf2) hfr1
  have hul := hus.length
  have hfr : RelL w' (Zone Z0 F1 w0.heap.size) μ2 fr us := by
    have := hall.take fr.length
    rwa [List.take_left, ← hul, List.take_left] at this
  have hfr2 : RelL w' (Zone Z0 F1 w0.heap.size) μ2 fr2 us2 := by
    have := hall.drop fr.length
    rwa [List.drop_left, ← hul, List.drop_left] at this
  refine ⟨v, μ2, F1, _, _, ⟨res, hp', hΦ, rfl, rfl⟩, rfl, hF1, ?_, ?_, hfr, hb1⟩
  · refine hH2.frameAt ?_ hfr2
    have hj : (insJ hp.length hp'.length)[hp.length]? = some hp'.length := by
      unfold insJ
      rw [List.getElem?_append_right (by simp)]
      simp
    rw [List.getElem?_map, hj]
    simp [AObj.ren]
  · rw [hμ2]
    exact Rel.ren _ (Rel.keep (w := w') (fun _ _ _ => rfl) (fun i u hu => append_old i u hu) hres)
/-- Objects left out that the call has made. -/
theorem CallX.drop {P : Program} {f : FuncId} {args : List AV} {hp : List AObj} {Φ : AV → List AObj → Prop} (js : List Nat) (hc : CallX P f args hp Φ) (h1 : js.take hp.length = List.range hp.length) (h2 : js.Nodup) :
    CallX P f args hp fun r h => ∃ res hp', Φ res hp' ∧ r = res.ren js ∧ h = renH js hp' := by
  obtain ⟨hen, hc⟩ := hc
  refine ⟨hen, ?_⟩
  intro Z0 F w0 w μ vs us fr hFb hH hvs hus hbel
  refine (hc Z0 F w0 w μ vs us fr hFb hH hvs hus hbel).mono ?_
  rintro e w' ⟨v, μ1, F1, res, hp', hΦ, rfl, hF1, hH1, hres, hfr1, hb1⟩
  have hm1 := hH1.len
  have hjs : ∀ i, i < hp.length → js[i]? = some i := by
    intro i hi
    have := congrArg (fun l : List Nat => l[i]?) h1
    simp only [List.getElem?_take, if_pos hi] at this
    rw [this]
    simp [hi]
  refine ⟨v, _, F1, _, _, ⟨res, hp', hΦ, rfl, rfl⟩, rfl, hF1, hH1.ren js h2, Rel.ren js hres, ?_, hb1⟩
  refine RelL.mix (n := hp.length) ?_ ?_ hus (hfr1.ren (List.range hp.length))
  · intro i x hi hx
    rw [List.getElem?_map, hjs i hi]
    rw [List.getElem?_map] at hx
    simpa [hi] using hx
  · intro i x hi hx
    have h4 := (List.getElem?_eq_some_iff.1 hx).1
    have h5 := hH.len
    omega
/-- Objects left out that the call has made; which, depends on the way. -/
theorem CallX.dropE {P : Program} {f : FuncId} {args : List AV} {hp : List AObj} {Φ : AV → List AObj → Prop} (hc : CallX P f args hp fun r h => ∃ js : List Nat, js.take hp.length = List.range hp.length ∧ js.Nodup ∧ Φ (r.ren js) (renH js h)) :
    CallX P f args hp Φ := by
  obtain ⟨hen, hc⟩ := hc
  refine ⟨hen, ?_⟩
  intro Z0 F w0 w μ vs us fr hFb hH hvs hus hbel
  refine (hc Z0 F w0 w μ vs us fr hFb hH hvs hus hbel).mono ?_
  rintro e w' ⟨v, μ1, F1, res, hp', ⟨js, h1, h2, hΦ⟩, rfl, hF1, hH1, hres, hfr1, hb1⟩
  have hm1 := hH1.len
  have hjs : ∀ i, i < hp.length → js[i]? = some i := by
    intro i hi
    have := congrArg (fun l : List Nat => l[i]?) h1
    simp only [List.getElem?_take, if_pos hi] at this
    rw [this]
    simp [hi]
  refine ⟨v, _, F1, _, _, hΦ, rfl, hF1, hH1.ren js h2, Rel.ren js hres, ?_, hb1⟩
  refine RelL.mix (n := hp.length) ?_ ?_ hus (hfr1.ren (List.range hp.length))
  · intro i x hi hx
    rw [List.getElem?_map, hjs i hi]
    rw [List.getElem?_map] at hx
    simpa [hi] using hx
  · intro i x hi hx
    have h4 := (List.getElem?_eq_some_iff.1 hx).1
    have h5 := hH.len
    omega
end
end Go.Abs


/-! Calls told by what holds behind them, under further frames that lie anywhere among the objects. -/
namespace Go.Abs
open Go.RowKit Go.ChangeShapes Go.WideShapes Go.Deep

section
variable {P : Program}

end
section
variable {P : Program}
end

/-! ### A caller's frame, of which nothing is known, stays as it is -/
theorem fit_idx {n i : Nat} {js : List Nat} (hjs : js.take n = List.range n) (hi : i < n) : js.contains i = true ∧ js.idxOf i = i := by
  have e : js = List.range n ++ js.drop n := by rw [← hjs, List.take_append_drop]
  have hm : i ∈ List.range n := List.mem_range.2 hi
  refine ⟨?_, ?_⟩
  · have : i ∈ js := by rw [e]; exact List.mem_append_left _ hm
    simpa using this
  · rw [e, List.idxOf_append, if_pos hm, idx_range hi]
mutual
theorem Rel.fitR {w : World} {Z : Nat → Prop} {μ : List Value} {js : List Nat} (hjs : js.take μ.length = List.range μ.length) : ∀ {c : AV} {v : Value}, Rel w Z μ c v → c.ren js = c
  | .int _ _, _, _ => rfl
  | .bool _, _, _ => rfl
  | .str _, _, _ => rfl
  | .nil, _, _ => rfl
  | .top, _, _ => rfl
  | .own _ _ _ _, _, _ => rfl
  | .lst _ _ _, _, _ => rfl
  | .clp _ _ _, _, _ => rfl
  | .nam _ _ _ _ _, _, _ => rfl
  | .rptr _, _, _ => rfl
  | .ref i, v, h => by
    simp only [Rel] at h
    obtain ⟨h1, h2⟩ := fit_idx hjs (List.getElem?_eq_some_iff.1 h).1
    simp only [AV.ren, h1, h2, if_true]
  | .ptr i o, v, h => by
    simp only [Rel] at h
    obtain ⟨u, g, h, _⟩ := h
    obtain ⟨h1, h2⟩ := fit_idx hjs (List.getElem?_eq_some_iff.1 h).1
    simp only [AV.ren, h1, h2, if_true]
  | .agg cs, v, h => by
    simp only [Rel] at h
    obtain ⟨xs, _, h⟩ := h
    simp only [AV.ren, RelL.fitR hjs h]
  | .tup cs, v, h => by
    simp only [Rel] at h
    obtain ⟨xs, _, h⟩ := h
    simp only [AV.ren, RelL.fitR hjs h]
  | .fn f cs, v, h => by
    simp only [Rel] at h
    obtain ⟨xs, _, h⟩ := h
    simp only [AV.ren, RelL.fitR hjs h]
theorem RelL.fitR {w : World} {Z : Nat → Prop} {μ : List Value} {js : List Nat} (hjs : js.take μ.length = List.range μ.length) : ∀ {cs : List AV} {vs : List Value}, RelL w Z μ cs vs → renL js cs = cs
  | [], _, _ => rfl
  | c :: cs, _, h => by
    simp only [RelL] at h
    obtain ⟨x, xs, _, h1, h2⟩ := h
    simp only [renL, Rel.fitR hjs h1, RelL.fitR hjs h2]
end
mutual
theorem Rel.fitK {w : World} {Z : Nat → Prop} {μ : List Value} {k : Nat} (hk : μ.length ≤ k) : ∀ {c : AV} {v : Value}, Rel w Z μ c v → c.kill k = c
  | .int _ _, _, _ => rfl
  | .bool _, _, _ => rfl
  | .str _, _, _ => rfl
  | .nil, _, _ => rfl
  | .top, _, _ => rfl
  | .own _ _ _ _, _, _ => rfl
  | .lst _ _ _, _, _ => rfl
  | .clp _ _ _, _, _ => rfl
  | .nam _ _ _ _ _, _, _ => rfl
  | .rptr _, _, _ => rfl
  | .ref i, v, h => by
    simp only [Rel] at h
    have := (List.getElem?_eq_some_iff.1 h).1
    simp only [AV.kill]
    rw [if_neg (by omega)]
  | .ptr i o, v, h => by
    simp only [Rel] at h
    obtain ⟨u, g, h, _⟩ := h
    have := (List.getElem?_eq_some_iff.1 h).1
    simp only [AV.kill]
    rw [if_neg (by omega)]
  | .agg cs, v, h => by
    simp only [Rel] at h
    obtain ⟨xs, _, h⟩ := h
    simp only [AV.kill, RelL.fitK hk h]
  | .tup cs, v, h => by
    simp only [Rel] at h
    obtain ⟨xs, _, h⟩ := h
    simp only [AV.kill, RelL.fitK hk h]
  | .fn f cs, v, h => by
    simp only [Rel] at h
    obtain ⟨xs, _, h⟩ := h
    simp only [AV.kill, RelL.fitK hk h]
theorem RelL.fitK {w : World} {Z : Nat → Prop} {μ : List Value} {k : Nat} (hk : μ.length ≤ k) : ∀ {cs : List AV} {vs : List Value}, RelL w Z μ cs vs → killL k cs = cs
  | [], _, _ => rfl
  | c :: cs, _, h => by
    simp only [RelL] at h
    obtain ⟨x, xs, _, h1, h2⟩ := h
    simp only [killL, Rel.fitK hk h1, RelL.fitK hk h2]
end

mutual
theorem Rel.fitF {w : World} {Z : Nat → Prop} {μ : List Value} {k : Nat} {r : AV} (hk : μ.length ≤ k) : ∀ {c : AV} {v : Value}, Rel w Z μ c v → frzV k r c = c
  | .int _ _, _, _ => rfl
  | .bool _, _, _ => rfl
  | .str _, _, _ => rfl
  | .nil, _, _ => rfl
  | .top, _, _ => rfl
  | .own _ _ _ _, _, _ => rfl
  | .lst _ _ _, _, _ => rfl
  | .clp _ _ _, _, _ => rfl
  | .nam _ _ _ _ _, _, _ => rfl
  | .rptr _, _, _ => rfl
  | .ref i, v, h => by
    simp only [Rel] at h
    have := (List.getElem?_eq_some_iff.1 h).1
    simp only [frzV]
    rw [if_neg (by omega)]
  | .ptr i o, v, h => by
    simp only [Rel] at h
    obtain ⟨u, g, h, _⟩ := h
    have := (List.getElem?_eq_some_iff.1 h).1
    simp only [frzV]
    rw [if_neg (by omega)]
  | .agg cs, v, h => by
    simp only [Rel] at h
    obtain ⟨xs, _, h⟩ := h
    simp only [frzV, RelL.fitF hk h]
  | .tup cs, v, h => by
    simp only [Rel] at h
    obtain ⟨xs, _, h⟩ := h
    simp only [frzV, RelL.fitF hk h]
  | .fn f cs, v, h => by
    simp only [Rel] at h
    obtain ⟨xs, _, h⟩ := h
    simp only [frzV, RelL.fitF hk h]
theorem RelL.fitF {w : World} {Z : Nat → Prop} {μ : List Value} {k : Nat} {r : AV} (hk : μ.length ≤ k) : ∀ {cs : List AV} {vs : List Value}, RelL w Z μ cs vs → frzL k r cs = cs
  | [], _, _ => rfl
  | c :: cs, _, h => by
    simp only [RelL] at h
    obtain ⟨x, xs, _, h1, h2⟩ := h
    simp only [frzL, Rel.fitF hk h1, RelL.fitF hk h2]
end

/-- Nothing in fr names an object from n on. -/
structure Fits (n : Nat) (fr : List AV) : Prop where
  ren : ∀ js : List Nat, js.take n = List.range n → renL js fr = fr
  kill : ∀ i, n ≤ i → killL i fr = fr
  frz : ∀ i r, n ≤ i → frzL i r fr = fr

section
variable {rd : Option Nat} {P : Program} {m : M} {Q : Exit → St → Prop}

theorem CallX.ofF {f : FuncId} {fn : Func} {c : Code} {args : List AV} {hp : List AObj} {Φ : AV → List AObj → Prop} (hf : P.funcs[f]? = some fn) (hb : fn.body = some c) (hnm : (fn.name == "runtime.NumGoroutine") = false)
    (h : ∀ us fr, Fits hp.length fr → Runs none P ⟨[.code c], ⟨frameOf fn.ntmps args, hp ++ [.frame us fr]⟩⟩ (retX P fn hp.length us fr Φ)) : CallX P f args hp Φ := by
  refine ⟨enters_of hf hnm (by rw [hb]; rfl), ?_⟩
  intro Z0 F w0 w μ vs us fr hFb hH hvs hus hbel
  have hml := hH.len
  have hfit : Fits hp.length fr := ⟨fun js hjs => RelL.fitR (by rw [hml]; exact hjs) hus, fun i hi => RelL.fitK (by rw [hml]; exact hi) hus, fun i r hi => RelL.fitF (by rw [hml]; exact hi) hus⟩
  · have hlen := hvs.length
    refine calls_of_wpIn hf hb ?_
    have hS : Sim Z0 w0 ⟨frameOf fn.ntmps args, hp ++ [.frame us fr]⟩ { tmps := vs.toArray ++ Array.replicate (fn.ntmps - vs.toArray.size) undef, defers := [] } w := by
      refine ⟨μ ++ [.bool false], F, hFb, hH.extend1 (zone_new hbel.size hFb) (Below.refl _ _) ?_ (fun g hg => by simp [blk] at hg) rfl, ?_, .inl rfl, hbel⟩
      · exact RelL.keep (w := w) (fun _ _ _ => rfl) (fun i u hu => append_old i u hu) hus
      · simp only [Array.toList_append, Array.toList_replicate, List.size_toArray, hlen, frameOf]
        refine RelL.append (RelL.keep (w := w) (fun _ _ _ => rfl) (fun i u hu => append_old i u hu) hvs) ?_
        generalize fn.ntmps - args.length = n
        induction n with
        | zero => exact RelL.nil
        | succ n ih => exact RelL.cons (by simp [Rel]) ih
    have hrun2 := h us fr hfit
    simp only [runs_iff] at hrun2
    simp only [RunsK] at hrun2
    refine wpIn_mono (hrun2 Z0 w0 _ w hS) ?_
    have fin : ∀ (e : Exit) (st' : St) (a' : Act) (w' : World), retX P fn hp.length us fr Φ e st' → Sim Z0 w0 st' a' w' → a'.defers = [] ∧ ∃ v, (results fn a'.tmps).run P w' = .ok v w' ∧ ∃ v' μ' F' res hp', Φ res hp' ∧ Ending.returned v = .returned v' ∧ (∀ b, F' b → w0.heap.size ≤ b ∧ b < w'.heap.size) ∧ HRel w' (Zone Z0 F' w0.heap.size) w0.heap.size μ' hp' ∧ Rel w' (Zone Z0 F' w0.heap.size) μ' res v' ∧ RelL w' (Zone Z0 F' w0.heap.size) μ' fr us ∧ Below w0.heap.size w0 w' := by
      rintro e st' a' w' ⟨res, hp', hΦ, _, hres, hfr, hh⟩ ⟨μ', F', hFb', hH', hF', hd', hbel'⟩
      obtain ⟨x, h1, h2⟩ := resIn_run hH' hF' hres
      unfold frameAt at hfr
      split at hfr
      · rename_i us2 fr2 hi
        cases hfr
        have hil : hp.length < μ'.length := by rw [hH'.len]; exact (List.getElem?_eq_some_iff.1 hi).1
        have hfrr : RelL w' (Zone Z0 F' w0.heap.size) μ' fr us := hH'.obj _ _ _ hi (List.getElem?_eq_getElem hil)
        exact ⟨hd'.none (resIn_mark hres), x, h1, x, μ', F', res, hp', hΦ, rfl, hFb', hh ▸ hH'.bury _, h2, hfrr, hbel'⟩
      · cases hfr
    rintro e a' w' ⟨st', hq, hS'⟩
    cases e with
    | normal => exact fin _ st' a' w' hq hS'
    | ret => exact fin _ st' a' w' hq hS'
    | exit id => (obtain ⟨_, _, _, hq, _⟩ := hq; exact absurd hq (by simp))
    | goto l => (obtain ⟨_, _, _, hq, _⟩ := hq; exact absurd hq (by simp))
    | panic ch => (obtain ⟨_, _, _, hq, _⟩ := hq; exact absurd hq (by simp))
    | outgrown => (obtain ⟨_, _, _, hq, _⟩ := hq; exact absurd hq (by simp))

/-- A caller's frame in which an object of the call's own has been forgotten. -/
theorem R.kfix (n : Nat) {us : List Value} {fr fr2 : List AV} (h0 : m.st.hp[n]? = some (.frame us fr2)) (hk : fr2 = fr) (h' : Runs rd P ⟨m.ks, ⟨m.st.fr, m.st.hp.set n (.frame us fr)⟩⟩ Q) : Runs rd P m Q := by
  subst hk
  obtain ⟨ks, ⟨f, hp⟩⟩ := m
  have e : hp.set n (.frame us fr2) = hp := by
    refine List.ext_getElem? fun i => ?_
    rw [List.getElem?_set]
    split
    · rename_i hi
      subst hi
      simp only at h0
      have hlt := (List.getElem?_eq_some_iff.1 h0).1
      rw [if_pos hlt, h0]
    · rfl
  simp only [e] at h'
  exact h'
end
/-! ### A box seen as a row of one element, while a call does not look at it -/
mutual
theorem Rel.mixK {w w' : World} {Z Z' : Nat → Prop} {μ μ1 μ2 : List Value} {j : Nat} (hA : ∀ (i : Nat) u, i ≠ j → μ1[i]? = some u → μ2[i]? = some u) (hB : ∀ u, μ[j]? = some u → μ2[j]? = some u) :
    ∀ {c : AV} {v : Value}, Rel w Z μ c v → Rel w' Z' μ1 (c.kill j) v → Rel w' Z' μ2 c v
  | .int _ _, _, _, h => by simpa [Rel, AV.kill] using h
  | .bool _, _, _, h => by simpa [Rel, AV.kill] using h
  | .str _, _, _, h => by simpa [Rel, AV.kill] using h
  | .nil, _, _, h => by simpa [Rel, AV.kill] using h
  | .top, _, _, _ => by simp [Rel]
  | .own _ _ _ _, _, h, _ => by simp [Rel] at h
  | .lst _ _ _, _, _, h => by simpa [Rel, AV.kill] using h
  | .clp _ _ _, _, _, h => by simpa [Rel, AV.kill] using h
  | .nam _ _ _ _ _, _, _, h => by simpa [Rel, AV.kill] using h
  | .rptr _, _, _, h => by simpa [Rel, AV.kill] using h
  | .ref i, v, h1, h2 => by
    simp only [Rel] at h1 ⊢
    by_cases hi : i = j
    · subst hi; exact hB v h1
    · simp only [AV.kill, if_neg hi, Rel] at h2
      exact hA i v hi h2
  | .ptr i o, v, h1, h2 => by
    simp only [Rel] at h1 ⊢
    by_cases hi : i = j
    · subst hi
      obtain ⟨u, g, e1, e2, e3⟩ := h1
      exact ⟨u, g, hB u e1, e2, e3⟩
    · simp only [AV.kill, if_neg hi, Rel] at h2
      obtain ⟨u, g, e1, e2, e3⟩ := h2
      exact ⟨u, g, hA i u hi e1, e2, e3⟩
  | .agg cs, v, h1, h2 => by
    simp only [Rel, AV.kill] at h1 h2 ⊢
    obtain ⟨xs, e1, r1⟩ := h1
    obtain ⟨ys, e2, r2⟩ := h2
    rw [e1] at e2
    simp only [Value.agg.injEq] at e2
    have e3 : xs = ys := by simpa using e2
    subst e3
    exact ⟨xs, e1, RelL.mixK hA hB r1 r2⟩
  | .tup cs, v, h1, h2 => by
    simp only [Rel, AV.kill] at h1 h2 ⊢
    obtain ⟨xs, e1, r1⟩ := h1
    obtain ⟨ys, e2, r2⟩ := h2
    rw [e1] at e2
    simp only [Value.tuple.injEq] at e2
    have e3 : xs = ys := by simpa using e2
    subst e3
    exact ⟨xs, e1, RelL.mixK hA hB r1 r2⟩
  | .fn f cs, v, h1, h2 => by
    simp only [Rel, AV.kill] at h1 h2 ⊢
    obtain ⟨xs, e1, r1⟩ := h1
    obtain ⟨ys, e2, r2⟩ := h2
    rw [e1] at e2
    simp only [Value.func.injEq, true_and] at e2
    have e3 : xs = ys := by simpa using e2
    subst e3
    exact ⟨xs, e1, RelL.mixK hA hB r1 r2⟩
theorem RelL.mixK {w w' : World} {Z Z' : Nat → Prop} {μ μ1 μ2 : List Value} {j : Nat} (hA : ∀ (i : Nat) u, i ≠ j → μ1[i]? = some u → μ2[i]? = some u) (hB : ∀ u, μ[j]? = some u → μ2[j]? = some u) :
    ∀ {cs : List AV} {vs : List Value}, RelL w Z μ cs vs → RelL w' Z' μ1 (killL j cs) vs → RelL w' Z' μ2 cs vs
  | [], _, _, h => by simpa [RelL, killL] using h
  | c :: cs, _, h1, h2 => by
    simp only [RelL, killL] at h1 h2 ⊢
    obtain ⟨x, xs, e1, a1, b1⟩ := h1
    obtain ⟨y, ys, e2, a2, b2⟩ := h2
    rw [e1] at e2
    simp only [List.cons.injEq] at e2
    obtain ⟨rfl, rfl⟩ := e2
    exact ⟨x, xs, e1, Rel.mixK hA hB a1 a2, RelL.mixK hA hB b1 b2⟩
end

/-- One object changes its look and its value, in the same block; the others do not name it. -/
theorem HRel.swap {w : World} {Z : Nat → Prop} {B j : Nat} {μ : List Value} {hp : List AObj} {u u' : Value} {o o' : AObj} (h : HRel w Z B μ hp) (hj : hp[j]? = some o) (hu : μ[j]? = some u) (ha : o.alive = true)
    (hblk : blk u' = blk u) (hone : u'.oneCell' = true) (hk : ∀ i oi, i ≠ j → hp[i]? = some oi → oi.kill j = oi) (hnew : ObjRel w Z (μ.set j u') B u' o') : HRel w Z B (μ.set j u') (hp.set j o') := by
  have hjl := (List.getElem?_eq_some_iff.1 hj).1
  have hul := (List.getElem?_eq_some_iff.1 hu).1
  have get : ∀ (i : Nat) oi ui, (hp.set j o')[i]? = some oi → (μ.set j u')[i]? = some ui → (i = j ∧ oi = o' ∧ ui = u') ∨ (i ≠ j ∧ hp[i]? = some oi ∧ μ[i]? = some ui) := by
    intro i oi ui h1 h2
    by_cases e : j = i
    · subst e
      rw [List.getElem?_set_self hjl] at h1
      rw [List.getElem?_set_self hul] at h2
      simp at h1 h2
      exact .inl ⟨rfl, h1.symm, h2.symm⟩
    · rw [List.getElem?_set_ne e] at h1 h2
      exact .inr ⟨fun h => e h.symm, h1, h2⟩
  refine ⟨by simp [h.len], fun i oi ui g h1 ha' h2 hg => ?_, fun i x hx => ?_, fun i oi ui h1 h2 => ?_, fun i k oi ok ui uk g hne h1 h2 a1 a2 m1 m2 b1 b2 => ?_⟩
  · rcases get i oi ui h1 h2 with ⟨rfl, rfl, rfl⟩ | ⟨_, e1, e2⟩
    · exact h.zone _ o u g hj ha hu (hblk ▸ hg)
    · exact h.zone i oi ui g e1 ha' e2 hg
  · by_cases e : j = i
    · subst e
      rw [List.getElem?_set_self hul] at hx
      simp at hx
      rw [← hx]; exact hone
    · rw [List.getElem?_set_ne e] at hx
      exact h.one i x hx
  · rcases get i oi ui h1 h2 with ⟨rfl, rfl, rfl⟩ | ⟨hne, e1, e2⟩
    · exact hnew
    · have := (h.obj i oi ui e1 e2).keep_kill (μ' := μ.set j u') j (fun _ _ _ => rfl) (fun k x hk hx => by rw [List.getElem?_set_ne (fun e => hk e.symm)]; exact hx) (fun _ _ => rfl)
      rwa [hk i oi hne e1] at this
  · rcases get i oi ui h1 m1 with ⟨rfl, rfl, rfl⟩ | ⟨hi, e1, e2⟩ <;> rcases get k ok uk h2 m2 with ⟨rfl, rfl, rfl⟩ | ⟨hk', e3, e4⟩
    · exact hne rfl
    · exact h.sep _ k o ok u uk g (fun e => hk' e.symm) hj e3 ha a2 hu e4 (hblk ▸ b1) b2
    · exact h.sep i _ oi o ui u g hi e1 hj a1 ha e2 hu b1 (hblk ▸ b2)
    · exact h.sep i k oi ok ui uk g hne e1 e3 a1 a2 e2 e4 b1 b2

theorem CallX.box {P : Program} {f : FuncId} {args : List AV} {hp : List AObj} {Φ : AV → List AObj → Prop} (j : Nat) (t : TypeId) (cs : List AV) (hc : CallX P f args hp Φ) (hj : hp[j]? = some (.list t cs.length 1 cs)) (hl : leafyL cs = true)
    (h1 : hp.map (AObj.kill j) = hp) (h2 : killL j args = args) (h3 : ∀ r h', Φ r h' → h'[j]? = some (.list t cs.length 1 cs) ∧ h'.map (AObj.kill j) = h' ∧ r.kill j = r) :
    CallX P f args (hp.set j (.box t cs)) fun r h => ∃ hp', Φ r hp' ∧ h = hp'.set j (.box t cs) := by
  obtain ⟨hen, hc⟩ := hc
  refine ⟨hen, ?_⟩
  intro Z0 F w0 w μ vs us fr hFb hH hvs hus hbel
  have hjl := (List.getElem?_eq_some_iff.1 hj).1
  have kof : ∀ {l : List AObj}, l.map (AObj.kill j) = l → ∀ (i : Nat) (oi : AObj), l[i]? = some oi → oi.kill j = oi := by
    intro l hl i oi hi
    have := congrArg (fun l : List AObj => l[i]?) hl
    simp only [List.getElem?_map, hi, Option.map_some, Option.some.injEq] at this
    exact this
  have hbj : (hp.set j (.box t cs))[j]? = some (.box t cs) := List.getElem?_set_self hjl
  obtain ⟨u, hu⟩ : ∃ u, μ[j]? = some u := ⟨_, List.getElem?_eq_getElem (by rw [hH.len, List.length_set]; exact hjl)⟩
  have hul := (List.getElem?_eq_some_iff.1 hu).1
  obtain ⟨g, xs, rfl, hBg, hg, hr⟩ := hH.obj j _ u hbj hu
  have hr0 : RelL w (Zone Z0 F w0.heap.size) [] cs xs := RelL.leafy hl hr
  have hxl := hr0.length
  obtain ⟨u', hu'⟩ : ∃ u', u' = Value.slice (some ⟨g, 0, none⟩) 1 1 := ⟨_, rfl⟩
  have hset : ((hp.set j (.box t cs)).set j (.list t cs.length 1 cs)) = hp := by
    rw [List.set_set]
    refine List.ext_getElem? fun i => ?_
    rw [List.getElem?_set]
    split
    · rename_i e
      subst e
      exact hj.symm
    · rfl
  have hH0 : HRel w (Zone Z0 F w0.heap.size) w0.heap.size (μ.set j u') hp := by
    have := hH.swap (u' := u') (o' := .list t cs.length 1 cs) hbj hu rfl (by rw [hu']; rfl) (by rw [hu']; rfl) (fun i oi hne hi => kof h1 i oi (by rw [List.getElem?_set_ne (fun e => hne e.symm)] at hi; exact hi)) ⟨xs, ⟨by rw [hxl, Nat.one_mul], .inr ⟨g, 1, xs.toArray, hu', hBg, hg, Nat.le_refl _, by decide, by simp [hxl], by simp [← hxl]⟩⟩, hr0⟩
    rwa [hset] at this
  have hm : ∀ (i : Nat) (x : Value), i ≠ j → μ[i]? = some x → (μ.set j u')[i]? = some x := fun i x hne hx => by rw [List.getElem?_set_ne (fun e => hne e.symm)]; exact hx
  have hvs0 := RelL.keep_kill (w := w) (w' := w) j (fun _ _ _ => rfl) hm hvs
  rw [h2] at hvs0
  have hus0 := RelL.keep_kill (w := w) (w' := w) j (fun _ _ _ => rfl) hm hus
  have hrefj : RelL w (Zone Z0 F w0.heap.size) (μ.set j u') [.ref j] [u'] := RelL.cons (by simp only [Rel]; rw [List.getElem?_set_self hul]) RelL.nil
  refine (hc Z0 F w0 w _ vs (us ++ [u']) _ hFb hH0 hvs0 (hus0.append hrefj) hbel).mono ?_
  rintro e w' ⟨v, μ1, F1, res, hp', hΦ, rfl, hF1, hH1, hres, hfr1, hb1⟩
  obtain ⟨k1, k2, k3⟩ := h3 _ _ hΦ
  have hlen1 := hus0.length
  have hfrA : RelL w' (Zone Z0 F1 w0.heap.size) μ1 (killL j fr) us := by
    have := hfr1.take (killL j fr).length
    rwa [List.take_left, ← hlen1, List.take_left] at this
  have hrj : RelL w' (Zone Z0 F1 w0.heap.size) μ1 [.ref j] [u'] := by
    have := hfr1.drop (killL j fr).length
    rwa [List.drop_left, ← hlen1, List.drop_left] at this
  have hm1 : μ1[j]? = some u' := by
    simp only [RelL, Rel] at hrj
    obtain ⟨x, _, e1, e2, _⟩ := hrj
    simp only [List.cons.injEq] at e1
    rw [e1.1]; exact e2
  have hjl1 := (List.getElem?_eq_some_iff.1 hm1).1
  obtain ⟨xs1, hown, hr1⟩ := hH1.obj j _ u' k1 hm1
  have hcell : w0.heap.size ≤ g ∧ w'.heap[g]? = some (.cells xs1.toArray t (0, 0)) := by
    rcases hown.2 with ⟨e1, _⟩ | ⟨g', cap, cur, e1, e2, e3, e4, e5, e6, e7⟩
    · rw [hu'] at e1; cases e1
    · rw [hu'] at e1
      simp only [Value.slice.injEq, Option.some.injEq, Addr.mk.injEq, true_and, and_true] at e1
      obtain ⟨rfl, rfl⟩ := e1
      refine ⟨e2, ?_⟩
      have : cur = xs1.toArray := by
        apply Array.toList_inj.1
        rw [← e7, List.take_of_length_le (by simp [e6])]
      rw [e3, this]
  refine ⟨v, μ1.set j (.pointer (some ⟨g, 0, none⟩)), F1, res, _, ⟨hp', hΦ, rfl⟩, rfl, hF1, ?_, ?_, ?_, hb1⟩
  · exact hH1.swap k1 hm1 rfl (by rw [hu']; rfl) rfl (fun i oi _ hi => kof k2 i oi hi) ⟨g, xs1, rfl, hcell.1, hcell.2, hr1.lift⟩
  · have := Rel.keep_kill (w := w') (w' := w') (μ' := μ1.set j (.pointer (some ⟨g, 0, none⟩))) j (fun _ _ _ => rfl) (fun i x hne hx => by rw [List.getElem?_set_ne (fun e => hne e.symm)]; exact hx) hres
    rwa [k3] at this
  · refine RelL.mixK ?_ ?_ hus hfrA
    · intro i x hne hx
      rw [List.getElem?_set_ne (fun e => hne e.symm)]; exact hx
    · intro x hx
      rw [hu] at hx
      rw [List.getElem?_set_self hjl1]
      exact hx
/-! ### The address of a field may come first -/
section
variable {P : Program} {m : M} {Q : Exit → St → Prop}
end
/-! ### Sums that may come first -/
section
variable {P : Program} {m : M} {Q : Exit → St → Prop}
/-! ### One element is taken out of a row: append(x[:j], x[j+1:]...) -/
end
end Go.Abs


/-! Calls that need no object of the caller's, beside any objects. -/
namespace Go.Abs
open Go.RowKit

theorem zone_two {Z0 F F1 : Nat → Prop} {B C : Nat} (hBC : B ≤ C) (hF : ∀ b, F b → B ≤ b ∧ b < C) (hF1 : ∀ b, F1 b → C ≤ b) (b : Nat) : Zone Z0 (fun b => F b ∨ F1 b) B b ↔ Zone (Zone Z0 F B) F1 C b := by
  unfold Zone
  constructor
  · rintro (⟨h1, h2⟩ | ⟨h1, h2⟩)
    · exact .inl ⟨by omega, .inl ⟨h1, h2⟩⟩
    · rcases Nat.lt_or_ge b C with h | h
      · exact .inl ⟨h, .inr ⟨h1, fun hf => h2 (.inl hf)⟩⟩
      · exact .inr ⟨h, fun hf => h2 (.inr hf)⟩
  · rintro (⟨h1, h2 | h2⟩ | ⟨h1, h2⟩)
    · exact .inl h2
    · refine .inr ⟨h2.1, ?_⟩
      rintro (hf | hf)
      · exact h2.2 hf
      · have := hF1 b hf; omega
    · refine .inr ⟨by omega, ?_⟩
      rintro (hf | hf)
      · have := hF b hf; omega
      · exact h2 hf

section
variable {rd : Option Nat} {P : Program} {m : M} {Q : Exit → St → Prop}
theorem CallX.any {f : FuncId} {args : List AV} {Φ : AV → List AObj → Prop} (hp : List AObj) (hc : CallX P f args [] Φ) (hl : leafyL args = true) (hΦ : ∀ r h, Φ r h → h = []) : CallX P f args hp fun r h => h = hp ∧ Φ r [] := by
  obtain ⟨hen, hc⟩ := hc
  refine ⟨hen, ?_⟩
  intro Z0 F w0 w μ vs us fr hFb hH hvs hus hbel
  have hBC := hbel.size
  have zn : ∀ b, b < w.heap.size → (Zone (Zone Z0 F w0.heap.size) NoF w.heap.size b ↔ Zone Z0 F w0.heap.size b) := fun b hb => by
    unfold Zone NoF
    constructor
    · rintro (h | h)
      · exact h.2
      · omega
    · exact fun h => .inl ⟨hb, h⟩
  have hvs1 : RelL w (Zone (Zone Z0 F w0.heap.size) NoF w.heap.size) [] args vs := (RelL.leafy hl hvs).weak fun b hb h1 h2 => h1 ((zn b hb).1 h2)
  have h0 : HRel w (Zone (Zone Z0 F w0.heap.size) NoF w.heap.size) w.heap.size [] [] := ⟨rfl, fun i o u g h => by simp at h, fun i u h => by simp at h, fun i o u h => by simp at h, fun i j oi oj ui uj g _ h => by simp at h⟩
  refine (hc (Zone Z0 F w0.heap.size) NoF w w [] vs [] [] (fun b h => h.elim) h0 hvs1 RelL.nil (Below.refl _ _)).mono ?_
  rintro e w' ⟨v, μ', F1, res, hp', hΦ1, rfl, hF1, hH1, hres, _, hb1⟩
  have e1 := hΦ _ _ hΦ1
  subst e1
  have hm' : μ' = [] := List.eq_nil_of_length_eq_zero (by simpa using hH1.len)
  subst hm'
  have z2 := zone_two (Z0 := Z0) hBC hFb (fun b h => (hF1 b h).1)
  have hk : ∀ b, b < w.heap.size → w'.heap[b]? = w.heap[b]? := fun b hb => hb1.block b hb
  have hold : ∀ b, b < w'.heap.size → ¬ Zone Z0 F w0.heap.size b → ¬ Zone Z0 (fun b => F b ∨ F1 b) w0.heap.size b := by
    intro b _ h1 h2
    rcases Nat.lt_or_ge b w.heap.size with h | h
    · rcases (z2 b).1 h2 with h3 | h3
      · exact h1 h3.2
      · omega
    · exact h1 (.inr ⟨by omega, fun hf => by have := hFb b hf; omega⟩)
  refine ⟨v, μ, fun b => F b ∨ F1 b, res, hp, ⟨rfl, hΦ1⟩, rfl, ?_, ?_, ?_, ?_, hbel.trans (hb1.mono hBC)⟩
  · rintro b (h | h)
    · have := hFb b h; have := hb1.size; omega
    · have := hF1 b h; omega
  · refine ⟨hH.len, fun i o u g h1 ha h2 hg => ?_, hH.one, fun i o u h1 h2 => ?_, hH.sep⟩
    · have hz := hH.zone i o u g h1 ha h2 hg
      have hlt := ((hH.obj i o u h1 h2).blk_ge ha hg).2
      exact (z2 g).2 (.inl ⟨hlt, hz⟩)
    · have h3 := hH.obj i o u h1 h2
      cases ha : o.alive with
      | true => exact (h3.keep (w' := w') (fun b hb _ => hk b hb) (fun _ _ h => h) (fun g hg => hk g (h3.blk_ge ha hg).2)).weak hold
      | false => exact (h3.keep_dead (w' := w') (B' := w0.heap.size) (u' := u) (fun b hb _ => hk b hb) (fun _ _ h => h) ha).weak hold
  · exact Rel.lift (hres.weak fun b _ h1 h2 => h1 ((z2 b).1 h2))
  · exact (hus.keep (w' := w') (fun b hb _ => hk b hb) (fun _ _ h => h)).weak hold

end
end Go.Abs


/-! Calls by reference whose caller's frame does not name one object (a row that the call may move). -/
namespace Go.Abs
open Go.RowKit Go.ChangeShapes Go.WideShapes Go.Deep

def CallY (P : Program) (q : Nat) (f : FuncId) (args : List AV) (hp : List AObj) (Φ : AV → List AObj → Prop) : Prop :=
  Enters P f ∧ ∀ (Z0 F : Nat → Prop) (w0 w : World) (μ vs us : List Value) (fr : List AV), (∀ b, F b → w0.heap.size ≤ b ∧ b < w.heap.size) → HRel w (Zone Z0 F w0.heap.size) w0.heap.size μ hp → RelL w (Zone Z0 F w0.heap.size) μ args vs → RelL w (Zone Z0 F w0.heap.size) μ fr us → Below w0.heap.size w0 w → killL q fr = fr →
    Calls P f vs.toArray w fun e w' => ∃ v μ' F' res hp', Φ res hp' ∧ e = .returned v ∧ (∀ b, F' b → w0.heap.size ≤ b ∧ b < w'.heap.size) ∧ HRel w' (Zone Z0 F' w0.heap.size) w0.heap.size μ' hp' ∧ Rel w' (Zone Z0 F' w0.heap.size) μ' res v ∧ RelL w' (Zone Z0 F' w0.heap.size) μ' fr us ∧ Below w0.heap.size w0 w'

section
variable {rd : Option Nat} {P : Program} {m : M} {Q : Exit → St → Prop}
theorem OpsQ.callY {all : Array Oper} {o : Oper} {l : List Oper} {fr : List AV} {hp : List AObj} {R : Exit → St → Prop} {c : Operand} {args : Array Operand} {tys : Array TypeId} {q : Nat} {f : FuncId} {caps : List AV} {Φ : AV → List AObj → Prop} (hnm : noMark hp = true) (hw : WantedA all o fr)
    (hop : o.op = .call { callee := .value c, args := args, argTypes := tys }) (hc : ev fr c = .fn f caps) (hk : killL q fr = fr) (hcall : CallY P q f (args.toList.map (ev fr) ++ caps) hp Φ) (h' : ∀ res hp', Φ res hp' → OpsQ rd P all l ⟨putF fr o.dst res, hp'⟩ R) : OpsQ rd P all (o :: l) ⟨fr, hp⟩ R := by
  intro Z0 w0 a w hS
  refine wpListIn_step fun K hK => ?_
  obtain ⟨μ, F, hFb, hH, hF, hd, hb⟩ := hS
  rw [wanted_rel hF hw, if_pos rfl]
  have hE : ∀ y, Rel w (Zone Z0 F w0.heap.size) μ (ev fr y) (a.eval y) := fun y => ev_rel hF y
  have hcv := hc ▸ hE c
  simp only [Rel] at hcv
  obtain ⟨cv, hcv, hrc⟩ := hcv
  have hargs' : RelL w (Zone Z0 F w0.heap.size) μ (args.toList.map (ev fr)) (args.toList.map a.eval) := by
    generalize args.toList = l
    induction l with
    | nil => exact RelL.nil
    | cons x l ih => exact RelL.cons (hE x) ih
  obtain ⟨hen, hcall⟩ := hcall
  have hC := hcall Z0 F w0 w μ _ _ fr hFb hH (hargs'.append hrc) hF hb hk
  have hrun : (execOp a.eval o).run P w = .ok (.enter f (args.toList.map a.eval ++ cv).toArray) w := by
    have e1 : (args.map a.eval ++ cv.toArray) = (args.toList.map a.eval ++ cv).toArray := by
      apply Array.toList_inj.1; simp
    simp only [execOp, hop, resolve, Deferred.ofValue, hcv, Sem.run_bind, Sem.run_pure, Result.andThen_ok, invoke, Array.empty_append]
    rw [e1]
    exact hen _ _
  refine wpIn_of_run (fun c' => by rw [hop]; simp) ?_
  rw [hrun]
  refine upon_enter hC ?_
  rintro en w' ⟨x, μ', F', res, hp', hΦ, rfl, hFb', hH', hr, hF', hbel⟩
  exact ⟨x, rfl, hK _ _ (h' res hp' hΦ Z0 w0 _ _ ⟨μ', F', hFb', hH', put_rel hF' _ hr, by rw [put_defers']; exact .inl (hd.none hnm), hbel⟩)⟩

theorem R.callY {q : Nat} {f : FuncId} {avs : List AV} {hp : List AObj} {Φ : AV → List AObj → Prop} (hc : CallY P q f avs hp Φ) (hk : killL q m.st.fr = m.st.fr) (h : csAt m = some (f, avs)) (hh : m.st.hp = hp) (ht : opsHd m = true) (h' : ∀ res hp', Φ res hp' → Runs rd P (putM m none res hp') Q) : Runs rd P m Q := by
  have hnm := csAt_mark h
  obtain ⟨fo, args, tys, caps, hop, hf, rfl⟩ := csAt_parts h
  subst hh
  obtain ⟨ks, ⟨fr, hp⟩⟩ := m
  unfold opM headOf at hop
  unfold opsHd at ht
  unfold putM at h'
  simp only [runs_iff] at h' ⊢
  try simp only at hop ht h' hf hc hnm hk ⊢
  split at hop
  · rename_i all o fl t heq
    split at hop
    · rename_i hw
      simp only [Option.some.injEq] at hop
      split at heq
      · cases heq
        intro hW
        exact OpsQ.callY hnm (wantH_true hw hW) hop hf hk hc fun res hp' hΦ => h' res hp' hΦ headW_false
      · simp at ht
      · cases heq
    · cases hop
  · cases hop
theorem CallY.ofF {q : Nat} {f : FuncId} {fn : Func} {c : Code} {args : List AV} {hp : List AObj} {Φ : AV → List AObj → Prop} (hf : P.funcs[f]? = some fn) (hb : fn.body = some c) (hnm : (fn.name == "runtime.NumGoroutine") = false)
    (h : ∀ us fr, Fits hp.length fr → killL q fr = fr → Runs none P ⟨[.code c], ⟨frameOf fn.ntmps args, hp ++ [.frame us fr]⟩⟩ (retX P fn hp.length us fr Φ)) : CallY P q f args hp Φ := by
  refine ⟨enters_of hf hnm (by rw [hb]; rfl), ?_⟩
  intro Z0 F w0 w μ vs us fr hFb hH hvs hus hbel hkq
  have hml := hH.len
  have hfit : Fits hp.length fr := ⟨fun js hjs => RelL.fitR (by rw [hml]; exact hjs) hus, fun i hi => RelL.fitK (by rw [hml]; exact hi) hus, fun i r hi => RelL.fitF (by rw [hml]; exact hi) hus⟩
  · have hlen := hvs.length
    refine calls_of_wpIn hf hb ?_
    have hS : Sim Z0 w0 ⟨frameOf fn.ntmps args, hp ++ [.frame us fr]⟩ { tmps := vs.toArray ++ Array.replicate (fn.ntmps - vs.toArray.size) undef, defers := [] } w := by
      refine ⟨μ ++ [.bool false], F, hFb, hH.extend1 (zone_new hbel.size hFb) (Below.refl _ _) ?_ (fun g hg => by simp [blk] at hg) rfl, ?_, .inl rfl, hbel⟩
      · exact RelL.keep (w := w) (fun _ _ _ => rfl) (fun i u hu => append_old i u hu) hus
      · simp only [Array.toList_append, Array.toList_replicate, List.size_toArray, hlen, frameOf]
        refine RelL.append (RelL.keep (w := w) (fun _ _ _ => rfl) (fun i u hu => append_old i u hu) hvs) ?_
        generalize fn.ntmps - args.length = n
        induction n with
        | zero => exact RelL.nil
        | succ n ih => exact RelL.cons (by simp [Rel]) ih
    have hrun2 := h us fr hfit hkq
    simp only [runs_iff] at hrun2
    simp only [RunsK] at hrun2
    refine wpIn_mono (hrun2 Z0 w0 _ w hS) ?_
    have fin : ∀ (e : Exit) (st' : St) (a' : Act) (w' : World), retX P fn hp.length us fr Φ e st' → Sim Z0 w0 st' a' w' → a'.defers = [] ∧ ∃ v, (results fn a'.tmps).run P w' = .ok v w' ∧ ∃ v' μ' F' res hp', Φ res hp' ∧ Ending.returned v = .returned v' ∧ (∀ b, F' b → w0.heap.size ≤ b ∧ b < w'.heap.size) ∧ HRel w' (Zone Z0 F' w0.heap.size) w0.heap.size μ' hp' ∧ Rel w' (Zone Z0 F' w0.heap.size) μ' res v' ∧ RelL w' (Zone Z0 F' w0.heap.size) μ' fr us ∧ Below w0.heap.size w0 w' := by
      rintro e st' a' w' ⟨res, hp', hΦ, _, hres, hfr, hh⟩ ⟨μ', F', hFb', hH', hF', hd', hbel'⟩
      obtain ⟨x, h1, h2⟩ := resIn_run hH' hF' hres
      unfold frameAt at hfr
      split at hfr
      · rename_i us2 fr2 hi
        cases hfr
        have hil : hp.length < μ'.length := by rw [hH'.len]; exact (List.getElem?_eq_some_iff.1 hi).1
        have hfrr : RelL w' (Zone Z0 F' w0.heap.size) μ' fr us := hH'.obj _ _ _ hi (List.getElem?_eq_getElem hil)
        exact ⟨hd'.none (resIn_mark hres), x, h1, x, μ', F', res, hp', hΦ, rfl, hFb', hh ▸ hH'.bury _, h2, hfrr, hbel'⟩
      · cases hfr
    rintro e a' w' ⟨st', hq, hS'⟩
    cases e with
    | normal => exact fin _ st' a' w' hq hS'
    | ret => exact fin _ st' a' w' hq hS'
    | exit id => (obtain ⟨_, _, _, hq, _⟩ := hq; exact absurd hq (by simp))
    | goto l => (obtain ⟨_, _, _, hq, _⟩ := hq; exact absurd hq (by simp))
    | panic ch => (obtain ⟨_, _, _, hq, _⟩ := hq; exact absurd hq (by simp))
    | outgrown => (obtain ⟨_, _, _, hq, _⟩ := hq; exact absurd hq (by simp))
end
section
variable {P : Program}
theorem CallY.dropE {P : Program} {q : Nat} {f : FuncId} {args : List AV} {hp : List AObj} {Φ : AV → List AObj → Prop} (hc : CallY P q f args hp fun r h => ∃ js : List Nat, js.take hp.length = List.range hp.length ∧ js.Nodup ∧ Φ (r.ren js) (renH js h)) :
    CallY P q f args hp Φ := by
  obtain ⟨hen, hc⟩ := hc
  refine ⟨hen, ?_⟩
  intro Z0 F w0 w μ vs us fr hFb hH hvs hus hbel hkq
  refine (hc Z0 F w0 w μ vs us fr hFb hH hvs hus hbel hkq).mono ?_
  rintro e w' ⟨v, μ1, F1, res, hp', ⟨js, h1, h2, hΦ⟩, rfl, hF1, hH1, hres, hfr1, hb1⟩
  have hm1 := hH1.len
  have hjs : ∀ i, i < hp.length → js[i]? = some i := by
    intro i hi
    have := congrArg (fun l : List Nat => l[i]?) h1
    simp only [List.getElem?_take, if_pos hi] at this
    rw [this]
    simp [hi]
  refine ⟨v, _, F1, _, _, hΦ, rfl, hF1, hH1.ren js h2, Rel.ren js hres, ?_, hb1⟩
  refine RelL.mix (n := hp.length) ?_ ?_ hus (hfr1.ren (List.range hp.length))
  · intro i x hi hx
    rw [List.getElem?_map, hjs i hi]
    rw [List.getElem?_map] at hx
    simpa [hi] using hx
  · intro i x hi hx
    have h4 := (List.getElem?_eq_some_iff.1 hx).1
    have h5 := hH.len
    omega
end
end Go.Abs


/-! Calls by reference that may move a row which the caller's frame names: the frame forgets it. -/
namespace Go.Abs
open Go.RowKit Go.ChangeShapes Go.WideShapes Go.Deep

mutual
theorem AV.kill_kill (q : Nat) : ∀ c : AV, (c.kill q).kill q = c.kill q
  | .int _ _ => rfl
  | .bool _ => rfl
  | .str _ => rfl
  | .nil => rfl
  | .top => rfl
  | .own _ _ _ _ => rfl
  | .lst _ _ _ => rfl
  | .clp _ _ _ => rfl
  | .nam _ _ _ _ _ => rfl
  | .rptr _ => rfl
  | .ref i => by
    simp only [AV.kill]
    split
    · rfl
    · rename_i h
      simp only [AV.kill, if_neg h]
  | .ptr i o => by
    simp only [AV.kill]
    split
    · rfl
    · rename_i h
      simp only [AV.kill, if_neg h]
  | .agg cs => by simp only [AV.kill, killL_kill q cs]
  | .tup cs => by simp only [AV.kill, killL_kill q cs]
  | .fn f cs => by simp only [AV.kill, killL_kill q cs]
theorem killL_kill (q : Nat) : ∀ cs : List AV, killL q (killL q cs) = killL q cs
  | [] => rfl
  | c :: cs => by simp only [killL, AV.kill_kill q c, killL_kill q cs]
end

section
variable {rd : Option Nat} {P : Program} {m : M} {Q : Exit → St → Prop}
theorem OpsQ.callZ {all : Array Oper} {o : Oper} {l : List Oper} {fr : List AV} {hp : List AObj} {R : Exit → St → Prop} {c : Operand} {args : Array Operand} {tys : Array TypeId} {q : Nat} {f : FuncId} {caps : List AV} {Φ : AV → List AObj → Prop} (hnm : noMark hp = true) (hw : WantedA all o fr)
    (hop : o.op = .call { callee := .value c, args := args, argTypes := tys }) (hc : ev fr c = .fn f caps) (hcall : CallY P q f (args.toList.map (ev fr) ++ caps) hp Φ) (h' : ∀ res hp', Φ res hp' → OpsQ rd P all l ⟨putF (killL q fr) o.dst res, hp'⟩ R) : OpsQ rd P all (o :: l) ⟨fr, hp⟩ R := by
  intro Z0 w0 a w hS
  refine wpListIn_step fun K hK => ?_
  obtain ⟨μ, F, hFb, hH, hF, hd, hb⟩ := hS
  rw [wanted_rel hF hw, if_pos rfl]
  have hE : ∀ y, Rel w (Zone Z0 F w0.heap.size) μ (ev fr y) (a.eval y) := fun y => ev_rel hF y
  have hcv := hc ▸ hE c
  simp only [Rel] at hcv
  obtain ⟨cv, hcv, hrc⟩ := hcv
  have hargs' : RelL w (Zone Z0 F w0.heap.size) μ (args.toList.map (ev fr)) (args.toList.map a.eval) := by
    generalize args.toList = l
    induction l with
    | nil => exact RelL.nil
    | cons x l ih => exact RelL.cons (hE x) ih
  obtain ⟨hen, hcall⟩ := hcall
  have hFk : RelL w (Zone Z0 F w0.heap.size) μ (killL q fr) a.tmps.toList := RelL.keep_kill q (fun _ _ _ => rfl) (fun i u _ h => h) hF
  have hC := hcall Z0 F w0 w μ _ _ (killL q fr) hFb hH (hargs'.append hrc) hFk hb (killL_kill q fr)
  have hrun : (execOp a.eval o).run P w = .ok (.enter f (args.toList.map a.eval ++ cv).toArray) w := by
    have e1 : (args.map a.eval ++ cv.toArray) = (args.toList.map a.eval ++ cv).toArray := by
      apply Array.toList_inj.1; simp
    simp only [execOp, hop, resolve, Deferred.ofValue, hcv, Sem.run_bind, Sem.run_pure, Result.andThen_ok, invoke, Array.empty_append]
    rw [e1]
    exact hen _ _
  refine wpIn_of_run (fun c' => by rw [hop]; simp) ?_
  rw [hrun]
  refine upon_enter hC ?_
  rintro en w' ⟨x, μ', F', res, hp', hΦ, rfl, hFb', hH', hr, hF', hbel⟩
  exact ⟨x, rfl, hK _ _ (h' res hp' hΦ Z0 w0 _ _ ⟨μ', F', hFb', hH', put_rel hF' _ hr, by rw [put_defers']; exact .inl (hd.none hnm), hbel⟩)⟩

theorem R.callZ {q : Nat} {f : FuncId} {avs : List AV} {hp : List AObj} {Φ : AV → List AObj → Prop} (hc : CallY P q f avs hp Φ) (h : csAt m = some (f, avs)) (hh : m.st.hp = hp) (ht : opsHd m = true) (h' : ∀ res hp', Φ res hp' → Runs rd P (putM ⟨m.ks, ⟨killL q m.st.fr, m.st.hp⟩⟩ none res hp') Q) : Runs rd P m Q := by
  have hnm := csAt_mark h
  obtain ⟨fo, args, tys, caps, hop, hf, rfl⟩ := csAt_parts h
  subst hh
  obtain ⟨ks, ⟨fr, hp⟩⟩ := m
  unfold opM headOf at hop
  unfold opsHd at ht
  unfold putM at h'
  simp only [runs_iff] at h' ⊢
  try simp only at hop ht h' hf hc hnm ⊢
  split at hop
  · rename_i all o fl t heq
    split at hop
    · rename_i hw
      simp only [Option.some.injEq] at hop
      split at heq
      · cases heq
        intro hW
        exact OpsQ.callZ hnm (wantH_true hw hW) hop hf hc fun res hp' hΦ => h' res hp' hΦ headW_false
      · simp at ht
      · cases heq
    · cases hop
  · cases hop
end
end Go.Abs


/-! Named slices: rows of one's own laid into rows; a named row taken back to be written; slots read by names. -/
namespace Go.Abs
open Go.RowKit

/-! ### Names -/
mutual
/-- u stands named in c, with a block that is read. -/
def InN (u : Value) : AV → Prop
  | .nam v o _ _ cs => (u = v ∧ (cs ≠ [] ∨ o ≠ none)) ∨ InNL u cs
  | .lst _ _ cs => InNL u cs
  | .clp _ _ cs => InNL u cs
  | .rptr cs => InNL u cs
  | .agg cs => InNL u cs
  | .tup cs => InNL u cs
  | .fn _ cs => InNL u cs
  | .int _ _ => False
  | .bool _ => False
  | .str _ => False
  | .nil => False
  | .ref _ => False
  | .ptr _ _ => False
  | .own _ _ _ _ => False
  | .top => False
def InNL (u : Value) : List AV → Prop
  | [] => False
  | c :: cs => InN u c ∨ InNL u cs
end

mutual
/-- Nothing is read but by a name. -/
def NoRaw : AV → Bool
  | .nam _ _ _ _ cs => NoRawL cs
  | .lst _ _ cs => cs.isEmpty
  | .clp _ _ cs => cs.isEmpty
  | .rptr _ => false
  | .agg cs => NoRawL cs
  | .tup cs => NoRawL cs
  | .fn _ cs => NoRawL cs
  | .int _ _ => true
  | .bool _ => true
  | .str _ => true
  | .nil => true
  | .ref _ => true
  | .ptr _ _ => true
  | .own _ _ _ _ => true
  | .top => true
def NoRawL : List AV → Bool
  | [] => true
  | c :: cs => NoRaw c && NoRawL cs
end

theorem add_block' (a : Addr) (j : Nat) : (a.add j).block = a.block := by unfold Addr.add; split <;> rfl

section
variable {w : World}
mutual
/-- A name's block is there, and is not written. -/
theorem InN.of {Z : Nat → Prop} {μ : List Value} {u : Value} {g : Nat} (hg : blk u = some g) : ∀ {c : AV} {v : Value}, Rel w Z μ c v → InN u c → g < w.heap.size ∧ ¬ Z g
  | .nam v' o s n cs, v, h, hn => by
    simp only [Rel] at h
    simp only [InN] at hn
    obtain ⟨⟨h0, h00⟩, A, c, xs, h1, h2, h3, h4, h5⟩ := h
    rcases hn with ⟨rfl, hn⟩ | hn
    · subst h0
      by_cases ho : o = none
      · have hcs : cs ≠ [] := by
          rcases hn with hn | hn
          · exact hn
          · exact absurd ho hn
        have hx : xs ≠ [] := by
          intro e
          have h6 := h5.length
          rw [e] at h6
          exact hcs (List.eq_nil_of_length_eq_zero (by simpa using h6.symm))
        obtain ⟨ad, rfl, hz, hc⟩ := h4 hx
        rw [h1] at hg
        simp only [blk, Option.some.injEq] at hg
        subst hg
        cases xs with
        | nil => exact absurd rfl hx
        | cons y ys =>
          have h6 := World.block_lt_of_cell? w _ (hc 0 y rfl)
          rw [add_block'] at h6
          exact ⟨h6, hz⟩
      · cases o with
        | none => exact absurd rfl ho
        | some e =>
          obtain ⟨xs', hown, hz⟩ := h00 e rfl
          exact ⟨ownsRow_lt' hown hg, hz g hg⟩
    · exact InNL.of hg h5 hn
  | .lst s n cs, v, h, hn => by
    simp only [Rel] at h
    simp only [InN] at hn
    obtain ⟨A, c, xs, h1, h2, h3, h4, h5⟩ := h
    exact InNL.of hg h5 hn
  | .clp s n cs, v, h, hn => by
    simp only [Rel] at h
    simp only [InN] at hn
    obtain ⟨A, c, xs, h1, h2, h3, h4, h5⟩ := h
    exact InNL.of hg h5 hn
  | .rptr cs, v, h, hn => by
    simp only [Rel] at h
    simp only [InN] at hn
    obtain ⟨ad, xs, h1, h4, h5⟩ := h
    exact InNL.of hg h5 hn
  | .agg cs, v, h, hn => by
    simp only [Rel] at h
    simp only [InN] at hn
    obtain ⟨xs, h1, h5⟩ := h
    exact InNL.of hg h5 hn
  | .tup cs, v, h, hn => by
    simp only [Rel] at h
    simp only [InN] at hn
    obtain ⟨xs, h1, h5⟩ := h
    exact InNL.of hg h5 hn
  | .fn f cs, v, h, hn => by
    simp only [Rel] at h
    simp only [InN] at hn
    obtain ⟨xs, h1, h5⟩ := h
    exact InNL.of hg h5 hn
  | .int _ _, _, _, hn => by simp [InN] at hn
  | .bool _, _, _, hn => by simp [InN] at hn
  | .str _, _, _, hn => by simp [InN] at hn
  | .nil, _, _, hn => by simp [InN] at hn
  | .ref _, _, _, hn => by simp [InN] at hn
  | .ptr _ _, _, _, hn => by simp [InN] at hn
  | .own _ _ _ _, _, _, hn => by simp [InN] at hn
  | .top, _, _, hn => by simp [InN] at hn
theorem InNL.of {Z : Nat → Prop} {μ : List Value} {u : Value} {g : Nat} (hg : blk u = some g) : ∀ {cs : List AV} {vs : List Value}, RelL w Z μ cs vs → InNL u cs → g < w.heap.size ∧ ¬ Z g
  | [], _, _, hn => by simp [InNL] at hn
  | c :: cs, _, h, hn => by
    simp only [RelL] at h
    simp only [InNL] at hn
    obtain ⟨x, xs, rfl, h1, h2⟩ := h
    rcases hn with hn | hn
    · exact InN.of hg h1 hn
    · exact InNL.of hg h2 hn
end

end

/-! ### One of several states -/
def SubE {ι : Type} (st : St) (st' : ι → St) (Φ : ι → Prop) : Prop := ∀ (Z0 : Nat → Prop) (w0 : World) (a : Act) (w : World), Sim Z0 w0 st a w → ∃ x, Φ x ∧ Sim Z0 w0 (st' x) a w

section
variable {rd : Option Nat} {P : Program} {m : M} {Q : Exit → St → Prop}
theorem R.subE {ι : Type} (st' : ι → St) (Φ : ι → Prop) (h : subOk m = true) (hs : SubE m.st st' Φ) (h' : ∀ x, Φ x → Runs rd P ⟨m.ks, st' x⟩ Q) : Runs rd P m Q := by
  obtain ⟨ks, st⟩ := m
  unfold subOk at h
  simp only [runs_iff] at h' ⊢
  try simp only at h hs h' ⊢
  split at h
  · intro Z0 w0 a w hS
    obtain ⟨x, hx, hS'⟩ := hs Z0 w0 a w hS
    exact h' x hx Z0 w0 a w hS'
  · intro _ Z0 w0 a w hS
    obtain ⟨x, hx, hS'⟩ := hs Z0 w0 a w hS
    exact h' x hx headW_false Z0 w0 a w hS'
  · intro Z0 w0 a w hS
    obtain ⟨x, hx, hS'⟩ := hs Z0 w0 a w hS
    exact h' x hx Z0 w0 a w hS'
  · cases h
end

/-! ### A row of one's own gets a name -/
/-- u stands named in the state. -/
def InS (u : Value) (st : St) : Prop := InNL u st.fr ∨ ∃ (j : Nat) (o : AObj), st.hp[j]? = some o ∧ InNL u o.cells

theorem InS.of {w : World} {Z : Nat → Prop} {B : Nat} {μ : List Value} {st : St} {vs : List Value} {u : Value} {g : Nat} (hH : HRel w Z B μ st.hp) (hF : RelL w Z μ st.fr vs) (hg : blk u = some g) (h : InS u st) : g < w.heap.size ∧ ¬ Z g := by
  rcases h with h | ⟨j, o, ho, h⟩
  · exact InNL.of hg hF h
  · have hjl : j < μ.length := by rw [hH.len]; exact (List.getElem?_eq_some_iff.1 ho).1
    obtain ⟨xs, hx, _⟩ := obj_cells (hH.obj j o _ ho (List.getElem?_eq_getElem hjl))
    exact InNL.of hg hx h

section
variable {rd : Option Nat} {P : Program} {m : M} {Q : Exit → St → Prop}
end

/-! ### Objects told otherwise -/
/-! ### A named row taken back -/
section
variable {rd : Option Nat} {P : Program} {m : M} {Q : Exit → St → Prop}
end

/-! ### A slot read by names -/
mutual
def nameable : AV → Bool
  | .lst _ _ cs => nameableL cs
  | .agg cs => nameableL cs
  | .int _ _ => true
  | .bool _ => true
  | .nil => true
  | .nam _ _ _ _ _ => false
  | .clp _ _ _ => false
  | .rptr _ => false
  | .tup _ => false
  | .fn _ _ => false
  | .str _ => true
  | .ref _ => false
  | .ptr _ _ => false
  | .own _ _ _ _ => false
  | .top => true
def nameableL : List AV → Bool
  | [] => true
  | c :: cs => nameable c && nameableL cs
end

/-- c' is c, read by names. -/
structure ByN (c' c : AV) : Prop where
  leafy : c'.leafy = true
  raw : NoRaw c' = true
  fgt : ∀ (w : World) (Z : Nat → Prop) v, Rel w Z [] c' v → Rel w Z [] c v

structure ByNL (c' c : List AV) : Prop where
  leafy : leafyL c' = true
  raw : NoRawL c' = true
  fgt : ∀ (w : World) (Z : Nat → Prop) v, RelL w Z [] c' v → RelL w Z [] c v

mutual
theorem name_of {w : World} {Z : Nat → Prop} : ∀ {c : AV} {v : Value}, nameable c = true → Rel w Z [] c v → ∃ c', ByN c' c ∧ Rel w Z [] c' v
  | .lst s n cs, v, h, hr => by
    simp only [nameable] at h
    simp only [Rel] at hr
    obtain ⟨A, c, xs, h1, h2, h3, h4, h5⟩ := hr
    obtain ⟨cs', ⟨k1, k2, k3⟩, k4⟩ := nameL_of h h5
    refine ⟨.nam v none s n cs', ⟨rfl, by simpa [NoRaw] using k2, fun w Z x hx => ?_⟩, ?_⟩
    · simp only [Rel] at hx ⊢
      obtain ⟨_, A, c, xs', e1, e2, e3, e4, e5⟩ := hx
      exact ⟨A, c, xs', e1, by rw [← h2, ← h5.length, k4.length, e2, ← e2, ← k4.length, h5.length, h2] , e3, e4, k3 _ _ _ e5⟩
    · simp only [Rel]
      exact ⟨⟨trivial, fun e he => by cases he⟩, A, c, xs, h1, by rw [← k4.length, h5.length, h2], h3, h4, k4⟩
  | .agg cs, v, h, hr => by
    simp only [nameable] at h
    simp only [Rel] at hr
    obtain ⟨xs, h1, h5⟩ := hr
    obtain ⟨cs', ⟨k1, k2, k3⟩, k4⟩ := nameL_of h h5
    refine ⟨.agg cs', ⟨by simpa [AV.leafy] using k1, by simpa [NoRaw] using k2, fun w Z x hx => ?_⟩, ?_⟩
    · simp only [Rel] at hx ⊢
      obtain ⟨xs', e1, e5⟩ := hx
      exact ⟨xs', e1, k3 _ _ _ e5⟩
    · simp only [Rel]
      exact ⟨xs, h1, k4⟩
  | .int k n, v, _, hr => ⟨.int k n, ⟨rfl, rfl, fun _ _ _ h => h⟩, hr⟩
  | .bool b, v, _, hr => ⟨.bool b, ⟨rfl, rfl, fun _ _ _ h => h⟩, hr⟩
  | .str b, v, _, hr => ⟨.str b, ⟨rfl, rfl, fun _ _ _ h => h⟩, hr⟩
  | .nil, v, _, hr => ⟨.nil, ⟨rfl, rfl, fun _ _ _ h => h⟩, hr⟩
  | .top, v, _, hr => ⟨.top, ⟨rfl, rfl, fun _ _ _ h => h⟩, hr⟩
  | .nam _ _ _ _ _, _, h, _ => by simp [nameable] at h
  | .clp _ _ _, _, h, _ => by simp [nameable] at h
  | .rptr _, _, h, _ => by simp [nameable] at h
  | .tup _, _, h, _ => by simp [nameable] at h
  | .fn _ _, _, h, _ => by simp [nameable] at h
  | .ref _, _, h, _ => by simp [nameable] at h
  | .ptr _ _, _, h, _ => by simp [nameable] at h
  | .own _ _ _ _, _, h, _ => by simp [nameable] at h
theorem nameL_of {w : World} {Z : Nat → Prop} : ∀ {c : List AV} {v : List Value}, nameableL c = true → RelL w Z [] c v → ∃ c', ByNL c' c ∧ RelL w Z [] c' v
  | [], v, _, hr => ⟨[], ⟨rfl, rfl, fun _ _ _ h => h⟩, hr⟩
  | c :: cs, v, h, hr => by
    simp only [nameableL, Bool.and_eq_true] at h
    simp only [RelL] at hr
    obtain ⟨x, xs, rfl, h1, h2⟩ := hr
    obtain ⟨c', ⟨k1, k2, k3⟩, k4⟩ := name_of h.1 h1
    obtain ⟨cs', ⟨l1, l2, l3⟩, l4⟩ := nameL_of h.2 h2
    refine ⟨c' :: cs', ⟨by simp [leafyL, k1, l1], by simp [NoRawL, k2, l2], fun w Z v hv => ?_⟩, RelL.cons k4 l4⟩
    simp only [RelL] at hv ⊢
    obtain ⟨x, xs, e1, e2, e3⟩ := hv
    exact ⟨x, xs, e1, k3 _ _ _ e2, l3 _ _ _ e3⟩
end

theorem SubE.name (t : Nat) (c : AV) (st : St) (ht : st.fr[t]? = some c) (hn : nameable c = true) (hl : c.leafy = true) : SubE st (fun c' => ⟨st.fr.set t c', st.hp⟩) (fun c' => ByN c' c) := by
  rintro Z0 w0 a w ⟨μ, F, hFb, hH, hF, hd, hb⟩
  obtain ⟨x, hx, hr⟩ := hF.get ht
  obtain ⟨c', h1, h2⟩ := name_of hn (Rel.leafy hl hr)
  refine ⟨c', h1, μ, F, hFb, hH, ?_, hd, hb⟩
  have h3 := hF.set t h2.lift
  rwa [show a.tmps.toList.set t x = a.tmps.toList by
    apply List.ext_getElem?
    intro i
    by_cases hi : i = t
    · subst hi; rw [List.getElem?_set_self (List.getElem?_eq_some_iff.1 hx).1, hx]
    · rw [List.getElem?_set_ne (Ne.symm hi)]] at h3

section
variable {rd : Option Nat} {P : Program} {m : M} {Q : Exit → St → Prop}
theorem R.name (t : Nat) (c : AV) (h : subOk m = true) (ht : m.st.fr[t]? = some c) (hn : nameable c = true) (hl : c.leafy = true) (h' : ∀ c', ByN c' c → Runs rd P ⟨m.ks, ⟨m.st.fr.set t c', m.st.hp⟩⟩ Q) : Runs rd P m Q :=
  R.subE _ _ h (SubE.name t c m.st ht hn hl) h'
end

end Go.Abs


/-! Calls of which is told that there is a result with some facts, which may speak of the first block that the call made; calls by value whose arguments are told less of. -/
namespace Go.Abs
open Go.RowKit

def CallE (P : Program) (f : FuncId) (args : List AV) (Φ : Nat → AV → Prop) : Prop :=
  Enters P f ∧ ∀ (Z0 : Nat → Prop) (w : World) (vs : List Value), RelL w (Zone Z0 NoF w.heap.size) [] args vs →
    Calls P f vs.toArray w fun e w' => ∃ res v bs F', Φ w.heap.size res ∧ e = .returned v ∧ (∀ b, F' b → w.heap.size ≤ b ∧ b < w'.heap.size) ∧ RF w' (Zone Z0 F' w.heap.size) w.heap.size res v bs ∧ bs.Nodup ∧ (∀ b ∈ bs, ¬ F' b) ∧ Below w.heap.size w w'

theorem CallE.mono {P : Program} {f : FuncId} {args : List AV} {Φ Ψ : Nat → AV → Prop} (h : CallE P f args Φ) (h' : ∀ b r, Φ b r → Ψ b r) : CallE P f args Ψ := by
  refine ⟨h.1, fun Z0 w vs hvs => (h.2 Z0 w vs hvs).mono ?_⟩
  rintro e w' ⟨r, v, bs, F', hr, h⟩
  exact ⟨r, v, bs, F', h' _ _ hr, h⟩

/-- A result; object 0 is the base. -/
def resB (P : Program) (fn : Func) (st : St) : Option AV :=
  match st.hp[0]? with
  | some (AObj.inert (Inert.base _)) => if noMark st.hp then resOf P fn ⟨st.fr, st.hp.set 0 AObj.dead⟩ else none
  | _ => none

/-- How a function's body ends that hands back something with Φ. -/
def retE (P : Program) (fn : Func) (b : Nat) (Φ : Nat → AV → Prop) : Exit → St → Prop := fun e st' => (e = .normal ∨ e = .ret) ∧ ∃ res, Φ b res ∧ resB P fn st' = some res

theorem CallE.of {P : Program} {f : FuncId} {fn : Func} {c : Code} {args : List AV} {Φ : Nat → AV → Prop} (hf : P.funcs[f]? = some fn) (hb : fn.body = some c) (hnm : (fn.name == "runtime.NumGoroutine") = false)
    (h : ∀ b, Runs none P ⟨[.code c], ⟨frameOf fn.ntmps args, [.inert (.base b)]⟩⟩ (retE P fn b Φ)) : CallE P f args Φ := by
  refine ⟨enters_of hf hnm (by rw [hb]; rfl), ?_⟩
  intro Z0 w vs hvs
  have hlen := hvs.length
  refine callsIn_wide.1 (callsIn_of_wp_marks (F := Fence.wide) (n := 0) hf hb trivial ?_)
  have hS : Sim Z0 w ⟨args ++ List.replicate (fn.ntmps - args.length) .top, [.inert (.base w.heap.size)]⟩ { tmps := vs.toArray ++ Array.replicate (fn.ntmps - vs.toArray.size) undef, defers := [] } w := by
    have one : ∀ {i : Nat} {α : Type} {x y : α}, ([x] : List α)[i]? = some y → i = 0 ∧ y = x := by
      intro i α x y h
      cases i with
      | zero => simp at h; exact ⟨rfl, h.symm⟩
      | succ i => simp at h
    refine ⟨[.bool false], NoF, fun b h => h.elim, ⟨rfl, fun i o u g h1 h2 h3 hg => ?_, fun i u h => ?_, fun i o u h1 h2 => ?_, fun i j oi oj ui uj g hne h1 h2 => ?_⟩, ?_, .inl rfl, Below.refl _ _⟩
    · obtain ⟨_, rfl⟩ := one h3
      cases hg
    · obtain ⟨_, rfl⟩ := one h
      rfl
    · obtain ⟨_, rfl⟩ := one h1
      obtain ⟨_, rfl⟩ := one h2
      exact ⟨rfl, rfl⟩
    · exact absurd ((one h1).1.trans (one h2).1.symm) hne
    simp only [Array.toList_append, Array.toList_replicate, List.size_toArray, hlen]
    refine (RelL.lift hvs).append ?_
    generalize fn.ntmps - args.length = n
    induction n with
    | zero => exact RelL.nil
    | succ n ih => exact RelL.cons (by simp [Rel]) ih
  refine wpIn_mono ((h w.heap.size).out Z0 w _ w hS) ?_
  have fin : ∀ (st' : St) (a' : Act) (w' : World) res, Φ w.heap.size res → resB P fn st' = some res → Sim Z0 w st' a' w' → LeavesInM Fence.wide 0 P fn a'.tmps (fun e w'' => ∃ res v' bs F', Φ w.heap.size res ∧ e = .returned v' ∧ (∀ b, F' b → w.heap.size ≤ b ∧ b < w''.heap.size) ∧ RF w'' (Zone Z0 F' w.heap.size) w.heap.size res v' bs ∧ bs.Nodup ∧ (∀ b ∈ bs, ¬ F' b) ∧ Below w.heap.size w w'') a'.defers .returning w' := by
    rintro st' a' w' res hΦ hr ⟨μ, F, hFb, hH, hF, hd, hbel⟩
    unfold resB at hr
    split at hr
    · rename_i b hb0
      split at hr
      · rename_i hnm
        have hr := resOf_parts hr
        rw [hd.none hnm]
        obtain ⟨x, bs, h1, h2, h3, h4⟩ := resOf_run (st := ⟨st'.fr, st'.hp.set 0 .dead⟩) (hH.bury 0) hF hr.1
        have hge := RF.ge h2
        refine ⟨x, h1, res, x, bs, F, hΦ, rfl, hFb, h2, h3, fun b hb hf => ?_, hbel⟩
        have := hge b hb
        exact (h4 b hb).elim (fun h => absurd h.1 (by omega)) (fun h => h.2 hf)
      · cases hr
    · cases hr
  rintro e a' w' ⟨st', ⟨hq, res, hΦ, hr⟩, hS'⟩
  rcases hq with rfl | rfl
  · exact fin st' a' w' res hΦ hr hS'
  · exact fin st' a' w' res hΦ hr hS'

/-! ### Results that lead into new blocks alone -/
section
variable {rd : Option Nat} {P : Program} {m : M} {Q : Exit → St → Prop}
end

end Go.Abs


/-! Rows of named rows; the rules for them; loops of few rounds. -/
namespace Go.Abs
open Go.RowKit

section
variable {α : Type} {E : α → List AV} {el s b : Nat} {L : List (Value × List α)} {v : Value}

/-- The names are of blocks of their own, from b on. -/
structure NL (b : Nat) (L : List (Value × List α)) : Prop where
  nd : (L.filterMap fun x => blk x.1).Nodup
  ge : ∀ x ∈ L, ∀ g, blk x.1 = some g → b ≤ g

theorem NL.nil : NL b ([] : List (Value × List α)) := ⟨List.nodup_nil, fun x h => by simp at h⟩
theorem NL.mono {b' : Nat} (h : NL b L) (hb : b' ≤ b) : NL b' L := ⟨h.nd, fun x hx g hg => Nat.le_trans hb (h.ge x hx g hg)⟩
theorem NL.set (h : NL b L) (i : Nat) (d : Value × List α) (ys : List α) (hi : i < L.length) : NL b (L.set i ((L.getD i d).1, ys)) := by
  have e : (L.set i ((L.getD i d).1, ys)).map (fun x => x.1) = L.map fun x => x.1 := by
    apply List.ext_getElem?
    intro k
    simp only [List.getElem?_map, List.getElem?_set]
    split
    · rename_i hk
      subst hk
      simp [hi, List.getD_eq_getElem?_getD]
    · rfl
  have e2 : ∀ M : List (Value × List α), (M.filterMap fun x => blk x.1) = (M.map fun x => x.1).filterMap blk := fun M => by rw [List.filterMap_map]; rfl
  refine ⟨by rw [e2, e, ← e2]; exact h.nd, fun x hx g hg => ?_⟩
  have : x.1 ∈ L.map fun x => x.1 := by rw [← e]; exact List.mem_map_of_mem hx
  obtain ⟨y, hy, e3⟩ := List.mem_map.1 this
  exact h.ge y hy g (by rw [e3]; exact hg)

theorem NL.at (h : NL b L) (d : Value × List α) {i : Nat} (hi : i < L.length) : ∀ g, blk (L.getD i d).1 = some g → b ≤ g :=
  h.ge _ (List.mem_of_getElem? (i := i) (by simp [List.getD_eq_getElem?_getD, List.getElem?_eq_getElem hi]))

/-! ### What is safe -/
end

section
variable {rd : Option Nat} {P : Program} {m : M} {Q : Exit → St → Prop} {α : Type}

/-! ### Loops of few rounds -/
def lpC (m : M) : Code :=
  match m.ks with
  | .code (.loop c) :: _ => c
  | _ => .skip
def lpK (m : M) : List Kont :=
  match m.ks with
  | .code (.loop _) :: ks => ks
  | _ => []
def isLp (m : M) : Bool :=
  match m.ks with
  | .code (.loop _) :: _ => true
  | _ => false

def Again (rd : Option Nat) (P : Program) (c : Code) (ks : List Kont) (Q : Exit → St → Prop) : Nat → (St → Prop) → Prop
  | 0, _ => True
  | n + 1, R => ∀ st, (∀ R', Again rd P c ks Q n R' → Runs rd P ⟨.code c :: .stop R' :: ks, st⟩ Q) → R st

def RK (rd : Option Nat) (P : Program) (c : Code) (ks : List Kont) (Q : Exit → St → Prop) : Nat → St → Prop
  | 0, _ => False
  | n + 1, st => Runs rd P ⟨.code c :: .stop (RK rd P c ks Q n) :: ks, st⟩ Q

theorem again_RK {c : Code} {ks : List Kont} : ∀ n, Again rd P c ks Q n (RK rd P c ks Q n)
  | 0 => trivial
  | n + 1 => fun _ h => h _ (again_RK n)

theorem R.rounds (n : Nat) (h : isLp m = true) (h' : ∀ R, Again rd P (lpC m) (lpK m) Q n R → Runs rd P ⟨.code (lpC m) :: .stop R :: lpK m, m.st⟩ Q) : Runs rd P m Q := by
  obtain ⟨ks0, st⟩ := m
  have h2 := h' _ (again_RK n)
  unfold isLp at h
  unfold lpC lpK at h2
  simp only at h h2
  split at h
  · simp only at h2
    rw [runs_iff]
    simp only [RunsK]
    rename_i c ks
    refine RunA.loop (I := fun n st => RK rd P c ks Q n st) (n + 1) h2 (fun k st hk => ?_)
    cases k with
    | zero => exact hk.elim
    | succ k =>
      have h1 := hk.out
      simp only [RunsK] at h1
      refine h1.mono fun e st' hq => ?_
      cases e with
      | normal => exact ⟨st', Sub.refl _, k, Nat.lt_succ_self _, hq⟩
      | ret => exact hq
      | exit id => exact hq
      | goto l => exact hq
      | panic ch => exact hq
      | outgrown => exact hq
  · cases h

end

section
variable {rd : Option Nat} {P : Program} {m : M} {Q : Exit → St → Prop}
end

end Go.Abs


/-! Calls by reference that may move several rows. -/
namespace Go.Abs
open Go.RowKit Go.ChangeShapes Go.WideShapes Go.Deep

/-- The frame names none of these objects. -/
def KillsL : List Nat → List AV → Prop
  | [], _ => True
  | q :: qs, fr => killL q fr = fr ∧ KillsL qs fr
def CallQ (P : Program) (qs : List Nat) (f : FuncId) (args : List AV) (hp : List AObj) (Φ : AV → List AObj → Prop) : Prop :=
  Enters P f ∧ ∀ (Z0 F : Nat → Prop) (w0 w : World) (μ vs us : List Value) (fr : List AV), (∀ b, F b → w0.heap.size ≤ b ∧ b < w.heap.size) → HRel w (Zone Z0 F w0.heap.size) w0.heap.size μ hp → RelL w (Zone Z0 F w0.heap.size) μ args vs → RelL w (Zone Z0 F w0.heap.size) μ fr us → Below w0.heap.size w0 w → KillsL qs fr →
    Calls P f vs.toArray w fun e w' => ∃ v μ' F' res hp', Φ res hp' ∧ e = .returned v ∧ (∀ b, F' b → w0.heap.size ≤ b ∧ b < w'.heap.size) ∧ HRel w' (Zone Z0 F' w0.heap.size) w0.heap.size μ' hp' ∧ Rel w' (Zone Z0 F' w0.heap.size) μ' res v ∧ RelL w' (Zone Z0 F' w0.heap.size) μ' fr us ∧ Below w0.heap.size w0 w'


section
variable {rd : Option Nat} {P : Program} {m : M} {Q : Exit → St → Prop}
end

section
variable {rd : Option Nat} {P : Program} {m : M} {Q : Exit → St → Prop}
theorem CallQ.ofF {qs : List Nat} {f : FuncId} {fn : Func} {c : Code} {args : List AV} {hp : List AObj} {Φ : AV → List AObj → Prop} (hf : P.funcs[f]? = some fn) (hb : fn.body = some c) (hnm : (fn.name == "runtime.NumGoroutine") = false)
    (h : ∀ us fr, Fits hp.length fr → KillsL qs fr → Runs none P ⟨[.code c], ⟨frameOf fn.ntmps args, hp ++ [.frame us fr]⟩⟩ (retX P fn hp.length us fr Φ)) : CallQ P qs f args hp Φ := by
  refine ⟨enters_of hf hnm (by rw [hb]; rfl), ?_⟩
  intro Z0 F w0 w μ vs us fr hFb hH hvs hus hbel hkq
  have hml := hH.len
  have hfit : Fits hp.length fr := ⟨fun js hjs => RelL.fitR (by rw [hml]; exact hjs) hus, fun i hi => RelL.fitK (by rw [hml]; exact hi) hus, fun i r hi => RelL.fitF (by rw [hml]; exact hi) hus⟩
  · have hlen := hvs.length
    refine calls_of_wpIn hf hb ?_
    have hS : Sim Z0 w0 ⟨frameOf fn.ntmps args, hp ++ [.frame us fr]⟩ { tmps := vs.toArray ++ Array.replicate (fn.ntmps - vs.toArray.size) undef, defers := [] } w := by
      refine ⟨μ ++ [.bool false], F, hFb, hH.extend1 (zone_new hbel.size hFb) (Below.refl _ _) ?_ (fun g hg => by simp [blk] at hg) rfl, ?_, .inl rfl, hbel⟩
      · exact RelL.keep (w := w) (fun _ _ _ => rfl) (fun i u hu => append_old i u hu) hus
      · simp only [Array.toList_append, Array.toList_replicate, List.size_toArray, hlen, frameOf]
        refine RelL.append (RelL.keep (w := w) (fun _ _ _ => rfl) (fun i u hu => append_old i u hu) hvs) ?_
        generalize fn.ntmps - args.length = n
        induction n with
        | zero => exact RelL.nil
        | succ n ih => exact RelL.cons (by simp [Rel]) ih
    have hrun2 := h us fr hfit hkq
    simp only [runs_iff] at hrun2
    simp only [RunsK] at hrun2
    refine wpIn_mono (hrun2 Z0 w0 _ w hS) ?_
    have fin : ∀ (e : Exit) (st' : St) (a' : Act) (w' : World), retX P fn hp.length us fr Φ e st' → Sim Z0 w0 st' a' w' → a'.defers = [] ∧ ∃ v, (results fn a'.tmps).run P w' = .ok v w' ∧ ∃ v' μ' F' res hp', Φ res hp' ∧ Ending.returned v = .returned v' ∧ (∀ b, F' b → w0.heap.size ≤ b ∧ b < w'.heap.size) ∧ HRel w' (Zone Z0 F' w0.heap.size) w0.heap.size μ' hp' ∧ Rel w' (Zone Z0 F' w0.heap.size) μ' res v' ∧ RelL w' (Zone Z0 F' w0.heap.size) μ' fr us ∧ Below w0.heap.size w0 w' := by
      rintro e st' a' w' ⟨res, hp', hΦ, _, hres, hfr, hh⟩ ⟨μ', F', hFb', hH', hF', hd', hbel'⟩
      obtain ⟨x, h1, h2⟩ := resIn_run hH' hF' hres
      unfold frameAt at hfr
      split at hfr
      · rename_i us2 fr2 hi
        cases hfr
        have hil : hp.length < μ'.length := by rw [hH'.len]; exact (List.getElem?_eq_some_iff.1 hi).1
        have hfrr : RelL w' (Zone Z0 F' w0.heap.size) μ' fr us := hH'.obj _ _ _ hi (List.getElem?_eq_getElem hil)
        exact ⟨hd'.none (resIn_mark hres), x, h1, x, μ', F', res, hp', hΦ, rfl, hFb', hh ▸ hH'.bury _, h2, hfrr, hbel'⟩
      · cases hfr
    rintro e a' w' ⟨st', hq, hS'⟩
    cases e with
    | normal => exact fin _ st' a' w' hq hS'
    | ret => exact fin _ st' a' w' hq hS'
    | exit id => (obtain ⟨_, _, _, hq, _⟩ := hq; exact absurd hq (by simp))
    | goto l => (obtain ⟨_, _, _, hq, _⟩ := hq; exact absurd hq (by simp))
    | panic ch => (obtain ⟨_, _, _, hq, _⟩ := hq; exact absurd hq (by simp))
    | outgrown => (obtain ⟨_, _, _, hq, _⟩ := hq; exact absurd hq (by simp))
end
section
variable {P : Program}
theorem CallQ.dropE {P : Program} {qs : List Nat} {f : FuncId} {args : List AV} {hp : List AObj} {Φ : AV → List AObj → Prop} (hc : CallQ P qs f args hp fun r h => ∃ js : List Nat, js.take hp.length = List.range hp.length ∧ js.Nodup ∧ Φ (r.ren js) (renH js h)) :
    CallQ P qs f args hp Φ := by
  obtain ⟨hen, hc⟩ := hc
  refine ⟨hen, ?_⟩
  intro Z0 F w0 w μ vs us fr hFb hH hvs hus hbel hkq
  refine (hc Z0 F w0 w μ vs us fr hFb hH hvs hus hbel hkq).mono ?_
  rintro e w' ⟨v, μ1, F1, res, hp', ⟨js, h1, h2, hΦ⟩, rfl, hF1, hH1, hres, hfr1, hb1⟩
  have hm1 := hH1.len
  have hjs : ∀ i, i < hp.length → js[i]? = some i := by
    intro i hi
    have := congrArg (fun l : List Nat => l[i]?) h1
    simp only [List.getElem?_take, if_pos hi] at this
    rw [this]
    simp [hi]
  refine ⟨v, _, F1, _, _, hΦ, rfl, hF1, hH1.ren js h2, Rel.ren js hres, ?_, hb1⟩
  refine RelL.mix (n := hp.length) ?_ ?_ hus (hfr1.ren (List.range hp.length))
  · intro i x hi hx
    rw [List.getElem?_map, hjs i hi]
    rw [List.getElem?_map] at hx
    simpa [hi] using hx
  · intro i x hi hx
    have h4 := (List.getElem?_eq_some_iff.1 hx).1
    have h5 := hH.len
    omega
end
end Go.Abs


/-! slices.Sort at rows of integers of one's own. -/
namespace Go.Abs
open Go.RowKit Go.Proofs Go.ChangeShapes Go.WideShapes Go.Deep

def srtI (xs : List Int) : List Int := xs.mergeSort fun x y => decide (x ≤ y)
theorem srtI_len (xs : List Int) : (srtI xs).length = xs.length := List.length_mergeSort xs

theorem relL_ints_inv {w : World} {Z : Nat → Prop} {μ : List Value} : ∀ {xs : List Int} {vs : List Value}, RelL w Z μ (rows eI xs) vs → vs = xs.map (Value.int .i64)
  | [], vs, h => by simpa [rows, RelL] using h
  | x :: xs, vs, h => by
    simp only [rows, eI, List.cons_append, List.nil_append] at h
    simp only [RelL] at h
    obtain ⟨v, vs', rfl, h1, h2⟩ := h
    simp only [AI, Rel] at h1
    rw [List.map_cons, ← relL_ints_inv (xs := xs) h2, h1]

theorem relL_ints_mk {w : World} {Z : Nat → Prop} {μ : List Value} : ∀ xs : List Int, RelL w Z μ (rows eI xs) (xs.map (Value.int .i64))
  | [] => RelL.nil
  | x :: xs => RelL.cons (by simp [Rel, AI]) (relL_ints_mk xs)

theorem CallS.sortAt {P : Program} {ρ : Go.Shelf.Ren} (Ly : SlLaysM.n5 P ρ) (hen : Enters P (ρ.f 5)) (i e : Nat) (xs : List Int) (hp : List AObj) (hi : hp[i]? = some (rowA eI e 1 xs)) (hl : xs.length ≤ 1000000000) :
    CallS P (ρ.f 5) [.ref i] hp (.tup []) (hp.set i (rowA eI e 1 (srtI xs))) := by
  refine ⟨hen, ?_⟩
  intro Z0 F w0 w μ vs us fr hFb hH hvs hus hbel
  have hlen := hvs.length
  obtain ⟨v, rfl⟩ : ∃ v, vs = [v] := by
    cases vs with
    | nil => simp at hlen
    | cons v t => cases t with
      | nil => exact ⟨v, rfl⟩
      | cons _ _ => simp at hlen
  replace hvs : μ[i]? = some v := by
    simp only [RelL, Rel] at hvs
    obtain ⟨x, xs', e1, e2, e3⟩ := hvs
    cases e1; exact e2
  obtain ⟨ys, hown, hrel⟩ : ∃ ys, w.ownsRow w0.heap.size e 1 v xs.length ys ∧ RelL w (Zone Z0 F w0.heap.size) [] (rows eI xs) ys := hH.obj i _ v hi hvs
  have hys := relL_ints_inv hrel
  subst hys
  have hZn := zone_new (Z0 := Z0) hbel.size hFb
  rcases hown with ⟨hyl, ⟨hv, hn⟩ | ⟨g, cap, cur, hv, hbase, hb, hncap, hcap, hsz, htake⟩⟩
  · have hx : xs = [] := List.eq_nil_of_length_eq_zero hn
    subst hx hv
    refine (AnyM.slices_Sort_int_none Ly none 0 w).mono ?_
    rintro en w' ⟨rfl, rfl⟩
    exact ⟨_, μ, F, rfl, hFb, (by rw [show srtI [] = [] from List.mergeSort_nil, set_self hi]; exact hH), by simp [Rel, RelL], hus, hbel⟩
  · subst hv
    have ht2 : cur.toList.take xs.length = xs.map (Value.int .i64) := by rwa [Nat.mul_one] at htake
    have hgl : g < w.heap.size := (Array.getElem?_eq_some_iff.1 hb).1
    refine (AnyM.slices_Sort_int Ly g 0 cap xs w (holds_of_blockI hb ht2) hgl (by omega)).mono ?_
    rintro en w' ⟨rfl, nn, os, rfl⟩
    have hgr := grownBy_sortedI (w := w) (g := g) (n := nn) (os := os) (xs.mergeSort fun x y => decide (x ≤ y)).toArray
    have hro := ownsRow_sortedI (n := nn) (os := os) (ts := xs.mergeSort fun x y => decide (x ≤ y)) (List.length_mergeSort xs) hbase hb hncap hcap hsz
    have hbl : Below w0.heap.size w (Go.Sort.grow (Go.Sort.putRow (Value.int .i64) (Sort.ahead w nn) g 0 (xs.mergeSort fun x y => decide (x ≤ y)).toArray) os) := ⟨hgr.os, hgr.tape, hgr.output, hgr.size, fun k hk => hgr.block k (by have := hbel.size; omega) (by simp; omega)⟩
    refine ⟨_, μ, F, rfl, fun b hb' => ⟨(hFb b hb').1, Nat.lt_of_lt_of_le (hFb b hb').2 hgr.size⟩, ?_, by simp [Rel, RelL], ?_, hbel.trans hbl⟩
    · refine hH.update_same hZn hi hvs rfl (fun b hb1 hne => hgr.block b hb1 (fun e => hne (by cases e; rfl))) ?_
      exact ⟨_, by rw [srtI_len]; exact hro, relL_ints_mk _⟩
    · refine RelL.keep (w := w) (fun b hb1 hz => hgr.block b hb1 ?_) (fun _ _ h => h) hus
      intro e2
      cases e2
      exact hz (hH.zone i _ _ _ hi rfl hvs rfl)
end Go.Abs


/-! The machine's rules: a map from int64 to bool that the call has made. -/
namespace Go.Abs
open Go.RowKit

/-- Rows of truth values. -/
def eO (b : Bool) : List AV := [.bool b]
theorem eO_len (b : Bool) : (eO b).length = 1 := rfl
/-- A map from int64 to bool. -/
def mapB (P : Program) (t : TypeId) : Option (TypeId × TypeId) :=
  match P.underlying t with
  | some (.map k e) => match P.underlying k, P.underlying e, (P.info? e).bind (·.zero) with
    | some (.int .i64), some .bool, some (.bool false) => some (k, e)
    | _, _, _ => none
  | _ => none
theorem mapB_parts {P : Program} {t k e : TypeId} (h : mapB P t = some (k, e)) : P.underlying t = some (.map k e) ∧ P.underlying k = some (.int .i64) ∧ P.underlying e = some .bool ∧ ∀ w, (zeroValue e).run P w = .ok (.bool false) w := by
  unfold mapB at h
  split at h
  · rename_i k' e' hu
    split at h
    · rename_i h1 h2 h3
      cases h
      obtain ⟨i, hi, hz⟩ := Option.bind_eq_some_iff.1 h3
      exact ⟨hu, h1, h2, run_cells_box _ i _ hi hz⟩
    · cases h
  · cases h
theorem plainElem_bool_inv {H : Type} {P : Program} {e : TypeId} (he : P.underlying e = some .bool) {v : Value} {b : Bool} {ps : List MemPlace} (h : plainElem (H := H) P e v = some (.lit (.bool b), ps)) : v = .bool b := by
  unfold plainElem at h
  rw [he] at h
  cases v <;> simp at h
  rw [h.1]
theorem key_wf {x : Int} (h0 : -9223372036854775808 ≤ x) (h1 : x < 9223372036854775808) : (Lit.int .i64 x).wf = true := by
  simp only [Lit.wf, Bool.and_eq_true, decide_eq_true_eq]
  exact ⟨h0, by have : IntKind.i64.max = 9223372036854775807 := rfl; omega⟩

section
variable {rd : Option Nat} {P : Program} {m : M} {Q : Exit → St → Prop}
/-- The operation at the head, by what it does to the world. -/
theorem R.head (op : Op) (v : AV) (hp' : List AObj) (h : opM m = some op) (ho : opsAt m = true) (hd : ∀ c, op ≠ .defer c)
    (hrun : ∀ (Z0 : Nat → Prop) (w0 : World) (a : Act) (w : World) (o : Oper), o.op = op → Sim Z0 w0 m.st a w → ∃ x w', ((execOp a.eval o).run P w = .ok (.value x) w' ∨ (x = undef ∧ (execOp a.eval o).run P w = .ok .skip w')) ∧ Sim Z0 w0 ⟨putF m.st.fr o.dst v, hp'⟩ (a.put o.dst x) w')
    (h' : Runs rd P (putM m none v hp') Q) : Runs rd P m Q := by
  obtain ⟨ks, ⟨fr, hp⟩⟩ := m
  unfold opM headOf at h
  unfold opsAt at ho
  simp only [putM, runs_iff] at h ho h' hrun ⊢
  split at ho
  · rename_i all o l fl ks'
    simp only [RunsK] at h' ⊢
    intro hW
    split at h
    · rename_i all' o' f' t' heq
      simp only [Option.some.injEq, Prod.mk.injEq] at heq
      obtain ⟨rfl, rfl, rfl, _⟩ := heq
      split at h
      · rename_i hw
        simp only [Option.some.injEq] at h
        intro Z0 w0 a w hS
        have hF : ∃ μ F, RelL w (Zone Z0 F w0.heap.size) μ fr a.tmps.toList := by
          obtain ⟨μ, F, _, _, hF, _⟩ := hS
          exact ⟨μ, F, hF⟩
        obtain ⟨μ, F, hF⟩ := hF
        refine wpListIn_step fun K hK => ?_
        rw [wanted_rel hF (wantH_true hw hW), if_pos rfl]
        obtain ⟨x, w', hr, hS'⟩ := hrun Z0 w0 a w _ h hS
        refine wpIn_of_run (fun c' h' => hd c' (by rw [← h]; exact h')) ?_
        rcases hr with hr | ⟨rfl, hr⟩ <;> rw [hr] <;> exact hK _ _ (h' headW_false Z0 w0 _ w' hS')
      · cases h
    · cases h
  · cases ho

def mmAt (P : Program) (m : M) : Option (TypeId × TypeId) :=
  match opM m with
  | some (.makeMap t none) => mapB P t
  | _ => none
theorem R.mkMap (k e : TypeId) (h : mmAt P m = some (k, e)) (ho : opsAt m = true) (h' : Runs rd P (putM m none (.ref m.st.hp.length) (m.st.hp ++ [.inert (.map P k e [])])) Q) : Runs rd P m Q := by
  unfold mmAt at h
  split at h
  · rename_i t hop
    refine R.head _ _ _ hop ho (fun c h => by cases h) (fun Z0 w0 a w o hoo hS => ?_) h'
    obtain ⟨ks, ⟨fr, hp⟩⟩ := m
    obtain ⟨μ, F, hFb, hH, hF, hdf, hb⟩ := hS
    have hB := hb.size
    refine ⟨.map (some w.heap.size), w.alloc (.map #[] 0), by refine .inl ?_; simp [execOp, hoo, run_makeMap, Result.andThen], ?_⟩
    have hb1 : Below w.heap.size w (w.alloc (.map #[] 0)) := (Below.refl _ w).alloc (Nat.le_refl _) _
    have hz : ∀ b, b < w.heap.size → ¬ Zone Z0 F w0.heap.size b → ¬ Zone Z0 (fun b => F b ∨ b = w.heap.size) w0.heap.size b := fun b _ hb => zone_more (F' := fun b => b = w.heap.size) b hb
    have hzz : ∀ b, b < w.heap.size → Zone Z0 F w0.heap.size b → Zone Z0 (fun b => F b ∨ b = w.heap.size) w0.heap.size b := fun b hb h => h.elim .inl fun h2 => .inr ⟨h2.1, fun hf => hf.elim h2.2 (fun h3 => by omega)⟩
    have hnz : ¬ Zone Z0 (fun b => F b ∨ b = w.heap.size) w0.heap.size w.heap.size := fun h => by
      rcases h with h | h
      · omega
      · exact h.2 (.inr rfl)
    have hH1 := (hH.weak hz hzz).extend0 (u := .map (some w.heap.size)) (o := .inert (.map P k e [])) hb1 ⟨w.heap.size, .map [], rfl, ⟨hB, hnz⟩, World.ownsMap_made w P k _, fun x => by simp [DataW.atKey]⟩ rfl rfl
    refine ⟨μ ++ [.map (some w.heap.size)], _, fun b hb => ?_, hH1, put_rel ((hF.weak hz).keep (fun b hb1' _ => hb1.block b hb1') (fun i u hu => append_old i u hu)) _ ?_, by rw [put_defers']; exact hdf.app, hb.trans (hb1.mono hB)⟩
    · have : (w.alloc (.map #[] 0)).heap.size = w.heap.size + 1 := World.size_alloc _ _
      rcases hb with hb | rfl
      · have := hFb b hb; omega
      · omega
    · simp only [Rel]
      rw [← hH.len]
      simp
  · cases h

def lkAt (P : Program) (m : M) : Option (TypeId × TypeId × Nat × Int) :=
  match opM m with
  | some (.lookup t x ix false) => match mapB P t, ev m.st.fr x, ev m.st.fr ix with
    | some (k, e), .ref i, .int .i64 n => some (k, e, i, n)
    | _, _, _ => none
  | _ => none
theorem R.look (k e : TypeId) (i : Nat) (n : Int) (ks : List Int) (h : lkAt P m = some (k, e, i, n)) (ho : opsAt m = true) (hi : m.st.hp[i]? = some (.inert (.map P k e ks))) (h0 : -9223372036854775808 ≤ n) (h1 : n < 9223372036854775808)
    (h' : Runs rd P (putM m none (.bool (decide (n ∈ ks))) m.st.hp) Q) : Runs rd P m Q := by
  unfold lkAt at h
  split at h
  · rename_i t x ix hop
    split at h
    · rename_i k' e' i' n' hm hx hix
      simp only [Option.some.injEq, Prod.mk.injEq] at h
      obtain ⟨rfl, rfl, rfl, rfl⟩ := h
      obtain ⟨ht, hk, he, hz⟩ := mapB_parts hm
      refine R.head _ _ _ hop ho (fun c h => by cases h) (fun Z0 w0 a w o hoo hS => ?_) h'
      obtain ⟨ks', ⟨fr, hp⟩⟩ := m
      obtain ⟨μ, F, hFb, hH, hF, hdf, hb⟩ := hS
      have hxv := hx ▸ ev_rel hF x
      simp only [Rel] at hxv
      have hiv := rel_int (hix ▸ ev_rel hF ix)
      obtain ⟨g, D, hu, _, hown, hD⟩ := hH.obj _ _ _ hi hxv
      obtain ⟨v, ps, hrun, hv⟩ := hown.lookup (Go.Maps.int_keyed hk) ht (hz w) (plainElem_bool he false) (Go.Maps.keyOf_int_mk hk (key_wf h0 h1))
      rw [hD] at hv
      have := plainElem_bool_inv he hv
      subst this
      refine ⟨.bool (decide (n' ∈ ks)), w, by refine .inl ?_; simp [execOp, hoo, hu, hiv, hrun, Result.andThen], μ, F, hFb, hH, put_rel hF _ (by simp [Rel]), by rw [put_defers']; exact hdf, hb⟩
    · cases h
  · cases h

def msAt (P : Program) (m : M) : Option (TypeId × TypeId × Nat × Int) :=
  match opM m with
  | some (.mapUpdate t x ix y) => match mapB P t, ev m.st.fr x, ev m.st.fr ix, ev m.st.fr y with
    | some (k, e), .ref i, .int .i64 n, .bool true => some (k, e, i, n)
    | _, _, _, _ => none
  | _ => none
theorem R.mapSet (k e : TypeId) (i : Nat) (n : Int) (ks : List Int) (h : msAt P m = some (k, e, i, n)) (ho : opsAt m = true) (hi : m.st.hp[i]? = some (.inert (.map P k e ks))) (h1i : oneInert m.st.hp = true) (h0 : -9223372036854775808 ≤ n) (h1 : n < 9223372036854775808)
    (hl : ks.length < 140737488355328) (h' : Runs rd P (putM m none .top (m.st.hp.set i (.inert (.map P k e (ks ++ [n]))))) Q) : Runs rd P m Q := by
  unfold msAt at h
  split at h
  · rename_i t x ix y hop
    split at h
    · rename_i k' e' i' n' hm hx hix hy
      simp only [Option.some.injEq, Prod.mk.injEq] at h
      obtain ⟨rfl, rfl, rfl, rfl⟩ := h
      obtain ⟨ht, hk, he, hz⟩ := mapB_parts hm
      refine R.head _ _ _ hop ho (fun c h => by cases h) (fun Z0 w0 a w o hoo hS => ?_) h'
      obtain ⟨ks', ⟨fr, hp⟩⟩ := m
      obtain ⟨μ, F, hFb, hH, hF, hdf, hb⟩ := hS
      have hxv := hx ▸ ev_rel hF x
      simp only [Rel] at hxv
      have hiv := rel_int (hix ▸ ev_rel hF ix)
      have hyv := rel_bool (hy ▸ ev_rel hF y)
      obtain ⟨g, D, hu, hBg, hown, hD⟩ := hH.obj _ _ _ hi hxv
      have hml : ks.length < Go.maxLen := by have : Go.maxLen = 9223372036854775807 := rfl; omega
      obtain ⟨w', hrun, hown', es, clock, es', clock', hg, hw'⟩ := hown.store (Go.Maps.int_keyed hk) ht hml (Go.Maps.keyOf_int_mk hk (key_wf h0 h1)) (plainElem_bool he true)
      have hM := hown.isMap
      have hput : w' = w.putObj g (.map es' clock') := hw'
      subst hput
      have hH' : HRel (w.putObj g (.map es' clock')) (Zone Z0 F w0.heap.size) w0.heap.size μ (hp.set i' (.inert (.map P k' e' (ks ++ [n'])))) := by
        refine hH.turn hg rfl (oneInert_at h1i hi) fun u hu' => ?_
        rw [hxv] at hu'
        cases hu'
        refine ⟨g, _, hu, hBg, by rw [List.length_append]; exact hown', fun z => ?_⟩
        by_cases e0 : z = n'
        · subst e0
          rw [Go.Maps.atKey_put_same hM (by simp [WideAt.IsKeyLit])]
          simp
        · rw [Go.Maps.atKey_put_other (by intro q; cases q; exact e0 rfl), hD z]
          simp [e0]
      refine ⟨undef, _, by refine .inr ⟨rfl, ?_⟩; simp [execOp, hoo, hu, hiv, hyv, hrun, Result.andThen], μ, F, fun b hb => by rw [World.putObj_size]; exact hFb b hb, hH', put_rel (hF.cells (putObj_cells hg rfl)) _ (by simp [Rel]), ?_, hb.grown (grownBy_putObj' w _ _) hb.size (fun k e => by cases e; exact hBg.1)⟩
      rw [put_defers']
      rcases hdf with hd0 | ⟨j, D', u', hj, _, _⟩
      · exact .inl hd0
      · have := oneInert_at h1i hi j _ hj
        subst this
        rw [hi] at hj
        cases hj
    · cases h
  · cases h
end
end Go.Abs
