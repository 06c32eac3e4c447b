/- Texts of the proof: SymK, Sym2, SymL, Symb, Symc, HN, Sym3. -/
import Derived.Laws.StructEq
import Derived.Test.YtjllngcefoohpaaGreatPartF

/-! Rows of bytes; drawn regions with tags of one's own. -/
namespace Go.Abs
open Go.RowKit Go.ChangeShapes Go.WideShapes Go.Deep
def eB (n : Int) : List AV := [.int .u8 n]
def LB (xs : List Int) : AV := .lst 1 xs.length (rows eB xs)
theorem eB_len (x : Int) : (eB x).length = 1 := rfl
section
variable {H : Type} {enc : TypeId × Value → H} {P : Program} {w : World} {base : Nat} {spare : Nat → Bool} {held : Bool}
theorem RelL_bytes {Z : Nat → Prop} {μ : List Value} : ∀ xs : List Int, RelL w Z μ (rows eB xs) (xs.map fun n => .int .u8 n)
 | [] => RelL.nil
 | x :: xs => RelL.cons (by simp [Rel]) (RelL_bytes xs)
theorem trod_bytes {t e : TypeId} {fuel : Nat} {cs : List Value} {x : DataW H × List MemPlace} (ht : P.underlying t = some (.slice e)) (he : P.underlying e = some (.int .u8)) (hc : P.cellsOf e = 1)
  (h : DataW.trod enc P w base spare held fuel t cs = some x) : ∃ v, cs = [v] ∧ ∃ xs : List Int, xs.length ≤ maxLen ∧ (∀ j, j < xs.length → 0 ≤ xs.getD j 0 ∧ xs.getD j 0 ≤ 255) ∧ Rel w (Z0 w) [] (LB xs) v := by
 rcases open_slice1 ht hc h with ⟨rfl, _⟩ | ⟨a, len, cap, m, n, V, D, Pl, rfl, _, hl, hm, hmm, _, hx⟩
 ·exact ⟨_, rfl, [], Nat.zero_le _, fun j hj => absurd hj (by simp), none, 0, [], rfl, rfl, Nat.le_refl _, fun h => absurd rfl h, RelL.nil⟩
 ·have hlm : len ≤ m := by rw [hmm]; split <;> omega
  obtain ⟨xs, h1, h2⟩ := choose_list (n := len) (p := fun i y => w.cell? (a.add i) = some (.int .u8 y) ∧ 0 ≤ y ∧ y ≤ 255) fun i hi => by
   obtain ⟨g1, g2⟩ := hx i (by omega)
   obtain ⟨y, hy, _, hw⟩ := DataW.trod_int he g2
   simp at hy
   simp [Lit.wf, IntKind.min, IntKind.max, IntKind.signed, IntKind.bits] at hw
   exact ⟨y, by rw [g1, hy], by omega, by omega⟩
  refine ⟨_, rfl, xs, by omega, fun j hj => (h2 j (by omega)).2, ⟨some a, cap, xs.map fun n => .int .u8 n, by rw [h1], by rw [rows_length eB_len, h1], by omega, fun hne => ⟨a, rfl, ?_, fun j u hj => ?_⟩, RelL_bytes xs⟩⟩
  ·have : 0 < len := by
    rw [← h1]
    cases xs with
    | nil => exact absurd rfl hne
    | cons x xs => simp
   have := not_Z0 (h2 0 this).1
   simpa [Addr.add] using this
  ·rw [List.getElem?_map, Option.map_eq_some_iff] at hj
   obtain ⟨y, hy, rfl⟩ := hj
   have hj := (List.getElem?_eq_some_iff.1 hy).1
   rw [(h2 j (by omega)).1, List.getD_eq_getElem?_getD, hy]
   rfl
theorem open_bytes {r : Reach} {b0 : Nat} {t e : TypeId} {v : Value} {d : DataW H} {ps : List MemPlace} (ht : P.underlying t = some (.slice e)) (he : P.underlying e = some (.int .u8)) (hc : P.cellsOf e = 1)
  (hval : Value.okWide P w r b0 t v) (hd : DataW.Trod enc P w base spare held t v d ps) : ∃ xs : List Int, xs.length ≤ maxLen ∧ (∀ j, j < xs.length → 0 ≤ xs.getD j 0 ∧ xs.getD j 0 ≤ 255) ∧ Rel w (Z0 w) [] (LB xs) v := by
 obtain ⟨A, n, c, rfl⟩ := okWide_slice ht hval
 obtain ⟨fuel, hf⟩ := hd
 obtain ⟨v, h1, h2⟩ := trod_bytes ht he hc hf
 simp [Value.cells] at h1
 subst h1
 exact h2
end
section
variable {rd : Option Nat} {P : Program} {m : M} {Q : Exit → St → Prop}
end
end Go.Abs

/-! Calls that change the caller's objects: under a further frame; with objects left out. -/
namespace Go.Abs
open Go.RowKit
theorem idx_range {n i : Nat} (h : i < n) : (List.range n).idxOf i = i := by
 have hm : i ∈ List.range n := List.mem_range.2 h
 have hlt := List.idxOf_lt_length_iff.2 hm
 have := List.getElem_idxOf hlt
 rw [List.getElem_range] at this
 exact this
mutual
theorem Rel.mix {w w' : World} {Z Z' : Nat → Prop} {μ μ1 μ2 : List Value} {n : Nat} (hA : ∀ (i : Nat) u, i < n → μ1[i]? = some u → μ2[i]? = some u) (hB : ∀ (i : Nat) u, n ≤ i → μ[i]? = some u → μ2[i]? = some u) :
  ∀ {c : AV} {v : Value}, Rel w Z μ c v → Rel w' Z' μ1 (c.ren (List.range n)) v → Rel w' Z' μ2 c v
 | .int _ _, _, _, h => by simpa [Rel, AV.ren] using h
 | .bool _, _, _, h => by simpa [Rel, AV.ren] using h
 | .str _, _, _, h => by simpa [Rel, AV.ren] using h
 | .nil, _, _, h => by simpa [Rel, AV.ren] using h
 | .top, _, _, _ => by simp [Rel]
 | .own _ _ _ _, _, h, _ => by simp [Rel] at h
 | .lst _ _ _, _, _, h => by simpa [Rel, AV.ren] using h
 | .clp _ _ _, _, _, h => by simpa [Rel, AV.ren] using h
 | .nam _ _ _ _ _, _, _, h => by simpa [Rel, AV.ren] using h
 | .rptr _, _, _, h => by simpa [Rel, AV.ren] using h
 | .ref i, v, h1, h2 => by
  simp only [Rel] at h1 ⊢
  rcases Nat.lt_or_ge i n with hi | hi
  ·have hc : (List.range n).contains i = true := by simpa using hi
   simp only [AV.ren, hc, if_true, idx_range hi, Rel] at h2
   exact hA i v hi h2
  ·exact hB i v hi h1
 | .ptr i o, v, h1, h2 => by
  simp only [Rel] at h1 ⊢
  rcases Nat.lt_or_ge i n with hi | hi
  ·have hc : (List.range n).contains i = true := by simpa using hi
   simp only [AV.ren, hc, if_true, idx_range hi, Rel] at h2
   obtain ⟨u, g, e1, e2, e3⟩ := h2
   exact ⟨u, g, hA i u hi e1, e2, e3⟩
  ·obtain ⟨u, g, e1, e2, e3⟩ := h1
   exact ⟨u, g, hB i u hi e1, e2, e3⟩
 | .agg cs, v, h1, h2 => by
  simp only [Rel, AV.ren] at h1 h2 ⊢
  obtain ⟨xs, e1, r1⟩ := h1
  obtain ⟨ys, e2, r2⟩ := h2
  rw [e1] at e2
  simp only [Value.agg.injEq] at e2
  have e3 : xs = ys := by simpa using e2
  subst e3
  exact ⟨xs, e1, RelL.mix hA hB r1 r2⟩
 | .tup cs, v, h1, h2 => by
  simp only [Rel, AV.ren] at h1 h2 ⊢
  obtain ⟨xs, e1, r1⟩ := h1
  obtain ⟨ys, e2, r2⟩ := h2
  rw [e1] at e2
  simp only [Value.tuple.injEq] at e2
  have e3 : xs = ys := by simpa using e2
  subst e3
  exact ⟨xs, e1, RelL.mix hA hB r1 r2⟩
 | .fn f cs, v, h1, h2 => by
  simp only [Rel, AV.ren] at h1 h2 ⊢
  obtain ⟨xs, e1, r1⟩ := h1
  obtain ⟨ys, e2, r2⟩ := h2
  rw [e1] at e2
  simp only [Value.func.injEq, true_and] at e2
  have e3 : xs = ys := by simpa using e2
  subst e3
  exact ⟨xs, e1, RelL.mix hA hB r1 r2⟩
theorem RelL.mix {w w' : World} {Z Z' : Nat → Prop} {μ μ1 μ2 : List Value} {n : Nat} (hA : ∀ (i : Nat) u, i < n → μ1[i]? = some u → μ2[i]? = some u) (hB : ∀ (i : Nat) u, n ≤ i → μ[i]? = some u → μ2[i]? = some u) :
  ∀ {cs : List AV} {vs : List Value}, RelL w Z μ cs vs → RelL w' Z' μ1 (renL (List.range n) cs) vs → RelL w' Z' μ2 cs vs
 | [], _, _, h => by simpa [RelL, renL] using h
 | c :: cs, _, h1, h2 => by
  simp only [RelL, renL] at h1 h2 ⊢
  obtain ⟨x, xs, e1, a1, b1⟩ := h1
  obtain ⟨y, ys, e2, a2, b2⟩ := h2
  rw [e1] at e2
  simp only [List.cons.injEq] at e2
  obtain ⟨rfl, rfl⟩ := e2
  exact ⟨x, xs, e1, Rel.mix hA hB a1 a2, RelL.mix hA hB b1 b2⟩
end
theorem HRel.addDead {w : World} {Z : Nat → Prop} {B : Nat} {μ : List Value} {hp : List AObj} (h : HRel w Z B μ hp) (u : Value) (hu : u.oneCell' = true) : HRel w Z B (μ ++ [u]) (hp ++ [.dead]) := by
 have split : ∀ (i : Nat) oi ui, (hp ++ [.dead])[i]? = some oi → (μ ++ [u])[i]? = some ui → (hp[i]? = some oi ∧ μ[i]? = some ui) ∨ oi = .dead := by
  intro i oi ui h1 h2
  rcases Nat.lt_or_ge i hp.length with hi | hi
  ·rw [List.getElem?_append_left hi] at h1
   rw [List.getElem?_append_left (by rw [h.len]; exact hi)] at h2
   exact .inl ⟨h1, h2⟩
  ·rw [List.getElem?_append_right hi] at h1
   rcases Nat.eq_zero_or_pos (i - hp.length) with h0 | h0
   ·rw [h0] at h1; simp at h1; exact .inr h1.symm
   ·rw [List.getElem?_eq_none (by simp; omega)] at h1; cases h1
 refine ⟨by simp [h.len], fun i oi ui g h1 ha h2 hg => ?_, fun i x hx => ?_, fun i oi ui h1 h2 => ?_, fun i j oi oj ui uj g hne h1 h2 a1 a2 m1 m2 b1 b2 => ?_⟩
 ·rcases split i oi ui h1 h2 with ⟨e1, e2⟩ | rfl
  ·exact h.zone i oi ui g e1 ha e2 hg
  ·cases ha
 ·rcases Nat.lt_or_ge i μ.length with hi | hi
  ·rw [List.getElem?_append_left hi] at hx
   exact h.one i x hx
  ·rw [List.getElem?_append_right hi] at hx
   rcases Nat.eq_zero_or_pos (i - μ.length) with h0 | h0
   ·rw [h0] at hx; simp at hx; rw [← hx]; exact hu
   ·rw [List.getElem?_eq_none (by simp; omega)] at hx; cases hx
 ·rcases split i oi ui h1 h2 with ⟨e1, e2⟩ | rfl
  ·exact (h.obj i oi ui e1 e2).keep (fun _ _ _ => rfl) (fun i u hu => append_old i u hu) (fun _ _ => rfl)
  ·trivial
 ·rcases split i oi ui h1 m1 with ⟨e1, e2⟩ | rfl
  ·rcases split j oj uj h2 m2 with ⟨e3, e4⟩ | rfl
   ·exact h.sep i j oi oj ui uj g hne e1 e3 a1 a2 e2 e4 b1 b2
   ·cases a2
  ·cases a1
theorem HRel.frameAt {w : World} {Z : Nat → Prop} {B n : Nat} {μ : List Value} {hp : List AObj} {us : List Value} {fr : List AV} (h : HRel w Z B μ hp) (hd : hp[n]? = some .dead) (hr : RelL w Z μ fr us) : HRel w Z B μ (hp.set n (.frame us fr)) := by
 have hn := (List.getElem?_eq_some_iff.1 hd).1
 have get : ∀ (i : Nat) oi, (hp.set n (.frame us fr))[i]? = some oi → oi = .frame us fr ∨ hp[i]? = some oi := by
  intro i oi h1
  by_cases e : n = i
  ·subst e
   rw [List.getElem?_set_self hn] at h1
   simp at h1; exact .inl h1.symm
  ·rw [List.getElem?_set_ne e] at h1; exact .inr h1
 refine ⟨by rw [List.length_set]; exact h.len, fun i oi ui g h1 ha h2 hg => ?_, h.one, fun i oi ui h1 h2 => ?_, fun i j oi oj ui uj g hne h1 h2 a1 a2 m1 m2 b1 b2 => ?_⟩
 ·rcases get i oi h1 with rfl | h1
  ·cases ha
  ·exact h.zone i oi ui g h1 ha h2 hg
 ·rcases get i oi h1 with rfl | h1
  ·exact hr
  ·exact h.obj i oi ui h1 h2
 ·rcases get i oi h1 with rfl | h1
  ·cases a1
  ·rcases get j oj h2 with rfl | h2
   ·cases a2
   ·exact h.sep i j oi oj ui uj g hne h1 h2 a1 a2 m1 m2 b1 b2
def renH (js : List Nat) (hp : List AObj) : List AObj := js.map fun i => (hp.getD i .dead).ren js
def insJ (n m : Nat) : List Nat := List.range n ++ (m :: (List.range (m - n)).map (· + n))
def insF (n : Nat) (us : List Value) (fr : List AV) (hp : List AObj) : List AObj := (renH (insJ n hp.length) (hp ++ [.dead])).set n (.frame us fr)
theorem insJ_nodup {n m : Nat} (h : n ≤ m) : (insJ n m).Nodup := by
 unfold insJ
 rw [List.nodup_append]
 refine ⟨List.nodup_range, ?_, ?_⟩
 ·rw [List.nodup_cons]
  refine ⟨?_, ?_⟩
  ·intro hm
   rw [List.mem_map] at hm
   obtain ⟨k, hk, e⟩ := hm
   rw [List.mem_range] at hk
   omega
  ·rw [List.nodup_iff_pairwise_ne, List.pairwise_map]
   exact List.nodup_range.imp fun h e => h (by omega)
 ·intro a ha b hb e
  rw [List.mem_range] at ha
  rw [List.mem_cons, List.mem_map] at hb
  rcases hb with hb | ⟨k, _, hk⟩ <;> omega
theorem CallS.frame {P : Program} {f : FuncId} {args : List AV} {hp : List AObj} {res : AV} {hp' : List AObj} (us2 : List Value) (fr2 : List AV) (hc : CallS P f args hp res hp') (h1 : renH (List.range hp.length) hp = hp)
  (h2 : renL (List.range hp.length) args = args) (h3 : hp.length ≤ hp'.length) : CallS P f args (hp ++ [.frame us2 fr2]) (res.ren (insJ hp.length hp'.length)) (insF hp.length us2 fr2 hp') := by
 obtain ⟨hen, hc⟩ := hc
 refine ⟨hen, ?_⟩
 intro Z0 F w0 w μ vs us fr hFb hH hvs hus hbel
 have hml : μ.length = hp.length + 1 := by rw [hH.len]; simp
 have hH0 := hH.ren (List.range hp.length) List.nodup_range
 have e0 : ((List.range hp.length).map fun i => ((hp ++ [AObj.frame us2 fr2]).getD i .dead).ren (List.range hp.length)) = hp := by
  refine Eq.trans (List.map_congr_left fun i hi => ?_) h1
  have hi := List.mem_range.1 hi
  simp only [List.getD_eq_getElem?_getD]
  rw [List.getElem?_append_left hi]
 rw [e0] at hH0
 have hvs0 := hvs.ren (List.range hp.length)
 rw [h2] at hvs0
 have hn2 : (hp ++ [AObj.frame us2 fr2])[hp.length]? = some (.frame us2 fr2) := by simp
 obtain ⟨u, hu⟩ : ∃ u, μ[hp.length]? = some u := ⟨_, List.getElem?_eq_getElem (by omega)⟩
 have hf2 : RelL w (Zone Z0 F w0.heap.size) μ fr2 us2 := hH.obj _ _ u hn2 hu
 have hus0 := (hus.append hf2).ren (List.range hp.length)
 refine (hc Z0 F w0 w _ vs (us ++ us2) _ hFb hH0 hvs0 hus0 hbel).mono ?_
 rintro e w' ⟨v, μ1, F1, rfl, hF1, hH1, hres, hfr1, hb1⟩
 have hm1 := hH1.len
 have hHd := hH1.addDead u (hH.one _ u hu)
 have hH2 := hHd.ren (insJ hp.length hp'.length) (insJ_nodup h3)
 obtain ⟨μ2, hμ2⟩ : ∃ μ2, μ2 = ((insJ hp.length hp'.length).map fun i => (μ1 ++ [u]).getD i (.bool false)) := ⟨_, rfl⟩
 have hA : ∀ (i : Nat) x, i < hp.length → μ1[i]? = some x → μ2[i]? = some x := by
  intro i x hi hx
  have hj : (insJ hp.length hp'.length)[i]? = some i := by
   unfold insJ
   rw [List.getElem?_append_left (by simpa using hi)]
   simp [hi]
  rw [hμ2, List.getElem?_map, hj]
  simp only [Option.map_some, List.getD_eq_getElem?_getD]
  rw [List.getElem?_append_left (by omega), hx]
  rfl
 have hB : ∀ (i : Nat) x, hp.length ≤ i → μ[i]? = some x → μ2[i]? = some x := by
  intro i x hi hx
  have hin : i = hp.length := by have := (List.getElem?_eq_some_iff.1 hx).1; omega
  subst hin
  rw [hu] at hx
  have hj : (insJ hp.length hp'.length)[hp.length]? = some hp'.length := by
   unfold insJ
   rw [List.getElem?_append_right (by simp)]
   simp
  rw [hμ2, List.getElem?_map, hj]
  simp only [Option.map_some, List.getD_eq_getElem?_getD]
  rw [List.getElem?_append_right (by omega), hm1]
  simpa using hx
 rw [← hμ2] at hH2
 have hall := RelL.mix hA hB (hus.append hf2) hfr1
 have hul := hus.length
 have hfr : RelL w' (Zone Z0 F1 w0.heap.size) μ2 fr us := by
  have := hall.take fr.length
  rwa [List.take_left, ← hul, List.take_left] at this
 have hfr2 : RelL w' (Zone Z0 F1 w0.heap.size) μ2 fr2 us2 := by
  have := hall.drop fr.length
  rwa [List.drop_left, ← hul, List.drop_left] at this
 refine ⟨v, μ2, F1, rfl, hF1, ?_, ?_, hfr, hb1⟩
 ·refine hH2.frameAt ?_ hfr2
  have hj : (insJ hp.length hp'.length)[hp.length]? = some hp'.length := by
   unfold insJ
   rw [List.getElem?_append_right (by simp)]
   simp
  rw [List.getElem?_map, hj]
  simp [AObj.ren]
 ·rw [hμ2]
  exact Rel.ren _ (Rel.keep (w := w') (fun _ _ _ => rfl) (fun i u hu => append_old i u hu) hres)
theorem CallS.drop {P : Program} {f : FuncId} {args : List AV} {hp : List AObj} {res : AV} {hp' : List AObj} (js : List Nat) (hc : CallS P f args hp res hp') (h1 : js.take hp.length = List.range hp.length) (h2 : js.Nodup) :
  CallS P f args hp (res.ren js) (renH js hp') := by
 obtain ⟨hen, hc⟩ := hc
 refine ⟨hen, ?_⟩
 intro Z0 F w0 w μ vs us fr hFb hH hvs hus hbel
 refine (hc Z0 F w0 w μ vs us fr hFb hH hvs hus hbel).mono ?_
 rintro e w' ⟨v, μ1, F1, rfl, hF1, hH1, hres, hfr1, hb1⟩
 have hm1 := hH1.len
 have hjs : ∀ i, i < hp.length → js[i]? = some i := by
  intro i hi
  have := congrArg (fun l : List Nat => l[i]?) h1
  simp only [List.getElem?_take, if_pos hi] at this
  rw [this]
  simp [hi]
 refine ⟨v, _, F1, rfl, hF1, hH1.ren js h2, Rel.ren js hres, ?_, hb1⟩
 refine RelL.mix (n := hp.length) ?_ ?_ hus (hfr1.ren (List.range hp.length))
 ·intro i x hi hx
  rw [List.getElem?_map, hjs i hi]
  rw [List.getElem?_map] at hx
  simpa [hi] using hx
 ·intro i x hi hx
  have h4 := (List.getElem?_eq_some_iff.1 hx).1
  have h5 := hH.len
  omega
end Go.Abs

/-! Calls of which only what holds behind them is told (draws). -/
namespace Go.Abs
open Go.RowKit Go.ChangeShapes Go.WideShapes Go.Deep
def CallX (P : Program) (f : FuncId) (args : List AV) (hp : List AObj) (Φ : AV → List AObj → Prop) : Prop :=
 Enters P f ∧ ∀ (Z0 F : Nat → Prop) (w0 w : World) (μ vs us : List Value) (fr : List AV), (∀ b, F b → w0.heap.size ≤ b ∧ b < w.heap.size) → HRel w (Zone Z0 F w0.heap.size) w0.heap.size μ hp → RelL w (Zone Z0 F w0.heap.size) μ args vs → RelL w (Zone Z0 F w0.heap.size) μ fr us → Below w0.heap.size w0 w →
  Calls P f vs.toArray w fun e w' => ∃ v μ' F' res hp', Φ res hp' ∧ e = .returned v ∧ (∀ b, F' b → w0.heap.size ≤ b ∧ b < w'.heap.size) ∧ HRel w' (Zone Z0 F' w0.heap.size) w0.heap.size μ' hp' ∧ Rel w' (Zone Z0 F' w0.heap.size) μ' res v ∧ RelL w' (Zone Z0 F' w0.heap.size) μ' fr us ∧ Below w0.heap.size w0 w'
section
variable {rd : Option Nat} {P : Program} {m : M} {Q : Exit → St → Prop}
theorem CallX.mono {f : FuncId} {args : List AV} {hp : List AObj} {Φ Ψ : AV → List AObj → Prop} (h : CallX P f args hp Φ) (hm : ∀ r h', Φ r h' → Ψ r h') : CallX P f args hp Ψ := by
 refine ⟨h.1, fun Z0 F w0 w μ vs us fr hFb hH hvs hus hbel => (h.2 Z0 F w0 w μ vs us fr hFb hH hvs hus hbel).mono ?_⟩
 rintro e w' ⟨v, μ', F', res, hp', hΦ, r⟩
 exact ⟨v, μ', F', res, hp', hm _ _ hΦ, r⟩
def retX (P : Program) (fn : Func) (n : Nat) (us : List Value) (fr : List AV) (Φ : AV → List AObj → Prop) : Exit → St → Prop := fun e st' => ∃ res hp', Φ res hp' ∧ Go.Abs.retS P fn n us fr res hp' e st'
theorem CallX.of {f : FuncId} {fn : Func} {c : Code} {args : List AV} {hp : List AObj} {Φ : AV → List AObj → Prop} (hf : P.funcs[f]? = some fn) (hb : fn.body = some c) (hnm : (fn.name == "runtime.NumGoroutine") = false)
  (h : ∀ us fr, Runs none P ⟨[.code c], ⟨frameOf fn.ntmps args, hp ++ [.frame us fr]⟩⟩ (retX P fn hp.length us fr Φ)) : CallX P f args hp Φ := by
 refine ⟨enters_of hf hnm (by rw [hb]; rfl), ?_⟩
 intro Z0 F w0 w μ vs us fr hFb hH hvs hus hbel
 have hlen := hvs.length
 refine calls_of_wpIn hf hb ?_
 have hS : Sim Z0 w0 ⟨frameOf fn.ntmps args, hp ++ [.frame us fr]⟩ { tmps := vs.toArray ++ Array.replicate (fn.ntmps - vs.toArray.size) undef, defers := [] } w := by
  refine ⟨μ ++ [.bool false], F, hFb, hH.extend1 (zone_new hbel.size hFb) (Below.refl _ _) ?_ (fun g hg => by simp [blk] at hg) rfl, ?_, .inl rfl, hbel⟩
  ·exact RelL.keep (w := w) (fun _ _ _ => rfl) (fun i u hu => append_old i u hu) hus
  ·simp only [Array.toList_append, Array.toList_replicate, List.size_toArray, hlen, frameOf]
   refine RelL.append (RelL.keep (w := w) (fun _ _ _ => rfl) (fun i u hu => append_old i u hu) hvs) ?_
   generalize fn.ntmps - args.length = n
   induction n with
   | zero => exact RelL.nil
   | succ n ih => exact RelL.cons (by simp [Rel]) ih
 have hrun2 := h us fr
 simp only [runs_iff] at hrun2
 simp only [RunsK] at hrun2
 refine wpIn_mono (hrun2 Z0 w0 _ w hS) ?_
 have fin : ∀ (e : Exit) (st' : St) (a' : Act) (w' : World), retX P fn hp.length us fr Φ e st' → Sim Z0 w0 st' a' w' → a'.defers = [] ∧ ∃ v, (results fn a'.tmps).run P w' = .ok v w' ∧ ∃ v' μ' F' res hp', Φ res hp' ∧ Ending.returned v = .returned v' ∧ (∀ b, F' b → w0.heap.size ≤ b ∧ b < w'.heap.size) ∧ HRel w' (Zone Z0 F' w0.heap.size) w0.heap.size μ' hp' ∧ Rel w' (Zone Z0 F' w0.heap.size) μ' res v' ∧ RelL w' (Zone Z0 F' w0.heap.size) μ' fr us ∧ Below w0.heap.size w0 w' := by
  rintro e st' a' w' ⟨res, hp', hΦ, _, hres, hfr, hh⟩ ⟨μ', F', hFb', hH', hF', hd', hbel'⟩
  obtain ⟨x, h1, h2⟩ := resIn_run hH' hF' hres
  unfold frameAt at hfr
  split at hfr
  ·rename_i us2 fr2 hi
   cases hfr
   have hil : hp.length < μ'.length := by rw [hH'.len]; exact (List.getElem?_eq_some_iff.1 hi).1
   have hfrr : RelL w' (Zone Z0 F' w0.heap.size) μ' fr us := hH'.obj _ _ _ hi (List.getElem?_eq_getElem hil)
   exact ⟨hd'.none (resIn_mark hres), x, h1, x, μ', F', res, hp', hΦ, rfl, hFb', hh ▸ hH'.bury _, h2, hfrr, hbel'⟩
  ·cases hfr
 rintro e a' w' ⟨st', hq, hS'⟩
 cases e with
 | normal => exact fin _ st' a' w' hq hS'
 | ret => exact fin _ st' a' w' hq hS'
 | exit id => (obtain ⟨_, _, _, hq, _⟩ := hq; exact absurd hq (by simp))
 | goto l => (obtain ⟨_, _, _, hq, _⟩ := hq; exact absurd hq (by simp))
 | panic ch => (obtain ⟨_, _, _, hq, _⟩ := hq; exact absurd hq (by simp))
 | outgrown => (obtain ⟨_, _, _, hq, _⟩ := hq; exact absurd hq (by simp))
theorem R.retX {fn : Func} {n : Nat} {us : List Value} {fr : List AV} {Φ : AV → List AObj → Prop} {res : AV} {hp' : List AObj} (h : (edAt m).isSome = true) (hr : resIn P fn m.st = some res) (hf : frameAt n m.st = some (us, fr)) (hh : m.st.hp.set n .dead = hp') (hΦ : Φ res hp') :
  Runs rd P m (Go.Abs.retX P fn n us fr Φ) :=
 R.fin h ⟨res, hp', hΦ, .inl rfl, hr, hf, hh⟩ ⟨res, hp', hΦ, .inr rfl, hr, hf, hh⟩
theorem OpsQ.callX {all : Array Oper} {o : Oper} {l : List Oper} {fr : List AV} {hp : List AObj} {R : Exit → St → Prop} {c : Operand} {args : Array Operand} {tys : Array TypeId} {f : FuncId} {caps : List AV} {Φ : AV → List AObj → Prop} (hnm : noMark hp = true) (hw : WantedA all o fr)
  (hop : o.op = .call { callee := .value c, args := args, argTypes := tys }) (hc : ev fr c = .fn f caps) (hcall : CallX P f (args.toList.map (ev fr) ++ caps) hp Φ) (h' : ∀ res hp', Φ res hp' → OpsQ rd P all l ⟨putF fr o.dst res, hp'⟩ R) : OpsQ rd P all (o :: l) ⟨fr, hp⟩ R := by
 intro Z0 w0 a w hS
 refine wpListIn_step fun K hK => ?_
 obtain ⟨μ, F, hFb, hH, hF, hd, hb⟩ := hS
 rw [wanted_rel hF hw, if_pos rfl]
 have hE : ∀ y, Rel w (Zone Z0 F w0.heap.size) μ (ev fr y) (a.eval y) := fun y => ev_rel hF y
 have hcv := hc ▸ hE c
 simp only [Rel] at hcv
 obtain ⟨cv, hcv, hrc⟩ := hcv
 have hargs' : RelL w (Zone Z0 F w0.heap.size) μ (args.toList.map (ev fr)) (args.toList.map a.eval) := by
  generalize args.toList = l
  induction l with
  | nil => exact RelL.nil
  | cons x l ih => exact RelL.cons (hE x) ih
 obtain ⟨hen, hcall⟩ := hcall
 have hC := hcall Z0 F w0 w μ _ _ fr hFb hH (hargs'.append hrc) hF hb
 have hrun : (execOp a.eval o).run P w = .ok (.enter f (args.toList.map a.eval ++ cv).toArray) w := by
  have e1 : (args.map a.eval ++ cv.toArray) = (args.toList.map a.eval ++ cv).toArray := by
   apply Array.toList_inj.1; simp
  simp only [execOp, hop, resolve, Deferred.ofValue, hcv, Sem.run_bind, Sem.run_pure, Result.andThen_ok, invoke, Array.empty_append]
  rw [e1]
  exact hen _ _
 refine wpIn_of_run (fun c' => by rw [hop]; simp) ?_
 rw [hrun]
 refine upon_enter hC ?_
 rintro en w' ⟨x, μ', F', res, hp', hΦ, rfl, hFb', hH', hr, hF', hbel⟩
 exact ⟨x, rfl, hK _ _ (h' res hp' hΦ Z0 w0 _ _ ⟨μ', F', hFb', hH', put_rel hF' _ hr, by rw [put_defers']; exact .inl (hd.none hnm), hbel⟩)⟩
def opsHd (m : M) : Bool :=
 match m.ks with
 | .ops _ (_ :: _) _ :: _ => true
 | _ => false
theorem R.callX {f : FuncId} {avs : List AV} {hp : List AObj} {Φ : AV → List AObj → Prop} (hc : CallX P f avs hp Φ) (h : csAt m = some (f, avs)) (hh : m.st.hp = hp) (ht : opsHd m = true) (h' : ∀ res hp', Φ res hp' → Runs rd P (putM m none res hp') Q) : Runs rd P m Q := by
 have hnm := csAt_mark h
 obtain ⟨fo, args, tys, caps, hop, hf, rfl⟩ := csAt_parts h
 subst hh
 obtain ⟨ks, ⟨fr, hp⟩⟩ := m
 unfold opM headOf at hop
 unfold opsHd at ht
 unfold putM at h'
 simp only [runs_iff] at h' ⊢
 try simp only at hop ht h' hf hc hnm ⊢
 split at hop
 ·rename_i all o fl t heq
  split at hop
  ·rename_i hw
   simp only [Option.some.injEq] at hop
   split at heq
   ·cases heq
    intro hW
    exact OpsQ.callX hnm (wantH_true hw hW) hop hf hc fun res hp' hΦ => h' res hp' hΦ headW_false
   ·simp at ht
   ·cases heq
  ·cases hop
 ·cases hop
theorem k29 {f : FuncId} {avs : List AV} {hp : List AObj} {Φ : AV → List AObj → Prop} (hc : CallX P f avs hp Φ) (h' : ∀ res hp', Φ res hp' → Runs rd P (putM m none res hp') Q) (h : csAt m = some (f, avs) := by kernel_rfl) (hh : m.st.hp = hp := by kernel_rfl) (ht : opsHd m = true := by kernel_rfl) : Runs rd P m Q := _root_.Go.Abs.R.callX hc h hh ht h'
theorem CallX.frame {P : Program} {f : FuncId} {args : List AV} {hp : List AObj} {Φ : AV → List AObj → Prop} (us2 : List Value) (fr2 : List AV) (hc : CallX P f args hp Φ) (h1 : renH (List.range hp.length) hp = hp)
  (h2 : renL (List.range hp.length) args = args) (h3 : ∀ r h', Φ r h' → hp.length ≤ h'.length) : CallX P f args (hp ++ [.frame us2 fr2]) fun r h => ∃ res hp', Φ res hp' ∧ r = res.ren (insJ hp.length hp'.length) ∧ h = insF hp.length us2 fr2 hp' := by
 obtain ⟨hen, hc⟩ := hc
 refine ⟨hen, ?_⟩
 intro Z0 F w0 w μ vs us fr hFb hH hvs hus hbel
 have hml : μ.length = hp.length + 1 := by rw [hH.len]; simp
 have hH0 := hH.ren (List.range hp.length) List.nodup_range
 have e0 : ((List.range hp.length).map fun i => ((hp ++ [AObj.frame us2 fr2]).getD i .dead).ren (List.range hp.length)) = hp := by
  refine Eq.trans (List.map_congr_left fun i hi => ?_) h1
  have hi := List.mem_range.1 hi
  simp only [List.getD_eq_getElem?_getD]
  rw [List.getElem?_append_left hi]
 rw [e0] at hH0
 have hvs0 := hvs.ren (List.range hp.length)
 rw [h2] at hvs0
 have hn2 : (hp ++ [AObj.frame us2 fr2])[hp.length]? = some (.frame us2 fr2) := by simp
 obtain ⟨u, hu⟩ : ∃ u, μ[hp.length]? = some u := ⟨_, List.getElem?_eq_getElem (by omega)⟩
 have hf2 : RelL w (Zone Z0 F w0.heap.size) μ fr2 us2 := hH.obj _ _ u hn2 hu
 have hus0 := (hus.append hf2).ren (List.range hp.length)
 refine (hc Z0 F w0 w _ vs (us ++ us2) _ hFb hH0 hvs0 hus0 hbel).mono ?_
 rintro e w' ⟨v, μ1, F1, res, hp', hΦ, rfl, hF1, hH1, hres, hfr1, hb1⟩
 have h3 := h3 _ _ hΦ
 have hm1 := hH1.len
 have hHd := hH1.addDead u (hH.one _ u hu)
 have hH2 := hHd.ren (insJ hp.length hp'.length) (insJ_nodup h3)
 obtain ⟨μ2, hμ2⟩ : ∃ μ2, μ2 = ((insJ hp.length hp'.length).map fun i => (μ1 ++ [u]).getD i (.bool false)) := ⟨_, rfl⟩
 have hA : ∀ (i : Nat) x, i < hp.length → μ1[i]? = some x → μ2[i]? = some x := by
  intro i x hi hx
  have hj : (insJ hp.length hp'.length)[i]? = some i := by
   unfold insJ
   rw [List.getElem?_append_left (by simpa using hi)]
   simp [hi]
  rw [hμ2, List.getElem?_map, hj]
  simp only [Option.map_some, List.getD_eq_getElem?_getD]
  rw [List.getElem?_append_left (by omega), hx]
  rfl
 have hB : ∀ (i : Nat) x, hp.length ≤ i → μ[i]? = some x → μ2[i]? = some x := by
  intro i x hi hx
  have hin : i = hp.length := by have := (List.getElem?_eq_some_iff.1 hx).1; omega
  subst hin
  rw [hu] at hx
  have hj : (insJ hp.length hp'.length)[hp.length]? = some hp'.length := by
   unfold insJ
   rw [List.getElem?_append_right (by simp)]
   simp
  rw [hμ2, List.getElem?_map, hj]
  simp only [Option.map_some, List.getD_eq_getElem?_getD]
  rw [List.getElem?_append_right (by omega), hm1]
  simpa using hx
 rw [← hμ2] at hH2
 have hall := RelL.mix hA hB (hus.append hf2) hfr1
 have hul := hus.length
 have hfr : RelL w' (Zone Z0 F1 w0.heap.size) μ2 fr us := by
  have := hall.take fr.length
  rwa [List.take_left, ← hul, List.take_left] at this
 have hfr2 : RelL w' (Zone Z0 F1 w0.heap.size) μ2 fr2 us2 := by
  have := hall.drop fr.length
  rwa [List.drop_left, ← hul, List.drop_left] at this
 refine ⟨v, μ2, F1, _, _, ⟨res, hp', hΦ, rfl, rfl⟩, rfl, hF1, ?_, ?_, hfr, hb1⟩
 ·refine hH2.frameAt ?_ hfr2
  have hj : (insJ hp.length hp'.length)[hp.length]? = some hp'.length := by
   unfold insJ
   rw [List.getElem?_append_right (by simp)]
   simp
  rw [List.getElem?_map, hj]
  simp [AObj.ren]
 ·rw [hμ2]
  exact Rel.ren _ (Rel.keep (w := w') (fun _ _ _ => rfl) (fun i u hu => append_old i u hu) hres)
theorem CallX.drop {P : Program} {f : FuncId} {args : List AV} {hp : List AObj} {Φ : AV → List AObj → Prop} (js : List Nat) (hc : CallX P f args hp Φ) (h1 : js.take hp.length = List.range hp.length) (h2 : js.Nodup) :
  CallX P f args hp fun r h => ∃ res hp', Φ res hp' ∧ r = res.ren js ∧ h = renH js hp' := by
 obtain ⟨hen, hc⟩ := hc
 refine ⟨hen, ?_⟩
 intro Z0 F w0 w μ vs us fr hFb hH hvs hus hbel
 refine (hc Z0 F w0 w μ vs us fr hFb hH hvs hus hbel).mono ?_
 rintro e w' ⟨v, μ1, F1, res, hp', hΦ, rfl, hF1, hH1, hres, hfr1, hb1⟩
 have hm1 := hH1.len
 have hjs : ∀ i, i < hp.length → js[i]? = some i := by
  intro i hi
  have := congrArg (fun l : List Nat => l[i]?) h1
  simp only [List.getElem?_take, if_pos hi] at this
  rw [this]
  simp [hi]
 refine ⟨v, _, F1, _, _, ⟨res, hp', hΦ, rfl, rfl⟩, rfl, hF1, hH1.ren js h2, Rel.ren js hres, ?_, hb1⟩
 refine RelL.mix (n := hp.length) ?_ ?_ hus (hfr1.ren (List.range hp.length))
 ·intro i x hi hx
  rw [List.getElem?_map, hjs i hi]
  rw [List.getElem?_map] at hx
  simpa [hi] using hx
 ·intro i x hi hx
  have h4 := (List.getElem?_eq_some_iff.1 hx).1
  have h5 := hH.len
  omega
theorem CallX.dropE {P : Program} {f : FuncId} {args : List AV} {hp : List AObj} {Φ : AV → List AObj → Prop} (hc : CallX P f args hp fun r h => ∃ js : List Nat, js.take hp.length = List.range hp.length ∧ js.Nodup ∧ Φ (r.ren js) (renH js h)) :
  CallX P f args hp Φ := by
 obtain ⟨hen, hc⟩ := hc
 refine ⟨hen, ?_⟩
 intro Z0 F w0 w μ vs us fr hFb hH hvs hus hbel
 refine (hc Z0 F w0 w μ vs us fr hFb hH hvs hus hbel).mono ?_
 rintro e w' ⟨v, μ1, F1, res, hp', ⟨js, h1, h2, hΦ⟩, rfl, hF1, hH1, hres, hfr1, hb1⟩
 have hm1 := hH1.len
 have hjs : ∀ i, i < hp.length → js[i]? = some i := by
  intro i hi
  have := congrArg (fun l : List Nat => l[i]?) h1
  simp only [List.getElem?_take, if_pos hi] at this
  rw [this]
  simp [hi]
 refine ⟨v, _, F1, _, _, hΦ, rfl, hF1, hH1.ren js h2, Rel.ren js hres, ?_, hb1⟩
 refine RelL.mix (n := hp.length) ?_ ?_ hus (hfr1.ren (List.range hp.length))
 ·intro i x hi hx
  rw [List.getElem?_map, hjs i hi]
  rw [List.getElem?_map] at hx
  simpa [hi] using hx
 ·intro i x hi hx
  have h4 := (List.getElem?_eq_some_iff.1 hx).1
  have h5 := hH.len
  omega
def opsHd0 (m : M) : Bool :=
 match m.ks with
 | .ops _ (_ :: _) false :: _ => true
 | _ => false
theorem R.deadF (i : Nat) (h : opsHd0 m = true) (hd : m.st.hp[i]? = some .dead) (h' : Runs rd P ⟨m.ks, ⟨m.st.fr, m.st.hp.set i (.frame [] [])⟩⟩ Q) : Runs rd P m Q := by
 obtain ⟨ks, ⟨fr, hp⟩⟩ := m
 unfold opsHd0 at h
 simp only [runs_iff] at h h' hd ⊢
 split at h
 ·simp only [RunsK] at h' ⊢
  intro _ Z0 w0 a w hS
  obtain ⟨μ, F, hFb, hH, hF, hdf, hb⟩ := hS
  refine h' headW_false Z0 w0 a w ⟨μ, F, hFb, hH.frameAt hd RelL.nil, hF, hdf.keep (fun j x hj => ⟨?_, fun u hu => hu⟩), hb⟩
  have hne : i ≠ j := fun e => by subst e; rw [hd] at hj; cases hj
  simp only
  rw [List.getElem?_set_ne hne]; exact hj
 ·cases h
end
end Go.Abs

/-! Calls of which is told that there is a result with some facts, which may speak of the first block that the call made; calls by value whose arguments are told less of. -/
namespace Go.Abs
open Go.RowKit
def CallE (P : Program) (f : FuncId) (args : List AV) (Φ : Nat → AV → Prop) : Prop :=
 Enters P f ∧ ∀ (Z0 : Nat → Prop) (w : World) (vs : List Value), RelL w (Zone Z0 NoF w.heap.size) [] args vs →
  Calls P f vs.toArray w fun e w' => ∃ res v bs F', Φ w.heap.size res ∧ e = .returned v ∧ (∀ b, F' b → w.heap.size ≤ b ∧ b < w'.heap.size) ∧ RF w' (Zone Z0 F' w.heap.size) w.heap.size res v bs ∧ bs.Nodup ∧ (∀ b ∈ bs, ¬ F' b) ∧ Below w.heap.size w w'
theorem CallE.toA {P : Program} {f : FuncId} {args : List AV} {res : AV} (h : CallE P f args fun _ r => r = res) : CallA P f args res := by
 refine ⟨h.1, fun Z0 w vs hvs => (h.2 Z0 w vs hvs).mono ?_⟩
 rintro e w' ⟨r, v, bs, F', hr, hh⟩
 subst hr
 exact ⟨v, bs, F', hh⟩
theorem CallE.mono {P : Program} {f : FuncId} {args : List AV} {Φ Ψ : Nat → AV → Prop} (h : CallE P f args Φ) (h' : ∀ b r, Φ b r → Ψ b r) : CallE P f args Ψ := by
 refine ⟨h.1, fun Z0 w vs hvs => (h.2 Z0 w vs hvs).mono ?_⟩
 rintro e w' ⟨r, v, bs, F', hr, h⟩
 exact ⟨r, v, bs, F', h' _ _ hr, h⟩
def resB (P : Program) (fn : Func) (st : St) : Option AV :=
 match st.hp[0]? with
 | some (AObj.inert (Inert.base _)) => if noMark st.hp then resOf P fn ⟨st.fr, st.hp.set 0 AObj.dead⟩ else none
 | _ => none
def retE (P : Program) (fn : Func) (b : Nat) (Φ : Nat → AV → Prop) : Exit → St → Prop := fun e st' => (e = .normal ∨ e = .ret) ∧ ∃ res, Φ b res ∧ resB P fn st' = some res
theorem R.retB {P : Program} {m : M} {fn : Func} {b : Nat} {Φ : Nat → AV → Prop} (res : AV) (h : (edAt m).isSome = true) (hr : resB P fn m.st = some res) (hΦ : Φ b res) : Runs none P m (Go.Abs.retE P fn b Φ) :=
 R.fin h ⟨.inl rfl, res, hΦ, hr⟩ ⟨.inr rfl, res, hΦ, hr⟩
theorem k30 {P : Program} {m : M} {fn : Func} {b : Nat} {Φ : Nat → AV → Prop} (res : AV) (hΦ : Φ b res) (h : (edAt m).isSome = true := by kernel_rfl) (hr : resB P fn m.st = some res := by kernel_rfl) : Runs none P m (Go.Abs.retE P fn b Φ) := _root_.Go.Abs.R.retB res h hr hΦ
theorem CallE.of {P : Program} {f : FuncId} {fn : Func} {c : Code} {args : List AV} {Φ : Nat → AV → Prop} (hf : P.funcs[f]? = some fn) (hb : fn.body = some c) (hnm : (fn.name == "runtime.NumGoroutine") = false)
  (h : ∀ b, Runs none P ⟨[.code c], ⟨frameOf fn.ntmps args, [.inert (.base b)]⟩⟩ (retE P fn b Φ)) : CallE P f args Φ := by
 refine ⟨enters_of hf hnm (by rw [hb]; rfl), ?_⟩
 intro Z0 w vs hvs
 have hlen := hvs.length
 refine callsIn_wide.1 (callsIn_of_wp_marks (F := Fence.wide) (n := 0) hf hb trivial ?_)
 have hS : Sim Z0 w ⟨args ++ List.replicate (fn.ntmps - args.length) .top, [.inert (.base w.heap.size)]⟩ { tmps := vs.toArray ++ Array.replicate (fn.ntmps - vs.toArray.size) undef, defers := [] } w := by
  have one : ∀ {i : Nat} {α : Type} {x y : α}, ([x] : List α)[i]? = some y → i = 0 ∧ y = x := by
   intro i α x y h
   cases i with
   | zero => simp at h; exact ⟨rfl, h.symm⟩
   | succ i => simp at h
  refine ⟨[.bool false], NoF, fun b h => h.elim, ⟨rfl, fun i o u g h1 h2 h3 hg => ?_, fun i u h => ?_, fun i o u h1 h2 => ?_, fun i j oi oj ui uj g hne h1 h2 => ?_⟩, ?_, .inl rfl, Below.refl _ _⟩
  ·obtain ⟨_, rfl⟩ := one h3
   cases hg
  ·obtain ⟨_, rfl⟩ := one h
   rfl
  ·obtain ⟨_, rfl⟩ := one h1
   obtain ⟨_, rfl⟩ := one h2
   exact ⟨rfl, rfl⟩
  ·exact absurd ((one h1).1.trans (one h2).1.symm) hne
  simp only [Array.toList_append, Array.toList_replicate, List.size_toArray, hlen]
  refine (RelL.lift hvs).append ?_
  generalize fn.ntmps - args.length = n
  induction n with
  | zero => exact RelL.nil
  | succ n ih => exact RelL.cons (by simp [Rel]) ih
 refine wpIn_mono ((h w.heap.size).out Z0 w _ w hS) ?_
 have fin : ∀ (st' : St) (a' : Act) (w' : World) res, Φ w.heap.size res → resB P fn st' = some res → Sim Z0 w st' a' w' → LeavesInM Fence.wide 0 P fn a'.tmps (fun e w'' => ∃ res v' bs F', Φ w.heap.size res ∧ e = .returned v' ∧ (∀ b, F' b → w.heap.size ≤ b ∧ b < w''.heap.size) ∧ RF w'' (Zone Z0 F' w.heap.size) w.heap.size res v' bs ∧ bs.Nodup ∧ (∀ b ∈ bs, ¬ F' b) ∧ Below w.heap.size w w'') a'.defers .returning w' := by
  rintro st' a' w' res hΦ hr ⟨μ, F, hFb, hH, hF, hd, hbel⟩
  unfold resB at hr
  split at hr
  ·rename_i b hb0
   split at hr
   ·rename_i hnm
    have hr := resOf_parts hr
    rw [hd.none hnm]
    obtain ⟨x, bs, h1, h2, h3, h4⟩ := resOf_run (st := ⟨st'.fr, st'.hp.set 0 .dead⟩) (hH.bury 0) hF hr.1
    have hge := RF.ge h2
    refine ⟨x, h1, res, x, bs, F, hΦ, rfl, hFb, h2, h3, fun b hb hf => ?_, hbel⟩
    have := hge b hb
    exact (h4 b hb).elim (fun h => absurd h.1 (by omega)) (fun h => h.2 hf)
   ·cases hr
  ·cases hr
 rintro e a' w' ⟨st', ⟨hq, res, hΦ, hr⟩, hS'⟩
 rcases hq with rfl | rfl
 ·exact fin st' a' w' res hΦ hr hS'
 ·exact fin st' a' w' res hΦ hr hS'

mutual
def ClosedN (b : Nat) : AV → Prop
 | .nam v _ _ _ cs => closedL cs = true ∧ ∀ g, blk v = some g → b ≤ g
 | .own _ _ _ cs => ClosedNL b cs
 | .agg cs => ClosedNL b cs
 | .tup cs => ClosedNL b cs
 | .int _ _ => True
 | .bool _ => True
 | .str _ => True
 | .nil => True
 | .top => True
 | .lst _ _ _ => False
 | .clp _ _ _ => False
 | .rptr _ => False
 | .fn _ _ => False
 | .ref _ => False
 | .ptr _ _ => False
def ClosedNL (b : Nat) : List AV → Prop
 | [] => True
 | c :: cs => ClosedN b c ∧ ClosedNL b cs
end
theorem closedNL_iff {b : Nat} : ∀ {cs : List AV}, ClosedNL b cs ↔ ∀ c ∈ cs, ClosedN b c
 | [] => by simp [ClosedNL]
 | c :: cs => by rw [ClosedNL, closedNL_iff]; simp
mutual
theorem Rel.shutN {w : World} {Z Z' : Nat → Prop} {b : Nat} (hz : ∀ g, b ≤ g → ¬ Z g → ¬ Z' g) : ∀ {c : AV} {v : Value}, ClosedN b c → Rel w Z [] c v → Rel w Z' [] c v
 | .nam u o s n cs, v, hc, h => by
  simp only [Rel] at h ⊢
  simp only [ClosedN] at hc
  obtain ⟨⟨rfl, h00⟩, A, c, xs, h1, h2, h3, h4, h5⟩ := h
  refine ⟨⟨rfl, fun e he => ?_⟩, A, c, xs, h1, h2, h3, fun hx => ?_, RelL.shut hc.1 h5⟩
  ·obtain ⟨ys, k1, k2⟩ := h00 e he
   exact ⟨ys, k1, fun g hg => hz g (hc.2 g hg) (k2 g hg)⟩
  ·obtain ⟨ad, rfl, k1, k2⟩ := h4 hx
   exact ⟨ad, rfl, hz _ (hc.2 _ (by rw [h1]; rfl)) k1, k2⟩
 | .agg cs, v, hc, h => by
  simp only [Rel] at h ⊢
  simp only [ClosedN] at hc
  obtain ⟨xs, h1, h2⟩ := h
  exact ⟨xs, h1, RelL.shutN hz hc h2⟩
 | .tup cs, v, hc, h => by
  simp only [Rel] at h ⊢
  simp only [ClosedN] at hc
  obtain ⟨xs, h1, h2⟩ := h
  exact ⟨xs, h1, RelL.shutN hz hc h2⟩
 | .int _ _, _, _, h => by simpa [Rel] using h
 | .bool _, _, _, h => by simpa [Rel] using h
 | .str _, _, _, h => by simpa [Rel] using h
 | .nil, _, _, h => by simpa [Rel] using h
 | .top, _, _, h => by simp [Rel]
 | .own _ _ _ _, _, _, h => by simp [Rel] at h
 | .lst _ _ _, _, hc, _ => by simp [ClosedN] at hc
 | .clp _ _ _, _, hc, _ => by simp [ClosedN] at hc
 | .rptr _, _, hc, _ => by simp [ClosedN] at hc
 | .fn _ _, _, hc, _ => by simp [ClosedN] at hc
 | .ref _, _, hc, _ => by simp [ClosedN] at hc
 | .ptr _ _, _, hc, _ => by simp [ClosedN] at hc
theorem RelL.shutN {w : World} {Z Z' : Nat → Prop} {b : Nat} (hz : ∀ g, b ≤ g → ¬ Z g → ¬ Z' g) : ∀ {cs : List AV} {vs : List Value}, ClosedNL b cs → RelL w Z [] cs vs → RelL w Z' [] cs vs
 | [], _, _, h => by simpa [RelL] using h
 | c :: cs, _, hc, h => by
  simp only [RelL] at h ⊢
  simp only [ClosedNL] at hc
  obtain ⟨x, xs, h1, h2, h3⟩ := h
  exact ⟨x, xs, h1, Rel.shutN hz hc.1 h2, RelL.shutN hz hc.2 h3⟩
end
mutual
theorem RF.shutN {w : World} {Z Z' : Nat → Prop} {b B' : Nat} (hB : B' ≤ b) (hz : ∀ g, b ≤ g → ¬ Z g → ¬ Z' g) : ∀ {c : AV} {v : Value} {bs : List Nat}, ClosedN b c → RF w Z b c v bs → RF w Z' B' c v bs
 | .own e s n cs, v, bs, hc, h => by
  simp only [RF] at h ⊢
  simp only [ClosedN] at hc
  obtain ⟨xs, h1, h2, h3⟩ := h
  exact ⟨xs, ownsRow_from h1 (fun g hg => by
   rcases h1.2 with ⟨rfl, _⟩ | ⟨g', cap, cur, rfl, k1, _⟩
   ·cases hg
   ·cases hg; exact Nat.le_trans hB k1), RelL.shutN hz hc h2, h3⟩
 | .agg cs, v, bs, hc, h => by
  simp only [RF] at h ⊢
  simp only [ClosedN] at hc
  obtain ⟨xs, h1, h2⟩ := h
  exact ⟨xs, h1, RFL.shutN hB hz hc h2⟩
 | .tup cs, v, bs, hc, h => by
  simp only [RF] at h ⊢
  simp only [ClosedN] at hc
  obtain ⟨xs, h1, h2⟩ := h
  exact ⟨xs, h1, RFL.shutN hB hz hc h2⟩
 | .nam u o s n cs, v, bs, hc, h => by
  simp only [RF] at h ⊢
  exact ⟨Rel.shutN hz hc h.1, h.2⟩
 | .int _ _, _, _, _, h => by simpa [RF] using h
 | .bool _, _, _, _, h => by simpa [RF] using h
 | .str _, _, _, _, h => by simpa [RF] using h
 | .nil, _, _, _, h => by simpa [RF] using h
 | .top, _, _, _, h => by simpa [RF] using h
 | .lst _ _ _, _, _, hc, _ => by simp [ClosedN] at hc
 | .clp _ _ _, _, _, hc, _ => by simp [ClosedN] at hc
 | .rptr _, _, _, hc, _ => by simp [ClosedN] at hc
 | .fn _ _, _, _, hc, _ => by simp [ClosedN] at hc
 | .ref _, _, _, hc, _ => by simp [ClosedN] at hc
 | .ptr _ _, _, _, hc, _ => by simp [ClosedN] at hc
theorem RFL.shutN {w : World} {Z Z' : Nat → Prop} {b B' : Nat} (hB : B' ≤ b) (hz : ∀ g, b ≤ g → ¬ Z g → ¬ Z' g) : ∀ {cs : List AV} {vs : List Value} {bs : List Nat}, ClosedNL b cs → RFL w Z b cs vs bs → RFL w Z' B' cs vs bs
 | [], _, _, _, h => by simpa [RFL] using h
 | c :: cs, _, _, hc, h => by
  simp only [RFL] at h ⊢
  simp only [ClosedNL] at hc
  obtain ⟨x, xs, b1, b2, h1, h2, h3, h4⟩ := h
  exact ⟨x, xs, b1, b2, h1, RF.shutN hB hz hc.1 h2, RFL.shutN hB hz hc.2 h3, h4⟩
end
theorem OpsQ.callE {rd : Option Nat} {P : Program} {all : Array Oper} {o : Oper} {l : List Oper} {fr : List AV} {hp : List AObj} {R : Exit → St → Prop} {c : Operand} {args : Array Operand} {tys : Array TypeId} {f : FuncId} {caps avs : List AV} {Φ : Nat → AV → Prop} (hw : WantedA all o fr)
  (hop : o.op = .call { callee := .value c, args := args, argTypes := tys }) (hc : ev fr c = .fn f caps) (hs : SnapL hp (args.toList.map (ev fr) ++ caps) avs) (hcall : CallE P f avs Φ) (hcl : ∀ b r, Φ b r → ClosedN b r) (hnm : noMark hp = true)
  (h' : ∀ b1, (∀ (k b : Nat), hp[k]? = some (.inert (.base b)) → b ≤ b1) → (∀ u, InS u ⟨fr, hp⟩ → ∀ g, blk u = some g → g < b1) → ∀ res, Φ b1 res → OpsQ rd P all l ⟨putF fr o.dst (imp hp.length res).1, hp ++ (imp hp.length res).2⟩ R) : OpsQ rd P all (o :: l) ⟨fr, hp⟩ R := by
 intro Z0 w0 a w hS
 refine wpListIn_step fun K hK => ?_
 obtain ⟨μ, F, hFb, hH, hF, hd, hb⟩ := hS
 rw [wanted_rel hF hw, if_pos rfl]
 have hB : w0.heap.size ≤ w.heap.size := hb.size
 have hE : ∀ y, Rel w (Zone Z0 F w0.heap.size) μ (ev fr y) (a.eval y) := fun y => ev_rel hF y
 have hcv := hc ▸ hE c
 simp only [Rel] at hcv
 obtain ⟨cv, hcv, hrc⟩ := hcv
 have hargs' : RelL w (Zone Z0 F w0.heap.size) μ (args.toList.map (ev fr)) (args.toList.map a.eval) := by
  generalize args.toList = l
  induction l with
  | nil => exact RelL.nil
  | cons x l ih => exact RelL.cons (hE x) ih
 have hall : RelL w (Zone (fun _ => False) NoF w.heap.size) [] avs (args.toList.map a.eval ++ cv) := RelL.weak (fun b hb hz hz2 => hz2.elim (fun h => h.2) (fun h => hz h.1)) (SnapL.sound hH hs (hargs'.append hrc))
 obtain ⟨hen, hcall⟩ := hcall
 have hC := hcall (fun _ => False) w _ hall
 have hrun : (execOp a.eval o).run P w = .ok (.enter f (args.toList.map a.eval ++ cv).toArray) w := by
  have e1 : (args.map a.eval ++ cv.toArray) = (args.toList.map a.eval ++ cv).toArray := by
   apply Array.toList_inj.1; simp
  simp only [execOp, hop, resolve, Deferred.ofValue, hcv, Sem.run_bind, Sem.run_pure, Result.andThen_ok, invoke, Array.empty_append]
  rw [e1]
  exact hen _ _
 refine wpIn_of_run (fun c' => by rw [hop]; simp) ?_
 rw [hrun]
 refine upon_enter hC ?_
 rintro en w' ⟨res, x, bs, F', hΦ, rfl, hF', hrf, hnd, hbf, hbel⟩
 have hrf2 : RF w' (Zone Z0 (fun b => F b ∨ F' b) w0.heap.size) w0.heap.size res x bs := RF.shutN hB (fun g hg hz hzz => hzz.elim (fun h => by omega) (fun h => h.2 (.inr (Classical.byContradiction fun hf => hz (.inr ⟨hg, hf⟩))))) (hcl _ _ hΦ) hrf
 obtain ⟨μs, ht, hr⟩ := imp_sound μ hp.length hH.len hrf2
 have hzo : ∀ b, b < w.heap.size → ¬ Zone Z0 F w0.heap.size b → ¬ Zone Z0 (fun b => F b ∨ F' b) w0.heap.size b := fun b _ hz => zone_more b hz
 refine ⟨x, rfl, hK _ _ (h' w.heap.size (fun k b hk => ?_) (fun u hu g hg => (InS.of hH hF hg hu).1) res hΦ Z0 w0 _ _ ⟨μ ++ μs, fun b => F b ∨ F' b, fun b hb => hb.elim (fun h => ⟨(hFb b h).1, Nat.lt_of_lt_of_le (hFb b h).2 hbel.size⟩) (fun h => ⟨Nat.le_trans hB (hF' b h).1, (hF' b h).2⟩), ?_, ?_, ?_, ?_⟩)⟩
 ·have hkl : k < μ.length := by rw [hH.len]; exact (List.getElem?_eq_some_iff.1 hk).1
  have h1 := hH.obj k _ _ hk (List.getElem?_eq_getElem hkl)
  obtain ⟨_, rfl⟩ := h1
  exact hB
 ·refine HRel.extend (bs := bs) (hH.weak hzo (fun b hb hz => ?_)) hbel ht (fun g hg => RF.ge hrf g hg) (fun g hg => ?_) hnd
  ·exact hz.elim .inl (fun h2 => .inr ⟨h2.1, fun hf => hf.elim h2.2 (fun h3 => absurd (hF' b h3).1 (by omega))⟩)
  ·have := RF.ge hrf g hg
   exact .inr ⟨by omega, fun hf => hf.elim (fun h3 => absurd (hFb g h3).2 (by omega)) (hbf g hg)⟩
 ·refine put_rel (RelL.keep (fun b h1 h2 => hbel.block b h1) (fun i u h => append_old i u h) (RelL.weak hzo hF)) _ hr
 ·rw [put_defers']
  exact .inl (hd.none hnm)
 ·exact hb.trans (hbel.mono hB)
section
variable {rd : Option Nat} {P : Program} {m : M} {Q : Exit → St → Prop}
theorem R.callE {f : FuncId} {avs0 avs : List AV} {Φ : Nat → AV → Prop} (hc : CallE P f avs Φ) (h : csAt m = some (f, avs0)) (hs : SnapL m.st.hp avs0 avs) (hcl : ∀ b r, Φ b r → ClosedN b r) (ht : opsHd m = true)
  (h' : ∀ b1, (∀ (k b : Nat), m.st.hp[k]? = some (.inert (.base b)) → b ≤ b1) → (∀ u, InS u m.st → ∀ g, blk u = some g → g < b1) → ∀ res, Φ b1 res → Runs rd P (putM m none (imp m.st.hp.length res).1 (m.st.hp ++ (imp m.st.hp.length res).2)) Q) : Runs rd P m Q := by
 have hnm := csAt_mark h
 obtain ⟨fo, args, tys, caps, hop, hf, rfl⟩ := csAt_parts h
 obtain ⟨ks, ⟨fr, hp⟩⟩ := m
 unfold opM headOf at hop
 unfold opsHd at ht
 unfold putM at h'
 simp only [runs_iff] at h' ⊢
 try simp only at hop ht h' hf hs hnm ⊢
 split at hop
 ·rename_i all o fl t heq
  split at hop
  ·rename_i hw
   simp only [Option.some.injEq] at hop
   split at heq
   ·cases heq
    intro hW
    exact OpsQ.callE (wantH_true hw hW) hop hf hs hc hcl hnm fun b1 h1 h2 res hΦ => h' b1 h1 h2 res hΦ headW_false
   ·simp at ht
   ·cases heq
  ·cases hop
 ·cases hop
theorem R.callW {f : FuncId} {avs0 avs : List AV} {res : AV} (hc : CallA P f avs res) (h : csAt m = some (f, avs0)) (hs : SnapL m.st.hp avs0 avs) (hr : res.closed = true) (ht : quietOk m (imp m.st.hp.length res).2 = true)
  (h' : Runs rd P (putM m none (imp m.st.hp.length res).1 (m.st.hp ++ (imp m.st.hp.length res).2)) Q) : Runs rd P m Q := by
 obtain ⟨fo, args, tys, caps, hop, hf, rfl⟩ := csAt_parts h
 exact R.effM hop (.inr (.snap f caps avs res hf hs hc hr)) ht h'
end
end Go.Abs

/-! Rows of named rows; the rules for them; loops of few rounds. -/
namespace Go.Abs
open Go.RowKit
section
variable {α : Type} {E : α → List AV} {el s b : Nat} {L : List (Value × List α)} {v : Value}
def eV (E : α → List AV) (el s : Nat) (x : Value × List α) : List AV := [.nam x.1 (some el) s x.2.length (rows E x.2)]
theorem eV_len (x : Value × List α) : (eV E el s x).length = 1 := rfl
theorem eV_one (x : Value × List α) : (eV E el s x).all AV.one = true := rfl
theorem rowsV_length : ∀ L : List (Value × List α), (rows (eV E el s) L).length = L.length
 | [] => rfl
 | x :: L => by simp [rows, eV, rowsV_length L]
theorem rowsV_get : ∀ (L : List (Value × List α)) (i : Nat) (d : Value × List α), i < L.length → (rows (eV E el s) L)[i]? = some (.nam (L.getD i d).1 (some el) s (L.getD i d).2.length (rows E (L.getD i d).2))
 | [], i, d, h => by simp at h
 | x :: L, 0, d, h => rfl
 | x :: L, i + 1, d, h => by
  have := rowsV_get L i d (by simpa using h)
  simpa [rows, eV] using this
theorem rowsV_set : ∀ (L : List (Value × List α)) (i : Nat) (x : Value × List α), (rows (eV E el s) L).set i (.nam x.1 (some el) s x.2.length (rows E x.2)) = rows (eV E el s) (L.set i x)
 | [], i, x => rfl
 | y :: L, 0, x => rfl
 | y :: L, i + 1, x => by
  have := rowsV_set L i x
  simp [rows, eV] at this ⊢
  exact this
theorem rowsV_mem {c : AV} : ∀ {L : List (Value × List α)}, c ∈ rows (eV E el s) L → ∃ x ∈ L, c = .nam x.1 (some el) s x.2.length (rows E x.2)
 | [], h => by simp [rows] at h
 | x :: L, h => by
  simp only [rows, eV, List.singleton_append, List.mem_cons] at h
  rcases h with h | h
  ·exact ⟨x, List.mem_cons_self .., h⟩
  ·obtain ⟨y, hy, e⟩ := rowsV_mem h
   exact ⟨y, List.mem_cons_of_mem _ hy, e⟩
theorem rowsV_in {x : Value × List α} : ∀ {L : List (Value × List α)}, x ∈ L → .nam x.1 (some el) s x.2.length (rows E x.2) ∈ rows (eV E el s) L
 | [], h => by simp at h
 | y :: L, h => by
  simp only [rows, eV, List.singleton_append, List.mem_cons]
  rcases List.mem_cons.1 h with rfl | h
  ·exact .inl rfl
  ·exact .inr (rowsV_in h)
structure NL (b : Nat) (L : List (Value × List α)) : Prop where
 nd : (L.filterMap fun x => blk x.1).Nodup
 ge : ∀ x ∈ L, ∀ g, blk x.1 = some g → b ≤ g
theorem NL.nil : NL b ([] : List (Value × List α)) := ⟨List.nodup_nil, fun x h => by simp at h⟩
theorem NL.mono {b' : Nat} (h : NL b L) (hb : b' ≤ b) : NL b' L := ⟨h.nd, fun x hx g hg => Nat.le_trans hb (h.ge x hx g hg)⟩
theorem NL.snoc {x : List α} (h : NL b L) (hv : ∀ u ∈ L, ∀ g, blk v = some g → blk u.1 ≠ some g) (hb : ∀ g, blk v = some g → b ≤ g) : NL b (L ++ [(v, x)]) := by
 refine ⟨?_, fun y hy g hg => ?_⟩
 ·rw [List.filterMap_append, List.nodup_append]
  refine ⟨h.nd, ?_, fun a ha c hc => ?_⟩
  ·cases hbv : blk v <;> simp [List.filterMap, hbv]
  ·rintro rfl
   obtain ⟨u, hu, e⟩ := List.mem_filterMap.1 ha
   have : blk v = some a := by
    cases hbv : blk v <;> simp [List.filterMap, hbv] at hc
    rw [hc]
   exact hv u hu a this e
 ·rcases List.mem_append.1 hy with hy | hy
  ·exact h.ge y hy g hg
  ·simp at hy
   subst hy
   exact hb g hg
theorem NL.set (h : NL b L) (i : Nat) (d : Value × List α) (ys : List α) (hi : i < L.length) : NL b (L.set i ((L.getD i d).1, ys)) := by
 have e : (L.set i ((L.getD i d).1, ys)).map (fun x => x.1) = L.map fun x => x.1 := by
  apply List.ext_getElem?
  intro k
  simp only [List.getElem?_map, List.getElem?_set]
  split
  ·rename_i hk
   subst hk
   simp [hi, List.getD_eq_getElem?_getD]
  ·rfl
 have e2 : ∀ M : List (Value × List α), (M.filterMap fun x => blk x.1) = (M.map fun x => x.1).filterMap blk := fun M => by rw [List.filterMap_map]; rfl
 refine ⟨by rw [e2, e, ← e2]; exact h.nd, fun x hx g hg => ?_⟩
 have : x.1 ∈ L.map fun x => x.1 := by rw [← e]; exact List.mem_map_of_mem hx
 obtain ⟨y, hy, e3⟩ := List.mem_map.1 this
 exact h.ge y hy g (by rw [e3]; exact hg)
theorem newN_row {st : St} (h : NewN st v) (j : Nat) {e n : Nat} (L : List (Value × List α)) (hj : st.hp[j]? = some (.list e 1 n (rows (eV E el s) L))) : ∀ u ∈ L, ∀ g, blk v = some g → blk u.1 ≠ some g := fun u hu =>
 h.1 u.1 (.inr ⟨j, _, hj, inNL_iff.2 ⟨_, rowsV_in hu, by simp only [InN]; exact .inl ⟨trivial, .inr (by simp)⟩⟩⟩)
theorem newN_slot {st : St} (h : NewN st v) (t : Nat) {u : Value} {e s n : Nat} {cs : List AV} (ht : st.fr[t]? = some (.nam u (some e) s n cs)) : ∀ g, blk v = some g → blk u ≠ some g :=
 h.1 u (.inl (inNL_iff.2 ⟨_, List.mem_of_getElem? ht, by simp only [InN]; exact .inl ⟨trivial, .inr (by simp)⟩⟩))
theorem newN_base {st : St} (h : NewN st v) (k : Nat) {b : Nat} (hk : st.hp[k]? = some (.inert (.base b))) : ∀ g, blk v = some g → b ≤ g := h.2 k b hk
theorem closedN_rows (hL : NL b L) (hE : ∀ x, closedL (E x) = true) : ClosedNL b (rows (eV E el s) L) := by
 rw [closedNL_iff]
 intro c hc
 obtain ⟨x, hx, rfl⟩ := rowsV_mem hc
 exact ⟨closedL_rows hE _, hL.ge x hx⟩
theorem closedN_own (e : Nat) (hL : NL b L) (hE : ∀ x, closedL (E x) = true) : ClosedN b (ownA (eV E el s) e 1 L) := by
 simp only [ownA, ClosedN]
 exact closedN_rows hL hE
theorem fgtV_rows {E' : List α → List AV} (hE : ∀ x, E' x = [.lst s x.length (rows E x)]) (w : World) (Z : Nat → Prop) : ∀ (L : List (Value × List α)) (xs : List Value), RelL w Z [] (rows (eV E el s) L) xs → RelL w Z [] (rows E' (L.map Prod.snd)) xs
 | [], xs, h => h
 | x :: L, xs, h => by
  simp only [rows, eV, List.singleton_append, List.map_cons, hE] at h ⊢
  simp only [RelL] at h ⊢
  obtain ⟨y, ys, rfl, h1, h2⟩ := h
  refine ⟨y, ys, rfl, ?_, fgtV_rows hE w Z L ys h2⟩
  simp only [Rel] at h1 ⊢
  exact h1.2
theorem fgtV {E' : List α → List AV} (hE : ∀ x, E' x = [.lst s x.length (rows E x)]) (L : List (Value × List α)) : ∀ (w : World) (Z : Nat → Prop) u, Rel w Z [] (.lst 1 L.length (rows (eV E el s) L)) u → Rel w Z [] (.lst 1 (L.map Prod.snd).length (rows E' (L.map Prod.snd))) u := by
 intro w Z u h
 simp only [Rel] at h ⊢
 obtain ⟨A, c, xs, h1, h2, h3, h4, h5⟩ := h
 have h6 := fgtV_rows hE w Z L xs h5
 refine ⟨A, c, xs, by rw [List.length_map]; exact h1, ?_, by rw [List.length_map]; exact h3, h4, h6⟩
 rw [← h6.length, h5.length, h2, List.length_map]
theorem NL.at (h : NL b L) (d : Value × List α) {i : Nat} (hi : i < L.length) : ∀ g, blk (L.getD i d).1 = some g → b ≤ g :=
 h.ge _ (List.mem_of_getElem? (i := i) (by simp [List.getD_eq_getElem?_getD, List.getElem?_eq_getElem hi]))
theorem closedN_int {k : IntKind} {n : Int} : ClosedN b (.int k n) := trivial
theorem closedN_bool {x : Bool} : ClosedN b (.bool x) := trivial
theorem closedN_tup {cs : List AV} (h : ClosedNL b cs) : ClosedN b (.tup cs) := by simpa [ClosedN] using h
theorem closedN_agg {cs : List AV} (h : ClosedNL b cs) : ClosedN b (.agg cs) := by simpa [ClosedN] using h
theorem closedNL_nil : ClosedNL b [] := trivial
theorem closedNL_cons {c : AV} {cs : List AV} (h : ClosedN b c) (h' : ClosedNL b cs) : ClosedNL b (c :: cs) := ⟨h, h'⟩

mutual
theorem closed_safe : ∀ {c : AV}, c.closed = true → Safe v c
 | .int _ _, _ => safe_int
 | .bool _, _ => safe_bool
 | .str _, _ => ⟨rfl, fun u h => by simp [InN] at h⟩
 | .nil, _ => safe_nil
 | .top, _ => safe_top
 | .own _ _ _ _, _ => ⟨rfl, fun u h => by simp [InN] at h⟩
 | .agg cs, h => safe_agg (closedL_safe (by simpa [AV.closed] using h))
 | .tup cs, h => safe_tup (closedL_safe (by simpa [AV.closed] using h))
 | .lst _ _ _, h => by simp [AV.closed] at h
 | .clp _ _ _, h => by simp [AV.closed] at h
 | .nam _ _ _ _ _, h => by simp [AV.closed] at h
 | .rptr _, h => by simp [AV.closed] at h
 | .ref _, h => by simp [AV.closed] at h
 | .ptr _ _, h => by simp [AV.closed] at h
 | .fn _ _, h => by simp [AV.closed] at h
theorem closedL_safe : ∀ {cs : List AV}, closedL cs = true → SafeL v cs
 | [], _ => safeL_nil
 | c :: cs, h => by
  simp only [closedL, Bool.and_eq_true] at h
  exact safeL_cons.2 ⟨closed_safe h.1, closedL_safe h.2⟩
end
theorem safe_rows (hE : ∀ x, closedL (E x) = true) (xs : List α) : SafeL v (rows E xs) := closedL_safe (closedL_rows hE xs)
theorem NL.ne (h : NL b L) {i k : Nat} (d : Value × List α) (hi : i < L.length) (hk : k < L.length) (hik : k ≠ i) : ∀ g, blk (L.getD i d).1 = some g → blk (L.getD k d).1 ≠ some g := by
 intro g h1 h2
 have key : ∀ {M : List (Value × List α)} {p q : Nat} {x y : Value × List α}, (M.filterMap fun x => blk x.1).Nodup → p < q → M[p]? = some x → M[q]? = some y → blk x.1 = some g → blk y.1 = some g → False := by
  intro M
  induction M with
  | nil => intro p q x y _ _ h1; simp at h1
  | cons z M ih =>
   intro p q x y hn hpq h1 h2 h3 h4
   cases q with
   | zero => omega
   | succ q =>
    rw [List.getElem?_cons_succ] at h2
    have hm : g ∈ M.filterMap fun x => blk x.1 := List.mem_filterMap.2 ⟨y, List.mem_of_getElem? h2, h4⟩
    cases p with
    | zero =>
     simp at h1
     subst h1
     rw [List.filterMap_cons, h3] at hn
     exact (List.nodup_cons.1 hn).1 hm
    | succ p =>
     rw [List.getElem?_cons_succ] at h1
     refine ih ?_ (by omega) h1 h2 h3 h4
     rw [List.filterMap_cons] at hn
     split at hn
     ·exact hn
     ·exact (List.nodup_cons.1 hn).2
 have gi : L[i]? = some (L.getD i d) := by simp [List.getD_eq_getElem?_getD, List.getElem?_eq_getElem hi]
 have gk : L[k]? = some (L.getD k d) := by simp [List.getD_eq_getElem?_getD, List.getElem?_eq_getElem hk]
 rcases Nat.lt_or_ge i k with h | h
 ·exact key ‹NL b L›.nd h gi gk h1 h2
 ·exact key ‹NL b L›.nd (by omega) gk gi h2 h1
end
section
variable {rd : Option Nat} {P : Program} {m : M} {Q : Exit → St → Prop} {α : Type}
def ivAt (P : Program) (m : M) : Option (Nat × Nat × List AV × Int) :=
 match opM m with
 | some (.indexAddr t x y) => match ev m.st.fr x, ev m.st.fr y, elemB P t with
  | .nam _ _ s n cs, .int _ j, some (_, s') => if s' = s ∧ s ≠ 0 then some (s, n, cs, j) else none
  | _, _, _ => none
 | _ => none
theorem R.idxV (E : α → List AV) (xs : List α) (d : α) (j : Nat) (ji : Int) {s : Nat} (h : ivAt P m = some (s, xs.length, rows E xs, ji)) (hji : ji = (j : Int)) (hE : ∀ x, (E x).length = s) (hj : j < xs.length) (ht : quiet0 m = true)
  (h' : Runs rd P (putM m none (.rptr (E (xs.getD j d))) m.st.hp) Q) : Runs rd P m Q := by
 unfold ivAt at h
 split at h
 ·rename_i t x y hop
  split at h
  ·rename_i v o s0 n cs k j0 el s' hx hy hel
   split at h
   ·rename_i hc
    obtain ⟨rfl, hs0⟩ := hc
    cases h
    subst hji
    exact R.eff0 hop (.inl (.indexAddrV v o _ xs.length (rows E xs) k j el _ _ hx hy hel hs0 (by omega) (by omega) (rows_at hE xs j d hj))) ht h'
   ·cases h
  ·cases h
 ·cases h
def weakRow (E : α → List AV) (el s el1 : Nat) (L : List (Value × List α)) (i : Nat) (d : Value × List α) : AObj := .list el1 1 L.length ((rows (eV E el s) L).set i (weakN (L.getD i d).1 (L.getD i d).2.length))
theorem R.repinV (E : α → List AV) (el s el1 : Nat) (L : List (Value × List α)) (i : Nat) (d : Value × List α) (j k : Nat) (ys : List α) (h : subOk m = true) (hj : m.st.hp[j]? = some (weakRow E el s el1 L i d)) (hi : i < L.length) (hk : m.st.hp[k]? = some (rowA E el s ys)) (hk1 : m.st.hp[k + 1]? = some (.frame [(L.getD i d).1] [.ref k])) (hjk : (j != k) = true)
  (h' : Runs rd P ⟨m.ks, ⟨(frzS k (.nam (L.getD i d).1 (some el) s ys.length (rows E ys)) m.st).fr, ((frzS k (.nam (L.getD i d).1 (some el) s ys.length (rows E ys)) m.st).hp.set j (rowA (eV E el s) el1 1 (L.set i ((L.getD i d).1, ys)))).set (k + 1) .dead⟩⟩ Q) : Runs rd P m Q := by
 refine R.repin j i k el s ys.length el1 1 L.length (L.getD i d).2.length (L.getD i d).1 (rows E ys) _ h hj ?_ hk hk1 (by simpa using hjk) ?_
 ·rw [List.getElem?_set_self (by rw [rowsV_length]; exact hi)]
 ·unfold pinS
  rw [List.set_set]
  have e := rowsV_set (E := E) (el := el) (s := s) L i ((L.getD i d).1, ys)
  simp only at e
  rw [e]
  unfold rowA at h'
  rw [List.length_set] at h'
  exact h'

def lpC (m : M) : Code :=
 match m.ks with
 | .code (.loop c) :: _ => c
 | _ => .skip
def lpK (m : M) : List Kont :=
 match m.ks with
 | .code (.loop _) :: ks => ks
 | _ => []
def isLp (m : M) : Bool :=
 match m.ks with
 | .code (.loop _) :: _ => true
 | _ => false
def Again (rd : Option Nat) (P : Program) (c : Code) (ks : List Kont) (Q : Exit → St → Prop) : Nat → (St → Prop) → Prop
 | 0, _ => True
 | n + 1, R => ∀ st, (∀ R', Again rd P c ks Q n R' → Runs rd P ⟨.code c :: .stop R' :: ks, st⟩ Q) → R st
def RK (rd : Option Nat) (P : Program) (c : Code) (ks : List Kont) (Q : Exit → St → Prop) : Nat → St → Prop
 | 0, _ => False
 | n + 1, st => Runs rd P ⟨.code c :: .stop (RK rd P c ks Q n) :: ks, st⟩ Q
theorem again_RK {c : Code} {ks : List Kont} : ∀ n, Again rd P c ks Q n (RK rd P c ks Q n)
 | 0 => trivial
 | n + 1 => fun _ h => h _ (again_RK n)
theorem R.rounds (n : Nat) (h : isLp m = true) (h' : ∀ R, Again rd P (lpC m) (lpK m) Q n R → Runs rd P ⟨.code (lpC m) :: .stop R :: lpK m, m.st⟩ Q) : Runs rd P m Q := by
 obtain ⟨ks0, st⟩ := m
 have h2 := h' _ (again_RK n)
 unfold isLp at h
 unfold lpC lpK at h2
 simp only at h h2
 split at h
 ·simp only at h2
  rw [runs_iff]
  simp only [RunsK]
  rename_i c ks
  refine RunA.loop (I := fun n st => RK rd P c ks Q n st) (n + 1) h2 (fun k st hk => ?_)
  cases k with
  | zero => exact hk.elim
  | succ k =>
   have h1 := hk.out
   simp only [RunsK] at h1
   refine h1.mono fun e st' hq => ?_
   cases e with
   | normal => exact ⟨st', Sub.refl _, k, Nat.lt_succ_self _, hq⟩
   | ret => exact hq
   | exit id => exact hq
   | goto l => exact hq
   | panic ch => exact hq
   | outgrown => exact hq
 ·cases h
theorem R.stopA (R1 : St → Prop) {c : Code} {ks : List Kont} {n : Nat} {Q' : Exit → St → Prop} (h : spAt m = some R1) (hA : Again rd P c ks Q' (n + 1) R1) (h' : ∀ R', Again rd P c ks Q' n R' → Runs rd P ⟨.code c :: .stop R' :: ks, m.st⟩ Q') : Runs rd P m Q :=
 R.stop R1 h (hA m.st h')
end
section
variable {rd : Option Nat} {P : Program} {m : M} {Q : Exit → St → Prop}
end
end Go.Abs

/-! The harness: rows of rows marked and held. -/
namespace Go.Proofs.YtjllngcefoohpaaGreat
open Go.RowKit Go.Abs
theorem lenV {α : Type} {L : List (Value × List α)} {R : List (List α)} (h : L.map Prod.snd = R) : L.length = R.length := by rw [← h, List.length_map]
theorem getV {α : Type} {L : List (Value × List α)} (i : Nat) (hi : i < L.length) : (L.getD i (.bool false, [])).2 = (L.map Prod.snd).getD i [] := by
 simp [List.getD_eq_getElem?_getD, List.getElem?_eq_getElem hi]
theorem map1V {α : Type} {L : List (Value × List α)} {R : List (List α)} {v : Value} {x : List α} (h : L.map Prod.snd = R) : (L ++ [(v, x)]).map Prod.snd = R ++ [x] := by rw [← h]; simp
def lenG {α : Type} (l : List (List α)) : Nat → Nat
 | 0 => 0
 | i + 1 => lenG l i + (l.getD i []).length
theorem lenG_eq {α : Type} {l m : List (List α)} (h : ∀ j, (l.getD j []).length = (m.getD j []).length) : ∀ i, lenG l i = lenG m i
 | 0 => rfl
 | i + 1 => by rw [lenG, lenG, lenG_eq h i, h i]
def MkG {α : Type} (mk : Nat → Int → List α) (c k : Int) (l : List (List α)) (LM : List (Value × List α)) (i : Nat) : Prop :=
 LM.length = l.length ∧ ∀ j, j < l.length → (LM.getD j (.bool false, [])).2 = if j < i then mk (l.getD j []).length (k + c * (lenG l j : Int)) else l.getD j []
theorem MkG.zero {α : Type} {mk : Nat → Int → List α} {c k : Int} {l : List (List α)} {L : List (Value × List α)} (h : L.map Prod.snd = l) : MkG mk c k l L 0 := by
 have hl := lenV h
 refine ⟨hl, fun j hj => ?_⟩
 rw [if_neg (by omega), getV j (by omega), h]
theorem MkG.now {α : Type} {mk : Nat → Int → List α} {c k : Int} {l : List (List α)} {LM : List (Value × List α)} {i : Nat} (h : MkG mk c k l LM i) (hi : i < l.length) : (LM.getD i (.bool false, [])).2 = l.getD i [] := by
 rw [h.2 i hi, if_neg (by omega)]
theorem MkG.set {α : Type} {mk : Nat → Int → List α} {c k : Int} {l : List (List α)} {LM : List (Value × List α)} {i : Nat} {v : Value} {ys : List α} (h : MkG mk c k l LM i) (hi : i < l.length) (hy : ys = mk (l.getD i []).length (k + c * (lenG l i : Int))) : MkG mk c k l (LM.set i (v, ys)) (i + 1) := by
 refine ⟨by rw [List.length_set]; exact h.1, fun j hj => ?_⟩
 by_cases hji : j = i
 ·subst hji
  rw [if_pos (by omega)]
  simp [List.getD_eq_getElem?_getD, h.1, hi, hy]
 ·have h2 := h.2 j hj
  have e : (LM.set i (v, ys)).getD j (.bool false, []) = LM.getD j (.bool false, []) := by
   simp [List.getD_eq_getElem?_getD, List.getElem?_set_ne (Ne.symm hji)]
  rw [e, h2]
  by_cases h3 : j < i
  ·rw [if_pos h3, if_pos (by omega)]
  ·rw [if_neg h3, if_neg (by omega)]
def HdG {α : Type} (mk : Nat → Int → List α) (c k : Int) (l : List (List α)) : Prop := ∀ j, j < l.length → l.getD j [] = mk (l.getD j []).length (k + c * (lenG l j : Int))
theorem MkG.all {α : Type} {mk : Nat → Int → List α} {c k : Int} {l : List (List α)} {LM : List (Value × List α)} {i : Nat} (hm : ∀ n k, (mk n k).length = n) (h : MkG mk c k l LM i) (hi : l.length ≤ i) : HdG mk c k (LM.map Prod.snd) ∧ lenG (LM.map Prod.snd) (LM.map Prod.snd).length = lenG l l.length ∧ (LM.map Prod.snd).length = l.length := by
 have hl : (LM.map Prod.snd).length = l.length := by rw [List.length_map]; exact h.1
 have hg : ∀ j, j < l.length → (LM.map Prod.snd).getD j [] = mk (l.getD j []).length (k + c * (lenG l j : Int)) := fun j hj => by
  rw [← getV j (by rw [h.1]; exact hj), h.2 j hj, if_pos (by omega)]
 have hlen : ∀ j, ((LM.map Prod.snd).getD j []).length = (l.getD j []).length := fun j => by
  rcases Nat.lt_or_ge j l.length with hj | hj
  ·rw [hg j hj, hm]
  ·rw [List.getD_eq_getElem?_getD, List.getD_eq_getElem?_getD, List.getElem?_eq_none (by omega), List.getElem?_eq_none hj]
 have he := lenG_eq hlen
 refine ⟨fun j hj => ?_, by rw [hl, he], hl⟩
 rw [hl] at hj
 rw [hlen j, he j]
 exact hg j hj
theorem HdG.now {α : Type} {mk : Nat → Int → List α} {c k : Int} {l : List (List α)} (h : HdG mk c k l) {j : Nat} (hj : j < l.length) {q : Int} (hq : q = k + c * (lenG l j : Int)) : l.getD j [] = mk (l.getD j []).length q := by rw [hq]; exact h j hj
end Go.Proofs.YtjllngcefoohpaaGreat

/-! The machine's rules: pairs of numbers are compared. -/
namespace Go.Abs
open Go.RowKit
section
variable {rd : Option Nat} {P : Program} {m : M} {Q : Exit → St → Prop}
theorem OpsQ.val {all : Array Oper} {o : Oper} {l : List Oper} {fr : List AV} {hp : List AObj} {R : Exit → St → Prop} {b : AV} (hw : WantedA all o fr) (hcall : ∀ c, o.op ≠ .defer c)
  (hrun : ∀ (Z : Nat → Prop) (μ : List Value) (a : Act) (w : World), RelL w Z μ fr a.tmps.toList → ∃ v, (execOp a.eval o).run P w = .ok (.value v) w ∧ Rel w Z μ b v) (h' : OpsQ rd P all l ⟨putF fr o.dst b, hp⟩ R) : OpsQ rd P all (o :: l) ⟨fr, hp⟩ R := by
 intro Z0 w0 a w hS
 obtain ⟨μ, F, hFb, hH, hF, hd, hbel⟩ := hS
 refine wpListIn_step fun K hK => ?_
 rw [wanted_rel hF hw, if_pos rfl]
 obtain ⟨v, hr, hv⟩ := hrun _ μ a w hF
 refine wpIn_of_run (fun c' h => hcall _ h) ?_
 rw [hr]
 exact hK _ _ (h' Z0 w0 _ w ⟨μ, F, hFb, hH, put_rel hF _ hv, by rw [put_defers']; exact hd, hbel⟩)
end
end Go.Abs
