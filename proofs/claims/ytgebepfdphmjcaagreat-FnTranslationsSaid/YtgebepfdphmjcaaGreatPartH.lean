/- Texts of the proof: SymM, Sym0, TR1, S02, TR2. -/
import Derived.Test.YtgebepfdphmjcaaGreatPartG

/-! Calls told by what holds behind them, under further frames that lie anywhere among the objects. -/
namespace Go.Abs
open Go.RowKit Go.ChangeShapes Go.WideShapes Go.Deep

mutual
theorem Rel.mixJ {w w' : World} {Z Z' : Nat → Prop} {μ μ1 μ2 : List Value} {js : List Nat} (hA : ∀ (i : Nat) u, js.contains i = true → μ1[js.idxOf i]? = some u → μ2[i]? = some u) (hB : ∀ (i : Nat) u, js.contains i = false → μ[i]? = some u → μ2[i]? = some u) :
    ∀ {c : AV} {v : Value}, Rel w Z μ c v → Rel w' Z' μ1 (c.ren js) v → Rel w' Z' μ2 c v
  | .int _ _, _, _, h => by simpa [Rel, AV.ren] using h
  | .bool _, _, _, h => by simpa [Rel, AV.ren] using h
  | .str _, _, _, h => by simpa [Rel, AV.ren] using h
  | .nil, _, _, h => by simpa [Rel, AV.ren] using h
  | .top, _, _, _ => by simp [Rel]
  | .own _ _ _ _, _, h, _ => by simp [Rel] at h
  | .lst _ _ _, _, _, h => by simpa [Rel, AV.ren] using h
  | .clp _ _ _, _, _, h => by simpa [Rel, AV.ren] using h
  | .rptr _, _, _, h => by simpa [Rel, AV.ren] using h
  | .ref i, v, h1, h2 => by
    simp only [Rel] at h1 ⊢
    cases hc : js.contains i with
    | true =>
      simp only [AV.ren, hc, if_true, Rel] at h2
      exact hA i v hc h2
    | false => exact hB i v hc h1
  | .ptr i o, v, h1, h2 => by
    simp only [Rel] at h1 ⊢
    cases hc : js.contains i with
    | true =>
      simp only [AV.ren, hc, if_true, Rel] at h2
      obtain ⟨u, g, e1, e2, e3⟩ := h2
      exact ⟨u, g, hA i u hc e1, e2, e3⟩
    | false =>
      obtain ⟨u, g, e1, e2, e3⟩ := h1
      exact ⟨u, g, hB i u hc e1, e2, e3⟩
  | .agg cs, v, h1, h2 => by
    simp only [Rel, AV.ren] at h1 h2 ⊢
    obtain ⟨xs, e1, r1⟩ := h1
    obtain ⟨ys, e2, r2⟩ := h2
    rw [e1] at e2
    simp only [Value.agg.injEq] at e2
    have e3 : xs = ys := by simpa using e2
    subst e3
    exact ⟨xs, e1, RelL.mixJ hA hB r1 r2⟩
  | .tup cs, v, h1, h2 => by
    simp only [Rel, AV.ren] at h1 h2 ⊢
    obtain ⟨xs, e1, r1⟩ := h1
    obtain ⟨ys, e2, r2⟩ := h2
    rw [e1] at e2
    simp only [Value.tuple.injEq] at e2
    have e3 : xs = ys := by simpa using e2
    subst e3
    exact ⟨xs, e1, RelL.mixJ hA hB r1 r2⟩
  | .fn f cs, v, h1, h2 => by
    simp only [Rel, AV.ren] at h1 h2 ⊢
    obtain ⟨xs, e1, r1⟩ := h1
    obtain ⟨ys, e2, r2⟩ := h2
    rw [e1] at e2
    simp only [Value.func.injEq, true_and] at e2
    have e3 : xs = ys := by simpa using e2
    subst e3
    exact ⟨xs, e1, RelL.mixJ hA hB r1 r2⟩
theorem RelL.mixJ {w w' : World} {Z Z' : Nat → Prop} {μ μ1 μ2 : List Value} {js : List Nat} (hA : ∀ (i : Nat) u, js.contains i = true → μ1[js.idxOf i]? = some u → μ2[i]? = some u) (hB : ∀ (i : Nat) u, js.contains i = false → μ[i]? = some u → μ2[i]? = some u) :
    ∀ {cs : List AV} {vs : List Value}, RelL w Z μ cs vs → RelL w' Z' μ1 (renL js cs) vs → RelL w' Z' μ2 cs vs
  | [], _, _, h => by simpa [RelL, renL] using h
  | c :: cs, _, h1, h2 => by
    simp only [RelL, renL] at h1 h2 ⊢
    obtain ⟨x, xs, e1, a1, b1⟩ := h1
    obtain ⟨y, ys, e2, a2, b2⟩ := h2
    rw [e1] at e2
    simp only [List.cons.injEq] at e2
    obtain ⟨rfl, rfl⟩ := e2
    exact ⟨x, xs, e1, Rel.mixJ hA hB a1 a2, RelL.mixJ hA hB b1 b2⟩
end

/-- The numbers below n + 1 but k. -/
def insI (k n : Nat) : List Nat := List.range k ++ (List.range (n - k)).map (· + (k + 1))

theorem insI_get {k n j : Nat} (hk : k ≤ n) (hj : j < n) : (insI k n)[j]? = some (if j < k then j else j + 1) := by
  unfold insI
  rcases Nat.lt_or_ge j k with h | h
  · rw [List.getElem?_append_left (by simpa using h)]
    simp [h]
  · rw [List.getElem?_append_right (by simpa using h)]
    simp only [List.length_range, List.getElem?_map]
    rw [List.getElem?_range (by omega)]
    simp only [Option.map_some, if_neg (Nat.not_lt.2 h), Option.some.injEq]
    omega
theorem insI_length {k n : Nat} (hk : k ≤ n) : (insI k n).length = n := by
  unfold insI
  simp
  omega
theorem insI_mem {k n i : Nat} (hk : k ≤ n) (hi : i ≤ n) (hne : i ≠ k) : (insI k n).contains i = true := by
  have : i ∈ insI k n := by
    rcases Nat.lt_or_ge i k with h | h
    · exact List.mem_of_getElem? (i := i) (by rw [insI_get hk (by omega), if_pos h])
    · exact List.mem_of_getElem? (i := i - 1) (by rw [insI_get hk (by omega), if_neg (by omega)]; congr 1; omega)
  simpa using this
theorem insI_nodup {k n : Nat} (hk : k ≤ n) : (insI k n).Nodup := by
  unfold insI
  rw [List.nodup_append]
  refine ⟨List.nodup_range, ?_, ?_⟩
  · rw [List.nodup_iff_pairwise_ne, List.pairwise_map]
    exact List.nodup_range.imp fun h e => h (by omega)
  · intro a ha b hb e
    rw [List.mem_range] at ha
    rw [List.mem_map] at hb
    obtain ⟨c, _, hc⟩ := hb
    omega
theorem insI_idx {k n i : Nat} (hk : k ≤ n) (hc : (insI k n).contains i = true) : (insI k n).idxOf i < n ∧ i = (if (insI k n).idxOf i < k then (insI k n).idxOf i else (insI k n).idxOf i + 1) := by
  have hm : i ∈ insI k n := by simpa using hc
  have hlt := List.idxOf_lt_length_iff.2 hm
  have hlt' : (insI k n).idxOf i < n := by rw [insI_length hk] at hlt; exact hlt
  refine ⟨hlt', ?_⟩
  have h1 := List.getElem_idxOf hlt
  have h2 := insI_get hk hlt'
  rw [List.getElem?_eq_getElem hlt, h1] at h2
  exact Option.some.inj h2
theorem insJ_lo {k m j : Nat} (hj : j < k) : (insJ k m)[j]? = some j := by
  unfold insJ
  rw [List.getElem?_append_left (by simpa using hj)]
  simp [hj]
theorem insJ_at {k m : Nat} : (insJ k m)[k]? = some m := by
  unfold insJ
  rw [List.getElem?_append_right (by simp)]
  simp
theorem insJ_hi {k m j : Nat} (hj : k ≤ j) (hm : j < m) : (insJ k m)[j + 1]? = some j := by
  unfold insJ
  rw [List.getElem?_append_right (by simp; omega)]
  have e : j + 1 - (List.range k).length = (j - k) + 1 := by simp; omega
  rw [e, List.getElem?_cons_succ, List.getElem?_map, List.getElem?_range (by omega)]
  simp
  omega

section
variable {P : Program}

/-- Under a frame that lies at place k. -/
theorem CallX.inF {f : FuncId} {args : List AV} {hp : List AObj} {Φ : AV → List AObj → Prop} (k : Nat) (us2 : List Value) (fr2 : List AV) (hc : CallX P f args hp Φ) (hk : k ≤ hp.length)
    (h1 : renH (insI k hp.length) (insF k us2 fr2 hp) = hp) (h2 : renL (insI k hp.length) (renL (insJ k hp.length) args) = args) (h3 : ∀ r h', Φ r h' → hp.length ≤ h'.length) :
    CallX P f (renL (insJ k hp.length) args) (insF k us2 fr2 hp) fun r h => ∃ res hp', Φ res hp' ∧ r = res.ren (insJ k hp'.length) ∧ h = insF k us2 fr2 hp' := by
  obtain ⟨hen, hc⟩ := hc
  refine ⟨hen, ?_⟩
  intro Z0 F w0 w μ vs us fr hFb hH hvs hus hbel
  have hHl : (insF k us2 fr2 hp).length = hp.length + 1 := by
    unfold insF renH insJ
    simp
    omega
  have hml : μ.length = hp.length + 1 := by rw [hH.len, hHl]
  have hH0 := hH.ren (insI k hp.length) (insI_nodup hk)
  have e0 : ((insI k hp.length).map fun i => ((insF k us2 fr2 hp).getD i .dead).ren (insI k hp.length)) = hp := h1
  rw [e0] at hH0
  have hvs0 := hvs.ren (insI k hp.length)
  rw [h2] at hvs0
  have hn2 : (insF k us2 fr2 hp)[k]? = some (.frame us2 fr2) := by
    unfold insF
    rw [List.getElem?_set_self]
    have : (renH (insJ k hp.length) (hp ++ [.dead])).length = hp.length + 1 := by unfold renH insJ; simp; omega
    omega
  obtain ⟨u, hu⟩ : ∃ u, μ[k]? = some u := ⟨_, List.getElem?_eq_getElem (by omega)⟩
  have hf2 : RelL w (Zone Z0 F w0.heap.size) μ fr2 us2 := hH.obj _ _ u hn2 hu
  have hus0 := (hus.append hf2).ren (insI k hp.length)
  refine (hc Z0 F w0 w _ vs (us ++ us2) _ hFb hH0 hvs0 hus0 hbel).mono ?_
  rintro e w' ⟨v, μ1, F1, res, hp', hΦ, rfl, hF1, hH1, hres, hfr1, hb1⟩
  have h3 := h3 _ _ hΦ
  have hm1 := hH1.len
  have hHd := hH1.addDead u (hH.one _ u hu)
  have hH2 := hHd.ren (insJ k hp'.length) (insJ_nodup (by omega))
  obtain ⟨μ2, hμ2⟩ : ∃ μ2, μ2 = ((insJ k hp'.length).map fun i => (μ1 ++ [u]).getD i (.bool false)) := ⟨_, rfl⟩
  have hA : ∀ (i : Nat) x, (insI k hp.length).contains i = true → μ1[(insI k hp.length).idxOf i]? = some x → μ2[i]? = some x := by
    intro i x hi hx
    obtain ⟨g1, g2⟩ := insI_idx hk hi
    generalize (insI k hp.length).idxOf i = j at g1 g2 hx
    have hj : (insJ k hp'.length)[i]? = some j := by
      split at g2
      · rw [g2]; exact insJ_lo (by assumption)
      · rw [g2]; exact insJ_hi (by omega) (by omega)
    rw [hμ2, List.getElem?_map, hj]
    simp only [Option.map_some, List.getD_eq_getElem?_getD]
    rw [List.getElem?_append_left (List.getElem?_eq_some_iff.1 hx).1, hx]
    rfl
  have hB : ∀ (i : Nat) x, (insI k hp.length).contains i = false → μ[i]? = some x → μ2[i]? = some x := by
    intro i x hi hx
    have hlt := (List.getElem?_eq_some_iff.1 hx).1
    have hin : i = k := by
      refine Classical.byContradiction fun hne => ?_
      have := insI_mem hk (i := i) (by omega) hne
      rw [this] at hi
      cases hi
    subst hin
    rw [hu] at hx
    rw [hμ2, List.getElem?_map, insJ_at]
    simp only [Option.map_some, List.getD_eq_getElem?_getD]
    rw [List.getElem?_append_right (by omega), hm1]
    simpa using hx
  rw [← hμ2] at hH2
  have hall := RelL.mixJ hA hB (hus.append hf2) hfr1
  have hul := hus.length
  have hfr : RelL w' (Zone Z0 F1 w0.heap.size) μ2 fr us := by
    have := hall.take fr.length
    rwa [List.take_left, ← hul, List.take_left] at this
  have hfr2 : RelL w' (Zone Z0 F1 w0.heap.size) μ2 fr2 us2 := by
    have := hall.drop fr.length
    rwa [List.drop_left, ← hul, List.drop_left] at this
  refine ⟨v, μ2, F1, _, _, ⟨res, hp', hΦ, rfl, rfl⟩, rfl, hF1, ?_, ?_, hfr, hb1⟩
  · refine hH2.frameAt ?_ hfr2
    rw [List.getElem?_map, insJ_at]
    simp [AObj.ren]
  · rw [hμ2]
    exact Rel.ren _ (Rel.keep (w := w') (fun _ _ _ => rfl) (fun i u hu => append_old i u hu) hres)
end
section
variable {P : Program}
/-- The same with the objects in another order. -/
theorem CallX.perm {f : FuncId} {args : List AV} {hp : List AObj} {Φ : AV → List AObj → Prop} (js ks : List Nat) (hc : CallX P f args hp Φ)
    (hk : (decide js.Nodup && decide ks.Nodup && decide (js.length = hp.length) && js.all (fun i => decide (i < hp.length)) && ks.all (fun i => decide (i < hp.length)) && (List.range hp.length).all fun i => ks.contains i && decide (js[i]? = some (ks.idxOf i))) = true)
    (h1 : renH ks (renH js hp) = hp) (h2 : renL ks (renL js args) = args) (h3 : ∀ r h', Φ r h' → hp.length ≤ h'.length) :
    CallX P f (renL js args) (renH js hp) fun r h => ∃ res hp', Φ res hp' ∧ r = res.ren (js ++ (List.range (hp'.length - hp.length)).map (· + hp.length)) ∧ h = renH (js ++ (List.range (hp'.length - hp.length)).map (· + hp.length)) hp' := by
  obtain ⟨hen, hc⟩ := hc
  refine ⟨hen, ?_⟩
  simp only [Bool.and_eq_true, decide_eq_true_eq, List.all_eq_true, List.mem_range] at hk
  obtain ⟨⟨⟨⟨⟨k1, k2⟩, k3⟩, k4⟩, k6⟩, k5⟩ := hk
  intro Z0 F w0 w μ vs us fr hFb hH hvs hus hbel
  have hml : μ.length = hp.length := by rw [hH.len]; unfold renH; simp [k3]
  have hH0 := hH.ren ks k2
  have e0 : (ks.map fun i => ((renH js hp).getD i .dead).ren ks) = hp := h1
  rw [e0] at hH0
  have hvs0 := hvs.ren ks
  rw [h2] at hvs0
  have hus0 := hus.ren ks
  refine (hc Z0 F w0 w _ vs us _ hFb hH0 hvs0 hus0 hbel).mono ?_
  rintro e w' ⟨v, μ1, F1, res, hp', hΦ, rfl, hF1, hH1, hres, hfr1, hb1⟩
  have h3 := h3 _ _ hΦ
  have hm1 := hH1.len
  obtain ⟨js', hjs'⟩ : ∃ js', js' = js ++ (List.range (hp'.length - hp.length)).map (· + hp.length) := ⟨_, rfl⟩
  have hnd : js'.Nodup := by
    rw [hjs', List.nodup_append]
    refine ⟨k1, ?_, ?_⟩
    · rw [List.nodup_iff_pairwise_ne, List.pairwise_map]
      exact List.nodup_range.imp fun h e => h (by omega)
    · intro a ha b hb e
      rw [List.mem_map] at hb
      obtain ⟨c, _, hc⟩ := hb
      have := k4 a ha
      omega
  have hH2 := hH1.ren js' hnd
  refine ⟨v, _, F1, res.ren js', renH js' hp', ⟨res, hp', hΦ, by rw [hjs'], by rw [hjs']⟩, rfl, hF1, hH2, Rel.ren js' hres, RelL.mixJ ?_ ?_ hus hfr1, hb1⟩
  · intro i x hi hx
    have hlt : i < hp.length := k6 i (by simpa using hi)
    have h5 := (k5 i hlt).2
    have hj' : js'[i]? = some (ks.idxOf i) := by
      rw [hjs', List.getElem?_append_left (by omega)]; exact h5
    rw [List.getElem?_map, hj']
    simp only [Option.map_some, List.getD_eq_getElem?_getD, hx, Option.getD_some]
  · intro i x hi hx
    have hlt := (List.getElem?_eq_some_iff.1 hx).1
    have := (k5 i (by omega)).1
    rw [this] at hi
    cases hi
end

/-! ### A caller's frame, of which nothing is known, stays as it is -/
theorem fit_idx {n i : Nat} {js : List Nat} (hjs : js.take n = List.range n) (hi : i < n) : js.contains i = true ∧ js.idxOf i = i := by
  have e : js = List.range n ++ js.drop n := by rw [← hjs, List.take_append_drop]
  have hm : i ∈ List.range n := List.mem_range.2 hi
  refine ⟨?_, ?_⟩
  · have : i ∈ js := by rw [e]; exact List.mem_append_left _ hm
    simpa using this
  · rw [e, List.idxOf_append, if_pos hm, idx_range hi]
mutual
theorem Rel.fitR {w : World} {Z : Nat → Prop} {μ : List Value} {js : List Nat} (hjs : js.take μ.length = List.range μ.length) : ∀ {c : AV} {v : Value}, Rel w Z μ c v → c.ren js = c
  | .int _ _, _, _ => rfl
  | .bool _, _, _ => rfl
  | .str _, _, _ => rfl
  | .nil, _, _ => rfl
  | .top, _, _ => rfl
  | .own _ _ _ _, _, _ => rfl
  | .lst _ _ _, _, _ => rfl
  | .clp _ _ _, _, _ => rfl
  | .rptr _, _, _ => rfl
  | .ref i, v, h => by
    simp only [Rel] at h
    obtain ⟨h1, h2⟩ := fit_idx hjs (List.getElem?_eq_some_iff.1 h).1
    simp only [AV.ren, h1, h2, if_true]
  | .ptr i o, v, h => by
    simp only [Rel] at h
    obtain ⟨u, g, h, _⟩ := h
    obtain ⟨h1, h2⟩ := fit_idx hjs (List.getElem?_eq_some_iff.1 h).1
    simp only [AV.ren, h1, h2, if_true]
  | .agg cs, v, h => by
    simp only [Rel] at h
    obtain ⟨xs, _, h⟩ := h
    simp only [AV.ren, RelL.fitR hjs h]
  | .tup cs, v, h => by
    simp only [Rel] at h
    obtain ⟨xs, _, h⟩ := h
    simp only [AV.ren, RelL.fitR hjs h]
  | .fn f cs, v, h => by
    simp only [Rel] at h
    obtain ⟨xs, _, h⟩ := h
    simp only [AV.ren, RelL.fitR hjs h]
theorem RelL.fitR {w : World} {Z : Nat → Prop} {μ : List Value} {js : List Nat} (hjs : js.take μ.length = List.range μ.length) : ∀ {cs : List AV} {vs : List Value}, RelL w Z μ cs vs → renL js cs = cs
  | [], _, _ => rfl
  | c :: cs, _, h => by
    simp only [RelL] at h
    obtain ⟨x, xs, _, h1, h2⟩ := h
    simp only [renL, Rel.fitR hjs h1, RelL.fitR hjs h2]
end
mutual
theorem Rel.fitK {w : World} {Z : Nat → Prop} {μ : List Value} {k : Nat} (hk : μ.length ≤ k) : ∀ {c : AV} {v : Value}, Rel w Z μ c v → c.kill k = c
  | .int _ _, _, _ => rfl
  | .bool _, _, _ => rfl
  | .str _, _, _ => rfl
  | .nil, _, _ => rfl
  | .top, _, _ => rfl
  | .own _ _ _ _, _, _ => rfl
  | .lst _ _ _, _, _ => rfl
  | .clp _ _ _, _, _ => rfl
  | .rptr _, _, _ => rfl
  | .ref i, v, h => by
    simp only [Rel] at h
    have := (List.getElem?_eq_some_iff.1 h).1
    simp only [AV.kill]
    rw [if_neg (by omega)]
  | .ptr i o, v, h => by
    simp only [Rel] at h
    obtain ⟨u, g, h, _⟩ := h
    have := (List.getElem?_eq_some_iff.1 h).1
    simp only [AV.kill]
    rw [if_neg (by omega)]
  | .agg cs, v, h => by
    simp only [Rel] at h
    obtain ⟨xs, _, h⟩ := h
    simp only [AV.kill, RelL.fitK hk h]
  | .tup cs, v, h => by
    simp only [Rel] at h
    obtain ⟨xs, _, h⟩ := h
    simp only [AV.kill, RelL.fitK hk h]
  | .fn f cs, v, h => by
    simp only [Rel] at h
    obtain ⟨xs, _, h⟩ := h
    simp only [AV.kill, RelL.fitK hk h]
theorem RelL.fitK {w : World} {Z : Nat → Prop} {μ : List Value} {k : Nat} (hk : μ.length ≤ k) : ∀ {cs : List AV} {vs : List Value}, RelL w Z μ cs vs → killL k cs = cs
  | [], _, _ => rfl
  | c :: cs, _, h => by
    simp only [RelL] at h
    obtain ⟨x, xs, _, h1, h2⟩ := h
    simp only [killL, Rel.fitK hk h1, RelL.fitK hk h2]
end

mutual
theorem Rel.fitF {w : World} {Z : Nat → Prop} {μ : List Value} {k : Nat} {r : AV} (hk : μ.length ≤ k) : ∀ {c : AV} {v : Value}, Rel w Z μ c v → frzV k r c = c
  | .int _ _, _, _ => rfl
  | .bool _, _, _ => rfl
  | .str _, _, _ => rfl
  | .nil, _, _ => rfl
  | .top, _, _ => rfl
  | .own _ _ _ _, _, _ => rfl
  | .lst _ _ _, _, _ => rfl
  | .clp _ _ _, _, _ => rfl
  | .rptr _, _, _ => rfl
  | .ref i, v, h => by
    simp only [Rel] at h
    have := (List.getElem?_eq_some_iff.1 h).1
    simp only [frzV]
    rw [if_neg (by omega)]
  | .ptr i o, v, h => by
    simp only [Rel] at h
    obtain ⟨u, g, h, _⟩ := h
    have := (List.getElem?_eq_some_iff.1 h).1
    simp only [frzV]
    rw [if_neg (by omega)]
  | .agg cs, v, h => by
    simp only [Rel] at h
    obtain ⟨xs, _, h⟩ := h
    simp only [frzV, RelL.fitF hk h]
  | .tup cs, v, h => by
    simp only [Rel] at h
    obtain ⟨xs, _, h⟩ := h
    simp only [frzV, RelL.fitF hk h]
  | .fn f cs, v, h => by
    simp only [Rel] at h
    obtain ⟨xs, _, h⟩ := h
    simp only [frzV, RelL.fitF hk h]
theorem RelL.fitF {w : World} {Z : Nat → Prop} {μ : List Value} {k : Nat} {r : AV} (hk : μ.length ≤ k) : ∀ {cs : List AV} {vs : List Value}, RelL w Z μ cs vs → frzL k r cs = cs
  | [], _, _ => rfl
  | c :: cs, _, h => by
    simp only [RelL] at h
    obtain ⟨x, xs, _, h1, h2⟩ := h
    simp only [frzL, Rel.fitF hk h1, RelL.fitF hk h2]
end

/-- Nothing in fr names an object from n on. -/
structure Fits (n : Nat) (fr : List AV) : Prop where
  ren : ∀ js : List Nat, js.take n = List.range n → renL js fr = fr
  kill : ∀ i, n ≤ i → killL i fr = fr
  frz : ∀ i r, n ≤ i → frzL i r fr = fr

section
variable {rd : Option Nat} {P : Program} {m : M} {Q : Exit → St → Prop}

theorem CallX.ofF {f : FuncId} {fn : Func} {c : Code} {args : List AV} {hp : List AObj} {Φ : AV → List AObj → Prop} (hf : P.funcs[f]? = some fn) (hb : fn.body = some c) (hnm : (fn.name == "runtime.NumGoroutine") = false)
    (h : ∀ us fr, Fits hp.length fr → Runs none P ⟨[.code c], ⟨frameOf fn.ntmps args, hp ++ [.frame us fr]⟩⟩ (retX P fn hp.length us fr Φ)) : CallX P f args hp Φ := by
  refine ⟨enters_of hf hnm (by rw [hb]; rfl), ?_⟩
  intro Z0 F w0 w μ vs us fr hFb hH hvs hus hbel
  have hml := hH.len
  have hfit : Fits hp.length fr := ⟨fun js hjs => RelL.fitR (by rw [hml]; exact hjs) hus, fun i hi => RelL.fitK (by rw [hml]; exact hi) hus, fun i r hi => RelL.fitF (by rw [hml]; exact hi) hus⟩
  · have hlen := hvs.length
    refine calls_of_wpIn hf hb ?_
    have hS : Sim Z0 w0 ⟨frameOf fn.ntmps args, hp ++ [.frame us fr]⟩ { tmps := vs.toArray ++ Array.replicate (fn.ntmps - vs.toArray.size) undef, defers := [] } w := by
      refine ⟨μ ++ [.bool false], F, hFb, hH.extend1 (zone_new hbel.size hFb) (Below.refl _ _) ?_ (fun g hg => by simp [blk] at hg) rfl, ?_, .inl rfl, hbel⟩
      · exact RelL.keep (w := w) (fun _ _ _ => rfl) (fun i u hu => append_old i u hu) hus
      · simp only [Array.toList_append, Array.toList_replicate, List.size_toArray, hlen, frameOf]
        refine RelL.append (RelL.keep (w := w) (fun _ _ _ => rfl) (fun i u hu => append_old i u hu) hvs) ?_
        generalize fn.ntmps - args.length = n
        induction n with
        | zero => exact RelL.nil
        | succ n ih => exact RelL.cons (by simp [Rel]) ih
    have hrun2 := h us fr hfit
    simp only [runs_iff] at hrun2
    simp only [RunsK] at hrun2
    refine wpIn_mono (hrun2 Z0 w0 _ w hS) ?_
    have fin : ∀ (e : Exit) (st' : St) (a' : Act) (w' : World), retX P fn hp.length us fr Φ e st' → Sim Z0 w0 st' a' w' → a'.defers = [] ∧ ∃ v, (results fn a'.tmps).run P w' = .ok v w' ∧ ∃ v' μ' F' res hp', Φ res hp' ∧ Ending.returned v = .returned v' ∧ (∀ b, F' b → w0.heap.size ≤ b ∧ b < w'.heap.size) ∧ HRel w' (Zone Z0 F' w0.heap.size) w0.heap.size μ' hp' ∧ Rel w' (Zone Z0 F' w0.heap.size) μ' res v' ∧ RelL w' (Zone Z0 F' w0.heap.size) μ' fr us ∧ Below w0.heap.size w0 w' := by
      rintro e st' a' w' ⟨res, hp', hΦ, _, hres, hfr, hh⟩ ⟨μ', F', hFb', hH', hF', hd', hbel'⟩
      obtain ⟨x, h1, h2⟩ := resIn_run hH' hF' hres
      unfold frameAt at hfr
      split at hfr
      · rename_i us2 fr2 hi
        cases hfr
        have hil : hp.length < μ'.length := by rw [hH'.len]; exact (List.getElem?_eq_some_iff.1 hi).1
        have hfrr : RelL w' (Zone Z0 F' w0.heap.size) μ' fr us := hH'.obj _ _ _ hi (List.getElem?_eq_getElem hil)
        exact ⟨hd'.none (resIn_mark hres), x, h1, x, μ', F', res, hp', hΦ, rfl, hFb', hh ▸ hH'.bury _, h2, hfrr, hbel'⟩
      · cases hfr
    rintro e a' w' ⟨st', hq, hS'⟩
    cases e with
    | normal => exact fin _ st' a' w' hq hS'
    | ret => exact fin _ st' a' w' hq hS'
    | exit id => (obtain ⟨_, _, _, hq, _⟩ := hq; exact absurd hq (by simp))
    | goto l => (obtain ⟨_, _, _, hq, _⟩ := hq; exact absurd hq (by simp))
    | panic ch => (obtain ⟨_, _, _, hq, _⟩ := hq; exact absurd hq (by simp))
    | outgrown => (obtain ⟨_, _, _, hq, _⟩ := hq; exact absurd hq (by simp))

/-- A caller's frame in which an object of the call's own has been forgotten. -/
theorem R.kfix (n : Nat) {us : List Value} {fr fr2 : List AV} (h0 : m.st.hp[n]? = some (.frame us fr2)) (hk : fr2 = fr) (h' : Runs rd P ⟨m.ks, ⟨m.st.fr, m.st.hp.set n (.frame us fr)⟩⟩ Q) : Runs rd P m Q := by
  subst hk
  obtain ⟨ks, ⟨f, hp⟩⟩ := m
  have e : hp.set n (.frame us fr2) = hp := by
    refine List.ext_getElem? fun i => ?_
    rw [List.getElem?_set]
    split
    · rename_i hi
      subst hi
      simp only at h0
      have hlt := (List.getElem?_eq_some_iff.1 h0).1
      rw [if_pos hlt, h0]
    · rfl
  simp only [e] at h'
  exact h'
theorem canonF {ks : List Nat} {js : List Nat} {st s' : St} {fr : List AV} (S : List AV → St) (hfit : renL js fr = fr) (h1 : canon ks (some js) st = S (renL js fr)) (h2 : S fr = s') : canon ks (some js) st = s' := by rw [h1, hfit, h2]
end
/-! ### A box seen as a row of one element, while a call does not look at it -/
mutual
theorem Rel.mixK {w w' : World} {Z Z' : Nat → Prop} {μ μ1 μ2 : List Value} {j : Nat} (hA : ∀ (i : Nat) u, i ≠ j → μ1[i]? = some u → μ2[i]? = some u) (hB : ∀ u, μ[j]? = some u → μ2[j]? = some u) :
    ∀ {c : AV} {v : Value}, Rel w Z μ c v → Rel w' Z' μ1 (c.kill j) v → Rel w' Z' μ2 c v
  | .int _ _, _, _, h => by simpa [Rel, AV.kill] using h
  | .bool _, _, _, h => by simpa [Rel, AV.kill] using h
  | .str _, _, _, h => by simpa [Rel, AV.kill] using h
  | .nil, _, _, h => by simpa [Rel, AV.kill] using h
  | .top, _, _, _ => by simp [Rel]
  | .own _ _ _ _, _, h, _ => by simp [Rel] at h
  | .lst _ _ _, _, _, h => by simpa [Rel, AV.kill] using h
  | .clp _ _ _, _, _, h => by simpa [Rel, AV.kill] using h
  | .rptr _, _, _, h => by simpa [Rel, AV.kill] using h
  | .ref i, v, h1, h2 => by
    simp only [Rel] at h1 ⊢
    by_cases hi : i = j
    · subst hi; exact hB v h1
    · simp only [AV.kill, if_neg hi, Rel] at h2
      exact hA i v hi h2
  | .ptr i o, v, h1, h2 => by
    simp only [Rel] at h1 ⊢
    by_cases hi : i = j
    · subst hi
      obtain ⟨u, g, e1, e2, e3⟩ := h1
      exact ⟨u, g, hB u e1, e2, e3⟩
    · simp only [AV.kill, if_neg hi, Rel] at h2
      obtain ⟨u, g, e1, e2, e3⟩ := h2
      exact ⟨u, g, hA i u hi e1, e2, e3⟩
  | .agg cs, v, h1, h2 => by
    simp only [Rel, AV.kill] at h1 h2 ⊢
    obtain ⟨xs, e1, r1⟩ := h1
    obtain ⟨ys, e2, r2⟩ := h2
    rw [e1] at e2
    simp only [Value.agg.injEq] at e2
    have e3 : xs = ys := by simpa using e2
    subst e3
    exact ⟨xs, e1, RelL.mixK hA hB r1 r2⟩
  | .tup cs, v, h1, h2 => by
    simp only [Rel, AV.kill] at h1 h2 ⊢
    obtain ⟨xs, e1, r1⟩ := h1
    obtain ⟨ys, e2, r2⟩ := h2
    rw [e1] at e2
    simp only [Value.tuple.injEq] at e2
    have e3 : xs = ys := by simpa using e2
    subst e3
    exact ⟨xs, e1, RelL.mixK hA hB r1 r2⟩
  | .fn f cs, v, h1, h2 => by
    simp only [Rel, AV.kill] at h1 h2 ⊢
    obtain ⟨xs, e1, r1⟩ := h1
    obtain ⟨ys, e2, r2⟩ := h2
    rw [e1] at e2
    simp only [Value.func.injEq, true_and] at e2
    have e3 : xs = ys := by simpa using e2
    subst e3
    exact ⟨xs, e1, RelL.mixK hA hB r1 r2⟩
theorem RelL.mixK {w w' : World} {Z Z' : Nat → Prop} {μ μ1 μ2 : List Value} {j : Nat} (hA : ∀ (i : Nat) u, i ≠ j → μ1[i]? = some u → μ2[i]? = some u) (hB : ∀ u, μ[j]? = some u → μ2[j]? = some u) :
    ∀ {cs : List AV} {vs : List Value}, RelL w Z μ cs vs → RelL w' Z' μ1 (killL j cs) vs → RelL w' Z' μ2 cs vs
  | [], _, _, h => by simpa [RelL, killL] using h
  | c :: cs, _, h1, h2 => by
    simp only [RelL, killL] at h1 h2 ⊢
    obtain ⟨x, xs, e1, a1, b1⟩ := h1
    obtain ⟨y, ys, e2, a2, b2⟩ := h2
    rw [e1] at e2
    simp only [List.cons.injEq] at e2
    obtain ⟨rfl, rfl⟩ := e2
    exact ⟨x, xs, e1, Rel.mixK hA hB a1 a2, RelL.mixK hA hB b1 b2⟩
end

/-- One object changes its look and its value, in the same block; the others do not name it. -/
theorem HRel.swap {w : World} {Z : Nat → Prop} {B j : Nat} {μ : List Value} {hp : List AObj} {u u' : Value} {o o' : AObj} (h : HRel w Z B μ hp) (hj : hp[j]? = some o) (hu : μ[j]? = some u) (ha : o.alive = true)
    (hblk : blk u' = blk u) (hone : u'.oneCell' = true) (hk : ∀ i oi, i ≠ j → hp[i]? = some oi → oi.kill j = oi) (hnew : ObjRel w Z (μ.set j u') B u' o') : HRel w Z B (μ.set j u') (hp.set j o') := by
  have hjl := (List.getElem?_eq_some_iff.1 hj).1
  have hul := (List.getElem?_eq_some_iff.1 hu).1
  have get : ∀ (i : Nat) oi ui, (hp.set j o')[i]? = some oi → (μ.set j u')[i]? = some ui → (i = j ∧ oi = o' ∧ ui = u') ∨ (i ≠ j ∧ hp[i]? = some oi ∧ μ[i]? = some ui) := by
    intro i oi ui h1 h2
    by_cases e : j = i
    · subst e
      rw [List.getElem?_set_self hjl] at h1
      rw [List.getElem?_set_self hul] at h2
      simp at h1 h2
      exact .inl ⟨rfl, h1.symm, h2.symm⟩
    · rw [List.getElem?_set_ne e] at h1 h2
      exact .inr ⟨fun h => e h.symm, h1, h2⟩
  refine ⟨by simp [h.len], fun i oi ui g h1 ha' h2 hg => ?_, fun i x hx => ?_, fun i oi ui h1 h2 => ?_, fun i k oi ok ui uk g hne h1 h2 a1 a2 m1 m2 b1 b2 => ?_⟩
  · rcases get i oi ui h1 h2 with ⟨rfl, rfl, rfl⟩ | ⟨_, e1, e2⟩
    · exact h.zone _ o u g hj ha hu (hblk ▸ hg)
    · exact h.zone i oi ui g e1 ha' e2 hg
  · by_cases e : j = i
    · subst e
      rw [List.getElem?_set_self hul] at hx
      simp at hx
      rw [← hx]; exact hone
    · rw [List.getElem?_set_ne e] at hx
      exact h.one i x hx
  · rcases get i oi ui h1 h2 with ⟨rfl, rfl, rfl⟩ | ⟨hne, e1, e2⟩
    · exact hnew
    · have := (h.obj i oi ui e1 e2).keep_kill (μ' := μ.set j u') j (fun _ _ _ => rfl) (fun k x hk hx => by rw [List.getElem?_set_ne (fun e => hk e.symm)]; exact hx) (fun _ _ => rfl)
      rwa [hk i oi hne e1] at this
  · rcases get i oi ui h1 m1 with ⟨rfl, rfl, rfl⟩ | ⟨hi, e1, e2⟩ <;> rcases get k ok uk h2 m2 with ⟨rfl, rfl, rfl⟩ | ⟨hk', e3, e4⟩
    · exact hne rfl
    · exact h.sep _ k o ok u uk g (fun e => hk' e.symm) hj e3 ha a2 hu e4 (hblk ▸ b1) b2
    · exact h.sep i _ oi o ui u g hi e1 hj a1 ha e2 hu b1 (hblk ▸ b2)
    · exact h.sep i k oi ok ui uk g hne e1 e3 a1 a2 e2 e4 b1 b2

theorem CallX.box {P : Program} {f : FuncId} {args : List AV} {hp : List AObj} {Φ : AV → List AObj → Prop} (j : Nat) (t : TypeId) (cs : List AV) (hc : CallX P f args hp Φ) (hj : hp[j]? = some (.list t cs.length 1 cs)) (hl : leafyL cs = true)
    (h1 : hp.map (AObj.kill j) = hp) (h2 : killL j args = args) (h3 : ∀ r h', Φ r h' → h'[j]? = some (.list t cs.length 1 cs) ∧ h'.map (AObj.kill j) = h' ∧ r.kill j = r) :
    CallX P f args (hp.set j (.box t cs)) fun r h => ∃ hp', Φ r hp' ∧ h = hp'.set j (.box t cs) := by
  obtain ⟨hen, hc⟩ := hc
  refine ⟨hen, ?_⟩
  intro Z0 F w0 w μ vs us fr hFb hH hvs hus hbel
  have hjl := (List.getElem?_eq_some_iff.1 hj).1
  have kof : ∀ {l : List AObj}, l.map (AObj.kill j) = l → ∀ (i : Nat) (oi : AObj), l[i]? = some oi → oi.kill j = oi := by
    intro l hl i oi hi
    have := congrArg (fun l : List AObj => l[i]?) hl
    simp only [List.getElem?_map, hi, Option.map_some, Option.some.injEq] at this
    exact this
  have hbj : (hp.set j (.box t cs))[j]? = some (.box t cs) := List.getElem?_set_self hjl
  obtain ⟨u, hu⟩ : ∃ u, μ[j]? = some u := ⟨_, List.getElem?_eq_getElem (by rw [hH.len, List.length_set]; exact hjl)⟩
  have hul := (List.getElem?_eq_some_iff.1 hu).1
  obtain ⟨g, xs, rfl, hBg, hg, hr⟩ := hH.obj j _ u hbj hu
  have hr0 : RelL w (Zone Z0 F w0.heap.size) [] cs xs := RelL.leafy hl hr
  have hxl := hr0.length
  obtain ⟨u', hu'⟩ : ∃ u', u' = Value.slice (some ⟨g, 0, none⟩) 1 1 := ⟨_, rfl⟩
  have hset : ((hp.set j (.box t cs)).set j (.list t cs.length 1 cs)) = hp := by
    rw [List.set_set]
    refine List.ext_getElem? fun i => ?_
    rw [List.getElem?_set]
    split
    · rename_i e
      subst e
      exact hj.symm
    · rfl
  have hH0 : HRel w (Zone Z0 F w0.heap.size) w0.heap.size (μ.set j u') hp := by
    have := hH.swap (u' := u') (o' := .list t cs.length 1 cs) hbj hu rfl (by rw [hu']; rfl) (by rw [hu']; rfl) (fun i oi hne hi => kof h1 i oi (by rw [List.getElem?_set_ne (fun e => hne e.symm)] at hi; exact hi)) ⟨xs, ⟨by rw [hxl, Nat.one_mul], .inr ⟨g, 1, xs.toArray, hu', hBg, hg, Nat.le_refl _, by decide, by simp [hxl], by simp [← hxl]⟩⟩, hr0⟩
    rwa [hset] at this
  have hm : ∀ (i : Nat) (x : Value), i ≠ j → μ[i]? = some x → (μ.set j u')[i]? = some x := fun i x hne hx => by rw [List.getElem?_set_ne (fun e => hne e.symm)]; exact hx
  have hvs0 := RelL.keep_kill (w := w) (w' := w) j (fun _ _ _ => rfl) hm hvs
  rw [h2] at hvs0
  have hus0 := RelL.keep_kill (w := w) (w' := w) j (fun _ _ _ => rfl) hm hus
  have hrefj : RelL w (Zone Z0 F w0.heap.size) (μ.set j u') [.ref j] [u'] := RelL.cons (by simp only [Rel]; rw [List.getElem?_set_self hul]) RelL.nil
  refine (hc Z0 F w0 w _ vs (us ++ [u']) _ hFb hH0 hvs0 (hus0.append hrefj) hbel).mono ?_
  rintro e w' ⟨v, μ1, F1, res, hp', hΦ, rfl, hF1, hH1, hres, hfr1, hb1⟩
  obtain ⟨k1, k2, k3⟩ := h3 _ _ hΦ
  have hlen1 := hus0.length
  have hfrA : RelL w' (Zone Z0 F1 w0.heap.size) μ1 (killL j fr) us := by
    have := hfr1.take (killL j fr).length
    rwa [List.take_left, ← hlen1, List.take_left] at this
  have hrj : RelL w' (Zone Z0 F1 w0.heap.size) μ1 [.ref j] [u'] := by
    have := hfr1.drop (killL j fr).length
    rwa [List.drop_left, ← hlen1, List.drop_left] at this
  have hm1 : μ1[j]? = some u' := by
    simp only [RelL, Rel] at hrj
    obtain ⟨x, _, e1, e2, _⟩ := hrj
    simp only [List.cons.injEq] at e1
    rw [e1.1]; exact e2
  have hjl1 := (List.getElem?_eq_some_iff.1 hm1).1
  obtain ⟨xs1, hown, hr1⟩ := hH1.obj j _ u' k1 hm1
  have hcell : w0.heap.size ≤ g ∧ w'.heap[g]? = some (.cells xs1.toArray t (0, 0)) := by
    rcases hown.2 with ⟨e1, _⟩ | ⟨g', cap, cur, e1, e2, e3, e4, e5, e6, e7⟩
    · rw [hu'] at e1; cases e1
    · rw [hu'] at e1
      simp only [Value.slice.injEq, Option.some.injEq, Addr.mk.injEq, true_and, and_true] at e1
      obtain ⟨rfl, rfl⟩ := e1
      refine ⟨e2, ?_⟩
      have : cur = xs1.toArray := by
        apply Array.toList_inj.1
        rw [← e7, List.take_of_length_le (by simp [e6])]
      rw [e3, this]
  refine ⟨v, μ1.set j (.pointer (some ⟨g, 0, none⟩)), F1, res, _, ⟨hp', hΦ, rfl⟩, rfl, hF1, ?_, ?_, ?_, hb1⟩
  · exact hH1.swap k1 hm1 rfl (by rw [hu']; rfl) rfl (fun i oi _ hi => kof k2 i oi hi) ⟨g, xs1, rfl, hcell.1, hcell.2, hr1.lift⟩
  · have := Rel.keep_kill (w := w') (w' := w') (μ' := μ1.set j (.pointer (some ⟨g, 0, none⟩))) j (fun _ _ _ => rfl) (fun i x hne hx => by rw [List.getElem?_set_ne (fun e => hne e.symm)]; exact hx) hres
    rwa [k3] at this
  · refine RelL.mixK ?_ ?_ hus hfrA
    · intro i x hne hx
      rw [List.getElem?_set_ne (fun e => hne e.symm)]; exact hx
    · intro x hx
      rw [hu] at hx
      rw [List.getElem?_set_self hjl1]
      exact hx
/-! ### The address of a field may come first -/
section
variable {P : Program} {m : M} {Q : Exit → St → Prop}
def faAt (P : Program) (m : M) (i : Nat) : Option AV :=
  match m.ks with
  | .any ops listed (_ + 1) :: _ => match ops[i]? with
    | some o => match o.op with
      | .fieldAddr s x f => if o.guard.isNone && Region.noSelect ops && Region.free .any ops listed i && (Region.ready .any ops listed).contains i then (match ev m.st.fr x, fieldB P s f with
        | .ptr j q, some (off, k) => if k = 0 then none else some (.ptr j (q + off))
        | _, _ => none) else none
      | _ => none
    | none => none
  | _ => none

theorem R.anyA (i : Nat) (v : AV) (h : faAt P m i = some v) (np : NoPanic Q) (h' : Runs none P (exM i v m) Q) : Runs none P m Q := by
  obtain ⟨ks, ⟨fr, hp⟩⟩ := m
  simp only [runs_iff] at h' ⊢
  unfold faAt at h
  simp only at h
  split at h
  · rename_i ops listed n ks'
    split at h
    · rename_i o ho
      split at h
      · rename_i s x f hx
        split at h
        · rename_i hc
          simp only [Bool.and_eq_true] at hc
          obtain ⟨⟨⟨hg, hs⟩, hf⟩, hr⟩ := hc
          split at h
          · rename_i j q off k hcs hfb
            split at h
            · cases h
            · rename_i hk
              simp only [Option.some.injEq] at h
              subst h
              simp only [exM, ho, RunsK] at h' ⊢
              intro Z0 w0 a w hS
              have hW : Region.wanted o (yielded ops a.tmps) = true := by
                unfold Region.wanted
                rw [Option.isNone_iff_eq_none.1 hg]
              have hrun : ∃ u, ∀ w, (execOp a.eval o).run P w = .ok (.value u) w := by
                obtain ⟨μ, F, _, _, hFr, _, _⟩ := hS
                have h1 := ev_rel hFr x
                rw [hcs] at h1
                simp only [Rel] at h1
                obtain ⟨u, g, hu, hg', h2⟩ := h1
                refine ⟨.pointer (some ((⟨g, q, none⟩ : Addr).add off)), fun w => ?_⟩
                unfold execOp
                rw [hx]
                simp [h2, run_fieldAt hfb hk w] <;> rfl
              obtain ⟨u, hrun⟩ := hrun
              have hw' : WantedA ops o fr := wantedE_true (by unfold wantedE; rw [Option.isNone_iff_eq_none.1 hg])
              have h1 := StepR.sound (rd := none) (K := fun a' w' => Sim Z0 w0 ⟨putF fr o.dst (.ptr j (q + off)), hp⟩ a' w') (Q := fun _ _ _ => True) (st' := ⟨putF fr o.dst (.ptr j (q + off)), hp⟩) (by simpa using StepR.eff (P := P) (st := ⟨fr, hp⟩) hw' (v := .ptr j (q + off)) (news := []) (by rw [hx]; exact EffR.fieldAddr j q off k hcs hfb hk)) hS (fun _ _ h => h)
              rw [if_pos hW] at h1
              unfold Oper.wpIn at h1
              have h1 := h1.2
              rw [show (Fc none).round = none from rfl, Oper.semAt_none, hrun w] at h1
              simp only [Oper.uponIn] at h1
              exact wpAnyIn_take rfl ho hs hf hr (fun c a w ⟨st', hq, _⟩ => absurd (runsK_panic ks' st' hq) (np c st')) ⟨.inl ⟨hW, hrun⟩, fun w => by unfold Oper.about; rw [hx]⟩ (h' Z0 w0 _ w h1)
          · cases h
        · cases h
      · cases h
    · cases h
  · cases h
theorem np_retX (P : Program) (fn : Func) (n : Nat) (us : List Value) (fr : List AV) (Φ : AV → List AObj → Prop) : NoPanic (retX P fn n us fr Φ) := fun _ _ h => by
  obtain ⟨_, _, _, h⟩ := h
  simp [retS] at h
end
/-! ### Sums that may come first -/
section
variable {P : Program} {m : M} {Q : Exit → St → Prop}
def inAt (m : M) (i : Nat) : Option AV :=
  match m.ks with
  | .any ops listed (_ + 1) :: _ => match ops[i]? with
    | some o => match o.op with
      | .binOp .add _ x y _ => if o.guard.isNone && Region.noSelect ops && Region.free .any ops listed i && (Region.ready .any ops listed).contains i then (match ev m.st.fr x, ev m.st.fr y with
        | .int k a, .int k' b => if k = k' then some (.int k (k.wrap (a + b))) else none
        | _, _ => none) else none
      | _ => none
    | none => none
  | _ => none

theorem R.anyI (i : Nat) (v : AV) (h : inAt m i = some v) (np : NoPanic Q) (h' : Runs none P (exM i v m) Q) : Runs none P m Q := by
  obtain ⟨ks, ⟨fr, hp⟩⟩ := m
  simp only [runs_iff] at h' ⊢
  unfold inAt at h
  simp only at h
  split at h
  · rename_i ops listed n ks'
    split at h
    · rename_i o ho
      split at h
      · rename_i t x y ty hx
        split at h
        · rename_i hc
          simp only [Bool.and_eq_true] at hc
          obtain ⟨⟨⟨hg, hs⟩, hf⟩, hr⟩ := hc
          split at h
          · rename_i k a k' b h1 h2
            split at h
            · rename_i hk
              subst hk
              simp only [Option.some.injEq] at h
              subst h
              simp only [exM, ho, RunsK] at h' ⊢
              intro Z0 w0 ac w hS
              have hW : Region.wanted o (yielded ops ac.tmps) = true := by
                unfold Region.wanted
                rw [Option.isNone_iff_eq_none.1 hg]
              have hrun : ∃ u, ∀ w, (execOp ac.eval o).run P w = .ok (.value u) w := by
                obtain ⟨μ, F, _, _, hFr, _, _⟩ := hS
                have e1 := rel_int (h1 ▸ ev_rel hFr x)
                have e2 := rel_int (h2 ▸ ev_rel hFr y)
                refine ⟨.int k (k.wrap (a + b)), fun w => ?_⟩
                unfold execOp
                rw [hx]
                simp [e1, e2, eqGuard_at_int, binOp_add, Op.intArith] <;> rfl
              obtain ⟨u, hrun⟩ := hrun
              have hw' : WantedA ops o fr := wantedE_true (by unfold wantedE; rw [Option.isNone_iff_eq_none.1 hg])
              have h1' := StepR.sound (rd := none) (K := fun a' w' => Sim Z0 w0 ⟨putF fr o.dst (.int k (k.wrap (a + b))), hp⟩ a' w') (Q := fun _ _ _ => True) (st' := ⟨putF fr o.dst (.int k (k.wrap (a + b))), hp⟩) (by simpa using StepR.eff (P := P) (st := ⟨fr, hp⟩) hw' (v := .int k (k.wrap (a + b))) (news := []) (by rw [hx]; exact EffR.bin k a b h1 h2 rfl)) hS (fun _ _ h => h)
              rw [if_pos hW] at h1'
              unfold Oper.wpIn at h1'
              have h1' := h1'.2
              rw [show (Fc none).round = none from rfl, Oper.semAt_none, hrun w] at h1'
              simp only [Oper.uponIn] at h1'
              exact wpAnyIn_take rfl ho hs hf hr (fun c a w ⟨st', hq, _⟩ => absurd (runsK_panic ks' st' hq) (np c st')) ⟨.inl ⟨hW, hrun⟩, fun w => by unfold Oper.about; rw [hx]⟩ (h' Z0 w0 _ w h1')
            · cases h
          · cases h
        · cases h
      · cases h
    · cases h
  · cases h

/-! ### One element is taken out of a row: append(x[:j], x[j+1:]...) -/
theorem AnyQ.del {ops : Array Oper} {listed : Array Bool} {n : Nat} {fr : List AV} {hp : List AObj} {R : Exit → St → Prop} {i1 i2 i3 : Nat} {o1 o2 o3 : Oper} {t d1 d2 i el s by_ N j : Nat} {k1 k2 : IntKind} {x y hi lo : Operand} {cs zs : List AV}
    (np : ∀ c st, ¬ R (.panic c) st) (hs : Region.noSelect ops = true)
    (ho1 : ops[i1]? = some o1) (ho2 : ops[i2]? = some o2) (ho3 : ops[i3]? = some o3) (g1 : o1.guard = none) (g2 : o2.guard = none) (g3 : o3.guard = none)
    (p1 : o1.op = .slice t x none (some hi) none) (p2 : o2.op = .slice t y (some lo) none none) (p3 : o3.op = .call { callee := .builtin .append, args := #[.tmp d1, .tmp d2], argTypes := #[t, t] })
    (e1 : o1.dst = some d1) (e2 : o2.dst = some d2) (hne : d1 ≠ d2) (hd1 : d1 < fr.length) (hd2 : d2 < fr.length) (hy1 : y ≠ .tmp d1) (hl1 : lo ≠ .tmp d1)
    (hf1 : Region.free .any ops listed i1 = true) (hr1 : (Region.ready .any ops listed).contains i1 = true)
    (hf2 : Region.free .any ops (listed.setIfInBounds i1 true) i2 = true) (hr2 : (Region.ready .any ops (listed.setIfInBounds i1 true)).contains i2 = true)
    (hr3 : Region.ready .any ops ((listed.setIfInBounds i1 true).setIfInBounds i2 true) = [i3])
    (hx : ev fr x = .ref i) (hy : ev fr y = .ref i) (hhi : ev fr hi = .int k1 j) (hlo : ev fr lo = .int k2 ((j + 1 : Nat) : Int)) (hr : rowB P t = some (el, s, zs, by_)) (hi' : hp[i]? = some (.list el s N cs)) (hj : j < N)
    (h1 : ∀ c ∈ cs, c.one = true) (hb : N * by_ ≤ 140737488355328) (hm : N ≤ maxLen)
    (h' : AnyQ none P ops (((listed.setIfInBounds i1 true).setIfInBounds i2 true).setIfInBounds i3 true) n ⟨putF (killL i (putF (putF fr (some d1) .top) (some d2) .top)) o3.dst (.ref i), (hp.map (AObj.kill i)).set i (.list el s (N - 1) (cs.take (j * s) ++ cs.drop ((j + 1) * s)))⟩ R) :
    AnyQ none P ops listed (n + 3) ⟨fr, hp⟩ R := by
  intro Z0 w0 a w hS
  obtain ⟨μ, F, hFb, hH, hF, hdf, hbl⟩ := hS
  have hB := hbl.size
  have hZn := zone_new (Z0 := Z0) hB hFb
  obtain ⟨info, z, hu, hinf, hz, rfl, rfl, hzs, hs0, _⟩ := row_parts hr
  have hxv := hx ▸ ev_rel hF x
  have hyv := hy ▸ ev_rel hF y
  simp only [Rel] at hxv hyv
  have hhv := rel_int (hhi ▸ ev_rel hF hi)
  have hlv := rel_int (hlo ▸ ev_rel hF lo)
  have hts : a.tmps.size = fr.length := by simpa using hF.length
  have hel : elemB P t = some (el, info.size) := by
    unfold elemB
    rw [hu]
    simp [hinf]
  obtain ⟨xs, hown, hrx⟩ := hH.obj i _ _ hi' hxv
  have hlen := hrx.length
  have hcl := hown.1
  rcases hown.2 with ⟨_, h0⟩ | ⟨g, cap, cur, hv0, hB2, hg, hnc, hcm, hcs, htk⟩
  · omega
  have hyx : a.eval y = a.eval x := by rw [hxv] at hyv; exact (Option.some.inj hyv).symm
  have hc0 : ¬ cap = 0 := by omega
  -- the two slices
  have r1 : ∀ w, (Instr.sliceAt t (a.eval x) none (some (.int k1 j)) none).run P w = .ok (.slice (some ⟨g, 0, none⟩) j cap) w := fun w => by
    have := run_sliceAt (P := P) hel (some ⟨g, 0, none⟩) N cap none (some (.int k1 j)) none 0 j cap (fun w => by simp [Instr.sliceBounds, run_bound (P := P) k1 j cap _ (by omega)]) w
    rw [← hv0] at this
    simpa [if_neg hc0, add_lit'] using this
  have r2 : ∀ w, (Instr.sliceAt t (a.eval y) (some (.int k2 ((j + 1 : Nat) : Int))) none none).run P w = .ok (.slice (if cap = j + 1 then some ⟨g, 0, none⟩ else some ⟨g, (j + 1) * info.size, none⟩) (N - (j + 1)) (cap - (j + 1))) w := fun w => by
    have := run_sliceAt (P := P) hel (some ⟨g, 0, none⟩) N cap (some (.int k2 ((j + 1 : Nat) : Int))) none none (j + 1) N cap (fun w => by
      have hbb := run_bound (P := P) k2 (j + 1) N .sliceB (by omega) w
      simp [Instr.sliceBounds] at hbb ⊢; simp [hbb]) w
    rw [hyx, hv0]
    simpa [add_lit'] using this
  obtain ⟨v1, hv1⟩ : ∃ v1 : Value, v1 = .slice (some ⟨g, 0, none⟩) j cap := ⟨_, rfl⟩
  obtain ⟨A, hAe⟩ : ∃ A : Option Addr, A = (if cap = j + 1 then some ⟨g, 0, none⟩ else some ⟨g, (j + 1) * info.size, none⟩) := ⟨_, rfl⟩
  rw [← hv1] at r1
  rw [← hAe] at r2
  have w1 : Region.wanted o1 (yielded ops a.tmps) = true := by unfold Region.wanted; rw [g1]
  refine wpAnyIn_take (v := v1) rfl ho1 hs hf1 hr1 (fun c a w ⟨st', hq, _⟩ => absurd hq (np c st')) ⟨.inl ⟨w1, fun w => by simp only [execOp, p1, hhv, Option.map_some, Option.map_none, Sem.run_bind, r1, Result.andThen_ok, Sem.run_pure]⟩, fun w => by unfold Oper.about; rw [p1]⟩ ?_
  rw [e1]
  have q2 : (a.put (some d1) v1).eval y = a.eval y := Act.eval_put fun d hd => by cases hd; exact hy1
  have q3 : (a.put (some d1) v1).eval lo = a.eval lo := Act.eval_put fun d hd => by cases hd; exact hl1
  have w2 : Region.wanted o2 (yielded ops (a.put (some d1) v1).tmps) = true := by unfold Region.wanted; rw [g2]
  refine wpAnyIn_take (v := .slice A (N - (j + 1)) (cap - (j + 1))) rfl ho2 hs hf2 hr2 (fun c a w ⟨st', hq, _⟩ => absurd hq (np c st')) ⟨.inl ⟨w2, fun w => by simp only [execOp, p2, q2, q3, hlv, Option.map_some, Option.map_none, Sem.run_bind, r2, Result.andThen_ok, Sem.run_pure]⟩, fun w => by unfold Oper.about; rw [p2]⟩ ?_
  rw [e2]
  refine wpAnyIn_all hr3 (by simp) fun k hk => ?_
  simp only [List.mem_cons, List.not_mem_nil, or_false] at hk
  subst hk
  refine wpOp_of_one (Q1 := fun e a' w' => e = .normal ∧ wpAnyIn (Fc none) 0 P .any ops (fun e a' w' => ∃ st', R e st' ∧ Sim Z0 w0 st' a' w') n (((listed.setIfInBounds i1 true).setIfInBounds i2 true).setIfInBounds k true) a' w') ho3 ?_ (fun a w h => h.2) (fun e a w hne h => absurd h.1 hne)
  refine wpListIn_plain g3 fun K hK => ?_
  refine wpIn_of_run (fun c h => by rw [p3] at h; cases h) ?_
  -- the append
  have hown1 : w.ownsRow w0.heap.size el info.size v1 j (xs.take (j * info.size)) := by
    have hle : j * info.size ≤ N * info.size := Nat.mul_le_mul_right _ (by omega)
    refine ⟨by rw [List.length_take, hcl]; omega, .inr ⟨g, cap, cur, hv1, hB2, hg, by omega, hcm, hcs, ?_⟩⟩
    rw [← htk, List.take_take, Nat.min_eq_left hle]
  have hmul : (j + 1) * info.size + (N - (j + 1)) * info.size = N * info.size := by rw [← Nat.add_mul]; congr 1; omega
  have hyl : (xs.drop ((j + 1) * info.size)).length = (N - (j + 1)) * info.size := by rw [List.length_drop, hcl]; omega
  have hsrc : xs.drop ((j + 1) * info.size) ≠ [] → ∃ ad, A = some ad ∧ ∀ (q : Nat) u, (xs.drop ((j + 1) * info.size))[q]? = some u → w.cell? (ad.add q) = some u := by
    intro hne0
    have hN : j + 1 < N := by
      refine Nat.lt_of_not_le fun hle => hne0 ?_
      apply List.eq_nil_of_length_eq_zero
      rw [hyl, show N - (j + 1) = 0 by omega, Nat.zero_mul]
    refine ⟨⟨g, (j + 1) * info.size, none⟩, by rw [hAe, if_neg (by omega)], fun q u hq => ?_⟩
    rw [List.getElem?_drop] at hq
    have := hown.cells (g := g) (by rw [hv0]; rfl) _ u hq
    rw [add_lit'] at this ⊢
    rw [Nat.zero_add] at this
    exact this
  have hA0 : A = none → xs.drop ((j + 1) * info.size) = [] := fun h => by
    rw [hAe] at h
    split at h <;> cases h
  have h1x := ones_rel (μ := []) (w := w) (Z := Zone Z0 F w0.heap.size) (by simp) h1 hrx
  obtain ⟨v', w', hrun, hown', hgr, hblk⟩ := run_append_all (P := P) (ty := o3.type) (cp := cap - (j + 1)) hr hown1 hyl hsrc hA0 (fun u hu => h1x u (List.mem_of_mem_drop hu)) (by rw [show j + (N - (j + 1)) = N - 1 by omega]; exact Nat.le_trans (Nat.mul_le_mul_right _ (Nat.sub_le _ _)) hb) (by omega) hB
  have hbu' := ownsRow_blk hown'
  have hbv1 : v1.ownBlock = some g := by rw [hv1]; rfl
  have hbx : blk (a.eval x) = some g := by rw [hv0]; rfl
  have ed1 : ((a.put (some d1) v1).put (some d2) (.slice A (N - (j + 1)) (cap - (j + 1)))).eval (.tmp d1) = v1 := by
    simp [Act.put, Act.eval, hts, hd1, Ne.symm hne]
  have ed2 : ((a.put (some d1) v1).put (some d2) (.slice A (N - (j + 1)) (cap - (j + 1)))).eval (.tmp d2) = .slice A (N - (j + 1)) (cap - (j + 1)) := by
    simp [Act.put, Act.eval, hts, hd2]
  have er : (execOp ((a.put (some d1) v1).put (some d2) (.slice A (N - (j + 1)) (cap - (j + 1)))).eval o3).run P w = .ok (.value v') w' := by
    simp only [execOp, p3, resolve, List.map_toArray, List.map_cons, List.map_nil, ed1, ed2, Sem.run_bind, Sem.run_pure, Result.andThen_ok, invoke, builtin, hrun]
  rw [er]
  refine hK _ _ (wpListIn_nil ⟨rfl, ?_⟩)
  have hoth : ∀ b, b < w.heap.size → blk (a.eval x) ≠ some b → w'.heap[b]? = w.heap[b]? := fun b hb1 hne => hgr.block b hb1 (fun e => hne (by rw [hbx, ← hbv1, e]))
  have hk : ∀ b, b < w.heap.size → ¬ Zone Z0 F w0.heap.size b → w'.heap[b]? = w.heap[b]? := fun b hb1 hz => hoth b hb1 (fun e => hz (hH.zone i _ _ b hi' rfl hxv e))
  have hm' : ∀ (q : Nat) (u : Value), q ≠ i → μ[q]? = some u → (μ.set i v')[q]? = some u := fun q u hne hu => by rw [List.getElem?_set_ne (Ne.symm hne)]; exact hu
  have hil := (List.getElem?_eq_some_iff.1 hi').1
  refine h' Z0 w0 _ w' ⟨μ.set i v', F, fun b h => ⟨(hFb b h).1, Nat.lt_of_lt_of_le (hFb b h).2 hgr.size⟩, ?_, ?_, ?_, hbl.trans ⟨hgr.os, hgr.tape, hgr.output, hgr.size, fun b hb1 => hoth b (by omega) (fun e => by rw [hbx] at e; simp only [Option.some.injEq] at e; omega)⟩⟩
  · have hown2 : w'.ownsRow w0.heap.size el info.size v' (N - 1) (xs.take (j * info.size) ++ xs.drop ((j + 1) * info.size)) := by
      rw [show N - 1 = j + (N - (j + 1)) by omega]; exact hown'
    refine hH.update hZn hi' hxv rfl hoth ⟨_, hown2, ?_⟩ (fun b hb2 => ?_) (ownsRow_one hown')
    · exact ((hrx.take _).append (hrx.drop _)).keep hk (fun _ _ h => h)
    · rw [hbu'] at hb2
      rcases hblk with e1 | e1
      · left; rw [hbx, ← hbv1, ← e1]; exact hb2
      · right; rw [e1] at hb2; simp only [Option.some.injEq] at hb2; omega
  · refine put_rel ?_ _ (by simp only [Rel]; rw [List.getElem?_set_self (by rw [hH.len]; exact hil)])
    exact RelL.keep_kill i hk hm' (put_rel (put_rel hF (some d1) (v := .top) (by simp [Rel])) (some d2) (v := .top) (by simp [Rel]))
  · rw [put_defers', put_defers', put_defers']
    refine hdf.keep fun q y hq => ?_
    have hqi : q ≠ i := by rintro rfl; rw [hi'] at hq; cases hq
    refine ⟨?_, fun u hu => hm' q u hqi hu⟩
    rw [List.getElem?_set_ne (Ne.symm hqi), List.getElem?_map, hq]
    rfl
def isTmp (d : Nat) : Operand → Bool
  | .tmp q => q == d
  | _ => false
def delAt (P : Program) (m : M) (i1 i2 i3 : Nat) : Option (Nat × Nat × Nat × Nat × List AV × Nat × Int × Int) :=
  match m.ks with
  | .any ops listed (_ + 3) :: _ => match ops[i1]?, ops[i2]?, ops[i3]? with
    | some o1, some o2, some o3 => match o1.op, o2.op, o3.op with
      | .slice t x none (some hi) none, .slice t' y (some lo) none none, .call c => match c.callee, c.args.toList, c.argTypes.toList, o1.dst, o2.dst with
        | .builtin .append, [.tmp d1, .tmp d2], [ta, tb], some e1, some e2 =>
          if decide (t' = t ∧ ta = t ∧ tb = t ∧ e1 = d1 ∧ e2 = d2 ∧ d1 ≠ d2 ∧ d1 < m.st.fr.length ∧ d2 < m.st.fr.length) && !(isTmp d1 y) && !(isTmp d1 lo) && o1.guard.isNone && o2.guard.isNone && o3.guard.isNone && Region.noSelect ops && Region.free .any ops listed i1 && (Region.ready .any ops listed).contains i1 && Region.free .any ops (listed.setIfInBounds i1 true) i2 && (Region.ready .any ops (listed.setIfInBounds i1 true)).contains i2 && decide (Region.ready .any ops ((listed.setIfInBounds i1 true).setIfInBounds i2 true) = [i3]) then
            match ev m.st.fr x, ev m.st.fr y, ev m.st.fr hi, ev m.st.fr lo, rowB P t with
            | .ref i, .ref i', .int _ a, .int _ b, some (el, s, _, by_) => match m.st.hp[i]? with
              | some (.list el' s' n cs) => if i' = i ∧ el' = el ∧ s' = s then some (i, el, s, n, cs, by_, a, b) else none
              | _ => none
            | _, _, _, _, _ => none
          else none
        | _, _, _, _, _ => none
      | _, _, _ => none
    | _, _, _ => none
  | _ => none
def delM (i1 i2 i3 i : Nat) (ob : AObj) (m : M) : M :=
  match m.ks with
  | .any ops listed n :: ks => match ops[i1]?, ops[i2]?, ops[i3]? with
    | some o1, some o2, some o3 => ⟨.any ops (((listed.setIfInBounds i1 true).setIfInBounds i2 true).setIfInBounds i3 true) (n - 3) :: ks, ⟨putF (killL i (putF (putF m.st.fr o1.dst .top) o2.dst .top)) o3.dst (.ref i), (m.st.hp.map (AObj.kill i)).set i ob⟩⟩
    | _, _, _ => m
  | _ => m

theorem tmp_ne {y : Operand} {d : Nat} (h : (!(isTmp d y)) = true) : y ≠ .tmp d := by
  rintro rfl
  simp [isTmp] at h

theorem R.del {α : Type} {m : M} {Q : Exit → St → Prop} (E : α → List AV) (xs : List α) (i1 i2 i3 i el b j : Nat) {s : Nat} (hi lo : Int) (h : delAt P m i1 i2 i3 = some (i, el, s, xs.length, rows E xs, b, hi, lo)) (hhi : hi = (j : Int)) (hlo : lo = ((j + 1 : Nat) : Int))
    (hE : ∀ x, (E x).length = s) (hE1 : ∀ x, (E x).all AV.one = true) (hj : j < xs.length) (h0 : 0 < b) (hb : xs.length * b ≤ 140737488355328) (np : NoPanic Q)
    (h' : Runs none P (delM i1 i2 i3 i (.list el s (xs.take j ++ xs.drop (j + 1)).length (rows E (xs.take j ++ xs.drop (j + 1)))) m) Q) : Runs none P m Q := by
  subst hhi
  subst hlo
  obtain ⟨ks, ⟨fr, hp⟩⟩ := m
  unfold delAt at h
  simp only at h
  split at h
  · rename_i ops listed n ks'
    split at h
    · rename_i o1 o2 o3 ho1 ho2 ho3
      split at h
      · rename_i t x hi0 t' y lo0 c p1 p2 p3
        obtain ⟨callee, args, tys⟩ := c
        simp only at h
        split at h
        · rename_i d1 d2 ta tb e1 e2 ha hb' he1 he2
          split at h
          · rename_i hc
            simp only [Bool.and_eq_true, decide_eq_true_eq, Option.isNone_iff_eq_none] at hc
            obtain ⟨⟨⟨⟨⟨⟨⟨⟨⟨⟨⟨⟨rfl, rfl, rfl, rfl, rfl, hne, hd1, hd2⟩, hy1⟩, hl1⟩, g1⟩, g2⟩, g3⟩, hs⟩, hf1⟩, hr1⟩, hf2⟩, hr2⟩, hr3⟩ := hc
            split at h
            · rename_i i0 i0' k1 a k2 b2 el0 s0 z0 by0 hx hy hhi hlo hr
              split at h
              · rename_i el1 s1 n1 cs1 hi1
                split at h
                · rename_i he
                  obtain ⟨rfl, rfl, rfl⟩ := he
                  simp only [Option.some.injEq, Prod.mk.injEq] at h
                  obtain ⟨rfl, rfl, rfl, rfl, rfl, rfl, rfl, rfl⟩ := h
                  have ea : args = #[.tmp e1, .tmp e2] := Array.toList_inj.1 ha
                  have et : tys = #[_, _] := Array.toList_inj.1 hb'
                  subst ea
                  subst et
                  simp only [runs_iff, delM, ho1, ho2, ho3, RunsK] at h' ⊢
                  have hlen : (xs.take j ++ xs.drop (j + 1)).length = xs.length - 1 := by simp; omega
                  rw [hlen, rows_append, ← rows_take hE, ← rows_drop hE] at h'
                  refine AnyQ.del (fun c st hq => np c st (runsK_panic ks' st hq)) hs ho1 ho2 ho3 g1 g2 g3 p1 p2 p3 he1 he2 hne hd1 hd2 (tmp_ne hy1) (tmp_ne hl1) hf1 hr1 hf2 hr2 hr3 hx hy hhi hlo hr hi1 hj (fun c hc => List.all_eq_true.1 (rows_all hE1 _) c hc) hb (app_bound hb h0) ?_
                  rw [← he1, ← he2]
                  exact h'
                · cases h
              · cases h
            · cases h
          · cases h
        · cases h
      · cases h
    · cases h
  · cases h
end
end Go.Abs


/-! The machine's rules: triples of numbers are compared. -/
namespace Go.Abs
open Go.RowKit

/-- A struct of three numbers. -/
def tripB (P : Program) (t : TypeId) : Bool :=
  (match P.underlying t with
  | some (.struct fs) => match fs.toList with
    | [f1, f2, f3] => decide (f1.name ≠ "_" ∧ f2.name ≠ "_" ∧ f3.name ≠ "_" ∧ f1.offset = 0 ∧ f2.offset = 1 ∧ f3.offset = 2) && intT P f1.type && intT P f2.type && intT P f3.type
    | _ => false
  | _ => false) && !P.stoodInHeld t && !P.eqGuardType P.depth t

theorem run_tripEq {P : Program} {t : TypeId} (h : tripB P t = true) (k k' k'' : IntKind) (a b c a' b' c' : Int) (w : World) : (Op.equalIn 10000 t (.agg #[.int k a, .int k' b, .int k'' c]) (.agg #[.int k a', .int k' b', .int k'' c'])).run P w = .ok (decide (a = a' ∧ b = b' ∧ c = c')) w := by
  unfold tripB at h
  simp only [Bool.and_eq_true, Bool.not_eq_true'] at h
  obtain ⟨⟨h, hst⟩, _⟩ := h
  split at h
  · rename_i fs hu
    split at h
    · rename_i f1 f2 f3 hfs
      simp only [Bool.and_eq_true, decide_eq_true_eq] at h
      obtain ⟨⟨⟨⟨n1, n2, n3, o1, o2, o3⟩, i1⟩, i2⟩, i3⟩ := h
      obtain ⟨k1, u1⟩ := intT_parts i1
      obtain ⟨k2, u2⟩ := intT_parts i2
      obtain ⟨k3, u3⟩ := intT_parts i3
      have hf : P.fieldsOf t = fs := by unfold Program.fieldsOf; rw [hu]
      rw [run_equalIn_struct w 9999 t _ _ (by rw [hf]; exact hu) hst, hf, hfs]
      have g1 : aggB P f1.type = some false := by unfold aggB; rw [u1]; rfl
      have g2 : aggB P f2.type = some false := by unfold aggB; rw [u2]; rfl
      have g3 : aggB P f3.type = some false := by unfold aggB; rw [u3]; rfl
      have p1 : ∀ x y z : Value, (part f1.type #[x, y, z] f1.offset).run P w = .ok x w := fun x y z => run_part1 g1 (by rw [o1]; rfl) w
      have p2 : ∀ x y z : Value, (part f2.type #[x, y, z] f2.offset).run P w = .ok y w := fun x y z => run_part1 g2 (by rw [o2]; rfl) w
      have p3 : ∀ x y z : Value, (part f3.type #[x, y, z] f3.offset).run P w = .ok z w := fun x y z => run_part1 g3 (by rw [o3]; rfl) w
      simp only [Op.eqFields, if_pos n1, if_pos n2, if_pos n3, Sem.run_bind, p1, p2, p3, Result.andThen_ok, run_equalIn_int w 9998 f1.type k k1 a a' u1, run_equalIn_int w 9998 f2.type k' k2 b b' u2, run_equalIn_int w 9998 f3.type k'' k3 c c' u3, Sem.run_ite, Sem.run_pure]
      by_cases e1 : a = a' <;> by_cases e2 : b = b' <;> by_cases e3 : c = c' <;> simp [e1, e2, e3]
    · cases h
  · cases h

def eqAt3 (P : Program) (m : M) : Option (Bool × Int × Int × Int × Int × Int × Int) :=
  match opM m with
  | some (.binOp .eql t x y _) => match ev m.st.fr x, ev m.st.fr y with
    | .agg [.int k a, .int k' b, .int k'' c], .agg [.int j a', .int j' b', .int j'' c'] => if tripB P t = true ∧ k = j ∧ k' = j' ∧ k'' = j'' then some (true, a, b, c, a', b', c') else none
    | _, _ => none
  | some (.binOp .neq t x y _) => match ev m.st.fr x, ev m.st.fr y with
    | .agg [.int k a, .int k' b, .int k'' c], .agg [.int j a', .int j' b', .int j'' c'] => if tripB P t = true ∧ k = j ∧ k' = j' ∧ k'' = j'' then some (false, a, b, c, a', b', c') else none
    | _, _ => none
  | _ => none

section
variable {rd : Option Nat} {P : Program} {m : M} {Q : Exit → St → Prop}
theorem agg3 {w : World} {Z : Nat → Prop} {μ : List Value} {k k' k'' : IntKind} {a b c : Int} {v : Value} (h : Rel w Z μ (.agg [.int k a, .int k' b, .int k'' c]) v) : v = .agg #[.int k a, .int k' b, .int k'' c] := by
  simp only [Rel, RelL] at h
  obtain ⟨xs, rfl, x, ys, rfl, rfl, y, zs, rfl, rfl, z, ws, rfl, rfl, rfl⟩ := h
  rfl

theorem R.eqT (e : Bool) (a b c a' b' c' : Int) (v : Bool) (h : eqAt3 P m = some (e, a, b, c, a', b', c')) (ho : opsAt m = true) (hv : v = (if e = true then decide (a = a' ∧ b = b' ∧ c = c') else !decide (a = a' ∧ b = b' ∧ c = c'))) (h' : Runs rd P (putM m none (.bool v) m.st.hp) Q) : Runs rd P m Q := by
  subst hv
  obtain ⟨ks, ⟨fr, hp⟩⟩ := m
  unfold eqAt3 opM headOf at h
  unfold opsAt at ho
  simp only [putM, runs_iff] at h ho h' ⊢
  split at ho
  · rename_i all o l fl ks'
    simp only [RunsK] at h' ⊢
    intro hW
    split at h
    · rename_i t x y ty hop
      split at hop
      · rename_i all' o' f' t' heq
        simp only [Option.some.injEq, Prod.mk.injEq] at heq
        obtain ⟨rfl, rfl, rfl, _⟩ := heq
        split at hop
        · rename_i hw
          simp only [Option.some.injEq] at hop
          split at h
          · rename_i k a1 k' b1 k'' c1 j a2 j' b2 j'' c2 hx hy
            split at h
            · rename_i hc
              obtain ⟨hp1, rfl, rfl, rfl⟩ := hc
              simp only [Option.some.injEq, Prod.mk.injEq] at h
              obtain ⟨rfl, rfl, rfl, rfl, rfl, rfl, rfl⟩ := h
              refine OpsQ.val (wantH_true hw hW) (fun c => by rw [hop]; simp) (fun Z μ ac w hF => ⟨.bool (decide (a1 = a2 ∧ b1 = b2 ∧ c1 = c2)), ?_, by simp [Rel]⟩) (h' headW_false)
              have h1 := agg3 (hx ▸ ev_rel hF x)
              have h2 := agg3 (hy ▸ ev_rel hF y)
              have hg : P.eqGuardType P.depth t = false := by unfold tripB at hp1; simp only [Bool.and_eq_true, Bool.not_eq_true'] at hp1; exact hp1.2
              simp only [execOp, hop, h1, h2, Sem.run_bind, run_eqGuard_agg w .eql t x y _ _ hg, Result.andThen_ok, run_eql_struct w, run_tripEq hp1, Sem.run_pure]
            · cases h
          · cases h
        · cases hop
      · cases hop
    · rename_i t x y ty hop
      split at hop
      · rename_i all' o' f' t' heq
        simp only [Option.some.injEq, Prod.mk.injEq] at heq
        obtain ⟨rfl, rfl, rfl, _⟩ := heq
        split at hop
        · rename_i hw
          simp only [Option.some.injEq] at hop
          split at h
          · rename_i k a1 k' b1 k'' c1 j a2 j' b2 j'' c2 hx hy
            split at h
            · rename_i hc
              obtain ⟨hp1, rfl, rfl, rfl⟩ := hc
              simp only [Option.some.injEq, Prod.mk.injEq] at h
              obtain ⟨rfl, rfl, rfl, rfl, rfl, rfl, rfl⟩ := h
              refine OpsQ.val (wantH_true hw hW) (fun c => by rw [hop]; simp) (fun Z μ ac w hF => ⟨.bool (!decide (a1 = a2 ∧ b1 = b2 ∧ c1 = c2)), ?_, by simp [Rel]⟩) (h' headW_false)
              have h1 := agg3 (hx ▸ ev_rel hF x)
              have h2 := agg3 (hy ▸ ev_rel hF y)
              have hg : P.eqGuardType P.depth t = false := by unfold tripB at hp1; simp only [Bool.and_eq_true, Bool.not_eq_true'] at hp1; exact hp1.2
              simp only [execOp, hop, h1, h2, Sem.run_bind, run_eqGuard_agg w .neq t x y _ _ hg, Result.andThen_ok, run_neq_struct w, run_tripEq hp1, Sem.run_pure]
            · cases h
          · cases h
        · cases hop
      · cases hop
    · cases h
  · cases ho
end
section
variable {P : Program} {m : M} {Q : Exit → St → Prop}
def sbAt (m : M) (i : Nat) : Option AV :=
  match m.ks with
  | .any ops listed (_ + 1) :: _ => match ops[i]? with
    | some o => match o.op with
      | .binOp .sub _ x y _ => if o.guard.isNone && Region.noSelect ops && Region.free .any ops listed i && (Region.ready .any ops listed).contains i then (match ev m.st.fr x, ev m.st.fr y with
        | .int k a, .int k' b => if k = k' then some (.int k (k.wrap (a - b))) else none
        | _, _ => none) else none
      | _ => none
    | none => none
  | _ => none

theorem R.anyJ (i : Nat) (v : AV) (h : sbAt m i = some v) (np : NoPanic Q) (h' : Runs none P (exM i v m) Q) : Runs none P m Q := by
  obtain ⟨ks, ⟨fr, hp⟩⟩ := m
  simp only [runs_iff] at h' ⊢
  unfold sbAt at h
  simp only at h
  split at h
  · rename_i ops listed n ks'
    split at h
    · rename_i o ho
      split at h
      · rename_i t x y ty hx
        split at h
        · rename_i hc
          simp only [Bool.and_eq_true] at hc
          obtain ⟨⟨⟨hg, hs⟩, hf⟩, hr⟩ := hc
          split at h
          · rename_i k a k' b h1 h2
            split at h
            · rename_i hk
              subst hk
              simp only [Option.some.injEq] at h
              subst h
              simp only [exM, ho, RunsK] at h' ⊢
              intro Z0 w0 ac w hS
              have hW : Region.wanted o (yielded ops ac.tmps) = true := by
                unfold Region.wanted
                rw [Option.isNone_iff_eq_none.1 hg]
              have hrun : ∃ u, ∀ w, (execOp ac.eval o).run P w = .ok (.value u) w := by
                obtain ⟨μ, F, _, _, hFr, _, _⟩ := hS
                have e1 := rel_int (h1 ▸ ev_rel hFr x)
                have e2 := rel_int (h2 ▸ ev_rel hFr y)
                refine ⟨.int k (k.wrap (a - b)), fun w => ?_⟩
                unfold execOp
                rw [hx]
                simp [e1, e2, eqGuard_at_int, binOp_sub, Op.intArith] <;> rfl
              obtain ⟨u, hrun⟩ := hrun
              have hw' : WantedA ops o fr := wantedE_true (by unfold wantedE; rw [Option.isNone_iff_eq_none.1 hg])
              have h1' := StepR.sound (rd := none) (K := fun a' w' => Sim Z0 w0 ⟨putF fr o.dst (.int k (k.wrap (a - b))), hp⟩ a' w') (Q := fun _ _ _ => True) (st' := ⟨putF fr o.dst (.int k (k.wrap (a - b))), hp⟩) (by simpa using StepR.eff (P := P) (st := ⟨fr, hp⟩) hw' (v := .int k (k.wrap (a - b))) (news := []) (by rw [hx]; exact EffR.bin k a b h1 h2 rfl)) hS (fun _ _ h => h)
              rw [if_pos hW] at h1'
              unfold Oper.wpIn at h1'
              have h1' := h1'.2
              rw [show (Fc none).round = none from rfl, Oper.semAt_none, hrun w] at h1'
              simp only [Oper.uponIn] at h1'
              exact wpAnyIn_take rfl ho hs hf hr (fun c a w ⟨st', hq, _⟩ => absurd (runsK_panic ks' st' hq) (np c st')) ⟨.inl ⟨hW, hrun⟩, fun w => by unfold Oper.about; rw [hx]⟩ (h' Z0 w0 _ w h1')
            · cases h
          · cases h
        · cases h
      · cases h
    · cases h
  · cases h


/-- The place of an element of a row that is read alone may come first. -/
def ipAt (P : Program) (m : M) (i : Nat) : Option (Nat × Nat × List AV × Int) :=
  match m.ks with
  | .any ops listed (_ + 1) :: _ => match ops[i]? with
    | some o => match o.op with
      | .indexAddr t x y => if o.guard.isNone && Region.noSelect ops && Region.free .any ops listed i && (Region.ready .any ops listed).contains i then (match ev m.st.fr x, ev m.st.fr y, elemB P t with
        | .lst s n cs, .int _ j, some (_, s') => if s' = s ∧ s ≠ 0 then some (s, n, cs, j) else none
        | _, _, _ => none) else none
      | _ => none
    | none => none
  | _ => none
theorem R.anyP {α : Type} (i : Nat) (E : α → List AV) (xs : List α) (d : α) (j : Nat) (ji : Int) {s : Nat} (h : ipAt P m i = some (s, xs.length, rows E xs, ji)) (hji : ji = (j : Int)) (hE : ∀ x, (E x).length = s) (hj : j < xs.length) (np : NoPanic Q)
    (h' : Runs none P (exM i (.rptr (E (xs.getD j d))) m) Q) : Runs none P m Q := by
  obtain ⟨ks, ⟨fr, hp⟩⟩ := m
  simp only [runs_iff] at h' ⊢
  unfold ipAt at h
  simp only at h
  split at h
  · rename_i ops listed n ks'
    split at h
    · rename_i o ho
      split at h
      · rename_i t x y hx
        split at h
        · rename_i hc
          simp only [Bool.and_eq_true] at hc
          obtain ⟨⟨⟨hg, hs⟩, hf⟩, hr⟩ := hc
          split at h
          · rename_i s0 n0 cs k j0 el s' h1 h2 hel
            split at h
            · rename_i hss
              obtain ⟨rfl, hs0⟩ := hss
              cases h
              subst hji
              simp only [exM, ho, RunsK] at h' ⊢
              intro Z0 w0 ac w hS
              have hW : Region.wanted o (yielded ops ac.tmps) = true := by
                unfold Region.wanted
                rw [Option.isNone_iff_eq_none.1 hg]
              have hrun : ∃ u, ∀ w, (execOp ac.eval o).run P w = .ok (.value u) w := by
                obtain ⟨μ, F, _, _, hFr, _, _⟩ := hS
                have e1 := h1 ▸ ev_rel hFr x
                have e2 := rel_int (h2 ▸ ev_rel hFr y)
                simp only [Rel] at e1
                obtain ⟨A, c, vs, e3, e4, e5, e6, e7⟩ := e1
                have hne : vs ≠ [] := by
                  rintro rfl
                  have := e7.length
                  rw [e4] at this
                  have h5 : 0 < xs.length * s := Nat.mul_pos (by omega) (by omega)
                  simp at this
                  omega
                obtain ⟨ad, rfl, _, _⟩ := e6 hne
                refine ⟨.pointer (some (ad.add ((j : Int).toNat * s))), fun w => ?_⟩
                unfold execOp
                rw [hx]
                simp [e3, e2, run_indexAt hel (show (0 : Int) ≤ (j : Int) by omega) (show (j : Int) < (xs.length : Nat) by omega) w] <;> rfl
              obtain ⟨u, hrun⟩ := hrun
              have hw' : WantedA ops o fr := wantedE_true (by unfold wantedE; rw [Option.isNone_iff_eq_none.1 hg])
              have h1' := StepR.sound (rd := none) (K := fun a' w' => Sim Z0 w0 ⟨putF fr o.dst (.rptr (E (xs.getD j d))), hp⟩ a' w') (Q := fun _ _ _ => True) (st' := ⟨putF fr o.dst (.rptr (E (xs.getD j d))), hp⟩) (by simpa using StepR.eff (P := P) (st := ⟨fr, hp⟩) hw' (v := .rptr (E (xs.getD j d))) (news := []) (by rw [hx]; exact EffR.indexAddrE _ xs.length (rows E xs) k (j : Int) el _ _ h1 h2 hel hs0 (by omega) (by omega) (rows_at hE xs j d hj))) hS (fun _ _ h => h)
              rw [if_pos hW] at h1'
              unfold Oper.wpIn at h1'
              have h1' := h1'.2
              rw [show (Fc none).round = none from rfl, Oper.semAt_none, hrun w] at h1'
              simp only [Oper.uponIn] at h1'
              exact wpAnyIn_take rfl ho hs hf hr (fun c a w ⟨st', hq, _⟩ => absurd (runsK_panic ks' st' hq) (np c st')) ⟨.inl ⟨hW, hrun⟩, fun w => by unfold Oper.about; rw [hx]⟩ (h' Z0 w0 _ w h1')
            · cases h
          · cases h
        · cases h
      · cases h
    · cases h
  · cases h
theorem R.anyJn (i : Nat) (v : AV) (n : Int) (h : sbAt m i = some v) (hv : v = .int .i64 n) (np : NoPanic Q) (h' : Runs none P (exM i (AI n) m) Q) : Runs none P m Q := R.anyJ i v h np (by rw [hv]; exact h')
theorem R.anyIn (i : Nat) (v : AV) (n : Int) (h : inAt m i = some v) (hv : v = .int .i64 n) (np : NoPanic Q) (h' : Runs none P (exM i (AI n) m) Q) : Runs none P m Q := R.anyI i v h np (by rw [hv]; exact h')
def frAt (P : Program) (m : M) (i : Nat) : Option AV :=
  match m.ks with
  | .any ops listed (_ + 1) :: _ => match ops[i]? with
    | some o => match o.op with
      | .fieldAddr s x f => if o.guard.isNone && Region.noSelect ops && Region.free .any ops listed i && (Region.ready .any ops listed).contains i then (match ev m.st.fr x, fieldB P s f with
        | .rptr cs, some (off, k) => if k = 0 then none else some (.rptr (cs.drop off))
        | _, _ => none) else none
      | _ => none
    | none => none
  | _ => none

theorem R.anyR (i : Nat) (v : AV) (h : frAt P m i = some v) (np : NoPanic Q) (h' : Runs none P (exM i v m) Q) : Runs none P m Q := by
  obtain ⟨ks, ⟨fr, hp⟩⟩ := m
  simp only [runs_iff] at h' ⊢
  unfold frAt at h
  simp only at h
  split at h
  · rename_i ops listed n ks'
    split at h
    · rename_i o ho
      split at h
      · rename_i s x f hx
        split at h
        · rename_i hc
          simp only [Bool.and_eq_true] at hc
          obtain ⟨⟨⟨hg, hs⟩, hf⟩, hr⟩ := hc
          split at h
          · rename_i cs off k hcs hfb
            split at h
            · cases h
            · rename_i hk
              simp only [Option.some.injEq] at h
              subst h
              simp only [exM, ho, RunsK] at h' ⊢
              intro Z0 w0 a w hS
              have hW : Region.wanted o (yielded ops a.tmps) = true := by
                unfold Region.wanted
                rw [Option.isNone_iff_eq_none.1 hg]
              have hrun : ∃ u, ∀ w, (execOp a.eval o).run P w = .ok (.value u) w := by
                obtain ⟨μ, F, _, _, hFr, _, _⟩ := hS
                have h1 := ev_rel hFr x
                rw [hcs] at h1
                simp only [Rel] at h1
                obtain ⟨ad, _, h2, _⟩ := h1
                refine ⟨.pointer (some (ad.add off)), fun w => ?_⟩
                unfold execOp
                rw [hx]
                simp [h2, run_fieldAt hfb hk w] <;> rfl
              obtain ⟨u, hrun⟩ := hrun
              have hw' : WantedA ops o fr := wantedE_true (by unfold wantedE; rw [Option.isNone_iff_eq_none.1 hg])
              have h1 := StepR.sound (rd := none) (K := fun a' w' => Sim Z0 w0 ⟨putF fr o.dst (.rptr (cs.drop off)), hp⟩ a' w') (Q := fun _ _ _ => True) (st' := ⟨putF fr o.dst (.rptr (cs.drop off)), hp⟩) (by simpa using StepR.eff (P := P) (st := ⟨fr, hp⟩) hw' (v := .rptr (cs.drop off)) (news := []) (by rw [hx]; exact EffR.fieldAddrR cs off k hcs hfb hk)) hS (fun _ _ h => h)
              rw [if_pos hW] at h1
              unfold Oper.wpIn at h1
              have h1 := h1.2
              rw [show (Fc none).round = none from rfl, Oper.semAt_none, hrun w] at h1
              simp only [Oper.uponIn] at h1
              exact wpAnyIn_take rfl ho hs hf hr (fun c a w ⟨st', hq, _⟩ => absurd (runsK_panic ks' st' hq) (np c st')) ⟨.inl ⟨hW, hrun⟩, fun w => by unfold Oper.about; rw [hx]⟩ (h' Z0 w0 _ w h1)
          · cases h
        · cases h
      · cases h
    · cases h
  · cases h
end
end Go.Abs


/-! Point formulas: rows of triples, and the trees that they write down. -/
namespace Go.Proofs.YtgebepfdphmjcaaGreat
open Go.RowKit Go.Abs

def eT (p : Int × Int × Int) : List AV := [AI p.1, AI p.2.1, AI p.2.2]
def LT (xs : List (Int × Int × Int)) : AV := .lst 3 xs.length (rows eT xs)
def eLT (xs : List (Int × Int × Int)) : List AV := [LT xs]
def LLT (xs : List (List (Int × Int × Int))) : AV := .lst 1 xs.length (rows eLT xs)
theorem eT_len (x : Int × Int × Int) : (eT x).length = 3 := rfl
theorem eT_one (x : Int × Int × Int) : (eT x).all AV.one = true := rfl
theorem eT_closed (x : Int × Int × Int) : closedL (eT x) = true := rfl
theorem eLT_len (x : List (Int × Int × Int)) : (eLT x).length = 1 := rfl
def ptN (k : Int) : Nat := if k = 4 ∨ k = 5 ∨ k = 6 then 2 else if k = 7 ∨ k = 8 then 1 else 0
theorem ptN_le (k : Int) : ptN k ≤ 2 := by
  unfold ptN
  split
  · exact Nat.le_refl 2
  · split <;> omega
theorem ptN_two (k : Int) : ptN k = 2 ↔ k = 4 ∨ k = 5 ∨ k = 6 := by
  unfold ptN
  constructor
  · intro h
    split at h
    · assumption
    · split at h <;> omega
  · intro h; rw [if_pos h]
theorem ptN_one (k : Int) : ptN k = 1 ↔ k = 7 ∨ k = 8 := by
  unfold ptN
  constructor
  · intro h
    split at h
    · omega
    · split at h
      · assumption
      · omega
  · intro h; rw [if_neg (by omega), if_pos h]
/-- How many nodes the first o parts take. -/
def peT : Nat → List (Int × Int × Int) → Option Nat
  | 0, _ => some 0
  | _ + 1, [] => none
  | o + 1, x :: l => (peT (o + ptN x.1) l).map (· + 1)
theorem peT_zero (l : List (Int × Int × Int)) : peT 0 l = some 0 := by cases l <;> rfl
theorem peT_succ (o : Nat) (x : Int × Int × Int) (l : List (Int × Int × Int)) : peT (o + 1) (x :: l) = (peT (o + ptN x.1) l).map (· + 1) := rfl
/-- Where o parts end that begin at j. -/
def peXT (o : Nat) (a : List (Int × Int × Int)) (j : Nat) : Int := match peT o (a.drop j) with | some n => (j : Int) + n | none => -1
theorem peXT_zero (a : List (Int × Int × Int)) (j : Nat) : peXT 0 a j = j := by simp [peXT, peT_zero]
theorem peXT_end (o : Nat) (a : List (Int × Int × Int)) (j : Nat) (h : a.length ≤ j) : peXT (o + 1) a j = -1 := by simp [peXT, List.drop_eq_nil_of_le h, peT]
theorem drop_consT (a : List (Int × Int × Int)) (j : Nat) (h : j < a.length) : a.drop j = a.getD j (0, 0, 0) :: a.drop (j + 1) := by
  rw [List.drop_eq_getElem_cons h, List.getD_eq_getElem?_getD, List.getElem?_eq_getElem h]; rfl
theorem peXT_step (o : Nat) (a : List (Int × Int × Int)) (j : Nat) (h : j < a.length) : peXT (o + 1) a j = peXT (o + ptN (a.getD j (0, 0, 0)).1) a (j + 1) := by
  unfold peXT
  rw [drop_consT a j h, peT_succ]
  cases peT (o + ptN (a.getD j (0, 0, 0)).1) (a.drop (j + 1)) with
  | none => rfl
  | some n => simp only [Option.map_some]; omega
theorem peXT_stepI (o : Int) (a : List (Int × Int × Int)) (j : Nat) (c : Int) (ho : 0 < o) (h : j < a.length) (hc : c = o - 1 + ptN (a.getD j (0, 0, 0)).1) : peXT o.toNat a j = peXT c.toNat a (j + 1) := by
  rw [show o.toNat = (o.toNat - 1) + 1 by omega, peXT_step _ a j h]
  congr 1
  omega
theorem peXT_endI (o : Int) (a : List (Int × Int × Int)) (j : Nat) (ho : 0 < o) (h : a.length ≤ j) : peXT o.toNat a j = -1 := by
  rw [show o.toNat = (o.toNat - 1) + 1 by omega, peXT_end _ a j h]


/-- Point formulas. -/
inductive PF where
  | atm (k x y : Int)
  | bi (k : Int) (L R : PF)
  | qu (k x : Int) (L : PF)
def PF.fl : PF → List (Int × Int × Int)
  | .atm k x y => [(k, x, y)]
  | .bi k L R => (k, 0, 0) :: (L.fl ++ R.fl)
  | .qu k x L => (k, x, 0) :: L.fl
def PF.ok : PF → Prop
  | .atm k x y => (k = 0 ∨ k = 1 ∧ 0 ≤ x ∧ 0 ≤ y ∨ k = 2 ∨ k = 3 ∧ x = 0 ∧ y = 0) ∧ (k = 0 ∨ k = 1 → 0 ≤ x ∧ x ≤ 9 ∧ 0 ≤ y ∧ y ≤ 9) ∧ (k = 2 → 0 ≤ x ∧ x ≤ 5 ∧ 0 ≤ y ∧ y ≤ 9)
  | .bi k L R => (k = 4 ∨ k = 5 ∨ k = 6) ∧ L.ok ∧ R.ok
  | .qu k x L => (k = 7 ∨ k = 8) ∧ (0 ≤ x ∧ x ≤ 9) ∧ L.ok
/-- What a point formula says of worlds. -/
def PF.ev (n : Int) (xs vs : List Int) : PF → List Int → Bool
  | .atm k x y, ws => if k = 0 then decide (band (shr64 (xs.getD (ws.getD x.toNat 0).toNat 0) (ws.getD y.toNat 0)) 1 = 1) else if k = 1 then decide (ws.getD x.toNat 0 = ws.getD y.toNat 0) else if k = 2 then decide (band (shr64 (vs.getD x.toNat 0) (ws.getD y.toNat 0)) 1 = 1) else false
  | .bi k L R, ws => if k = 4 then L.ev n xs vs ws && R.ev n xs vs ws else if k = 5 then L.ev n xs vs ws || R.ev n xs vs ws else !L.ev n xs vs ws || R.ev n xs vs ws
  | .qu k x L, ws => if k = 7 then (List.range n.toNat).all fun v => L.ev n xs vs (ws.set x.toNat (v : Int)) else (List.range n.toNat).any fun v => L.ev n xs vs (ws.set x.toNat (v : Int))
theorem PF.pos : ∀ t : PF, 1 ≤ t.fl.length
  | .atm _ _ _ => by simp [PF.fl]
  | .bi _ _ _ => by simp [PF.fl]
  | .qu _ _ _ => by simp [PF.fl]
theorem PF.pe : ∀ (t : PF), t.ok → ∀ (o : Nat) (r : List (Int × Int × Int)), peT (o + 1) (t.fl ++ r) = (peT o r).map (· + t.fl.length)
  | .atm k x y, h, o, r => by
    have hk : ptN k = 0 := by
      unfold ptN
      simp only [PF.ok] at h
      rw [if_neg (by omega), if_neg (by omega)]
    show peT (o + 1) ((k, x, y) :: r) = _
    rw [peT_succ, show ptN (k, x, y).1 = 0 from hk]
    simp [PF.fl]
  | .bi k L R, h, o, r => by
    simp only [PF.ok] at h
    show peT (o + 1) ((k, 0, 0) :: (L.fl ++ R.fl ++ r)) = _
    rw [peT_succ, show ptN (k, (0 : Int), (0 : Int)).1 = 2 from (ptN_two k).2 h.1, List.append_assoc, show o + 2 = (o + 1) + 1 by omega, L.pe h.2.1, R.pe h.2.2, Option.map_map, Option.map_map]
    congr 1
    funext n
    simp [PF.fl]
    omega
  | .qu k x L, h, o, r => by
    simp only [PF.ok] at h
    show peT (o + 1) ((k, x, 0) :: (L.fl ++ r)) = _
    rw [peT_succ, show ptN (k, x, (0 : Int)).1 = 1 from (ptN_one k).2 h.1, L.pe h.2.2, Option.map_map]
    congr 1
/-- What a row writes down is one tree alone. -/
theorem PF.inj : ∀ (t t' : PF), t.ok → t'.ok → ∀ (r r' : List (Int × Int × Int)), t.fl ++ r = t'.fl ++ r' → t = t' ∧ r = r' := by
  intro t
  induction t with
  | atm k x y =>
    intro t' h h' r r' e
    cases t' with
    | atm k' x' y' =>
      simp only [PF.fl, List.cons_append, List.nil_append, List.cons.injEq, Prod.mk.injEq] at e
      obtain ⟨⟨rfl, rfl, rfl⟩, rfl⟩ := e
      exact ⟨rfl, rfl⟩
    | bi k' L' R' =>
      simp only [PF.fl, List.cons_append, List.nil_append, List.cons.injEq, Prod.mk.injEq, PF.ok] at e h h'
      omega
    | qu k' x' L' =>
      simp only [PF.fl, List.cons_append, List.nil_append, List.cons.injEq, Prod.mk.injEq, PF.ok] at e h h'
      omega
  | bi k L R iL iR =>
    intro t' h h' r r' e
    cases t' with
    | atm k' x' y' =>
      simp only [PF.fl, List.cons_append, List.nil_append, List.cons.injEq, Prod.mk.injEq, PF.ok] at e h h'
      omega
    | bi k' L' R' =>
      simp only [PF.fl, List.cons_append, List.cons.injEq, Prod.mk.injEq, List.append_assoc] at e
      simp only [PF.ok] at h h'
      obtain ⟨⟨rfl, _⟩, e⟩ := e
      obtain ⟨rfl, e1⟩ := iL L' h.2.1 h'.2.1 _ _ e
      obtain ⟨rfl, e2⟩ := iR R' h.2.2 h'.2.2 _ _ e1
      exact ⟨rfl, e2⟩
    | qu k' x' L' =>
      simp only [PF.fl, List.cons_append, List.cons.injEq, Prod.mk.injEq, PF.ok] at e h h'
      omega
  | qu k x L iL =>
    intro t' h h' r r' e
    cases t' with
    | atm k' x' y' =>
      simp only [PF.fl, List.cons_append, List.nil_append, List.cons.injEq, Prod.mk.injEq, PF.ok] at e h h'
      omega
    | bi k' L' R' =>
      simp only [PF.fl, List.cons_append, List.cons.injEq, Prod.mk.injEq, PF.ok] at e h h'
      omega
    | qu k' x' L' =>
      simp only [PF.fl, List.cons_append, List.cons.injEq, Prod.mk.injEq] at e
      simp only [PF.ok] at h h'
      obtain ⟨⟨rfl, rfl, _⟩, e⟩ := e
      obtain ⟨rfl, e1⟩ := iL L' h.2.2 h'.2.2 _ _ e
      exact ⟨rfl, e1⟩
def OKP (a : List (Int × Int × Int)) : Prop := ∃ t : PF, t.ok ∧ a = t.fl
def lefT (a : List (Int × Int × Int)) : List (Int × Int × Int) := (a.take (peXT 1 a 1).toNat).drop 1
def rigT (a : List (Int × Int × Int)) : List (Int × Int × Int) := a.drop (peXT 1 a 1).toNat
def prtsT (a : List (Int × Int × Int)) : List (List (Int × Int × Int)) := if ptN (a.getD 0 (0, 0, 0)).1 = 1 then [a.drop 1] else if ptN (a.getD 0 (0, 0, 0)).1 = 2 then [lefT a, rigT a] else []
theorem peXT_fl {t : PF} (h : t.ok) : peXT 1 t.fl 0 = (t.fl.length : Int) := by
  have := t.pe h 0 []
  rw [List.append_nil, peT_zero] at this
  simp [peXT, this]
theorem bi_parts {k : Int} {L R : PF} (hL : L.ok) : peXT 1 (PF.bi k L R).fl 1 = 1 + (L.fl.length : Int) ∧ lefT (PF.bi k L R).fl = L.fl ∧ rigT (PF.bi k L R).fl = R.fl := by
  have h1 : peXT 1 (PF.bi k L R).fl 1 = 1 + (L.fl.length : Int) := by
    have := L.pe hL 0 R.fl
    rw [peT_zero] at this
    simp [peXT, PF.fl, this]
  refine ⟨h1, ?_, ?_⟩
  · rw [lefT, h1, show (1 + (L.fl.length : Int)).toNat = L.fl.length + 1 by omega, PF.fl, List.take_succ_cons, List.take_left, List.drop_succ_cons, List.drop_zero]
  · rw [rigT, h1, show (1 + (L.fl.length : Int)).toNat = L.fl.length + 1 by omega, PF.fl, List.drop_succ_cons, List.drop_left]
noncomputable def evL (n : Int) (xs vs : List Int) (a : List (Int × Int × Int)) (ws : List Int) : Bool := by
  classical exact if h : OKP a then (Classical.choose h).ev n xs vs ws else false
theorem evL_fl {n : Int} {xs vs ws : List Int} {t : PF} (h : t.ok) : evL n xs vs t.fl ws = t.ev n xs vs ws := by
  have hok : OKP t.fl := ⟨t, h, rfl⟩
  have hc := Classical.choose_spec hok
  have : Classical.choose hok = t := ((PF.inj _ _ hc.1 h [] []) (by rw [List.append_nil, List.append_nil]; exact hc.2.symm)).1
  unfold evL
  rw [dif_pos hok, this]
section
variable {a : List (Int × Int × Int)}
theorem okp_pos (h : OKP a) : 0 < a.length := by obtain ⟨t, _, rfl⟩ := h; exact t.pos
theorem okp_head (h : OKP a) : ((a.getD 0 (0, 0, 0)).1 = 0 ∨ (a.getD 0 (0, 0, 0)).1 = 1 ∨ (a.getD 0 (0, 0, 0)).1 = 2 ∨ (a.getD 0 (0, 0, 0)).1 = 3 ∨ (a.getD 0 (0, 0, 0)).1 = 4 ∨ (a.getD 0 (0, 0, 0)).1 = 5 ∨ (a.getD 0 (0, 0, 0)).1 = 6 ∨ (a.getD 0 (0, 0, 0)).1 = 7 ∨ (a.getD 0 (0, 0, 0)).1 = 8) ∧ ((a.getD 0 (0, 0, 0)).1 = 0 ∨ (a.getD 0 (0, 0, 0)).1 = 1 → 0 ≤ (a.getD 0 (0, 0, 0)).2.1 ∧ (a.getD 0 (0, 0, 0)).2.1 ≤ 9 ∧ 0 ≤ (a.getD 0 (0, 0, 0)).2.2 ∧ (a.getD 0 (0, 0, 0)).2.2 ≤ 9) ∧ ((a.getD 0 (0, 0, 0)).1 = 2 → 0 ≤ (a.getD 0 (0, 0, 0)).2.1 ∧ (a.getD 0 (0, 0, 0)).2.1 ≤ 5 ∧ 0 ≤ (a.getD 0 (0, 0, 0)).2.2 ∧ (a.getD 0 (0, 0, 0)).2.2 ≤ 9) ∧ ((a.getD 0 (0, 0, 0)).1 = 7 ∨ (a.getD 0 (0, 0, 0)).1 = 8 → 0 ≤ (a.getD 0 (0, 0, 0)).2.1 ∧ (a.getD 0 (0, 0, 0)).2.1 ≤ 9) := by
  obtain ⟨t, ht, rfl⟩ := h
  cases t with
  | atm k x y =>
    simp only [PF.ok] at ht
    simp only [PF.fl, List.getD_cons_zero]
    omega
  | bi k L R =>
    simp only [PF.ok] at ht
    simp only [PF.fl, List.getD_cons_zero]
    omega
  | qu k x L =>
    simp only [PF.ok] at ht
    simp only [PF.fl, List.getD_cons_zero]
    omega
theorem okp_two (h : OKP a) (h2 : ptN (a.getD 0 (0, 0, 0)).1 = 2) : OKP (lefT a) ∧ OKP (rigT a) ∧ 1 + (lefT a).length + (rigT a).length = a.length ∧ peXT 1 a 1 = 1 + ((lefT a).length : Int) ∧ prtsT a = [lefT a, rigT a] := by
  have h2' := (ptN_two _).1 h2
  have hp : prtsT a = [lefT a, rigT a] := by rw [prtsT, if_neg (by omega), if_pos h2]
  obtain ⟨t, ht, rfl⟩ := h
  cases t with
  | atm k x y =>
    simp only [PF.ok] at ht
    simp only [PF.fl, List.getD_cons_zero] at h2'
    omega
  | qu k x L =>
    simp only [PF.ok] at ht
    simp only [PF.fl, List.getD_cons_zero] at h2'
    omega
  | bi k L R =>
    simp only [PF.ok] at ht
    obtain ⟨b1, b2, b3⟩ := bi_parts (k := k) (R := R) ht.2.1
    refine ⟨⟨L, ht.2.1, b2⟩, ⟨R, ht.2.2, b3⟩, ?_, ?_, hp⟩
    · rw [b2, b3]; simp [PF.fl]; omega
    · rw [b1, b2]
theorem okp_one (h : OKP a) (h1 : ptN (a.getD 0 (0, 0, 0)).1 = 1) : OKP (a.drop 1) ∧ prtsT a = [a.drop 1] := by
  have h1' := (ptN_one _).1 h1
  have hp : prtsT a = [a.drop 1] := by rw [prtsT, if_pos h1]
  obtain ⟨t, ht, rfl⟩ := h
  cases t with
  | atm k x y =>
    simp only [PF.ok] at ht
    simp only [PF.fl, List.getD_cons_zero] at h1'
    omega
  | bi k L R =>
    simp only [PF.ok] at ht
    simp only [PF.fl, List.getD_cons_zero] at h1'
    omega
  | qu k x L =>
    simp only [PF.ok] at ht
    exact ⟨⟨L, ht.2.2, rfl⟩, hp⟩
theorem prts_okp (h : OKP a) {i : Nat} (hi : i < (prtsT a).length) : OKP ((prtsT a).getD i []) ∧ ((prtsT a).getD i []).length < a.length := by
  by_cases h1 : ptN (a.getD 0 (0, 0, 0)).1 = 1
  · obtain ⟨o, e⟩ := okp_one h h1
    have hp := okp_pos h
    rw [e] at hi ⊢
    have : i = 0 := by simpa using hi
    subst this
    exact ⟨o, by simp; omega⟩
  · by_cases h2 : ptN (a.getD 0 (0, 0, 0)).1 = 2
    · obtain ⟨o1, o2, hl, _, e⟩ := okp_two h h2
      have p1 := okp_pos o1
      rw [e] at hi ⊢
      have : i = 0 ∨ i = 1 := by simp at hi; omega
      rcases this with rfl | rfl
      · exact ⟨o1, by show (lefT a).length < _; omega⟩
      · exact ⟨o2, by show (rigT a).length < _; omega⟩
    · rw [prtsT, if_neg h1, if_neg h2] at hi
      simp at hi
variable {n : Int} {xs vs ws : List Int}
theorem ev_at (h : OKP a) (h0 : (a.getD 0 (0, 0, 0)).1 ≤ 3) : evL n xs vs a ws = (PF.atm (a.getD 0 (0, 0, 0)).1 (a.getD 0 (0, 0, 0)).2.1 (a.getD 0 (0, 0, 0)).2.2).ev n xs vs ws := by
  obtain ⟨t, ht, rfl⟩ := h
  rw [evL_fl ht]
  cases t with
  | atm k x y => rfl
  | bi k L R =>
    simp only [PF.ok] at ht
    simp only [PF.fl, List.getD_cons_zero] at h0
    omega
  | qu k x L =>
    simp only [PF.ok] at ht
    simp only [PF.fl, List.getD_cons_zero] at h0
    omega
theorem ev_bi (h : OKP a) (h2 : ptN (a.getD 0 (0, 0, 0)).1 = 2) : evL n xs vs a ws = if (a.getD 0 (0, 0, 0)).1 = 4 then evL n xs vs (lefT a) ws && evL n xs vs (rigT a) ws else if (a.getD 0 (0, 0, 0)).1 = 5 then evL n xs vs (lefT a) ws || evL n xs vs (rigT a) ws else !evL n xs vs (lefT a) ws || evL n xs vs (rigT a) ws := by
  have h2' := (ptN_two _).1 h2
  obtain ⟨t, ht, rfl⟩ := h
  rw [evL_fl ht]
  cases t with
  | atm k x y =>
    simp only [PF.ok] at ht
    simp only [PF.fl, List.getD_cons_zero] at h2'
    omega
  | qu k x L =>
    simp only [PF.ok] at ht
    simp only [PF.fl, List.getD_cons_zero] at h2'
    omega
  | bi k L R =>
    simp only [PF.ok] at ht
    obtain ⟨b1, b2, b3⟩ := bi_parts (k := k) (R := R) ht.2.1
    rw [b2, b3, evL_fl ht.2.1, evL_fl ht.2.2]
    rfl
theorem ev_qu (h : OKP a) (h1 : ptN (a.getD 0 (0, 0, 0)).1 = 1) : evL n xs vs a ws = if (a.getD 0 (0, 0, 0)).1 = 7 then (List.range n.toNat).all fun v => evL n xs vs (a.drop 1) (ws.set (a.getD 0 (0, 0, 0)).2.1.toNat (v : Int)) else (List.range n.toNat).any fun v => evL n xs vs (a.drop 1) (ws.set (a.getD 0 (0, 0, 0)).2.1.toNat (v : Int)) := by
  have h1' := (ptN_one _).1 h1
  obtain ⟨t, ht, rfl⟩ := h
  rw [evL_fl ht]
  cases t with
  | atm k x y =>
    simp only [PF.ok] at ht
    simp only [PF.fl, List.getD_cons_zero] at h1'
    omega
  | bi k L R =>
    simp only [PF.ok] at ht
    simp only [PF.fl, List.getD_cons_zero] at h1'
    omega
  | qu k x L =>
    simp only [PF.ok] at ht
    have e : (PF.qu k x L).fl.drop 1 = L.fl := rfl
    simp only [e, evL_fl ht.2.2]
    rfl
end

end Go.Proofs.YtgebepfdphmjcaaGreat


/-! Formulas as lists of nodes. -/
namespace Go.Proofs.YtgebepfdphmjcaaGreat
open Go.RowKit Go.Abs

/-- Lengths and joins of the first lists. -/
def lenTo {α : Type} (xss : List (List α)) : Nat → Nat
  | 0 => 0
  | i + 1 => lenTo xss i + (xss.getD i []).length
def joinTo {α : Type} (xss : List (List α)) : Nat → List α
  | 0 => []
  | i + 1 => joinTo xss i ++ xss.getD i []

theorem lenTo_mono {α : Type} (xss : List (List α)) {i j : Nat} (h : i ≤ j) : lenTo xss i ≤ lenTo xss j := by
  induction h with
  | refl => exact Nat.le_refl _
  | step _ ih => exact Nat.le_trans ih (Nat.le_add_right _ _)
theorem lenTo_step {α : Type} (xss : List (List α)) (i : Nat) (h : i < xss.length) : lenTo xss i + (xss.getD i []).length ≤ lenTo xss xss.length := lenTo_mono xss (i := i + 1) h
theorem joinTo_length {α : Type} (xss : List (List α)) (i : Nat) : (joinTo xss i).length = lenTo xss i := by
  induction i with
  | zero => rfl
  | succ i ih => simp [joinTo, lenTo, ih]

theorem l02False_c : CallA Tryz.prog 163 [] (ownA eN 126 2 [(1, 0)]) := by
  refine CallA.of Tryz.func163 rfl (by kernel_rfl) ?_
  exact R.go 10 (R.retE (ownA eN 126 2 [(1, 0)]) (by kernel_rfl) (by kernel_rfl) (by rfl))

theorem l02Var_c (v : Int) : CallA Tryz.prog 164 [AI v] (ownA eN 126 2 [(0, v)]) := by
  refine CallA.of Tryz.func164 rfl (by kernel_rfl) ?_
  exact R.go 11 (R.retE (ownA eN 126 2 [(0, v)]) (by kernel_rfl) (by kernel_rfl) (by rfl))

theorem l02Pair_c (k : Int) (a : List (Int × Int)) (b : List (Int × Int)) (ha : a.length ≤ 1000000) (hb : b.length ≤ 1000000) : CallA Tryz.prog 105 [AI k, LN a, LN b] (ownA eN 126 2 ((k, 0) :: (a ++ b))) := by
  refine CallA.of Tryz.func105 rfl (by kernel_rfl) ?_
  refine R.go 10 (R.app eN [(k, 0)] a 0 126 2 16 (by kernel_rfl) eN_one (by decide) (by first | omega | (simp <;> omega)) (by kernel_rfl) ?_)
  refine R.go 1 (R.app eN ([(k, 0)] ++ a) b 0 126 2 16 (by kernel_rfl) eN_one (by decide) (by first | omega | (simp <;> omega)) (by kernel_rfl) ?_)
  exact R.go 2 (R.retE (ownA eN 126 2 ([(k, 0)] ++ a ++ b)) (by kernel_rfl) (by kernel_rfl) (by first | (rfl) | (exfalso; omega)))

theorem l02Not_c (a : List (Int × Int)) (ha : a.length ≤ 1000000) : CallA Tryz.prog 165 [LN a] (ownA eN 126 2 ((4, 0) :: (a ++ [(1, 0)]))) := by
  refine CallA.of Tryz.func165 rfl (by kernel_rfl) ?_
  refine R.go 7 (R.call true (l02False_c).frz (by kernel_rfl) rfl (by kernel_rfl) ?_)
  refine R.call true (l02Pair_c 4 a [(1, 0)] ha (by first | omega | (simp <;> omega))) (by kernel_rfl) rfl (by kernel_rfl) ?_
  exact R.go 2 (R.retE (ownA eN 126 2 ((4, 0) :: (a ++ [(1, 0)]))) (by kernel_rfl) (by kernel_rfl) (by rfl))

end Go.Proofs.YtgebepfdphmjcaaGreat


/-! Translations of formulas, of both packages. -/
namespace Go.Proofs.YtgebepfdphmjcaaGreat
open Go.RowKit Go.Abs

section
variable {nv : Nat} {a : List (Int × Int)}
theorem root_1 (hok : OKM nv a) (h : partsN (a.getD 0 (0, 0)).1 = 1) : ∃ k s L, (k = 5 ∨ k = 6) ∧ a = (k, s) :: L ∧ OKM nv L := by
  rcases okm_cases hok with ⟨v, rfl, _⟩ | ⟨s, rfl⟩ | ⟨k, s, L, R, hk, rfl, _⟩ | ⟨k, s, L, hk, rfl, hL⟩
  · exact absurd h (by simp [partsN])
  · exact absurd h (by simp [partsN])
  · simp only [List.getD_cons_zero] at h
    rw [(partsN_two k).2 hk] at h
    omega
  · exact ⟨k, s, L, hk, rfl, hL⟩
theorem peX_one (hok : OKM nv a) (h : partsN (a.getD 0 (0, 0)).1 = 1) : peX 1 a 1 = a.length := by
  obtain ⟨k, s, L, _, rfl, hL⟩ := root_1 hok h
  simp [peX, hL.1]
  omega
theorem peX_two (hok : OKM nv a) (h : partsN (a.getD 0 (0, 0)).1 = 2) : peX 1 a (peX 1 a 1).toNat = a.length ∧ a.drop (peX 1 a 1).toNat = rig a := by
  obtain ⟨x, L, R, rfl, hL, hR, e, _, er⟩ := okm_two hok h
  rw [e, er, show (1 + (L.length : Int)).toNat = L.length + 1 by omega]
  have hd : (x :: (L ++ R)).drop (L.length + 1) = R := by simp
  refine ⟨?_, hd⟩
  unfold peX
  rw [hd, hR.1]
  simp
  omega
end

theorem growT_c (n : Nat) (h0 : 0 < n) (hn : n ≤ 1000000000) : CallA Tryz.prog 193 [.nil, AI (n : Int)] (ownA eT 89 3 []) := by
  refine CallA.of Tryz.func193 rfl (by kernel_rfl) ?_
  refine R.go 10 (R.cond ((n : Int) < 0) (by kernel_rfl) (fun c1 => ?_) (fun c1 => ?_))
  · exfalso; omega -- op ('other', 'makeInterface')
  · refine R.go 10 (R.ar ((n : Int)) (by kernel_rfl) (by omega) (by omega) (by kernel_rfl) ?_)
    refine R.go 7 (R.cond ((n : Int) > 0) (by kernel_rfl) (fun c2 => ?_) (fun c2 => ?_))
    · refine R.go 6 (R.appZ eT (0, 0, 0) 89 24 n (n : Int) (by kernel_rfl) rfl (by omega) (by decide) (by omega) (by kernel_rfl) ?_)
      refine R.go 2 (R.cut eT (List.replicate n (0, 0, 0)) 0 89 0 0 (by kernel_rfl) rfl eT_len (by first | omega | (simp <;> omega)) (by kernel_rfl) ?_)
      exact R.go 7 (R.retE (ownA eT 89 3 ((List.replicate n (0, 0, 0)).take 0)) (by kernel_rfl) (by kernel_rfl) (by first | (rfl) | (exfalso; omega)))
    · refine R.go 6 (R.nil 4 89 3 (by kernel_rfl) ?_)
      exact R.retE (ownA eT 89 3 []) (by kernel_rfl) (by kernel_rfl) (by rfl)

theorem concatT_c (xss : List (List (Int × Int × Int))) (h0 : 0 < lenTo xss xss.length) (hn : lenTo xss xss.length ≤ 1000000000) (hl : xss.length ≤ 1000000) : CallA Tryz.prog 173 [LLT xss] (ownA eT 89 3 (joinTo xss xss.length)) := by
  refine CallA.of Tryz.func173 rfl (by kernel_rfl) ?_
  refine R.go 16 (R.loop ((fun | (i, sz) => (⟨(frm 36 [(0, LLT xss), (3, AI (sz : Int)), (9, LLT xss), (10, AI xss.length), (11, AI (i : Int))]), []⟩ : St) : Nat × Nat → St)) (fun | (i, sz) => (i ≤ xss.length) ∧ (sz = lenTo xss i)) (fun | (i, sz) => xss.length - i) (0, 0) [0, 3, 9, 10, 11] none (by kernel_rfl) (by kernel_rfl) (by kernel_rfl) ⟨(by omega), (by rfl)⟩ ?_)
  rintro ⟨i, sz⟩ ⟨h4_1, rfl⟩ R1 N2
  refine R.go 5 (R.cond ((i : Int) < (xss.length : Int)) (by kernel_rfl) (fun c5 => ?_) (fun c5 => ?_))
  · refine R.go 5 (R.idx eLT xss [] i (i : Int) (by kernel_rfl) rfl eLT_len (by omega) (by kernel_rfl) ?_)
    have hs : lenTo xss i + (xss.getD i []).length ≤ lenTo xss xss.length := lenTo_step xss i (by omega)
    refine R.go 8 (R.ar (((lenTo xss i) : Int) + ((xss.getD i []).length : Int)) (by kernel_rfl) (by omega) (by omega) (by kernel_rfl) ?_)
    refine R.go 7 (R.cond ((((lenTo xss i) : Int) + ((xss.getD i []).length : Int)) < 0) (by kernel_rfl) (fun c6 => ?_) (fun c6 => ?_))
    · exfalso; omega -- op ('other', 'makeInterface')
    · refine R.go 3 (R.ar ((i : Int) + 1) (by kernel_rfl) (by omega) (by omega) (by kernel_rfl) ?_)
      exact R.go 2 (R.stop R1 (by kernel_rfl) (N2 (i + 1, lenTo xss i + ((xss.getD i []).length)) [0, 3, 9, 10, 11] none _ (by kernel_rfl) (by kernel_rfl) ⟨(by omega), (by rfl)⟩ (by show (xss.length - (i + 1)) < (xss.length - i); omega)))
  · have hs : lenTo xss i = lenTo xss xss.length := by rw [show i = xss.length by omega]
    refine R.go 4 (R.call true (growT_c (lenTo xss i) (by omega) (by omega)) (by kernel_rfl) rfl (by kernel_rfl) ?_)
    refine R.go 10 (R.loop ((fun | (i, ys) => (⟨(frm 36 [(6, .ref 0), (25, LLT xss), (26, AI xss.length), (27, AI (i : Int))]), [rowA eT 89 3 ys]⟩ : St) : Nat × (List (Int × Int × Int)) → St)) (fun | (i, ys) => (i ≤ xss.length) ∧ (ys = joinTo xss i)) (fun | (i, ys) => xss.length - i) (0, []) [6, 25, 26, 27] none (by kernel_rfl) (by kernel_rfl) (by kernel_rfl) ⟨(by omega), (by rfl)⟩ ?_)
    rintro ⟨i, ys⟩ ⟨h10_1, rfl⟩ R7 N8
    refine R.go 5 (R.cond ((i : Int) < (xss.length : Int)) (by kernel_rfl) (fun c11 => ?_) (fun c11 => ?_))
    · refine R.go 5 (R.idx eLT xss [] i (i : Int) (by kernel_rfl) rfl eLT_len (by omega) (by kernel_rfl) ?_)
      have hs : (joinTo xss i).length + (xss.getD i []).length ≤ lenTo xss xss.length := by rw [joinTo_length]; exact lenTo_step xss i (by omega)
      refine R.go 6 (R.app eT (joinTo xss i) (xss.getD i []) 0 89 3 24 (by kernel_rfl) eT_one (by decide) (by first | omega | (simp <;> omega)) (by kernel_rfl) ?_)
      refine R.go 4 (R.ar ((i : Int) + 1) (by kernel_rfl) (by omega) (by omega) (by kernel_rfl) ?_)
      exact R.go 2 (R.stop R7 (by kernel_rfl) (N8 (i + 1, (joinTo xss i) ++ (xss.getD i [])) [6, 25, 26, 27] none _ (by kernel_rfl) (by kernel_rfl) ⟨(by omega), (by rfl)⟩ (by show (xss.length - (i + 1)) < (xss.length - i); omega)))
    · exact R.go 6 (R.retE (ownA eT 89 3 (joinTo xss i)) (by kernel_rfl) (by kernel_rfl) (by first | (rw [show i = xss.length by omega]) | (exfalso; omega)))

theorem pointAtom_c (k : Int) (x : Int) (y : Int) : CallA Tryz.prog 114 [AI k, AI x, AI y] (ownA eT 89 3 [(k, x, y)]) := by
  refine CallA.of Tryz.func114 rfl (by kernel_rfl) ?_
  exact R.go 13 (R.retE (ownA eT 89 3 [(k, x, y)]) (by kernel_rfl) (by kernel_rfl) (by rfl))

theorem l10One_c (k : Int) (x : Int) (y : Int) : CallA Tryz.prog 120 [AI k, AI x, AI y] (ownA eT 89 3 [(k, x, y)]) := by
  refine CallA.of Tryz.func120 rfl (by kernel_rfl) ?_
  exact R.go 13 (R.retE (ownA eT 89 3 [(k, x, y)]) (by kernel_rfl) (by kernel_rfl) (by rfl))

theorem pointFalse_c : CallA Tryz.prog 115 [] (ownA eT 89 3 [(3, 0, 0)]) := by
  refine CallA.of Tryz.func115 rfl (by kernel_rfl) ?_
  exact R.go 10 (R.retE (ownA eT 89 3 [(3, 0, 0)]) (by kernel_rfl) (by kernel_rfl) (by rfl))

theorem l10False_c : CallA Tryz.prog 121 [] (ownA eT 89 3 [(3, 0, 0)]) := by
  refine CallA.of Tryz.func121 rfl (by kernel_rfl) ?_
  exact R.go 10 (R.retE (ownA eT 89 3 [(3, 0, 0)]) (by kernel_rfl) (by kernel_rfl) (by rfl))

theorem pointJoin_c (k : Int) (a : List (Int × Int × Int)) (b : List (Int × Int × Int)) (ha : a.length ≤ 1000000) (hb : b.length ≤ 1000000) : CallA Tryz.prog 118 [AI k, LT a, LT b] (ownA eT 89 3 ((k, 0, 0) :: (a ++ b))) := by
  refine CallA.of Tryz.func118 rfl (by kernel_rfl) ?_
  refine R.go 11 (R.frz 0 (by kernel_rfl) ?_)
  refine R.lit (s := 1) (n := 3) (cs := rows eLT [[(k, 0, 0)], a, b]) (by kernel_rfl) (by kernel_rfl) ?_
  refine R.call true (concatT_c [[(k, 0, 0)], a, b] (by simp [lenTo] <;> omega) (by simp [lenTo] <;> omega) (by simp)) (by kernel_rfl) rfl (by kernel_rfl) ?_
  exact R.go 2 (R.retE (ownA eT 89 3 (joinTo [[(k, 0, 0)], a, b] [[(k, 0, 0)], a, b].length)) (by kernel_rfl) (by kernel_rfl) (by first | (simp [joinTo]) | (exfalso; omega)))

theorem l10Pair_c (k : Int) (a : List (Int × Int × Int)) (b : List (Int × Int × Int)) (ha : a.length ≤ 1000000) (hb : b.length ≤ 1000000) : CallA Tryz.prog 122 [AI k, LT a, LT b] (ownA eT 89 3 ((k, 0, 0) :: (a ++ b))) := by
  refine CallA.of Tryz.func122 rfl (by kernel_rfl) ?_
  refine R.go 10 (R.app eT [(k, 0, 0)] a 0 89 3 24 (by kernel_rfl) eT_one (by decide) (by first | omega | (simp <;> omega)) (by kernel_rfl) ?_)
  refine R.go 1 (R.app eT ([(k, 0, 0)] ++ a) b 0 89 3 24 (by kernel_rfl) eT_one (by decide) (by first | omega | (simp <;> omega)) (by kernel_rfl) ?_)
  exact R.go 2 (R.retE (ownA eT 89 3 ([(k, 0, 0)] ++ a ++ b)) (by kernel_rfl) (by kernel_rfl) (by first | (rfl) | (exfalso; omega)))

theorem quantified_c (k : Int) (x : Int) (a : List (Int × Int × Int)) (ha : a.length ≤ 1000000) : CallA Tryz.prog 171 [AI k, AI x, LT a] (ownA eT 89 3 ((k, x, 0) :: a)) := by
  refine CallA.of Tryz.func171 rfl (by kernel_rfl) ?_
  refine R.go 11 (R.frz 0 (by kernel_rfl) ?_)
  refine R.lit (s := 1) (n := 2) (cs := rows eLT [[(k, x, 0)], a]) (by kernel_rfl) (by kernel_rfl) ?_
  refine R.call true (concatT_c [[(k, x, 0)], a] (by simp [lenTo] <;> omega) (by simp [lenTo] <;> omega) (by simp)) (by kernel_rfl) rfl (by kernel_rfl) ?_
  exact R.go 2 (R.retE (ownA eT 89 3 (joinTo [[(k, x, 0)], a] [[(k, x, 0)], a].length)) (by kernel_rfl) (by kernel_rfl) (by first | (simp [joinTo]) | (exfalso; omega)))

theorem l10Bind_c (k : Int) (x : Int) (a : List (Int × Int × Int)) (ha : a.length ≤ 1000000) : CallA Tryz.prog 64 [AI k, AI x, LT a] (ownA eT 89 3 ((k, x, 0) :: a)) := by
  refine CallA.of Tryz.func64 rfl (by kernel_rfl) ?_
  refine R.go 11 (R.app eT [(k, x, 0)] a 0 89 3 24 (by kernel_rfl) eT_one (by decide) (by first | omega | (simp <;> omega)) (by kernel_rfl) ?_)
  exact R.go 2 (R.retE (ownA eT 89 3 ([(k, x, 0)] ++ a)) (by kernel_rfl) (by kernel_rfl) (by first | (rfl) | (exfalso; omega)))

/-- The translation of a formula. -/
def trK : Nat → List (Int × Int) → Int → List (Int × Int × Int)
  | 0, _, _ => []
  | k + 1, a, x =>
    if (a.getD 0 (0, 0)).1 = 0 then [(2, (a.getD 0 (0, 0)).2, x)]
    else if (a.getD 0 (0, 0)).1 = 1 then [(3, 0, 0)]
    else if (a.getD 0 (0, 0)).1 = 5 then (7, 1 - x, 0) :: (6, 0, 0) :: ([(0, x, 1 - x)] ++ trK k (a.drop 1) (1 - x))
    else if (a.getD 0 (0, 0)).1 = 6 then (8, 1 - x, 0) :: (4, 0, 0) :: ([(0, x, 1 - x)] ++ trK k (a.drop 1) (1 - x))
    else ((a.getD 0 (0, 0)).1 + 2, 0, 0) :: (trK k (lef a) x ++ trK k (rig a) x)
theorem trK_fuel {nv : Nat} : ∀ (k k' : Nat) (a : List (Int × Int)) (x : Int), OKM nv a → a.length ≤ k → a.length ≤ k' → trK k a x = trK k' a x
  | 0, _, a, _, ha, h, _ => by have := okm_pos ha; omega
  | _ + 1, 0, a, _, ha, _, h => by have := okm_pos ha; omega
  | k + 1, k' + 1, a, x, ha, h, h' => by
    have hg := (okm_get ha 0 (okm_pos ha))
    rw [trK, trK]
    by_cases e0 : (a.getD 0 (0, 0)).1 = 0
    · rw [if_pos e0, if_pos e0]
    by_cases e1 : (a.getD 0 (0, 0)).1 = 1
    · rw [if_neg e0, if_pos e1, if_neg e0, if_pos e1]
    by_cases e5 : (a.getD 0 (0, 0)).1 = 5 ∨ (a.getD 0 (0, 0)).1 = 6
    · have ht := okm_tail ha (partsN_1 e5)
      rw [trK_fuel k k' (a.drop 1) (1 - x) ht (by rw [List.length_drop]; omega) (by rw [List.length_drop]; omega)]
      rcases e5 with e5 | e5
      · rw [if_neg e0, if_neg e1, if_pos e5, if_neg e0, if_neg e1, if_pos e5]
      · rw [if_neg e0, if_neg e1, if_neg (by omega), if_pos e5, if_neg e0, if_neg e1, if_neg (by omega), if_pos e5]
    · have h2 : partsN (a.getD 0 (0, 0)).1 = 2 := (partsN_two _).2 (by omega)
      have hl := lenm_lef ha h2
      rw [trK_fuel k k' (lef a) x (okm_lef ha h2) (by omega) (by omega), trK_fuel k k' (rig a) x (okm_rig ha h2) (by omega) (by omega)]
      rw [if_neg e0, if_neg e1, if_neg (by omega), if_neg (by omega), if_neg e0, if_neg e1, if_neg (by omega), if_neg (by omega)]
def trnL (a : List (Int × Int)) (x : Int) : List (Int × Int × Int) := trK a.length a x
section
variable {nv : Nat} {a : List (Int × Int)} {x : Int} (ha : OKM nv a)
include ha
theorem trn_0 (h : (a.getD 0 (0, 0)).1 = 0) : trnL a x = [(2, (a.getD 0 (0, 0)).2, x)] := by
  have hp := okm_pos ha
  obtain ⟨m, hm⟩ : ∃ m, a.length = m + 1 := ⟨a.length - 1, by omega⟩
  rw [trnL, hm, trK, if_pos h]
theorem trn_1 (h : (a.getD 0 (0, 0)).1 = 1) : trnL a x = [(3, 0, 0)] := by
  have hp := okm_pos ha
  obtain ⟨m, hm⟩ : ∃ m, a.length = m + 1 := ⟨a.length - 1, by omega⟩
  rw [trnL, hm, trK, if_neg (by omega), if_pos h]
theorem trn_5 (h : (a.getD 0 (0, 0)).1 = 5) : trnL a x = (7, 1 - x, 0) :: (6, 0, 0) :: ([(0, x, 1 - x)] ++ trnL (a.drop 1) (1 - x)) := by
  have hp := okm_pos ha
  obtain ⟨m, hm⟩ : ∃ m, a.length = m + 1 := ⟨a.length - 1, by omega⟩
  have ht := okm_tail ha (partsN_1 (.inl h))
  rw [trnL, hm, trK, if_neg (by omega), if_neg (by omega), if_pos h, trnL, trK_fuel m _ _ _ ht (by rw [List.length_drop]; omega) (Nat.le_refl _)]
theorem trn_6 (h : (a.getD 0 (0, 0)).1 = 6) : trnL a x = (8, 1 - x, 0) :: (4, 0, 0) :: ([(0, x, 1 - x)] ++ trnL (a.drop 1) (1 - x)) := by
  have hp := okm_pos ha
  obtain ⟨m, hm⟩ : ∃ m, a.length = m + 1 := ⟨a.length - 1, by omega⟩
  have ht := okm_tail ha (partsN_1 (.inr h))
  rw [trnL, hm, trK, if_neg (by omega), if_neg (by omega), if_neg (by omega), if_pos h, trnL, trK_fuel m _ _ _ ht (by rw [List.length_drop]; omega) (Nat.le_refl _)]
theorem trn_2 (h : (a.getD 0 (0, 0)).1 = 2 ∨ (a.getD 0 (0, 0)).1 = 3 ∨ (a.getD 0 (0, 0)).1 = 4) : trnL a x = ((a.getD 0 (0, 0)).1 + 2, 0, 0) :: (trnL (lef a) x ++ trnL (rig a) x) := by
  have hp := okm_pos ha
  obtain ⟨m, hm⟩ : ∃ m, a.length = m + 1 := ⟨a.length - 1, by omega⟩
  have h2 : partsN (a.getD 0 (0, 0)).1 = 2 := (partsN_two _).2 h
  have hl := lenm_lef ha h2
  rw [trnL, hm, trK, if_neg (by omega), if_neg (by omega), if_neg (by omega), if_neg (by omega), trnL, trnL, trK_fuel m _ _ _ (okm_lef ha h2) (by omega) (Nat.le_refl _), trK_fuel m _ _ _ (okm_rig ha h2) (by omega) (Nat.le_refl _)]
end
theorem okm_sum {nv : Nat} {a : List (Int × Int)} (ha : OKM nv a) (h2 : partsN (a.getD 0 (0, 0)).1 = 2) : (lef a).length + (rig a).length + 1 = a.length := by
  obtain ⟨x, L, R, e, _, _, _, h4, h5⟩ := okm_two ha h2
  rw [h4, h5, e]
  simp
theorem trn_len {nv : Nat} {a : List (Int × Int)} (ha : OKM nv a) : ∀ (x : Int), (trnL a x).length ≤ 3 * a.length := by
  have main : ∀ (m : Nat) (a : List (Int × Int)), a.length = m → OKM nv a → ∀ x : Int, (trnL a x).length ≤ 3 * a.length := by
    intro m
    induction m using Nat.strongRecOn with
    | _ m ih =>
      intro a hm ha x
      have hp := okm_pos ha
      have hg := (okm_get ha 0 hp)
      by_cases e0 : (a.getD 0 (0, 0)).1 = 0
      · rw [trn_0 ha e0]; simp; omega
      by_cases e1 : (a.getD 0 (0, 0)).1 = 1
      · rw [trn_1 ha e1]; simp; omega
      by_cases e5 : (a.getD 0 (0, 0)).1 = 5 ∨ (a.getD 0 (0, 0)).1 = 6
      · have ht := okm_tail ha (partsN_1 e5)
        have := ih _ (by rw [List.length_drop]; omega) (a.drop 1) rfl ht (1 - x)
        rw [List.length_drop] at this
        rcases e5 with e5 | e5
        · rw [trn_5 ha e5]; simp only [List.length_cons, List.length_append, List.length_nil]; omega
        · rw [trn_6 ha e5]; simp only [List.length_cons, List.length_append, List.length_nil]; omega
      · have h2' : (a.getD 0 (0, 0)).1 = 2 ∨ (a.getD 0 (0, 0)).1 = 3 ∨ (a.getD 0 (0, 0)).1 = 4 := by omega
        have h2 : partsN (a.getD 0 (0, 0)).1 = 2 := (partsN_two _).2 h2'
        have hl := lenm_lef ha h2
        have hs : (lef a).length + (rig a).length + 1 = a.length := okm_sum ha h2
        have i1 := ih _ (by omega) (lef a) rfl (okm_lef ha h2) x
        have i2 := ih _ (by omega) (rig a) rfl (okm_rig ha h2) x
        rw [trn_2 ha h2']; simp only [List.length_cons, List.length_append]; omega
  exact main _ a rfl ha

end Go.Proofs.YtgebepfdphmjcaaGreat
