/- Texts of the proof: SymM, E01, S02. -/
import Derived.Test.YtehbliocfpppoaaGreatPartG

/-! Calls told by what holds behind them, under further frames that lie anywhere among the objects. -/
namespace Go.Abs
open Go.RowKit Go.ChangeShapes Go.WideShapes Go.Deep
mutual
theorem Rel.mixJ {w w' : World} {Z Z' : Nat → Prop} {μ μ1 μ2 : List Value} {js : List Nat} (hA : ∀ (i : Nat) u, js.contains i = true → μ1[js.idxOf i]? = some u → μ2[i]? = some u) (hB : ∀ (i : Nat) u, js.contains i = false → μ[i]? = some u → μ2[i]? = some u) :
  ∀ {c : AV} {v : Value}, Rel w Z μ c v → Rel w' Z' μ1 (c.ren js) v → Rel w' Z' μ2 c v
 | .int _ _, _, _, h => by simpa [Rel, AV.ren] using h
 | .bool _, _, _, h => by simpa [Rel, AV.ren] using h
 | .str _, _, _, h => by simpa [Rel, AV.ren] using h
 | .nil, _, _, h => by simpa [Rel, AV.ren] using h
 | .top, _, _, _ => by simp [Rel]
 | .own _ _ _ _, _, h, _ => by simp [Rel] at h
 | .lst _ _ _, _, _, h => by simpa [Rel, AV.ren] using h
 | .clp _ _ _, _, _, h => by simpa [Rel, AV.ren] using h
 | .nam _ _ _ _ _, _, _, h => by simpa [Rel, AV.ren] using h
 | .rptr _, _, _, h => by simpa [Rel, AV.ren] using h
 | .ref i, v, h1, h2 => by
  simp only [Rel] at h1 ⊢
  cases hc : js.contains i with
  | true =>
   simp only [AV.ren, hc, if_true, Rel] at h2
   exact hA i v hc h2
  | false => exact hB i v hc h1
 | .ptr i o, v, h1, h2 => by
  simp only [Rel] at h1 ⊢
  cases hc : js.contains i with
  | true =>
   simp only [AV.ren, hc, if_true, Rel] at h2
   obtain ⟨u, g, e1, e2, e3⟩ := h2
   exact ⟨u, g, hA i u hc e1, e2, e3⟩
  | false =>
   obtain ⟨u, g, e1, e2, e3⟩ := h1
   exact ⟨u, g, hB i u hc e1, e2, e3⟩
 | .agg cs, v, h1, h2 => by
  simp only [Rel, AV.ren] at h1 h2 ⊢
  obtain ⟨xs, e1, r1⟩ := h1
  obtain ⟨ys, e2, r2⟩ := h2
  rw [e1] at e2
  simp only [Value.agg.injEq] at e2
  have e3 : xs = ys := by simpa using e2
  subst e3
  exact ⟨xs, e1, RelL.mixJ hA hB r1 r2⟩
 | .tup cs, v, h1, h2 => by
  simp only [Rel, AV.ren] at h1 h2 ⊢
  obtain ⟨xs, e1, r1⟩ := h1
  obtain ⟨ys, e2, r2⟩ := h2
  rw [e1] at e2
  simp only [Value.tuple.injEq] at e2
  have e3 : xs = ys := by simpa using e2
  subst e3
  exact ⟨xs, e1, RelL.mixJ hA hB r1 r2⟩
 | .fn f cs, v, h1, h2 => by
  simp only [Rel, AV.ren] at h1 h2 ⊢
  obtain ⟨xs, e1, r1⟩ := h1
  obtain ⟨ys, e2, r2⟩ := h2
  rw [e1] at e2
  simp only [Value.func.injEq, true_and] at e2
  have e3 : xs = ys := by simpa using e2
  subst e3
  exact ⟨xs, e1, RelL.mixJ hA hB r1 r2⟩
theorem RelL.mixJ {w w' : World} {Z Z' : Nat → Prop} {μ μ1 μ2 : List Value} {js : List Nat} (hA : ∀ (i : Nat) u, js.contains i = true → μ1[js.idxOf i]? = some u → μ2[i]? = some u) (hB : ∀ (i : Nat) u, js.contains i = false → μ[i]? = some u → μ2[i]? = some u) :
  ∀ {cs : List AV} {vs : List Value}, RelL w Z μ cs vs → RelL w' Z' μ1 (renL js cs) vs → RelL w' Z' μ2 cs vs
 | [], _, _, h => by simpa [RelL, renL] using h
 | c :: cs, _, h1, h2 => by
  simp only [RelL, renL] at h1 h2 ⊢
  obtain ⟨x, xs, e1, a1, b1⟩ := h1
  obtain ⟨y, ys, e2, a2, b2⟩ := h2
  rw [e1] at e2
  simp only [List.cons.injEq] at e2
  obtain ⟨rfl, rfl⟩ := e2
  exact ⟨x, xs, e1, Rel.mixJ hA hB a1 a2, RelL.mixJ hA hB b1 b2⟩
end
def insI (k n : Nat) : List Nat := List.range k ++ (List.range (n - k)).map (· + (k + 1))
theorem insI_get {k n j : Nat} (hk : k ≤ n) (hj : j < n) : (insI k n)[j]? = some (if j < k then j else j + 1) := by
 unfold insI
 rcases Nat.lt_or_ge j k with h | h
 ·rw [List.getElem?_append_left (by simpa using h)]
  simp [h]
 ·rw [List.getElem?_append_right (by simpa using h)]
  simp only [List.length_range, List.getElem?_map]
  rw [List.getElem?_range (by omega)]
  simp only [Option.map_some, if_neg (Nat.not_lt.2 h), Option.some.injEq]
  omega
theorem insI_length {k n : Nat} (hk : k ≤ n) : (insI k n).length = n := by
 unfold insI
 simp
 omega
theorem insI_mem {k n i : Nat} (hk : k ≤ n) (hi : i ≤ n) (hne : i ≠ k) : (insI k n).contains i = true := by
 have : i ∈ insI k n := by
  rcases Nat.lt_or_ge i k with h | h
  ·exact List.mem_of_getElem? (i := i) (by rw [insI_get hk (by omega), if_pos h])
  ·exact List.mem_of_getElem? (i := i - 1) (by rw [insI_get hk (by omega), if_neg (by omega)]; congr 1; omega)
 simpa using this
theorem insI_nodup {k n : Nat} (hk : k ≤ n) : (insI k n).Nodup := by
 unfold insI
 rw [List.nodup_append]
 refine ⟨List.nodup_range, ?_, ?_⟩
 ·rw [List.nodup_iff_pairwise_ne, List.pairwise_map]
  exact List.nodup_range.imp fun h e => h (by omega)
 ·intro a ha b hb e
  rw [List.mem_range] at ha
  rw [List.mem_map] at hb
  obtain ⟨c, _, hc⟩ := hb
  omega
theorem insI_idx {k n i : Nat} (hk : k ≤ n) (hc : (insI k n).contains i = true) : (insI k n).idxOf i < n ∧ i = (if (insI k n).idxOf i < k then (insI k n).idxOf i else (insI k n).idxOf i + 1) := by
 have hm : i ∈ insI k n := by simpa using hc
 have hlt := List.idxOf_lt_length_iff.2 hm
 have hlt' : (insI k n).idxOf i < n := by rw [insI_length hk] at hlt; exact hlt
 refine ⟨hlt', ?_⟩
 have h1 := List.getElem_idxOf hlt
 have h2 := insI_get hk hlt'
 rw [List.getElem?_eq_getElem hlt, h1] at h2
 exact Option.some.inj h2
theorem insJ_lo {k m j : Nat} (hj : j < k) : (insJ k m)[j]? = some j := by
 unfold insJ
 rw [List.getElem?_append_left (by simpa using hj)]
 simp [hj]
theorem insJ_at {k m : Nat} : (insJ k m)[k]? = some m := by
 unfold insJ
 rw [List.getElem?_append_right (by simp)]
 simp
theorem insJ_hi {k m j : Nat} (hj : k ≤ j) (hm : j < m) : (insJ k m)[j + 1]? = some j := by
 unfold insJ
 rw [List.getElem?_append_right (by simp; omega)]
 have e : j + 1 - (List.range k).length = (j - k) + 1 := by simp; omega
 rw [e, List.getElem?_cons_succ, List.getElem?_map, List.getElem?_range (by omega)]
 simp
 omega
section
variable {P : Program}
theorem CallX.inF {f : FuncId} {args : List AV} {hp : List AObj} {Φ : AV → List AObj → Prop} (k : Nat) (us2 : List Value) (fr2 : List AV) (hc : CallX P f args hp Φ) (hk : k ≤ hp.length)
  (h1 : renH (insI k hp.length) (insF k us2 fr2 hp) = hp) (h2 : renL (insI k hp.length) (renL (insJ k hp.length) args) = args) (h3 : ∀ r h', Φ r h' → hp.length ≤ h'.length) :
  CallX P f (renL (insJ k hp.length) args) (insF k us2 fr2 hp) fun r h => ∃ res hp', Φ res hp' ∧ r = res.ren (insJ k hp'.length) ∧ h = insF k us2 fr2 hp' := by
 obtain ⟨hen, hc⟩ := hc
 refine ⟨hen, ?_⟩
 intro Z0 F w0 w μ vs us fr hFb hH hvs hus hbel
 have hHl : (insF k us2 fr2 hp).length = hp.length + 1 := by
  unfold insF renH insJ
  simp
  omega
 have hml : μ.length = hp.length + 1 := by rw [hH.len, hHl]
 have hH0 := hH.ren (insI k hp.length) (insI_nodup hk)
 have e0 : ((insI k hp.length).map fun i => ((insF k us2 fr2 hp).getD i .dead).ren (insI k hp.length)) = hp := h1
 rw [e0] at hH0
 have hvs0 := hvs.ren (insI k hp.length)
 rw [h2] at hvs0
 have hn2 : (insF k us2 fr2 hp)[k]? = some (.frame us2 fr2) := by
  unfold insF
  rw [List.getElem?_set_self]
  have : (renH (insJ k hp.length) (hp ++ [.dead])).length = hp.length + 1 := by unfold renH insJ; simp; omega
  omega
 obtain ⟨u, hu⟩ : ∃ u, μ[k]? = some u := ⟨_, List.getElem?_eq_getElem (by omega)⟩
 have hf2 : RelL w (Zone Z0 F w0.heap.size) μ fr2 us2 := hH.obj _ _ u hn2 hu
 have hus0 := (hus.append hf2).ren (insI k hp.length)
 refine (hc Z0 F w0 w _ vs (us ++ us2) _ hFb hH0 hvs0 hus0 hbel).mono ?_
 rintro e w' ⟨v, μ1, F1, res, hp', hΦ, rfl, hF1, hH1, hres, hfr1, hb1⟩
 have h3 := h3 _ _ hΦ
 have hm1 := hH1.len
 have hHd := hH1.addDead u (hH.one _ u hu)
 have hH2 := hHd.ren (insJ k hp'.length) (insJ_nodup (by omega))
 obtain ⟨μ2, hμ2⟩ : ∃ μ2, μ2 = ((insJ k hp'.length).map fun i => (μ1 ++ [u]).getD i (.bool false)) := ⟨_, rfl⟩
 have hA : ∀ (i : Nat) x, (insI k hp.length).contains i = true → μ1[(insI k hp.length).idxOf i]? = some x → μ2[i]? = some x := by
  intro i x hi hx
  obtain ⟨g1, g2⟩ := insI_idx hk hi
  generalize (insI k hp.length).idxOf i = j at g1 g2 hx
  have hj : (insJ k hp'.length)[i]? = some j := by
   split at g2
   ·rw [g2]; exact insJ_lo (by assumption)
   ·rw [g2]; exact insJ_hi (by omega) (by omega)
  rw [hμ2, List.getElem?_map, hj]
  simp only [Option.map_some, List.getD_eq_getElem?_getD]
  rw [List.getElem?_append_left (List.getElem?_eq_some_iff.1 hx).1, hx]
  rfl
 have hB : ∀ (i : Nat) x, (insI k hp.length).contains i = false → μ[i]? = some x → μ2[i]? = some x := by
  intro i x hi hx
  have hlt := (List.getElem?_eq_some_iff.1 hx).1
  have hin : i = k := by
   refine Classical.byContradiction fun hne => ?_
   have := insI_mem hk (i := i) (by omega) hne
   rw [this] at hi
   cases hi
  subst hin
  rw [hu] at hx
  rw [hμ2, List.getElem?_map, insJ_at]
  simp only [Option.map_some, List.getD_eq_getElem?_getD]
  rw [List.getElem?_append_right (by omega), hm1]
  simpa using hx
 rw [← hμ2] at hH2
 have hall := RelL.mixJ hA hB (hus.append hf2) hfr1
 have hul := hus.length
 have hfr : RelL w' (Zone Z0 F1 w0.heap.size) μ2 fr us := by
  have := hall.take fr.length
  rwa [List.take_left, ← hul, List.take_left] at this
 have hfr2 : RelL w' (Zone Z0 F1 w0.heap.size) μ2 fr2 us2 := by
  have := hall.drop fr.length
  rwa [List.drop_left, ← hul, List.drop_left] at this
 refine ⟨v, μ2, F1, _, _, ⟨res, hp', hΦ, rfl, rfl⟩, rfl, hF1, ?_, ?_, hfr, hb1⟩
 ·refine hH2.frameAt ?_ hfr2
  rw [List.getElem?_map, insJ_at]
  simp [AObj.ren]
 ·rw [hμ2]
  exact Rel.ren _ (Rel.keep (w := w') (fun _ _ _ => rfl) (fun i u hu => append_old i u hu) hres)
theorem k26a {f : FuncId} {args : List AV} {hp : List AObj} {Φ : AV → List AObj → Prop} (k : Nat) (us2 : List Value) (fr2 : List AV) (hc : CallX P f args hp Φ) (hk : k ≤ hp.length := by exact Nat.le_of_ble_eq_true (by kernel_rfl)) (h1 : renH (insI k hp.length) (insF k us2 fr2 hp) = hp := by kernel_rfl) (h2 : renL (insI k hp.length) (renL (insJ k hp.length) args) = args := by kernel_rfl) (h3 : ∀ r h', Φ r h' → hp.length ≤ h'.length := by rintro _ _ ⟨_, _, _, _, rfl, rfl⟩; exact Nat.le_of_ble_eq_true (by kernel_rfl)) : CallX P f (renL (insJ k hp.length) args) (insF k us2 fr2 hp) fun r h => ∃ res hp', Φ res hp' ∧ r = res.ren (insJ k hp'.length) ∧ h = insF k us2 fr2 hp' := _root_.Go.Abs.CallX.inF k us2 fr2 hc hk h1 h2 h3
theorem k26b {f : FuncId} {args : List AV} {hp : List AObj} {Φ : AV → List AObj → Prop} (k : Nat) (us2 : List Value) (fr2 : List AV) (hc : CallX P f args hp Φ) (hk : k ≤ hp.length := by exact Nat.le_of_ble_eq_true (by kernel_rfl)) (h1 : renH (insI k hp.length) (insF k us2 fr2 hp) = hp := by kernel_rfl) (h2 : renL (insI k hp.length) (renL (insJ k hp.length) args) = args := by kernel_rfl) (h3 : ∀ r h', Φ r h' → hp.length ≤ h'.length := by rintro _ _ ⟨_, _, ⟨_, ⟨_, ⟨_, _, _, _, rfl, rfl⟩, rfl⟩, rfl⟩, rfl, rfl⟩; exact Nat.le_of_ble_eq_true (by kernel_rfl)) : CallX P f (renL (insJ k hp.length) args) (insF k us2 fr2 hp) fun r h => ∃ res hp', Φ res hp' ∧ r = res.ren (insJ k hp'.length) ∧ h = insF k us2 fr2 hp' := _root_.Go.Abs.CallX.inF k us2 fr2 hc hk h1 h2 h3
theorem k26c {f : FuncId} {args : List AV} {hp : List AObj} {Φ : AV → List AObj → Prop} (k : Nat) (us2 : List Value) (fr2 : List AV) (hc : CallX P f args hp Φ) (hk : k ≤ hp.length := by exact Nat.le_of_ble_eq_true (by kernel_rfl)) (h1 : renH (insI k hp.length) (insF k us2 fr2 hp) = hp := by kernel_rfl) (h2 : renL (insI k hp.length) (renL (insJ k hp.length) args) = args := by kernel_rfl) (h3 : ∀ r h', Φ r h' → hp.length ≤ h'.length := by rintro _ _ ⟨_, _, rfl, rfl⟩; exact Nat.le_of_ble_eq_true (by kernel_rfl)) : CallX P f (renL (insJ k hp.length) args) (insF k us2 fr2 hp) fun r h => ∃ res hp', Φ res hp' ∧ r = res.ren (insJ k hp'.length) ∧ h = insF k us2 fr2 hp' := _root_.Go.Abs.CallX.inF k us2 fr2 hc hk h1 h2 h3
theorem k26d {f : FuncId} {args : List AV} {hp : List AObj} {Φ : AV → List AObj → Prop} (k : Nat) (us2 : List Value) (fr2 : List AV) (hc : CallX P f args hp Φ) (hk : k ≤ hp.length := by exact Nat.le_of_ble_eq_true (by kernel_rfl)) (h1 : renH (insI k hp.length) (insF k us2 fr2 hp) = hp := by kernel_rfl) (h2 : renL (insI k hp.length) (renL (insJ k hp.length) args) = args := by kernel_rfl) (h3 : ∀ r h', Φ r h' → hp.length ≤ h'.length := by rintro _ _ ⟨_, ⟨_, _, _, _, rfl, rfl⟩, rfl⟩; exact Nat.le_of_ble_eq_true (by kernel_rfl)) : CallX P f (renL (insJ k hp.length) args) (insF k us2 fr2 hp) fun r h => ∃ res hp', Φ res hp' ∧ r = res.ren (insJ k hp'.length) ∧ h = insF k us2 fr2 hp' := _root_.Go.Abs.CallX.inF k us2 fr2 hc hk h1 h2 h3
theorem k26e {f : FuncId} {args : List AV} {hp : List AObj} {Φ : AV → List AObj → Prop} (k : Nat) (us2 : List Value) (fr2 : List AV) (hc : CallX P f args hp Φ) (hk : k ≤ hp.length := by exact Nat.le_of_ble_eq_true (by kernel_rfl)) (h1 : renH (insI k hp.length) (insF k us2 fr2 hp) = hp := by kernel_rfl) (h2 : renL (insI k hp.length) (renL (insJ k hp.length) args) = args := by kernel_rfl) (h3 : ∀ r h', Φ r h' → hp.length ≤ h'.length := by rintro _ _ ⟨_, _, _, _, _, rfl, rfl⟩; exact Nat.le_of_ble_eq_true (by kernel_rfl)) : CallX P f (renL (insJ k hp.length) args) (insF k us2 fr2 hp) fun r h => ∃ res hp', Φ res hp' ∧ r = res.ren (insJ k hp'.length) ∧ h = insF k us2 fr2 hp' := _root_.Go.Abs.CallX.inF k us2 fr2 hc hk h1 h2 h3
theorem k26f {f : FuncId} {args : List AV} {hp : List AObj} {Φ : AV → List AObj → Prop} (k : Nat) (us2 : List Value) (fr2 : List AV) (hc : CallX P f args hp Φ) (hk : k ≤ hp.length := by exact Nat.le_of_ble_eq_true (by kernel_rfl)) (h1 : renH (insI k hp.length) (insF k us2 fr2 hp) = hp := by kernel_rfl) (h2 : renL (insI k hp.length) (renL (insJ k hp.length) args) = args := by kernel_rfl) (h3 : ∀ r h', Φ r h' → hp.length ≤ h'.length := by rintro _ _ ⟨_, _, ⟨_, _, ⟨_, ⟨_, ⟨_, _, _, _, rfl, rfl⟩, rfl⟩, rfl⟩, rfl, rfl⟩, rfl, rfl⟩; exact Nat.le_of_ble_eq_true (by kernel_rfl)) : CallX P f (renL (insJ k hp.length) args) (insF k us2 fr2 hp) fun r h => ∃ res hp', Φ res hp' ∧ r = res.ren (insJ k hp'.length) ∧ h = insF k us2 fr2 hp' := _root_.Go.Abs.CallX.inF k us2 fr2 hc hk h1 h2 h3
theorem k26g {f : FuncId} {args : List AV} {hp : List AObj} {Φ : AV → List AObj → Prop} (k : Nat) (us2 : List Value) (fr2 : List AV) (hc : CallX P f args hp Φ) (hk : k ≤ hp.length := by exact Nat.le_of_ble_eq_true (by kernel_rfl)) (h1 : renH (insI k hp.length) (insF k us2 fr2 hp) = hp := by kernel_rfl) (h2 : renL (insI k hp.length) (renL (insJ k hp.length) args) = args := by kernel_rfl) (h3 : ∀ r h', Φ r h' → hp.length ≤ h'.length := by rintro _ _ ⟨_, _, ⟨_, _, ⟨_, _, ⟨_, ⟨_, ⟨_, _, _, _, rfl, rfl⟩, rfl⟩, rfl⟩, rfl, rfl⟩, rfl, rfl⟩, rfl, rfl⟩; exact Nat.le_of_ble_eq_true (by kernel_rfl)) : CallX P f (renL (insJ k hp.length) args) (insF k us2 fr2 hp) fun r h => ∃ res hp', Φ res hp' ∧ r = res.ren (insJ k hp'.length) ∧ h = insF k us2 fr2 hp' := _root_.Go.Abs.CallX.inF k us2 fr2 hc hk h1 h2 h3
theorem k26h {f : FuncId} {args : List AV} {hp : List AObj} {Φ : AV → List AObj → Prop} (k : Nat) (us2 : List Value) (fr2 : List AV) (hc : CallX P f args hp Φ) (hk : k ≤ hp.length := by exact Nat.le_of_ble_eq_true (by kernel_rfl)) (h1 : renH (insI k hp.length) (insF k us2 fr2 hp) = hp := by kernel_rfl) (h2 : renL (insI k hp.length) (renL (insJ k hp.length) args) = args := by kernel_rfl) (h3 : ∀ r h', Φ r h' → hp.length ≤ h'.length := by rintro _ _ ⟨_, _, ⟨_, _, ⟨_, _, ⟨_, ⟨_, ⟨_, ⟨_, _, _, _, rfl, rfl⟩, rfl⟩, rfl⟩, rfl⟩, rfl, rfl⟩, rfl, rfl⟩, rfl, rfl⟩; exact Nat.le_of_ble_eq_true (by kernel_rfl)) : CallX P f (renL (insJ k hp.length) args) (insF k us2 fr2 hp) fun r h => ∃ res hp', Φ res hp' ∧ r = res.ren (insJ k hp'.length) ∧ h = insF k us2 fr2 hp' := _root_.Go.Abs.CallX.inF k us2 fr2 hc hk h1 h2 h3
theorem k26i {f : FuncId} {args : List AV} {hp : List AObj} {Φ : AV → List AObj → Prop} (k : Nat) (us2 : List Value) (fr2 : List AV) (hc : CallX P f args hp Φ) (hk : k ≤ hp.length := by exact Nat.le_of_ble_eq_true (by kernel_rfl)) (h1 : renH (insI k hp.length) (insF k us2 fr2 hp) = hp := by kernel_rfl) (h2 : renL (insI k hp.length) (renL (insJ k hp.length) args) = args := by kernel_rfl) (h3 : ∀ r h', Φ r h' → hp.length ≤ h'.length := by rintro _ _ ⟨_, _, ⟨_, _, ⟨_, ⟨_, ⟨_, ⟨_, _, _, _, rfl, rfl⟩, rfl⟩, rfl⟩, rfl⟩, rfl, rfl⟩, rfl, rfl⟩; exact Nat.le_of_ble_eq_true (by kernel_rfl)) : CallX P f (renL (insJ k hp.length) args) (insF k us2 fr2 hp) fun r h => ∃ res hp', Φ res hp' ∧ r = res.ren (insJ k hp'.length) ∧ h = insF k us2 fr2 hp' := _root_.Go.Abs.CallX.inF k us2 fr2 hc hk h1 h2 h3
theorem k26j {f : FuncId} {args : List AV} {hp : List AObj} {Φ : AV → List AObj → Prop} (k : Nat) (us2 : List Value) (fr2 : List AV) (hc : CallX P f args hp Φ) (hk : k ≤ hp.length := by exact Nat.le_of_ble_eq_true (by kernel_rfl)) (h1 : renH (insI k hp.length) (insF k us2 fr2 hp) = hp := by kernel_rfl) (h2 : renL (insI k hp.length) (renL (insJ k hp.length) args) = args := by kernel_rfl) (h3 : ∀ r h', Φ r h' → hp.length ≤ h'.length := by rintro _ _ ⟨_, _, ⟨_, ⟨_, ⟨_, ⟨_, _, _, _, rfl, rfl⟩, rfl⟩, rfl⟩, rfl⟩, rfl, rfl⟩; exact Nat.le_of_ble_eq_true (by kernel_rfl)) : CallX P f (renL (insJ k hp.length) args) (insF k us2 fr2 hp) fun r h => ∃ res hp', Φ res hp' ∧ r = res.ren (insJ k hp'.length) ∧ h = insF k us2 fr2 hp' := _root_.Go.Abs.CallX.inF k us2 fr2 hc hk h1 h2 h3
theorem k26k {f : FuncId} {args : List AV} {hp : List AObj} {Φ : AV → List AObj → Prop} (k : Nat) (us2 : List Value) (fr2 : List AV) (hc : CallX P f args hp Φ) (hk : k ≤ hp.length := by exact Nat.le_of_ble_eq_true (by kernel_rfl)) (h1 : renH (insI k hp.length) (insF k us2 fr2 hp) = hp := by kernel_rfl) (h2 : renL (insI k hp.length) (renL (insJ k hp.length) args) = args := by kernel_rfl) (h3 : ∀ r h', Φ r h' → hp.length ≤ h'.length := by rintro _ _ ⟨_, _, ⟨_, _, ⟨_, ⟨_, _, _, _, rfl, rfl⟩, rfl⟩, rfl, rfl⟩, rfl, rfl⟩; exact Nat.le_of_ble_eq_true (by kernel_rfl)) : CallX P f (renL (insJ k hp.length) args) (insF k us2 fr2 hp) fun r h => ∃ res hp', Φ res hp' ∧ r = res.ren (insJ k hp'.length) ∧ h = insF k us2 fr2 hp' := _root_.Go.Abs.CallX.inF k us2 fr2 hc hk h1 h2 h3
theorem k26l {f : FuncId} {args : List AV} {hp : List AObj} {Φ : AV → List AObj → Prop} (k : Nat) (us2 : List Value) (fr2 : List AV) (hc : CallX P f args hp Φ) (hk : k ≤ hp.length := by exact Nat.le_of_ble_eq_true (by kernel_rfl)) (h1 : renH (insI k hp.length) (insF k us2 fr2 hp) = hp := by kernel_rfl) (h2 : renL (insI k hp.length) (renL (insJ k hp.length) args) = args := by kernel_rfl) (h3 : ∀ r h', Φ r h' → hp.length ≤ h'.length := by rintro _ _ ⟨_, _, ⟨_, ⟨_, _, _, _, rfl, rfl⟩, rfl⟩, rfl, rfl⟩; exact Nat.le_of_ble_eq_true (by kernel_rfl)) : CallX P f (renL (insJ k hp.length) args) (insF k us2 fr2 hp) fun r h => ∃ res hp', Φ res hp' ∧ r = res.ren (insJ k hp'.length) ∧ h = insF k us2 fr2 hp' := _root_.Go.Abs.CallX.inF k us2 fr2 hc hk h1 h2 h3
end
section
variable {P : Program}
theorem CallX.perm {f : FuncId} {args : List AV} {hp : List AObj} {Φ : AV → List AObj → Prop} (js ks : List Nat) (hc : CallX P f args hp Φ)
  (hk : (decide js.Nodup && decide ks.Nodup && decide (js.length = hp.length) && js.all (fun i => decide (i < hp.length)) && ks.all (fun i => decide (i < hp.length)) && (List.range hp.length).all fun i => ks.contains i && decide (js[i]? = some (ks.idxOf i))) = true)
  (h1 : renH ks (renH js hp) = hp) (h2 : renL ks (renL js args) = args) (h3 : ∀ r h', Φ r h' → hp.length ≤ h'.length) :
  CallX P f (renL js args) (renH js hp) fun r h => ∃ res hp', Φ res hp' ∧ r = res.ren (js ++ (List.range (hp'.length - hp.length)).map (· + hp.length)) ∧ h = renH (js ++ (List.range (hp'.length - hp.length)).map (· + hp.length)) hp' := by
 obtain ⟨hen, hc⟩ := hc
 refine ⟨hen, ?_⟩
 simp only [Bool.and_eq_true, decide_eq_true_eq, List.all_eq_true, List.mem_range] at hk
 obtain ⟨⟨⟨⟨⟨k1, k2⟩, k3⟩, k4⟩, k6⟩, k5⟩ := hk
 intro Z0 F w0 w μ vs us fr hFb hH hvs hus hbel
 have hml : μ.length = hp.length := by rw [hH.len]; unfold renH; simp [k3]
 have hH0 := hH.ren ks k2
 have e0 : (ks.map fun i => ((renH js hp).getD i .dead).ren ks) = hp := h1
 rw [e0] at hH0
 have hvs0 := hvs.ren ks
 rw [h2] at hvs0
 have hus0 := hus.ren ks
 refine (hc Z0 F w0 w _ vs us _ hFb hH0 hvs0 hus0 hbel).mono ?_
 rintro e w' ⟨v, μ1, F1, res, hp', hΦ, rfl, hF1, hH1, hres, hfr1, hb1⟩
 have h3 := h3 _ _ hΦ
 have hm1 := hH1.len
 obtain ⟨js', hjs'⟩ : ∃ js', js' = js ++ (List.range (hp'.length - hp.length)).map (· + hp.length) := ⟨_, rfl⟩
 have hnd : js'.Nodup := by
  rw [hjs', List.nodup_append]
  refine ⟨k1, ?_, ?_⟩
  ·rw [List.nodup_iff_pairwise_ne, List.pairwise_map]
   exact List.nodup_range.imp fun h e => h (by omega)
  ·intro a ha b hb e
   rw [List.mem_map] at hb
   obtain ⟨c, _, hc⟩ := hb
   have := k4 a ha
   omega
 have hH2 := hH1.ren js' hnd
 refine ⟨v, _, F1, res.ren js', renH js' hp', ⟨res, hp', hΦ, by rw [hjs'], by rw [hjs']⟩, rfl, hF1, hH2, Rel.ren js' hres, RelL.mixJ ?_ ?_ hus hfr1, hb1⟩
 ·intro i x hi hx
  have hlt : i < hp.length := k6 i (by simpa using hi)
  have h5 := (k5 i hlt).2
  have hj' : js'[i]? = some (ks.idxOf i) := by
   rw [hjs', List.getElem?_append_left (by omega)]; exact h5
  rw [List.getElem?_map, hj']
  simp only [Option.map_some, List.getD_eq_getElem?_getD, hx, Option.getD_some]
 ·intro i x hi hx
  have hlt := (List.getElem?_eq_some_iff.1 hx).1
  have := (k5 i (by omega)).1
  rw [this] at hi
  cases hi
end

theorem fit_idx {n i : Nat} {js : List Nat} (hjs : js.take n = List.range n) (hi : i < n) : js.contains i = true ∧ js.idxOf i = i := by
 have e : js = List.range n ++ js.drop n := by rw [← hjs, List.take_append_drop]
 have hm : i ∈ List.range n := List.mem_range.2 hi
 refine ⟨?_, ?_⟩
 ·have : i ∈ js := by rw [e]; exact List.mem_append_left _ hm
  simpa using this
 ·rw [e, List.idxOf_append, if_pos hm, idx_range hi]
mutual
theorem Rel.fitR {w : World} {Z : Nat → Prop} {μ : List Value} {js : List Nat} (hjs : js.take μ.length = List.range μ.length) : ∀ {c : AV} {v : Value}, Rel w Z μ c v → c.ren js = c
 | .int _ _, _, _ => rfl
 | .bool _, _, _ => rfl
 | .str _, _, _ => rfl
 | .nil, _, _ => rfl
 | .top, _, _ => rfl
 | .own _ _ _ _, _, _ => rfl
 | .lst _ _ _, _, _ => rfl
 | .clp _ _ _, _, _ => rfl
 | .nam _ _ _ _ _, _, _ => rfl
 | .rptr _, _, _ => rfl
 | .ref i, v, h => by
  simp only [Rel] at h
  obtain ⟨h1, h2⟩ := fit_idx hjs (List.getElem?_eq_some_iff.1 h).1
  simp only [AV.ren, h1, h2, if_true]
 | .ptr i o, v, h => by
  simp only [Rel] at h
  obtain ⟨u, g, h, _⟩ := h
  obtain ⟨h1, h2⟩ := fit_idx hjs (List.getElem?_eq_some_iff.1 h).1
  simp only [AV.ren, h1, h2, if_true]
 | .agg cs, v, h => by
  simp only [Rel] at h
  obtain ⟨xs, _, h⟩ := h
  simp only [AV.ren, RelL.fitR hjs h]
 | .tup cs, v, h => by
  simp only [Rel] at h
  obtain ⟨xs, _, h⟩ := h
  simp only [AV.ren, RelL.fitR hjs h]
 | .fn f cs, v, h => by
  simp only [Rel] at h
  obtain ⟨xs, _, h⟩ := h
  simp only [AV.ren, RelL.fitR hjs h]
theorem RelL.fitR {w : World} {Z : Nat → Prop} {μ : List Value} {js : List Nat} (hjs : js.take μ.length = List.range μ.length) : ∀ {cs : List AV} {vs : List Value}, RelL w Z μ cs vs → renL js cs = cs
 | [], _, _ => rfl
 | c :: cs, _, h => by
  simp only [RelL] at h
  obtain ⟨x, xs, _, h1, h2⟩ := h
  simp only [renL, Rel.fitR hjs h1, RelL.fitR hjs h2]
end
mutual
theorem Rel.fitK {w : World} {Z : Nat → Prop} {μ : List Value} {k : Nat} (hk : μ.length ≤ k) : ∀ {c : AV} {v : Value}, Rel w Z μ c v → c.kill k = c
 | .int _ _, _, _ => rfl
 | .bool _, _, _ => rfl
 | .str _, _, _ => rfl
 | .nil, _, _ => rfl
 | .top, _, _ => rfl
 | .own _ _ _ _, _, _ => rfl
 | .lst _ _ _, _, _ => rfl
 | .clp _ _ _, _, _ => rfl
 | .nam _ _ _ _ _, _, _ => rfl
 | .rptr _, _, _ => rfl
 | .ref i, v, h => by
  simp only [Rel] at h
  have := (List.getElem?_eq_some_iff.1 h).1
  simp only [AV.kill]
  rw [if_neg (by omega)]
 | .ptr i o, v, h => by
  simp only [Rel] at h
  obtain ⟨u, g, h, _⟩ := h
  have := (List.getElem?_eq_some_iff.1 h).1
  simp only [AV.kill]
  rw [if_neg (by omega)]
 | .agg cs, v, h => by
  simp only [Rel] at h
  obtain ⟨xs, _, h⟩ := h
  simp only [AV.kill, RelL.fitK hk h]
 | .tup cs, v, h => by
  simp only [Rel] at h
  obtain ⟨xs, _, h⟩ := h
  simp only [AV.kill, RelL.fitK hk h]
 | .fn f cs, v, h => by
  simp only [Rel] at h
  obtain ⟨xs, _, h⟩ := h
  simp only [AV.kill, RelL.fitK hk h]
theorem RelL.fitK {w : World} {Z : Nat → Prop} {μ : List Value} {k : Nat} (hk : μ.length ≤ k) : ∀ {cs : List AV} {vs : List Value}, RelL w Z μ cs vs → killL k cs = cs
 | [], _, _ => rfl
 | c :: cs, _, h => by
  simp only [RelL] at h
  obtain ⟨x, xs, _, h1, h2⟩ := h
  simp only [killL, Rel.fitK hk h1, RelL.fitK hk h2]
end
mutual
theorem Rel.fitF {w : World} {Z : Nat → Prop} {μ : List Value} {k : Nat} {r : AV} (hk : μ.length ≤ k) : ∀ {c : AV} {v : Value}, Rel w Z μ c v → frzV k r c = c
 | .int _ _, _, _ => rfl
 | .bool _, _, _ => rfl
 | .str _, _, _ => rfl
 | .nil, _, _ => rfl
 | .top, _, _ => rfl
 | .own _ _ _ _, _, _ => rfl
 | .lst _ _ _, _, _ => rfl
 | .clp _ _ _, _, _ => rfl
 | .nam _ _ _ _ _, _, _ => rfl
 | .rptr _, _, _ => rfl
 | .ref i, v, h => by
  simp only [Rel] at h
  have := (List.getElem?_eq_some_iff.1 h).1
  simp only [frzV]
  rw [if_neg (by omega)]
 | .ptr i o, v, h => by
  simp only [Rel] at h
  obtain ⟨u, g, h, _⟩ := h
  have := (List.getElem?_eq_some_iff.1 h).1
  simp only [frzV]
  rw [if_neg (by omega)]
 | .agg cs, v, h => by
  simp only [Rel] at h
  obtain ⟨xs, _, h⟩ := h
  simp only [frzV, RelL.fitF hk h]
 | .tup cs, v, h => by
  simp only [Rel] at h
  obtain ⟨xs, _, h⟩ := h
  simp only [frzV, RelL.fitF hk h]
 | .fn f cs, v, h => by
  simp only [Rel] at h
  obtain ⟨xs, _, h⟩ := h
  simp only [frzV, RelL.fitF hk h]
theorem RelL.fitF {w : World} {Z : Nat → Prop} {μ : List Value} {k : Nat} {r : AV} (hk : μ.length ≤ k) : ∀ {cs : List AV} {vs : List Value}, RelL w Z μ cs vs → frzL k r cs = cs
 | [], _, _ => rfl
 | c :: cs, _, h => by
  simp only [RelL] at h
  obtain ⟨x, xs, _, h1, h2⟩ := h
  simp only [frzL, Rel.fitF hk h1, RelL.fitF hk h2]
end
structure Fits (n : Nat) (fr : List AV) : Prop where
 ren : ∀ js : List Nat, js.take n = List.range n → renL js fr = fr
 kill : ∀ i, n ≤ i → killL i fr = fr
 frz : ∀ i r, n ≤ i → frzL i r fr = fr
section
variable {rd : Option Nat} {P : Program} {m : M} {Q : Exit → St → Prop}
theorem CallX.ofF {f : FuncId} {fn : Func} {c : Code} {args : List AV} {hp : List AObj} {Φ : AV → List AObj → Prop} (hf : P.funcs[f]? = some fn) (hb : fn.body = some c) (hnm : (fn.name == "runtime.NumGoroutine") = false)
  (h : ∀ us fr, Fits hp.length fr → Runs none P ⟨[.code c], ⟨frameOf fn.ntmps args, hp ++ [.frame us fr]⟩⟩ (retX P fn hp.length us fr Φ)) : CallX P f args hp Φ := by
 refine ⟨enters_of hf hnm (by rw [hb]; rfl), ?_⟩
 intro Z0 F w0 w μ vs us fr hFb hH hvs hus hbel
 have hml := hH.len
 have hfit : Fits hp.length fr := ⟨fun js hjs => RelL.fitR (by rw [hml]; exact hjs) hus, fun i hi => RelL.fitK (by rw [hml]; exact hi) hus, fun i r hi => RelL.fitF (by rw [hml]; exact hi) hus⟩
 ·have hlen := hvs.length
  refine calls_of_wpIn hf hb ?_
  have hS : Sim Z0 w0 ⟨frameOf fn.ntmps args, hp ++ [.frame us fr]⟩ { tmps := vs.toArray ++ Array.replicate (fn.ntmps - vs.toArray.size) undef, defers := [] } w := by
   refine ⟨μ ++ [.bool false], F, hFb, hH.extend1 (zone_new hbel.size hFb) (Below.refl _ _) ?_ (fun g hg => by simp [blk] at hg) rfl, ?_, .inl rfl, hbel⟩
   ·exact RelL.keep (w := w) (fun _ _ _ => rfl) (fun i u hu => append_old i u hu) hus
   ·simp only [Array.toList_append, Array.toList_replicate, List.size_toArray, hlen, frameOf]
    refine RelL.append (RelL.keep (w := w) (fun _ _ _ => rfl) (fun i u hu => append_old i u hu) hvs) ?_
    generalize fn.ntmps - args.length = n
    induction n with
    | zero => exact RelL.nil
    | succ n ih => exact RelL.cons (by simp [Rel]) ih
  have hrun2 := h us fr hfit
  simp only [runs_iff] at hrun2
  simp only [RunsK] at hrun2
  refine wpIn_mono (hrun2 Z0 w0 _ w hS) ?_
  have fin : ∀ (e : Exit) (st' : St) (a' : Act) (w' : World), retX P fn hp.length us fr Φ e st' → Sim Z0 w0 st' a' w' → a'.defers = [] ∧ ∃ v, (results fn a'.tmps).run P w' = .ok v w' ∧ ∃ v' μ' F' res hp', Φ res hp' ∧ Ending.returned v = .returned v' ∧ (∀ b, F' b → w0.heap.size ≤ b ∧ b < w'.heap.size) ∧ HRel w' (Zone Z0 F' w0.heap.size) w0.heap.size μ' hp' ∧ Rel w' (Zone Z0 F' w0.heap.size) μ' res v' ∧ RelL w' (Zone Z0 F' w0.heap.size) μ' fr us ∧ Below w0.heap.size w0 w' := by
   rintro e st' a' w' ⟨res, hp', hΦ, _, hres, hfr, hh⟩ ⟨μ', F', hFb', hH', hF', hd', hbel'⟩
   obtain ⟨x, h1, h2⟩ := resIn_run hH' hF' hres
   unfold frameAt at hfr
   split at hfr
   ·rename_i us2 fr2 hi
    cases hfr
    have hil : hp.length < μ'.length := by rw [hH'.len]; exact (List.getElem?_eq_some_iff.1 hi).1
    have hfrr : RelL w' (Zone Z0 F' w0.heap.size) μ' fr us := hH'.obj _ _ _ hi (List.getElem?_eq_getElem hil)
    exact ⟨hd'.none (resIn_mark hres), x, h1, x, μ', F', res, hp', hΦ, rfl, hFb', hh ▸ hH'.bury _, h2, hfrr, hbel'⟩
   ·cases hfr
  rintro e a' w' ⟨st', hq, hS'⟩
  cases e with
  | normal => exact fin _ st' a' w' hq hS'
  | ret => exact fin _ st' a' w' hq hS'
  | exit id => (obtain ⟨_, _, _, hq, _⟩ := hq; exact absurd hq (by simp))
  | goto l => (obtain ⟨_, _, _, hq, _⟩ := hq; exact absurd hq (by simp))
  | panic ch => (obtain ⟨_, _, _, hq, _⟩ := hq; exact absurd hq (by simp))
  | outgrown => (obtain ⟨_, _, _, hq, _⟩ := hq; exact absurd hq (by simp))
theorem R.kfix (n : Nat) {us : List Value} {fr fr2 : List AV} (h0 : m.st.hp[n]? = some (.frame us fr2)) (hk : fr2 = fr) (h' : Runs rd P ⟨m.ks, ⟨m.st.fr, m.st.hp.set n (.frame us fr)⟩⟩ Q) : Runs rd P m Q := by
 subst hk
 obtain ⟨ks, ⟨f, hp⟩⟩ := m
 have e : hp.set n (.frame us fr2) = hp := by
  refine List.ext_getElem? fun i => ?_
  rw [List.getElem?_set]
  split
  ·rename_i hi
   subst hi
   simp only at h0
   have hlt := (List.getElem?_eq_some_iff.1 h0).1
   rw [if_pos hlt, h0]
  ·rfl
 simp only [e] at h'
 exact h'
theorem canonF {ks : List Nat} {js : List Nat} {st s' : St} {fr : List AV} (S : List AV → St) (hfit : renL js fr = fr) (h1 : canon ks (some js) st = S (renL js fr)) (h2 : S fr = s') : canon ks (some js) st = s' := by rw [h1, hfit, h2]
end

mutual
theorem Rel.mixK {w w' : World} {Z Z' : Nat → Prop} {μ μ1 μ2 : List Value} {j : Nat} (hA : ∀ (i : Nat) u, i ≠ j → μ1[i]? = some u → μ2[i]? = some u) (hB : ∀ u, μ[j]? = some u → μ2[j]? = some u) :
  ∀ {c : AV} {v : Value}, Rel w Z μ c v → Rel w' Z' μ1 (c.kill j) v → Rel w' Z' μ2 c v
 | .int _ _, _, _, h => by simpa [Rel, AV.kill] using h
 | .bool _, _, _, h => by simpa [Rel, AV.kill] using h
 | .str _, _, _, h => by simpa [Rel, AV.kill] using h
 | .nil, _, _, h => by simpa [Rel, AV.kill] using h
 | .top, _, _, _ => by simp [Rel]
 | .own _ _ _ _, _, h, _ => by simp [Rel] at h
 | .lst _ _ _, _, _, h => by simpa [Rel, AV.kill] using h
 | .clp _ _ _, _, _, h => by simpa [Rel, AV.kill] using h
 | .nam _ _ _ _ _, _, _, h => by simpa [Rel, AV.kill] using h
 | .rptr _, _, _, h => by simpa [Rel, AV.kill] using h
 | .ref i, v, h1, h2 => by
  simp only [Rel] at h1 ⊢
  by_cases hi : i = j
  ·subst hi; exact hB v h1
  ·simp only [AV.kill, if_neg hi, Rel] at h2
   exact hA i v hi h2
 | .ptr i o, v, h1, h2 => by
  simp only [Rel] at h1 ⊢
  by_cases hi : i = j
  ·subst hi
   obtain ⟨u, g, e1, e2, e3⟩ := h1
   exact ⟨u, g, hB u e1, e2, e3⟩
  ·simp only [AV.kill, if_neg hi, Rel] at h2
   obtain ⟨u, g, e1, e2, e3⟩ := h2
   exact ⟨u, g, hA i u hi e1, e2, e3⟩
 | .agg cs, v, h1, h2 => by
  simp only [Rel, AV.kill] at h1 h2 ⊢
  obtain ⟨xs, e1, r1⟩ := h1
  obtain ⟨ys, e2, r2⟩ := h2
  rw [e1] at e2
  simp only [Value.agg.injEq] at e2
  have e3 : xs = ys := by simpa using e2
  subst e3
  exact ⟨xs, e1, RelL.mixK hA hB r1 r2⟩
 | .tup cs, v, h1, h2 => by
  simp only [Rel, AV.kill] at h1 h2 ⊢
  obtain ⟨xs, e1, r1⟩ := h1
  obtain ⟨ys, e2, r2⟩ := h2
  rw [e1] at e2
  simp only [Value.tuple.injEq] at e2
  have e3 : xs = ys := by simpa using e2
  subst e3
  exact ⟨xs, e1, RelL.mixK hA hB r1 r2⟩
 | .fn f cs, v, h1, h2 => by
  simp only [Rel, AV.kill] at h1 h2 ⊢
  obtain ⟨xs, e1, r1⟩ := h1
  obtain ⟨ys, e2, r2⟩ := h2
  rw [e1] at e2
  simp only [Value.func.injEq, true_and] at e2
  have e3 : xs = ys := by simpa using e2
  subst e3
  exact ⟨xs, e1, RelL.mixK hA hB r1 r2⟩
theorem RelL.mixK {w w' : World} {Z Z' : Nat → Prop} {μ μ1 μ2 : List Value} {j : Nat} (hA : ∀ (i : Nat) u, i ≠ j → μ1[i]? = some u → μ2[i]? = some u) (hB : ∀ u, μ[j]? = some u → μ2[j]? = some u) :
  ∀ {cs : List AV} {vs : List Value}, RelL w Z μ cs vs → RelL w' Z' μ1 (killL j cs) vs → RelL w' Z' μ2 cs vs
 | [], _, _, h => by simpa [RelL, killL] using h
 | c :: cs, _, h1, h2 => by
  simp only [RelL, killL] at h1 h2 ⊢
  obtain ⟨x, xs, e1, a1, b1⟩ := h1
  obtain ⟨y, ys, e2, a2, b2⟩ := h2
  rw [e1] at e2
  simp only [List.cons.injEq] at e2
  obtain ⟨rfl, rfl⟩ := e2
  exact ⟨x, xs, e1, Rel.mixK hA hB a1 a2, RelL.mixK hA hB b1 b2⟩
end
theorem HRel.swap {w : World} {Z : Nat → Prop} {B j : Nat} {μ : List Value} {hp : List AObj} {u u' : Value} {o o' : AObj} (h : HRel w Z B μ hp) (hj : hp[j]? = some o) (hu : μ[j]? = some u) (ha : o.alive = true)
  (hblk : blk u' = blk u) (hone : u'.oneCell' = true) (hk : ∀ i oi, i ≠ j → hp[i]? = some oi → oi.kill j = oi) (hnew : ObjRel w Z (μ.set j u') B u' o') : HRel w Z B (μ.set j u') (hp.set j o') := by
 have hjl := (List.getElem?_eq_some_iff.1 hj).1
 have hul := (List.getElem?_eq_some_iff.1 hu).1
 have get : ∀ (i : Nat) oi ui, (hp.set j o')[i]? = some oi → (μ.set j u')[i]? = some ui → (i = j ∧ oi = o' ∧ ui = u') ∨ (i ≠ j ∧ hp[i]? = some oi ∧ μ[i]? = some ui) := by
  intro i oi ui h1 h2
  by_cases e : j = i
  ·subst e
   rw [List.getElem?_set_self hjl] at h1
   rw [List.getElem?_set_self hul] at h2
   simp at h1 h2
   exact .inl ⟨rfl, h1.symm, h2.symm⟩
  ·rw [List.getElem?_set_ne e] at h1 h2
   exact .inr ⟨fun h => e h.symm, h1, h2⟩
 refine ⟨by simp [h.len], fun i oi ui g h1 ha' h2 hg => ?_, fun i x hx => ?_, fun i oi ui h1 h2 => ?_, fun i k oi ok ui uk g hne h1 h2 a1 a2 m1 m2 b1 b2 => ?_⟩
 ·rcases get i oi ui h1 h2 with ⟨rfl, rfl, rfl⟩ | ⟨_, e1, e2⟩
  ·exact h.zone _ o u g hj ha hu (hblk ▸ hg)
  ·exact h.zone i oi ui g e1 ha' e2 hg
 ·by_cases e : j = i
  ·subst e
   rw [List.getElem?_set_self hul] at hx
   simp at hx
   rw [← hx]; exact hone
  ·rw [List.getElem?_set_ne e] at hx
   exact h.one i x hx
 ·rcases get i oi ui h1 h2 with ⟨rfl, rfl, rfl⟩ | ⟨hne, e1, e2⟩
  ·exact hnew
  ·have := (h.obj i oi ui e1 e2).keep_kill (μ' := μ.set j u') j (fun _ _ _ => rfl) (fun k x hk hx => by rw [List.getElem?_set_ne (fun e => hk e.symm)]; exact hx) (fun _ _ => rfl)
   rwa [hk i oi hne e1] at this
 ·rcases get i oi ui h1 m1 with ⟨rfl, rfl, rfl⟩ | ⟨hi, e1, e2⟩ <;> rcases get k ok uk h2 m2 with ⟨rfl, rfl, rfl⟩ | ⟨hk', e3, e4⟩
  ·exact hne rfl
  ·exact h.sep _ k o ok u uk g (fun e => hk' e.symm) hj e3 ha a2 hu e4 (hblk ▸ b1) b2
  ·exact h.sep i _ oi o ui u g hi e1 hj a1 ha e2 hu b1 (hblk ▸ b2)
  ·exact h.sep i k oi ok ui uk g hne e1 e3 a1 a2 e2 e4 b1 b2
theorem CallX.box {P : Program} {f : FuncId} {args : List AV} {hp : List AObj} {Φ : AV → List AObj → Prop} (j : Nat) (t : TypeId) (cs : List AV) (hc : CallX P f args hp Φ) (hj : hp[j]? = some (.list t cs.length 1 cs)) (hl : leafyL cs = true)
  (h1 : hp.map (AObj.kill j) = hp) (h2 : killL j args = args) (h3 : ∀ r h', Φ r h' → h'[j]? = some (.list t cs.length 1 cs) ∧ h'.map (AObj.kill j) = h' ∧ r.kill j = r) :
  CallX P f args (hp.set j (.box t cs)) fun r h => ∃ hp', Φ r hp' ∧ h = hp'.set j (.box t cs) := by
 obtain ⟨hen, hc⟩ := hc
 refine ⟨hen, ?_⟩
 intro Z0 F w0 w μ vs us fr hFb hH hvs hus hbel
 have hjl := (List.getElem?_eq_some_iff.1 hj).1
 have kof : ∀ {l : List AObj}, l.map (AObj.kill j) = l → ∀ (i : Nat) (oi : AObj), l[i]? = some oi → oi.kill j = oi := by
  intro l hl i oi hi
  have := congrArg (fun l : List AObj => l[i]?) hl
  simp only [List.getElem?_map, hi, Option.map_some, Option.some.injEq] at this
  exact this
 have hbj : (hp.set j (.box t cs))[j]? = some (.box t cs) := List.getElem?_set_self hjl
 obtain ⟨u, hu⟩ : ∃ u, μ[j]? = some u := ⟨_, List.getElem?_eq_getElem (by rw [hH.len, List.length_set]; exact hjl)⟩
 have hul := (List.getElem?_eq_some_iff.1 hu).1
 obtain ⟨g, xs, rfl, hBg, hg, hr⟩ := hH.obj j _ u hbj hu
 have hr0 : RelL w (Zone Z0 F w0.heap.size) [] cs xs := RelL.leafy hl hr
 have hxl := hr0.length
 obtain ⟨u', hu'⟩ : ∃ u', u' = Value.slice (some ⟨g, 0, none⟩) 1 1 := ⟨_, rfl⟩
 have hset : ((hp.set j (.box t cs)).set j (.list t cs.length 1 cs)) = hp := by
  rw [List.set_set]
  refine List.ext_getElem? fun i => ?_
  rw [List.getElem?_set]
  split
  ·rename_i e
   subst e
   exact hj.symm
  ·rfl
 have hH0 : HRel w (Zone Z0 F w0.heap.size) w0.heap.size (μ.set j u') hp := by
  have := hH.swap (u' := u') (o' := .list t cs.length 1 cs) hbj hu rfl (by rw [hu']; rfl) (by rw [hu']; rfl) (fun i oi hne hi => kof h1 i oi (by rw [List.getElem?_set_ne (fun e => hne e.symm)] at hi; exact hi)) ⟨xs, ⟨by rw [hxl, Nat.one_mul], .inr ⟨g, 1, xs.toArray, hu', hBg, hg, Nat.le_refl _, by decide, by simp [hxl], by simp [← hxl]⟩⟩, hr0⟩
  rwa [hset] at this
 have hm : ∀ (i : Nat) (x : Value), i ≠ j → μ[i]? = some x → (μ.set j u')[i]? = some x := fun i x hne hx => by rw [List.getElem?_set_ne (fun e => hne e.symm)]; exact hx
 have hvs0 := RelL.keep_kill (w := w) (w' := w) j (fun _ _ _ => rfl) hm hvs
 rw [h2] at hvs0
 have hus0 := RelL.keep_kill (w := w) (w' := w) j (fun _ _ _ => rfl) hm hus
 have hrefj : RelL w (Zone Z0 F w0.heap.size) (μ.set j u') [.ref j] [u'] := RelL.cons (by simp only [Rel]; rw [List.getElem?_set_self hul]) RelL.nil
 refine (hc Z0 F w0 w _ vs (us ++ [u']) _ hFb hH0 hvs0 (hus0.append hrefj) hbel).mono ?_
 rintro e w' ⟨v, μ1, F1, res, hp', hΦ, rfl, hF1, hH1, hres, hfr1, hb1⟩
 obtain ⟨k1, k2, k3⟩ := h3 _ _ hΦ
 have hlen1 := hus0.length
 have hfrA : RelL w' (Zone Z0 F1 w0.heap.size) μ1 (killL j fr) us := by
  have := hfr1.take (killL j fr).length
  rwa [List.take_left, ← hlen1, List.take_left] at this
 have hrj : RelL w' (Zone Z0 F1 w0.heap.size) μ1 [.ref j] [u'] := by
  have := hfr1.drop (killL j fr).length
  rwa [List.drop_left, ← hlen1, List.drop_left] at this
 have hm1 : μ1[j]? = some u' := by
  simp only [RelL, Rel] at hrj
  obtain ⟨x, _, e1, e2, _⟩ := hrj
  simp only [List.cons.injEq] at e1
  rw [e1.1]; exact e2
 have hjl1 := (List.getElem?_eq_some_iff.1 hm1).1
 obtain ⟨xs1, hown, hr1⟩ := hH1.obj j _ u' k1 hm1
 have hcell : w0.heap.size ≤ g ∧ w'.heap[g]? = some (.cells xs1.toArray t (0, 0)) := by
  rcases hown.2 with ⟨e1, _⟩ | ⟨g', cap, cur, e1, e2, e3, e4, e5, e6, e7⟩
  ·rw [hu'] at e1; cases e1
  ·rw [hu'] at e1
   simp only [Value.slice.injEq, Option.some.injEq, Addr.mk.injEq, true_and, and_true] at e1
   obtain ⟨rfl, rfl⟩ := e1
   refine ⟨e2, ?_⟩
   have : cur = xs1.toArray := by
    apply Array.toList_inj.1
    rw [← e7, List.take_of_length_le (by simp [e6])]
   rw [e3, this]
 refine ⟨v, μ1.set j (.pointer (some ⟨g, 0, none⟩)), F1, res, _, ⟨hp', hΦ, rfl⟩, rfl, hF1, ?_, ?_, ?_, hb1⟩
 ·exact hH1.swap k1 hm1 rfl (by rw [hu']; rfl) rfl (fun i oi _ hi => kof k2 i oi hi) ⟨g, xs1, rfl, hcell.1, hcell.2, hr1.lift⟩
 ·have := Rel.keep_kill (w := w') (w' := w') (μ' := μ1.set j (.pointer (some ⟨g, 0, none⟩))) j (fun _ _ _ => rfl) (fun i x hne hx => by rw [List.getElem?_set_ne (fun e => hne e.symm)]; exact hx) hres
  rwa [k3] at this
 ·refine RelL.mixK ?_ ?_ hus hfrA
  ·intro i x hne hx
   rw [List.getElem?_set_ne (fun e => hne e.symm)]; exact hx
  ·intro x hx
   rw [hu] at hx
   rw [List.getElem?_set_self hjl1]
   exact hx
theorem k27a {P : Program} {f : FuncId} {args : List AV} {hp : List AObj} {Φ : AV → List AObj → Prop} (j : Nat) (t : TypeId) (cs : List AV) (hc : CallX P f args hp Φ) (hj : hp[j]? = some (.list t cs.length 1 cs) := by kernel_rfl) (hl : leafyL cs = true := by kernel_rfl) (h1 : hp.map (AObj.kill j) = hp := by kernel_rfl) (h2 : killL j args = args := by kernel_rfl) (h3 : ∀ r h', Φ r h' → h'[j]? = some (.list t cs.length 1 cs) ∧ h'.map (AObj.kill j) = h' ∧ r.kill j = r := by rintro _ _ ⟨_, _, _, _, rfl, rfl⟩; exact ⟨by kernel_rfl, by kernel_rfl, by kernel_rfl⟩) : CallX P f args (hp.set j (.box t cs)) fun r h => ∃ hp', Φ r hp' ∧ h = hp'.set j (.box t cs) := _root_.Go.Abs.CallX.box j t cs hc hj hl h1 h2 h3
theorem k27b {P : Program} {f : FuncId} {args : List AV} {hp : List AObj} {Φ : AV → List AObj → Prop} (j : Nat) (t : TypeId) (cs : List AV) (hc : CallX P f args hp Φ) (hj : hp[j]? = some (.list t cs.length 1 cs) := by kernel_rfl) (hl : leafyL cs = true := by kernel_rfl) (h1 : hp.map (AObj.kill j) = hp := by kernel_rfl) (h2 : killL j args = args := by kernel_rfl) (h3 : ∀ r h', Φ r h' → h'[j]? = some (.list t cs.length 1 cs) ∧ h'.map (AObj.kill j) = h' ∧ r.kill j = r := by rintro _ _ ⟨_, ⟨_, _, _, _, rfl, rfl⟩, rfl⟩; exact ⟨by kernel_rfl, by kernel_rfl, by kernel_rfl⟩) : CallX P f args (hp.set j (.box t cs)) fun r h => ∃ hp', Φ r hp' ∧ h = hp'.set j (.box t cs) := _root_.Go.Abs.CallX.box j t cs hc hj hl h1 h2 h3
theorem k27c {P : Program} {f : FuncId} {args : List AV} {hp : List AObj} {Φ : AV → List AObj → Prop} (j : Nat) (t : TypeId) (cs : List AV) (hc : CallX P f args hp Φ) (hj : hp[j]? = some (.list t cs.length 1 cs) := by kernel_rfl) (hl : leafyL cs = true := by kernel_rfl) (h1 : hp.map (AObj.kill j) = hp := by kernel_rfl) (h2 : killL j args = args := by kernel_rfl) (h3 : ∀ r h', Φ r h' → h'[j]? = some (.list t cs.length 1 cs) ∧ h'.map (AObj.kill j) = h' ∧ r.kill j = r := by rintro _ _ ⟨_, ⟨_, ⟨_, _, _, _, rfl, rfl⟩, rfl⟩, rfl⟩; exact ⟨by kernel_rfl, by kernel_rfl, by kernel_rfl⟩) : CallX P f args (hp.set j (.box t cs)) fun r h => ∃ hp', Φ r hp' ∧ h = hp'.set j (.box t cs) := _root_.Go.Abs.CallX.box j t cs hc hj hl h1 h2 h3
theorem k27d {P : Program} {f : FuncId} {args : List AV} {hp : List AObj} {Φ : AV → List AObj → Prop} (j : Nat) (t : TypeId) (cs : List AV) (hc : CallX P f args hp Φ) (hj : hp[j]? = some (.list t cs.length 1 cs) := by kernel_rfl) (hl : leafyL cs = true := by kernel_rfl) (h1 : hp.map (AObj.kill j) = hp := by kernel_rfl) (h2 : killL j args = args := by kernel_rfl) (h3 : ∀ r h', Φ r h' → h'[j]? = some (.list t cs.length 1 cs) ∧ h'.map (AObj.kill j) = h' ∧ r.kill j = r := by rintro _ _ ⟨_, _, _, _, _, rfl, rfl⟩; exact ⟨by kernel_rfl, by kernel_rfl, by kernel_rfl⟩) : CallX P f args (hp.set j (.box t cs)) fun r h => ∃ hp', Φ r hp' ∧ h = hp'.set j (.box t cs) := _root_.Go.Abs.CallX.box j t cs hc hj hl h1 h2 h3
theorem k27e {P : Program} {f : FuncId} {args : List AV} {hp : List AObj} {Φ : AV → List AObj → Prop} (j : Nat) (t : TypeId) (cs : List AV) (hc : CallX P f args hp Φ) (hj : hp[j]? = some (.list t cs.length 1 cs) := by kernel_rfl) (hl : leafyL cs = true := by kernel_rfl) (h1 : hp.map (AObj.kill j) = hp := by kernel_rfl) (h2 : killL j args = args := by kernel_rfl) (h3 : ∀ r h', Φ r h' → h'[j]? = some (.list t cs.length 1 cs) ∧ h'.map (AObj.kill j) = h' ∧ r.kill j = r := by rintro _ _ ⟨_, _, _, rfl, rfl⟩; exact ⟨by kernel_rfl, by kernel_rfl, by kernel_rfl⟩) : CallX P f args (hp.set j (.box t cs)) fun r h => ∃ hp', Φ r hp' ∧ h = hp'.set j (.box t cs) := _root_.Go.Abs.CallX.box j t cs hc hj hl h1 h2 h3
theorem k27f {P : Program} {f : FuncId} {args : List AV} {hp : List AObj} {Φ : AV → List AObj → Prop} (j : Nat) (t : TypeId) (cs : List AV) (hc : CallX P f args hp Φ) (hj : hp[j]? = some (.list t cs.length 1 cs) := by kernel_rfl) (hl : leafyL cs = true := by kernel_rfl) (h1 : hp.map (AObj.kill j) = hp := by kernel_rfl) (h2 : killL j args = args := by kernel_rfl) (h3 : ∀ r h', Φ r h' → h'[j]? = some (.list t cs.length 1 cs) ∧ h'.map (AObj.kill j) = h' ∧ r.kill j = r := by rintro _ _ ⟨_, _, _, _, _, _, rfl, rfl⟩; exact ⟨by kernel_rfl, by kernel_rfl, by kernel_rfl⟩) : CallX P f args (hp.set j (.box t cs)) fun r h => ∃ hp', Φ r hp' ∧ h = hp'.set j (.box t cs) := _root_.Go.Abs.CallX.box j t cs hc hj hl h1 h2 h3
theorem k27g {P : Program} {f : FuncId} {args : List AV} {hp : List AObj} {Φ : AV → List AObj → Prop} (j : Nat) (t : TypeId) (cs : List AV) (hc : CallX P f args hp Φ) (hj : hp[j]? = some (.list t cs.length 1 cs) := by kernel_rfl) (hl : leafyL cs = true := by kernel_rfl) (h1 : hp.map (AObj.kill j) = hp := by kernel_rfl) (h2 : killL j args = args := by kernel_rfl) (h3 : ∀ r h', Φ r h' → h'[j]? = some (.list t cs.length 1 cs) ∧ h'.map (AObj.kill j) = h' ∧ r.kill j = r := by rintro _ _ ⟨_, ⟨_, _, _, rfl, rfl⟩, rfl⟩; exact ⟨by kernel_rfl, by kernel_rfl, by kernel_rfl⟩) : CallX P f args (hp.set j (.box t cs)) fun r h => ∃ hp', Φ r hp' ∧ h = hp'.set j (.box t cs) := _root_.Go.Abs.CallX.box j t cs hc hj hl h1 h2 h3
theorem k27h {P : Program} {f : FuncId} {args : List AV} {hp : List AObj} {Φ : AV → List AObj → Prop} (j : Nat) (t : TypeId) (cs : List AV) (hc : CallX P f args hp Φ) (hj : hp[j]? = some (.list t cs.length 1 cs) := by kernel_rfl) (hl : leafyL cs = true := by kernel_rfl) (h1 : hp.map (AObj.kill j) = hp := by kernel_rfl) (h2 : killL j args = args := by kernel_rfl) (h3 : ∀ r h', Φ r h' → h'[j]? = some (.list t cs.length 1 cs) ∧ h'.map (AObj.kill j) = h' ∧ r.kill j = r := by rintro _ _ ⟨_, ⟨_, _, _, _, _, _, _, _, rfl, rfl⟩, rfl⟩; exact ⟨by kernel_rfl, by kernel_rfl, by kernel_rfl⟩) : CallX P f args (hp.set j (.box t cs)) fun r h => ∃ hp', Φ r hp' ∧ h = hp'.set j (.box t cs) := _root_.Go.Abs.CallX.box j t cs hc hj hl h1 h2 h3
theorem k27i {P : Program} {f : FuncId} {args : List AV} {hp : List AObj} {Φ : AV → List AObj → Prop} (j : Nat) (t : TypeId) (cs : List AV) (hc : CallX P f args hp Φ) (hj : hp[j]? = some (.list t cs.length 1 cs) := by kernel_rfl) (hl : leafyL cs = true := by kernel_rfl) (h1 : hp.map (AObj.kill j) = hp := by kernel_rfl) (h2 : killL j args = args := by kernel_rfl) (h3 : ∀ r h', Φ r h' → h'[j]? = some (.list t cs.length 1 cs) ∧ h'.map (AObj.kill j) = h' ∧ r.kill j = r := by rintro _ _ ⟨_, _, _, _, _, _, _, _, rfl, rfl⟩; exact ⟨by kernel_rfl, by kernel_rfl, by kernel_rfl⟩) : CallX P f args (hp.set j (.box t cs)) fun r h => ∃ hp', Φ r hp' ∧ h = hp'.set j (.box t cs) := _root_.Go.Abs.CallX.box j t cs hc hj hl h1 h2 h3

section
variable {P : Program} {m : M} {Q : Exit → St → Prop}
def faAt (P : Program) (m : M) (i : Nat) : Option AV :=
 match m.ks with
 | .any ops listed (_ + 1) :: _ => match ops[i]? with
  | some o => match o.op with
   | .fieldAddr s x f => if o.guard.isNone && Region.noSelect ops && Region.free .any ops listed i && (Region.ready .any ops listed).contains i then (match ev m.st.fr x, fieldB P s f with
    | .ptr j q, some (off, k) => if k = 0 then none else some (.ptr j (q + off))
    | _, _ => none) else none
   | _ => none
  | none => none
 | _ => none
theorem R.anyA (i : Nat) (v : AV) (h : faAt P m i = some v) (np : NoPanic Q) (h' : Runs none P (exM i v m) Q) : Runs none P m Q := by
 obtain ⟨ks, ⟨fr, hp⟩⟩ := m
 simp only [runs_iff] at h' ⊢
 unfold faAt at h
 simp only at h
 split at h
 ·rename_i ops listed n ks'
  split at h
  ·rename_i o ho
   split at h
   ·rename_i s x f hx
    split at h
    ·rename_i hc
     simp only [Bool.and_eq_true] at hc
     obtain ⟨⟨⟨hg, hs⟩, hf⟩, hr⟩ := hc
     split at h
     ·rename_i j q off k hcs hfb
      split at h
      ·cases h
      ·rename_i hk
       simp only [Option.some.injEq] at h
       subst h
       simp only [exM, ho, RunsK] at h' ⊢
       intro Z0 w0 a w hS
       have hW : Region.wanted o (yielded ops a.tmps) = true := by
        unfold Region.wanted
        rw [Option.isNone_iff_eq_none.1 hg]
       have hrun : ∃ u, ∀ w, (execOp a.eval o).run P w = .ok (.value u) w := by
        obtain ⟨μ, F, _, _, hFr, _, _⟩ := hS
        have h1 := ev_rel hFr x
        rw [hcs] at h1
        simp only [Rel] at h1
        obtain ⟨u, g, hu, hg', h2⟩ := h1
        refine ⟨.pointer (some ((⟨g, q, none⟩ : Addr).add off)), fun w => ?_⟩
        unfold execOp
        rw [hx]
        simp [h2, run_fieldAt hfb hk w] <;> rfl
       obtain ⟨u, hrun⟩ := hrun
       have hw' : WantedA ops o fr := wantedE_true (by unfold wantedE; rw [Option.isNone_iff_eq_none.1 hg])
       have h1 := StepR.sound (rd := none) (K := fun a' w' => Sim Z0 w0 ⟨putF fr o.dst (.ptr j (q + off)), hp⟩ a' w') (Q := fun _ _ _ => True) (st' := ⟨putF fr o.dst (.ptr j (q + off)), hp⟩) (by simpa using StepR.eff (P := P) (st := ⟨fr, hp⟩) hw' (v := .ptr j (q + off)) (news := []) (by rw [hx]; exact EffR.fieldAddr j q off k hcs hfb hk)) hS (fun _ _ h => h)
       rw [if_pos hW] at h1
       unfold Oper.wpIn at h1
       have h1 := h1.2
       rw [show (Fc none).round = none from rfl, Oper.semAt_none, hrun w] at h1
       simp only [Oper.uponIn] at h1
       exact wpAnyIn_take rfl ho hs hf hr (fun c a w ⟨st', hq, _⟩ => absurd (runsK_panic ks' st' hq) (np c st')) ⟨.inl ⟨hW, hrun⟩, fun w => by unfold Oper.about; rw [hx]⟩ (h' Z0 w0 _ w h1)
     ·cases h
    ·cases h
   ·cases h
  ·cases h
 ·cases h
theorem np_retX (P : Program) (fn : Func) (n : Nat) (us : List Value) (fr : List AV) (Φ : AV → List AObj → Prop) : NoPanic (retX P fn n us fr Φ) := fun _ _ h => by
 obtain ⟨_, _, _, h⟩ := h
 simp [retS] at h
end

section
variable {P : Program} {m : M} {Q : Exit → St → Prop}
def inAt (m : M) (i : Nat) : Option AV :=
 match m.ks with
 | .any ops listed (_ + 1) :: _ => match ops[i]? with
  | some o => match o.op with
   | .binOp .add _ x y _ => if o.guard.isNone && Region.noSelect ops && Region.free .any ops listed i && (Region.ready .any ops listed).contains i then (match ev m.st.fr x, ev m.st.fr y with
    | .int k a, .int k' b => if k = k' then some (.int k (k.wrap (a + b))) else none
    | _, _ => none) else none
   | _ => none
  | none => none
 | _ => none
theorem R.anyI (i : Nat) (v : AV) (h : inAt m i = some v) (np : NoPanic Q) (h' : Runs none P (exM i v m) Q) : Runs none P m Q := by
 obtain ⟨ks, ⟨fr, hp⟩⟩ := m
 simp only [runs_iff] at h' ⊢
 unfold inAt at h
 simp only at h
 split at h
 ·rename_i ops listed n ks'
  split at h
  ·rename_i o ho
   split at h
   ·rename_i t x y ty hx
    split at h
    ·rename_i hc
     simp only [Bool.and_eq_true] at hc
     obtain ⟨⟨⟨hg, hs⟩, hf⟩, hr⟩ := hc
     split at h
     ·rename_i k a k' b h1 h2
      split at h
      ·rename_i hk
       subst hk
       simp only [Option.some.injEq] at h
       subst h
       simp only [exM, ho, RunsK] at h' ⊢
       intro Z0 w0 ac w hS
       have hW : Region.wanted o (yielded ops ac.tmps) = true := by
        unfold Region.wanted
        rw [Option.isNone_iff_eq_none.1 hg]
       have hrun : ∃ u, ∀ w, (execOp ac.eval o).run P w = .ok (.value u) w := by
        obtain ⟨μ, F, _, _, hFr, _, _⟩ := hS
        have e1 := rel_int (h1 ▸ ev_rel hFr x)
        have e2 := rel_int (h2 ▸ ev_rel hFr y)
        refine ⟨.int k (k.wrap (a + b)), fun w => ?_⟩
        unfold execOp
        rw [hx]
        simp [e1, e2, eqGuard_at_int, binOp_add, Op.intArith] <;> rfl
       obtain ⟨u, hrun⟩ := hrun
       have hw' : WantedA ops o fr := wantedE_true (by unfold wantedE; rw [Option.isNone_iff_eq_none.1 hg])
       have h1' := StepR.sound (rd := none) (K := fun a' w' => Sim Z0 w0 ⟨putF fr o.dst (.int k (k.wrap (a + b))), hp⟩ a' w') (Q := fun _ _ _ => True) (st' := ⟨putF fr o.dst (.int k (k.wrap (a + b))), hp⟩) (by simpa using StepR.eff (P := P) (st := ⟨fr, hp⟩) hw' (v := .int k (k.wrap (a + b))) (news := []) (by rw [hx]; exact EffR.bin k a b h1 h2 rfl)) hS (fun _ _ h => h)
       rw [if_pos hW] at h1'
       unfold Oper.wpIn at h1'
       have h1' := h1'.2
       rw [show (Fc none).round = none from rfl, Oper.semAt_none, hrun w] at h1'
       simp only [Oper.uponIn] at h1'
       exact wpAnyIn_take rfl ho hs hf hr (fun c a w ⟨st', hq, _⟩ => absurd (runsK_panic ks' st' hq) (np c st')) ⟨.inl ⟨hW, hrun⟩, fun w => by unfold Oper.about; rw [hx]⟩ (h' Z0 w0 _ w h1')
      ·cases h
     ·cases h
    ·cases h
   ·cases h
  ·cases h
 ·cases h
theorem k28 (i : Nat) (v : AV) (np : NoPanic Q) (h' : Runs none P (exM i v m) Q) (h : inAt m i = some v := by kernel_rfl) : Runs none P m Q := _root_.Go.Abs.R.anyI i v h np h'

theorem AnyQ.del {ops : Array Oper} {listed : Array Bool} {n : Nat} {fr : List AV} {hp : List AObj} {R : Exit → St → Prop} {i1 i2 i3 : Nat} {o1 o2 o3 : Oper} {t d1 d2 i el s by_ N j : Nat} {k1 k2 : IntKind} {x y hi lo : Operand} {cs zs : List AV}
  (np : ∀ c st, ¬ R (.panic c) st) (hs : Region.noSelect ops = true)
  (ho1 : ops[i1]? = some o1) (ho2 : ops[i2]? = some o2) (ho3 : ops[i3]? = some o3) (g1 : o1.guard = none) (g2 : o2.guard = none) (g3 : o3.guard = none)
  (p1 : o1.op = .slice t x none (some hi) none) (p2 : o2.op = .slice t y (some lo) none none) (p3 : o3.op = .call { callee := .builtin .append, args := #[.tmp d1, .tmp d2], argTypes := #[t, t] })
  (e1 : o1.dst = some d1) (e2 : o2.dst = some d2) (hne : d1 ≠ d2) (hd1 : d1 < fr.length) (hd2 : d2 < fr.length) (hy1 : y ≠ .tmp d1) (hl1 : lo ≠ .tmp d1)
  (hf1 : Region.free .any ops listed i1 = true) (hr1 : (Region.ready .any ops listed).contains i1 = true)
  (hf2 : Region.free .any ops (listed.setIfInBounds i1 true) i2 = true) (hr2 : (Region.ready .any ops (listed.setIfInBounds i1 true)).contains i2 = true)
  (hr3 : Region.ready .any ops ((listed.setIfInBounds i1 true).setIfInBounds i2 true) = [i3])
  (hx : ev fr x = .ref i) (hy : ev fr y = .ref i) (hhi : ev fr hi = .int k1 j) (hlo : ev fr lo = .int k2 ((j + 1 : Nat) : Int)) (hr : rowB P t = some (el, s, zs, by_)) (hi' : hp[i]? = some (.list el s N cs)) (hj : j < N)
  (h1 : ∀ c ∈ cs, c.one = true) (hb : N * by_ ≤ 140737488355328) (hm : N ≤ maxLen)
  (h' : AnyQ none P ops (((listed.setIfInBounds i1 true).setIfInBounds i2 true).setIfInBounds i3 true) n ⟨putF (killL i (putF (putF fr (some d1) .top) (some d2) .top)) o3.dst (.ref i), (hp.map (AObj.kill i)).set i (.list el s (N - 1) (cs.take (j * s) ++ cs.drop ((j + 1) * s)))⟩ R) :
  AnyQ none P ops listed (n + 3) ⟨fr, hp⟩ R := by
 intro Z0 w0 a w hS
 obtain ⟨μ, F, hFb, hH, hF, hdf, hbl⟩ := hS
 have hB := hbl.size
 have hZn := zone_new (Z0 := Z0) hB hFb
 obtain ⟨info, z, hu, hinf, hz, rfl, rfl, hzs, hs0, _⟩ := row_parts hr
 have hxv := hx ▸ ev_rel hF x
 have hyv := hy ▸ ev_rel hF y
 simp only [Rel] at hxv hyv
 have hhv := rel_int (hhi ▸ ev_rel hF hi)
 have hlv := rel_int (hlo ▸ ev_rel hF lo)
 have hts : a.tmps.size = fr.length := by simpa using hF.length
 have hel : elemB P t = some (el, info.size) := by
  unfold elemB
  rw [hu]
  simp [hinf]
 obtain ⟨xs, hown, hrx⟩ := hH.obj i _ _ hi' hxv
 have hlen := hrx.length
 have hcl := hown.1
 rcases hown.2 with ⟨_, h0⟩ | ⟨g, cap, cur, hv0, hB2, hg, hnc, hcm, hcs, htk⟩
 ·omega
 have hyx : a.eval y = a.eval x := by rw [hxv] at hyv; exact (Option.some.inj hyv).symm
 have hc0 : ¬ cap = 0 := by omega
 -- the two slices
 have r1 : ∀ w, (Instr.sliceAt t (a.eval x) none (some (.int k1 j)) none).run P w = .ok (.slice (some ⟨g, 0, none⟩) j cap) w := fun w => by
  have := run_sliceAt (P := P) hel (some ⟨g, 0, none⟩) N cap none (some (.int k1 j)) none 0 j cap (fun w => by simp [Instr.sliceBounds, run_bound (P := P) k1 j cap _ (by omega)]) w
  rw [← hv0] at this
  simpa [if_neg hc0, add_lit'] using this
 have r2 : ∀ w, (Instr.sliceAt t (a.eval y) (some (.int k2 ((j + 1 : Nat) : Int))) none none).run P w = .ok (.slice (if cap = j + 1 then some ⟨g, 0, none⟩ else some ⟨g, (j + 1) * info.size, none⟩) (N - (j + 1)) (cap - (j + 1))) w := fun w => by
  have := run_sliceAt (P := P) hel (some ⟨g, 0, none⟩) N cap (some (.int k2 ((j + 1 : Nat) : Int))) none none (j + 1) N cap (fun w => by
   have hbb := run_bound (P := P) k2 (j + 1) N .sliceB (by omega) w
   simp [Instr.sliceBounds] at hbb ⊢; simp [hbb]) w
  rw [hyx, hv0]
  simpa [add_lit'] using this
 obtain ⟨v1, hv1⟩ : ∃ v1 : Value, v1 = .slice (some ⟨g, 0, none⟩) j cap := ⟨_, rfl⟩
 obtain ⟨A, hAe⟩ : ∃ A : Option Addr, A = (if cap = j + 1 then some ⟨g, 0, none⟩ else some ⟨g, (j + 1) * info.size, none⟩) := ⟨_, rfl⟩
 rw [← hv1] at r1
 rw [← hAe] at r2
 have w1 : Region.wanted o1 (yielded ops a.tmps) = true := by unfold Region.wanted; rw [g1]
 refine wpAnyIn_take (v := v1) rfl ho1 hs hf1 hr1 (fun c a w ⟨st', hq, _⟩ => absurd hq (np c st')) ⟨.inl ⟨w1, fun w => by simp only [execOp, p1, hhv, Option.map_some, Option.map_none, Sem.run_bind, r1, Result.andThen_ok, Sem.run_pure]⟩, fun w => by unfold Oper.about; rw [p1]⟩ ?_
 rw [e1]
 have q2 : (a.put (some d1) v1).eval y = a.eval y := Act.eval_put fun d hd => by cases hd; exact hy1
 have q3 : (a.put (some d1) v1).eval lo = a.eval lo := Act.eval_put fun d hd => by cases hd; exact hl1
 have w2 : Region.wanted o2 (yielded ops (a.put (some d1) v1).tmps) = true := by unfold Region.wanted; rw [g2]
 refine wpAnyIn_take (v := .slice A (N - (j + 1)) (cap - (j + 1))) rfl ho2 hs hf2 hr2 (fun c a w ⟨st', hq, _⟩ => absurd hq (np c st')) ⟨.inl ⟨w2, fun w => by simp only [execOp, p2, q2, q3, hlv, Option.map_some, Option.map_none, Sem.run_bind, r2, Result.andThen_ok, Sem.run_pure]⟩, fun w => by unfold Oper.about; rw [p2]⟩ ?_
 rw [e2]
 refine wpAnyIn_all hr3 (by simp) fun k hk => ?_
 simp only [List.mem_cons, List.not_mem_nil, or_false] at hk
 subst hk
 refine wpOp_of_one (Q1 := fun e a' w' => e = .normal ∧ wpAnyIn (Fc none) 0 P .any ops (fun e a' w' => ∃ st', R e st' ∧ Sim Z0 w0 st' a' w') n (((listed.setIfInBounds i1 true).setIfInBounds i2 true).setIfInBounds k true) a' w') ho3 ?_ (fun a w h => h.2) (fun e a w hne h => absurd h.1 hne)
 refine wpListIn_plain g3 fun K hK => ?_
 refine wpIn_of_run (fun c h => by rw [p3] at h; cases h) ?_
 -- the append
 have hown1 : w.ownsRow w0.heap.size el info.size v1 j (xs.take (j * info.size)) := by
  have hle : j * info.size ≤ N * info.size := Nat.mul_le_mul_right _ (by omega)
  refine ⟨by rw [List.length_take, hcl]; omega, .inr ⟨g, cap, cur, hv1, hB2, hg, by omega, hcm, hcs, ?_⟩⟩
  rw [← htk, List.take_take, Nat.min_eq_left hle]
 have hmul : (j + 1) * info.size + (N - (j + 1)) * info.size = N * info.size := by rw [← Nat.add_mul]; congr 1; omega
 have hyl : (xs.drop ((j + 1) * info.size)).length = (N - (j + 1)) * info.size := by rw [List.length_drop, hcl]; omega
 have hsrc : xs.drop ((j + 1) * info.size) ≠ [] → ∃ ad, A = some ad ∧ ∀ (q : Nat) u, (xs.drop ((j + 1) * info.size))[q]? = some u → w.cell? (ad.add q) = some u := by
  intro hne0
  have hN : j + 1 < N := by
   refine Nat.lt_of_not_le fun hle => hne0 ?_
   apply List.eq_nil_of_length_eq_zero
   rw [hyl, show N - (j + 1) = 0 by omega, Nat.zero_mul]
  refine ⟨⟨g, (j + 1) * info.size, none⟩, by rw [hAe, if_neg (by omega)], fun q u hq => ?_⟩
  rw [List.getElem?_drop] at hq
  have := hown.cells (g := g) (by rw [hv0]; rfl) _ u hq
  rw [add_lit'] at this ⊢
  rw [Nat.zero_add] at this
  exact this
 have hA0 : A = none → xs.drop ((j + 1) * info.size) = [] := fun h => by
  rw [hAe] at h
  split at h <;> cases h
 have h1x := ones_rel (μ := []) (w := w) (Z := Zone Z0 F w0.heap.size) (by simp) h1 hrx
 obtain ⟨v', w', hrun, hown', hgr, hblk⟩ := run_append_all (P := P) (ty := o3.type) (cp := cap - (j + 1)) hr hown1 hyl hsrc hA0 (fun u hu => h1x u (List.mem_of_mem_drop hu)) (by rw [show j + (N - (j + 1)) = N - 1 by omega]; exact Nat.le_trans (Nat.mul_le_mul_right _ (Nat.sub_le _ _)) hb) (by omega) hB
 have hbu' := ownsRow_blk hown'
 have hbv1 : v1.ownBlock = some g := by rw [hv1]; rfl
 have hbx : blk (a.eval x) = some g := by rw [hv0]; rfl
 have ed1 : ((a.put (some d1) v1).put (some d2) (.slice A (N - (j + 1)) (cap - (j + 1)))).eval (.tmp d1) = v1 := by
  simp [Act.put, Act.eval, hts, hd1, Ne.symm hne]
 have ed2 : ((a.put (some d1) v1).put (some d2) (.slice A (N - (j + 1)) (cap - (j + 1)))).eval (.tmp d2) = .slice A (N - (j + 1)) (cap - (j + 1)) := by
  simp [Act.put, Act.eval, hts, hd2]
 have er : (execOp ((a.put (some d1) v1).put (some d2) (.slice A (N - (j + 1)) (cap - (j + 1)))).eval o3).run P w = .ok (.value v') w' := by
  simp only [execOp, p3, resolve, List.map_toArray, List.map_cons, List.map_nil, ed1, ed2, Sem.run_bind, Sem.run_pure, Result.andThen_ok, invoke, builtin, hrun]
 rw [er]
 refine hK _ _ (wpListIn_nil ⟨rfl, ?_⟩)
 have hoth : ∀ b, b < w.heap.size → blk (a.eval x) ≠ some b → w'.heap[b]? = w.heap[b]? := fun b hb1 hne => hgr.block b hb1 (fun e => hne (by rw [hbx, ← hbv1, e]))
 have hk : ∀ b, b < w.heap.size → ¬ Zone Z0 F w0.heap.size b → w'.heap[b]? = w.heap[b]? := fun b hb1 hz => hoth b hb1 (fun e => hz (hH.zone i _ _ b hi' rfl hxv e))
 have hm' : ∀ (q : Nat) (u : Value), q ≠ i → μ[q]? = some u → (μ.set i v')[q]? = some u := fun q u hne hu => by rw [List.getElem?_set_ne (Ne.symm hne)]; exact hu
 have hil := (List.getElem?_eq_some_iff.1 hi').1
 refine h' Z0 w0 _ w' ⟨μ.set i v', F, fun b h => ⟨(hFb b h).1, Nat.lt_of_lt_of_le (hFb b h).2 hgr.size⟩, ?_, ?_, ?_, hbl.trans ⟨hgr.os, hgr.tape, hgr.output, hgr.size, fun b hb1 => hoth b (by omega) (fun e => by rw [hbx] at e; simp only [Option.some.injEq] at e; omega)⟩⟩
 ·have hown2 : w'.ownsRow w0.heap.size el info.size v' (N - 1) (xs.take (j * info.size) ++ xs.drop ((j + 1) * info.size)) := by
   rw [show N - 1 = j + (N - (j + 1)) by omega]; exact hown'
  refine hH.update hZn hi' hxv rfl hoth ⟨_, hown2, ?_⟩ (fun b hb2 => ?_) (ownsRow_one hown')
  ·exact ((hrx.take _).append (hrx.drop _)).keep hk (fun _ _ h => h)
  ·rw [hbu'] at hb2
   rcases hblk with e1 | e1
   ·left; rw [hbx, ← hbv1, ← e1]; exact hb2
   ·right; rw [e1] at hb2; simp only [Option.some.injEq] at hb2; omega
 ·refine put_rel ?_ _ (by simp only [Rel]; rw [List.getElem?_set_self (by rw [hH.len]; exact hil)])
  exact RelL.keep_kill i hk hm' (put_rel (put_rel hF (some d1) (v := .top) (by simp [Rel])) (some d2) (v := .top) (by simp [Rel]))
 ·rw [put_defers', put_defers', put_defers']
  refine hdf.keep fun q y hq => ?_
  have hqi : q ≠ i := by rintro rfl; rw [hi'] at hq; cases hq
  refine ⟨?_, fun u hu => hm' q u hqi hu⟩
  rw [List.getElem?_set_ne (Ne.symm hqi), List.getElem?_map, hq]
  rfl
def isTmp (d : Nat) : Operand → Bool
 | .tmp q => q == d
 | _ => false
def delAt (P : Program) (m : M) (i1 i2 i3 : Nat) : Option (Nat × Nat × Nat × Nat × List AV × Nat × Int × Int) :=
 match m.ks with
 | .any ops listed (_ + 3) :: _ => match ops[i1]?, ops[i2]?, ops[i3]? with
  | some o1, some o2, some o3 => match o1.op, o2.op, o3.op with
   | .slice t x none (some hi) none, .slice t' y (some lo) none none, .call c => match c.callee, c.args.toList, c.argTypes.toList, o1.dst, o2.dst with
    | .builtin .append, [.tmp d1, .tmp d2], [ta, tb], some e1, some e2 =>
     if decide (t' = t ∧ ta = t ∧ tb = t ∧ e1 = d1 ∧ e2 = d2 ∧ d1 ≠ d2 ∧ d1 < m.st.fr.length ∧ d2 < m.st.fr.length) && !(isTmp d1 y) && !(isTmp d1 lo) && o1.guard.isNone && o2.guard.isNone && o3.guard.isNone && Region.noSelect ops && Region.free .any ops listed i1 && (Region.ready .any ops listed).contains i1 && Region.free .any ops (listed.setIfInBounds i1 true) i2 && (Region.ready .any ops (listed.setIfInBounds i1 true)).contains i2 && decide (Region.ready .any ops ((listed.setIfInBounds i1 true).setIfInBounds i2 true) = [i3]) then
      match ev m.st.fr x, ev m.st.fr y, ev m.st.fr hi, ev m.st.fr lo, rowB P t with
      | .ref i, .ref i', .int _ a, .int _ b, some (el, s, _, by_) => match m.st.hp[i]? with
       | some (.list el' s' n cs) => if i' = i ∧ el' = el ∧ s' = s then some (i, el, s, n, cs, by_, a, b) else none
       | _ => none
      | _, _, _, _, _ => none
     else none
    | _, _, _, _, _ => none
   | _, _, _ => none
  | _, _, _ => none
 | _ => none
def delM (i1 i2 i3 i : Nat) (ob : AObj) (m : M) : M :=
 match m.ks with
 | .any ops listed n :: ks => match ops[i1]?, ops[i2]?, ops[i3]? with
  | some o1, some o2, some o3 => ⟨.any ops (((listed.setIfInBounds i1 true).setIfInBounds i2 true).setIfInBounds i3 true) (n - 3) :: ks, ⟨putF (killL i (putF (putF m.st.fr o1.dst .top) o2.dst .top)) o3.dst (.ref i), (m.st.hp.map (AObj.kill i)).set i ob⟩⟩
  | _, _, _ => m
 | _ => m
theorem tmp_ne {y : Operand} {d : Nat} (h : (!(isTmp d y)) = true) : y ≠ .tmp d := by
 rintro rfl
 simp [isTmp] at h
theorem R.del {α : Type} {m : M} {Q : Exit → St → Prop} (E : α → List AV) (xs : List α) (i1 i2 i3 i el b j : Nat) {s : Nat} (hi lo : Int) (h : delAt P m i1 i2 i3 = some (i, el, s, xs.length, rows E xs, b, hi, lo)) (hhi : hi = (j : Int)) (hlo : lo = ((j + 1 : Nat) : Int))
  (hE : ∀ x, (E x).length = s) (hE1 : ∀ x, (E x).all AV.one = true) (hj : j < xs.length) (h0 : 0 < b) (hb : xs.length * b ≤ 140737488355328) (np : NoPanic Q)
  (h' : Runs none P (delM i1 i2 i3 i (.list el s (xs.take j ++ xs.drop (j + 1)).length (rows E (xs.take j ++ xs.drop (j + 1)))) m) Q) : Runs none P m Q := by
 subst hhi
 subst hlo
 obtain ⟨ks, ⟨fr, hp⟩⟩ := m
 unfold delAt at h
 simp only at h
 split at h
 ·rename_i ops listed n ks'
  split at h
  ·rename_i o1 o2 o3 ho1 ho2 ho3
   split at h
   ·rename_i t x hi0 t' y lo0 c p1 p2 p3
    obtain ⟨callee, args, tys⟩ := c
    simp only at h
    split at h
    ·rename_i d1 d2 ta tb e1 e2 ha hb' he1 he2
     split at h
     ·rename_i hc
      simp only [Bool.and_eq_true, decide_eq_true_eq, Option.isNone_iff_eq_none] at hc
      obtain ⟨⟨⟨⟨⟨⟨⟨⟨⟨⟨⟨⟨rfl, rfl, rfl, rfl, rfl, hne, hd1, hd2⟩, hy1⟩, hl1⟩, g1⟩, g2⟩, g3⟩, hs⟩, hf1⟩, hr1⟩, hf2⟩, hr2⟩, hr3⟩ := hc
      split at h
      ·rename_i i0 i0' k1 a k2 b2 el0 s0 z0 by0 hx hy hhi hlo hr
       split at h
       ·rename_i el1 s1 n1 cs1 hi1
        split at h
        ·rename_i he
         obtain ⟨rfl, rfl, rfl⟩ := he
         simp only [Option.some.injEq, Prod.mk.injEq] at h
         obtain ⟨rfl, rfl, rfl, rfl, rfl, rfl, rfl, rfl⟩ := h
         have ea : args = #[.tmp e1, .tmp e2] := Array.toList_inj.1 ha
         have et : tys = #[_, _] := Array.toList_inj.1 hb'
         subst ea
         subst et
         simp only [runs_iff, delM, ho1, ho2, ho3, RunsK] at h' ⊢
         have hlen : (xs.take j ++ xs.drop (j + 1)).length = xs.length - 1 := by simp; omega
         rw [hlen, rows_append, ← rows_take hE, ← rows_drop hE] at h'
         refine AnyQ.del (fun c st hq => np c st (runsK_panic ks' st hq)) hs ho1 ho2 ho3 g1 g2 g3 p1 p2 p3 he1 he2 hne hd1 hd2 (tmp_ne hy1) (tmp_ne hl1) hf1 hr1 hf2 hr2 hr3 hx hy hhi hlo hr hi1 hj (fun c hc => List.all_eq_true.1 (rows_all hE1 _) c hc) hb (app_bound hb h0) ?_
         rw [← he1, ← he2]
         exact h'
        ·cases h
       ·cases h
      ·cases h
     ·cases h
    ·cases h
   ·cases h
  ·cases h
 ·cases h
end
end Go.Abs

/-! Draws, existential: numbers. -/
namespace Go.Proofs.YtehbliocfpppoaaGreat
open Go.RowKit Go.Abs
theorem u64and (a : Int) : 0 ≤ bits .and .u64 a 16777215 ∧ bits .and .u64 a 16777215 ≤ 16777215 := by
 show 0 ≤ IntKind.u64.wrap _ ∧ IntKind.u64.wrap _ ≤ 16777215
 rw [IntKind.wrap_u64]
 have h : (BitVec.ofInt 64 a &&& BitVec.ofInt 64 16777215).toNat ≤ 16777215 := by
  rw [BitVec.toNat_and]
  exact Nat.le_trans Nat.and_le_right (by decide)
 have e : ∀ k : Nat, k ≤ 16777215 → 0 ≤ ((k : Int) % 18446744073709551616) ∧ ((k : Int) % 18446744073709551616) ≤ 16777215 := fun k hk => by omega
 exact e _ h
def BY (c : List Int) : Prop := c.length ≤ 4096 ∧ ∀ j : Nat, j < c.length → 0 ≤ c.getD j 0 ∧ c.getD j 0 ≤ 255
theorem mod_rng {x n : Int} (h : ¬ n < 1) : (n < 1 → x % n = 0) ∧ (1 ≤ n → 0 ≤ x % n ∧ x % n < n) := ⟨fun h1 => absurd h1 h, fun h1 => ⟨Int.emod_nonneg _ (by omega), Int.emod_lt_of_pos _ (by omega)⟩⟩
theorem nextX_c_r1 (c : List Int) (p : Nat) (h n : Int) (eo1 so1 no1 : Nat) (co1 : List AV) (hc : BY c) : CallX Tryz.prog 47 [.ptr 0 0, AI n] [.box 123 [LB c, AI (p : Int), .int .u64 h], .list eo1 so1 no1 co1] (fun (resX : AV) (objX : List AObj) => ∃ v : Int, ∃ p1 : Nat, ∃ h1 : Int, ((n < 1 → v = 0) ∧ (1 ≤ n → 0 ≤ v ∧ v < n)) ∧ resX = AI v ∧ objX = [.box 123 [LB c, AI (p1 : Int), .int .u64 h1], .list eo1 so1 no1 co1]) := by
 have hcl : c.length ≤ 4096 := hc.1
 have hcb := hc.2
 have hxr := fun h => u64and (shr64 (IntKind.u64.wrap (IntKind.u64.wrap (h * 6364136223846793005) + 1442695040888963407)) 33)
 have hxh := hxr h
 refine CallX.dropE (CallX.ofF Tryz.func47 rfl (by kernel_rfl) ?_)
 intro usC frC hfC
 refine R.go 10 (k4 (n < 1) (fun c1 => ?_) (fun c1 => ?_))
 ·exact R.go 4 (R.retX (res := AI 0) (hp' := [.box 123 [LB c, AI (p : Int), .int .u64 h], .list eo1 so1 no1 co1, .dead]) (by kernel_rfl) (by kernel_rfl) (by kernel_rfl) (by kernel_rfl) ⟨[0, 1], by kernel_rfl, by decide, 0, p, h, by first | exact mod_rng (by assumption) | exact ⟨fun _ => rfl, fun h1 => by omega⟩, by kernel_rfl, by kernel_rfl⟩)
 refine R.go 22 (k2 .i64 (bits .and .u64 (shr64 (IntKind.u64.wrap ((IntKind.u64.wrap (h * 6364136223846793005)) + 1442695040888963407)) 33) 16777215) (wrap_id (by omega) (by omega)) (R.go 16 (k4 ((p : Int) < (c.length : Int)) (fun c2 => ?_) (fun c2 => ?_))))
 ·have hbp := hcb p (by omega)
  refine R.go 11 (k10 eB c 0 p (p : Int) eB_len (R.go 1 (k2 .i64 (c.getD p 0) (wrap_id (by omega) (by omega)) (k1 ((bits .and .u64 (shr64 (IntKind.u64.wrap ((IntKind.u64.wrap (h * 6364136223846793005)) + 1442695040888963407)) 33) 16777215) + (c.getD p 0)) (R.go 8 (k1 ((p : Int) + 1) (R.go 8 (R.rem ((bits .and .u64 (shr64 (IntKind.u64.wrap ((IntKind.u64.wrap (h * 6364136223846793005)) + 1442695040888963407)) 33) 16777215) + (c.getD p 0)) n (by kernel_rfl) (by omega) (by omega) (by kernel_rfl) ?_))))))))
  exact R.go 2 (R.retX (res := AI (((bits .and .u64 (shr64 (IntKind.u64.wrap ((IntKind.u64.wrap (h * 6364136223846793005)) + 1442695040888963407)) 33) 16777215) + (c.getD p 0)) % n)) (hp' := [.box 123 [LB c, AI ((p : Int) + 1), .int .u64 (IntKind.u64.wrap ((IntKind.u64.wrap (h * 6364136223846793005)) + 1442695040888963407))], .list eo1 so1 no1 co1, .dead]) (by kernel_rfl) (by kernel_rfl) (by kernel_rfl) (by kernel_rfl) ⟨[0, 1], by kernel_rfl, by decide, ((bits .and .u64 (shr64 (IntKind.u64.wrap ((IntKind.u64.wrap (h * 6364136223846793005)) + 1442695040888963407)) 33) 16777215) + (c.getD p 0)) % n, p + 1, IntKind.u64.wrap ((IntKind.u64.wrap (h * 6364136223846793005)) + 1442695040888963407), by first | exact mod_rng (by assumption) | exact ⟨fun _ => rfl, fun h1 => by omega⟩, by kernel_rfl, by kernel_rfl⟩)
 refine R.go 5 (R.rem (bits .and .u64 (shr64 (IntKind.u64.wrap ((IntKind.u64.wrap (h * 6364136223846793005)) + 1442695040888963407)) 33) 16777215) n (by kernel_rfl) (by omega) (by omega) (by kernel_rfl) ?_)
 exact R.go 2 (R.retX (res := AI ((bits .and .u64 (shr64 (IntKind.u64.wrap ((IntKind.u64.wrap (h * 6364136223846793005)) + 1442695040888963407)) 33) 16777215) % n)) (hp' := [.box 123 [LB c, AI (p : Int), .int .u64 (IntKind.u64.wrap ((IntKind.u64.wrap (h * 6364136223846793005)) + 1442695040888963407))], .list eo1 so1 no1 co1, .dead]) (by kernel_rfl) (by kernel_rfl) (by kernel_rfl) (by kernel_rfl) ⟨[0, 1], by kernel_rfl, by decide, (bits .and .u64 (shr64 (IntKind.u64.wrap ((IntKind.u64.wrap (h * 6364136223846793005)) + 1442695040888963407)) 33) 16777215) % n, p, IntKind.u64.wrap ((IntKind.u64.wrap (h * 6364136223846793005)) + 1442695040888963407), by first | exact mod_rng (by assumption) | exact ⟨fun _ => rfl, fun h1 => by omega⟩, by kernel_rfl, by kernel_rfl⟩)
theorem nextX_c_r2 (c : List Int) (p : Nat) (h n : Int) (eo1 so1 no1 : Nat) (co1 : List AV) (eo2 so2 no2 : Nat) (co2 : List AV) (hc : BY c) : CallX Tryz.prog 47 [.ptr 0 0, AI n] [.box 123 [LB c, AI (p : Int), .int .u64 h], .list eo1 so1 no1 co1, .list eo2 so2 no2 co2] (fun (resX : AV) (objX : List AObj) => ∃ v : Int, ∃ p1 : Nat, ∃ h1 : Int, ((n < 1 → v = 0) ∧ (1 ≤ n → 0 ≤ v ∧ v < n)) ∧ resX = AI v ∧ objX = [.box 123 [LB c, AI (p1 : Int), .int .u64 h1], .list eo1 so1 no1 co1, .list eo2 so2 no2 co2]) := by
 have hcl : c.length ≤ 4096 := hc.1
 have hcb := hc.2
 have hxr := fun h => u64and (shr64 (IntKind.u64.wrap (IntKind.u64.wrap (h * 6364136223846793005) + 1442695040888963407)) 33)
 have hxh := hxr h
 refine CallX.dropE (CallX.ofF Tryz.func47 rfl (by kernel_rfl) ?_)
 intro usC frC hfC
 refine R.go 10 (k4 (n < 1) (fun c1 => ?_) (fun c1 => ?_))
 ·exact R.go 4 (R.retX (res := AI 0) (hp' := [.box 123 [LB c, AI (p : Int), .int .u64 h], .list eo1 so1 no1 co1, .list eo2 so2 no2 co2, .dead]) (by kernel_rfl) (by kernel_rfl) (by kernel_rfl) (by kernel_rfl) ⟨[0, 1, 2], by kernel_rfl, by decide, 0, p, h, by first | exact mod_rng (by assumption) | exact ⟨fun _ => rfl, fun h1 => by omega⟩, by kernel_rfl, by kernel_rfl⟩)
 refine R.go 22 (k2 .i64 (bits .and .u64 (shr64 (IntKind.u64.wrap ((IntKind.u64.wrap (h * 6364136223846793005)) + 1442695040888963407)) 33) 16777215) (wrap_id (by omega) (by omega)) (R.go 16 (k4 ((p : Int) < (c.length : Int)) (fun c2 => ?_) (fun c2 => ?_))))
 ·have hbp := hcb p (by omega)
  refine R.go 11 (k10 eB c 0 p (p : Int) eB_len (R.go 1 (k2 .i64 (c.getD p 0) (wrap_id (by omega) (by omega)) (k1 ((bits .and .u64 (shr64 (IntKind.u64.wrap ((IntKind.u64.wrap (h * 6364136223846793005)) + 1442695040888963407)) 33) 16777215) + (c.getD p 0)) (R.go 8 (k1 ((p : Int) + 1) (R.go 8 (R.rem ((bits .and .u64 (shr64 (IntKind.u64.wrap ((IntKind.u64.wrap (h * 6364136223846793005)) + 1442695040888963407)) 33) 16777215) + (c.getD p 0)) n (by kernel_rfl) (by omega) (by omega) (by kernel_rfl) ?_))))))))
  exact R.go 2 (R.retX (res := AI (((bits .and .u64 (shr64 (IntKind.u64.wrap ((IntKind.u64.wrap (h * 6364136223846793005)) + 1442695040888963407)) 33) 16777215) + (c.getD p 0)) % n)) (hp' := [.box 123 [LB c, AI ((p : Int) + 1), .int .u64 (IntKind.u64.wrap ((IntKind.u64.wrap (h * 6364136223846793005)) + 1442695040888963407))], .list eo1 so1 no1 co1, .list eo2 so2 no2 co2, .dead]) (by kernel_rfl) (by kernel_rfl) (by kernel_rfl) (by kernel_rfl) ⟨[0, 1, 2], by kernel_rfl, by decide, ((bits .and .u64 (shr64 (IntKind.u64.wrap ((IntKind.u64.wrap (h * 6364136223846793005)) + 1442695040888963407)) 33) 16777215) + (c.getD p 0)) % n, p + 1, IntKind.u64.wrap ((IntKind.u64.wrap (h * 6364136223846793005)) + 1442695040888963407), by first | exact mod_rng (by assumption) | exact ⟨fun _ => rfl, fun h1 => by omega⟩, by kernel_rfl, by kernel_rfl⟩)
 refine R.go 5 (R.rem (bits .and .u64 (shr64 (IntKind.u64.wrap ((IntKind.u64.wrap (h * 6364136223846793005)) + 1442695040888963407)) 33) 16777215) n (by kernel_rfl) (by omega) (by omega) (by kernel_rfl) ?_)
 exact R.go 2 (R.retX (res := AI ((bits .and .u64 (shr64 (IntKind.u64.wrap ((IntKind.u64.wrap (h * 6364136223846793005)) + 1442695040888963407)) 33) 16777215) % n)) (hp' := [.box 123 [LB c, AI (p : Int), .int .u64 (IntKind.u64.wrap ((IntKind.u64.wrap (h * 6364136223846793005)) + 1442695040888963407))], .list eo1 so1 no1 co1, .list eo2 so2 no2 co2, .dead]) (by kernel_rfl) (by kernel_rfl) (by kernel_rfl) (by kernel_rfl) ⟨[0, 1, 2], by kernel_rfl, by decide, (bits .and .u64 (shr64 (IntKind.u64.wrap ((IntKind.u64.wrap (h * 6364136223846793005)) + 1442695040888963407)) 33) 16777215) % n, p, IntKind.u64.wrap ((IntKind.u64.wrap (h * 6364136223846793005)) + 1442695040888963407), by first | exact mod_rng (by assumption) | exact ⟨fun _ => rfl, fun h1 => by omega⟩, by kernel_rfl, by kernel_rfl⟩)
theorem nextX_c_r3 (c : List Int) (p : Nat) (h n : Int) (eo1 so1 no1 : Nat) (co1 : List AV) (eo2 so2 no2 : Nat) (co2 : List AV) (eo3 so3 no3 : Nat) (co3 : List AV) (hc : BY c) : CallX Tryz.prog 47 [.ptr 0 0, AI n] [.box 123 [LB c, AI (p : Int), .int .u64 h], .list eo1 so1 no1 co1, .list eo2 so2 no2 co2, .list eo3 so3 no3 co3] (fun (resX : AV) (objX : List AObj) => ∃ v : Int, ∃ p1 : Nat, ∃ h1 : Int, ((n < 1 → v = 0) ∧ (1 ≤ n → 0 ≤ v ∧ v < n)) ∧ resX = AI v ∧ objX = [.box 123 [LB c, AI (p1 : Int), .int .u64 h1], .list eo1 so1 no1 co1, .list eo2 so2 no2 co2, .list eo3 so3 no3 co3]) := by
 have hcl : c.length ≤ 4096 := hc.1
 have hcb := hc.2
 have hxr := fun h => u64and (shr64 (IntKind.u64.wrap (IntKind.u64.wrap (h * 6364136223846793005) + 1442695040888963407)) 33)
 have hxh := hxr h
 refine CallX.dropE (CallX.ofF Tryz.func47 rfl (by kernel_rfl) ?_)
 intro usC frC hfC
 refine R.go 10 (k4 (n < 1) (fun c1 => ?_) (fun c1 => ?_))
 ·exact R.go 4 (R.retX (res := AI 0) (hp' := [.box 123 [LB c, AI (p : Int), .int .u64 h], .list eo1 so1 no1 co1, .list eo2 so2 no2 co2, .list eo3 so3 no3 co3, .dead]) (by kernel_rfl) (by kernel_rfl) (by kernel_rfl) (by kernel_rfl) ⟨[0, 1, 2, 3], by kernel_rfl, by decide, 0, p, h, by first | exact mod_rng (by assumption) | exact ⟨fun _ => rfl, fun h1 => by omega⟩, by kernel_rfl, by kernel_rfl⟩)
 refine R.go 22 (k2 .i64 (bits .and .u64 (shr64 (IntKind.u64.wrap ((IntKind.u64.wrap (h * 6364136223846793005)) + 1442695040888963407)) 33) 16777215) (wrap_id (by omega) (by omega)) (R.go 16 (k4 ((p : Int) < (c.length : Int)) (fun c2 => ?_) (fun c2 => ?_))))
 ·have hbp := hcb p (by omega)
  refine R.go 11 (k10 eB c 0 p (p : Int) eB_len (R.go 1 (k2 .i64 (c.getD p 0) (wrap_id (by omega) (by omega)) (k1 ((bits .and .u64 (shr64 (IntKind.u64.wrap ((IntKind.u64.wrap (h * 6364136223846793005)) + 1442695040888963407)) 33) 16777215) + (c.getD p 0)) (R.go 8 (k1 ((p : Int) + 1) (R.go 8 (R.rem ((bits .and .u64 (shr64 (IntKind.u64.wrap ((IntKind.u64.wrap (h * 6364136223846793005)) + 1442695040888963407)) 33) 16777215) + (c.getD p 0)) n (by kernel_rfl) (by omega) (by omega) (by kernel_rfl) ?_))))))))
  exact R.go 2 (R.retX (res := AI (((bits .and .u64 (shr64 (IntKind.u64.wrap ((IntKind.u64.wrap (h * 6364136223846793005)) + 1442695040888963407)) 33) 16777215) + (c.getD p 0)) % n)) (hp' := [.box 123 [LB c, AI ((p : Int) + 1), .int .u64 (IntKind.u64.wrap ((IntKind.u64.wrap (h * 6364136223846793005)) + 1442695040888963407))], .list eo1 so1 no1 co1, .list eo2 so2 no2 co2, .list eo3 so3 no3 co3, .dead]) (by kernel_rfl) (by kernel_rfl) (by kernel_rfl) (by kernel_rfl) ⟨[0, 1, 2, 3], by kernel_rfl, by decide, ((bits .and .u64 (shr64 (IntKind.u64.wrap ((IntKind.u64.wrap (h * 6364136223846793005)) + 1442695040888963407)) 33) 16777215) + (c.getD p 0)) % n, p + 1, IntKind.u64.wrap ((IntKind.u64.wrap (h * 6364136223846793005)) + 1442695040888963407), by first | exact mod_rng (by assumption) | exact ⟨fun _ => rfl, fun h1 => by omega⟩, by kernel_rfl, by kernel_rfl⟩)
 refine R.go 5 (R.rem (bits .and .u64 (shr64 (IntKind.u64.wrap ((IntKind.u64.wrap (h * 6364136223846793005)) + 1442695040888963407)) 33) 16777215) n (by kernel_rfl) (by omega) (by omega) (by kernel_rfl) ?_)
 exact R.go 2 (R.retX (res := AI ((bits .and .u64 (shr64 (IntKind.u64.wrap ((IntKind.u64.wrap (h * 6364136223846793005)) + 1442695040888963407)) 33) 16777215) % n)) (hp' := [.box 123 [LB c, AI (p : Int), .int .u64 (IntKind.u64.wrap ((IntKind.u64.wrap (h * 6364136223846793005)) + 1442695040888963407))], .list eo1 so1 no1 co1, .list eo2 so2 no2 co2, .list eo3 so3 no3 co3, .dead]) (by kernel_rfl) (by kernel_rfl) (by kernel_rfl) (by kernel_rfl) ⟨[0, 1, 2, 3], by kernel_rfl, by decide, (bits .and .u64 (shr64 (IntKind.u64.wrap ((IntKind.u64.wrap (h * 6364136223846793005)) + 1442695040888963407)) 33) 16777215) % n, p, IntKind.u64.wrap ((IntKind.u64.wrap (h * 6364136223846793005)) + 1442695040888963407), by first | exact mod_rng (by assumption) | exact ⟨fun _ => rfl, fun h1 => by omega⟩, by kernel_rfl, by kernel_rfl⟩)
theorem nextX_c_r4 (c : List Int) (p : Nat) (h n : Int) (eo1 so1 no1 : Nat) (co1 : List AV) (eo2 so2 no2 : Nat) (co2 : List AV) (eo3 so3 no3 : Nat) (co3 : List AV) (eo4 so4 no4 : Nat) (co4 : List AV) (hc : BY c) : CallX Tryz.prog 47 [.ptr 0 0, AI n] [.box 123 [LB c, AI (p : Int), .int .u64 h], .list eo1 so1 no1 co1, .list eo2 so2 no2 co2, .list eo3 so3 no3 co3, .list eo4 so4 no4 co4] (fun (resX : AV) (objX : List AObj) => ∃ v : Int, ∃ p1 : Nat, ∃ h1 : Int, ((n < 1 → v = 0) ∧ (1 ≤ n → 0 ≤ v ∧ v < n)) ∧ resX = AI v ∧ objX = [.box 123 [LB c, AI (p1 : Int), .int .u64 h1], .list eo1 so1 no1 co1, .list eo2 so2 no2 co2, .list eo3 so3 no3 co3, .list eo4 so4 no4 co4]) := by
 have hcl : c.length ≤ 4096 := hc.1
 have hcb := hc.2
 have hxr := fun h => u64and (shr64 (IntKind.u64.wrap (IntKind.u64.wrap (h * 6364136223846793005) + 1442695040888963407)) 33)
 have hxh := hxr h
 refine CallX.dropE (CallX.ofF Tryz.func47 rfl (by kernel_rfl) ?_)
 intro usC frC hfC
 refine R.go 10 (k4 (n < 1) (fun c1 => ?_) (fun c1 => ?_))
 ·exact R.go 4 (R.retX (res := AI 0) (hp' := [.box 123 [LB c, AI (p : Int), .int .u64 h], .list eo1 so1 no1 co1, .list eo2 so2 no2 co2, .list eo3 so3 no3 co3, .list eo4 so4 no4 co4, .dead]) (by kernel_rfl) (by kernel_rfl) (by kernel_rfl) (by kernel_rfl) ⟨[0, 1, 2, 3, 4], by kernel_rfl, by decide, 0, p, h, by first | exact mod_rng (by assumption) | exact ⟨fun _ => rfl, fun h1 => by omega⟩, by kernel_rfl, by kernel_rfl⟩)
 refine R.go 22 (k2 .i64 (bits .and .u64 (shr64 (IntKind.u64.wrap ((IntKind.u64.wrap (h * 6364136223846793005)) + 1442695040888963407)) 33) 16777215) (wrap_id (by omega) (by omega)) (R.go 16 (k4 ((p : Int) < (c.length : Int)) (fun c2 => ?_) (fun c2 => ?_))))
 ·have hbp := hcb p (by omega)
  refine R.go 11 (k10 eB c 0 p (p : Int) eB_len (R.go 1 (k2 .i64 (c.getD p 0) (wrap_id (by omega) (by omega)) (k1 ((bits .and .u64 (shr64 (IntKind.u64.wrap ((IntKind.u64.wrap (h * 6364136223846793005)) + 1442695040888963407)) 33) 16777215) + (c.getD p 0)) (R.go 8 (k1 ((p : Int) + 1) (R.go 8 (R.rem ((bits .and .u64 (shr64 (IntKind.u64.wrap ((IntKind.u64.wrap (h * 6364136223846793005)) + 1442695040888963407)) 33) 16777215) + (c.getD p 0)) n (by kernel_rfl) (by omega) (by omega) (by kernel_rfl) ?_))))))))
  exact R.go 2 (R.retX (res := AI (((bits .and .u64 (shr64 (IntKind.u64.wrap ((IntKind.u64.wrap (h * 6364136223846793005)) + 1442695040888963407)) 33) 16777215) + (c.getD p 0)) % n)) (hp' := [.box 123 [LB c, AI ((p : Int) + 1), .int .u64 (IntKind.u64.wrap ((IntKind.u64.wrap (h * 6364136223846793005)) + 1442695040888963407))], .list eo1 so1 no1 co1, .list eo2 so2 no2 co2, .list eo3 so3 no3 co3, .list eo4 so4 no4 co4, .dead]) (by kernel_rfl) (by kernel_rfl) (by kernel_rfl) (by kernel_rfl) ⟨[0, 1, 2, 3, 4], by kernel_rfl, by decide, ((bits .and .u64 (shr64 (IntKind.u64.wrap ((IntKind.u64.wrap (h * 6364136223846793005)) + 1442695040888963407)) 33) 16777215) + (c.getD p 0)) % n, p + 1, IntKind.u64.wrap ((IntKind.u64.wrap (h * 6364136223846793005)) + 1442695040888963407), by first | exact mod_rng (by assumption) | exact ⟨fun _ => rfl, fun h1 => by omega⟩, by kernel_rfl, by kernel_rfl⟩)
 refine R.go 5 (R.rem (bits .and .u64 (shr64 (IntKind.u64.wrap ((IntKind.u64.wrap (h * 6364136223846793005)) + 1442695040888963407)) 33) 16777215) n (by kernel_rfl) (by omega) (by omega) (by kernel_rfl) ?_)
 exact R.go 2 (R.retX (res := AI ((bits .and .u64 (shr64 (IntKind.u64.wrap ((IntKind.u64.wrap (h * 6364136223846793005)) + 1442695040888963407)) 33) 16777215) % n)) (hp' := [.box 123 [LB c, AI (p : Int), .int .u64 (IntKind.u64.wrap ((IntKind.u64.wrap (h * 6364136223846793005)) + 1442695040888963407))], .list eo1 so1 no1 co1, .list eo2 so2 no2 co2, .list eo3 so3 no3 co3, .list eo4 so4 no4 co4, .dead]) (by kernel_rfl) (by kernel_rfl) (by kernel_rfl) (by kernel_rfl) ⟨[0, 1, 2, 3, 4], by kernel_rfl, by decide, (bits .and .u64 (shr64 (IntKind.u64.wrap ((IntKind.u64.wrap (h * 6364136223846793005)) + 1442695040888963407)) 33) 16777215) % n, p, IntKind.u64.wrap ((IntKind.u64.wrap (h * 6364136223846793005)) + 1442695040888963407), by first | exact mod_rng (by assumption) | exact ⟨fun _ => rfl, fun h1 => by omega⟩, by kernel_rfl, by kernel_rfl⟩)
theorem nextX_c_r5 (c : List Int) (p : Nat) (h n : Int) (eo1 so1 no1 : Nat) (co1 : List AV) (eo2 so2 no2 : Nat) (co2 : List AV) (eo3 so3 no3 : Nat) (co3 : List AV) (eo4 so4 no4 : Nat) (co4 : List AV) (eo5 so5 no5 : Nat) (co5 : List AV) (hc : BY c) : CallX Tryz.prog 47 [.ptr 0 0, AI n] [.box 123 [LB c, AI (p : Int), .int .u64 h], .list eo1 so1 no1 co1, .list eo2 so2 no2 co2, .list eo3 so3 no3 co3, .list eo4 so4 no4 co4, .list eo5 so5 no5 co5] (fun (resX : AV) (objX : List AObj) => ∃ v : Int, ∃ p1 : Nat, ∃ h1 : Int, ((n < 1 → v = 0) ∧ (1 ≤ n → 0 ≤ v ∧ v < n)) ∧ resX = AI v ∧ objX = [.box 123 [LB c, AI (p1 : Int), .int .u64 h1], .list eo1 so1 no1 co1, .list eo2 so2 no2 co2, .list eo3 so3 no3 co3, .list eo4 so4 no4 co4, .list eo5 so5 no5 co5]) := by
 have hcl : c.length ≤ 4096 := hc.1
 have hcb := hc.2
 have hxr := fun h => u64and (shr64 (IntKind.u64.wrap (IntKind.u64.wrap (h * 6364136223846793005) + 1442695040888963407)) 33)
 have hxh := hxr h
 refine CallX.dropE (CallX.ofF Tryz.func47 rfl (by kernel_rfl) ?_)
 intro usC frC hfC
 refine R.go 10 (k4 (n < 1) (fun c1 => ?_) (fun c1 => ?_))
 ·exact R.go 4 (R.retX (res := AI 0) (hp' := [.box 123 [LB c, AI (p : Int), .int .u64 h], .list eo1 so1 no1 co1, .list eo2 so2 no2 co2, .list eo3 so3 no3 co3, .list eo4 so4 no4 co4, .list eo5 so5 no5 co5, .dead]) (by kernel_rfl) (by kernel_rfl) (by kernel_rfl) (by kernel_rfl) ⟨[0, 1, 2, 3, 4, 5], by kernel_rfl, by decide, 0, p, h, by first | exact mod_rng (by assumption) | exact ⟨fun _ => rfl, fun h1 => by omega⟩, by kernel_rfl, by kernel_rfl⟩)
 refine R.go 22 (k2 .i64 (bits .and .u64 (shr64 (IntKind.u64.wrap ((IntKind.u64.wrap (h * 6364136223846793005)) + 1442695040888963407)) 33) 16777215) (wrap_id (by omega) (by omega)) (R.go 16 (k4 ((p : Int) < (c.length : Int)) (fun c2 => ?_) (fun c2 => ?_))))
 ·have hbp := hcb p (by omega)
  refine R.go 11 (k10 eB c 0 p (p : Int) eB_len (R.go 1 (k2 .i64 (c.getD p 0) (wrap_id (by omega) (by omega)) (k1 ((bits .and .u64 (shr64 (IntKind.u64.wrap ((IntKind.u64.wrap (h * 6364136223846793005)) + 1442695040888963407)) 33) 16777215) + (c.getD p 0)) (R.go 8 (k1 ((p : Int) + 1) (R.go 8 (R.rem ((bits .and .u64 (shr64 (IntKind.u64.wrap ((IntKind.u64.wrap (h * 6364136223846793005)) + 1442695040888963407)) 33) 16777215) + (c.getD p 0)) n (by kernel_rfl) (by omega) (by omega) (by kernel_rfl) ?_))))))))
  exact R.go 2 (R.retX (res := AI (((bits .and .u64 (shr64 (IntKind.u64.wrap ((IntKind.u64.wrap (h * 6364136223846793005)) + 1442695040888963407)) 33) 16777215) + (c.getD p 0)) % n)) (hp' := [.box 123 [LB c, AI ((p : Int) + 1), .int .u64 (IntKind.u64.wrap ((IntKind.u64.wrap (h * 6364136223846793005)) + 1442695040888963407))], .list eo1 so1 no1 co1, .list eo2 so2 no2 co2, .list eo3 so3 no3 co3, .list eo4 so4 no4 co4, .list eo5 so5 no5 co5, .dead]) (by kernel_rfl) (by kernel_rfl) (by kernel_rfl) (by kernel_rfl) ⟨[0, 1, 2, 3, 4, 5], by kernel_rfl, by decide, ((bits .and .u64 (shr64 (IntKind.u64.wrap ((IntKind.u64.wrap (h * 6364136223846793005)) + 1442695040888963407)) 33) 16777215) + (c.getD p 0)) % n, p + 1, IntKind.u64.wrap ((IntKind.u64.wrap (h * 6364136223846793005)) + 1442695040888963407), by first | exact mod_rng (by assumption) | exact ⟨fun _ => rfl, fun h1 => by omega⟩, by kernel_rfl, by kernel_rfl⟩)
 refine R.go 5 (R.rem (bits .and .u64 (shr64 (IntKind.u64.wrap ((IntKind.u64.wrap (h * 6364136223846793005)) + 1442695040888963407)) 33) 16777215) n (by kernel_rfl) (by omega) (by omega) (by kernel_rfl) ?_)
 exact R.go 2 (R.retX (res := AI ((bits .and .u64 (shr64 (IntKind.u64.wrap ((IntKind.u64.wrap (h * 6364136223846793005)) + 1442695040888963407)) 33) 16777215) % n)) (hp' := [.box 123 [LB c, AI (p : Int), .int .u64 (IntKind.u64.wrap ((IntKind.u64.wrap (h * 6364136223846793005)) + 1442695040888963407))], .list eo1 so1 no1 co1, .list eo2 so2 no2 co2, .list eo3 so3 no3 co3, .list eo4 so4 no4 co4, .list eo5 so5 no5 co5, .dead]) (by kernel_rfl) (by kernel_rfl) (by kernel_rfl) (by kernel_rfl) ⟨[0, 1, 2, 3, 4, 5], by kernel_rfl, by decide, (bits .and .u64 (shr64 (IntKind.u64.wrap ((IntKind.u64.wrap (h * 6364136223846793005)) + 1442695040888963407)) 33) 16777215) % n, p, IntKind.u64.wrap ((IntKind.u64.wrap (h * 6364136223846793005)) + 1442695040888963407), by first | exact mod_rng (by assumption) | exact ⟨fun _ => rfl, fun h1 => by omega⟩, by kernel_rfl, by kernel_rfl⟩)
theorem nextX_c_r3b (c : List Int) (p : Nat) (h n : Int) (eo1 so1 no1 : Nat) (co1 : List AV) (eo2 so2 no2 : Nat) (co2 : List AV) (eo3 so3 no3 : Nat) (co3 : List AV) (to4 : Nat) (a_x : Int) (hc : BY c) : CallX Tryz.prog 47 [.ptr 0 0, AI n] [.box 123 [LB c, AI (p : Int), .int .u64 h], .list eo1 so1 no1 co1, .list eo2 so2 no2 co2, .list eo3 so3 no3 co3, .box to4 [AI a_x, .ref 3]] (fun (resX : AV) (objX : List AObj) => ∃ v : Int, ∃ p1 : Nat, ∃ h1 : Int, ((n < 1 → v = 0) ∧ (1 ≤ n → 0 ≤ v ∧ v < n)) ∧ resX = AI v ∧ objX = [.box 123 [LB c, AI (p1 : Int), .int .u64 h1], .list eo1 so1 no1 co1, .list eo2 so2 no2 co2, .list eo3 so3 no3 co3, .box to4 [AI a_x, .ref 3]]) := by
 have hcl : c.length ≤ 4096 := hc.1
 have hcb := hc.2
 have hxr := fun h => u64and (shr64 (IntKind.u64.wrap (IntKind.u64.wrap (h * 6364136223846793005) + 1442695040888963407)) 33)
 have hxh := hxr h
 refine CallX.dropE (CallX.ofF Tryz.func47 rfl (by kernel_rfl) ?_)
 intro usC frC hfC
 refine R.go 10 (k4 (n < 1) (fun c1 => ?_) (fun c1 => ?_))
 ·exact R.go 4 (R.retX (res := AI 0) (hp' := [.box 123 [LB c, AI (p : Int), .int .u64 h], .list eo1 so1 no1 co1, .list eo2 so2 no2 co2, .list eo3 so3 no3 co3, .box to4 [AI a_x, .ref 3], .dead]) (by kernel_rfl) (by kernel_rfl) (by kernel_rfl) (by kernel_rfl) ⟨[0, 1, 2, 3, 4], by kernel_rfl, by decide, 0, p, h, by first | exact mod_rng (by assumption) | exact ⟨fun _ => rfl, fun h1 => by omega⟩, by kernel_rfl, by kernel_rfl⟩)
 refine R.go 22 (k2 .i64 (bits .and .u64 (shr64 (IntKind.u64.wrap ((IntKind.u64.wrap (h * 6364136223846793005)) + 1442695040888963407)) 33) 16777215) (wrap_id (by omega) (by omega)) (R.go 16 (k4 ((p : Int) < (c.length : Int)) (fun c2 => ?_) (fun c2 => ?_))))
 ·have hbp := hcb p (by omega)
  refine R.go 11 (k10 eB c 0 p (p : Int) eB_len (R.go 1 (k2 .i64 (c.getD p 0) (wrap_id (by omega) (by omega)) (k1 ((bits .and .u64 (shr64 (IntKind.u64.wrap ((IntKind.u64.wrap (h * 6364136223846793005)) + 1442695040888963407)) 33) 16777215) + (c.getD p 0)) (R.go 8 (k1 ((p : Int) + 1) (R.go 8 (R.rem ((bits .and .u64 (shr64 (IntKind.u64.wrap ((IntKind.u64.wrap (h * 6364136223846793005)) + 1442695040888963407)) 33) 16777215) + (c.getD p 0)) n (by kernel_rfl) (by omega) (by omega) (by kernel_rfl) ?_))))))))
  exact R.go 2 (R.retX (res := AI (((bits .and .u64 (shr64 (IntKind.u64.wrap ((IntKind.u64.wrap (h * 6364136223846793005)) + 1442695040888963407)) 33) 16777215) + (c.getD p 0)) % n)) (hp' := [.box 123 [LB c, AI ((p : Int) + 1), .int .u64 (IntKind.u64.wrap ((IntKind.u64.wrap (h * 6364136223846793005)) + 1442695040888963407))], .list eo1 so1 no1 co1, .list eo2 so2 no2 co2, .list eo3 so3 no3 co3, .box to4 [AI a_x, .ref 3], .dead]) (by kernel_rfl) (by kernel_rfl) (by kernel_rfl) (by kernel_rfl) ⟨[0, 1, 2, 3, 4], by kernel_rfl, by decide, ((bits .and .u64 (shr64 (IntKind.u64.wrap ((IntKind.u64.wrap (h * 6364136223846793005)) + 1442695040888963407)) 33) 16777215) + (c.getD p 0)) % n, p + 1, IntKind.u64.wrap ((IntKind.u64.wrap (h * 6364136223846793005)) + 1442695040888963407), by first | exact mod_rng (by assumption) | exact ⟨fun _ => rfl, fun h1 => by omega⟩, by kernel_rfl, by kernel_rfl⟩)
 refine R.go 5 (R.rem (bits .and .u64 (shr64 (IntKind.u64.wrap ((IntKind.u64.wrap (h * 6364136223846793005)) + 1442695040888963407)) 33) 16777215) n (by kernel_rfl) (by omega) (by omega) (by kernel_rfl) ?_)
 exact R.go 2 (R.retX (res := AI ((bits .and .u64 (shr64 (IntKind.u64.wrap ((IntKind.u64.wrap (h * 6364136223846793005)) + 1442695040888963407)) 33) 16777215) % n)) (hp' := [.box 123 [LB c, AI (p : Int), .int .u64 (IntKind.u64.wrap ((IntKind.u64.wrap (h * 6364136223846793005)) + 1442695040888963407))], .list eo1 so1 no1 co1, .list eo2 so2 no2 co2, .list eo3 so3 no3 co3, .box to4 [AI a_x, .ref 3], .dead]) (by kernel_rfl) (by kernel_rfl) (by kernel_rfl) (by kernel_rfl) ⟨[0, 1, 2, 3, 4], by kernel_rfl, by decide, (bits .and .u64 (shr64 (IntKind.u64.wrap ((IntKind.u64.wrap (h * 6364136223846793005)) + 1442695040888963407)) 33) 16777215) % n, p, IntKind.u64.wrap ((IntKind.u64.wrap (h * 6364136223846793005)) + 1442695040888963407), by first | exact mod_rng (by assumption) | exact ⟨fun _ => rfl, fun h1 => by omega⟩, by kernel_rfl, by kernel_rfl⟩)
theorem pickX_c_r3 (c : List Int) (p : Nat) (h : Int) (L : List Int) (eo1 so1 no1 : Nat) (co1 : List AV) (eo2 so2 no2 : Nat) (co2 : List AV) (eo3 so3 no3 : Nat) (co3 : List AV) (hc : BY c) (hL : 1 ≤ L.length ∧ L.length ≤ 100) : CallX Tryz.prog 48 [.ptr 0 0, LI L] [.box 123 [LB c, AI (p : Int), .int .u64 h], .list eo1 so1 no1 co1, .list eo2 so2 no2 co2, .list eo3 so3 no3 co3] (fun (resX : AV) (objX : List AObj) => ∃ v : Int, ∃ p1 : Nat, ∃ h1 : Int, resX = AI v ∧ objX = [.box 123 [LB c, AI (p1 : Int), .int .u64 h1], .list eo1 so1 no1 co1, .list eo2 so2 no2 co2, .list eo3 so3 no3 co3]) := by
 have hcl : c.length ≤ 4096 := hc.1
 have hcb := hc.2
 refine CallX.dropE (CallX.ofF Tryz.func48 rfl (by kernel_rfl) ?_)
 intro usC frC hfC
 refine R.go 10 (k25 (k26a 4 usC frC (nextX_c_r3 c p h L.length eo1 so1 no1 co1 eo2 so2 no2 co2 eo3 so3 no3 co3 hc)) ?_)
 rintro _ _ ⟨_, _, ⟨v_1, p1_2, h1_3, f4, rfl, rfl⟩, rfl, rfl⟩
 refine k10 eI L 0 ((v_1).toNat) v_1 eI_len ?_ (hji := by omega)
 exact R.go 3 (R.retX (res := AI (L.getD ((v_1).toNat) 0)) (hp' := [.box 123 [LB c, AI (p1_2 : Int), .int .u64 h1_3], .list eo1 so1 no1 co1, .list eo2 so2 no2 co2, .list eo3 so3 no3 co3, .dead]) (by kernel_rfl) (by kernel_rfl) (by kernel_rfl) (by kernel_rfl) ⟨[0, 1, 2, 3], by kernel_rfl, by decide, (L.getD ((v_1).toNat) 0), p1_2, h1_3, by kernel_rfl, by kernel_rfl⟩)
theorem pickX_c_r4 (c : List Int) (p : Nat) (h : Int) (L : List Int) (eo1 so1 no1 : Nat) (co1 : List AV) (eo2 so2 no2 : Nat) (co2 : List AV) (eo3 so3 no3 : Nat) (co3 : List AV) (eo4 so4 no4 : Nat) (co4 : List AV) (hc : BY c) (hL : 1 ≤ L.length ∧ L.length ≤ 100) : CallX Tryz.prog 48 [.ptr 0 0, LI L] [.box 123 [LB c, AI (p : Int), .int .u64 h], .list eo1 so1 no1 co1, .list eo2 so2 no2 co2, .list eo3 so3 no3 co3, .list eo4 so4 no4 co4] (fun (resX : AV) (objX : List AObj) => ∃ v : Int, ∃ p1 : Nat, ∃ h1 : Int, resX = AI v ∧ objX = [.box 123 [LB c, AI (p1 : Int), .int .u64 h1], .list eo1 so1 no1 co1, .list eo2 so2 no2 co2, .list eo3 so3 no3 co3, .list eo4 so4 no4 co4]) := by
 have hcl : c.length ≤ 4096 := hc.1
 have hcb := hc.2
 refine CallX.dropE (CallX.ofF Tryz.func48 rfl (by kernel_rfl) ?_)
 intro usC frC hfC
 refine R.go 10 (k25 (k26a 5 usC frC (nextX_c_r4 c p h L.length eo1 so1 no1 co1 eo2 so2 no2 co2 eo3 so3 no3 co3 eo4 so4 no4 co4 hc)) ?_)
 rintro _ _ ⟨_, _, ⟨v_1, p1_2, h1_3, f4, rfl, rfl⟩, rfl, rfl⟩
 refine k10 eI L 0 ((v_1).toNat) v_1 eI_len ?_ (hji := by omega)
 exact R.go 3 (R.retX (res := AI (L.getD ((v_1).toNat) 0)) (hp' := [.box 123 [LB c, AI (p1_2 : Int), .int .u64 h1_3], .list eo1 so1 no1 co1, .list eo2 so2 no2 co2, .list eo3 so3 no3 co3, .list eo4 so4 no4 co4, .dead]) (by kernel_rfl) (by kernel_rfl) (by kernel_rfl) (by kernel_rfl) ⟨[0, 1, 2, 3, 4], by kernel_rfl, by decide, (L.getD ((v_1).toNat) 0), p1_2, h1_3, by kernel_rfl, by kernel_rfl⟩)
theorem pickX_c_r3b (c : List Int) (p : Nat) (h : Int) (L : List Int) (eo1 so1 no1 : Nat) (co1 : List AV) (eo2 so2 no2 : Nat) (co2 : List AV) (eo3 so3 no3 : Nat) (co3 : List AV) (to4 : Nat) (a_x : Int) (hc : BY c) (hL : 1 ≤ L.length ∧ L.length ≤ 100) : CallX Tryz.prog 48 [.ptr 0 0, LI L] [.box 123 [LB c, AI (p : Int), .int .u64 h], .list eo1 so1 no1 co1, .list eo2 so2 no2 co2, .list eo3 so3 no3 co3, .box to4 [AI a_x, .ref 3]] (fun (resX : AV) (objX : List AObj) => ∃ v : Int, ∃ p1 : Nat, ∃ h1 : Int, resX = AI v ∧ objX = [.box 123 [LB c, AI (p1 : Int), .int .u64 h1], .list eo1 so1 no1 co1, .list eo2 so2 no2 co2, .list eo3 so3 no3 co3, .box to4 [AI a_x, .ref 3]]) := by
 have hcl : c.length ≤ 4096 := hc.1
 have hcb := hc.2
 refine CallX.dropE (CallX.ofF Tryz.func48 rfl (by kernel_rfl) ?_)
 intro usC frC hfC
 refine R.go 10 (k25 (k26a 5 usC frC (nextX_c_r3b c p h L.length eo1 so1 no1 co1 eo2 so2 no2 co2 eo3 so3 no3 co3 to4 a_x hc)) ?_)
 rintro _ _ ⟨_, _, ⟨v_1, p1_2, h1_3, f4, rfl, rfl⟩, rfl, rfl⟩
 refine k10 eI L 0 ((v_1).toNat) v_1 eI_len ?_ (hji := by omega)
 exact R.go 3 (R.retX (res := AI (L.getD ((v_1).toNat) 0)) (hp' := [.box 123 [LB c, AI (p1_2 : Int), .int .u64 h1_3], .list eo1 so1 no1 co1, .list eo2 so2 no2 co2, .list eo3 so3 no3 co3, .box to4 [AI a_x, .ref 3], .dead]) (by kernel_rfl) (by kernel_rfl) (by kernel_rfl) (by kernel_rfl) ⟨[0, 1, 2, 3, 4], by kernel_rfl, by decide, (L.getD ((v_1).toNat) 0), p1_2, h1_3, by kernel_rfl, by kernel_rfl⟩)
end Go.Proofs.YtehbliocfpppoaaGreat

/-! Formulas as lists of nodes. -/
namespace Go.Proofs.YtehbliocfpppoaaGreat
open Go.RowKit Go.Abs
theorem l02False_c : CallA Tryz.prog 186 [] (ownA eN 129 2 [(1, 0)]) := by
 refine CallA.of Tryz.func186 rfl (by kernel_rfl) ?_
 exact R.go 10 (R.retE (ownA eN 129 2 [(1, 0)]) (by kernel_rfl) (by kernel_rfl) (by rfl))
theorem l02Var_c (v : Int) : CallA Tryz.prog 187 [AI v] (ownA eN 129 2 [(0, v)]) := by
 refine CallA.of Tryz.func187 rfl (by kernel_rfl) ?_
 exact R.go 11 (R.retE (ownA eN 129 2 [(0, v)]) (by kernel_rfl) (by kernel_rfl) (by rfl))
theorem l02Pair_c (k : Int) (a b : List (Int × Int)) (ha : a.length ≤ 1000000) (hb : b.length ≤ 1000000) : CallA Tryz.prog 103 [AI k, LN a, LN b] (ownA eN 129 2 ((k, 0) :: (a ++ b))) := by
 refine CallA.of Tryz.func103 rfl (by kernel_rfl) (R.go 10 (k14 eN [(k, 0)] a 0 129 2 16 eN_one (R.go 1 (k14 eN ([(k, 0)] ++ a) b 0 129 2 16 eN_one ?_))))
 exact R.go 2 (k18 (ownA eN 129 2 ([(k, 0)] ++ a ++ b)) (by first | (rfl) | (exfalso; omega)))
theorem l02Not_c (a : List (Int × Int)) (ha : a.length ≤ 1000000) : CallA Tryz.prog 188 [LN a] (ownA eN 129 2 ((4, 0) :: (a ++ [(1, 0)]))) := by
 refine CallA.of Tryz.func188 rfl (by kernel_rfl) (R.go 7 (k15 true (l02False_c).frz (k15 true (l02Pair_c 4 a [(1, 0)] ha (by first | omega | (simp <;> omega))) ?_)))
 exact R.go 2 (k18 (ownA eN 129 2 ((4, 0) :: (a ++ [(1, 0)]))) (by rfl))
end Go.Proofs.YtehbliocfpppoaaGreat
