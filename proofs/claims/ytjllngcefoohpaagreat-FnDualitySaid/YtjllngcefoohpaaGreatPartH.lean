/- Texts of the proof: SymM, Sym0, Sym4, Sym7, Sym8, Symd. -/
import Derived.Test.YtjllngcefoohpaaGreatPartG

/-! Calls told by what holds behind them, under further frames that lie anywhere among the objects. -/
namespace Go.Abs
open Go.RowKit Go.ChangeShapes Go.WideShapes Go.Deep
mutual
theorem Rel.mixJ {w w' : World} {Z Z' : Nat → Prop} {μ μ1 μ2 : List Value} {js : List Nat} (hA : ∀ (i : Nat) u, js.contains i = true → μ1[js.idxOf i]? = some u → μ2[i]? = some u) (hB : ∀ (i : Nat) u, js.contains i = false → μ[i]? = some u → μ2[i]? = some u) :
  ∀ {c : AV} {v : Value}, Rel w Z μ c v → Rel w' Z' μ1 (c.ren js) v → Rel w' Z' μ2 c v
 | .int _ _, _, _, h => by simpa [Rel, AV.ren] using h
 | .bool _, _, _, h => by simpa [Rel, AV.ren] using h
 | .str _, _, _, h => by simpa [Rel, AV.ren] using h
 | .nil, _, _, h => by simpa [Rel, AV.ren] using h
 | .top, _, _, _ => by simp [Rel]
 | .own _ _ _ _, _, h, _ => by simp [Rel] at h
 | .lst _ _ _, _, _, h => by simpa [Rel, AV.ren] using h
 | .clp _ _ _, _, _, h => by simpa [Rel, AV.ren] using h
 | .nam _ _ _ _ _, _, _, h => by simpa [Rel, AV.ren] using h
 | .rptr _, _, _, h => by simpa [Rel, AV.ren] using h
 | .ref i, v, h1, h2 => by
  simp only [Rel] at h1 ⊢
  cases hc : js.contains i with
  | true =>
   simp only [AV.ren, hc, if_true, Rel] at h2
   exact hA i v hc h2
  | false => exact hB i v hc h1
 | .ptr i o, v, h1, h2 => by
  simp only [Rel] at h1 ⊢
  cases hc : js.contains i with
  | true =>
   simp only [AV.ren, hc, if_true, Rel] at h2
   obtain ⟨u, g, e1, e2, e3⟩ := h2
   exact ⟨u, g, hA i u hc e1, e2, e3⟩
  | false =>
   obtain ⟨u, g, e1, e2, e3⟩ := h1
   exact ⟨u, g, hB i u hc e1, e2, e3⟩
 | .agg cs, v, h1, h2 => by
  simp only [Rel, AV.ren] at h1 h2 ⊢
  obtain ⟨xs, e1, r1⟩ := h1
  obtain ⟨ys, e2, r2⟩ := h2
  rw [e1] at e2
  simp only [Value.agg.injEq] at e2
  have e3 : xs = ys := by simpa using e2
  subst e3
  exact ⟨xs, e1, RelL.mixJ hA hB r1 r2⟩
 | .tup cs, v, h1, h2 => by
  simp only [Rel, AV.ren] at h1 h2 ⊢
  obtain ⟨xs, e1, r1⟩ := h1
  obtain ⟨ys, e2, r2⟩ := h2
  rw [e1] at e2
  simp only [Value.tuple.injEq] at e2
  have e3 : xs = ys := by simpa using e2
  subst e3
  exact ⟨xs, e1, RelL.mixJ hA hB r1 r2⟩
 | .fn f cs, v, h1, h2 => by
  simp only [Rel, AV.ren] at h1 h2 ⊢
  obtain ⟨xs, e1, r1⟩ := h1
  obtain ⟨ys, e2, r2⟩ := h2
  rw [e1] at e2
  simp only [Value.func.injEq, true_and] at e2
  have e3 : xs = ys := by simpa using e2
  subst e3
  exact ⟨xs, e1, RelL.mixJ hA hB r1 r2⟩
theorem RelL.mixJ {w w' : World} {Z Z' : Nat → Prop} {μ μ1 μ2 : List Value} {js : List Nat} (hA : ∀ (i : Nat) u, js.contains i = true → μ1[js.idxOf i]? = some u → μ2[i]? = some u) (hB : ∀ (i : Nat) u, js.contains i = false → μ[i]? = some u → μ2[i]? = some u) :
  ∀ {cs : List AV} {vs : List Value}, RelL w Z μ cs vs → RelL w' Z' μ1 (renL js cs) vs → RelL w' Z' μ2 cs vs
 | [], _, _, h => by simpa [RelL, renL] using h
 | c :: cs, _, h1, h2 => by
  simp only [RelL, renL] at h1 h2 ⊢
  obtain ⟨x, xs, e1, a1, b1⟩ := h1
  obtain ⟨y, ys, e2, a2, b2⟩ := h2
  rw [e1] at e2
  simp only [List.cons.injEq] at e2
  obtain ⟨rfl, rfl⟩ := e2
  exact ⟨x, xs, e1, Rel.mixJ hA hB a1 a2, RelL.mixJ hA hB b1 b2⟩
end
def insI (k n : Nat) : List Nat := List.range k ++ (List.range (n - k)).map (· + (k + 1))
theorem insI_get {k n j : Nat} (hk : k ≤ n) (hj : j < n) : (insI k n)[j]? = some (if j < k then j else j + 1) := by
 unfold insI
 rcases Nat.lt_or_ge j k with h | h
 ·rw [List.getElem?_append_left (by simpa using h)]
  simp [h]
 ·rw [List.getElem?_append_right (by simpa using h)]
  simp only [List.length_range, List.getElem?_map]
  rw [List.getElem?_range (by omega)]
  simp only [Option.map_some, if_neg (Nat.not_lt.2 h), Option.some.injEq]
  omega
theorem insI_length {k n : Nat} (hk : k ≤ n) : (insI k n).length = n := by
 unfold insI
 simp
 omega
theorem insI_mem {k n i : Nat} (hk : k ≤ n) (hi : i ≤ n) (hne : i ≠ k) : (insI k n).contains i = true := by
 have : i ∈ insI k n := by
  rcases Nat.lt_or_ge i k with h | h
  ·exact List.mem_of_getElem? (i := i) (by rw [insI_get hk (by omega), if_pos h])
  ·exact List.mem_of_getElem? (i := i - 1) (by rw [insI_get hk (by omega), if_neg (by omega)]; congr 1; omega)
 simpa using this
theorem insI_nodup {k n : Nat} (hk : k ≤ n) : (insI k n).Nodup := by
 unfold insI
 rw [List.nodup_append]
 refine ⟨List.nodup_range, ?_, ?_⟩
 ·rw [List.nodup_iff_pairwise_ne, List.pairwise_map]
  exact List.nodup_range.imp fun h e => h (by omega)
 ·intro a ha b hb e
  rw [List.mem_range] at ha
  rw [List.mem_map] at hb
  obtain ⟨c, _, hc⟩ := hb
  omega
theorem insI_idx {k n i : Nat} (hk : k ≤ n) (hc : (insI k n).contains i = true) : (insI k n).idxOf i < n ∧ i = (if (insI k n).idxOf i < k then (insI k n).idxOf i else (insI k n).idxOf i + 1) := by
 have hm : i ∈ insI k n := by simpa using hc
 have hlt := List.idxOf_lt_length_iff.2 hm
 have hlt' : (insI k n).idxOf i < n := by rw [insI_length hk] at hlt; exact hlt
 refine ⟨hlt', ?_⟩
 have h1 := List.getElem_idxOf hlt
 have h2 := insI_get hk hlt'
 rw [List.getElem?_eq_getElem hlt, h1] at h2
 exact Option.some.inj h2
theorem insJ_lo {k m j : Nat} (hj : j < k) : (insJ k m)[j]? = some j := by
 unfold insJ
 rw [List.getElem?_append_left (by simpa using hj)]
 simp [hj]
theorem insJ_at {k m : Nat} : (insJ k m)[k]? = some m := by
 unfold insJ
 rw [List.getElem?_append_right (by simp)]
 simp
theorem insJ_hi {k m j : Nat} (hj : k ≤ j) (hm : j < m) : (insJ k m)[j + 1]? = some j := by
 unfold insJ
 rw [List.getElem?_append_right (by simp; omega)]
 have e : j + 1 - (List.range k).length = (j - k) + 1 := by simp; omega
 rw [e, List.getElem?_cons_succ, List.getElem?_map, List.getElem?_range (by omega)]
 simp
 omega
section
variable {P : Program}
theorem CallX.inF {f : FuncId} {args : List AV} {hp : List AObj} {Φ : AV → List AObj → Prop} (k : Nat) (us2 : List Value) (fr2 : List AV) (hc : CallX P f args hp Φ) (hk : k ≤ hp.length)
  (h1 : renH (insI k hp.length) (insF k us2 fr2 hp) = hp) (h2 : renL (insI k hp.length) (renL (insJ k hp.length) args) = args) (h3 : ∀ r h', Φ r h' → hp.length ≤ h'.length) :
  CallX P f (renL (insJ k hp.length) args) (insF k us2 fr2 hp) fun r h => ∃ res hp', Φ res hp' ∧ r = res.ren (insJ k hp'.length) ∧ h = insF k us2 fr2 hp' := by
 obtain ⟨hen, hc⟩ := hc
 refine ⟨hen, ?_⟩
 intro Z0 F w0 w μ vs us fr hFb hH hvs hus hbel
 have hHl : (insF k us2 fr2 hp).length = hp.length + 1 := by
  unfold insF renH insJ
  simp
  omega
 have hml : μ.length = hp.length + 1 := by rw [hH.len, hHl]
 have hH0 := hH.ren (insI k hp.length) (insI_nodup hk)
 have e0 : ((insI k hp.length).map fun i => ((insF k us2 fr2 hp).getD i .dead).ren (insI k hp.length)) = hp := h1
 rw [e0] at hH0
 have hvs0 := hvs.ren (insI k hp.length)
 rw [h2] at hvs0
 have hn2 : (insF k us2 fr2 hp)[k]? = some (.frame us2 fr2) := by
  unfold insF
  rw [List.getElem?_set_self]
  have : (renH (insJ k hp.length) (hp ++ [.dead])).length = hp.length + 1 := by unfold renH insJ; simp; omega
  omega
 obtain ⟨u, hu⟩ : ∃ u, μ[k]? = some u := ⟨_, List.getElem?_eq_getElem (by omega)⟩
 have hf2 : RelL w (Zone Z0 F w0.heap.size) μ fr2 us2 := hH.obj _ _ u hn2 hu
 have hus0 := (hus.append hf2).ren (insI k hp.length)
 refine (hc Z0 F w0 w _ vs (us ++ us2) _ hFb hH0 hvs0 hus0 hbel).mono ?_
 rintro e w' ⟨v, μ1, F1, res, hp', hΦ, rfl, hF1, hH1, hres, hfr1, hb1⟩
 have h3 := h3 _ _ hΦ
 have hm1 := hH1.len
 have hHd := hH1.addDead u (hH.one _ u hu)
 have hH2 := hHd.ren (insJ k hp'.length) (insJ_nodup (by omega))
 obtain ⟨μ2, hμ2⟩ : ∃ μ2, μ2 = ((insJ k hp'.length).map fun i => (μ1 ++ [u]).getD i (.bool false)) := ⟨_, rfl⟩
 have hA : ∀ (i : Nat) x, (insI k hp.length).contains i = true → μ1[(insI k hp.length).idxOf i]? = some x → μ2[i]? = some x := by
  intro i x hi hx
  obtain ⟨g1, g2⟩ := insI_idx hk hi
  generalize (insI k hp.length).idxOf i = j at g1 g2 hx
  have hj : (insJ k hp'.length)[i]? = some j := by
   split at g2
   ·rw [g2]; exact insJ_lo (by assumption)
   ·rw [g2]; exact insJ_hi (by omega) (by omega)
  rw [hμ2, List.getElem?_map, hj]
  simp only [Option.map_some, List.getD_eq_getElem?_getD]
  rw [List.getElem?_append_left (List.getElem?_eq_some_iff.1 hx).1, hx]
  rfl
 have hB : ∀ (i : Nat) x, (insI k hp.length).contains i = false → μ[i]? = some x → μ2[i]? = some x := by
  intro i x hi hx
  have hlt := (List.getElem?_eq_some_iff.1 hx).1
  have hin : i = k := by
   refine Classical.byContradiction fun hne => ?_
   have := insI_mem hk (i := i) (by omega) hne
   rw [this] at hi
   cases hi
  subst hin
  rw [hu] at hx
  rw [hμ2, List.getElem?_map, insJ_at]
  simp only [Option.map_some, List.getD_eq_getElem?_getD]
  rw [List.getElem?_append_right (by omega), hm1]
  simpa using hx
 rw [← hμ2] at hH2
 have hall := RelL.mixJ hA hB (hus.append hf2) hfr1
 have hul := hus.length
 have hfr : RelL w' (Zone Z0 F1 w0.heap.size) μ2 fr us := by
  have := hall.take fr.length
  rwa [List.take_left, ← hul, List.take_left] at this
 have hfr2 : RelL w' (Zone Z0 F1 w0.heap.size) μ2 fr2 us2 := by
  have := hall.drop fr.length
  rwa [List.drop_left, ← hul, List.drop_left] at this
 refine ⟨v, μ2, F1, _, _, ⟨res, hp', hΦ, rfl, rfl⟩, rfl, hF1, ?_, ?_, hfr, hb1⟩
 ·refine hH2.frameAt ?_ hfr2
  rw [List.getElem?_map, insJ_at]
  simp [AObj.ren]
 ·rw [hμ2]
  exact Rel.ren _ (Rel.keep (w := w') (fun _ _ _ => rfl) (fun i u hu => append_old i u hu) hres)
theorem k31a {f : FuncId} {args : List AV} {hp : List AObj} {Φ : AV → List AObj → Prop} (k : Nat) (us2 : List Value) (fr2 : List AV) (hc : CallX P f args hp Φ) (hk : k ≤ hp.length := by exact Nat.le_of_ble_eq_true (by kernel_rfl)) (h1 : renH (insI k hp.length) (insF k us2 fr2 hp) = hp := by kernel_rfl) (h2 : renL (insI k hp.length) (renL (insJ k hp.length) args) = args := by kernel_rfl) (h3 : ∀ r h', Φ r h' → hp.length ≤ h'.length := by rintro _ _ ⟨_, ⟨_, ⟨_, ⟨_, _, _, _, rfl, rfl⟩, rfl⟩, rfl⟩, rfl⟩; exact Nat.le_of_ble_eq_true (by kernel_rfl)) : CallX P f (renL (insJ k hp.length) args) (insF k us2 fr2 hp) fun r h => ∃ res hp', Φ res hp' ∧ r = res.ren (insJ k hp'.length) ∧ h = insF k us2 fr2 hp' := _root_.Go.Abs.CallX.inF k us2 fr2 hc hk h1 h2 h3
theorem k31b {f : FuncId} {args : List AV} {hp : List AObj} {Φ : AV → List AObj → Prop} (k : Nat) (us2 : List Value) (fr2 : List AV) (hc : CallX P f args hp Φ) (hk : k ≤ hp.length := by exact Nat.le_of_ble_eq_true (by kernel_rfl)) (h1 : renH (insI k hp.length) (insF k us2 fr2 hp) = hp := by kernel_rfl) (h2 : renL (insI k hp.length) (renL (insJ k hp.length) args) = args := by kernel_rfl) (h3 : ∀ r h', Φ r h' → hp.length ≤ h'.length := by rintro _ _ ⟨_, ⟨_, ⟨_, _, _, _, rfl, rfl⟩, rfl⟩, rfl⟩; exact Nat.le_of_ble_eq_true (by kernel_rfl)) : CallX P f (renL (insJ k hp.length) args) (insF k us2 fr2 hp) fun r h => ∃ res hp', Φ res hp' ∧ r = res.ren (insJ k hp'.length) ∧ h = insF k us2 fr2 hp' := _root_.Go.Abs.CallX.inF k us2 fr2 hc hk h1 h2 h3
theorem k31c {f : FuncId} {args : List AV} {hp : List AObj} {Φ : AV → List AObj → Prop} (k : Nat) (us2 : List Value) (fr2 : List AV) (hc : CallX P f args hp Φ) (hk : k ≤ hp.length := by exact Nat.le_of_ble_eq_true (by kernel_rfl)) (h1 : renH (insI k hp.length) (insF k us2 fr2 hp) = hp := by kernel_rfl) (h2 : renL (insI k hp.length) (renL (insJ k hp.length) args) = args := by kernel_rfl) (h3 : ∀ r h', Φ r h' → hp.length ≤ h'.length := by rintro _ _ ⟨_, ⟨_, _, _, _, rfl, rfl⟩, rfl⟩; exact Nat.le_of_ble_eq_true (by kernel_rfl)) : CallX P f (renL (insJ k hp.length) args) (insF k us2 fr2 hp) fun r h => ∃ res hp', Φ res hp' ∧ r = res.ren (insJ k hp'.length) ∧ h = insF k us2 fr2 hp' := _root_.Go.Abs.CallX.inF k us2 fr2 hc hk h1 h2 h3
theorem k31d {f : FuncId} {args : List AV} {hp : List AObj} {Φ : AV → List AObj → Prop} (k : Nat) (us2 : List Value) (fr2 : List AV) (hc : CallX P f args hp Φ) (hk : k ≤ hp.length := by exact Nat.le_of_ble_eq_true (by kernel_rfl)) (h1 : renH (insI k hp.length) (insF k us2 fr2 hp) = hp := by kernel_rfl) (h2 : renL (insI k hp.length) (renL (insJ k hp.length) args) = args := by kernel_rfl) (h3 : ∀ r h', Φ r h' → hp.length ≤ h'.length := by rintro _ _ ⟨_, _, ⟨_, ⟨_, ⟨_, _, _, _, rfl, rfl⟩, rfl⟩, rfl⟩, rfl, rfl⟩; exact Nat.le_of_ble_eq_true (by kernel_rfl)) : CallX P f (renL (insJ k hp.length) args) (insF k us2 fr2 hp) fun r h => ∃ res hp', Φ res hp' ∧ r = res.ren (insJ k hp'.length) ∧ h = insF k us2 fr2 hp' := _root_.Go.Abs.CallX.inF k us2 fr2 hc hk h1 h2 h3
theorem k31e {f : FuncId} {args : List AV} {hp : List AObj} {Φ : AV → List AObj → Prop} (k : Nat) (us2 : List Value) (fr2 : List AV) (hc : CallX P f args hp Φ) (hk : k ≤ hp.length := by exact Nat.le_of_ble_eq_true (by kernel_rfl)) (h1 : renH (insI k hp.length) (insF k us2 fr2 hp) = hp := by kernel_rfl) (h2 : renL (insI k hp.length) (renL (insJ k hp.length) args) = args := by kernel_rfl) (h3 : ∀ r h', Φ r h' → hp.length ≤ h'.length := by rintro _ _ ⟨_, _, ⟨_, ⟨_, _, _, _, rfl, rfl⟩, rfl⟩, rfl, rfl⟩; exact Nat.le_of_ble_eq_true (by kernel_rfl)) : CallX P f (renL (insJ k hp.length) args) (insF k us2 fr2 hp) fun r h => ∃ res hp', Φ res hp' ∧ r = res.ren (insJ k hp'.length) ∧ h = insF k us2 fr2 hp' := _root_.Go.Abs.CallX.inF k us2 fr2 hc hk h1 h2 h3
theorem k31f {f : FuncId} {args : List AV} {hp : List AObj} {Φ : AV → List AObj → Prop} (k : Nat) (us2 : List Value) (fr2 : List AV) (hc : CallX P f args hp Φ) (hk : k ≤ hp.length := by exact Nat.le_of_ble_eq_true (by kernel_rfl)) (h1 : renH (insI k hp.length) (insF k us2 fr2 hp) = hp := by kernel_rfl) (h2 : renL (insI k hp.length) (renL (insJ k hp.length) args) = args := by kernel_rfl) (h3 : ∀ r h', Φ r h' → hp.length ≤ h'.length := by rintro _ _ ⟨_, _, _, _, rfl, rfl⟩; exact Nat.le_of_ble_eq_true (by kernel_rfl)) : CallX P f (renL (insJ k hp.length) args) (insF k us2 fr2 hp) fun r h => ∃ res hp', Φ res hp' ∧ r = res.ren (insJ k hp'.length) ∧ h = insF k us2 fr2 hp' := _root_.Go.Abs.CallX.inF k us2 fr2 hc hk h1 h2 h3
theorem k31g {f : FuncId} {args : List AV} {hp : List AObj} {Φ : AV → List AObj → Prop} (k : Nat) (us2 : List Value) (fr2 : List AV) (hc : CallX P f args hp Φ) (hk : k ≤ hp.length := by exact Nat.le_of_ble_eq_true (by kernel_rfl)) (h1 : renH (insI k hp.length) (insF k us2 fr2 hp) = hp := by kernel_rfl) (h2 : renL (insI k hp.length) (renL (insJ k hp.length) args) = args := by kernel_rfl) (h3 : ∀ r h', Φ r h' → hp.length ≤ h'.length := by rintro _ _ ⟨_, _, ⟨_, _, ⟨_, ⟨_, ⟨_, _, _, _, rfl, rfl⟩, rfl⟩, rfl⟩, rfl, rfl⟩, rfl, rfl⟩; exact Nat.le_of_ble_eq_true (by kernel_rfl)) : CallX P f (renL (insJ k hp.length) args) (insF k us2 fr2 hp) fun r h => ∃ res hp', Φ res hp' ∧ r = res.ren (insJ k hp'.length) ∧ h = insF k us2 fr2 hp' := _root_.Go.Abs.CallX.inF k us2 fr2 hc hk h1 h2 h3
theorem k31h {f : FuncId} {args : List AV} {hp : List AObj} {Φ : AV → List AObj → Prop} (k : Nat) (us2 : List Value) (fr2 : List AV) (hc : CallX P f args hp Φ) (hk : k ≤ hp.length := by exact Nat.le_of_ble_eq_true (by kernel_rfl)) (h1 : renH (insI k hp.length) (insF k us2 fr2 hp) = hp := by kernel_rfl) (h2 : renL (insI k hp.length) (renL (insJ k hp.length) args) = args := by kernel_rfl) (h3 : ∀ r h', Φ r h' → hp.length ≤ h'.length := by rintro _ _ ⟨_, _, ⟨_, _, ⟨_, ⟨_, _, _, _, rfl, rfl⟩, rfl⟩, rfl, rfl⟩, rfl, rfl⟩; exact Nat.le_of_ble_eq_true (by kernel_rfl)) : CallX P f (renL (insJ k hp.length) args) (insF k us2 fr2 hp) fun r h => ∃ res hp', Φ res hp' ∧ r = res.ren (insJ k hp'.length) ∧ h = insF k us2 fr2 hp' := _root_.Go.Abs.CallX.inF k us2 fr2 hc hk h1 h2 h3
theorem k31i {f : FuncId} {args : List AV} {hp : List AObj} {Φ : AV → List AObj → Prop} (k : Nat) (us2 : List Value) (fr2 : List AV) (hc : CallX P f args hp Φ) (hk : k ≤ hp.length := by exact Nat.le_of_ble_eq_true (by kernel_rfl)) (h1 : renH (insI k hp.length) (insF k us2 fr2 hp) = hp := by kernel_rfl) (h2 : renL (insI k hp.length) (renL (insJ k hp.length) args) = args := by kernel_rfl) (h3 : ∀ r h', Φ r h' → hp.length ≤ h'.length := by rintro _ _ ⟨_, _, rfl, rfl⟩; exact Nat.le_of_ble_eq_true (by kernel_rfl)) : CallX P f (renL (insJ k hp.length) args) (insF k us2 fr2 hp) fun r h => ∃ res hp', Φ res hp' ∧ r = res.ren (insJ k hp'.length) ∧ h = insF k us2 fr2 hp' := _root_.Go.Abs.CallX.inF k us2 fr2 hc hk h1 h2 h3
theorem k31j {f : FuncId} {args : List AV} {hp : List AObj} {Φ : AV → List AObj → Prop} (k : Nat) (us2 : List Value) (fr2 : List AV) (hc : CallX P f args hp Φ) (hk : k ≤ hp.length := by exact Nat.le_of_ble_eq_true (by kernel_rfl)) (h1 : renH (insI k hp.length) (insF k us2 fr2 hp) = hp := by kernel_rfl) (h2 : renL (insI k hp.length) (renL (insJ k hp.length) args) = args := by kernel_rfl) (h3 : ∀ r h', Φ r h' → hp.length ≤ h'.length := by rintro _ _ ⟨_, ⟨_, _, _, _, _, _, rfl, rfl⟩, rfl⟩; exact Nat.le_of_ble_eq_true (by kernel_rfl)) : CallX P f (renL (insJ k hp.length) args) (insF k us2 fr2 hp) fun r h => ∃ res hp', Φ res hp' ∧ r = res.ren (insJ k hp'.length) ∧ h = insF k us2 fr2 hp' := _root_.Go.Abs.CallX.inF k us2 fr2 hc hk h1 h2 h3
theorem k31k {f : FuncId} {args : List AV} {hp : List AObj} {Φ : AV → List AObj → Prop} (k : Nat) (us2 : List Value) (fr2 : List AV) (hc : CallX P f args hp Φ) (hk : k ≤ hp.length := by exact Nat.le_of_ble_eq_true (by kernel_rfl)) (h1 : renH (insI k hp.length) (insF k us2 fr2 hp) = hp := by kernel_rfl) (h2 : renL (insI k hp.length) (renL (insJ k hp.length) args) = args := by kernel_rfl) (h3 : ∀ r h', Φ r h' → hp.length ≤ h'.length := by rintro _ _ ⟨_, _, ⟨_, ⟨_, ⟨_, ⟨_, _, _, _, rfl, rfl⟩, rfl⟩, rfl⟩, rfl⟩, rfl, rfl⟩; exact Nat.le_of_ble_eq_true (by kernel_rfl)) : CallX P f (renL (insJ k hp.length) args) (insF k us2 fr2 hp) fun r h => ∃ res hp', Φ res hp' ∧ r = res.ren (insJ k hp'.length) ∧ h = insF k us2 fr2 hp' := _root_.Go.Abs.CallX.inF k us2 fr2 hc hk h1 h2 h3
theorem k31l {f : FuncId} {args : List AV} {hp : List AObj} {Φ : AV → List AObj → Prop} (k : Nat) (us2 : List Value) (fr2 : List AV) (hc : CallX P f args hp Φ) (hk : k ≤ hp.length := by exact Nat.le_of_ble_eq_true (by kernel_rfl)) (h1 : renH (insI k hp.length) (insF k us2 fr2 hp) = hp := by kernel_rfl) (h2 : renL (insI k hp.length) (renL (insJ k hp.length) args) = args := by kernel_rfl) (h3 : ∀ r h', Φ r h' → hp.length ≤ h'.length := by rintro _ _ ⟨_, _, ⟨_, ⟨_, ⟨_, ⟨_, _, _, _, _, _, _, _, _, rfl, rfl⟩, rfl⟩, rfl⟩, rfl⟩, rfl, rfl⟩; exact Nat.le_of_ble_eq_true (by kernel_rfl)) : CallX P f (renL (insJ k hp.length) args) (insF k us2 fr2 hp) fun r h => ∃ res hp', Φ res hp' ∧ r = res.ren (insJ k hp'.length) ∧ h = insF k us2 fr2 hp' := _root_.Go.Abs.CallX.inF k us2 fr2 hc hk h1 h2 h3
end
section
variable {P : Program}
theorem CallX.perm {f : FuncId} {args : List AV} {hp : List AObj} {Φ : AV → List AObj → Prop} (js ks : List Nat) (hc : CallX P f args hp Φ)
  (hk : (decide js.Nodup && decide ks.Nodup && decide (js.length = hp.length) && js.all (fun i => decide (i < hp.length)) && ks.all (fun i => decide (i < hp.length)) && (List.range hp.length).all fun i => ks.contains i && decide (js[i]? = some (ks.idxOf i))) = true)
  (h1 : renH ks (renH js hp) = hp) (h2 : renL ks (renL js args) = args) (h3 : ∀ r h', Φ r h' → hp.length ≤ h'.length) :
  CallX P f (renL js args) (renH js hp) fun r h => ∃ res hp', Φ res hp' ∧ r = res.ren (js ++ (List.range (hp'.length - hp.length)).map (· + hp.length)) ∧ h = renH (js ++ (List.range (hp'.length - hp.length)).map (· + hp.length)) hp' := by
 obtain ⟨hen, hc⟩ := hc
 refine ⟨hen, ?_⟩
 simp only [Bool.and_eq_true, decide_eq_true_eq, List.all_eq_true, List.mem_range] at hk
 obtain ⟨⟨⟨⟨⟨k1, k2⟩, k3⟩, k4⟩, k6⟩, k5⟩ := hk
 intro Z0 F w0 w μ vs us fr hFb hH hvs hus hbel
 have hml : μ.length = hp.length := by rw [hH.len]; unfold renH; simp [k3]
 have hH0 := hH.ren ks k2
 have e0 : (ks.map fun i => ((renH js hp).getD i .dead).ren ks) = hp := h1
 rw [e0] at hH0
 have hvs0 := hvs.ren ks
 rw [h2] at hvs0
 have hus0 := hus.ren ks
 refine (hc Z0 F w0 w _ vs us _ hFb hH0 hvs0 hus0 hbel).mono ?_
 rintro e w' ⟨v, μ1, F1, res, hp', hΦ, rfl, hF1, hH1, hres, hfr1, hb1⟩
 have h3 := h3 _ _ hΦ
 have hm1 := hH1.len
 obtain ⟨js', hjs'⟩ : ∃ js', js' = js ++ (List.range (hp'.length - hp.length)).map (· + hp.length) := ⟨_, rfl⟩
 have hnd : js'.Nodup := by
  rw [hjs', List.nodup_append]
  refine ⟨k1, ?_, ?_⟩
  ·rw [List.nodup_iff_pairwise_ne, List.pairwise_map]
   exact List.nodup_range.imp fun h e => h (by omega)
  ·intro a ha b hb e
   rw [List.mem_map] at hb
   obtain ⟨c, _, hc⟩ := hb
   have := k4 a ha
   omega
 have hH2 := hH1.ren js' hnd
 refine ⟨v, _, F1, res.ren js', renH js' hp', ⟨res, hp', hΦ, by rw [hjs'], by rw [hjs']⟩, rfl, hF1, hH2, Rel.ren js' hres, RelL.mixJ ?_ ?_ hus hfr1, hb1⟩
 ·intro i x hi hx
  have hlt : i < hp.length := k6 i (by simpa using hi)
  have h5 := (k5 i hlt).2
  have hj' : js'[i]? = some (ks.idxOf i) := by
   rw [hjs', List.getElem?_append_left (by omega)]; exact h5
  rw [List.getElem?_map, hj']
  simp only [Option.map_some, List.getD_eq_getElem?_getD, hx, Option.getD_some]
 ·intro i x hi hx
  have hlt := (List.getElem?_eq_some_iff.1 hx).1
  have := (k5 i (by omega)).1
  rw [this] at hi
  cases hi
end

theorem fit_idx {n i : Nat} {js : List Nat} (hjs : js.take n = List.range n) (hi : i < n) : js.contains i = true ∧ js.idxOf i = i := by
 have e : js = List.range n ++ js.drop n := by rw [← hjs, List.take_append_drop]
 have hm : i ∈ List.range n := List.mem_range.2 hi
 refine ⟨?_, ?_⟩
 ·have : i ∈ js := by rw [e]; exact List.mem_append_left _ hm
  simpa using this
 ·rw [e, List.idxOf_append, if_pos hm, idx_range hi]
mutual
theorem Rel.fitR {w : World} {Z : Nat → Prop} {μ : List Value} {js : List Nat} (hjs : js.take μ.length = List.range μ.length) : ∀ {c : AV} {v : Value}, Rel w Z μ c v → c.ren js = c
 | .int _ _, _, _ => rfl
 | .bool _, _, _ => rfl
 | .str _, _, _ => rfl
 | .nil, _, _ => rfl
 | .top, _, _ => rfl
 | .own _ _ _ _, _, _ => rfl
 | .lst _ _ _, _, _ => rfl
 | .clp _ _ _, _, _ => rfl
 | .nam _ _ _ _ _, _, _ => rfl
 | .rptr _, _, _ => rfl
 | .ref i, v, h => by
  simp only [Rel] at h
  obtain ⟨h1, h2⟩ := fit_idx hjs (List.getElem?_eq_some_iff.1 h).1
  simp only [AV.ren, h1, h2, if_true]
 | .ptr i o, v, h => by
  simp only [Rel] at h
  obtain ⟨u, g, h, _⟩ := h
  obtain ⟨h1, h2⟩ := fit_idx hjs (List.getElem?_eq_some_iff.1 h).1
  simp only [AV.ren, h1, h2, if_true]
 | .agg cs, v, h => by
  simp only [Rel] at h
  obtain ⟨xs, _, h⟩ := h
  simp only [AV.ren, RelL.fitR hjs h]
 | .tup cs, v, h => by
  simp only [Rel] at h
  obtain ⟨xs, _, h⟩ := h
  simp only [AV.ren, RelL.fitR hjs h]
 | .fn f cs, v, h => by
  simp only [Rel] at h
  obtain ⟨xs, _, h⟩ := h
  simp only [AV.ren, RelL.fitR hjs h]
theorem RelL.fitR {w : World} {Z : Nat → Prop} {μ : List Value} {js : List Nat} (hjs : js.take μ.length = List.range μ.length) : ∀ {cs : List AV} {vs : List Value}, RelL w Z μ cs vs → renL js cs = cs
 | [], _, _ => rfl
 | c :: cs, _, h => by
  simp only [RelL] at h
  obtain ⟨x, xs, _, h1, h2⟩ := h
  simp only [renL, Rel.fitR hjs h1, RelL.fitR hjs h2]
end
mutual
theorem Rel.fitK {w : World} {Z : Nat → Prop} {μ : List Value} {k : Nat} (hk : μ.length ≤ k) : ∀ {c : AV} {v : Value}, Rel w Z μ c v → c.kill k = c
 | .int _ _, _, _ => rfl
 | .bool _, _, _ => rfl
 | .str _, _, _ => rfl
 | .nil, _, _ => rfl
 | .top, _, _ => rfl
 | .own _ _ _ _, _, _ => rfl
 | .lst _ _ _, _, _ => rfl
 | .clp _ _ _, _, _ => rfl
 | .nam _ _ _ _ _, _, _ => rfl
 | .rptr _, _, _ => rfl
 | .ref i, v, h => by
  simp only [Rel] at h
  have := (List.getElem?_eq_some_iff.1 h).1
  simp only [AV.kill]
  rw [if_neg (by omega)]
 | .ptr i o, v, h => by
  simp only [Rel] at h
  obtain ⟨u, g, h, _⟩ := h
  have := (List.getElem?_eq_some_iff.1 h).1
  simp only [AV.kill]
  rw [if_neg (by omega)]
 | .agg cs, v, h => by
  simp only [Rel] at h
  obtain ⟨xs, _, h⟩ := h
  simp only [AV.kill, RelL.fitK hk h]
 | .tup cs, v, h => by
  simp only [Rel] at h
  obtain ⟨xs, _, h⟩ := h
  simp only [AV.kill, RelL.fitK hk h]
 | .fn f cs, v, h => by
  simp only [Rel] at h
  obtain ⟨xs, _, h⟩ := h
  simp only [AV.kill, RelL.fitK hk h]
theorem RelL.fitK {w : World} {Z : Nat → Prop} {μ : List Value} {k : Nat} (hk : μ.length ≤ k) : ∀ {cs : List AV} {vs : List Value}, RelL w Z μ cs vs → killL k cs = cs
 | [], _, _ => rfl
 | c :: cs, _, h => by
  simp only [RelL] at h
  obtain ⟨x, xs, _, h1, h2⟩ := h
  simp only [killL, Rel.fitK hk h1, RelL.fitK hk h2]
end
mutual
theorem Rel.fitF {w : World} {Z : Nat → Prop} {μ : List Value} {k : Nat} {r : AV} (hk : μ.length ≤ k) : ∀ {c : AV} {v : Value}, Rel w Z μ c v → frzV k r c = c
 | .int _ _, _, _ => rfl
 | .bool _, _, _ => rfl
 | .str _, _, _ => rfl
 | .nil, _, _ => rfl
 | .top, _, _ => rfl
 | .own _ _ _ _, _, _ => rfl
 | .lst _ _ _, _, _ => rfl
 | .clp _ _ _, _, _ => rfl
 | .nam _ _ _ _ _, _, _ => rfl
 | .rptr _, _, _ => rfl
 | .ref i, v, h => by
  simp only [Rel] at h
  have := (List.getElem?_eq_some_iff.1 h).1
  simp only [frzV]
  rw [if_neg (by omega)]
 | .ptr i o, v, h => by
  simp only [Rel] at h
  obtain ⟨u, g, h, _⟩ := h
  have := (List.getElem?_eq_some_iff.1 h).1
  simp only [frzV]
  rw [if_neg (by omega)]
 | .agg cs, v, h => by
  simp only [Rel] at h
  obtain ⟨xs, _, h⟩ := h
  simp only [frzV, RelL.fitF hk h]
 | .tup cs, v, h => by
  simp only [Rel] at h
  obtain ⟨xs, _, h⟩ := h
  simp only [frzV, RelL.fitF hk h]
 | .fn f cs, v, h => by
  simp only [Rel] at h
  obtain ⟨xs, _, h⟩ := h
  simp only [frzV, RelL.fitF hk h]
theorem RelL.fitF {w : World} {Z : Nat → Prop} {μ : List Value} {k : Nat} {r : AV} (hk : μ.length ≤ k) : ∀ {cs : List AV} {vs : List Value}, RelL w Z μ cs vs → frzL k r cs = cs
 | [], _, _ => rfl
 | c :: cs, _, h => by
  simp only [RelL] at h
  obtain ⟨x, xs, _, h1, h2⟩ := h
  simp only [frzL, Rel.fitF hk h1, RelL.fitF hk h2]
end
structure Fits (n : Nat) (fr : List AV) : Prop where
 ren : ∀ js : List Nat, js.take n = List.range n → renL js fr = fr
 kill : ∀ i, n ≤ i → killL i fr = fr
 frz : ∀ i r, n ≤ i → frzL i r fr = fr
section
variable {rd : Option Nat} {P : Program} {m : M} {Q : Exit → St → Prop}
theorem CallX.ofF {f : FuncId} {fn : Func} {c : Code} {args : List AV} {hp : List AObj} {Φ : AV → List AObj → Prop} (hf : P.funcs[f]? = some fn) (hb : fn.body = some c) (hnm : (fn.name == "runtime.NumGoroutine") = false)
  (h : ∀ us fr, Fits hp.length fr → Runs none P ⟨[.code c], ⟨frameOf fn.ntmps args, hp ++ [.frame us fr]⟩⟩ (retX P fn hp.length us fr Φ)) : CallX P f args hp Φ := by
 refine ⟨enters_of hf hnm (by rw [hb]; rfl), ?_⟩
 intro Z0 F w0 w μ vs us fr hFb hH hvs hus hbel
 have hml := hH.len
 have hfit : Fits hp.length fr := ⟨fun js hjs => RelL.fitR (by rw [hml]; exact hjs) hus, fun i hi => RelL.fitK (by rw [hml]; exact hi) hus, fun i r hi => RelL.fitF (by rw [hml]; exact hi) hus⟩
 ·have hlen := hvs.length
  refine calls_of_wpIn hf hb ?_
  have hS : Sim Z0 w0 ⟨frameOf fn.ntmps args, hp ++ [.frame us fr]⟩ { tmps := vs.toArray ++ Array.replicate (fn.ntmps - vs.toArray.size) undef, defers := [] } w := by
   refine ⟨μ ++ [.bool false], F, hFb, hH.extend1 (zone_new hbel.size hFb) (Below.refl _ _) ?_ (fun g hg => by simp [blk] at hg) rfl, ?_, .inl rfl, hbel⟩
   ·exact RelL.keep (w := w) (fun _ _ _ => rfl) (fun i u hu => append_old i u hu) hus
   ·simp only [Array.toList_append, Array.toList_replicate, List.size_toArray, hlen, frameOf]
    refine RelL.append (RelL.keep (w := w) (fun _ _ _ => rfl) (fun i u hu => append_old i u hu) hvs) ?_
    generalize fn.ntmps - args.length = n
    induction n with
    | zero => exact RelL.nil
    | succ n ih => exact RelL.cons (by simp [Rel]) ih
  have hrun2 := h us fr hfit
  simp only [runs_iff] at hrun2
  simp only [RunsK] at hrun2
  refine wpIn_mono (hrun2 Z0 w0 _ w hS) ?_
  have fin : ∀ (e : Exit) (st' : St) (a' : Act) (w' : World), retX P fn hp.length us fr Φ e st' → Sim Z0 w0 st' a' w' → a'.defers = [] ∧ ∃ v, (results fn a'.tmps).run P w' = .ok v w' ∧ ∃ v' μ' F' res hp', Φ res hp' ∧ Ending.returned v = .returned v' ∧ (∀ b, F' b → w0.heap.size ≤ b ∧ b < w'.heap.size) ∧ HRel w' (Zone Z0 F' w0.heap.size) w0.heap.size μ' hp' ∧ Rel w' (Zone Z0 F' w0.heap.size) μ' res v' ∧ RelL w' (Zone Z0 F' w0.heap.size) μ' fr us ∧ Below w0.heap.size w0 w' := by
   rintro e st' a' w' ⟨res, hp', hΦ, _, hres, hfr, hh⟩ ⟨μ', F', hFb', hH', hF', hd', hbel'⟩
   obtain ⟨x, h1, h2⟩ := resIn_run hH' hF' hres
   unfold frameAt at hfr
   split at hfr
   ·rename_i us2 fr2 hi
    cases hfr
    have hil : hp.length < μ'.length := by rw [hH'.len]; exact (List.getElem?_eq_some_iff.1 hi).1
    have hfrr : RelL w' (Zone Z0 F' w0.heap.size) μ' fr us := hH'.obj _ _ _ hi (List.getElem?_eq_getElem hil)
    exact ⟨hd'.none (resIn_mark hres), x, h1, x, μ', F', res, hp', hΦ, rfl, hFb', hh ▸ hH'.bury _, h2, hfrr, hbel'⟩
   ·cases hfr
  rintro e a' w' ⟨st', hq, hS'⟩
  cases e with
  | normal => exact fin _ st' a' w' hq hS'
  | ret => exact fin _ st' a' w' hq hS'
  | exit id => (obtain ⟨_, _, _, hq, _⟩ := hq; exact absurd hq (by simp))
  | goto l => (obtain ⟨_, _, _, hq, _⟩ := hq; exact absurd hq (by simp))
  | panic ch => (obtain ⟨_, _, _, hq, _⟩ := hq; exact absurd hq (by simp))
  | outgrown => (obtain ⟨_, _, _, hq, _⟩ := hq; exact absurd hq (by simp))
theorem R.kfix (n : Nat) {us : List Value} {fr fr2 : List AV} (h0 : m.st.hp[n]? = some (.frame us fr2)) (hk : fr2 = fr) (h' : Runs rd P ⟨m.ks, ⟨m.st.fr, m.st.hp.set n (.frame us fr)⟩⟩ Q) : Runs rd P m Q := by
 subst hk
 obtain ⟨ks, ⟨f, hp⟩⟩ := m
 have e : hp.set n (.frame us fr2) = hp := by
  refine List.ext_getElem? fun i => ?_
  rw [List.getElem?_set]
  split
  ·rename_i hi
   subst hi
   simp only at h0
   have hlt := (List.getElem?_eq_some_iff.1 h0).1
   rw [if_pos hlt, h0]
  ·rfl
 simp only [e] at h'
 exact h'
theorem canonF {ks : List Nat} {js : List Nat} {st s' : St} {fr : List AV} (S : List AV → St) (hfit : renL js fr = fr) (h1 : canon ks (some js) st = S (renL js fr)) (h2 : S fr = s') : canon ks (some js) st = s' := by rw [h1, hfit, h2]
end

mutual
theorem Rel.mixK {w w' : World} {Z Z' : Nat → Prop} {μ μ1 μ2 : List Value} {j : Nat} (hA : ∀ (i : Nat) u, i ≠ j → μ1[i]? = some u → μ2[i]? = some u) (hB : ∀ u, μ[j]? = some u → μ2[j]? = some u) :
  ∀ {c : AV} {v : Value}, Rel w Z μ c v → Rel w' Z' μ1 (c.kill j) v → Rel w' Z' μ2 c v
 | .int _ _, _, _, h => by simpa [Rel, AV.kill] using h
 | .bool _, _, _, h => by simpa [Rel, AV.kill] using h
 | .str _, _, _, h => by simpa [Rel, AV.kill] using h
 | .nil, _, _, h => by simpa [Rel, AV.kill] using h
 | .top, _, _, _ => by simp [Rel]
 | .own _ _ _ _, _, h, _ => by simp [Rel] at h
 | .lst _ _ _, _, _, h => by simpa [Rel, AV.kill] using h
 | .clp _ _ _, _, _, h => by simpa [Rel, AV.kill] using h
 | .nam _ _ _ _ _, _, _, h => by simpa [Rel, AV.kill] using h
 | .rptr _, _, _, h => by simpa [Rel, AV.kill] using h
 | .ref i, v, h1, h2 => by
  simp only [Rel] at h1 ⊢
  by_cases hi : i = j
  ·subst hi; exact hB v h1
  ·simp only [AV.kill, if_neg hi, Rel] at h2
   exact hA i v hi h2
 | .ptr i o, v, h1, h2 => by
  simp only [Rel] at h1 ⊢
  by_cases hi : i = j
  ·subst hi
   obtain ⟨u, g, e1, e2, e3⟩ := h1
   exact ⟨u, g, hB u e1, e2, e3⟩
  ·simp only [AV.kill, if_neg hi, Rel] at h2
   obtain ⟨u, g, e1, e2, e3⟩ := h2
   exact ⟨u, g, hA i u hi e1, e2, e3⟩
 | .agg cs, v, h1, h2 => by
  simp only [Rel, AV.kill] at h1 h2 ⊢
  obtain ⟨xs, e1, r1⟩ := h1
  obtain ⟨ys, e2, r2⟩ := h2
  rw [e1] at e2
  simp only [Value.agg.injEq] at e2
  have e3 : xs = ys := by simpa using e2
  subst e3
  exact ⟨xs, e1, RelL.mixK hA hB r1 r2⟩
 | .tup cs, v, h1, h2 => by
  simp only [Rel, AV.kill] at h1 h2 ⊢
  obtain ⟨xs, e1, r1⟩ := h1
  obtain ⟨ys, e2, r2⟩ := h2
  rw [e1] at e2
  simp only [Value.tuple.injEq] at e2
  have e3 : xs = ys := by simpa using e2
  subst e3
  exact ⟨xs, e1, RelL.mixK hA hB r1 r2⟩
 | .fn f cs, v, h1, h2 => by
  simp only [Rel, AV.kill] at h1 h2 ⊢
  obtain ⟨xs, e1, r1⟩ := h1
  obtain ⟨ys, e2, r2⟩ := h2
  rw [e1] at e2
  simp only [Value.func.injEq, true_and] at e2
  have e3 : xs = ys := by simpa using e2
  subst e3
  exact ⟨xs, e1, RelL.mixK hA hB r1 r2⟩
theorem RelL.mixK {w w' : World} {Z Z' : Nat → Prop} {μ μ1 μ2 : List Value} {j : Nat} (hA : ∀ (i : Nat) u, i ≠ j → μ1[i]? = some u → μ2[i]? = some u) (hB : ∀ u, μ[j]? = some u → μ2[j]? = some u) :
  ∀ {cs : List AV} {vs : List Value}, RelL w Z μ cs vs → RelL w' Z' μ1 (killL j cs) vs → RelL w' Z' μ2 cs vs
 | [], _, _, h => by simpa [RelL, killL] using h
 | c :: cs, _, h1, h2 => by
  simp only [RelL, killL] at h1 h2 ⊢
  obtain ⟨x, xs, e1, a1, b1⟩ := h1
  obtain ⟨y, ys, e2, a2, b2⟩ := h2
  rw [e1] at e2
  simp only [List.cons.injEq] at e2
  obtain ⟨rfl, rfl⟩ := e2
  exact ⟨x, xs, e1, Rel.mixK hA hB a1 a2, RelL.mixK hA hB b1 b2⟩
end
theorem HRel.swap {w : World} {Z : Nat → Prop} {B j : Nat} {μ : List Value} {hp : List AObj} {u u' : Value} {o o' : AObj} (h : HRel w Z B μ hp) (hj : hp[j]? = some o) (hu : μ[j]? = some u) (ha : o.alive = true)
  (hblk : blk u' = blk u) (hone : u'.oneCell' = true) (hk : ∀ i oi, i ≠ j → hp[i]? = some oi → oi.kill j = oi) (hnew : ObjRel w Z (μ.set j u') B u' o') : HRel w Z B (μ.set j u') (hp.set j o') := by
 have hjl := (List.getElem?_eq_some_iff.1 hj).1
 have hul := (List.getElem?_eq_some_iff.1 hu).1
 have get : ∀ (i : Nat) oi ui, (hp.set j o')[i]? = some oi → (μ.set j u')[i]? = some ui → (i = j ∧ oi = o' ∧ ui = u') ∨ (i ≠ j ∧ hp[i]? = some oi ∧ μ[i]? = some ui) := by
  intro i oi ui h1 h2
  by_cases e : j = i
  ·subst e
   rw [List.getElem?_set_self hjl] at h1
   rw [List.getElem?_set_self hul] at h2
   simp at h1 h2
   exact .inl ⟨rfl, h1.symm, h2.symm⟩
  ·rw [List.getElem?_set_ne e] at h1 h2
   exact .inr ⟨fun h => e h.symm, h1, h2⟩
 refine ⟨by simp [h.len], fun i oi ui g h1 ha' h2 hg => ?_, fun i x hx => ?_, fun i oi ui h1 h2 => ?_, fun i k oi ok ui uk g hne h1 h2 a1 a2 m1 m2 b1 b2 => ?_⟩
 ·rcases get i oi ui h1 h2 with ⟨rfl, rfl, rfl⟩ | ⟨_, e1, e2⟩
  ·exact h.zone _ o u g hj ha hu (hblk ▸ hg)
  ·exact h.zone i oi ui g e1 ha' e2 hg
 ·by_cases e : j = i
  ·subst e
   rw [List.getElem?_set_self hul] at hx
   simp at hx
   rw [← hx]; exact hone
  ·rw [List.getElem?_set_ne e] at hx
   exact h.one i x hx
 ·rcases get i oi ui h1 h2 with ⟨rfl, rfl, rfl⟩ | ⟨hne, e1, e2⟩
  ·exact hnew
  ·have := (h.obj i oi ui e1 e2).keep_kill (μ' := μ.set j u') j (fun _ _ _ => rfl) (fun k x hk hx => by rw [List.getElem?_set_ne (fun e => hk e.symm)]; exact hx) (fun _ _ => rfl)
   rwa [hk i oi hne e1] at this
 ·rcases get i oi ui h1 m1 with ⟨rfl, rfl, rfl⟩ | ⟨hi, e1, e2⟩ <;> rcases get k ok uk h2 m2 with ⟨rfl, rfl, rfl⟩ | ⟨hk', e3, e4⟩
  ·exact hne rfl
  ·exact h.sep _ k o ok u uk g (fun e => hk' e.symm) hj e3 ha a2 hu e4 (hblk ▸ b1) b2
  ·exact h.sep i _ oi o ui u g hi e1 hj a1 ha e2 hu b1 (hblk ▸ b2)
  ·exact h.sep i k oi ok ui uk g hne e1 e3 a1 a2 e2 e4 b1 b2
theorem CallX.box {P : Program} {f : FuncId} {args : List AV} {hp : List AObj} {Φ : AV → List AObj → Prop} (j : Nat) (t : TypeId) (cs : List AV) (hc : CallX P f args hp Φ) (hj : hp[j]? = some (.list t cs.length 1 cs)) (hl : leafyL cs = true)
  (h1 : hp.map (AObj.kill j) = hp) (h2 : killL j args = args) (h3 : ∀ r h', Φ r h' → h'[j]? = some (.list t cs.length 1 cs) ∧ h'.map (AObj.kill j) = h' ∧ r.kill j = r) :
  CallX P f args (hp.set j (.box t cs)) fun r h => ∃ hp', Φ r hp' ∧ h = hp'.set j (.box t cs) := by
 obtain ⟨hen, hc⟩ := hc
 refine ⟨hen, ?_⟩
 intro Z0 F w0 w μ vs us fr hFb hH hvs hus hbel
 have hjl := (List.getElem?_eq_some_iff.1 hj).1
 have kof : ∀ {l : List AObj}, l.map (AObj.kill j) = l → ∀ (i : Nat) (oi : AObj), l[i]? = some oi → oi.kill j = oi := by
  intro l hl i oi hi
  have := congrArg (fun l : List AObj => l[i]?) hl
  simp only [List.getElem?_map, hi, Option.map_some, Option.some.injEq] at this
  exact this
 have hbj : (hp.set j (.box t cs))[j]? = some (.box t cs) := List.getElem?_set_self hjl
 obtain ⟨u, hu⟩ : ∃ u, μ[j]? = some u := ⟨_, List.getElem?_eq_getElem (by rw [hH.len, List.length_set]; exact hjl)⟩
 have hul := (List.getElem?_eq_some_iff.1 hu).1
 obtain ⟨g, xs, rfl, hBg, hg, hr⟩ := hH.obj j _ u hbj hu
 have hr0 : RelL w (Zone Z0 F w0.heap.size) [] cs xs := RelL.leafy hl hr
 have hxl := hr0.length
 obtain ⟨u', hu'⟩ : ∃ u', u' = Value.slice (some ⟨g, 0, none⟩) 1 1 := ⟨_, rfl⟩
 have hset : ((hp.set j (.box t cs)).set j (.list t cs.length 1 cs)) = hp := by
  rw [List.set_set]
  refine List.ext_getElem? fun i => ?_
  rw [List.getElem?_set]
  split
  ·rename_i e
   subst e
   exact hj.symm
  ·rfl
 have hH0 : HRel w (Zone Z0 F w0.heap.size) w0.heap.size (μ.set j u') hp := by
  have := hH.swap (u' := u') (o' := .list t cs.length 1 cs) hbj hu rfl (by rw [hu']; rfl) (by rw [hu']; rfl) (fun i oi hne hi => kof h1 i oi (by rw [List.getElem?_set_ne (fun e => hne e.symm)] at hi; exact hi)) ⟨xs, ⟨by rw [hxl, Nat.one_mul], .inr ⟨g, 1, xs.toArray, hu', hBg, hg, Nat.le_refl _, by decide, by simp [hxl], by simp [← hxl]⟩⟩, hr0⟩
  rwa [hset] at this
 have hm : ∀ (i : Nat) (x : Value), i ≠ j → μ[i]? = some x → (μ.set j u')[i]? = some x := fun i x hne hx => by rw [List.getElem?_set_ne (fun e => hne e.symm)]; exact hx
 have hvs0 := RelL.keep_kill (w := w) (w' := w) j (fun _ _ _ => rfl) hm hvs
 rw [h2] at hvs0
 have hus0 := RelL.keep_kill (w := w) (w' := w) j (fun _ _ _ => rfl) hm hus
 have hrefj : RelL w (Zone Z0 F w0.heap.size) (μ.set j u') [.ref j] [u'] := RelL.cons (by simp only [Rel]; rw [List.getElem?_set_self hul]) RelL.nil
 refine (hc Z0 F w0 w _ vs (us ++ [u']) _ hFb hH0 hvs0 (hus0.append hrefj) hbel).mono ?_
 rintro e w' ⟨v, μ1, F1, res, hp', hΦ, rfl, hF1, hH1, hres, hfr1, hb1⟩
 obtain ⟨k1, k2, k3⟩ := h3 _ _ hΦ
 have hlen1 := hus0.length
 have hfrA : RelL w' (Zone Z0 F1 w0.heap.size) μ1 (killL j fr) us := by
  have := hfr1.take (killL j fr).length
  rwa [List.take_left, ← hlen1, List.take_left] at this
 have hrj : RelL w' (Zone Z0 F1 w0.heap.size) μ1 [.ref j] [u'] := by
  have := hfr1.drop (killL j fr).length
  rwa [List.drop_left, ← hlen1, List.drop_left] at this
 have hm1 : μ1[j]? = some u' := by
  simp only [RelL, Rel] at hrj
  obtain ⟨x, _, e1, e2, _⟩ := hrj
  simp only [List.cons.injEq] at e1
  rw [e1.1]; exact e2
 have hjl1 := (List.getElem?_eq_some_iff.1 hm1).1
 obtain ⟨xs1, hown, hr1⟩ := hH1.obj j _ u' k1 hm1
 have hcell : w0.heap.size ≤ g ∧ w'.heap[g]? = some (.cells xs1.toArray t (0, 0)) := by
  rcases hown.2 with ⟨e1, _⟩ | ⟨g', cap, cur, e1, e2, e3, e4, e5, e6, e7⟩
  ·rw [hu'] at e1; cases e1
  ·rw [hu'] at e1
   simp only [Value.slice.injEq, Option.some.injEq, Addr.mk.injEq, true_and, and_true] at e1
   obtain ⟨rfl, rfl⟩ := e1
   refine ⟨e2, ?_⟩
   have : cur = xs1.toArray := by
    apply Array.toList_inj.1
    rw [← e7, List.take_of_length_le (by simp [e6])]
   rw [e3, this]
 refine ⟨v, μ1.set j (.pointer (some ⟨g, 0, none⟩)), F1, res, _, ⟨hp', hΦ, rfl⟩, rfl, hF1, ?_, ?_, ?_, hb1⟩
 ·exact hH1.swap k1 hm1 rfl (by rw [hu']; rfl) rfl (fun i oi _ hi => kof k2 i oi hi) ⟨g, xs1, rfl, hcell.1, hcell.2, hr1.lift⟩
 ·have := Rel.keep_kill (w := w') (w' := w') (μ' := μ1.set j (.pointer (some ⟨g, 0, none⟩))) j (fun _ _ _ => rfl) (fun i x hne hx => by rw [List.getElem?_set_ne (fun e => hne e.symm)]; exact hx) hres
  rwa [k3] at this
 ·refine RelL.mixK ?_ ?_ hus hfrA
  ·intro i x hne hx
   rw [List.getElem?_set_ne (fun e => hne e.symm)]; exact hx
  ·intro x hx
   rw [hu] at hx
   rw [List.getElem?_set_self hjl1]
   exact hx
theorem k32a {P : Program} {f : FuncId} {args : List AV} {hp : List AObj} {Φ : AV → List AObj → Prop} (j : Nat) (t : TypeId) (cs : List AV) (hc : CallX P f args hp Φ) (hj : hp[j]? = some (.list t cs.length 1 cs) := by kernel_rfl) (hl : leafyL cs = true := by kernel_rfl) (h1 : hp.map (AObj.kill j) = hp := by kernel_rfl) (h2 : killL j args = args := by kernel_rfl) (h3 : ∀ r h', Φ r h' → h'[j]? = some (.list t cs.length 1 cs) ∧ h'.map (AObj.kill j) = h' ∧ r.kill j = r := by rintro _ _ ⟨_, _, _, _, rfl, rfl⟩; exact ⟨by kernel_rfl, by kernel_rfl, by kernel_rfl⟩) : CallX P f args (hp.set j (.box t cs)) fun r h => ∃ hp', Φ r hp' ∧ h = hp'.set j (.box t cs) := _root_.Go.Abs.CallX.box j t cs hc hj hl h1 h2 h3
theorem k32b {P : Program} {f : FuncId} {args : List AV} {hp : List AObj} {Φ : AV → List AObj → Prop} (j : Nat) (t : TypeId) (cs : List AV) (hc : CallX P f args hp Φ) (hj : hp[j]? = some (.list t cs.length 1 cs) := by kernel_rfl) (hl : leafyL cs = true := by kernel_rfl) (h1 : hp.map (AObj.kill j) = hp := by kernel_rfl) (h2 : killL j args = args := by kernel_rfl) (h3 : ∀ r h', Φ r h' → h'[j]? = some (.list t cs.length 1 cs) ∧ h'.map (AObj.kill j) = h' ∧ r.kill j = r := by rintro _ _ ⟨_, ⟨_, _, _, _, rfl, rfl⟩, rfl⟩; exact ⟨by kernel_rfl, by kernel_rfl, by kernel_rfl⟩) : CallX P f args (hp.set j (.box t cs)) fun r h => ∃ hp', Φ r hp' ∧ h = hp'.set j (.box t cs) := _root_.Go.Abs.CallX.box j t cs hc hj hl h1 h2 h3
theorem k32c {P : Program} {f : FuncId} {args : List AV} {hp : List AObj} {Φ : AV → List AObj → Prop} (j : Nat) (t : TypeId) (cs : List AV) (hc : CallX P f args hp Φ) (hj : hp[j]? = some (.list t cs.length 1 cs) := by kernel_rfl) (hl : leafyL cs = true := by kernel_rfl) (h1 : hp.map (AObj.kill j) = hp := by kernel_rfl) (h2 : killL j args = args := by kernel_rfl) (h3 : ∀ r h', Φ r h' → h'[j]? = some (.list t cs.length 1 cs) ∧ h'.map (AObj.kill j) = h' ∧ r.kill j = r := by rintro _ _ ⟨_, ⟨_, ⟨_, _, _, _, rfl, rfl⟩, rfl⟩, rfl⟩; exact ⟨by kernel_rfl, by kernel_rfl, by kernel_rfl⟩) : CallX P f args (hp.set j (.box t cs)) fun r h => ∃ hp', Φ r hp' ∧ h = hp'.set j (.box t cs) := _root_.Go.Abs.CallX.box j t cs hc hj hl h1 h2 h3
theorem k32d {P : Program} {f : FuncId} {args : List AV} {hp : List AObj} {Φ : AV → List AObj → Prop} (j : Nat) (t : TypeId) (cs : List AV) (hc : CallX P f args hp Φ) (hj : hp[j]? = some (.list t cs.length 1 cs) := by kernel_rfl) (hl : leafyL cs = true := by kernel_rfl) (h1 : hp.map (AObj.kill j) = hp := by kernel_rfl) (h2 : killL j args = args := by kernel_rfl) (h3 : ∀ r h', Φ r h' → h'[j]? = some (.list t cs.length 1 cs) ∧ h'.map (AObj.kill j) = h' ∧ r.kill j = r := by rintro _ _ ⟨_, _, _, _, _, _, rfl, rfl⟩; exact ⟨by kernel_rfl, by kernel_rfl, by kernel_rfl⟩) : CallX P f args (hp.set j (.box t cs)) fun r h => ∃ hp', Φ r hp' ∧ h = hp'.set j (.box t cs) := _root_.Go.Abs.CallX.box j t cs hc hj hl h1 h2 h3
theorem k32e {P : Program} {f : FuncId} {args : List AV} {hp : List AObj} {Φ : AV → List AObj → Prop} (j : Nat) (t : TypeId) (cs : List AV) (hc : CallX P f args hp Φ) (hj : hp[j]? = some (.list t cs.length 1 cs) := by kernel_rfl) (hl : leafyL cs = true := by kernel_rfl) (h1 : hp.map (AObj.kill j) = hp := by kernel_rfl) (h2 : killL j args = args := by kernel_rfl) (h3 : ∀ r h', Φ r h' → h'[j]? = some (.list t cs.length 1 cs) ∧ h'.map (AObj.kill j) = h' ∧ r.kill j = r := by rintro _ _ ⟨_, _, _, _, _, _, _, _, _, rfl, rfl⟩; exact ⟨by kernel_rfl, by kernel_rfl, by kernel_rfl⟩) : CallX P f args (hp.set j (.box t cs)) fun r h => ∃ hp', Φ r hp' ∧ h = hp'.set j (.box t cs) := _root_.Go.Abs.CallX.box j t cs hc hj hl h1 h2 h3
theorem k32f {P : Program} {f : FuncId} {args : List AV} {hp : List AObj} {Φ : AV → List AObj → Prop} (j : Nat) (t : TypeId) (cs : List AV) (hc : CallX P f args hp Φ) (hj : hp[j]? = some (.list t cs.length 1 cs) := by kernel_rfl) (hl : leafyL cs = true := by kernel_rfl) (h1 : hp.map (AObj.kill j) = hp := by kernel_rfl) (h2 : killL j args = args := by kernel_rfl) (h3 : ∀ r h', Φ r h' → h'[j]? = some (.list t cs.length 1 cs) ∧ h'.map (AObj.kill j) = h' ∧ r.kill j = r := by rintro _ _ ⟨_, _, _, _, _, _, _, _, _, _, rfl, rfl⟩; exact ⟨by kernel_rfl, by kernel_rfl, by kernel_rfl⟩) : CallX P f args (hp.set j (.box t cs)) fun r h => ∃ hp', Φ r hp' ∧ h = hp'.set j (.box t cs) := _root_.Go.Abs.CallX.box j t cs hc hj hl h1 h2 h3
theorem k32g {P : Program} {f : FuncId} {args : List AV} {hp : List AObj} {Φ : AV → List AObj → Prop} (j : Nat) (t : TypeId) (cs : List AV) (hc : CallX P f args hp Φ) (hj : hp[j]? = some (.list t cs.length 1 cs) := by kernel_rfl) (hl : leafyL cs = true := by kernel_rfl) (h1 : hp.map (AObj.kill j) = hp := by kernel_rfl) (h2 : killL j args = args := by kernel_rfl) (h3 : ∀ r h', Φ r h' → h'[j]? = some (.list t cs.length 1 cs) ∧ h'.map (AObj.kill j) = h' ∧ r.kill j = r := by rintro _ _ ⟨_, ⟨_, ⟨_, _, _, _, _, _, _, _, _, rfl, rfl⟩, rfl⟩, rfl⟩; exact ⟨by kernel_rfl, by kernel_rfl, by kernel_rfl⟩) : CallX P f args (hp.set j (.box t cs)) fun r h => ∃ hp', Φ r hp' ∧ h = hp'.set j (.box t cs) := _root_.Go.Abs.CallX.box j t cs hc hj hl h1 h2 h3
theorem k32h {P : Program} {f : FuncId} {args : List AV} {hp : List AObj} {Φ : AV → List AObj → Prop} (j : Nat) (t : TypeId) (cs : List AV) (hc : CallX P f args hp Φ) (hj : hp[j]? = some (.list t cs.length 1 cs) := by kernel_rfl) (hl : leafyL cs = true := by kernel_rfl) (h1 : hp.map (AObj.kill j) = hp := by kernel_rfl) (h2 : killL j args = args := by kernel_rfl) (h3 : ∀ r h', Φ r h' → h'[j]? = some (.list t cs.length 1 cs) ∧ h'.map (AObj.kill j) = h' ∧ r.kill j = r := by rintro _ _ ⟨_, ⟨_, _, _, _, _, _, _, _, _, rfl, rfl⟩, rfl⟩; exact ⟨by kernel_rfl, by kernel_rfl, by kernel_rfl⟩) : CallX P f args (hp.set j (.box t cs)) fun r h => ∃ hp', Φ r hp' ∧ h = hp'.set j (.box t cs) := _root_.Go.Abs.CallX.box j t cs hc hj hl h1 h2 h3
theorem k32i {P : Program} {f : FuncId} {args : List AV} {hp : List AObj} {Φ : AV → List AObj → Prop} (j : Nat) (t : TypeId) (cs : List AV) (hc : CallX P f args hp Φ) (hj : hp[j]? = some (.list t cs.length 1 cs) := by kernel_rfl) (hl : leafyL cs = true := by kernel_rfl) (h1 : hp.map (AObj.kill j) = hp := by kernel_rfl) (h2 : killL j args = args := by kernel_rfl) (h3 : ∀ r h', Φ r h' → h'[j]? = some (.list t cs.length 1 cs) ∧ h'.map (AObj.kill j) = h' ∧ r.kill j = r := by rintro _ _ ⟨_, ⟨_, _, _, _, _, _, rfl, rfl⟩, rfl⟩; exact ⟨by kernel_rfl, by kernel_rfl, by kernel_rfl⟩) : CallX P f args (hp.set j (.box t cs)) fun r h => ∃ hp', Φ r hp' ∧ h = hp'.set j (.box t cs) := _root_.Go.Abs.CallX.box j t cs hc hj hl h1 h2 h3
theorem k32j {P : Program} {f : FuncId} {args : List AV} {hp : List AObj} {Φ : AV → List AObj → Prop} (j : Nat) (t : TypeId) (cs : List AV) (hc : CallX P f args hp Φ) (hj : hp[j]? = some (.list t cs.length 1 cs) := by kernel_rfl) (hl : leafyL cs = true := by kernel_rfl) (h1 : hp.map (AObj.kill j) = hp := by kernel_rfl) (h2 : killL j args = args := by kernel_rfl) (h3 : ∀ r h', Φ r h' → h'[j]? = some (.list t cs.length 1 cs) ∧ h'.map (AObj.kill j) = h' ∧ r.kill j = r := by rintro _ _ ⟨_, ⟨_, _, _, _, _, _, _, _, _, _, rfl, rfl⟩, rfl⟩; exact ⟨by kernel_rfl, by kernel_rfl, by kernel_rfl⟩) : CallX P f args (hp.set j (.box t cs)) fun r h => ∃ hp', Φ r hp' ∧ h = hp'.set j (.box t cs) := _root_.Go.Abs.CallX.box j t cs hc hj hl h1 h2 h3

section
variable {P : Program} {m : M} {Q : Exit → St → Prop}
def faAt (P : Program) (m : M) (i : Nat) : Option AV :=
 match m.ks with
 | .any ops listed (_ + 1) :: _ => match ops[i]? with
  | some o => match o.op with
   | .fieldAddr s x f => if o.guard.isNone && Region.noSelect ops && Region.free .any ops listed i && (Region.ready .any ops listed).contains i then (match ev m.st.fr x, fieldB P s f with
    | .ptr j q, some (off, k) => if k = 0 then none else some (.ptr j (q + off))
    | _, _ => none) else none
   | _ => none
  | none => none
 | _ => none
theorem R.anyA (i : Nat) (v : AV) (h : faAt P m i = some v) (np : NoPanic Q) (h' : Runs none P (exM i v m) Q) : Runs none P m Q := by
 obtain ⟨ks, ⟨fr, hp⟩⟩ := m
 simp only [runs_iff] at h' ⊢
 unfold faAt at h
 simp only at h
 split at h
 ·rename_i ops listed n ks'
  split at h
  ·rename_i o ho
   split at h
   ·rename_i s x f hx
    split at h
    ·rename_i hc
     simp only [Bool.and_eq_true] at hc
     obtain ⟨⟨⟨hg, hs⟩, hf⟩, hr⟩ := hc
     split at h
     ·rename_i j q off k hcs hfb
      split at h
      ·cases h
      ·rename_i hk
       simp only [Option.some.injEq] at h
       subst h
       simp only [exM, ho, RunsK] at h' ⊢
       intro Z0 w0 a w hS
       have hW : Region.wanted o (yielded ops a.tmps) = true := by
        unfold Region.wanted
        rw [Option.isNone_iff_eq_none.1 hg]
       have hrun : ∃ u, ∀ w, (execOp a.eval o).run P w = .ok (.value u) w := by
        obtain ⟨μ, F, _, _, hFr, _, _⟩ := hS
        have h1 := ev_rel hFr x
        rw [hcs] at h1
        simp only [Rel] at h1
        obtain ⟨u, g, hu, hg', h2⟩ := h1
        refine ⟨.pointer (some ((⟨g, q, none⟩ : Addr).add off)), fun w => ?_⟩
        unfold execOp
        rw [hx]
        simp [h2, run_fieldAt hfb hk w] <;> rfl
       obtain ⟨u, hrun⟩ := hrun
       have hw' : WantedA ops o fr := wantedE_true (by unfold wantedE; rw [Option.isNone_iff_eq_none.1 hg])
       have h1 := StepR.sound (rd := none) (K := fun a' w' => Sim Z0 w0 ⟨putF fr o.dst (.ptr j (q + off)), hp⟩ a' w') (Q := fun _ _ _ => True) (st' := ⟨putF fr o.dst (.ptr j (q + off)), hp⟩) (by simpa using StepR.eff (P := P) (st := ⟨fr, hp⟩) hw' (v := .ptr j (q + off)) (news := []) (by rw [hx]; exact EffR.fieldAddr j q off k hcs hfb hk)) hS (fun _ _ h => h)
       rw [if_pos hW] at h1
       unfold Oper.wpIn at h1
       have h1 := h1.2
       rw [show (Fc none).round = none from rfl, Oper.semAt_none, hrun w] at h1
       simp only [Oper.uponIn] at h1
       exact wpAnyIn_take rfl ho hs hf hr (fun c a w ⟨st', hq, _⟩ => absurd (runsK_panic ks' st' hq) (np c st')) ⟨.inl ⟨hW, hrun⟩, fun w => by unfold Oper.about; rw [hx]⟩ (h' Z0 w0 _ w h1)
     ·cases h
    ·cases h
   ·cases h
  ·cases h
 ·cases h
theorem k33 (i : Nat) (v : AV) (h' : Runs none P (exM i v m) Q) (h : faAt P m i = some v := by kernel_rfl) (np : NoPanic Q := by exact np_meet _) : Runs none P m Q := _root_.Go.Abs.R.anyA i v h np h'
theorem np_retX (P : Program) (fn : Func) (n : Nat) (us : List Value) (fr : List AV) (Φ : AV → List AObj → Prop) : NoPanic (retX P fn n us fr Φ) := fun _ _ h => by
 obtain ⟨_, _, _, h⟩ := h
 simp [retS] at h
end

section
variable {P : Program} {m : M} {Q : Exit → St → Prop}
def inAt (m : M) (i : Nat) : Option AV :=
 match m.ks with
 | .any ops listed (_ + 1) :: _ => match ops[i]? with
  | some o => match o.op with
   | .binOp .add _ x y _ => if o.guard.isNone && Region.noSelect ops && Region.free .any ops listed i && (Region.ready .any ops listed).contains i then (match ev m.st.fr x, ev m.st.fr y with
    | .int k a, .int k' b => if k = k' then some (.int k (k.wrap (a + b))) else none
    | _, _ => none) else none
   | _ => none
  | none => none
 | _ => none
theorem R.anyI (i : Nat) (v : AV) (h : inAt m i = some v) (np : NoPanic Q) (h' : Runs none P (exM i v m) Q) : Runs none P m Q := by
 obtain ⟨ks, ⟨fr, hp⟩⟩ := m
 simp only [runs_iff] at h' ⊢
 unfold inAt at h
 simp only at h
 split at h
 ·rename_i ops listed n ks'
  split at h
  ·rename_i o ho
   split at h
   ·rename_i t x y ty hx
    split at h
    ·rename_i hc
     simp only [Bool.and_eq_true] at hc
     obtain ⟨⟨⟨hg, hs⟩, hf⟩, hr⟩ := hc
     split at h
     ·rename_i k a k' b h1 h2
      split at h
      ·rename_i hk
       subst hk
       simp only [Option.some.injEq] at h
       subst h
       simp only [exM, ho, RunsK] at h' ⊢
       intro Z0 w0 ac w hS
       have hW : Region.wanted o (yielded ops ac.tmps) = true := by
        unfold Region.wanted
        rw [Option.isNone_iff_eq_none.1 hg]
       have hrun : ∃ u, ∀ w, (execOp ac.eval o).run P w = .ok (.value u) w := by
        obtain ⟨μ, F, _, _, hFr, _, _⟩ := hS
        have e1 := rel_int (h1 ▸ ev_rel hFr x)
        have e2 := rel_int (h2 ▸ ev_rel hFr y)
        refine ⟨.int k (k.wrap (a + b)), fun w => ?_⟩
        unfold execOp
        rw [hx]
        simp [e1, e2, eqGuard_at_int, binOp_add, Op.intArith] <;> rfl
       obtain ⟨u, hrun⟩ := hrun
       have hw' : WantedA ops o fr := wantedE_true (by unfold wantedE; rw [Option.isNone_iff_eq_none.1 hg])
       have h1' := StepR.sound (rd := none) (K := fun a' w' => Sim Z0 w0 ⟨putF fr o.dst (.int k (k.wrap (a + b))), hp⟩ a' w') (Q := fun _ _ _ => True) (st' := ⟨putF fr o.dst (.int k (k.wrap (a + b))), hp⟩) (by simpa using StepR.eff (P := P) (st := ⟨fr, hp⟩) hw' (v := .int k (k.wrap (a + b))) (news := []) (by rw [hx]; exact EffR.bin k a b h1 h2 rfl)) hS (fun _ _ h => h)
       rw [if_pos hW] at h1'
       unfold Oper.wpIn at h1'
       have h1' := h1'.2
       rw [show (Fc none).round = none from rfl, Oper.semAt_none, hrun w] at h1'
       simp only [Oper.uponIn] at h1'
       exact wpAnyIn_take rfl ho hs hf hr (fun c a w ⟨st', hq, _⟩ => absurd (runsK_panic ks' st' hq) (np c st')) ⟨.inl ⟨hW, hrun⟩, fun w => by unfold Oper.about; rw [hx]⟩ (h' Z0 w0 _ w h1')
      ·cases h
     ·cases h
    ·cases h
   ·cases h
  ·cases h
 ·cases h

end
end Go.Abs

/-! The machine's rules: triples of numbers are compared. -/
namespace Go.Abs
open Go.RowKit
section
variable {rd : Option Nat} {P : Program} {m : M} {Q : Exit → St → Prop}
end
section
variable {P : Program} {m : M} {Q : Exit → St → Prop}
def sbAt (m : M) (i : Nat) : Option AV :=
 match m.ks with
 | .any ops listed (_ + 1) :: _ => match ops[i]? with
  | some o => match o.op with
   | .binOp .sub _ x y _ => if o.guard.isNone && Region.noSelect ops && Region.free .any ops listed i && (Region.ready .any ops listed).contains i then (match ev m.st.fr x, ev m.st.fr y with
    | .int k a, .int k' b => if k = k' then some (.int k (k.wrap (a - b))) else none
    | _, _ => none) else none
   | _ => none
  | none => none
 | _ => none
theorem R.anyJ (i : Nat) (v : AV) (h : sbAt m i = some v) (np : NoPanic Q) (h' : Runs none P (exM i v m) Q) : Runs none P m Q := by
 obtain ⟨ks, ⟨fr, hp⟩⟩ := m
 simp only [runs_iff] at h' ⊢
 unfold sbAt at h
 simp only at h
 split at h
 ·rename_i ops listed n ks'
  split at h
  ·rename_i o ho
   split at h
   ·rename_i t x y ty hx
    split at h
    ·rename_i hc
     simp only [Bool.and_eq_true] at hc
     obtain ⟨⟨⟨hg, hs⟩, hf⟩, hr⟩ := hc
     split at h
     ·rename_i k a k' b h1 h2
      split at h
      ·rename_i hk
       subst hk
       simp only [Option.some.injEq] at h
       subst h
       simp only [exM, ho, RunsK] at h' ⊢
       intro Z0 w0 ac w hS
       have hW : Region.wanted o (yielded ops ac.tmps) = true := by
        unfold Region.wanted
        rw [Option.isNone_iff_eq_none.1 hg]
       have hrun : ∃ u, ∀ w, (execOp ac.eval o).run P w = .ok (.value u) w := by
        obtain ⟨μ, F, _, _, hFr, _, _⟩ := hS
        have e1 := rel_int (h1 ▸ ev_rel hFr x)
        have e2 := rel_int (h2 ▸ ev_rel hFr y)
        refine ⟨.int k (k.wrap (a - b)), fun w => ?_⟩
        unfold execOp
        rw [hx]
        simp [e1, e2, eqGuard_at_int, binOp_sub, Op.intArith] <;> rfl
       obtain ⟨u, hrun⟩ := hrun
       have hw' : WantedA ops o fr := wantedE_true (by unfold wantedE; rw [Option.isNone_iff_eq_none.1 hg])
       have h1' := StepR.sound (rd := none) (K := fun a' w' => Sim Z0 w0 ⟨putF fr o.dst (.int k (k.wrap (a - b))), hp⟩ a' w') (Q := fun _ _ _ => True) (st' := ⟨putF fr o.dst (.int k (k.wrap (a - b))), hp⟩) (by simpa using StepR.eff (P := P) (st := ⟨fr, hp⟩) hw' (v := .int k (k.wrap (a - b))) (news := []) (by rw [hx]; exact EffR.bin k a b h1 h2 rfl)) hS (fun _ _ h => h)
       rw [if_pos hW] at h1'
       unfold Oper.wpIn at h1'
       have h1' := h1'.2
       rw [show (Fc none).round = none from rfl, Oper.semAt_none, hrun w] at h1'
       simp only [Oper.uponIn] at h1'
       exact wpAnyIn_take rfl ho hs hf hr (fun c a w ⟨st', hq, _⟩ => absurd (runsK_panic ks' st' hq) (np c st')) ⟨.inl ⟨hW, hrun⟩, fun w => by unfold Oper.about; rw [hx]⟩ (h' Z0 w0 _ w h1')
      ·cases h
     ·cases h
    ·cases h
   ·cases h
  ·cases h
 ·cases h
def ipAt (P : Program) (m : M) (i : Nat) : Option (Nat × Nat × List AV × Int) :=
 match m.ks with
 | .any ops listed (_ + 1) :: _ => match ops[i]? with
  | some o => match o.op with
   | .indexAddr t x y => if o.guard.isNone && Region.noSelect ops && Region.free .any ops listed i && (Region.ready .any ops listed).contains i then (match ev m.st.fr x, ev m.st.fr y, elemB P t with
    | .lst s n cs, .int _ j, some (_, s') => if s' = s ∧ s ≠ 0 then some (s, n, cs, j) else none
    | _, _, _ => none) else none
   | _ => none
  | none => none
 | _ => none
theorem R.anyP {α : Type} (i : Nat) (E : α → List AV) (xs : List α) (d : α) (j : Nat) (ji : Int) {s : Nat} (h : ipAt P m i = some (s, xs.length, rows E xs, ji)) (hji : ji = (j : Int)) (hE : ∀ x, (E x).length = s) (hj : j < xs.length) (np : NoPanic Q)
  (h' : Runs none P (exM i (.rptr (E (xs.getD j d))) m) Q) : Runs none P m Q := by
 obtain ⟨ks, ⟨fr, hp⟩⟩ := m
 simp only [runs_iff] at h' ⊢
 unfold ipAt at h
 simp only at h
 split at h
 ·rename_i ops listed n ks'
  split at h
  ·rename_i o ho
   split at h
   ·rename_i t x y hx
    split at h
    ·rename_i hc
     simp only [Bool.and_eq_true] at hc
     obtain ⟨⟨⟨hg, hs⟩, hf⟩, hr⟩ := hc
     split at h
     ·rename_i s0 n0 cs k j0 el s' h1 h2 hel
      split at h
      ·rename_i hss
       obtain ⟨rfl, hs0⟩ := hss
       cases h
       subst hji
       simp only [exM, ho, RunsK] at h' ⊢
       intro Z0 w0 ac w hS
       have hW : Region.wanted o (yielded ops ac.tmps) = true := by
        unfold Region.wanted
        rw [Option.isNone_iff_eq_none.1 hg]
       have hrun : ∃ u, ∀ w, (execOp ac.eval o).run P w = .ok (.value u) w := by
        obtain ⟨μ, F, _, _, hFr, _, _⟩ := hS
        have e1 := h1 ▸ ev_rel hFr x
        have e2 := rel_int (h2 ▸ ev_rel hFr y)
        simp only [Rel] at e1
        obtain ⟨A, c, vs, e3, e4, e5, e6, e7⟩ := e1
        have hne : vs ≠ [] := by
         rintro rfl
         have := e7.length
         rw [e4] at this
         have h5 : 0 < xs.length * s := Nat.mul_pos (by omega) (by omega)
         simp at this
         omega
        obtain ⟨ad, rfl, _, _⟩ := e6 hne
        refine ⟨.pointer (some (ad.add ((j : Int).toNat * s))), fun w => ?_⟩
        unfold execOp
        rw [hx]
        simp [e3, e2, run_indexAt hel (show (0 : Int) ≤ (j : Int) by omega) (show (j : Int) < (xs.length : Nat) by omega) w] <;> rfl
       obtain ⟨u, hrun⟩ := hrun
       have hw' : WantedA ops o fr := wantedE_true (by unfold wantedE; rw [Option.isNone_iff_eq_none.1 hg])
       have h1' := StepR.sound (rd := none) (K := fun a' w' => Sim Z0 w0 ⟨putF fr o.dst (.rptr (E (xs.getD j d))), hp⟩ a' w') (Q := fun _ _ _ => True) (st' := ⟨putF fr o.dst (.rptr (E (xs.getD j d))), hp⟩) (by simpa using StepR.eff (P := P) (st := ⟨fr, hp⟩) hw' (v := .rptr (E (xs.getD j d))) (news := []) (by rw [hx]; exact EffR.indexAddrE _ xs.length (rows E xs) k (j : Int) el _ _ h1 h2 hel hs0 (by omega) (by omega) (rows_at hE xs j d hj))) hS (fun _ _ h => h)
       rw [if_pos hW] at h1'
       unfold Oper.wpIn at h1'
       have h1' := h1'.2
       rw [show (Fc none).round = none from rfl, Oper.semAt_none, hrun w] at h1'
       simp only [Oper.uponIn] at h1'
       exact wpAnyIn_take rfl ho hs hf hr (fun c a w ⟨st', hq, _⟩ => absurd (runsK_panic ks' st' hq) (np c st')) ⟨.inl ⟨hW, hrun⟩, fun w => by unfold Oper.about; rw [hx]⟩ (h' Z0 w0 _ w h1')
      ·cases h
     ·cases h
    ·cases h
   ·cases h
  ·cases h
 ·cases h
theorem k34 {α : Type} (i : Nat) (E : α → List AV) (xs : List α) (d : α) (j : Nat) (ji : Int) {s : Nat} (hE : ∀ x, (E x).length = s) (h' : Runs none P (exM i (.rptr (E (xs.getD j d))) m) Q) (h : ipAt P m i = some (s, xs.length, rows E xs, ji) := by kernel_rfl) (hji : ji = (j : Int) := by exact rfl) (hj : j < xs.length := by omega) (np : NoPanic Q := by exact np_meet _) : Runs none P m Q := _root_.Go.Abs.R.anyP i E xs d j ji h hji hE hj np h'
theorem R.anyJn (i : Nat) (v : AV) (n : Int) (h : sbAt m i = some v) (hv : v = .int .i64 n) (np : NoPanic Q) (h' : Runs none P (exM i (AI n) m) Q) : Runs none P m Q := R.anyJ i v h np (by rw [hv]; exact h')
theorem R.anyIn (i : Nat) (v : AV) (n : Int) (h : inAt m i = some v) (hv : v = .int .i64 n) (np : NoPanic Q) (h' : Runs none P (exM i (AI n) m) Q) : Runs none P m Q := R.anyI i v h np (by rw [hv]; exact h')
end
end Go.Abs

/-! Calls that need no object of the caller's, beside any objects. -/
namespace Go.Abs
open Go.RowKit
theorem zone_two {Z0 F F1 : Nat → Prop} {B C : Nat} (hBC : B ≤ C) (hF : ∀ b, F b → B ≤ b ∧ b < C) (hF1 : ∀ b, F1 b → C ≤ b) (b : Nat) : Zone Z0 (fun b => F b ∨ F1 b) B b ↔ Zone (Zone Z0 F B) F1 C b := by
 unfold Zone
 constructor
 ·rintro (⟨h1, h2⟩ | ⟨h1, h2⟩)
  ·exact .inl ⟨by omega, .inl ⟨h1, h2⟩⟩
  ·rcases Nat.lt_or_ge b C with h | h
   ·exact .inl ⟨h, .inr ⟨h1, fun hf => h2 (.inl hf)⟩⟩
   ·exact .inr ⟨h, fun hf => h2 (.inr hf)⟩
 ·rintro (⟨h1, h2 | h2⟩ | ⟨h1, h2⟩)
  ·exact .inl h2
  ·refine .inr ⟨h2.1, ?_⟩
   rintro (hf | hf)
   ·exact h2.2 hf
   ·have := hF1 b hf; omega
  ·refine .inr ⟨by omega, ?_⟩
   rintro (hf | hf)
   ·have := hF b hf; omega
   ·exact h2 hf
section
variable {rd : Option Nat} {P : Program} {m : M} {Q : Exit → St → Prop}
theorem CallX.any {f : FuncId} {args : List AV} {Φ : AV → List AObj → Prop} (hp : List AObj) (hc : CallX P f args [] Φ) (hl : leafyL args = true) (hΦ : ∀ r h, Φ r h → h = []) : CallX P f args hp fun r h => h = hp ∧ Φ r [] := by
 obtain ⟨hen, hc⟩ := hc
 refine ⟨hen, ?_⟩
 intro Z0 F w0 w μ vs us fr hFb hH hvs hus hbel
 have hBC := hbel.size
 have zn : ∀ b, b < w.heap.size → (Zone (Zone Z0 F w0.heap.size) NoF w.heap.size b ↔ Zone Z0 F w0.heap.size b) := fun b hb => by
  unfold Zone NoF
  constructor
  ·rintro (h | h)
   ·exact h.2
   ·omega
  ·exact fun h => .inl ⟨hb, h⟩
 have hvs1 : RelL w (Zone (Zone Z0 F w0.heap.size) NoF w.heap.size) [] args vs := (RelL.leafy hl hvs).weak fun b hb h1 h2 => h1 ((zn b hb).1 h2)
 have h0 : HRel w (Zone (Zone Z0 F w0.heap.size) NoF w.heap.size) w.heap.size [] [] := ⟨rfl, fun i o u g h => by simp at h, fun i u h => by simp at h, fun i o u h => by simp at h, fun i j oi oj ui uj g _ h => by simp at h⟩
 refine (hc (Zone Z0 F w0.heap.size) NoF w w [] vs [] [] (fun b h => h.elim) h0 hvs1 RelL.nil (Below.refl _ _)).mono ?_
 rintro e w' ⟨v, μ', F1, res, hp', hΦ1, rfl, hF1, hH1, hres, _, hb1⟩
 have e1 := hΦ _ _ hΦ1
 subst e1
 have hm' : μ' = [] := List.eq_nil_of_length_eq_zero (by simpa using hH1.len)
 subst hm'
 have z2 := zone_two (Z0 := Z0) hBC hFb (fun b h => (hF1 b h).1)
 have hk : ∀ b, b < w.heap.size → w'.heap[b]? = w.heap[b]? := fun b hb => hb1.block b hb
 have hold : ∀ b, b < w'.heap.size → ¬ Zone Z0 F w0.heap.size b → ¬ Zone Z0 (fun b => F b ∨ F1 b) w0.heap.size b := by
  intro b _ h1 h2
  rcases Nat.lt_or_ge b w.heap.size with h | h
  ·rcases (z2 b).1 h2 with h3 | h3
   ·exact h1 h3.2
   ·omega
  ·exact h1 (.inr ⟨by omega, fun hf => by have := hFb b hf; omega⟩)
 refine ⟨v, μ, fun b => F b ∨ F1 b, res, hp, ⟨rfl, hΦ1⟩, rfl, ?_, ?_, ?_, ?_, hbel.trans (hb1.mono hBC)⟩
 ·rintro b (h | h)
  ·have := hFb b h; have := hb1.size; omega
  ·have := hF1 b h; omega
 ·refine ⟨hH.len, fun i o u g h1 ha h2 hg => ?_, hH.one, fun i o u h1 h2 => ?_, hH.sep⟩
  ·have hz := hH.zone i o u g h1 ha h2 hg
   have hlt := ((hH.obj i o u h1 h2).blk_ge ha hg).2
   exact (z2 g).2 (.inl ⟨hlt, hz⟩)
  ·have h3 := hH.obj i o u h1 h2
   cases ha : o.alive with
   | true => exact (h3.keep (w' := w') (fun b hb _ => hk b hb) (fun _ _ h => h) (fun g hg => hk g (h3.blk_ge ha hg).2)).weak hold
   | false => exact (h3.keep_dead (w' := w') (B' := w0.heap.size) (u' := u) (fun b hb _ => hk b hb) (fun _ _ h => h) ha).weak hold
 ·exact Rel.lift (hres.weak fun b _ h1 h2 => h1 ((z2 b).1 h2))
 ·exact (hus.keep (w' := w') (fun b hb _ => hk b hb) (fun _ _ h => h)).weak hold
theorem R.callX0 {f : FuncId} {avs : List AV} {Φ : AV → List AObj → Prop} (hc : CallX P f avs [] Φ) (hl : leafyL avs = true) (h0 : ∀ r h, Φ r h → h = []) (h : csAt m = some (f, avs)) (ht : opsHd m = true) (h' : ∀ res, Φ res [] → Runs rd P (putM m none res m.st.hp) Q) : Runs rd P m Q :=
 R.callX (hc.any m.st.hp hl h0) h rfl ht fun res hp' ⟨e, hΦ⟩ => by subst e; exact h' res hΦ
theorem k35a {f : FuncId} {avs : List AV} {Φ : AV → List AObj → Prop} (hc : CallX P f avs [] Φ) (h' : ∀ res, Φ res [] → Runs rd P (putM m none res m.st.hp) Q) (hl : leafyL avs = true := by kernel_rfl) (h0 : ∀ r h, Φ r h → h = [] := by rintro _ _ ⟨_, _, _, _, _, _, _, rfl, rfl⟩; rfl) (h : csAt m = some (f, avs) := by kernel_rfl) (ht : opsHd m = true := by kernel_rfl) : Runs rd P m Q := _root_.Go.Abs.R.callX0 hc hl h0 h ht h'
end
end Go.Abs

/-! Conversions and shifts that may come first. -/
namespace Go.Abs
open Go.RowKit Go.ChangeShapes Go.WideShapes Go.Deep
section
variable {P : Program} {m : M} {Q : Exit → St → Prop}
def isAt (m : M) (i : Nat) : Option (Int × Int) :=
 match m.ks with
 | .any ops listed (_ + 1) :: _ => match ops[i]? with
  | some o => match o.op with
   | .binOp .shl _ x y _ => if o.guard.isNone && Region.noSelect ops && Region.free .any ops listed i && (Region.ready .any ops listed).contains i then (match ev m.st.fr x, ev m.st.fr y with
    | .int .i64 a, .int _ b => some (a, b)
    | _, _ => none) else none
   | _ => none
  | none => none
 | _ => none
theorem R.anyS (i : Nat) (a b : Int) (h : isAt m i = some (a, b)) (h0 : 0 ≤ b) (np : NoPanic Q) (h' : Runs none P (exM i (AI (shl64 a b)) m) Q) : Runs none P m Q := by
 obtain ⟨ks, ⟨fr, hp⟩⟩ := m
 simp only [runs_iff] at h' ⊢
 unfold isAt at h
 simp only at h
 split at h
 ·rename_i ops listed n ks'
  split at h
  ·rename_i o ho
   split at h
   ·rename_i t x y ty hx
    split at h
    ·rename_i hc
     simp only [Bool.and_eq_true] at hc
     obtain ⟨⟨⟨hg, hs⟩, hf⟩, hr⟩ := hc
     split at h
     ·rename_i a1 k' b1 h1 h2
      simp only [Option.some.injEq, Prod.mk.injEq] at h
      obtain ⟨rfl, rfl⟩ := h
      simp only [exM, ho, RunsK] at h' ⊢
      intro Z0 w0 ac w hS
      have hW : Region.wanted o (yielded ops ac.tmps) = true := by
       unfold Region.wanted
       rw [Option.isNone_iff_eq_none.1 hg]
      have h0n : ¬ b1 < 0 := by omega
      have hrun : ∃ u, ∀ w, (execOp ac.eval o).run P w = .ok (.value u) w := by
       obtain ⟨μ, F, _, _, hFr, _, _⟩ := hS
       have e1 := rel_int (h1 ▸ ev_rel hFr x)
       have e2 := rel_int (h2 ▸ ev_rel hFr y)
       refine ⟨.int .i64 (shl64 a1 b1), fun w => ?_⟩
       unfold execOp
       rw [hx]
       simp [e1, e2, binOp_shl, eqGuard_shl, Op.shift, h0n] <;> rfl
      obtain ⟨u, hrun⟩ := hrun
      have hw' : WantedA ops o fr := wantedE_true (by unfold wantedE; rw [Option.isNone_iff_eq_none.1 hg])
      have h1' := StepR.sound (rd := none) (K := fun a' w' => Sim Z0 w0 ⟨putF fr o.dst (AI (shl64 a1 b1)), hp⟩ a' w') (Q := fun _ _ _ => True) (st' := ⟨putF fr o.dst (AI (shl64 a1 b1)), hp⟩) (by simpa using StepR.eff (P := P) (st := ⟨fr, hp⟩) hw' (v := AI (shl64 a1 b1)) (news := []) (by rw [hx]; exact EffR.shl .i64 k' a1 b1 h1 h2 h0)) hS (fun _ _ h => h)
      rw [if_pos hW] at h1'
      unfold Oper.wpIn at h1'
      have h1' := h1'.2
      rw [show (Fc none).round = none from rfl, Oper.semAt_none, hrun w] at h1'
      simp only [Oper.uponIn] at h1'
      exact wpAnyIn_take rfl ho hs hf hr (fun c a w ⟨st', hq, _⟩ => absurd (runsK_panic ks' st' hq) (np c st')) ⟨.inl ⟨hW, hrun⟩, fun w => by unfold Oper.about; rw [hx]⟩ (h' Z0 w0 _ w h1')
     ·cases h
    ·cases h
   ·cases h
  ·cases h
 ·cases h
end
end Go.Abs

/-! Ways that meet again in a family of states. -/
namespace Go.Abs
open Go.RowKit Go.ChangeShapes Go.WideShapes Go.Deep
section
variable {rd : Option Nat} {P : Program} {m : M} {Q : Exit → St → Prop}
def meetQF {α : Type} (I : α → Prop) (S : α → St) : Exit → St → Prop := fun e st => e = .normal ∧ ∃ a, I a ∧ st = S a
theorem np_meetF {α : Type} (I : α → Prop) (S : α → St) : NoPanic (meetQF I S) := fun _ _ h => by simp [meetQF] at h
theorem R.meetF {α : Type} (I : α → Prop) (S : α → St) (h : mtAt m = true) (h1 : Runs rd P ⟨m.ks.take 1, m.st⟩ (meetQF I S)) (h2 : ∀ a, I a → Runs rd P ⟨m.ks.tail, S a⟩ Q) : Runs rd P m Q := by
 obtain ⟨ks, st⟩ := m
 unfold mtAt at h
 simp only [runs_iff] at h h1 h2 ⊢
 split at h
 ·rename_i c ks'
  simp only [List.take_succ_cons, List.take_zero, List.tail_cons, RunsK] at h1 h2 ⊢
  refine h1.mono ?_
  rintro e st' ⟨rfl, a, ha, rfl⟩
  exact h2 a ha
 ·cases h
theorem R.metF {α : Type} {I : α → Prop} {S : α → St} (a : α) (h : m.ks = []) (hi : I a) (hs : m.st = S a) : Runs rd P m (meetQF I S) := by
 obtain ⟨ks, st⟩ := m
 simp only at h hs
 subst h hs
 rw [runs_iff]
 exact ⟨rfl, a, hi, rfl⟩
theorem k36 {α : Type} {I : α → Prop} {S : α → St} (a : α) (hi : I a) (h : m.ks = [] := by kernel_rfl) (hs : m.st = S a := by kernel_rfl) : Runs rd P m (meetQF I S) := _root_.Go.Abs.R.metF a h hi hs
end
end Go.Abs

/-! Drawn regions: places of elements of one's own rows come first; ways that meet with their objects in another order. -/
namespace Go.Abs
open Go.RowKit
section
variable {rd : Option Nat} {P : Program} {m : M} {Q : Exit → St → Prop}
def meetQJ (S : St) : Exit → St → Prop := fun e st => e = .normal ∧ Sub st S
theorem np_meetJ (S : St) : NoPanic (meetQJ S) := fun _ _ h => by simp [meetQJ] at h
theorem R.meetJ (S : St) (h : mtAt m = true) (h1 : Runs rd P ⟨m.ks.take 1, m.st⟩ (meetQJ S)) (h2 : Runs rd P ⟨m.ks.tail, S⟩ Q) : Runs rd P m Q := by
 obtain ⟨ks, st⟩ := m
 unfold mtAt at h
 simp only [runs_iff] at h h1 h2 ⊢
 split at h
 ·rename_i c ks'
  simp only [List.take_succ_cons, List.take_zero, List.tail_cons, RunsK] at h1 h2 ⊢
  refine h1.post ?_
  rintro e st' ⟨rfl, hs⟩
  exact ⟨S, hs, h2⟩
 ·cases h
theorem R.metJ {S : St} (js : List Nat) (h : m.ks = []) (hn : (decide js.Nodup && noMark m.st.hp) = true) (hs : renS js m.st = S) : Runs rd P m (meetQJ S) := by
 obtain ⟨ks, st⟩ := m
 simp only [Bool.and_eq_true, decide_eq_true_eq] at h hn hs
 subst h hs
 rw [runs_iff]
 exact ⟨rfl, Sub.ren js st hn.1 hn.2⟩
def ioAtA (P : Program) (m : M) (i : Nat) : Option (Nat × Nat × Nat × Int) :=
 match m.ks with
 | .any ops listed (_ + 1) :: _ => match ops[i]? with
  | some o => match o.op with
   | .indexAddr t x y => if o.guard.isNone && Region.noSelect ops && Region.free .any ops listed i && (Region.ready .any ops listed).contains i then (match ev m.st.fr x, ev m.st.fr y, elemB P t with
    | .ref q, .int _ j, some (el', s') => (match m.st.hp[q]? with
     | some (.list el s n _) => if el' = el ∧ s' = s ∧ s ≠ 0 then some (q, s, n, j) else none
     | _ => none)
    | _, _, _ => none) else none
   | _ => none
  | none => none
 | _ => none
theorem R.anyO (i q s n j : Nat) (ji : Int) (h : ioAtA P m i = some (q, s, n, ji)) (hji : ji = (j : Int)) (hj : j < n) (np : NoPanic Q)
  (h' : Runs none P (exM i (.ptr q (j * s)) m) Q) : Runs none P m Q := by
 obtain ⟨ks, ⟨fr, hp⟩⟩ := m
 simp only [runs_iff] at h' ⊢
 unfold ioAtA at h
 simp only at h
 split at h
 ·rename_i ops listed nn ks'
  split at h
  ·rename_i o ho
   split at h
   ·rename_i t x y hx
    split at h
    ·rename_i hc
     simp only [Bool.and_eq_true] at hc
     obtain ⟨⟨⟨hg, hs⟩, hf⟩, hr⟩ := hc
     split at h
     ·rename_i q0 k j0 el' s' h1 h2 hel
      split at h
      ·rename_i el s0 n0 cs hq
       have hq0 := hq
       split at h
       ·rename_i hss
        obtain ⟨rfl, rfl, hs0⟩ := hss
        cases h
        subst hji
        simp only [exM, ho, RunsK] at h' ⊢
        intro Z0 w0 ac w hS
        have hW : Region.wanted o (yielded ops ac.tmps) = true := by
         unfold Region.wanted
         rw [Option.isNone_iff_eq_none.1 hg]
        have hrun : ∃ u, ∀ w, (execOp ac.eval o).run P w = .ok (.value u) w := by
         obtain ⟨μ, F, _, hHr, hFr, _, _⟩ := hS
         have e1 := h1 ▸ ev_rel hFr x
         have e2 := rel_int (h2 ▸ ev_rel hFr y)
         simp only [Rel] at e1
         obtain ⟨vs, hown, _⟩ := hHr.obj q _ _ hq e1
         rcases hown.2 with ⟨_, h0⟩ | ⟨g, cap, cur, e3, _⟩
         ·omega
         ·refine ⟨.pointer (some (Addr.add ⟨g, 0, none⟩ ((j : Int).toNat * s))), fun w => ?_⟩
          unfold execOp
          rw [hx]
          simp [e3, e2, run_indexAt hel (show (0 : Int) ≤ (j : Int) by omega) (show (j : Int) < (n : Nat) by omega) w] <;> rfl
        obtain ⟨u, hrun⟩ := hrun
        have hw' : WantedA ops o fr := wantedE_true (by unfold wantedE; rw [Option.isNone_iff_eq_none.1 hg])
        have h1' := StepR.sound (rd := none) (K := fun a' w' => Sim Z0 w0 ⟨putF fr o.dst (.ptr q (j * _)), hp⟩ a' w') (Q := fun _ _ _ => True) (st' := ⟨putF fr o.dst (.ptr q (j * _)), hp⟩) (by simpa using StepR.eff (P := P) (st := ⟨fr, hp⟩) hw' (v := .ptr q (j * _)) (news := []) (by rw [hx]; exact EffR.indexAddrO q _ _ n cs k (j : Int) h1 hq0 h2 hel hs0 (by omega) (by omega))) hS (fun _ _ h => h)
        rw [if_pos hW] at h1'
        unfold Oper.wpIn at h1'
        have h1' := h1'.2
        rw [show (Fc none).round = none from rfl, Oper.semAt_none, hrun w] at h1'
        simp only [Oper.uponIn] at h1'
        exact wpAnyIn_take rfl ho hs hf hr (fun c a w ⟨st', hq, _⟩ => absurd (runsK_panic ks' st' hq) (np c st')) ⟨.inl ⟨hW, hrun⟩, fun w => by unfold Oper.about; rw [hx]⟩ (h' Z0 w0 _ w h1')
       ·cases h
      ·cases h
     ·cases h
    ·cases h
   ·cases h
  ·cases h
 ·cases h
theorem k37 (i q s n j : Nat) (ji : Int) (h' : Runs none P (exM i (.ptr q (j * s)) m) Q) (h : ioAtA P m i = some (q, s, n, ji) := by kernel_rfl) (hji : ji = (j : Int) := by exact rfl) (hj : j < n := by omega) (np : NoPanic Q := by exact np_meet _) : Runs none P m Q := _root_.Go.Abs.R.anyO i q s n j ji h hji hj np h'
theorem R.any4 (i j l k : Nat) (h : readyAt m = some [i, j, l, k]) (hr : roomAt m = true) (hi : Runs rd P (pickM i m) Q) (hj : Runs rd P (pickM j m) Q) (hl : Runs rd P (pickM l m) Q) (hk : Runs rd P (pickM k m) Q) : Runs rd P m Q :=
 R.anyB [i, j, l, k] h (by simp) hr fun q hq => by simp only [List.mem_cons, List.not_mem_nil, or_false] at hq; rcases hq with rfl | rfl | rfl | rfl <;> assumption
end
end Go.Abs
