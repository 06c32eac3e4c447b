/- Texts of the proof: RI1, CP3, RI2, RI3, Symg, Symm, Symo, Symp. -/
import Derived.Laws.Concat
import Derived.Laws.BytesString
import Derived.Test.YtehbliocfpppoaaGreatPartH

/-! Rooted images: the quotients of the parts on upsets that have a root are those of the parts above an element. -/
namespace Go.Proofs.YtehbliocfpppoaaGreat
open Go.RowKit Go.Abs
theorem ri_gm {α β : Type} {f : α → β} {l : List α} {i : Nat} {d : β} {e : α} (h : i < l.length) : (l.map f).getD i d = f (l.getD i e) := by
 simp only [List.getD_eq_getElem?_getD, List.getElem?_map, List.getElem?_eq_getElem h, Option.map_some, Option.getD_some]
theorem ri_gr {β : Type} {f : Nat → β} {n i : Nat} {d : β} (h : i < n) : ((List.range n).map f).getD i d = f i := by
 simp only [List.getD_eq_getElem?_getD, List.getElem?_map, List.getElem?_range h, Option.map_some, Option.getD_some]
theorem ri_gl {α : Type} {l m : List α} {i : Nat} {d : α} (h : i < l.length) : (l ++ m).getD i d = l.getD i d := by
 rw [List.getD_eq_getElem?_getD, List.getElem?_append_left h, ← List.getD_eq_getElem?_getD]
theorem ri_gt {α : Type} {l : List α} {i : Nat} {d : α} (h : i < l.length) : l.getD i d ∈ l := by
 rw [List.getD_eq_getElem?_getD, List.getElem?_eq_getElem h]; exact List.getElem_mem h
theorem ri_frI {n : Int} {xs : List Int} (h0 : 0 ≤ n) (h8 : n ≤ 8) (hl : (xs.length : Int) = n) (hr : ∀ i : Nat, i < n.toNat → InM n.toNat (xs.getD i 0)) : okFr n xs = true := by
 refine okFr_mk ((inR_iff _ _ _).2 (by omega)) hl ?_
 rw [List.any_eq_false]
 intro x hx
 obtain ⟨j, hj, rfl⟩ := List.getElem_of_mem hx
 have h1 := hr j (by omega)
 rw [List.getD_eq_getElem?_getD, List.getElem?_eq_getElem hj] at h1
 have := (full_rng (n := n.toNat) (by omega)).1 h1
 rw [show ((n.toNat : Nat) : Int) = n by omega] at this
 simp only [Option.getD_some] at this
 rw [this]; simp

section
variable {n : Int} {xs : List Int} (hP : okPo n xs = true) {U : Int} (hU : InM n.toNat U)
include hU
theorem ri_in {i : Nat} (hi : i < (mem U).length) (h8 : n ≤ 8) : ((mem U).getD i 0).toNat < n.toNat ∧ tb U ((mem U).getD i 0).toNat = true := by
 have := mem_in (N := n.toNat) (by omega) hU hi
 exact ⟨this.2.1, this.2.2⟩
theorem ri_inj {i j : Nat} (h8 : n ≤ 8) (hi : i < (mem U).length) (hj : j < (mem U).length) (e : ((mem U).getD i 0).toNat = ((mem U).getD j 0).toNat) : i = j := by
 have h1 := (mem_in (N := n.toNat) (by omega) hU hi).1
 have h2 := (mem_in (N := n.toNat) (by omega) hU hj).1
 have e2 : (mem U).getD i 0 = (mem U).getD j 0 := by rw [h1, h2, e]
 rw [List.getD_eq_getElem?_getD, List.getD_eq_getElem?_getD, List.getElem?_eq_getElem hi, List.getElem?_eq_getElem hj] at e2
 exact (List.getElem_inj (memN_nodup U 62)).1 e2
include hP
theorem ri_prt {i : Nat} (hi : i < (mem U).length) : InM (mem U).length ((prt xs (mem U)).getD i 0) ∧ ∀ k, tb ((prt xs (mem U)).getD i 0) k = true ↔ k < (mem U).length ∧ tb (xs.getD ((mem U).getD i 0).toNat 0) ((mem U).getD k 0).toNat = true := by
 obtain ⟨h0, h8, hl, hr, _⟩ := po_rel hP
 have hl2 := mem_lenN (N := n.toNat) (by omega) hU
 have h1 := ri_in hU hi h8
 rw [prt_get hi]
 exact ⟨sqz_ok (by omega) _ (Nat.le_refl _), fun k => sqz_bits (N := n.toNat) (by omega) hU (hr.2 _ h1.1) _ (Nat.le_refl _) k⟩
theorem ri_part : okPo ((mem U).length : Int) (prt xs (mem U)) = true := by
 obtain ⟨h0, h8, hl, hr, rf, tr, asy⟩ := po_rel hP
 have hl2 := mem_lenN (N := n.toNat) (by omega) hU
 refine po_mk (by omega) (by omega) (by rw [prt_len]) (fun i hi => (ri_prt hP hU (by simpa using hi)).1) (fun i hi => ?_) (fun i j k hi a b => ?_) (fun i j hi a b => ?_)
 ·rw [Int.toNat_natCast] at hi
  exact ((ri_prt hP hU hi).2 i).2 ⟨hi, rf _ (ri_in hU hi h8).1⟩
 ·rw [Int.toNat_natCast] at hi
  obtain ⟨a1, a2⟩ := ((ri_prt hP hU hi).2 j).1 a
  obtain ⟨b1, b2⟩ := ((ri_prt hP hU a1).2 k).1 b
  exact ((ri_prt hP hU hi).2 k).2 ⟨b1, tr _ _ _ (ri_in hU hi h8).1 a2 b2⟩
 ·rw [Int.toNat_natCast] at hi
  obtain ⟨a1, a2⟩ := ((ri_prt hP hU hi).2 j).1 a
  obtain ⟨b1, b2⟩ := ((ri_prt hP hU a1).2 i).1 b
  exact ri_inj hU h8 hi a1 (asy _ _ (ri_in hU hi h8).1 a2 b2)
end

section
variable {P c : List Int} (hQ : QH P c) (hc : corB P c = true)
theorem ri_on {a : Nat} (h : (a : Int) < nxt c c.length) : ∃ j : Nat, j < c.length ∧ c.getD j 0 = (a : Int) := by
 obtain ⟨j, h1, h2, _⟩ := quoS_get (xs := c) (L := c) c.length a h
 exact ⟨j, h1, h2⟩
include hQ
theorem ri_map {j : Nat} (hj : j < c.length) : InM (nxt c c.length).toNat (mapM c (P.getD j 0)) ∧ ∀ k : Nat, tb (mapM c (P.getD j 0)) k = true ↔ ∃ i : Nat, tb (P.getD j 0) i = true ∧ c.getD i 0 = (k : Int) := by
 have h2 := nxt_rng c c.length
 have h3 := hQ.2.1
 exact mapM_ok (ims := c) (m := P.getD j 0) (N := (nxt c c.length).toNat) hQ.2.1 (by omega) (fun j hj => by have := cls_lt' hQ.1 hj; omega) (hQ.2.2.2 j hj)
theorem ri_qfr : okFr (nxt c c.length) (quoI P c c.length) = true := by
 have h2 := nxt_rng c c.length
 have h3 := hQ.2.1
 exact ri_frI (by omega) (by omega) (by rw [quoI_len]; omega) fun i hi => (quoI_ok hQ c.length (Nat.le_refl _) i (by omega)).1
include hc
theorem ri_q {j : Nat} (hj : j < c.length) (b : Nat) : tb ((quoI P c c.length).getD (c.getD j 0).toNat 0) b = true ↔ ∃ k : Nat, tb (P.getD j 0) k = true ∧ c.getD k 0 = (b : Int) := by
 have h1 := cls_lt' hQ.1 hj
 rw [(quoI_ok hQ c.length (Nat.le_refl _) (c.getD j 0).toNat (by omega)).2 b]
 constructor
 ·rintro ⟨i, hi, e, h⟩
  rw [corB_iff.1 hc i hi j hj (by omega)] at h
  exact ((ri_map hQ hj).2 b).1 h
 ·intro h
  exact ⟨j, hj, by omega, ((ri_map hQ hj).2 b).2 h⟩
end
theorem ri_norm : ∀ (m : Nat) (d : List Int), d.length = m → ∃ c : List Int, c.length = d.length ∧ clsB c = true ∧ ∀ i j : Nat, i < d.length → j < d.length → (c.getD i 0 = c.getD j 0 ↔ d.getD i 0 = d.getD j 0)
 | 0, d, h => by
  have : d = [] := List.eq_nil_of_length_eq_zero h
  subst this
  exact ⟨[], rfl, rfl, fun i j hi => absurd hi (Nat.not_lt_zero _)⟩
 | m + 1, d, h => by
  obtain ⟨d0, e, rfl⟩ : ∃ d0 e, d = d0 ++ [e] := ⟨d.dropLast, d.getLast (by rintro rfl; simp at h), (List.dropLast_concat_getLast _).symm⟩
  simp only [List.length_append, List.length_singleton] at h
  obtain ⟨c0, h1, h2, h3⟩ := ri_norm m d0 (by omega)
  have key : ∀ v : Int, 0 ≤ v → v ≤ nxt c0 c0.length → (∀ i : Nat, i < d0.length → (c0.getD i 0 = v ↔ d0.getD i 0 = e)) → ∃ c : List Int, c.length = (d0 ++ [e]).length ∧ clsB c = true ∧ ∀ i j : Nat, i < (d0 ++ [e]).length → j < (d0 ++ [e]).length → (c.getD i 0 = c.getD j 0 ↔ (d0 ++ [e]).getD i 0 = (d0 ++ [e]).getD j 0) := fun v hv0 hv hk => by
   refine ⟨c0 ++ [v], by simp [h1], cls_snoc h2 hv0 hv, fun i j hi hj => ?_⟩
   simp only [List.length_append, List.length_singleton] at hi hj
   by_cases ei : i = d0.length
   ·by_cases ej : j = d0.length
    ·rw [ei, ej]; exact ⟨fun _ => rfl, fun _ => rfl⟩
    ·rw [ri_gl (i := j) (by omega), ri_gl (l := d0) (i := j) (by omega), ei, snoc_at d0, show d0.length = c0.length by omega, snoc_at c0]
     exact ⟨fun q => ((hk j (by omega)).1 q.symm).symm, fun q => ((hk j (by omega)).2 q.symm).symm⟩
   ·by_cases ej : j = d0.length
    ·rw [ri_gl (i := i) (by omega), ri_gl (l := d0) (i := i) (by omega), ej, snoc_at d0, show d0.length = c0.length by omega, snoc_at c0]
     exact hk i (by omega)
    ·rw [ri_gl (i := i) (by omega), ri_gl (l := d0) (i := i) (by omega), ri_gl (i := j) (by omega), ri_gl (l := d0) (i := j) (by omega)]
     exact h3 i j (by omega) (by omega)
  by_cases hx : ∃ i : Nat, i < d0.length ∧ d0.getD i 0 = e
  ·obtain ⟨i, hi, rfl⟩ := hx
   have hr := cls_lt' h2 (i := i) (by omega)
   exact key (c0.getD i 0) hr.1 (by omega) fun k hk => h3 k i hk hi
  ·have hr := nxt_rng c0 c0.length
   refine key (nxt c0 c0.length) hr.1 (Int.le_refl _) fun k hk => ⟨fun q => ?_, fun q => absurd ⟨k, hk, q⟩ hx⟩
   have := cls_lt' h2 (i := k) (by omega)
   omega
theorem ri_abs {P P' c : List Int} {N : Nat} {f : Nat → Nat} (hQ : QH P c) (hc : corB P c = true) (hN : N ≤ 8) (hR : RelOK N P') (h1 : ∀ i, i < N → f i < c.length)
  (h2 : ∀ i k, i < N → (tb (P'.getD i 0) k = true ↔ k < N ∧ tb (P.getD (f i) 0) (f k) = true)) (h3 : ∀ i, i < N → ∀ k, tb (P.getD (f i) 0) k = true → ∃ k', k' < N ∧ f k' = k) (h4 : ∀ b : Nat, (b : Int) < nxt c c.length → ∃ k, k < N ∧ c.getD (f k) 0 = (b : Int)) :
  ∃ c' : List Int, c'.length = N ∧ clsB c' = true ∧ corB P' c' = true ∧ nxt c' c'.length = nxt c c.length ∧ ∃ o, PM (nxt c c.length) o ∧ quoI P' c' c'.length = reo (quoI P c c.length) o := by
 obtain ⟨c', hl, hcl, he⟩ := ri_norm N ((List.range N).map fun i => c.getD (f i) 0) (by simp)
 simp only [List.length_map, List.length_range] at hl he
 have he : ∀ i j : Nat, i < N → j < N → (c'.getD i 0 = c'.getD j 0 ↔ c.getD (f i) 0 = c.getD (f j) 0) := fun i j hi hj => by
  have := he i j hi hj
  rwa [ri_gr hi, ri_gr hj] at this
 have hQ' : QH P' c' := ⟨hcl, by omega, by rw [hl]; exact hR⟩
 have hcor1 : ∀ i j : Nat, i < N → j < N → c'.getD i 0 = c'.getD j 0 → ∀ b, tb (mapM c' (P'.getD i 0)) b = true → tb (mapM c' (P'.getD j 0)) b = true := fun i j hi hj e b hb => by
  obtain ⟨k, q1, q2⟩ := ((ri_map hQ' (j := i) (by omega)).2 b).1 hb
  obtain ⟨q3, q4⟩ := (h2 i k hi).1 q1
  have h5 : tb (mapM c (P.getD (f i) 0)) (c.getD (f k) 0).toNat = true := ((ri_map hQ (h1 i hi)).2 _).2 ⟨f k, q4, by have := cls_lt' hQ.1 (h1 k q3); omega⟩
  rw [corB_iff.1 hc (f i) (h1 i hi) (f j) (h1 j hj) ((he i j hi hj).1 e)] at h5
  obtain ⟨k2, q5, q6⟩ := ((ri_map hQ (h1 j hj)).2 _).1 h5
  obtain ⟨k', q7, rfl⟩ := h3 j hj k2 q5
  refine ((ri_map hQ' (j := j) (by omega)).2 b).2 ⟨k', (h2 j k' hj).2 ⟨q7, q5⟩, ?_⟩
  rw [← q2]
  refine (he k' k q7 q3).2 ?_
  have := cls_lt' hQ.1 (h1 k q3)
  omega
 have hcor : corB P' c' = true := corB_iff.2 fun i hi j hj e => by
  refine tb_ext (ri_map hQ' hi).1.1 (ri_map hQ' hj).1.1 fun b => ?_
  rw [Bool.eq_iff_iff]
  exact ⟨hcor1 i j (by omega) (by omega) e b, hcor1 j i (by omega) (by omega) e.symm b⟩
 have hr' := nxt_rng c' c'.length
 have hr := nxt_rng c c.length
 have hge : ∃ g : Nat → Nat, ∀ a : Nat, (a : Int) < nxt c' c'.length → g a < N ∧ c'.getD (g a) 0 = (a : Int) := ⟨fun a => if h : (a : Int) < nxt c' c'.length then Classical.choose (ri_on h) else 0, fun a ha => by
  have := Classical.choose_spec (ri_on ha)
  simp only [dif_pos ha]
  exact ⟨by omega, this.2⟩⟩
 obtain ⟨g, hg⟩ := hge
 have hgm : ∀ k, k < N → ∃ a : Nat, (a : Int) < nxt c' c'.length ∧ c'.getD k 0 = (a : Int) ∧ c.getD (f (g a)) 0 = c.getD (f k) 0 := fun k hk => by
  have h5 := cls_lt' hcl (i := k) (by omega)
  have h6 : (((c'.getD k 0).toNat : Nat) : Int) = c'.getD k 0 := by omega
  have h7 := hg (c'.getD k 0).toNat (by omega)
  exact ⟨_, by omega, h6.symm, (he _ _ h7.1 hk).1 (by omega)⟩
 obtain ⟨o, ho⟩ : ∃ o : List Int, o = (List.range (nxt c' c'.length).toNat).map fun a => c.getD (f (g a)) 0 := ⟨_, rfl⟩
 have hol : o.length = (nxt c' c'.length).toNat := by rw [ho]; simp
 have hog : ∀ a : Nat, (a : Int) < nxt c' c'.length → o.getD a 0 = c.getD (f (g a)) 0 := fun a ha => by rw [ho, ri_gr (by omega)]
 have hnd : o.Nodup := by
  rw [ho]
  refine nodup_map List.nodup_range fun x hx y hy e => ?_
  have hx := List.mem_range.1 hx
  have hy := List.mem_range.1 hy
  have e1 := hg x (by omega)
  have e2 := hg y (by omega)
  have := (he _ _ e1.1 e2.1).2 e
  omega
 have hrng : ∀ v ∈ o, 0 ≤ v ∧ v < nxt c c.length := fun v hv => by
  rw [ho] at hv
  obtain ⟨a, ha, rfl⟩ := List.mem_map.1 hv
  have ha := List.mem_range.1 ha
  exact cls_lt' hQ.1 (h1 _ (hg a (by omega)).1)
 have hle1 : (nxt c' c'.length).toNat ≤ (nxt c c.length).toNat := by
  have := len_le (l := o) (m := (List.range (nxt c c.length).toNat).map fun i : Nat => (i : Int)) hnd fun v hv => by
   have := hrng v hv
   exact List.mem_map.2 ⟨v.toNat, List.mem_range.2 (by omega), by omega⟩
  simpa [hol] using this
 have hle2 : (nxt c c.length).toNat ≤ (nxt c' c'.length).toNat := by
  have := len_le (l := (List.range (nxt c c.length).toNat).map fun i : Nat => (i : Int)) (m := o) (nodup_map List.nodup_range fun x _ y _ e => by omega) fun v hv => by
   obtain ⟨b, hb, rfl⟩ := List.mem_map.1 hv
   have hb := List.mem_range.1 hb
   obtain ⟨k, hk, e⟩ := h4 b (by omega)
   obtain ⟨a, ha, _, e2⟩ := hgm k hk
   rw [← e, ← e2, ← hog a ha]
   exact ri_gt (by omega)
  simpa [hol] using this
 have hn : nxt c' c'.length = nxt c c.length := by omega
 have hpm : PM (nxt c c.length) o := ⟨by omega, hnd, hrng⟩
 have hF := ri_qfr hQ
 refine ⟨c', hl, hcl, hcor, hn, o, hpm, ?_⟩
 refine rowN_ext (N := (nxt c c.length).toNat) (by rw [quoI_len, hn]) (by rw [reo_len, hol, hn]) fun i hi => ?_
 refine bits_eq (N := (nxt c c.length).toNat) (by have := (quoI_ok hQ' c'.length (Nat.le_refl _) i (by omega)).1; rwa [hn] at this) (reo_bits hF hpm hi).1 fun b hb => ?_
 obtain ⟨gi1, gi2⟩ := hg i (by omega)
 obtain ⟨gb1, gb2⟩ := hg b (by omega)
 have o1 := hog i (by omega)
 have o2 := hog b (by omega)
 have e1 := ri_q hQ' hcor (j := g i) (by omega) b
 rw [gi2, Int.toNat_natCast] at e1
 have e2 := ri_q hQ hc (h1 _ gi1) (c.getD (f (g b)) 0).toNat
 rw [e1, (reo_bits hF hpm hi).2 b, o1, o2, e2]
 constructor
 ·rintro ⟨k, q1, q2⟩
  obtain ⟨q3, q4⟩ := (h2 _ k gi1).1 q1
  refine ⟨hb, f k, q4, ?_⟩
  have h5 := (he k (g b) q3 gb1).1 (q2.trans gb2.symm)
  have h6 := cls_lt' hQ.1 (h1 _ gb1)
  rw [h5, Int.toNat_of_nonneg h6.1]
 ·rintro ⟨_, k, q1, q2⟩
  obtain ⟨k', q3, rfl⟩ := h3 _ gi1 k q1
  refine ⟨k', (h2 _ k' gi1).2 ⟨q3, q1⟩, ?_⟩
  have h6 := cls_lt' hQ.1 (h1 _ gb1)
  rw [Int.toNat_of_nonneg h6.1] at q2
  exact ((he k' (g b) q3 gb1).2 q2).trans gb2
section
variable {n : Int} {xs : List Int} (hP : okPo n xs = true)
include hP
theorem ri_up {x : Nat} (hx : x < n.toNat) : InM n.toNat (xs.getD x 0) ∧ ∀ i j : Nat, tb (xs.getD x 0) i = true → tb (xs.getD i 0) j = true → tb (xs.getD x 0) j = true := by
 obtain ⟨h0, h8, hl, hr, rf, tr, asy⟩ := po_rel hP
 exact ⟨hr.2 x hx, fun i j a b => tr x i j hx a b⟩
theorem ri_sub {U : Int} {c : List Int} (hU : InM n.toNat U) (hup : ∀ i j : Nat, tb U i = true → tb (xs.getD i 0) j = true → tb U j = true) (hl : c.length = (mem U).length) (hcl : clsB c = true) (hcor : corB (prt xs (mem U)) c = true)
  {r : Nat} (hr : (r : Int) < nxt c c.length) (hroot : ∀ b : Nat, (b : Int) < nxt c c.length → tb ((quoI (prt xs (mem U)) c c.length).getD r 0) b = true) :
  ∃ x : Nat, x < n.toNat ∧ ∃ c' : List Int, c'.length = (mem (xs.getD x 0)).length ∧ clsB c' = true ∧ corB (prt xs (mem (xs.getD x 0))) c' = true ∧ nxt c' c'.length = nxt c c.length ∧ ∃ o, PM (nxt c c.length) o ∧ quoI (prt xs (mem (xs.getD x 0))) c' c'.length = reo (quoI (prt xs (mem U)) c c.length) o := by
 obtain ⟨h0, h8, hlx, hrx, rf, tr, asy⟩ := po_rel hP
 have hPU := ri_part hP hU
 have hQ : QH (prt xs (mem U)) c := qh_of hPU (by omega) hcl
 obtain ⟨j, hj, ej⟩ := ri_on hr
 have hj1 := ri_in hU (i := j) (by omega) h8
 refine ⟨((mem U).getD j 0).toNat, hj1.1, ?_⟩
 generalize hx : ((mem U).getD j 0).toNat = x at hj1 ⊢
 obtain ⟨hV, hVup⟩ := ri_up hP hj1.1
 have hlV := mem_lenN (N := n.toNat) (by omega) hV
 have hsub : ∀ i, i < (mem (xs.getD x 0)).length → ∃ k, k < (mem U).length ∧ ((mem U).getD k 0).toNat = ((mem (xs.getD x 0)).getD i 0).toNat := fun i hi => mem_ix (N := n.toNat) (by omega) hU (hup x _ hj1.2 (ri_in hV hi h8).2)
 have hfe : ∃ f : Nat → Nat, ∀ i, i < (mem (xs.getD x 0)).length → f i < (mem U).length ∧ ((mem U).getD (f i) 0).toNat = ((mem (xs.getD x 0)).getD i 0).toNat := ⟨fun i => if h : i < (mem (xs.getD x 0)).length then Classical.choose (hsub i h) else 0, fun i hi => by
  simp only [dif_pos hi]; exact Classical.choose_spec (hsub i hi)⟩
 obtain ⟨f, hf⟩ := hfe
 have hR : RelOK (mem (xs.getD x 0)).length (prt xs (mem (xs.getD x 0))) := by
  have := (okFr_rel (okPo_fr (ri_part hP hV))).2.2.2
  rwa [Int.toNat_natCast] at this
 have hclose : ∀ i k : Nat, i < (mem (xs.getD x 0)).length ∨ i = (mem (xs.getD x 0)).length → k < (mem U).length → tb (xs.getD x 0) ((mem U).getD k 0).toNat = true → ∃ k', k' < (mem (xs.getD x 0)).length ∧ f k' = k := fun i k _ hk ht => by
  obtain ⟨k', e1, e2⟩ := mem_ix (N := n.toNat) (by omega) hV ht
  exact ⟨k', e1, ri_inj hU h8 (hf k' e1).1 hk ((hf k' e1).2.trans e2)⟩
 refine ri_abs (f := f) hQ hcor (by omega) hR (fun i hi => by have := (hf i hi).1; omega) (fun i k hi => ?_) (fun i hi k hk => ?_) (fun b hb => ?_)
 ·rw [(ri_prt hP hV hi).2 k]
  constructor
  ·rintro ⟨a, b⟩
   refine ⟨a, ((ri_prt hP hU (hf i hi).1).2 _).2 ⟨(hf k a).1, ?_⟩⟩
   rw [(hf i hi).2, (hf k a).2]; exact b
  ·rintro ⟨a, b⟩
   have := (((ri_prt hP hU (hf i hi).1).2 _).1 b).2
   rw [(hf i hi).2, (hf k a).2] at this
   exact ⟨a, this⟩
 ·obtain ⟨a, b⟩ := ((ri_prt hP hU (hf i hi).1).2 k).1 hk
  rw [(hf i hi).2] at b
  exact hclose i k (.inl hi) a (hVup _ _ (ri_in hV hi h8).2 b)
 ·have h5 := hroot b hb
  rw [show r = (c.getD j 0).toNat by omega] at h5
  obtain ⟨k, a, e⟩ := (ri_q hQ hcor hj b).1 h5
  obtain ⟨k1, k2⟩ := ((ri_prt hP hU (by omega)).2 k).1 a
  rw [hx] at k2
  obtain ⟨k', q1, rfl⟩ := hclose _ k (.inr rfl) k1 k2
  exact ⟨k', q1, e⟩
theorem ri_sup {x : Nat} (hx : x < n.toNat) {c : List Int} (hl : c.length = (mem (xs.getD x 0)).length) (hcl : clsB c = true) (hcor : corB (prt xs (mem (xs.getD x 0))) c = true) :
  ∃ r : Nat, (r : Int) < nxt c c.length ∧ ∀ b : Nat, (b : Int) < nxt c c.length → tb ((quoI (prt xs (mem (xs.getD x 0))) c c.length).getD r 0) b = true := by
 obtain ⟨h0, h8, hlx, hrx, rf, tr, asy⟩ := po_rel hP
 obtain ⟨hV, hVup⟩ := ri_up hP hx
 have hPV := ri_part hP hV
 have hQ : QH (prt xs (mem (xs.getD x 0))) c := qh_of hPV (by omega) hcl
 obtain ⟨i, hi, ei⟩ := mem_ix (N := n.toNat) (by omega) hV (rf x hx)
 have h1 := cls_lt' hcl (i := i) (by omega)
 refine ⟨(c.getD i 0).toNat, by omega, fun b hb => ?_⟩
 obtain ⟨k, hk, ek⟩ := ri_on hb
 refine (ri_q hQ hcor (by omega) b).2 ⟨k, ((ri_prt hP hV hi).2 k).2 ⟨by omega, ?_⟩, ek⟩
 rw [ei]
 exact (ri_in hV (i := k) (by omega) h8).2
end
end Go.Proofs.YtehbliocfpppoaaGreat

/-! All correct partitions: the reference. -/
namespace Go.Proofs.YtehbliocfpppoaaGreat
open Go.RowKit Go.Abs
theorem take_succ_getD {α : Type} (l : List α) (d : α) {i : Nat} (h : i < l.length) : l.take (i + 1) = l.take i ++ [l.getD i d] := by
 rw [List.take_add_one, List.getD_eq_getElem?_getD, List.getElem?_eq_getElem h]; rfl
def topT (X : List Int) : Nat → Int
 | 0 => 0
 | k + 1 => mx (topT X k) (X.getD k 0)
def kidsI (X : List Int) (v : Nat) : List (List Int) := (List.range v).map fun (c : Nat) => X ++ [(c : Int)]
def kids (X : List Int) : List (List Int) := kidsI X (topT X X.length + 1).toNat
def lvl : Nat → List (List Int)
 | 0 => [[]]
 | x + 1 => (lvl x).flatMap kids
def lvlI (x i : Nat) : List (List Int) := ((lvl x).take i).flatMap kids
def lvF : Nat → List (List Int) → List (List Int)
 | 0, l => l
 | d + 1, l => lvF d (l.flatMap kids)
theorem lvF_s : ∀ (d : Nat) (l : List (List Int)), (lvF d l).flatMap kids = lvF (d + 1) l
 | 0, _ => rfl
 | d + 1, l => lvF_s d (l.flatMap kids)
theorem lvl_F : ∀ x : Nat, lvl x = lvF x [[]]
 | 0 => rfl
 | x + 1 => by rw [lvl, lvl_F x, lvF_s]
theorem lvF_flat {α : Type} (f : α → List (List Int)) : ∀ (d : Nat) (l : List α), lvF d (l.flatMap f) = l.flatMap fun x => lvF d (f x)
 | 0, _ => rfl
 | d + 1, l => by rw [lvF, List.flatMap_assoc, lvF_flat (fun x => (f x).flatMap kids) d l]; rfl
theorem top_nxt {X : List Int} (h : clsB X = true) : ∀ k : Nat, k ≤ X.length → topT X k = nxt X k
 | 0, _ => rfl
 | k + 1, hk => by
  have h1 := clsB_iff.1 h k (by omega)
  rw [topT, top_nxt h k (by omega), mx_eq, nxt]
  split <;> omega
theorem kids_flat (X : List Int) (v : Nat) : kidsI X v = (List.range v).flatMap fun (c : Nat) => [X ++ [(c : Int)]] := by
 unfold kidsI
 induction List.range v with
 | nil => rfl
 | cons a l ih => simp only [List.map_cons, List.flatMap_cons, ih]; rfl
theorem dfs_lvF : ∀ (d : Nat) (X : List Int) (u : Int), CX X u → dfs d X u = lvF d [X]
 | 0, _, _, _ => rfl
 | d + 1, X, u, h => by
  have hr := h.rng
  have e : topT X X.length = u := by rw [top_nxt h.cls _ (Nat.le_refl _), h.cnt]
  rw [dfs, lvF, List.flatMap_singleton, kids, e, show (u + 1).toNat = u.toNat + 1 by omega, kids_flat, lvF_flat]
  rw [List.flatMap_def, List.flatMap_def]
  congr 1
  refine List.map_congr_left fun c hc => ?_
  have hc := List.mem_range.1 hc
  exact dfs_lvF d _ _ (cx_snoc h (by omega) (by omega))
theorem lvl_dfs (x : Nat) : lvl x = dfs x [] 0 := by rw [lvl_F, dfs_lvF x [] 0 cx_nil]
theorem dfs_len : ∀ (d : Nat) (X : List Int) (u : Int), u.toNat + d ≤ 8 → (dfs d X u).length ≤ pw8 d
 | 0, X, u, _ => Nat.le_refl 1
 | d + 1, X, u, h => by
  rw [dfs, pw8]
  refine Nat.le_trans (flat_len _ (pw8 d) (u.toNat + 1) fun c hc => dfs_len d _ _ (by rw [mx_eq]; omega)) ?_
  exact Nat.mul_le_mul_right _ (by omega)
theorem lvl_len {x : Nat} (h : x ≤ 8) : (lvl x).length ≤ 16777216 := by
 rw [lvl_dfs]
 exact Nat.le_trans (dfs_len x [] 0 (by simpa using h)) (pw8_8 h)
theorem lvlI_len {x i : Nat} (h : x < 8) : (lvlI x i).length ≤ 16777216 := by
 refine Nat.le_trans ?_ (lvl_len (x := x + 1) (by omega))
 rw [lvl, lvlI]
 have e : (lvl x).flatMap kids = ((lvl x).take i).flatMap kids ++ ((lvl x).drop i).flatMap kids := by rw [← List.flatMap_append, List.take_append_drop]
 rw [e, List.length_append]; omega
theorem lvl_mem : ∀ (x : Nat) (X : List Int), X ∈ lvl x → X.length = x ∧ clsB X = true
 | 0, X, h => by
  have : X = [] := by simpa [lvl] using h
  subst this; exact ⟨rfl, rfl⟩
 | x + 1, X, h => by
  rw [lvl, List.mem_flatMap] at h
  obtain ⟨Y, hY, hX⟩ := h
  obtain ⟨h1, h2⟩ := lvl_mem x Y hY
  have e := top_nxt h2 _ (Nat.le_refl _)
  have hr := nxt_rng Y Y.length
  simp only [kids, kidsI, List.mem_map, List.mem_range] at hX
  obtain ⟨c, hc, rfl⟩ := hX
  exact ⟨by simp [h1], cls_snoc h2 (by omega) (by omega)⟩
theorem lvl_at {x i : Nat} (hi : i < (lvl x).length) : ((lvl x).getD i []).length = x ∧ clsB ((lvl x).getD i []) = true := by
 refine lvl_mem x _ ?_
 rw [List.getD_eq_getElem?_getD, List.getElem?_eq_getElem hi]
 exact List.getElem_mem hi
theorem top_at {x i k : Nat} (hi : i < (lvl x).length) (hk : k ≤ x) : 0 ≤ topT ((lvl x).getD i []) k ∧ topT ((lvl x).getD i []) k ≤ k := by
 obtain ⟨h1, h2⟩ := lvl_at hi
 rw [top_nxt h2 k (by omega)]
 exact nxt_rng _ k
theorem val_at {x i k : Nat} (hi : i < (lvl x).length) (hk : k < x) : 0 ≤ ((lvl x).getD i []).getD k 0 ∧ ((lvl x).getD i []).getD k 0 ≤ k := by
 obtain ⟨h1, h2⟩ := lvl_at hi
 have := clsB_iff.1 h2 k (by omega)
 have := nxt_rng ((lvl x).getD i []) k
 omega
theorem kidsI_len (X : List Int) (v : Nat) : (kidsI X v).length = v := by simp [kidsI]
theorem kidsI_s (X : List Int) (v : Nat) : kidsI X v ++ [X ++ [(v : Int)]] = kidsI X (v + 1) := by simp [kidsI, List.range_succ]
theorem lvlI_s {x i v : Nat} (hi : i < (lvl x).length) (hv : (v : Int) = topT ((lvl x).getD i []) ((lvl x).getD i []).length + 1) : lvlI x i ++ kidsI ((lvl x).getD i []) v = lvlI x (i + 1) := by
 unfold lvlI
 rw [take_succ_getD _ [] hi, List.flatMap_append, List.flatMap_singleton, kids, ← hv]
 rfl
theorem lvlI_e {x i : Nat} (hi : i = (lvl x).length) : lvlI x i = lvl (x + 1) := by rw [lvlI, hi, List.take_length, lvl]
def corI (xs : List Int) (n j : Nat) : List (List Int) := ((lvl n).take j).filter (corB xs)
theorem corI_y {xs : List Int} {n j : Nat} (hj : j < (lvl n).length) (h : corB xs ((lvl n).getD j []) = true) : corI xs n j ++ [(lvl n).getD j []] = corI xs n (j + 1) := by
 unfold corI
 rw [take_succ_getD _ [] hj, List.filter_append, List.filter_cons_of_pos h]; rfl
theorem corI_n {xs : List Int} {n j : Nat} (hj : j < (lvl n).length) (h : corB xs ((lvl n).getD j []) = false) : corI xs n j = corI xs n (j + 1) := by
 unfold corI
 rw [take_succ_getD _ [] hj, List.filter_append, List.filter_cons_of_neg (by rw [h]; exact Bool.false_ne_true)]; simp
theorem top_end {X : List Int} {x k : Nat} {v : Nat} (h : X.length = x) (hk : k = x) (hv : (v : Int) = topT X k + 1) : (v : Int) = topT X X.length + 1 := by rw [h, ← hk]; exact hv
theorem corI_e {xs : List Int} {n j : Nat} (hj : j = (lvl n).length) : corI xs n j = cgs xs n [] 0 := by rw [corI, hj, List.take_length, cgs, lvl_dfs]
theorem corI_len {xs : List Int} {n j : Nat} (h8 : n ≤ 8) : (corI xs n j).length ≤ 16777216 := by
 refine Nat.le_trans (List.length_filter_le _ _) (Nat.le_trans ?_ (lvl_len h8))
 rw [List.length_take]; omega
theorem l21Partitions_c (n : Int) (xs : List Int) (hP : okPo n xs = true) : CallA Tryz.prog 74 [.agg [AI n, LI xs]] (ownA eLI 22 1 (cgs xs n.toNat [] 0)) := by
 have hFr := okFr_rel (okPo_fr hP)
 have hb0 : 0 ≤ n ∧ n ≤ 8 := ⟨hFr.1, hFr.2.1⟩
 refine CallA.of Tryz.func74 rfl (by kernel_rfl) (R.go 8 (k24 1 (R.go 6 (k24 2 (R.go 3 (k21 ((fun | (x, LL) => (⟨(frm 84 [(1, .ptr 0 0), (3, LLI LL), (4, AI (x : Int))]), [.box 29 [AI n, LI xs]]⟩ : St) : Nat × (List (List Int)) → St)) (fun | (x, LL) => ((x : Int) ≤ n) ∧ (LL = lvl x)) (fun | (x, LL) => n.toNat - x) (0, [[]]) [1, 3, 4] (some [0]) ⟨(by omega), (by rfl)⟩ ?_))))))
 rintro ⟨x, LL⟩ ⟨h4_1, rfl⟩ R1 N2
 have hll : (lvl x).length ≤ 16777216 := lvl_len (by omega)
 refine R.go 8 (k9 ((x : Int) < n) (fun c5 => ?_) (fun c5 => ?_))
 ·refine R.go 14 (k21 ((fun | (i, N) => (⟨(frm 84 [(1, .ptr 0 0), (3, LLI (lvl x)), (4, AI (x : Int)), (5, .ref 1), (6, AI (i : Int))]), [.box 29 [AI n, LI xs], rowA eLI 22 1 N]⟩ : St) : Nat × (List (List Int)) → St)) (fun | (i, N) => (i ≤ (lvl x).length) ∧ (N = lvlI x i)) (fun | (i, N) => (lvl x).length - i) (0, []) [1, 3, 4, 5, 6] none ⟨(by omega), (by rfl)⟩ ?_)
  rintro ⟨i, N⟩ ⟨h9_1, rfl⟩ R6 N7
  have hnl := lvlI_len (x := x) (i := i) (by omega)
  refine R.go 8 (k9 ((i : Int) < ((lvl x).length : Int)) (fun c10 => ?_) (fun c10 => ?_))
  ·have hla := lvl_at (x := x) (i := i) (by omega)
   have hla1 := hla.1
   refine R.go 13 (k21 ((fun | (k, top) => (⟨(frm 84 [(1, .ptr 0 0), (3, LLI (lvl x)), (4, AI (x : Int)), (5, .ref 1), (6, AI (i : Int)), (7, AI top), (8, AI (k : Int))]), [.box 29 [AI n, LI xs], rowA eLI 22 1 (lvlI x i)]⟩ : St) : Nat × Int → St)) (fun | (k, top) => (k ≤ x) ∧ (top = topT ((lvl x).getD i []) k)) (fun | (k, top) => x - k) (0, 0) [1, 3, 4, 5, 6, 7, 8] none ⟨(by omega), (by rfl)⟩ ?_)
   rintro ⟨k, top⟩ ⟨h14_1, rfl⟩ R11 N12
   have htp := top_at (x := x) (i := i) (k := k) (by omega) (by omega)
   refine R.go 6 (k15 eLI (lvl x) [] i (i : Int) eLI_len (R.go 4 (k9 ((k : Int) < (((lvl x).getD i []).length : Int)) (fun c15 => ?_) (fun c15 => ?_))))
   ·have hva := val_at (x := x) (i := i) (k := k) (by omega) (by omega)
    refine R.go 7 (k15 eLI (lvl x) [] i (i : Int) eLI_len (R.go 2 (k15 eI ((lvl x).getD i []) 0 k (k : Int) eI_len ?_ (hj := by first | omega | (simp only [List.length_set]; omega) | (simp <;> omega)))))
    refine R.go 1 (k8 ((((lvl x).getD i []).getD k 0) + 1) (R.go 6 (k8 ((k : Int) + 1) ?_)))
    exact R.go 2 (k22 R11 (N12 (k + 1, if ((((lvl x).getD i []).getD k 0) + 1) > (topT ((lvl x).getD i []) k) then ((((lvl x).getD i []).getD k 0) + 1) else (topT ((lvl x).getD i []) k)) [1, 3, 4, 5, 6, 7, 8] none _ (by kernel_rfl) (by kernel_rfl) ⟨(by omega), (by rfl)⟩ (by show (x - (k + 1)) < (x - k); omega)))
   refine R.go 6 (k21 ((fun | (v, Q) => (⟨(frm 84 [(1, .ptr 0 0), (3, LLI (lvl x)), (4, AI (x : Int)), (5, .ref 1), (6, AI (i : Int)), (7, AI (topT ((lvl x).getD i []) k)), (9, AI (v : Int))]), [.box 29 [AI n, LI xs], rowA eLI 22 1 Q]⟩ : St) : Nat × (List (List Int)) → St)) (fun | (v, Q) => ((v : Int) ≤ topT ((lvl x).getD i []) k + 1) ∧ (Q = lvlI x i ++ kidsI ((lvl x).getD i []) v)) (fun | (v, Q) => k + 1 - v) (0, (lvlI x i)) [1, 3, 4, 5, 6, 7, 9] none ⟨(by omega), (by simp [kidsI])⟩ ?_)
   rintro ⟨v, Q⟩ ⟨h19_1, rfl⟩ R16 N17
   have hql : (lvlI x i ++ kidsI ((lvl x).getD i []) v).length = (lvlI x i).length + v := by rw [List.length_append, kidsI_len]
   refine R.go 7 (k9 ((v : Int) ≤ (topT ((lvl x).getD i []) k)) (fun c20 => ?_) (fun c20 => ?_))
   ·refine R.go 7 (k15 eLI (lvl x) [] i (i : Int) eLI_len (R.go 1 (k20 true (l01Own_c ((lvl x).getD i []) (by first | omega | (simp only [List.length_append, List.length_cons, List.length_nil]; omega))) (R.go 2 (k19 eI ((lvl x).getD i []) [(v : Int)] 2 2 1 8 eI_one ?_ (hb := by simp only [List.length_cons, List.length_nil]; omega))))))
    refine k24 2 (R.go 1 (k19 eLI (lvlI x i ++ kidsI ((lvl x).getD i []) v) [((lvl x).getD i []) ++ [(v : Int)]] 1 22 1 24 eLI_one ?_ (hb := by simp only [List.length_cons, List.length_nil]; omega)))
    refine R.go 5 (k8 ((v : Int) + 1) ?_)
    exact R.go 2 (k22 R16 (N17 (v + 1, lvlI x i ++ kidsI ((lvl x).getD i []) v ++ [((lvl x).getD i []) ++ [(v : Int)]]) [1, 3, 4, 5, 6, 7, 9] (some [0, 1]) _ (by kernel_rfl) (by kernel_rfl) ⟨(by omega), (by rw [List.append_assoc, kidsI_s])⟩ (by show (k + 1 - (v + 1)) < (k + 1 - v); omega)))
   refine R.go 4 (k8 ((i : Int) + 1) ?_)
   exact R.go 2 (k22 R6 (N7 (i + 1, lvlI x i ++ kidsI ((lvl x).getD i []) v) [1, 3, 4, 5, 6] none _ (by kernel_rfl) (by kernel_rfl) ⟨(by omega), (by exact lvlI_s (by omega) (top_end (k := k) hla.1 (by omega) (by omega)))⟩ (by show ((lvl x).length - (i + 1)) < ((lvl x).length - i); omega)))
  refine R.go 2 (k24 1 (R.go 6 (k8 ((x : Int) + 1) ?_)))
  exact R.go 2 (k22 R1 (N2 (x + 1, lvlI x i) [1, 3, 4] (some [0]) _ (by kernel_rfl) (by kernel_rfl) ⟨(by omega), (by exact lvlI_e (by omega))⟩ (by show (n.toNat - (x + 1)) < (n.toNat - x); omega)))
 refine R.go 12 (k21 ((fun | (j, O) => (⟨(frm 84 [(1, .ptr 0 0), (3, LLI (lvl x)), (10, .ref 1), (11, AI (j : Int))]), [.box 29 [AI n, LI xs], rowA eLI 22 1 O]⟩ : St) : Nat × (List (List Int)) → St)) (fun | (j, O) => (j ≤ (lvl x).length) ∧ (O = corI xs x j)) (fun | (j, O) => (lvl x).length - j) (0, []) [1, 3, 10, 11] none ⟨(by omega), (by rfl)⟩ ?_)
 rintro ⟨j, O⟩ ⟨h24_1, rfl⟩ R21 N22
 have hol := corI_len (xs := xs) (n := x) (j := j) (by omega)
 refine R.go 8 (k9 ((j : Int) < ((lvl x).length : Int)) (fun c25 => ?_) (fun c25 => ?_))
 ·refine R.go 4 ?_
  have hla := lvl_at (x := x) (i := j) (by omega)
  have hQ : QH xs ((lvl x).getD j []) := qh_of hP (by omega) hla.2
  refine R.go 4 (k15 eLI (lvl x) [] j (j : Int) eLI_len (R.go 1 (k20 true (l21Correct_c n xs ((lvl x).getD j []) hQ) (R.go 1 (R.condB (corB xs ((lvl x).getD j [])) (by kernel_rfl) (fun c26 => ?_) (fun c26 => ?_))))))
  ·refine R.go 4 (k15 eLI (lvl x) [] j (j : Int) eLI_len (R.go 2 (k19 eLI (corI xs x j) [((lvl x).getD j [])] 1 22 1 24 eLI_one ?_ (hb := by simp only [List.length_cons, List.length_nil]; omega))))
   refine R.go 5 (k8 ((j : Int) + 1) ?_)
   exact R.go 2 (k22 R21 (N22 (j + 1, (corI xs x j) ++ [((lvl x).getD j [])]) [1, 3, 10, 11] (some [0, 1]) _ (by kernel_rfl) (by kernel_rfl) ⟨(by omega), (by first | exact corI_y (by omega) (by assumption) | exact corI_n (by omega) (by assumption))⟩ (by show ((lvl x).length - (j + 1)) < ((lvl x).length - j); omega)))
  refine R.go 4 (k8 ((j : Int) + 1) ?_)
  exact R.go 2 (k22 R21 (N22 (j + 1, corI xs x j) [1, 3, 10, 11] none _ (by kernel_rfl) (by kernel_rfl) ⟨(by omega), (by first | exact corI_y (by omega) (by assumption) | exact corI_n (by omega) (by assumption))⟩ (by show ((lvl x).length - (j + 1)) < ((lvl x).length - j); omega)))
 exact R.go 6 (k23 (ownA eLI 22 1 (corI xs x j)) (by first | (rw [corI_e (by omega), show x = n.toNat by omega]) | (exfalso; omega)))
end Go.Proofs.YtehbliocfpppoaaGreat

/-! Rooted images: least forms of isomorphic relations, rows in order, the two lists have the same members. -/
namespace Go.Proofs.YtehbliocfpppoaaGreat
open Go.RowKit Go.Abs
theorem reo_fr {n : Int} {a o : List Int} (hF : okFr n a = true) (h : PM n o) : okFr n (reo a o) = true := by
 obtain ⟨h0, h8, hl, hr⟩ := okFr_rel hF
 exact ri_frI h0 h8 (by rw [reo_len, h.1]; omega) fun i hi => (reo_bits hF h hi).1
theorem reo_reoF {n : Int} {a o o' : List Int} (hF : okFr n a = true) (h : PM n o) (h' : PM n o') : reo (reo a o) o' = reo a (cmpO o o') := by
 have hF2 := reo_fr hF h
 have hc := cmpO_pm h h'
 refine rowN_ext (N := n.toNat) (by rw [reo_len, h'.1]) (by rw [reo_len, hc.1]) fun i hi => ?_
 have hi3 := pm_get h' hi
 refine bits_eq (N := n.toNat) (reo_bits hF2 h' hi).1 (reo_bits hF hc hi).1 fun k hk => ?_
 have hk3 := pm_get h' hk
 rw [(reo_bits hF2 h' hi).2 k, (reo_bits hF hc hi).2 k, cmpO_get h' hi, cmpO_get h' hk, (reo_bits hF h (i := (o'.getD i 0).toNat) (by omega)).2]
 constructor
 ·rintro ⟨_, _, h5⟩; exact ⟨hk, h5⟩
 ·rintro ⟨_, h5⟩; exact ⟨hk, by omega, h5⟩
theorem cmpI_neg (x y : Int) : cmpI y x = - cmpI x y := by
 unfold cmpI
 repeat' split
 all_goals omega
theorem cmpL_neg : ∀ a b : List Int, cmpL b a = - cmpL a b
 | [], [] => rfl
 | [], _ :: _ => rfl
 | _ :: _, [] => rfl
 | x :: a, y :: b => by
  rw [cmpL, cmpL, cmpI_neg x y]
  by_cases e : cmpI x y = 0
  ·rw [if_pos e, if_pos (by omega)]; exact cmpL_neg a b
  ·rw [if_neg e, if_neg (by omega)]
theorem cmpL_zero : ∀ {a b : List Int}, cmpL a b = 0 → a = b
 | [], [], _ => rfl
 | [], _ :: _, h => by simp [cmpL] at h
 | _ :: _, [], h => by simp [cmpL] at h
 | x :: a, y :: b, h => by
  rw [cmpL] at h
  by_cases e : cmpI x y = 0
  ·rw [if_pos e] at h; rw [cmpI_eq.1 e, cmpL_zero h]
  ·rw [if_neg e] at h; exact absurd h e
theorem lt_tri {a b : List Int} (h1 : ¬ ltL a b) (h2 : ¬ ltL b a) : a = b := by
 refine cmpL_zero ?_
 have := cmpL_neg a b
 unfold ltL at h1 h2; omega
def idP (n : Int) : List Int := (List.range n.toNat).map fun i : Nat => (i : Int)
theorem idP_get {n : Int} {i : Nat} (h : i < n.toNat) : (idP n).getD i 0 = (i : Int) := by simp [idP, List.getD_eq_getElem?_getD, List.getElem?_range h]
theorem idP_pm (n : Int) : PM n (idP n) := ⟨by simp [idP], nodup_map List.nodup_range fun x _ y _ e => by omega, fun v hv => by
 obtain ⟨i, hi, rfl⟩ := List.mem_map.1 hv
 have := List.mem_range.1 hi; omega⟩
theorem reo_id {n : Int} {a o : List Int} (hP : okFr n a = true) (ho : PM n o) (h : ∀ i, i < n.toNat → o.getD i 0 = (i : Int)) : reo a o = a := by
 obtain ⟨h0, h8, hl, hr⟩ := okFr_rel hP
 refine rowN_ext (N := n.toNat) (by rw [reo_len, ho.1]) (by omega) fun i hi => ?_
 refine bits_eq (N := n.toNat) (reo_bits hP ho hi).1 (hr.2 i hi) fun k hk => ?_
 rw [(reo_bits hP ho hi).2 k, h i hi, h k hk]
 simp [hk]
theorem toF_pm {n : Int} {o : List Int} (h : PM n o) : PM n (toF o o.length) ∧ ∀ i, i < n.toNat → (cmpO o (toF o o.length)).getD i 0 = (i : Int) := by
 have hol := h.1
 have hg : ∀ y, y < n.toNat → ∃ k, k < n.toNat ∧ o.getD k 0 = (y : Int) ∧ (toF o o.length).getD y 0 = (k : Int) := fun y hy => by
  obtain ⟨k, hk, e⟩ := pm_onto h hy
  have := toF_inv h o.length (by omega) k (by omega)
  rw [e, Int.toNat_natCast] at this
  exact ⟨k, hk, e, this⟩
 have hge : ∀ (i : Nat) (hi : i < (toF o o.length).length), (toF o o.length)[i] = (toF o o.length).getD i 0 := fun i hi => by rw [List.getD_eq_getElem?_getD, List.getElem?_eq_getElem hi]; rfl
 have hlen : (toF o o.length).length = n.toNat := by rw [toF_len, hol]
 have hP : PM n (toF o o.length) := by
  refine ⟨hlen, List.pairwise_iff_getElem.2 fun i j hi hj hlt e => ?_, fun v hv => ?_⟩
  ·rw [hge i hi, hge j hj] at e
   obtain ⟨k, _, e1, e2⟩ := hg i (by omega)
   obtain ⟨k', _, e1', e2'⟩ := hg j (by omega)
   have : k = k' := by omega
   subst this; omega
  ·obtain ⟨i, hi, e⟩ := List.getElem_of_mem hv
   rw [hge i hi] at e
   obtain ⟨k, hk, _, e2⟩ := hg i (by omega)
   omega
 refine ⟨hP, fun i hi => ?_⟩
 obtain ⟨k, hk, e1, e2⟩ := hg i hi
 rw [cmpO_get hP hi, e2, Int.toNat_natCast, e1]
theorem ls_iso {n : Int} {P Q o0 r1 r2 : List Int} (hP : okFr n P = true) (ho : PM n o0) (hQ : Q = reo P o0) (h1 : LST n P [] P r1) (h2 : LST n Q [] Q r2) : r1 = r2 := by
 subst hQ
 have hQo := reo_fr hP ho
 have hex : ∀ o : List Int, Ext [] o := fun o => rfl
 obtain ⟨hpm, hid⟩ := toF_pm ho
 have hback : reo (reo P o0) (toF o0 o0.length) = P := by
  rw [reo_reoF hP ho hpm]; exact reo_id hP (cmpO_pm ho hpm) hid
 have f : ∀ {X r : List Int}, okFr n X = true → LST n X [] X r → ∃ o, PM n o ∧ r = reo X o := fun {X r} hX hr => by
  rcases hr.1 with e | ⟨⟨o, ho, e⟩, _⟩
  ·exact ⟨_, idP_pm n, by rw [e, reo_id hX (idP_pm n) fun i hi => idP_get hi]⟩
  ·exact ⟨o, ho, e⟩
 obtain ⟨a, ha, ea⟩ := f hP h1
 obtain ⟨b, hb, eb⟩ := f hQo h2
 refine lt_tri (fun q => ?_) (fun q => ?_)
 ·refine h2.2 (cmpO (toF o0 o0.length) a) (cmpO_pm hpm ha) (hex _) ?_
  rw [← reo_reoF hQo hpm ha, hback, ← ea]; exact q
 ·refine h1.2 (cmpO o0 b) (cmpO_pm ho hb) (hex _) ?_
  rw [← reo_reoF hP ho hb, ← eb]; exact q
theorem ls_uniq {n : Int} {P r1 r2 : List Int} (hP : okFr n P = true) (h1 : LST n P [] P r1) (h2 : LST n P [] P r2) : r1 = r2 :=
 ls_iso hP (idP_pm n) (reo_id hP (idP_pm n) fun i hi => idP_get hi).symm h1 h2
noncomputable def lfR (n : Int) (xs : List Int) : List Int := Classical.epsilon fun r => LST n xs [] xs r
theorem lfR_ok {n : Int} {xs r : List Int} (h : LST n xs [] xs r) : LST n xs [] xs (lfR n xs) := Classical.epsilon_spec (p := fun r => LST n xs [] xs r) ⟨r, h⟩
theorem lfR_eq {n : Int} {xs r : List Int} (hF : okFr n xs = true) (h : LST n xs [] xs r) : r = lfR n xs := ls_uniq hF h (lfR_ok h)

theorem ls_minL (f : List Int → List Int) (b : List Int) : ∀ l : List (List Int), ∃ r, (r = b ∨ (∃ o ∈ l, r = f o) ∧ ltL r b) ∧ ∀ o ∈ l, ¬ ltL (f o) r
 | [] => ⟨b, .inl rfl, fun _ h => by cases h⟩
 | o :: l => by
  obtain ⟨r, h1, h2⟩ := ls_minL f b l
  by_cases e : ltL (f o) r
  ·refine ⟨f o, .inr ⟨⟨o, List.mem_cons_self .., rfl⟩, ?_⟩, fun o' ho' => ?_⟩
   ·rcases h1 with rfl | ⟨_, h⟩
    ·exact e
    ·exact lt_trans' e h
   ·rcases List.mem_cons.1 ho' with rfl | ho'
    ·exact lt_irr _
    ·exact fun q => h2 o' ho' (lt_trans' q e)
  ·refine ⟨r, h1.imp id fun ⟨⟨o', ho', e'⟩, h⟩ => ⟨⟨o', List.mem_cons_of_mem _ ho', e'⟩, h⟩, fun o' ho' => ?_⟩
   rcases List.mem_cons.1 ho' with rfl | ho'
   ·exact e
   ·exact h2 o' ho'

def cmpF (a b : List Int) : Int := if cmpI a.length b.length = 0 then cmpL a b else cmpI a.length b.length
def ltF (a b : List Int) : Prop := cmpF a b < 0
instance (a b : List Int) : Decidable (ltF a b) := by unfold ltF; infer_instance
theorem cmpF_neg (a b : List Int) : cmpF b a = - cmpF a b := by
 unfold cmpF
 rw [cmpI_neg a.length b.length, cmpL_neg a b]
 split <;> split <;> omega
theorem cmpF_zero {a b : List Int} (h : cmpF a b = 0) : a = b := by
 unfold cmpF at h
 split at h
 ·exact cmpL_zero h
 ·rename_i e; exact absurd h e
theorem cmpL_self : ∀ a : List Int, cmpL a a = 0
 | [] => rfl
 | x :: a => by rw [cmpL, if_pos (cmpI_eq.2 rfl), cmpL_self a]
theorem cmpF_self (a : List Int) : cmpF a a = 0 := by rw [cmpF, if_pos (cmpI_eq.2 rfl), cmpL_self]
theorem ltF_irr (a : List Int) : ¬ ltF a a := by unfold ltF; rw [cmpF_self]; omega
theorem ltF_iff {a b : List Int} : ltF a b ↔ a.length < b.length ∨ (a.length = b.length ∧ ltL a b) := by
 unfold ltF cmpF ltL
 by_cases e : cmpI a.length b.length = 0
 ·have := cmpI_eq.1 e
  rw [if_pos e]
  exact ⟨fun h => .inr ⟨by omega, h⟩, fun h => h.elim (fun h => absurd h (by omega)) (fun h => h.2)⟩
 ·have h1 : ¬ ((a.length : Int) = b.length) := fun h => e (cmpI_eq.2 h)
  rw [if_neg e, cmpI_lt]
  exact ⟨fun h => .inl (by omega), fun h => h.elim (fun h => by omega) (fun h => absurd h.1 (by omega))⟩
theorem ltF_trans {a b c : List Int} (h1 : ltF a b) (h2 : ltF b c) : ltF a c := by
 rw [ltF_iff] at h1 h2 ⊢
 rcases h1 with h1 | ⟨h1, h1'⟩
 ·rcases h2 with h2 | ⟨h2, _⟩
  ·exact .inl (by omega)
  ·exact .inl (by omega)
 ·rcases h2 with h2 | ⟨h2, h2'⟩
  ·exact .inl (by omega)
  ·exact .inr ⟨by omega, lt_trans' h1' h2'⟩
theorem ltF_tri {a b : List Int} (h1 : ¬ ltF a b) (h2 : ¬ ltF b a) : a = b := by
 refine cmpF_zero ?_
 have := cmpF_neg a b
 unfold ltF at h1 h2; omega
theorem srt_uniq : ∀ {l m : List (List Int)}, l.Pairwise ltF → m.Pairwise ltF → (∀ r, r ∈ l ↔ r ∈ m) → l = m
 | [], [], _, _, _ => rfl
 | [], b :: m, _, _, h => by simpa using (h b).2 (List.mem_cons_self ..)
 | a :: l, [], _, _, h => by simpa using (h a).1 (List.mem_cons_self ..)
 | a :: l, b :: m, hl, hm, h => by
  rw [List.pairwise_cons] at hl hm
  have e : a = b := by
   rcases List.mem_cons.1 ((h a).1 (List.mem_cons_self ..)) with e | e1
   ·exact e
   ·rcases List.mem_cons.1 ((h b).2 (List.mem_cons_self ..)) with e | e2
    ·exact e.symm
    ·exact absurd (ltF_trans (hm.1 a e1) (hl.1 b e2)) (ltF_irr _)
  subst e
  refine congrArg (a :: ·) (srt_uniq hl.2 hm.2 fun r => ⟨fun hr => ?_, fun hr => ?_⟩)
  ·rcases List.mem_cons.1 ((h r).1 (List.mem_cons_of_mem _ hr)) with rfl | h1
   ·exact absurd (hl.1 _ hr) (ltF_irr _)
   ·exact h1
  ·rcases List.mem_cons.1 ((h r).2 (List.mem_cons_of_mem _ hr)) with rfl | h1
   ·exact absurd (hm.1 _ hr) (ltF_irr _)
   ·exact h1

theorem lvl_all : ∀ (x : Nat) (X : List Int), X.length = x → clsB X = true → X ∈ lvl x
 | 0, X, h, _ => by
  have : X = [] := List.eq_nil_of_length_eq_zero h
  subst this; simp [lvl]
 | x + 1, X, h, hc => by
  obtain ⟨Y, v, rfl⟩ : ∃ Y v, X = Y ++ [v] := ⟨X.dropLast, X.getLast (by rintro rfl; simp at h), (List.dropLast_concat_getLast _).symm⟩
  simp only [List.length_append, List.length_singleton] at h
  have h0 : ∀ i : Nat, i < Y.length → 0 ≤ Y.getD i 0 ∧ Y.getD i 0 ≤ nxt Y i := fun i hi => by
   have := clsB_iff.1 hc i (by simp; omega)
   rwa [ri_gl hi, nxt_app Y [v] i (by omega)] at this
  have hY : clsB Y = true := clsB_iff.2 h0
  have hv := clsB_iff.1 hc Y.length (by simp)
  rw [snoc_at, nxt_app Y [v] Y.length (Nat.le_refl _)] at hv
  have e := top_nxt hY _ (Nat.le_refl Y.length)
  have hr := nxt_rng Y Y.length
  rw [lvl, List.mem_flatMap]
  refine ⟨Y, lvl_all x Y (by omega) hY, ?_⟩
  simp only [kids, kidsI, List.mem_map, List.mem_range]
  exact ⟨v.toNat, by omega, by rw [Int.toNat_of_nonneg hv.1]⟩
theorem cgs_iff {P c : List Int} {d : Nat} : c ∈ cgs P d [] 0 ↔ c.length = d ∧ clsB c = true ∧ corB P c = true := by
 rw [cgs, List.mem_filter, ← lvl_dfs]
 constructor
 ·rintro ⟨h1, h2⟩
  have := lvl_mem d c h1
  exact ⟨this.1, this.2, h2⟩
 ·rintro ⟨h1, h2, h3⟩
  exact ⟨lvl_all d c h1 h2, h3⟩
theorem root_iff {m : Int} {q : List Int} (hF : okFr m q = true) : 0 ≤ rootX m q ↔ ∃ r : Nat, (r : Int) < m ∧ ∀ b : Nat, (b : Int) < m → tb (q.getD r 0) b = true := by
 obtain ⟨h0, h8, hl, hr⟩ := okFr_rel hF
 have hfull := inM_full (n := m.toNat) (by omega)
 have htb := tb_full (n := m.toNat) (by omega)
 rw [show ((m.toNat : Nat) : Int) = m by omega] at hfull htb
 rw [rootX, fidxI_any (Int.le_refl 0), List.any_eq_true]
 constructor
 ·rintro ⟨v, hv, e⟩
  obtain ⟨r, hr2, rfl⟩ := List.getElem_of_mem hv
  have e := of_decide_eq_true e
  refine ⟨r, by omega, fun b hb => ?_⟩
  rw [List.getD_eq_getElem?_getD, List.getElem?_eq_getElem hr2, Option.getD_some, e, htb]
  simp; omega
 ·rintro ⟨r, h1, h2⟩
  refine ⟨q.getD r 0, ri_gt (by omega), decide_eq_true ?_⟩
  refine bits_eq (N := m.toNat) (hr.2 r (by omega)) hfull fun b hb => ?_
  rw [htb, h2 b (by omega)]
  simp; omega
noncomputable def lfQ (xs : List Int) (U : Int) (c : List Int) : List Int := lfR (nxt c c.length) (quoI (prt xs (mem U)) c c.length)
def rtB (xs : List Int) (U : Int) (c : List Int) : Bool := decide (0 ≤ rootX (nxt c c.length) (quoI (prt xs (mem U)) c c.length))
noncomputable def qsX (xs : List Int) (U : Int) : List (List Int) := (cgs (prt xs (mem U)) (mem U).length [] 0).map (lfQ xs U)
noncomputable def qsU (xs : List Int) (U : Int) : List (List Int) := ((cgs (prt xs (mem U)) (mem U).length [] 0).filter (rtB xs U)).map (lfQ xs U)
noncomputable def refW (n : Int) (xs : List Int) : List (List Int) := (List.range n.toNat).flatMap fun x => qsX xs (xs.getD x 0)
noncomputable def prgW (n : Int) (xs : List Int) : List (List Int) := (upL n xs).flatMap (qsU xs)
theorem ls_ex {n : Int} {xs : List Int} (hF : okFr n xs = true) (l : List (List Int)) (hl : ∀ o, PM n o → o ∈ l) (hl2 : ∀ o ∈ l, PM n o) : ∃ r, LST n xs [] xs r := by
 obtain ⟨r, h1, h2⟩ := ls_minL (reo xs) xs l
 exact ⟨r, h1.imp id fun ⟨⟨o, ho, e⟩, h⟩ => ⟨⟨o, hl2 o ho, e⟩, h⟩, fun o ho _ => h2 o (hl o ho)⟩
theorem lf_iso {n : Int} {P Q o0 : List Int} (hP : okFr n P = true) (ho : PM n o0) (hQ : Q = reo P o0) {r1 r2 : List Int} (h1 : LST n P [] P r1) (h2 : LST n Q [] Q r2) : lfR n P = lfR n Q :=
 ls_iso hP ho hQ (lfR_ok h1) (lfR_ok h2)
section
variable {n : Int} {xs : List Int} (hP : okPo n xs = true) (hE : ∀ (m : Int) (q : List Int), okFr m q = true → ∃ r, LST m q [] q r)
include hP
theorem cg_qh {U : Int} {c : List Int} (hU : InM n.toNat U) (h : c ∈ cgs (prt xs (mem U)) (mem U).length [] 0) : QH (prt xs (mem U)) c ∧ corB (prt xs (mem U)) c = true ∧ clsB c = true ∧ c.length = (mem U).length := by
 obtain ⟨h1, h2, h3⟩ := cgs_iff.1 h
 exact ⟨qh_of (ri_part hP hU) (by omega) h2, h3, h2, h1⟩
include hE
theorem ri_same (r : List Int) : r ∈ prgW n xs ↔ r ∈ refW n xs := by
 have hup : ∀ m : Int, m ∈ upL n xs ↔ InM n.toNat m ∧ ∀ i j : Nat, tb m i = true → tb (xs.getD i 0) j = true → tb m j = true := fun m => by
  have := up_iff hP (m := m)
  rwa [upR, if_pos hP] at this
 simp only [prgW, refW, List.mem_flatMap, qsU, qsX, List.mem_map, List.mem_filter, List.mem_range]
 constructor
 ·rintro ⟨U, hU, c, ⟨hc, hr⟩, rfl⟩
  obtain ⟨hU1, hU2⟩ := (hup U).1 hU
  obtain ⟨hQ, h3, h2, h1⟩ := cg_qh hP hU1 hc
  have hF := ri_qfr hQ
  obtain ⟨r, hr1, hr2⟩ := (root_iff hF).1 (of_decide_eq_true hr)
  obtain ⟨x, hx, c', e1, e2, e3, e4, o, ho, e5⟩ := ri_sub hP hU1 hU2 h1 h2 h3 hr1 hr2
  refine ⟨x, hx, c', cgs_iff.2 ⟨e1, e2, e3⟩, ?_⟩
  obtain ⟨r1, k1⟩ := hE _ _ hF
  have hF2 := reo_fr hF ho
  obtain ⟨r2, k2⟩ := hE _ _ hF2
  unfold lfQ
  rw [e4, e5]
  exact (lf_iso hF ho rfl k1 k2).symm
 ·rintro ⟨x, hx, c, hc, rfl⟩
  obtain ⟨hU1, hU2⟩ := ri_up hP hx
  obtain ⟨hQ, h3, h2, h1⟩ := cg_qh hP hU1 hc
  exact ⟨xs.getD x 0, (hup _).2 ⟨hU1, hU2⟩, c, ⟨hc, decide_eq_true ((root_iff (ri_qfr hQ)).2 (ri_sup hP hx h1 h2 h3))⟩, rfl⟩
end
end Go.Proofs.YtehbliocfpppoaaGreat

/-! Least forms by the reference: all orders, rows compared. -/
namespace Go.Proofs.YtehbliocfpppoaaGreat
open Go.RowKit Go.Abs
theorem sqzG_bits {N R : Nat} {L : List Int} {m : Int} (hN : N ≤ 61) (hR : R ≤ 61) (hm : InM N m) (hL : ∀ j, j < L.length → 0 ≤ L.getD j 0 ∧ L.getD j 0 < (N : Int)) : ∀ t, t ≤ L.length → t ≤ R → ∀ k, tb (sqz L m t) k = true ↔ k < t ∧ tb m (L.getD k 0).toNat = true
 | 0, _, _, k => by simp [sqz, tb_zero]
 | t + 1, ht, hr, k => by
  have ih := sqzG_bits hN hR hm hL t (by omega) (by omega) k
  have hl := hL t (by omega)
  have h1 : L.getD t 0 = ((L.getD t 0).toNat : Int) := by omega
  have hb : band (shr64 m (L.getD t 0)) 1 = 1 ↔ tb m (L.getD t 0).toNat = true := by
   rw [h1]; exact has_tb hN hm (by omega)
  rw [sqz]
  split
  ·rename_i h
   rw [tb_bor (n := R) hR (inM_mono (n' := R) (by omega) (sqz_ok (N := t) (by omega) t (Nat.le_refl _))) (inM_one hR (by omega)), Bool.or_eq_true, ih, tb_one (by omega), decide_eq_true_iff]
   constructor
   ·rintro (⟨a, b⟩ | rfl)
    ·exact ⟨by omega, b⟩
    ·exact ⟨by omega, hb.1 h⟩
   ·rintro ⟨a, b⟩
    by_cases e : k = t
    ·exact .inr e.symm
    ·exact .inl ⟨by omega, b⟩
  ·rename_i h
   rw [ih]
   constructor
   ·exact fun ⟨a, b⟩ => ⟨by omega, b⟩
   ·rintro ⟨a, b⟩
    refine ⟨?_, b⟩
    by_cases e : k = t
    ·subst e; exact absurd (hb.2 b) h
    ·omega
theorem prt_reo {n : Int} {a o : List Int} (hF : okFr n a = true) (h : PM n o) : prt a o = reo a o := by
 obtain ⟨h0, h8, hl, hr⟩ := okFr_rel hF
 refine rowN_ext (N := n.toNat) (by rw [prt_len, h.1]) (by rw [reo_len, h.1]) fun i hi => ?_
 have hg := pm_get h hi
 rw [prt_get (by rw [h.1]; exact hi)]
 refine bits_eq (N := n.toNat) (by rw [h.1]; exact sqz_ok (by omega) _ (Nat.le_refl _)) (reo_bits hF h hi).1 fun k hk => ?_
 rw [(reo_bits hF h hi).2 k, sqzG_bits (N := n.toNat) (R := n.toNat) (by omega) (by omega) (hr.2 _ (by omega)) (fun j hj => by have := pm_get h (i := j) (by rw [← h.1]; exact hj); omega) _ (Nat.le_refl _) (by rw [h.1]; exact Nat.le_refl _) k, h.1]

def ordK (X : List Int) (v : Nat) : List (List Int) := ((List.range v).filter fun (u : Nat) => !X.contains (u : Int)).map fun (u : Nat) => X ++ [(u : Int)]
def ordL (n : Nat) : Nat → List (List Int)
 | 0 => [[]]
 | k + 1 => (ordL n k).flatMap fun X => ordK X n
def ordI (n k i : Nat) : List (List Int) := ((ordL n k).take i).flatMap fun X => ordK X n
theorem ordK_y {X : List Int} {v : Nat} (h : X.contains (v : Int) = false) : ordK X v ++ [X ++ [(v : Int)]] = ordK X (v + 1) := by
 unfold ordK
 rw [List.range_succ, List.filter_append, List.filter_cons_of_pos (by rw [h]; rfl), List.map_append]; rfl
theorem ordK_n {X : List Int} {v : Nat} (h : X.contains (v : Int) = true) : ordK X v = ordK X (v + 1) := by
 unfold ordK
 rw [List.range_succ, List.filter_append, List.filter_cons_of_neg (by rw [h]; exact Bool.false_ne_true)]; simp
theorem ordK_len (X : List Int) (v : Nat) : (ordK X v).length ≤ v := by
 unfold ordK
 rw [List.length_map]
 exact Nat.le_trans (List.length_filter_le _ _) (by simp)
theorem ordI_s {n k i : Nat} (hi : i < (ordL n k).length) : ordI n k i ++ ordK ((ordL n k).getD i []) n = ordI n k (i + 1) := by
 unfold ordI
 rw [take_succ_getD _ [] hi, List.flatMap_append, List.flatMap_singleton]
theorem ordI_e {n k i : Nat} (hi : i = (ordL n k).length) : ordI n k i = ordL n (k + 1) := by rw [ordI, hi, List.take_length, ordL]
theorem flatL_len {α β : Type} (f : α → List β) (c : Nat) : ∀ l : List α, (∀ x ∈ l, (f x).length ≤ c) → (l.flatMap f).length ≤ l.length * c
 | [], _ => by simp
 | x :: l, h => by
  rw [List.flatMap_cons, List.length_append, List.length_cons, Nat.succ_mul]
  have := flatL_len f c l fun y hy => h y (List.mem_cons_of_mem _ hy)
  have := h x (List.mem_cons_self ..)
  omega
theorem ordL_le {n : Nat} (h8 : n ≤ 8) : ∀ k : Nat, (ordL n k).length ≤ pw8 k
 | 0 => Nat.le_refl 1
 | k + 1 => by
  rw [ordL, pw8]
  have h1 := flatL_len (fun X => ordK X n) 8 (ordL n k) fun X _ => Nat.le_trans (ordK_len X n) h8
  have := ordL_le h8 k
  omega
theorem ordL_len {n k : Nat} (h8 : n ≤ 8) (hk : k ≤ 8) : (ordL n k).length ≤ 16777216 := Nat.le_trans (ordL_le h8 k) (pw8_8 hk)
theorem ordI_len {n k i : Nat} (h8 : n ≤ 8) (hk : k < 8) : (ordI n k i).length ≤ 16777216 := by
 refine Nat.le_trans ?_ (ordL_len (k := k + 1) h8 (by omega))
 rw [ordL, ordI]
 have e : (ordL n k).flatMap (fun X => ordK X n) = ((ordL n k).take i).flatMap (fun X => ordK X n) ++ ((ordL n k).drop i).flatMap (fun X => ordK X n) := by rw [← List.flatMap_append, List.take_append_drop]
 rw [e, List.length_append]; omega
theorem ordL_iff {n : Nat} : ∀ {k : Nat} {o : List Int}, o ∈ ordL n k ↔ o.length = k ∧ o.Nodup ∧ ∀ v ∈ o, 0 ≤ v ∧ v < (n : Int)
 | 0, o => by
  rw [ordL, List.mem_singleton]
  constructor
  ·rintro rfl; exact ⟨rfl, List.nodup_nil, fun v h => by cases h⟩
  ·rintro ⟨h, _⟩; exact List.eq_nil_of_length_eq_zero h
 | k + 1, o => by
  rw [ordL, List.mem_flatMap]
  constructor
  ·rintro ⟨X, hX, ho⟩
   obtain ⟨h1, h2, h3⟩ := ordL_iff.1 hX
   unfold ordK at ho
   obtain ⟨u, hu, rfl⟩ := List.mem_map.1 ho
   obtain ⟨hu1, hu2⟩ := List.mem_filter.1 hu
   have hu1 := List.mem_range.1 hu1
   have hn : ¬ (u : Int) ∈ X := fun q => by
    rw [List.contains_iff_mem.2 q] at hu2; cases hu2
   refine ⟨by simp [h1], List.nodup_append.2 ⟨h2, by simp, fun a ha b hb e => ?_⟩, fun v hv => ?_⟩
   ·have : b = (u : Int) := by simpa using hb
    rw [e, this] at ha
    exact hn ha
   ·rcases List.mem_append.1 hv with hv | hv
    ·exact h3 v hv
    ·have : v = (u : Int) := by simpa using hv
     omega
  ·rintro ⟨h1, h2, h3⟩
   obtain ⟨Y, v, rfl⟩ : ∃ Y v, o = Y ++ [v] := ⟨o.dropLast, o.getLast (by rintro rfl; simp at h1), (List.dropLast_concat_getLast _).symm⟩
   simp only [List.length_append, List.length_singleton] at h1
   rw [List.nodup_append] at h2
   have hv := h3 v (by simp)
   refine ⟨Y, ordL_iff.2 ⟨by omega, h2.1, fun w hw => h3 w (List.mem_append.2 (.inl hw))⟩, ?_⟩
   unfold ordK
   refine List.mem_map.2 ⟨v.toNat, List.mem_filter.2 ⟨List.mem_range.2 (by omega), ?_⟩, by rw [Int.toNat_of_nonneg hv.1]⟩
   cases e : Y.contains ((v.toNat : Nat) : Int) with
   | false => rfl
   | true =>
    rw [Int.toNat_of_nonneg hv.1] at e
    exact absurd rfl (h2.2.2 v (List.contains_iff_mem.1 e) v (by simp))
theorem ord_pm {m : Nat} {o : List Int} : o ∈ ordL m m ↔ PM (m : Int) o := by
 rw [ordL_iff, PM, Int.toNat_natCast]
theorem ord_at {n k i : Nat} (hi : i < (ordL n k).length) : ((ordL n k).getD i []).length = k := (ordL_iff.1 (ri_gt hi)).1
theorem lf_ex (m : Int) (q : List Int) (hF : okFr m q = true) : ∃ r, LST m q [] q r := ls_ex hF (ordL m.toNat m.toNat) (fun _ ho => ord_pm.2 (by rwa [Int.toNat_of_nonneg (okFr_rel hF).1])) fun _ ho => by have := ord_pm.1 ho; rwa [Int.toNat_of_nonneg (okFr_rel hF).1] at this
def LSV (xs : List Int) (i : Nat) (b : List Int) : Prop := BST (xs.length : Int) xs xs b ∧ ∀ o ∈ (ordL xs.length xs.length).take i, ¬ ltL (reo xs o) b
theorem lsv_0 (xs : List Int) : LSV xs 0 xs := ⟨.inl rfl, fun o h => by simp at h⟩
theorem lsv_y {xs b : List Int} {i : Nat} (hF : okFr (xs.length : Int) xs = true) (h : LSV xs i b) (hi : i < (ordL xs.length xs.length).length) (hl : ltL (reo xs ((ordL xs.length xs.length).getD i [])) b) : LSV xs (i + 1) (reo xs ((ordL xs.length xs.length).getD i [])) := by
 refine ⟨bst_trans h.1 (.inr ⟨⟨_, ord_pm.1 (ri_gt hi), rfl⟩, hl⟩), fun o ho => ?_⟩
 rw [take_succ_getD _ [] hi] at ho
 rcases List.mem_append.1 ho with ho | ho
 ·exact fun q => h.2 o ho (lt_trans' q hl)
 ·have : o = (ordL xs.length xs.length).getD i [] := by simpa using ho
  rw [this]; exact lt_irr _
theorem lsv_n {xs b : List Int} {i : Nat} (h : LSV xs i b) (hi : i < (ordL xs.length xs.length).length) (hl : ¬ ltL (reo xs ((ordL xs.length xs.length).getD i [])) b) : LSV xs (i + 1) b := by
 refine ⟨h.1, fun o ho => ?_⟩
 rw [take_succ_getD _ [] hi] at ho
 rcases List.mem_append.1 ho with ho | ho
 ·exact h.2 o ho
 ·have : o = (ordL xs.length xs.length).getD i [] := by simpa using ho
  rw [this]; exact hl
theorem lsv_end {xs b : List Int} {i : Nat} (hF : okFr (xs.length : Int) xs = true) (h : LSV xs i b) (hi : i = (ordL xs.length xs.length).length) : b = lfR (xs.length : Int) xs :=
 lfR_eq hF ⟨h.1, fun o ho _ => h.2 o (by rw [hi, List.take_length]; exact ord_pm.2 ho)⟩
theorem lsv_len {xs b : List Int} {i : Nat} (hF : okFr (xs.length : Int) xs = true) (h : LSV xs i b) : b.length = xs.length := by
 rcases h.1 with rfl | ⟨⟨o, ho, e⟩, _⟩
 ·rfl
 ·have := ho.1
  have := (okFr_rel hF).1
  rw [e, reo_len]; omega
theorem lfR_len {n : Int} {xs : List Int} (hF : okFr n xs = true) : ((lfR n xs).length : Int) = n := by
 obtain ⟨r, hr⟩ := lf_ex n xs hF
 have hl := (okFr_rel hF).2.2.1
 rcases (lfR_ok hr).1 with e | ⟨⟨o, ho, e⟩, _⟩
 ·rw [e]; exact hl
 ·have := ho.1
  have := (okFr_rel hF).1
  rw [e, reo_len]; omega
def ltX (a : Int) (xs : List Int) (b : Int) (ys : List Int) : Prop := if a = b then ltL xs ys else a < b
instance (a : Int) (xs : List Int) (b : Int) (ys : List Int) : Decidable (ltX a xs b ys) := by unfold ltX; infer_instance
theorem ltX_1 {a b : Int} {xs ys : List Int} (h : ¬ a = b) : a < b ↔ ltX a xs b ys := by rw [ltX, if_neg h]
theorem ltX_2 {a b : Int} {xs ys : List Int} (h : a = b) : ltL xs ys ↔ ltX a xs b ys := by rw [ltX, if_pos h]
theorem ltX_F {xs ys : List Int} : ltX xs.length xs ys.length ys ↔ ltF xs ys := by
 rw [ltF_iff, ltX]
 split
 ·exact ⟨fun q => .inr ⟨by omega, q⟩, fun q => q.elim (fun q => absurd q (by omega)) (fun q => q.2)⟩
 ·exact ⟨fun q => .inl (by omega), fun q => q.elim (fun q => by omega) (fun q => absurd q.1 (by omega))⟩
theorem has_no {l : List Int} {v : Int} {i : Nat} (hi : l.length ≤ i) (h : ∀ j : Nat, j < i → ¬ l.getD j 0 = v) : false = l.contains v := by
 cases e : l.contains v with
 | false => rfl
 | true =>
  obtain ⟨j, hj, ej⟩ := List.getElem_of_mem (List.contains_iff_mem.1 e)
  exact absurd (by rw [List.getD_eq_getElem?_getD, List.getElem?_eq_getElem hj]; exact ej) (h j (by omega))
theorem has_yes {l : List Int} {v : Int} {i : Nat} (hi : i < l.length) (h : l.getD i 0 = v) : true = l.contains v := (List.contains_iff_mem.2 (by rw [← h]; exact ri_gt hi)).symm
theorem lt_ne' {a b : List Int} {i : Nat} (h : cmpL a b = cmpL (a.drop i) (b.drop i)) (ha : i < a.length) (hb : i < b.length) (h0 : ¬ a.getD i 0 = b.getD i 0) : (a.getD i 0 < b.getD i 0) ↔ ltL a b := by
 have := cmp_ne h ha hb rfl (fun e => h0 (cmpI_eq.1 e))
 unfold ltL
 rw [← this]
 exact cmpI_lt.symm
theorem lt_end' {a b : List Int} {i : Nat} (h : cmpL a b = cmpL (a.drop i) (b.drop i)) (hi : i ≤ a.length) (hi2 : i ≤ b.length) (hc : ¬ (i < a.length ∧ i < b.length)) : (a.length < b.length) ↔ ltL a b := by
 unfold ltL
 rcases Nat.lt_or_ge i a.length with h1 | h1
 ·have := cmp_gt h h1 (by omega)
  omega
 ·rcases Nat.lt_or_ge i b.length with h2 | h2
  ·have := cmp_lt h (by omega) h2
   omega
  ·have := cmp_end h (by omega) h2
   omega
theorem squeeze_c (m k : Int) (hk : InM 61 k) : CallA Tryz.prog 167 [AI m, AI k] (AI (sqz (mem k) m (mem k).length)) := by
 have hml := mem_le k
 have hjr0 := fun (t : Nat) (h : t < (mem k).length) => mem_lt' (N := 61) (by omega) hk h
 refine CallA.of Tryz.func167 rfl (by kernel_rfl) (R.go 12 (k20 true (membersOf_c k hk).frz (R.go 4 (k21 ((fun | (t, r) => (⟨(frm 25 [(0, AI m), (5, AI r), (9, LI (mem k)), (10, AI ((mem k).length)), (11, AI (t : Int))]), []⟩ : St) : Nat × Int → St)) (fun | (t, r) => (t ≤ (mem k).length) ∧ (r = sqz (mem k) m t)) (fun | (t, r) => (mem k).length - t) (0, 0) [0, 5, 9, 10, 11] none ⟨(by omega), (by rfl)⟩ ?_))))
 rintro ⟨t, r⟩ ⟨h4_1, rfl⟩ R1 N2
 have hjr := hjr0 t
 refine R.go 5 (k9 ((t : Int) < ((mem k).length : Int)) (fun c5 => ?_) (fun c5 => ?_))
 ·refine R.go 6 (k15 eI (mem k) 0 t (t : Int) eI_len ?_)
  have hjw := hjr (by omega)
  refine R.go 8 (k20 true (has_c m ((mem k).getD t 0) (by omega)) (R.go 1 (k9 (band (shr64 m ((mem k).getD t 0)) 1 = 1) (fun c6 => ?_) (fun c6 => ?_))))
  ·refine R.go 3 (R.shl 1 (t : Int) (by kernel_rfl) (by omega) (by kernel_rfl) (R.go 5 (k8 ((t : Int) + 1) ?_)))
   exact R.go 2 (k22 R1 (N2 (t + 1, bor (sqz (mem k) m t) (shl64 1 (t : Int))) [0, 5, 9, 10, 11] none _ (by kernel_rfl) (by kernel_rfl) ⟨(by omega), (by first | exact sqz_yes (by assumption) | exact sqz_no (by assumption))⟩ (by show ((mem k).length - (t + 1)) < ((mem k).length - t); omega)))
  refine R.go 3 (k8 ((t : Int) + 1) ?_)
  exact R.go 2 (k22 R1 (N2 (t + 1, sqz (mem k) m t) [0, 5, 9, 10, 11] none _ (by kernel_rfl) (by kernel_rfl) ⟨(by omega), (by first | exact sqz_yes (by assumption) | exact sqz_no (by assumption))⟩ (by show ((mem k).length - (t + 1)) < ((mem k).length - t); omega)))
 exact R.go 6 (k23 (AI (sqz (mem k) m t)) (by first | (rw [show t = (mem k).length by omega]) | (exfalso; omega)))
theorem l05Squeeze_c (L : List Int) (m : Int) (hL : ∀ j : Nat, j < L.length → 0 ≤ L.getD j 0 ∧ L.getD j 0 < ((61 : Nat) : Int)) (hl : L.length ≤ 62) : CallA Tryz.prog 140 [LI L, AI m] (AI (sqz L m L.length)) := by
 have hjr0 := hL
 refine CallA.of Tryz.func140 rfl (by kernel_rfl) (R.go 14 (k21 ((fun | (t, r) => (⟨(frm 24 [(0, LI L), (1, AI m), (5, AI r), (6, AI (t : Int))]), []⟩ : St) : Nat × Int → St)) (fun | (t, r) => (t ≤ (L).length) ∧ (r = sqz (L) m t)) (fun | (t, r) => (L).length - t) (0, 0) [0, 1, 5, 6] none ⟨(by omega), (by rfl)⟩ ?_))
 rintro ⟨t, r⟩ ⟨h4_1, rfl⟩ R1 N2
 have hjr := hjr0 t
 refine R.go 8 (k9 ((t : Int) < (L.length : Int)) (fun c5 => ?_) (fun c5 => ?_))
 ·have hjw := hjr (by omega)
  refine R.go 8 (k15 eI L 0 t (t : Int) eI_len (R.go 1 (k20 true (l01Bit_c m (L.getD t 0) (by omega) (by omega)) (R.go 1 (k9 (band (shr64 m (L.getD t 0)) 1 = 1) (fun c6 => ?_) (fun c6 => ?_))))))
  ·refine R.go 3 (k20 true (l01One_c (t : Int) (by omega) (by omega)) (R.go 6 (k8 ((t : Int) + 1) ?_)))
   exact R.go 2 (k22 R1 (N2 (t + 1, bor (sqz (L) m t) (shl64 1 (t : Int))) [0, 1, 5, 6] none _ (by kernel_rfl) (by kernel_rfl) ⟨(by omega), (by first | exact sqz_yes (by assumption) | exact sqz_no (by assumption))⟩ (by show ((L).length - (t + 1)) < ((L).length - t); omega)))
  refine R.go 4 (k8 ((t : Int) + 1) ?_)
  exact R.go 2 (k22 R1 (N2 (t + 1, sqz (L) m t) [0, 1, 5, 6] none _ (by kernel_rfl) (by kernel_rfl) ⟨(by omega), (by first | exact sqz_yes (by assumption) | exact sqz_no (by assumption))⟩ (by show ((L).length - (t + 1)) < ((L).length - t); omega)))
 exact R.go 6 (k23 (AI (sqz (L) m t)) (by first | (rw [show t = L.length by omega]) | (exfalso; omega)))
theorem partOn_c (n : Int) (xs : List Int) (k : Int) (hP : okFr n xs = true) (hk : InM n.toNat k) : CallA Tryz.prog 84 [LI xs, AI k] (ownA eI 2 1 (prt xs (mem k))) := by
 have hp1 := okFr_rel hP
 have hb : 0 ≤ n ∧ n ≤ 8 ∧ (xs.length : Int) = n := ⟨hp1.1, hp1.2.1, hp1.2.2.1⟩
 have hk61 : InM 61 k := inM_mono (n' := 61) (by omega) hk
 have hml := mem_lenN (N := n.toNat) (by omega) hk
 have hjr0 := fun (t : Nat) (h : t < (mem k).length) => mem_lt' (N := 61) (by omega) hk61 h
 have hjr1 := fun (t : Nat) (h : t < (mem k).length) => mem_lt' (N := n.toNat) (by omega) hk h
 refine CallA.of Tryz.func84 rfl (by kernel_rfl) (R.go 12 (k20 true (membersOf_c k hk61).frz (R.go 4 (R.nil 5 2 1 (by kernel_rfl) (k21 ((fun | (t, out) => (⟨(frm 26 [(0, LI xs), (1, AI k), (5, .ref 0), (9, LI (mem k)), (10, AI ((mem k).length)), (11, AI (t : Int))]), [rowA eI 2 1 out]⟩ : St) : Nat × (List Int) → St)) (fun | (t, out) => (t ≤ (mem k).length) ∧ (out = (List.take t (mem k)).map fun v => sqz (mem k) (xs.getD v.toNat 0) (mem k).length)) (fun | (t, out) => (mem k).length - t) (0, []) [0, 1, 5, 9, 10, 11] none ⟨(by omega), (by rfl)⟩ ?_)))))
 rintro ⟨t, out⟩ ⟨h4_1, rfl⟩ R1 N2
 have hol : ((List.take t (mem k)).map fun v => sqz (mem k) (xs.getD v.toNat 0) (mem k).length).length = t := by simp; omega
 have hjr := hjr1 t
 refine R.go 5 (k9 ((t : Int) < ((mem k).length : Int)) (fun c5 => ?_) (fun c5 => ?_))
 ·refine R.go 5 (k15 eI (mem k) 0 t (t : Int) eI_len ?_)
  have hjw := hjr (by omega)
  refine R.go 7 (k15 eI xs 0 ((((mem k).getD t 0)).toNat) ((mem k).getD t 0) eI_len ?_ (hji := by omega))
  refine R.go 2 (k20 true (squeeze_c (xs.getD ((((mem k).getD t 0)).toNat) 0) k hk61) (R.go 1 (k19 eI ((List.take t (mem k)).map fun v => sqz (mem k) (xs.getD v.toNat 0) (mem k).length) [sqz (mem k) (xs.getD ((((mem k).getD t 0)).toNat) 0) (mem k).length] 0 2 1 8 eI_one (R.go 4 (k8 ((t : Int) + 1) ?_)))))
  exact R.go 2 (k22 R1 (N2 (t + 1, ((List.take t (mem k)).map fun v => sqz (mem k) (xs.getD v.toNat 0) (mem k).length) ++ [sqz (mem k) (xs.getD ((((mem k).getD t 0)).toNat) 0) (mem k).length]) [0, 1, 5, 9, 10, 11] (some [0]) _ (by kernel_rfl) (by kernel_rfl) ⟨(by omega), (by exact prt_step (by omega))⟩ (by show ((mem k).length - (t + 1)) < ((mem k).length - t); omega)))
 exact R.go 6 (k23 (ownA eI 2 1 ((List.take t (mem k)).map fun v => sqz (mem k) (xs.getD v.toNat 0) (mem k).length)) (by first | (rw [prt_end (by omega)]) | (exfalso; omega)))
theorem posetOfP_c (xs : List Int) : CallA Tryz.prog 33 [LI xs] (.agg [AI xs.length, LI xs]) := by
 refine CallA.of Tryz.func33 rfl (by kernel_rfl) (R.go 7 (k20 true (size_c xs) ?_))
 exact R.go 4 (k23 (.agg [AI xs.length, LI xs]) (by rfl))
theorem pOn_c (n : Int) (xs : List Int) (k : Int) (hP : okFr n xs = true) (hk : InM n.toNat k) : CallA Tryz.prog 30 [.agg [AI n, LI xs], AI k] (.agg [AI ((mem k).length), LI (prt xs (mem k))]) := by
 refine CallA.of Tryz.func30 rfl (by kernel_rfl) (R.go 10 (k20 true (partOn_c n xs k hP hk).frz (k20 true (posetOfP_c (prt xs (mem k))) ?_)))
 exact R.go 2 (k23 (.agg [AI ((prt xs (mem k)).length), LI (prt xs (mem k))]) (by first | (rw [prt_len]) | (exfalso; omega)))
theorem l16Part_c (n : Int) (xs : List Int) (k : Int) (hP : okFr n xs = true) (hk : InM n.toNat k) : CallA Tryz.prog 73 [.agg [AI n, LI xs], AI k] (.agg [AI ((mem k).length), ownA eI 2 1 (prt xs (mem k))]) := by
 have hp1 := okFr_rel hP
 have hb : 0 ≤ n ∧ n ≤ 8 ∧ (xs.length : Int) = n := ⟨hp1.1, hp1.2.1, hp1.2.2.1⟩
 have hk61 : InM 61 k := inM_mono (n' := 61) (by omega) hk
 have hml := mem_lenN (N := n.toNat) (by omega) hk
 have hjr0 := fun (t : Nat) (h : t < (mem k).length) => mem_lt' (N := 61) (by omega) hk61 h
 have hjr1 := fun (t : Nat) (h : t < (mem k).length) => mem_lt' (N := n.toNat) (by omega) hk h
 refine CallA.of Tryz.func73 rfl (by kernel_rfl) (R.go 8 (k20 true (l01ListM_c k hk61).frz (R.go 10 (k21 ((fun | (t, out) => (⟨(frm 32 [(2, .ptr 0 0), (4, .ptr 1 0), (5, LI (mem k)), (6, .ref 2), (7, AI (t : Int))]), [.box 29 [AI n, LI xs], .box 29 [AI 0, .nil], rowA eI 2 1 out]⟩ : St) : Nat × (List Int) → St)) (fun | (t, out) => (t ≤ (mem k).length) ∧ (out = (List.take t (mem k)).map fun v => sqz (mem k) (xs.getD v.toNat 0) (mem k).length)) (fun | (t, out) => (mem k).length - t) (0, []) [2, 4, 5, 6, 7] none ⟨(by omega), (by rfl)⟩ ?_))))
 rintro ⟨t, out⟩ ⟨h4_1, rfl⟩ R1 N2
 have hol : ((List.take t (mem k)).map fun v => sqz (mem k) (xs.getD v.toNat 0) (mem k).length).length = t := by simp; omega
 have hjr := hjr1 t
 refine R.go 8 (k9 ((t : Int) < ((mem k).length : Int)) (fun c5 => ?_) (fun c5 => ?_))
 ·have hjw := hjr (by omega)
  refine R.go 10 (k15 eI (mem k) 0 t (t : Int) eI_len (R.go 1 (k15 eI xs 0 ((((mem k).getD t 0)).toNat) ((mem k).getD t 0) eI_len ?_ (hji := by omega))))
  refine R.go 1 (k20 true (l05Squeeze_c (mem k) (xs.getD ((((mem k).getD t 0)).toNat) 0) (by first | assumption | exact hjr0) (by first | omega | (simp <;> omega))) (R.go 1 (k19 eI ((List.take t (mem k)).map fun v => sqz (mem k) (xs.getD v.toNat 0) (mem k).length) [sqz (mem k) (xs.getD ((((mem k).getD t 0)).toNat) 0) (mem k).length] 2 2 1 8 eI_one (R.go 5 (k8 ((t : Int) + 1) ?_)))))
  exact R.go 2 (k22 R1 (N2 (t + 1, ((List.take t (mem k)).map fun v => sqz (mem k) (xs.getD v.toNat 0) (mem k).length) ++ [sqz (mem k) (xs.getD ((((mem k).getD t 0)).toNat) 0) (mem k).length]) [2, 4, 5, 6, 7] (some [0, 1, 2]) _ (by kernel_rfl) (by kernel_rfl) ⟨(by omega), (by exact prt_step (by omega))⟩ (by show ((mem k).length - (t + 1)) < ((mem k).length - t); omega)))
 refine R.go 4 (k20 false (l16Make_c ((List.take t (mem k)).map fun v => sqz (mem k) (xs.getD v.toNat 0) (mem k).length) (by first | omega | (simp <;> omega))) ?_ (hr := by simp [AV.closed, closedL, AI, ownA_closed eI_closed]))
 exact R.go 2 (k23 (.agg [AI (((List.take t (mem k)).map fun v => sqz (mem k) (xs.getD v.toNat 0) (mem k).length).length), ownA eI 2 1 ((List.take t (mem k)).map fun v => sqz (mem k) (xs.getD v.toNat 0) (mem k).length)]) (by first | (rw [prt_end (by omega), prt_len]) | (exfalso; omega)))
theorem l01Has_c (l : List Int) (v : Int) (hl : l.length ≤ 1000000000) : CallA Tryz.prog 203 [LI l, AI v] (.bool (l.contains v)) := by
 refine CallA.of Tryz.func203 rfl (by kernel_rfl) (R.go 10 (k21 (fun (i : Nat) => (⟨(frm 18 [(0, LI l), (1, AI v), (5, AI (i : Int))]), []⟩ : St)) (fun (i : Nat) => (i ≤ l.length) ∧ (∀ j : Nat, j < i → ¬ l.getD j 0 = v)) (fun (i : Nat) => l.length - i) 0 [0, 1, 5] none ⟨(by omega), (by exact fun j hj => absurd hj (by omega))⟩ ?_))
 rintro i ⟨h3_1, h3_2⟩ R1 N2
 refine R.go 8 (k9 ((i : Int) < (l.length : Int)) (fun c4 => ?_) (fun c4 => ?_))
 ·refine R.go 7 (k15 eI l 0 i (i : Int) eI_len (R.go 4 (k9 ((l.getD i 0) = v) (fun c5 => ?_) (fun c5 => ?_))))
  ·exact R.go 4 (k23 (.bool true) (by first | (apply congrArg AV.bool; first | exact has_yes (i := i) (by omega) (by assumption) | exact has_no (i := i) (by omega) (by assumption)) | (exfalso; omega)))
  refine R.go 4 (k8 ((i : Int) + 1) ?_)
  exact R.go 2 (k22 R1 (N2 (i + 1) [0, 1, 5] none _ (by kernel_rfl) (by kernel_rfl) ⟨(by omega), (by exact below1 (P := fun j => ¬ l.getD j 0 = v) (by assumption) (by assumption))⟩ (by show (l.length - (i + 1)) < (l.length - i); omega)))
 exact R.go 5 (k23 (.bool false) (by first | (apply congrArg AV.bool; first | exact has_yes (i := i) (by omega) (by assumption) | exact has_no (i := i) (by omega) (by assumption)) | (exfalso; omega)))
theorem l01Less_c (a b : List Int) (la : a.length ≤ 1000000000) (lb : b.length ≤ 1000000000) : CallA Tryz.prog 145 [LI a, LI b] (.bool (decide (ltL a b))) := by
 refine CallA.of Tryz.func145 rfl (by kernel_rfl) (R.go 10 (k21 (fun (i : Nat) => (⟨(frm 41 [(0, LI a), (1, LI b), (5, AI (i : Int))]), []⟩ : St)) (fun (i : Nat) => (i ≤ a.length) ∧ (i ≤ b.length) ∧ (cmpL a b = cmpL (a.drop i) (b.drop i))) (fun (i : Nat) => a.length - i) 0 [0, 1, 5] none ⟨(by omega), (by omega), (by rfl)⟩ ?_))
 rintro i ⟨h3_1, h3_2, h3_3⟩ R1 N2
 refine R.go 8 ?_
 by_cases c4 : (i : Int) < (a.length : Int)
 ·refine k12 true (dT c4) ?_
  iterate 3 refine R.go 1 (k12 true (dT c4) ?_)
  refine R.go 1 (k14 true (dT c4) (R.go 1 (k9 ((i : Int) < (b.length : Int)) (fun c5 => ?_) (fun c5 => ?_))))
  ·refine R.go 7 (k15 eI a 0 i (i : Int) eI_len (R.go 3 (k15 eI b 0 i (i : Int) eI_len (R.go 3 (k10 ((a.getD i 0) = (b.getD i 0)) (fun c6 => ?_) (fun c6 => ?_))))))
   ·refine R.go 4 (k15 eI a 0 i (i : Int) eI_len (R.go 3 (k15 eI b 0 i (i : Int) eI_len ?_)))
    exact R.go 4 (k23 (.bool (decide ((a.getD i 0) < (b.getD i 0)))) (by first | (apply congrArg AV.bool; first | exact decide_eq_decide.2 (lt_ne' (i := i) (by assumption) (by omega) (by omega) (by assumption)) | exact decide_eq_decide.2 ((show _ ↔ _ by omega).trans (lt_end' (i := i) (by assumption) (by omega) (by omega) (by omega)))) | (exfalso; omega)))
   refine R.go 4 (k8 ((i : Int) + 1) ?_)
   exact R.go 2 (k22 R1 (N2 (i + 1) [0, 1, 5] none _ (by kernel_rfl) (by kernel_rfl) ⟨(by omega), (by omega), (by exact cmp_eq (by assumption) (by omega) (by omega) (cmpI_eq.2 (by assumption)))⟩ (by show (a.length - (i + 1)) < (a.length - i); omega)))
  exact R.go 10 (k23 (.bool (decide ((a.length : Int) < (b.length : Int)))) (by first | (apply congrArg AV.bool; first | exact decide_eq_decide.2 (lt_ne' (i := i) (by assumption) (by omega) (by omega) (by assumption)) | exact decide_eq_decide.2 ((show _ ↔ _ by omega).trans (lt_end' (i := i) (by assumption) (by omega) (by omega) (by omega)))) | (exfalso; omega)))
 iterate 4 refine k13 true (dF c4) ?_
 refine k14 false (dF c4) ?_
 exact R.go 12 (k23 (.bool (decide ((a.length : Int) < (b.length : Int)))) (by first | (apply congrArg AV.bool; first | exact decide_eq_decide.2 (lt_ne' (i := i) (by assumption) (by omega) (by omega) (by assumption)) | exact decide_eq_decide.2 ((show _ ↔ _ by omega).trans (lt_end' (i := i) (by assumption) (by omega) (by omega) (by omega)))) | (exfalso; omega)))
theorem l05Renumber_c (n : Int) (xs o : List Int) (hF : okFr n xs = true) (ho : PM n o) : CallA Tryz.prog 144 [LI xs, LI o] (ownA eI 2 1 (reo xs o)) := by
 have hFr := okFr_rel hF
 have hb : 0 ≤ n ∧ n ≤ 8 ∧ (xs.length : Int) = n := ⟨hFr.1, hFr.2.1, hFr.2.2.1⟩
 have hol : o.length = n.toNat := ho.1
 have hgo := fun (i : Nat) (h : i < n.toNat) => (pm_get ho h).2
 have hL : ∀ j : Nat, j < o.length → 0 ≤ o.getD j 0 ∧ o.getD j 0 < ((61 : Nat) : Int) := fun j hj => by have := hgo j (by omega); omega
 refine CallA.of Tryz.func144 rfl (by kernel_rfl) (R.go 15 (k21 ((fun | (t, out) => (⟨(frm 27 [(0, LI xs), (1, LI o), (5, .ref 0), (6, AI (t : Int))]), [rowA eI 2 1 out]⟩ : St) : Nat × (List Int) → St)) (fun | (t, out) => (t ≤ o.length) ∧ (out = (List.take t o).map fun v => sqz o (xs.getD v.toNat 0) o.length)) (fun | (t, out) => o.length - t) (0, []) [0, 1, 5, 6] none ⟨(by omega), (by rfl)⟩ ?_))
 rintro ⟨t, out⟩ ⟨h4_1, rfl⟩ R1 N2
 have hkl : ((List.take t o).map fun v => sqz o (xs.getD v.toNat 0) o.length).length = t := by simp; omega
 have hgt := fun h : t < o.length => hgo t (by omega)
 refine R.go 8 (k9 ((t : Int) < (o.length : Int)) (fun c5 => ?_) (fun c5 => ?_))
 ·have hgw := hgt (by omega)
  refine R.go 9 (k15 eI o 0 t (t : Int) eI_len (R.go 1 (k15 eI xs 0 (((o.getD t 0)).toNat) (o.getD t 0) eI_len ?_ (hji := by omega))))
  refine R.go 1 (k20 true (l05Squeeze_c o (xs.getD (((o.getD t 0)).toNat) 0) hL (by first | omega | (simp <;> omega))) (R.go 1 (k19 eI ((List.take t o).map fun v => sqz o (xs.getD v.toNat 0) o.length) [sqz o (xs.getD (((o.getD t 0)).toNat) 0) o.length] 0 2 1 8 eI_one (R.go 5 (k8 ((t : Int) + 1) ?_)))))
  exact R.go 2 (k22 R1 (N2 (t + 1, ((List.take t o).map fun v => sqz o (xs.getD v.toNat 0) o.length) ++ [sqz o (xs.getD (((o.getD t 0)).toNat) 0) o.length]) [0, 1, 5, 6] (some [0]) _ (by kernel_rfl) (by kernel_rfl) ⟨(by omega), (by exact prt_step (by omega))⟩ (by show (o.length - (t + 1)) < (o.length - t); omega)))
 exact R.go 6 (k23 (ownA eI 2 1 ((List.take t o).map fun v => sqz o (xs.getD v.toNat 0) o.length)) (by first | (rw [prt_end (by omega), prt_reo hF ho]) | (exfalso; omega)))
theorem l05Orders_c (n : Nat) (h0 : n ≤ 8) : CallA Tryz.prog 143 [AI (n : Int)] (LLI (ordL n n)) := by
 refine CallA.of Tryz.func143 rfl (by kernel_rfl) (R.go 7 (k24 0 (R.go 6 (k24 1 (R.go 3 (k21 ((fun | (k, LL) => (⟨(frm 47 [(0, AI (n : Int)), (3, LLI LL), (4, AI (k : Int))]), []⟩ : St) : Nat × (List (List Int)) → St)) (fun | (k, LL) => (k ≤ n) ∧ (LL = ordL n k)) (fun | (k, LL) => n - k) (0, [[]]) [0, 3, 4] (some []) ⟨(by omega), (by rfl)⟩ ?_))))))
 rintro ⟨k, LL⟩ ⟨h4_1, rfl⟩ R1 N2
 have hll : (ordL n k).length ≤ 16777216 := ordL_len (by omega) (by omega)
 refine R.go 7 (k9 ((k : Int) < (n : Int)) (fun c5 => ?_) (fun c5 => ?_))
 ·refine R.go 14 (k21 ((fun | (i, N) => (⟨(frm 47 [(0, AI (n : Int)), (3, LLI (ordL n k)), (4, AI (k : Int)), (5, .ref 0), (6, AI (i : Int))]), [rowA eLI 22 1 N]⟩ : St) : Nat × (List (List Int)) → St)) (fun | (i, N) => (i ≤ (ordL n k).length) ∧ (N = ordI n k i)) (fun | (i, N) => (ordL n k).length - i) (0, []) [0, 3, 4, 5, 6] none ⟨(by omega), (by rfl)⟩ ?_)
  rintro ⟨i, N⟩ ⟨h9_1, rfl⟩ R6 N7
  have hnl := ordI_len (n := n) (k := k) (i := i) (by omega) (by omega)
  refine R.go 8 (k9 ((i : Int) < ((ordL n k).length : Int)) (fun c10 => ?_) (fun c10 => ?_))
  ·refine R.go 8 (k21 ((fun | (v, Q) => (⟨(frm 47 [(0, AI (n : Int)), (3, LLI (ordL n k)), (4, AI (k : Int)), (5, .ref 0), (6, AI (i : Int)), (7, AI (v : Int))]), [rowA eLI 22 1 Q]⟩ : St) : Nat × (List (List Int)) → St)) (fun | (v, Q) => (v ≤ n) ∧ (Q = ordI n k i ++ ordK ((ordL n k).getD i []) v)) (fun | (v, Q) => n - v) (0, (ordI n k i)) [0, 3, 4, 5, 6, 7] none ⟨(by omega), (by simp [ordK])⟩ ?_)
   rintro ⟨v, Q⟩ ⟨h14_1, rfl⟩ R11 N12
   have hql : (ordI n k i ++ ordK ((ordL n k).getD i []) v).length = (ordI n k i).length + (ordK ((ordL n k).getD i []) v).length := by rw [List.length_append]
   have hkl := ordK_len ((ordL n k).getD i []) v
   refine R.go 7 (k9 ((v : Int) < (n : Int)) (fun c15 => ?_) (fun c15 => ?_))
   ·have hla := ord_at (n := n) (k := k) (i := i) (by omega)
    refine R.go 7 (k15 eLI (ordL n k) [] i (i : Int) eLI_len (R.go 2 (k20 true (l01Has_c ((ordL n k).getD i []) (v : Int) (by first | omega | (simp only [List.length_append, List.length_cons, List.length_nil]; omega))) (R.go 2 (k25 (((ordL n k).getD i []).contains (v : Int)) (fun c16 => ?_) (fun c16 => ?_))))))
    ·refine R.go 4 (k15 eLI (ordL n k) [] i (i : Int) eLI_len (R.go 1 (k20 true (l01Own_c ((ordL n k).getD i []) (by first | omega | (simp only [List.length_append, List.length_cons, List.length_nil]; omega))) (R.go 2 (k19 eI ((ordL n k).getD i []) [(v : Int)] 1 2 1 8 eI_one ?_ (hb := by simp only [List.length_cons, List.length_nil]; omega))))))
     refine k24 1 (R.go 1 (k19 eLI (ordI n k i ++ ordK ((ordL n k).getD i []) v) [((ordL n k).getD i []) ++ [(v : Int)]] 0 22 1 24 eLI_one ?_ (hb := by simp only [List.length_cons, List.length_nil]; omega)))
     refine R.go 5 (k8 ((v : Int) + 1) ?_)
     exact R.go 2 (k22 R11 (N12 (v + 1, ordI n k i ++ ordK ((ordL n k).getD i []) v ++ [((ordL n k).getD i []) ++ [(v : Int)]]) [0, 3, 4, 5, 6, 7] (some [0]) _ (by kernel_rfl) (by kernel_rfl) ⟨(by omega), (by first | (rw [List.append_assoc, ordK_y (by assumption)]) | (rw [ordK_n (by assumption)]))⟩ (by show (n - (v + 1)) < (n - v); omega)))
    refine R.go 4 (k8 ((v : Int) + 1) ?_)
    exact R.go 2 (k22 R11 (N12 (v + 1, ordI n k i ++ ordK ((ordL n k).getD i []) v) [0, 3, 4, 5, 6, 7] none _ (by kernel_rfl) (by kernel_rfl) ⟨(by omega), (by first | (rw [List.append_assoc, ordK_y (by assumption)]) | (rw [ordK_n (by assumption)]))⟩ (by show (n - (v + 1)) < (n - v); omega)))
   refine R.go 4 (k8 ((i : Int) + 1) ?_)
   exact R.go 2 (k22 R6 (N7 (i + 1, ordI n k i ++ ordK ((ordL n k).getD i []) v) [0, 3, 4, 5, 6] none _ (by kernel_rfl) (by kernel_rfl) ⟨(by omega), (by rw [← ordI_s (by omega)]; exact congrArg (fun q => ordI n k i ++ ordK ((ordL n k).getD i []) q) (by omega))⟩ (by show ((ordL n k).length - (i + 1)) < ((ordL n k).length - i); omega)))
  refine R.go 2 (k24 0 (R.go 6 (k8 ((k : Int) + 1) ?_)))
  exact R.go 2 (k22 R1 (N2 (k + 1, ordI n k i) [0, 3, 4] (some []) _ (by kernel_rfl) (by kernel_rfl) ⟨(by omega), (by exact ordI_e (by omega))⟩ (by show (n - (k + 1)) < (n - k); omega)))
 exact R.go 6 (k23 (LLI (ordL n k)) (by first | (rw [show k = n by omega]) | (exfalso; omega)))
theorem l05Least_c (xs : List Int) (hF : okFr (xs.length : Int) xs = true) : CallA Tryz.prog 76 [LI xs] (LI (lfR (xs.length : Int) xs)) := by
 have hFr := okFr_rel hF
 have hb0 : 0 ≤ (xs.length : Int) ∧ (xs.length : Int) ≤ 8 := ⟨hFr.1, hFr.2.1⟩
 have hol : (ordL xs.length xs.length).length ≤ 16777216 := ordL_len (by omega) (by omega)
 refine CallA.of Tryz.func76 rfl (by kernel_rfl) (R.go 8 (k20 true (l05Orders_c xs.length (by first | omega | (simp <;> omega))) (R.go 5 (k20 true (l01Own_c xs (by first | omega | (simp <;> omega))).frz (R.go 8 (k21 ((fun | (i, b) => (⟨(frm 29 [(0, LI xs), (3, LLI (ordL xs.length xs.length)), (4, LI b), (5, AI (i : Int))]), []⟩ : St) : Nat × (List Int) → St)) (fun | (i, b) => (i ≤ (ordL xs.length xs.length).length) ∧ (LSV xs i b)) (fun | (i, b) => (ordL xs.length xs.length).length - i) (0, xs) [0, 3, 4, 5] none ⟨(by omega), (by exact lsv_0 _)⟩ ?_))))))
 rintro ⟨i, b⟩ ⟨h4_1, h4_2⟩ R1 N2
 have hbl := lsv_len hF ‹LSV xs i b›
 refine R.go 8 (k9 ((i : Int) < ((ordL xs.length xs.length).length : Int)) (fun c5 => ?_) (fun c5 => ?_))
 ·have hpm : PM (xs.length : Int) ((ordL xs.length xs.length).getD i []) := ord_pm.1 (ri_gt (by omega))
  have hrl := reo_len xs ((ordL xs.length xs.length).getD i [])
  have hal := hpm.1
  refine R.go 8 (k15 eLI (ordL xs.length xs.length) [] i (i : Int) eLI_len (R.go 1 (k20 true (l05Renumber_c (xs.length : Int) xs ((ordL xs.length xs.length).getD i []) hF hpm).frz (R.go 6 (k20 true (l01Less_c (reo xs ((ordL xs.length xs.length).getD i [])) b (by first | omega | (simp <;> omega)) (by first | omega | (simp <;> omega))) (R.go 1 (k9 (ltL (reo xs ((ordL xs.length xs.length).getD i [])) b) (fun c6 => ?_) (fun c6 => ?_))))))))
  ·refine R.go 7 (k8 ((i : Int) + 1) ?_)
   exact R.go 2 (k22 R1 (N2 (i + 1, reo xs ((ordL xs.length xs.length).getD i [])) [0, 3, 4, 5] none _ (by kernel_rfl) (by kernel_rfl) ⟨(by omega), (by first | exact lsv_y hF (by assumption) (by omega) (by assumption) | exact lsv_n (by assumption) (by omega) (by assumption))⟩ (by show ((ordL xs.length xs.length).length - (i + 1)) < ((ordL xs.length xs.length).length - i); omega)))
  refine R.go 4 (k8 ((i : Int) + 1) ?_)
  exact R.go 2 (k22 R1 (N2 (i + 1, b) [0, 3, 4, 5] none _ (by kernel_rfl) (by kernel_rfl) ⟨(by omega), (by first | exact lsv_y hF (by assumption) (by omega) (by assumption) | exact lsv_n (by assumption) (by omega) (by assumption))⟩ (by show ((ordL xs.length xs.length).length - (i + 1)) < ((ordL xs.length xs.length).length - i); omega)))
 exact R.go 6 (k23 (LI b) (by first | (exact congrArg LI (lsv_end (i := i) hF (by assumption) (by omega))) | (exfalso; omega)))
theorem l21Before_c (a : Int) (xs : List Int) (b : Int) (ys : List Int) (la : xs.length ≤ 1000000000) (lb : ys.length ≤ 1000000000) : CallA Tryz.prog 78 [.agg [AI a, LI xs], .agg [AI b, LI ys]] (.bool (decide (ltX a xs b ys))) := by
 refine CallA.of Tryz.func78 rfl (by kernel_rfl) (R.go 15 (k10 (a = b) (fun c1 => ?_) (fun c1 => ?_)))
 ·exact R.go 9 (k23 (.bool (decide (a < b))) (by first | (apply congrArg AV.bool; first | exact decide_eq_decide.2 (ltX_1 (by assumption)) | exact decide_eq_decide.2 (ltX_2 (by first | assumption | omega))) | (exfalso; omega)))
 refine R.go 7 (k20 true (l01Less_c xs ys la lb) ?_)
 exact R.go 2 (k23 (.bool (decide (ltL xs ys))) (by first | (apply congrArg AV.bool; first | exact decide_eq_decide.2 (ltX_1 (by assumption)) | exact decide_eq_decide.2 (ltX_2 (by first | assumption | omega))) | (exfalso; omega)))
end Go.Proofs.YtehbliocfpppoaaGreat

/-! The machine's rules: texts joined, compared, made of bytes. -/
namespace Go.Abs
open Go.RowKit
inductive StrOp
 | cat | eql | neq
def strAt (m : M) : Option (StrOp × ByteArray × ByteArray) :=
 match opM m with
 | some (.binOp .add _ x y _) => match ev m.st.fr x, ev m.st.fr y with
  | .str a, .str b => some (.cat, a, b)
  | _, _ => none
 | some (.binOp .eql _ x y _) => match ev m.st.fr x, ev m.st.fr y with
  | .str a, .str b => some (.eql, a, b)
  | _, _ => none
 | some (.binOp .neq _ x y _) => match ev m.st.fr x, ev m.st.fr y with
  | .str a, .str b => some (.neq, a, b)
  | _, _ => none
 | _ => none
def strV : StrOp → ByteArray → ByteArray → AV
 | .cat, a, b => .str (a ++ b)
 | .eql, a, b => .bool (a.toList == b.toList)
 | .neq, a, b => .bool !(a.toList == b.toList)
section
variable {rd : Option Nat} {P : Program} {m : M} {Q : Exit → St → Prop}
theorem R.str (k : StrOp) (a b : ByteArray) (v : AV) (h : strAt m = some (k, a, b)) (ht : quiet0 m = true) (hs : a.size + b.size ≤ 9223372036854775807) (hv : strV k a b = v) (h' : Runs rd P (putM m none v m.st.hp) Q) : Runs rd P m Q := by
 subst hv
 unfold strAt at h
 split at h
 ·rename_i t x y ty hop
  split at h
  ·rename_i a1 b1 hx hy
   simp only [Option.some.injEq, Prod.mk.injEq] at h
   obtain ⟨rfl, rfl, rfl⟩ := h
   exact R.eff0 hop (.inl (.catS _ _ hx hy hs)) ht h'
  ·cases h
 ·rename_i t x y ty hop
  split at h
  ·rename_i a1 b1 hx hy
   simp only [Option.some.injEq, Prod.mk.injEq] at h
   obtain ⟨rfl, rfl, rfl⟩ := h
   exact R.eff0 hop (.inl (.eqlS _ _ hx hy)) ht h'
  ·cases h
 ·rename_i t x y ty hop
  split at h
  ·rename_i a1 b1 hx hy
   simp only [Option.some.injEq, Prod.mk.injEq] at h
   obtain ⟨rfl, rfl, rfl⟩ := h
   exact R.eff0 hop (.inl (.neqS _ _ hx hy)) ht h'
  ·cases h
 ·cases h
end
end Go.Abs

/-! Arrays: made, indexed, an element's address. -/
namespace Go.Abs
open Go.RowKit
section
variable {rd : Option Nat} {P : Program} {m : M} {Q : Exit → St → Prop}
def arrOp (P : Program) (m : M) : Option AV :=
 match opM m with
 | some (.index t x y) => match ev m.st.fr x, ev m.st.fr y, arrB P t with
  | .agg cs, .int _ j, some (n, _) => if 0 ≤ j ∧ j < n then cs[j.toNat]? else none
  | _, _, _ => none
 | some (.indexAddr t x y) => match ev m.st.fr x, ev m.st.fr y, arrB P t with
  | .ptr i o, .int _ j, some (n, _) => if 0 ≤ j ∧ j < n then some (.ptr i (o + j.toNat)) else none
  | _, _, _ => none
 | some (.build t parts) => match arrB P t, zeroB P t with
  | some _, some zs => (fillA (fun i => some (i * 1, 1)) zs (parts.toList.map fun x => (x.1, ev m.st.fr x.2))).map .agg
  | _, _ => none
 | _ => none
theorem R.arr (v : AV) (h : arrOp P m = some v) (ht : quiet0 m = true) (h' : Runs rd P (putM m none v m.st.hp) Q) : Runs rd P m Q := by
 unfold arrOp at h
 split at h
 ·rename_i t x y hop
  split at h
  ·rename_i cs k j n el hx hy ha
   split at h
   ·rename_i hc
    exact R.eff0 hop (.inl (.indexA cs k j n el hx hy ha hc.1 hc.2 h)) ht h'
   ·cases h
  ·cases h
 ·rename_i t x y hop
  split at h
  ·rename_i i o k j n el hx hy ha
   split at h
   ·rename_i hc
    cases h
    exact R.eff0 hop (.inl (.indexAddrA i o k j n el hx hy ha hc.1 hc.2)) ht h'
   ·cases h
  ·cases h
 ·rename_i t parts hop
  split at h
  ·rename_i p zs ha hz
   obtain ⟨n, el⟩ := p
   rw [Option.map_eq_some_iff] at h
   obtain ⟨cs, hf, rfl⟩ := h
   exact R.eff0 hop (.inl (.buildA n el zs cs ha hz hf)) ht h'
  ·cases h
 ·cases h
end
end Go.Abs

/-! Drawn regions by what each operation yields, in whatever order. -/
namespace Go.Abs
open Go.RowKit
def updY (y : Nat → AV) (k : Nat) (v : AV) : Nat → AV := fun j => if j = k then v else y j
section
variable {rd : Option Nat} {P : Program} {m : M} {Q : Exit → St → Prop} {H : Type}
def oneQ (S : (Nat → AV) → H → St) (Pk : Nat → AV → H → Prop) (k : Nat) (y : Nat → AV) (x : H) : Exit → St → Prop := fun e st' => e = .normal ∧ ∃ v x', Pk k v x' ∧ (∀ j u, j ≠ k → Pk j u x → Pk j u x') ∧ st' = S (updY y k v) x'
theorem R.one {S : (Nat → AV) → H → St} {Pk : Nat → AV → H → Prop} {k : Nat} {y : Nat → AV} {x : H} (v : AV) (x' : H) (h : m.ks = []) (hs : m.st = S (updY y k v) x') (hp : Pk k v x') (hpr : ∀ j u, j ≠ k → Pk j u x → Pk j u x') : Runs rd P m (oneQ S Pk k y x) := by
 obtain ⟨ks, st⟩ := m
 simp only at h hs
 subst h hs
 rw [runs_iff]
 exact ⟨rfl, v, x', hp, hpr, rfl⟩
end
end Go.Abs

/-! Rows of structs of a number and a row of one's own, named; the end of a row of one's own seen through a second slice. -/
namespace Go.Abs
open Go.RowKit
section
variable {α : Type} {E : α → List AV} {el s b : Nat} {L : List (Int × Value × List α)} {v : Value}
def eQ (E : α → List AV) (el s : Nat) (x : Int × Value × List α) : List AV := [AI x.1, .nam x.2.1 (some el) s x.2.2.length (rows E x.2.2)]
theorem eQ_len (x : Int × Value × List α) : (eQ E el s x).length = 2 := rfl
theorem eQ_one (x : Int × Value × List α) : (eQ E el s x).all AV.one = true := rfl
def nQ (L : List (Int × Value × List α)) : List (Value × List α) := L.map Prod.snd
def fQ (L : List (Int × Value × List α)) : List (Int × List α) := L.map fun x => (x.1, x.2.2)
theorem nQ_len (L : List (Int × Value × List α)) : (nQ L).length = L.length := List.length_map ..
theorem fQ_len (L : List (Int × Value × List α)) : (fQ L).length = L.length := List.length_map ..
theorem nQ_get {i : Nat} {d : Int × Value × List α} (h : i < L.length) : (nQ L).getD i d.2 = (L.getD i d).2 := by
 simp [nQ, List.getD_eq_getElem?_getD, List.getElem?_eq_getElem h]
theorem fQ_get {i : Nat} {d : Int × Value × List α} (h : i < L.length) : (fQ L).getD i (d.1, d.2.2) = ((L.getD i d).1, (L.getD i d).2.2) := by
 simp [fQ, List.getD_eq_getElem?_getD, List.getElem?_eq_getElem h]
theorem nQ_app (L M : List (Int × Value × List α)) : nQ (L ++ M) = nQ L ++ nQ M := by simp [nQ]
theorem fQ_app (L M : List (Int × Value × List α)) : fQ (L ++ M) = fQ L ++ fQ M := by simp [fQ]
theorem nQ_set (L : List (Int × Value × List α)) (i : Nat) (x : Int × Value × List α) : nQ (L.set i x) = (nQ L).set i x.2 := by simp [nQ, List.map_set]
theorem NL.app1 {x : Int × Value × List α} (h : NL b (nQ L)) (hv : ∀ u ∈ nQ L, ∀ g, blk x.2.1 = some g → blk u.1 ≠ some g) (hb : ∀ g, blk x.2.1 = some g → b ≤ g) : NL b (nQ (L ++ [x])) := by
 rw [nQ_app]; exact h.snoc hv hb
theorem rowsQ_length : ∀ L : List (Int × Value × List α), (rows (eQ E el s) L).length = L.length * 2
 | [] => rfl
 | x :: L => by simp [rows, eQ, rowsQ_length L, Nat.succ_mul]
theorem rowsQ_get : ∀ (L : List (Int × Value × List α)) (i : Nat) (d : Int × Value × List α), i < L.length → (rows (eQ E el s) L)[i * 2 + 1]? = some (.nam (L.getD i d).2.1 (some el) s (L.getD i d).2.2.length (rows E (L.getD i d).2.2))
 | [], i, d, h => by simp at h
 | x :: L, 0, d, h => rfl
 | x :: L, i + 1, d, h => by
  have := rowsQ_get L i d (by simpa using h)
  simpa [rows, eQ, Nat.succ_mul] using this
theorem rowsQ_set : ∀ (L : List (Int × Value × List α)) (i : Nat) (d : Int × Value × List α) (v : Value) (ys : List α), i < L.length → (rows (eQ E el s) L).set (i * 2 + 1) (.nam v (some el) s ys.length (rows E ys)) = rows (eQ E el s) (L.set i ((L.getD i d).1, v, ys))
 | [], i, d, v, ys, h => by simp at h
 | y :: L, 0, d, v, ys, h => rfl
 | y :: L, i + 1, d, v, ys, h => by
  have := rowsQ_set L i d v ys (by simpa using h)
  have e : (i + 1) * 2 + 1 = i * 2 + 1 + 1 + 1 := by omega
  rw [e]
  exact congrArg (fun q => AI y.1 :: .nam y.2.1 (some el) s y.2.2.length (rows E y.2.2) :: q) this
theorem rowsQ_mem {c : AV} : ∀ {L : List (Int × Value × List α)}, c ∈ rows (eQ E el s) L → ∃ x ∈ L, c = AI x.1 ∨ c = .nam x.2.1 (some el) s x.2.2.length (rows E x.2.2)
 | [], h => by simp [rows] at h
 | x :: L, h => by
  simp only [rows, eQ, List.cons_append, List.nil_append, List.mem_cons] at h
  rcases h with h | h | h
  ·exact ⟨x, List.mem_cons_self .., .inl h⟩
  ·exact ⟨x, List.mem_cons_self .., .inr h⟩
  ·obtain ⟨y, hy, e⟩ := rowsQ_mem h
   exact ⟨y, List.mem_cons_of_mem _ hy, e⟩
theorem rowsQ_in {x : Int × Value × List α} : ∀ {L : List (Int × Value × List α)}, x ∈ L → .nam x.2.1 (some el) s x.2.2.length (rows E x.2.2) ∈ rows (eQ E el s) L
 | [], h => by simp at h
 | y :: L, h => by
  simp only [rows, eQ, List.cons_append, List.nil_append, List.mem_cons]
  rcases List.mem_cons.1 h with rfl | h
  ·exact .inr (.inl rfl)
  ·exact .inr (.inr (rowsQ_in h))
theorem inS_rowQ {st : St} {b1 : Nat} (h : ∀ u, InS u st → ∀ g, blk u = some g → g < b1) (j : Nat) {e n : Nat} (L : List (Int × Value × List α)) (hj : st.hp[j]? = some (.list e 2 n (rows (eQ E el s) L))) {v : Value} (hv : ∀ g, blk v = some g → b1 ≤ g) : ∀ u ∈ nQ L, ∀ g, blk v = some g → blk u.1 ≠ some g := fun u hu g hg hg' => by
 obtain ⟨x, hx, rfl⟩ := List.mem_map.1 hu
 have h1 := h x.2.1 (.inr ⟨j, _, hj, inNL_iff.2 ⟨_, rowsQ_in hx, by simp only [InN]; exact .inl ⟨trivial, .inr (by simp)⟩⟩⟩) g hg'
 have h2 := hv g hg
 omega
theorem closedN_rowsQ (hL : NL b (nQ L)) (hE : ∀ x, closedL (E x) = true) : ClosedNL b (rows (eQ E el s) L) := by
 rw [closedNL_iff]
 intro c hc
 obtain ⟨x, hx, rfl | rfl⟩ := rowsQ_mem hc
 ·exact trivial
 ·exact ⟨closedL_rows hE _, hL.ge x.2 (List.mem_map.2 ⟨x, hx, rfl⟩)⟩
theorem closedN_ownQ (e : Nat) (hL : NL b (nQ L)) (hE : ∀ x, closedL (E x) = true) : ClosedN b (ownA (eQ E el s) e 2 L) := by
 simp only [ownA, ClosedN]
 exact closedN_rowsQ hL hE
theorem closedN_nam {n : Nat} (xs : List α) (hE : ∀ x, closedL (E x) = true) (hv : ∀ g, blk v = some g → b ≤ g) : ClosedN b (.nam v (some el) s n (rows E xs)) := ⟨closedL_rows hE _, hv⟩
theorem fgtQ_rows {E' : Int × List α → List AV} (hE : ∀ x, E' x = [AI x.1, .lst s x.2.length (rows E x.2)]) (w : World) (Z : Nat → Prop) : ∀ (L : List (Int × Value × List α)) (xs : List Value), RelL w Z [] (rows (eQ E el s) L) xs → RelL w Z [] (rows E' (fQ L)) xs
 | [], xs, h => h
 | x :: L, xs, h => by
  simp only [rows, eQ, List.cons_append, List.nil_append, fQ, List.map_cons, hE] at h ⊢
  simp only [RelL] at h ⊢
  obtain ⟨y, ys, rfl, h1, z, zs, rfl, h2, h3⟩ := h
  refine ⟨y, _, rfl, h1, z, zs, rfl, ?_, fgtQ_rows hE w Z L zs h3⟩
  simp only [Rel] at h2 ⊢
  exact h2.2
theorem fgtQ {E' : Int × List α → List AV} (hE : ∀ x, E' x = [AI x.1, .lst s x.2.length (rows E x.2)]) (L : List (Int × Value × List α)) : ∀ (w : World) (Z : Nat → Prop) u, Rel w Z [] (.lst 2 L.length (rows (eQ E el s) L)) u → Rel w Z [] (.lst 2 (fQ L).length (rows E' (fQ L))) u := by
 intro w Z u h
 simp only [Rel] at h ⊢
 obtain ⟨A, c, xs, h1, h2, h3, h4, h5⟩ := h
 have h6 := fgtQ_rows hE w Z L xs h5
 refine ⟨A, c, xs, by rw [fQ_len]; exact h1, ?_, by rw [fQ_len]; exact h3, h4, h6⟩
 rw [← h6.length, h5.length, h2, fQ_len]
end
section
variable {rd : Option Nat} {P : Program} {m : M} {Q : Exit → St → Prop} {α : Type}
def weakRowQ (E : α → List AV) (el s el1 : Nat) (L : List (Int × Value × List α)) (i : Nat) (d : Int × Value × List α) : AObj := .list el1 2 L.length ((rows (eQ E el s) L).set (i * 2 + 1) (weakN (L.getD i d).2.1 (L.getD i d).2.2.length))
theorem R.thawQ (E : α → List AV) (el s el1 : Nat) (L : List (Int × Value × List α)) (i : Nat) (d : Int × Value × List α) (j t k b : Nat) (fr' : List AV) (hp' : List AObj) (h : subOk m = true) (hj : m.st.hp[j]? = some (rowA (eQ E el s) el1 2 L)) (hi : i < L.length) (hL : NL b (nQ L)) (hE : ∀ x, closedL (E x) = true)
  (ht : m.st.fr[t]? = some (.nam (L.getD i d).2.1 (some el) s (L.getD i d).2.2.length (rows E (L.getD i d).2.2))) (hk : m.st.hp[k]? = some (.inert (.base b))) (hf : m.st.fr.set t .top = fr') (hh : m.st.hp.set j .dead = hp') (hfr : SafeL (L.getD i d).2.1 fr') (hoth : ∀ o ∈ hp', SafeO (L.getD i d).2.1 o)
  (h' : Runs rd P ⟨m.ks, ⟨m.st.fr.set t (.ref m.st.hp.length), m.st.hp.set j (weakRowQ E el s el1 L i d) ++ [rowA E el s (L.getD i d).2.2, .frame [(L.getD i d).2.1] [.ref m.st.hp.length]]⟩⟩ Q) : Runs rd P m Q := by
 subst hf hh
 have hin : i < (nQ L).length := by rw [nQ_len]; exact hi
 refine R.thaw j (i * 2 + 1) t k el s (L.getD i d).2.2.length el1 2 L.length b (L.getD i d).2.1 (rows E (L.getD i d).2.2) (rows (eQ E el s) L) h hj (rowsQ_get L i d hi) ht (closedL_rows hE _) hk ?_ hfr (fun q c hq hne => ?_) hoth h'
 ·have := hL.at d.2 hin
  rwa [nQ_get hi] at this
 ·have hql : q < L.length * 2 := by
   have := (List.getElem?_eq_some_iff.1 hq).1
   rwa [rowsQ_length] at this
  rcases Nat.mod_two_eq_zero_or_one q with e | e
  ·obtain ⟨x, _, rfl | rfl⟩ := rowsQ_mem (List.mem_of_getElem? hq)
   ·exact safe_AI
   ·have : ∀ (L : List (Int × Value × List α)) (q : Nat), q % 2 = 0 → ∀ c, (rows (eQ E el s) L)[q]? = some c → ∃ n, c = AI n := by
     intro L
     induction L with
     | nil => intro q _ c hc; simp [rows] at hc
     | cons y L ih =>
      intro q hq c hc
      simp only [rows, eQ, List.cons_append, List.nil_append] at hc
      match q, hq, hc with
      | 0, _, hc => simp at hc; exact ⟨_, hc.symm⟩
      | 1, hq, _ => omega
      | q + 2, hq, hc => exact ih q (by omega) c (by simpa using hc)
    obtain ⟨n, e2⟩ := this L q e _ hq
    cases e2
  ·obtain ⟨p, rfl⟩ : ∃ p, q = p * 2 + 1 := ⟨q / 2, by omega⟩
   rw [rowsQ_get L p d (by omega)] at hq
   cases hq
   refine safe_nam (safe_rows hE _) ?_
   have := hL.ne d.2 hin (k := p) (by rw [nQ_len]; omega) (fun e => hne (by rw [e]))
   rwa [nQ_get hi, nQ_get (by omega)] at this
theorem R.repinQ (E : α → List AV) (el s el1 : Nat) (L : List (Int × Value × List α)) (i : Nat) (d : Int × Value × List α) (j k : Nat) (ys : List α) (h : subOk m = true) (hj : m.st.hp[j]? = some (weakRowQ E el s el1 L i d)) (hi : i < L.length) (hk : m.st.hp[k]? = some (rowA E el s ys)) (hk1 : m.st.hp[k + 1]? = some (.frame [(L.getD i d).2.1] [.ref k])) (hjk : (j != k) = true)
  (h' : Runs rd P ⟨m.ks, ⟨(frzS k (.nam (L.getD i d).2.1 (some el) s ys.length (rows E ys)) m.st).fr, ((frzS k (.nam (L.getD i d).2.1 (some el) s ys.length (rows E ys)) m.st).hp.set j (rowA (eQ E el s) el1 2 (L.set i ((L.getD i d).1, (L.getD i d).2.1, ys)))).set (k + 1) .dead⟩⟩ Q) : Runs rd P m Q := by
 refine R.repin j (i * 2 + 1) k el s ys.length el1 2 L.length (L.getD i d).2.2.length (L.getD i d).2.1 (rows E ys) _ h hj ?_ hk hk1 (by simpa using hjk) ?_
 ·rw [List.getElem?_set_self (by rw [rowsQ_length]; omega)]
 ·unfold pinS
  rw [List.set_set]
  have e := rowsQ_set (E := E) (el := el) (s := s) L i d (L.getD i d).2.1 ys hi
  rw [e]
  unfold rowA at h'
  rw [List.length_set] at h'
  exact h'
end

def SubOf (s l n : Nat) (u v : Value) : Prop := ∃ (g cap : Nat), u = .slice (some ⟨g, 0, none⟩) n cap ∧ v = .slice (some ⟨g, l * s, none⟩) (n - l) (cap - l) ∧ n ≤ cap
theorem HRel.addF {w : World} {Z : Nat → Prop} {B : Nat} {μ : List Value} {hp : List AObj} {us : List Value} {cs : List AV} (h : HRel w Z B μ hp) (hr : RelL w Z μ cs us) : HRel w Z B (μ ++ [.bool false]) (hp ++ [.frame us cs]) := by
 have hm : ∀ (i : Nat) (u : Value), μ[i]? = some u → (μ ++ [.bool false])[i]? = some u := fun i u h => append_old i u h
 have up : ∀ {cs : List AV} {xs : List Value}, RelL w Z μ cs xs → RelL w Z (μ ++ [.bool false]) cs xs := fun h => RelL.keep (w := w) (fun b _ _ => rfl) hm h
 have get : ∀ (i : Nat) o u, (hp ++ [.frame us cs])[i]? = some o → (μ ++ [.bool false])[i]? = some u → (hp[i]? = some o ∧ μ[i]? = some u) ∨ (o = .frame us cs ∧ u = .bool false) := by
  intro i o u h1 h2
  rcases Nat.lt_or_ge i hp.length with hi | hi
  ·rw [List.getElem?_append_left hi] at h1
   rw [List.getElem?_append_left (by rw [h.len]; exact hi)] at h2
   exact .inl ⟨h1, h2⟩
  ·rw [List.getElem?_append_right hi] at h1
   rw [List.getElem?_append_right (by rw [h.len]; exact hi), h.len] at h2
   by_cases e : i - hp.length = 0
   ·rw [e] at h1 h2
    simp at h1 h2
    exact .inr ⟨h1.symm, h2.symm⟩
   ·rw [List.getElem?_eq_none (by simp; omega)] at h1
    cases h1
 refine ⟨by simp [h.len], fun i o u g h1 ha h2 hg => ?_, fun i u hu => ?_, fun i o u h1 h2 => ?_, fun i i2 o o2 u u2 g hne h1 h2 a1 a2 m1 m2 b1 b2 => ?_⟩
 ·rcases get i o u h1 h2 with ⟨e1, e2⟩ | ⟨rfl, _⟩
  ·exact h.zone i o u g e1 ha e2 hg
  ·cases ha
 ·rcases Nat.lt_or_ge i μ.length with hi | hi
  ·rw [List.getElem?_append_left hi] at hu
   exact h.one i u hu
  ·rw [List.getElem?_append_right hi] at hu
   by_cases e : i - μ.length = 0
   ·rw [e] at hu
    simp at hu
    subst hu; rfl
   ·rw [List.getElem?_eq_none (by simp; omega)] at hu
    cases hu
 ·rcases get i o u h1 h2 with ⟨e1, e2⟩ | ⟨rfl, rfl⟩
  ·have hO := h.obj i o u e1 e2
   cases o with
   | box t ds => obtain ⟨g, zs, e1, e2, e3, e4⟩ := hO; exact ⟨g, zs, e1, e2, e3, up e4⟩
   | list e s n ds => exact hO
   | dead => trivial
   | frame us ds => exact up hO
   | inert x => exact hO
  ·exact up hr
 ·rcases get i o u h1 m1 with ⟨e1, e2⟩ | ⟨rfl, _⟩
  ·rcases get i2 o2 u2 h2 m2 with ⟨f1, f2⟩ | ⟨rfl, _⟩
   ·exact h.sep i i2 o o2 u u2 g hne e1 f1 a1 a2 e2 f2 b1 b2
   ·cases a2
  ·cases a1
section
variable {rd : Option Nat} {P : Program} {Q : Exit → St → Prop}
theorem OpsQ.subO {all : Array Oper} {o : Oper} {rest : List Oper} {fr : List AV} {hp : List AObj} {R : Exit → St → Prop} {t i el s n l : Nat} {k : IntKind} {x lo : Operand} {cs : List AV} (hw : WantedA all o fr)
  (hop : o.op = .slice t x (some lo) none none) (hx : ev fr x = .ref i) (hlo : ev fr lo = .int k l) (hel : elemB P t = some (el, s)) (hi : hp[i]? = some (.list el s n cs)) (hl : l < n)
  (h' : ∀ u v, SubOf s l n u v → OpsQ rd P all rest ⟨putF fr o.dst (weakN v (n - l)), hp ++ [.frame [u] [.ref i]]⟩ R) : OpsQ rd P all (o :: rest) ⟨fr, hp⟩ R := by
 intro Z0 w0 a w hS
 refine wpListIn_step fun K hK => ?_
 obtain ⟨μ, F, hFb, hH, hF, hd, hb⟩ := hS
 rw [wanted_rel hF hw, if_pos rfl]
 have hxv := hx ▸ ev_rel hF x
 simp only [Rel] at hxv
 have hlv := rel_int (hlo ▸ ev_rel hF lo)
 obtain ⟨xs, hown, hrx⟩ := hH.obj i _ _ hi hxv
 rcases hown.2 with ⟨_, h3⟩ | ⟨g, cap, cur, hv0, hB2, hg, hnc, hcm, hcs, htk⟩
 ·omega
 have hb0 := run_sliceAt (P := P) hel (some ⟨g, 0, none⟩) n cap (some (.int k l)) none none l n cap (fun w => by simp [Instr.sliceBounds, run_bound (P := P) k l n _ (Nat.le_of_lt hl)]) w
 rw [← hv0] at hb0
 have hne : ¬ cap = l := by omega
 rw [if_neg hne] at hb0
 have hadd : (some (⟨g, 0, none⟩ : Addr)).map (·.add (l * s)) = some ⟨g, l * s, none⟩ := by simp [add_lit']
 rw [hadd] at hb0
 refine wpIn_of_run (fun c' h => by rw [hop] at h; cases h) ?_
 have e1 : (execOp a.eval o).run P w = .ok (.value (.slice (some ⟨g, l * s, none⟩) (n - l) (cap - l))) w := by
  simp only [execOp, hop, hlv, Option.map_some, Option.map_none, Sem.run_bind, hb0, Result.andThen_ok, Sem.run_pure]
 rw [e1]
 refine hK _ _ (h' (a.eval x) _ ⟨g, cap, hv0, rfl, hnc⟩ Z0 w0 _ _ ⟨μ ++ [.bool false], F, hFb, hH.addF (RelL.cons (by simp only [Rel]; exact hxv) RelL.nil), ?_, ?_, hb⟩)
 ·refine put_rel (RelL.keep (w := w) (fun b _ _ => rfl) (fun i u h => append_old i u h) hF) _ ?_
  simp only [weakN, Rel]
  exact ⟨⟨trivial, fun e he => by cases he⟩, _, _, [], rfl, by simp, by omega, fun h => absurd rfl h, RelL.nil⟩
 ·rw [put_defers']
  exact hd.keep fun j y hj => ⟨by rw [List.getElem?_append_left (List.getElem?_eq_some_iff.1 hj).1]; exact hj, fun u hu => append_old j u hu⟩
theorem OpsQ.idxS {all : Array Oper} {o : Oper} {rest : List Oper} {fr : List AV} {hp : List AObj} {R : Exit → St → Prop} {t i q el s n l j m : Nat} {k : IntKind} {x y : Operand} {u v : Value} (hw : WantedA all o fr)
  (hop : o.op = .indexAddr t x y) (hx : ev fr x = .nam v none 0 m []) (hy : ev fr y = .int k (j : Int)) (hel : elemB P t = some (el, s)) (hq : hp[q]? = some (.frame [u] [.ref i])) (hs : SubOf s l n u v) (hj : l + j < n)
  (h' : OpsQ rd P all rest ⟨putF fr o.dst (.ptr i ((l + j) * s)), hp⟩ R) : OpsQ rd P all (o :: rest) ⟨fr, hp⟩ R := by
 intro Z0 w0 a w hS
 refine wpListIn_step fun K hK => ?_
 obtain ⟨μ, F, hFb, hH, hF, hd, hb⟩ := hS
 rw [wanted_rel hF hw, if_pos rfl]
 have hx1 := hx ▸ ev_rel hF x
 simp only [Rel] at hx1
 have hxv := hx1.1.1
 have hy1 := rel_int (hy ▸ ev_rel hF y)
 have hql : q < μ.length := by rw [hH.len]; exact (List.getElem?_eq_some_iff.1 hq).1
 have hf := hH.obj q _ _ hq (List.getElem?_eq_getElem hql)
 simp only [ObjRel, RelL, Rel] at hf
 obtain ⟨u', us', e1, e2, _⟩ := hf
 cases e1
 obtain ⟨g, cap, h1, h2, h3⟩ := hs
 rw [h2] at hxv
 have hxe : a.eval x = .slice (some ⟨g, l * s, none⟩) (n - l) (cap - l) := by first | exact hxv | exact hxv.symm
 have hrun : (execOp a.eval o).run P w = .ok (.value (.pointer (some ((⟨g, l * s, none⟩ : Addr).add (j * s))))) w := by
  simp only [execOp, hop, hxe, hy1]
  have := run_indexAt (P := P) (a := ⟨g, l * s, none⟩) (n := n - l) (c := cap - l) (k := k) (j := (j : Int)) hel (by omega) (by omega) w
  simp only [Int.toNat_natCast] at this
  simp [this]
 refine wpIn_of_run (fun c' h => by rw [hop] at h; cases h) ?_
 rw [hrun]
 refine hK _ _ (h' Z0 w0 _ _ ⟨μ, F, hFb, hH, put_rel hF _ ?_, ?_, hb⟩)
 ·simp only [Rel]
  refine ⟨u, g, e2, by rw [h1]; rfl, ?_⟩
  rw [add_lit', Nat.add_mul]
 ·rw [put_defers']; exact hd
end
end Go.Abs
