/- Texts of the proof: HM2, W06, HM0, E01, E03, PD1, HM3. -/
import Derived.Test.YtjllngcefoohpaaGreatPartI

/-! Irreducible elements, duals and oprema of Heyting algebras; isomorphic orders. -/
namespace Go.Proofs.YtjllngcefoohpaaGreat
open Go.RowKit Go.Abs

def cntB (p : Nat → Bool) : Nat → Nat
 | 0 => 0
 | k + 1 => cntB p k + (if p k = true then 1 else 0)
theorem cntB_le {p q : Nat → Bool} (h : ∀ i, p i = true → q i = true) : ∀ k, cntB p k ≤ cntB q k
 | 0 => Nat.le_refl _
 | k + 1 => by
  have ih := cntB_le h k
  rw [cntB, cntB]
  by_cases e : p k = true
  ·rw [if_pos e, if_pos (h k e)]; omega
  ·rw [if_neg e]; omega
theorem cntB_lt {p q : Nat → Bool} (h : ∀ i, p i = true → q i = true) {j : Nat} (hq : q j = true) (hp : ¬ p j = true) : ∀ k, j < k → cntB p k < cntB q k
 | 0, hk => absurd hk (by omega)
 | k + 1, hk => by
  rw [cntB, cntB]
  by_cases e : j = k
  ·subst e
   have := cntB_le h j
   rw [if_neg hp, if_pos hq]; omega
  ·have ih := cntB_lt h hq hp k (by omega)
   by_cases e : p k = true
   ·rw [if_pos e, if_pos (h k e)]; omega
   ·rw [if_neg e]; omega

def leB (xs : List Int) (x y : Nat) : Bool := tb (xs.getD x 0) y
def irB (xs : List Int) (x : Nat) : Bool := decide (x ≠ bX xs) && (List.range xs.length).all fun y => (List.range xs.length).all fun z => decide (jX xs y z = x → y = x ∨ z = x)
theorem irB_iff {xs : List Int} {x : Nat} : irB xs x = true ↔ x ≠ bX xs ∧ ∀ y, y < xs.length → ∀ z, z < xs.length → jX xs y z = x → y = x ∨ z = x := by
 simp only [irB, Bool.and_eq_true, decide_eq_true_eq, List.all_eq_true, List.mem_range]
section
variable {xs : List Int} (h : HyOK xs)
include h
theorem ir_below : ∀ k x, cntB (fun z => leB xs z x) xs.length ≤ k → x < xs.length → ∀ y, y < xs.length → (∀ a, a < xs.length → irB xs a = true → leX xs a x → leX xs a y) → leX xs x y
 | 0, x, hk, hx, y, hy, ha => by
  have := cntB_lt (p := fun _ => false) (q := fun z => leB xs z x) (by simp) (j := x) (hx_refl h hx) (by simp) xs.length hx
  omega
 | k + 1, x, hk, hx, y, hy, ha => by
  obtain ⟨_, b1, b2⟩ := hx_b h
  by_cases hb : x = bX xs
  ·rw [hb]; exact b2 y hy
  ·by_cases hi : irB xs x = true
   ·exact ha x hx hi (hx_refl h hx)
   ·have hn : ∃ u, u < xs.length ∧ ∃ v, v < xs.length ∧ jX xs u v = x ∧ u ≠ x ∧ v ≠ x := by
     refine Classical.byContradiction fun q => hi (irB_iff.2 ⟨hb, fun u hu v hv e => ?_⟩)
     refine Classical.byContradiction fun q2 => q ⟨u, hu, v, hv, e, fun e1 => q2 (.inl e1), fun e1 => q2 (.inr e1)⟩
    obtain ⟨u, hu, v, hv, e, hux, hvx⟩ := hn
    obtain ⟨_, j1, j2, j3, j4⟩ := hx_J h hu hv
    rw [e] at j1 j2 j3 j4
    have down : ∀ w, w < xs.length → leX xs w x → w ≠ x → leX xs w y := fun w hw hwx hne => by
     have hlt := cntB_lt (p := fun z => leB xs z w) (q := fun z => leB xs z x) (fun i hi => by
      have hil : i < xs.length := by
       refine Classical.byContradiction fun q => ?_
       have : xs.getD i 0 = 0 := by rw [List.getD_eq_getElem?_getD, List.getElem?_eq_none (by omega)]; rfl
       rw [leB, this, tb_zero] at hi; cases hi
      exact hx_trans h hil hi hwx) (j := x) (hx_refl h hx) (fun q => hne (hx_anti h hw hwx q)) xs.length hx
     exact ir_below k w (by omega) hw y hy fun a ha1 ha2 ha3 => ha a ha1 ha2 (hx_trans h ha1 ha3 hwx)
    exact j4 y hy (down u hu j2 hux) (down v hv j3 hvx)
theorem ir_le {x y : Nat} (hx : x < xs.length) (hy : y < xs.length) (ha : ∀ a, a < xs.length → irB xs a = true → leX xs a x → leX xs a y) : leX xs x y := ir_below h _ x (Nat.le_refl _) hx y hy ha
theorem ir_prime {a y z : Nat} (ha : a < xs.length) (hi : irB xs a = true) (hy : y < xs.length) (hz : z < xs.length) (hl : leX xs a (jX xs y z)) : leX xs a y ∨ leX xs a z := by
 obtain ⟨_, hi2⟩ := irB_iff.1 hi
 obtain ⟨_, p1, p2, p3, p4⟩ := hx_M h hy ha
 obtain ⟨_, q1, q2, q3, q4⟩ := hx_M h hz ha
 obtain ⟨_, w1, w2, w3, w4⟩ := hx_J h p1 q1
 obtain ⟨_, i1, i2⟩ := hx_I h ha w1
 obtain ⟨_, j1, _, _, j4⟩ := hx_J h hy hz
 have h1 := j4 _ i1 ((i2 y hy).1 w2) ((i2 z hz).1 w3)
 have h2 := (i2 a ha).2 (hx_trans h ha hl h1)
 obtain ⟨_, m1, _, _, m4⟩ := hx_M h ha ha
 have h3 := hx_trans h ha (m4 a ha (hx_refl h ha) (hx_refl h ha)) h2
 have h4 := w4 a ha p3 q3
 have h5 := hx_anti h ha h3 h4
 rcases hi2 _ p1 _ q1 h5.symm with e | e
 ·left; rw [e] at p2; exact p2
 ·right; rw [e] at q2; exact q2
theorem ir_bot {a : Nat} (ha : a < xs.length) (hi : irB xs a = true) : ¬ leX xs a (bX xs) := fun q => (irB_iff.1 hi).1 (hx_anti h ha q ((hx_b h).2.2 a ha))
end
def irN (xs : List Int) : List Nat := (List.range xs.length).filter (irB xs)
theorem irN_mem {xs : List Int} {a : Nat} : a ∈ irN xs ↔ a < xs.length ∧ irB xs a = true := by simp [irN]
theorem irN_len (xs : List Int) : (irN xs).length ≤ xs.length := by
 have := List.length_filter_le (irB xs) (List.range xs.length)
 rw [List.length_range] at this
 exact this
theorem irN_nodup (xs : List Int) : (irN xs).Nodup := List.Nodup.sublist (List.filter_sublist) (List.nodup_range)
theorem irN_get {xs : List Int} {i : Nat} (hi : i < (irN xs).length) : (irN xs).getD i 0 < xs.length ∧ irB xs ((irN xs).getD i 0) = true := by
 have : (irN xs).getD i 0 ∈ irN xs := by rw [List.getD_eq_getElem?_getD, List.getElem?_eq_getElem hi]; exact List.getElem_mem _
 exact irN_mem.1 this
theorem irN_at {xs : List Int} {a : Nat} (ha : a < xs.length) (hi : irB xs a = true) : ∃ i, i < (irN xs).length ∧ (irN xs).getD i 0 = a := by
 obtain ⟨i, h1, h2⟩ := List.getElem_of_mem (irN_mem.2 ⟨ha, hi⟩)
 exact ⟨i, h1, by rw [List.getD_eq_getElem?_getD, List.getElem?_eq_getElem h1]; exact h2⟩
theorem irN_inj {xs : List Int} {i j : Nat} (hi : i < (irN xs).length) (hj : j < (irN xs).length) (e : (irN xs).getD i 0 = (irN xs).getD j 0) : i = j := by
 rw [List.getD_eq_getElem?_getD, List.getD_eq_getElem?_getD, List.getElem?_eq_getElem hi, List.getElem?_eq_getElem hj] at e
 exact (List.getElem_inj (irN_nodup xs)).1 e
def setX (xs : List Int) (x : Nat) : Int := mkB (fun j => leB xs ((irN xs).getD j 0) x) (irN xs).length
def dualL (xs : List Int) : List Int := (List.range (irN xs).length).map fun i => setX xs ((irN xs).getD i 0)
theorem dualL_len (xs : List Int) : (dualL xs).length = (irN xs).length := by simp [dualL]
theorem dualL_get {xs : List Int} {i : Nat} (h : i < (irN xs).length) : (dualL xs).getD i 0 = setX xs ((irN xs).getD i 0) := by simp [dualL, List.getD_eq_getElem?_getD, List.getElem?_range h]
section
variable {xs : List Int} (h : HyOK xs)
include h
theorem setX_in (x : Nat) : InM (irN xs).length (setX xs x) ∧ ∀ j, tb (setX xs x) j = true ↔ j < (irN xs).length ∧ leX xs ((irN xs).getD j 0) x := by
 have h1 := irN_len xs
 have h2 := h.n30
 obtain ⟨a, b⟩ := mkB_ok (fun j => leB xs ((irN xs).getD j 0) x) (N := (irN xs).length) (by omega) _ (Nat.le_refl _)
 refine ⟨a, fun j => ?_⟩
 rw [setX, b, Bool.and_eq_true, decide_eq_true_eq]
 exact Iff.rfl
theorem setX_le {x y : Nat} (hx : x < xs.length) (hy : y < xs.length) : leX xs x y ↔ ∀ j, tb (setX xs x) j = true → tb (setX xs y) j = true := by
 constructor
 ·intro a j hj
  obtain ⟨j1, j2⟩ := ((setX_in h x).2 j).1 hj
  exact ((setX_in h y).2 j).2 ⟨j1, hx_trans h (irN_get j1).1 j2 a⟩
 ·intro a
  refine ir_le h hx hy fun c hc hi hcx => ?_
  obtain ⟨j, j1, j2⟩ := irN_at hc hi
  have := ((setX_in h y).2 j).1 (a j (((setX_in h x).2 j).2 ⟨j1, by rw [j2]; exact hcx⟩))
  rw [j2] at this
  exact this.2
theorem setX_inj {x y : Nat} (hx : x < xs.length) (hy : y < xs.length) (e : setX xs x = setX xs y) : x = y :=
 hx_anti h hx ((setX_le h hx hy).2 fun j a => by rw [← e]; exact a) ((setX_le h hy hx).2 fun j a => by rw [e]; exact a)
theorem dual_bits {i : Nat} (hi : i < (irN xs).length) (j : Nat) : tb ((dualL xs).getD i 0) j = true ↔ j < (irN xs).length ∧ leX xs ((irN xs).getD j 0) ((irN xs).getD i 0) := by
 rw [dualL_get hi]; exact (setX_in h _).2 j
theorem dual_rel : RelOK (irN xs).length (dualL xs) := ⟨dualL_len xs, fun j hj => by rw [dualL_get hj]; exact (setX_in h _).1⟩
theorem dual_pa : rB (irN xs).length (dualL xs) = true ∧ tB (irN xs).length (dualL xs) = true ∧ aB (irN xs).length (dualL xs) = true := by
 refine ⟨rB_iff.2 fun i hi => (dual_bits h hi i).2 ⟨hi, hx_refl h (irN_get hi).1⟩, tB_iff.2 fun i hi j hj k hk a b => ?_, aB_iff.2 fun i hi j hj a b => ?_⟩
 ·have a' := ((dual_bits h hi j).1 a).2
  have b' := ((dual_bits h hj k).1 b).2
  exact (dual_bits h hi k).2 ⟨hk, hx_trans h (irN_get hk).1 b' a'⟩
 ·have a' := ((dual_bits h hi j).1 a).2
  have b' := ((dual_bits h hj i).1 b).2
  exact irN_inj hi hj (hx_anti h (irN_get hi).1 b' a')
theorem dual_po (h8 : (irN xs).length ≤ 8) : okPo ((irN xs).length : Int) (dualL xs) = true := by
 obtain ⟨a, b, c⟩ := dual_pa h
 have hr := dual_rel h
 rw [okPo, Bool.and_eq_true, Bool.and_eq_true, Bool.and_eq_true, Int.toNat_natCast]
 refine ⟨?_, a, b, c⟩
 refine okFr_mk ?_ (by rw [dualL_len]) ?_
 ·simp only [inR, Bool.and_eq_true, decide_eq_true_eq]; omega
 ·rw [List.any_eq_false]
  intro m hm
  obtain ⟨j, hj, rfl⟩ := List.getElem_of_mem hm
  have e : (dualL xs).getD j 0 = (dualL xs)[j] := by rw [List.getD_eq_getElem?_getD, List.getElem?_eq_getElem hj]; rfl
  have h1 := (full_rng (n := (irN xs).length) (by omega)).1 (hr.2 j (by rw [← dualL_len]; exact hj))
  rw [e] at h1
  rw [h1]; decide
theorem setX_onto {U : Int} (hU : InM (irN xs).length U) (hup : ∀ i j, tb U i = true → tb ((dualL xs).getD i 0) j = true → tb U j = true) : ∃ x, x < xs.length ∧ setX xs x = U := by
 have h1 := irN_len xs
 have h2 := h.n30
 have main : ∀ k, k ≤ (irN xs).length → ∃ x, x < xs.length ∧ ∀ a, a < xs.length → irB xs a = true → (leX xs a x ↔ ∃ i, i < k ∧ tb U i = true ∧ leX xs a ((irN xs).getD i 0)) := by
  intro k
  induction k with
  | zero =>
   intro _
   refine ⟨bX xs, (hx_b h).2.1, fun a ha hi => ⟨fun q => absurd q (ir_bot h ha hi), ?_⟩⟩
   rintro ⟨i, hi, _⟩
   omega
  | succ k ih =>
   intro hk
   obtain ⟨x, hx, hx2⟩ := ih (by omega)
   obtain ⟨g1, g2⟩ := irN_get (xs := xs) (i := k) (by omega)
   by_cases e : tb U k = true
   ·obtain ⟨_, j1, j2, j3, j4⟩ := hx_J h hx g1
    refine ⟨jX xs x ((irN xs).getD k 0), j1, fun a ha hi => ⟨fun q => ?_, ?_⟩⟩
    ·rcases ir_prime h ha hi hx g1 q with q | q
     ·obtain ⟨i, i1, i2, i3⟩ := (hx2 a ha hi).1 q
      exact ⟨i, by omega, i2, i3⟩
     ·exact ⟨k, by omega, e, q⟩
    ·rintro ⟨i, i1, i2, i3⟩
     by_cases e2 : i = k
     ·subst e2; exact hx_trans h ha i3 j3
     ·exact hx_trans h ha ((hx2 a ha hi).2 ⟨i, by omega, i2, i3⟩) j2
   ·refine ⟨x, hx, fun a ha hi => ⟨fun q => ?_, ?_⟩⟩
    ·obtain ⟨i, i1, i2, i3⟩ := (hx2 a ha hi).1 q
     exact ⟨i, by omega, i2, i3⟩
    ·rintro ⟨i, i1, i2, i3⟩
     have : i ≠ k := fun e2 => e (e2 ▸ i2)
     exact (hx2 a ha hi).2 ⟨i, by omega, i2, i3⟩
 obtain ⟨x, hx, hx2⟩ := main _ (Nat.le_refl _)
 refine ⟨x, hx, tb_ext (setX_in h x).1.1 hU.1 fun j => ?_⟩
 rw [Bool.eq_iff_iff, (setX_in h x).2 j]
 constructor
 ·rintro ⟨j1, j2⟩
  obtain ⟨i, i1, i2, i3⟩ := (hx2 _ (irN_get j1).1 (irN_get j1).2).1 j2
  exact hup i j i2 ((dual_bits h i1 j).2 ⟨j1, i3⟩)
 ·intro q
  have j1 := tb_lt hU q
  exact ⟨j1, (hx2 _ (irN_get j1).1 (irN_get j1).2).2 ⟨j, j1, q, hx_refl h (irN_get j1).1⟩⟩
theorem setX_up (x : Nat) : ∀ i j, tb (setX xs x) i = true → tb ((dualL xs).getD i 0) j = true → tb (setX xs x) j = true := fun i j a b => by
 obtain ⟨a1, a2⟩ := ((setX_in h x).2 i).1 a
 obtain ⟨b1, b2⟩ := (dual_bits h a1 j).1 b
 exact ((setX_in h x).2 j).2 ⟨b1, hx_trans h (irN_get b1).1 b2 a2⟩

end

structure Iso (xs ys : List Int) (f : Nat → Nat) : Prop where
 len : ys.length = xs.length
 lt : ∀ x, x < xs.length → f x < xs.length
 inj : ∀ x y, x < xs.length → y < xs.length → f x = f y → x = y
 onto : ∀ y, y < xs.length → ∃ x, x < xs.length ∧ f x = y
 le : ∀ x y, x < xs.length → y < xs.length → (leX xs x y ↔ leX ys (f x) (f y))
section
variable {xs ys : List Int} {f : Nat → Nat} (hI : Iso xs ys f) (h : HyOK xs) (hO : Ord ys)
include hI h hO
theorem iso_M {x y : Nat} (hx : x < xs.length) (hy : y < xs.length) : hyM ys (f x) (f y) = (f (mX xs x y) : Int) := by
 obtain ⟨_, m1, m2, m3, m4⟩ := hx_M h hx hy
 have hl := hI.len
 refine ox_M_is hO (by rw [hl]; exact hI.lt x hx) (by rw [hl]; exact hI.lt y hy) (by rw [hl]; exact hI.lt _ m1) ((hI.le _ _ m1 hx).1 m2) ((hI.le _ _ m1 hy).1 m3) fun z hz a b => ?_
 rw [hl] at hz
 obtain ⟨w, hw, rfl⟩ := hI.onto z hz
 exact (hI.le _ _ hw m1).1 (m4 w hw ((hI.le _ _ hw hx).2 a) ((hI.le _ _ hw hy).2 b))
theorem iso_J {x y : Nat} (hx : x < xs.length) (hy : y < xs.length) : hyJ ys (f x) (f y) = (f (jX xs x y) : Int) := by
 obtain ⟨_, m1, m2, m3, m4⟩ := hx_J h hx hy
 have hl := hI.len
 refine ox_J_is hO (by rw [hl]; exact hI.lt x hx) (by rw [hl]; exact hI.lt y hy) (by rw [hl]; exact hI.lt _ m1) ((hI.le _ _ hx m1).1 m2) ((hI.le _ _ hy m1).1 m3) fun z hz a b => ?_
 rw [hl] at hz
 obtain ⟨w, hw, rfl⟩ := hI.onto z hz
 exact (hI.le _ _ m1 hw).1 (m4 w hw ((hI.le _ _ hx hw).2 a) ((hI.le _ _ hy hw).2 b))
theorem iso_me {x y : Nat} (hx : x < ys.length) (hy : y < ys.length) : 0 ≤ hyM ys x y := by
 have hl := hI.len
 obtain ⟨u, hu, rfl⟩ := hI.onto x (by omega)
 obtain ⟨v, hv, rfl⟩ := hI.onto y (by omega)
 rw [iso_M hI h hO hu hv]; omega
theorem iso_I {x y : Nat} (hx : x < xs.length) (hy : y < xs.length) : hyI ys (f x) (f y) = (f (iX xs x y) : Int) := by
 obtain ⟨_, m1, m2⟩ := hx_I h hx hy
 have hl := hI.len
 have hm : ∀ w, w < xs.length → mX ys (f w) (f x) = f (mX xs w x) := fun w hw => by rw [mX, iso_M hI h hO hw hx, Int.toNat_natCast]
 have hfx : f x < ys.length := by rw [hl]; exact hI.lt x hx
 refine ox_I_is hO hfx (by rw [hl]; exact hI.lt y hy) (by rw [hl]; exact hI.lt _ m1) (fun z hz => iso_me hI h hO hz hfx) ?_ fun z hz a => ?_
 ·rw [hm _ m1]
  exact (hI.le _ _ (hx_M h m1 hx).2.1 hy).1 ((m2 _ m1).2 (hx_refl h m1))
 ·rw [hl] at hz
  obtain ⟨w, hw, rfl⟩ := hI.onto z hz
  rw [hm w hw] at a
  exact (hI.le _ _ hw m1).1 ((m2 w hw).1 ((hI.le _ _ (hx_M h hw hx).2.1 hy).2 a))
theorem iso_b : lowF ys (fullM ys.length) = (f (bX xs) : Int) := by
 obtain ⟨_, m1, m2⟩ := hx_b h
 have hl := hI.len
 refine ox_b_is hO (by rw [hl]; exact hI.lt _ m1) fun z hz => ?_
 rw [hl] at hz
 obtain ⟨w, hw, rfl⟩ := hI.onto z hz
 exact (hI.le _ _ m1 hw).1 (m2 w hw)
theorem iso_t : lowF (invA ys ys.length) (fullM ys.length) = (f (tX xs) : Int) := by
 obtain ⟨_, m1, m2⟩ := hx_t h
 have hl := hI.len
 refine ox_t_is hO (by rw [hl]; exact hI.lt _ m1) fun z hz => ?_
 rw [hl] at hz
 obtain ⟨w, hw, rfl⟩ := hI.onto z hz
 exact (hI.le _ _ hw m1).1 (m2 w hw)
theorem iso_hy : HyOK ys := by
 have hl := hI.len
 refine ox_hy hO (by have := h.n0; omega) (fun x y hx hy => iso_me hI h hO hx hy) (fun x y hx hy => ?_) fun x y hx hy => ?_
 ·obtain ⟨u, hu, rfl⟩ := hI.onto x (by omega)
  obtain ⟨v, hv, rfl⟩ := hI.onto y (by omega)
  rw [iso_J hI h hO hu hv]; omega
 ·obtain ⟨u, hu, rfl⟩ := hI.onto x (by omega)
  obtain ⟨v, hv, rfl⟩ := hI.onto y (by omega)
  rw [iso_I hI h hO hu hv]; omega
theorem iso_ir {x : Nat} (hx : x < xs.length) : irB ys (f x) = true ↔ irB xs x = true := by
 have hl := hI.len
 have hb : bX ys = f (bX xs) := by rw [bX, iso_b hI h hO, Int.toNat_natCast]
 have hj : ∀ u v, u < xs.length → v < xs.length → jX ys (f u) (f v) = f (jX xs u v) := fun u v hu hv => by rw [jX, iso_J hI h hO hu hv, Int.toNat_natCast]
 rw [irB_iff, irB_iff, hb]
 refine and_congr (not_congr ⟨fun e => hI.inj _ _ hx (hx_b h).2.1 e, fun e => by rw [e]⟩) ⟨fun q u hu v hv e => ?_, fun q u hu v hv e => ?_⟩
 ·have := q (f u) (by rw [hl]; exact hI.lt u hu) (f v) (by rw [hl]; exact hI.lt v hv) (by rw [hj u v hu hv, e])
  exact this.imp (hI.inj _ _ hu hx) (hI.inj _ _ hv hx)
 ·obtain ⟨u2, hu2, rfl⟩ := hI.onto u (by omega)
  obtain ⟨v2, hv2, rfl⟩ := hI.onto v (by omega)
  rw [hj u2 v2 hu2 hv2] at e
  exact (q u2 hu2 v2 hv2 (hI.inj _ _ (hx_J h hu2 hv2).2.1 hx e)).imp (fun e => by rw [e]) fun e => by rw [e]
end
end Go.Proofs.YtjllngcefoohpaaGreat

/-! StackPosets of both packages and its law. -/
namespace Go.Proofs.YtjllngcefoohpaaGreat
open Go.RowKit Go.Abs
def stL (n : Int) (xs : List Int) (m : Int) (ys : List Int) : List Int := (xs.map fun x => bor x (shl64 ((shl64 1 m) - 1) n)) ++ ys.map fun y => shl64 y n
def stX (n : Int) (xs : List Int) (m : Int) (i : Nat) : List Int := (xs.take i).map fun x => bor x (shl64 ((shl64 1 m) - 1) n)
def stY (n : Int) (xs : List Int) (m : Int) (ys : List Int) (j : Nat) : List Int := (xs.map fun x => bor x (shl64 ((shl64 1 m) - 1) n)) ++ ((ys.take j).map fun y => shl64 y n)
theorem stX_len {n m : Int} {xs : List Int} {i : Nat} (h : i ≤ xs.length) : (stX n xs m i).length = i := by simp [stX]; omega
theorem stY_len {n m : Int} {xs ys : List Int} {j : Nat} (h : j ≤ ys.length) : (stY n xs m ys j).length = xs.length + j := by simp [stY]; omega
theorem stY_end {n m : Int} {xs ys : List Int} {j : Nat} (h : j = ys.length) : stY n xs m ys j = stL n xs m ys := by rw [stY, h, List.take_length]; rfl
theorem stY_zero {n m : Int} {xs ys : List Int} {i : Nat} (h : i = xs.length) : stX n xs m i = stY n xs m ys 0 := by rw [stX, stY, h, List.take_length]; simp
theorem stL_len (n : Int) (xs : List Int) (m : Int) (ys : List Int) : (stL n xs m ys).length = xs.length + ys.length := by simp [stL]
theorem map_take {f : Int → Int} {xs : List Int} {i : Nat} (h : i < xs.length) : (xs.take i).map f ++ [f (xs.getD i 0)] = (xs.take (i + 1)).map f := by
 rw [List.take_succ_eq_append_getElem h, List.map_append, List.getD_eq_getElem?_getD, List.getElem?_eq_getElem h]
 rfl
theorem stX_step {n m : Int} {xs : List Int} {i : Nat} (h : i < xs.length) : stX n xs m i ++ [bor (xs.getD i 0) (shl64 ((shl64 1 m) - 1) n)] = stX n xs m (i + 1) := map_take (f := fun x => bor x (shl64 ((shl64 1 m) - 1) n)) h
theorem stY_step {n m : Int} {xs ys : List Int} {j : Nat} (h : j < ys.length) : stY n xs m ys j ++ [shl64 (ys.getD j 0) n] = stY n xs m ys (j + 1) := by rw [stY, List.append_assoc, map_take (f := fun y => shl64 y n) h]; rfl
theorem l16Make_c (xs : List Int) (hl : xs.length ≤ 1000000000) : CallA Tryz.prog 179 [LI xs] (.agg [AI xs.length, ownA eI 2 1 xs]) := by
 refine CallA.of Tryz.func179 rfl (by kernel_rfl) (R.go 9 (k16 true (l01Own_c xs hl) ?_))
 exact R.go 3 (k19 (.agg [AI xs.length, ownA eI 2 1 xs]) (by rfl))
end Go.Proofs.YtjllngcefoohpaaGreat

/-! Stacks of posets are posets; orders of numbers (texts of sh1, sh4 and uu1 under names of their own). -/
namespace Go.Proofs.YtjllngcefoohpaaGreat
open Go.RowKit Go.Abs
theorem glen_le {α : Type} : ∀ {l m : List α}, l.Nodup → (∀ x ∈ l, x ∈ m) → l.length ≤ m.length
 | [], _, _, _ => Nat.zero_le _
 | x :: l, m, hn, h => by
  obtain ⟨a, b, rfl⟩ := List.append_of_mem (h x (List.mem_cons_self ..))
  rw [List.nodup_cons] at hn
  have := glen_le (l := l) (m := a ++ b) hn.2 fun y hy => by
   have := h y (List.mem_cons_of_mem _ hy)
   rcases List.mem_append.1 this with h1 | h1
   ·exact List.mem_append.2 (.inl h1)
   ·rcases List.mem_cons.1 h1 with rfl | h1
    ·exact absurd hy hn.1
    ·exact List.mem_append.2 (.inr h1)
  simp only [List.length_cons, List.length_append] at this ⊢
  omega
theorem nodup_map {α β : Type} {f : α → β} : ∀ {l : List α}, l.Nodup → (∀ x ∈ l, ∀ y ∈ l, f x = f y → x = y) → (l.map f).Nodup
 | [], _, _ => List.nodup_nil
 | x :: l, hn, h => by
  rw [List.nodup_cons] at hn
  rw [List.map_cons, List.nodup_cons]
  refine ⟨fun hm => ?_, nodup_map hn.2 fun y hy z hz => h y (List.mem_cons_of_mem _ hy) z (List.mem_cons_of_mem _ hz)⟩
  obtain ⟨y, hy, e⟩ := List.mem_map.1 hm
  rw [h y (List.mem_cons_of_mem _ hy) x (List.mem_cons_self ..) e] at hy
  exact hn.1 hy
theorem gtb_shl {N k : Nat} {m : Int} (hN : N + k ≤ 61) (hm : InM N m) : InM (N + k) (shl64 m (k : Int)) ∧ ∀ i, tb (shl64 m (k : Int)) i = (decide (k ≤ i) && tb m (i - k)) := by
 obtain ⟨a, rfl, ha⟩ := inM_nat hm
 have hlt : a * 2 ^ k < 2 ^ (N + k) := by
  rw [Nat.pow_add]
  exact Nat.mul_lt_mul_of_pos_right ha (Nat.two_pow_pos k)
 have h62 := inM_62 hN hlt
 have e : shl64 (a : Int) (k : Int) = ((a * 2 ^ k : Nat) : Int) := by
  unfold shl64
  rw [show min (k : Int).toNat 64 = k by omega]
  have e2 : (a : Int) * 2 ^ k = ((a * 2 ^ k : Nat) : Int) := by push_cast; rfl
  rw [e2]
  generalize a * 2 ^ k = q at h62
  have : (2 : Nat) ^ 62 = 4611686018427387904 := by decide
  exact wrap_id (by omega) (by omega)
 refine ⟨?_, fun i => ?_⟩
 ·rw [e]
  exact ⟨Int.natCast_nonneg _, by rw [Int.toNat_natCast]; exact hlt⟩
 ·rw [e]
  unfold tb
  rw [Int.toNat_natCast, Int.toNat_natCast, Nat.mul_comm, Nat.testBit_two_pow_mul]
theorem gpo_mk {n : Int} {xs : List Int} (h0 : 0 ≤ n) (h8 : n ≤ 8) (hl : (xs.length : Int) = n) (hr : ∀ i : Nat, i < n.toNat → InM n.toNat (xs.getD i 0)) (rf : ∀ i : Nat, i < n.toNat → tb (xs.getD i 0) i = true) (tr : ∀ i j k : Nat, i < n.toNat → tb (xs.getD i 0) j = true → tb (xs.getD j 0) k = true → tb (xs.getD i 0) k = true) (asy : ∀ i j : Nat, i < n.toNat → tb (xs.getD i 0) j = true → tb (xs.getD j 0) i = true → i = j) : okPo n xs = true := by
 have hF : okFr n xs = true := by
  refine okFr_mk ((inR_iff _ _ _).2 (by omega)) hl ?_
  rw [List.any_eq_false]
  intro x hx
  obtain ⟨j, hj, rfl⟩ := List.getElem_of_mem hx
  have h1 := hr j (by omega)
  rw [List.getD_eq_getElem?_getD, List.getElem?_eq_getElem hj] at h1
  have := (full_rng (n := n.toNat) (by omega)).1 h1
  rw [show ((n.toNat : Nat) : Int) = n by omega] at this
  simp only [Option.getD_some] at this
  rw [this]; simp
 simp only [okPo, Bool.and_eq_true]
 exact ⟨hF, rB_iff.2 rf, tB_iff.2 fun i hi j _ k _ a b => tr i j k hi a b, aB_iff.2 fun i hi j _ a b => asy i j hi a b⟩
theorem gst_get1 {n m : Int} {xs ys : List Int} (hP : okPo n xs = true) {i : Nat} (hi : i < n.toNat) : (stL n xs m ys).getD i 0 = bor (xs.getD i 0) (shl64 ((shl64 1 m) - 1) n) := by
 obtain ⟨h0, _, hl, _⟩ := hq_po_rel hP
 rw [stL, List.getD_eq_getElem?_getD, List.getElem?_append_left (by rw [List.length_map]; omega), List.getElem?_map, List.getD_eq_getElem?_getD, List.getElem?_eq_getElem (by omega)]
 rfl
theorem gst_get2 {n m : Int} {xs ys : List Int} (hP : okPo n xs = true) (hQ : okPo m ys = true) {j : Nat} (hj : j < m.toNat) : (stL n xs m ys).getD (n.toNat + j) 0 = shl64 (ys.getD j 0) n := by
 obtain ⟨h0, _, hl, _⟩ := hq_po_rel hP
 obtain ⟨_, _, hm, _⟩ := hq_po_rel hQ
 rw [stL, List.getD_eq_getElem?_getD, List.getElem?_append_right (by rw [List.length_map]; omega), List.length_map, show n.toNat + j - xs.length = j by omega, List.getElem?_map, List.getD_eq_getElem?_getD, List.getElem?_eq_getElem (by omega)]
 rfl
theorem gnm_split {n m : Int} {xs ys : List Int} (hP : okPo n xs = true) (hQ : okPo m ys = true) {i : Nat} (hi : i < (n + m).toNat) : i < n.toNat ∨ ∃ j, j < m.toNat ∧ i = n.toNat + j := by
 obtain ⟨h0, _, _⟩ := hq_po_rel hP
 obtain ⟨h1, _, _⟩ := hq_po_rel hQ
 by_cases h : i < n.toNat
 ·exact .inl h
 ·exact .inr ⟨i - n.toNat, by omega, by omega⟩
section
variable {n m : Int} {xs ys : List Int} (hP : okPo n xs = true) (hQ : okPo m ys = true) (h8 : n + m ≤ 8)
include hP hQ h8
theorem gsh_bits {y : Int} (hy : InM m.toNat y) : InM (n + m).toNat (shl64 y n) ∧ ∀ k, tb (shl64 y n) k = true ↔ n.toNat ≤ k ∧ tb y (k - n.toNat) = true := by
 obtain ⟨h0, _, _⟩ := hq_po_rel hP
 obtain ⟨h1, _, _⟩ := hq_po_rel hQ
 obtain ⟨a, b⟩ := gtb_shl (N := m.toNat) (k := n.toNat) (by omega) hy
 rw [show ((n.toNat : Nat) : Int) = n by omega] at a b
 refine ⟨by rw [show (n + m).toNat = m.toNat + n.toNat by omega]; exact a, fun k => ?_⟩
 rw [b k, Bool.and_eq_true, decide_eq_true_iff]
theorem gst_bits1 {i : Nat} (hi : i < n.toNat) : InM (n + m).toNat ((stL n xs m ys).getD i 0) ∧ ∀ k, tb ((stL n xs m ys).getD i 0) k = true ↔ tb (xs.getD i 0) k = true ∨ n.toNat ≤ k ∧ k < n.toNat + m.toNat := by
 obtain ⟨h0, _, hl, hr, _⟩ := hq_po_rel hP
 obtain ⟨h1, _, _⟩ := hq_po_rel hQ
 have hf := inM_full (n := m.toNat) (by omega)
 have ht := fun k => tb_full (n := m.toNat) (by omega) k
 rw [show ((m.toNat : Nat) : Int) = m by omega] at hf ht
 obtain ⟨a, b⟩ := gsh_bits hP hQ h8 hf
 have hx := inM_mono (n' := (n + m).toNat) (by omega) (hr.2 i hi)
 rw [gst_get1 hP hi]
 refine ⟨inM_bor (by omega) hx a, fun k => ?_⟩
 rw [tb_bor (by omega) hx a, Bool.or_eq_true, b k, ht, decide_eq_true_iff]
 constructor
 ·rintro (h | ⟨h2, h3⟩)
  ·exact .inl h
  ·exact .inr ⟨h2, by omega⟩
 ·rintro (h | ⟨h2, h3⟩)
  ·exact .inl h
  ·exact .inr ⟨h2, by omega⟩
theorem gst_bits2 {j : Nat} (hj : j < m.toNat) : InM (n + m).toNat ((stL n xs m ys).getD (n.toNat + j) 0) ∧ ∀ k, tb ((stL n xs m ys).getD (n.toNat + j) 0) k = true ↔ n.toNat ≤ k ∧ tb (ys.getD j 0) (k - n.toNat) = true := by
 obtain ⟨_, _, _, hs, _⟩ := hq_po_rel hQ
 rw [gst_get2 hP hQ hj]
 exact gsh_bits hP hQ h8 (hs.2 j hj)
theorem gtwo_po {zs : List Int} {c : Bool} (hl : (zs.length : Int) = n + m) (b1 : ∀ i, i < n.toNat → InM (n + m).toNat (zs.getD i 0) ∧ ∀ k, tb (zs.getD i 0) k = true ↔ tb (xs.getD i 0) k = true ∨ (c = true ∧ n.toNat ≤ k ∧ k < n.toNat + m.toNat)) (b2 : ∀ j, j < m.toNat → InM (n + m).toNat (zs.getD (n.toNat + j) 0) ∧ ∀ k, tb (zs.getD (n.toNat + j) 0) k = true ↔ n.toNat ≤ k ∧ tb (ys.getD j 0) (k - n.toNat) = true) : okPo (n + m) zs = true := by
 obtain ⟨h0, _, hxl, hr, rf, tr, asy⟩ := hq_po_rel hP
 obtain ⟨h1, _, hyl, hs, rf2, tr2, asy2⟩ := hq_po_rel hQ
 have hlt : ∀ {i k : Nat}, i < n.toNat → tb (xs.getD i 0) k = true → k < n.toNat := fun hi h => tb_lt (hr.2 _ hi) h
 have hlt2 : ∀ {i k : Nat}, i < m.toNat → tb (ys.getD i 0) k = true → k < m.toNat := fun hi h => tb_lt (hs.2 _ hi) h
 refine gpo_mk (by omega) h8 hl (fun i hi => ?_) (fun i hi => ?_) (fun i j k hi a b => ?_) (fun i j hi a b => ?_)
 ·rcases gnm_split hP hQ hi with hi | ⟨j, hj, rfl⟩
  ·exact (b1 i hi).1
  ·exact (b2 j hj).1
 ·rcases gnm_split hP hQ hi with hi | ⟨j, hj, rfl⟩
  ·exact ((b1 i hi).2 i).2 (.inl (rf i hi))
  ·exact ((b2 j hj).2 _).2 ⟨by omega, by rw [Nat.add_sub_cancel_left]; exact rf2 j hj⟩
 ·rcases gnm_split hP hQ hi with hi | ⟨i', hi', rfl⟩
  ·rcases ((b1 i hi).2 j).1 a with a | ⟨hc, a1, a2⟩
   ·have hj := hlt hi a
    rcases ((b1 j hj).2 k).1 b with b | b
    ·exact ((b1 i hi).2 k).2 (.inl (tr i j k hi a b))
    ·exact ((b1 i hi).2 k).2 (.inr b)
   ·have hj : j - n.toNat < m.toNat := by omega
    have e : j = n.toNat + (j - n.toNat) := by omega
    rw [e] at b
    obtain ⟨b3, b4⟩ := ((b2 _ hj).2 k).1 b
    have := hlt2 hj b4
    exact ((b1 i hi).2 k).2 (.inr ⟨hc, b3, by omega⟩)
  ·obtain ⟨a1, a2⟩ := ((b2 i' hi').2 j).1 a
   have hj := hlt2 hi' a2
   have e : j = n.toNat + (j - n.toNat) := by omega
   rw [e] at b
   obtain ⟨b3, b4⟩ := ((b2 _ hj).2 k).1 b
   exact ((b2 i' hi').2 k).2 ⟨b3, tr2 _ _ _ hi' a2 b4⟩
 ·rcases gnm_split hP hQ hi with hi | ⟨i', hi', rfl⟩
  ·rcases ((b1 i hi).2 j).1 a with a | ⟨hc, a1, a2⟩
   ·have hj := hlt hi a
    rcases ((b1 j hj).2 i).1 b with b | b
    ·exact asy i j hi a b
    ·omega
   ·have hj : j - n.toNat < m.toNat := by omega
    have e : j = n.toNat + (j - n.toNat) := by omega
    rw [e] at b
    have := (((b2 _ hj).2 i).1 b).1
    omega
  ·obtain ⟨a1, a2⟩ := ((b2 i' hi').2 j).1 a
   have hj := hlt2 hi' a2
   have e : j = n.toNat + (j - n.toNat) := by omega
   rw [e] at b
   obtain ⟨b3, b4⟩ := ((b2 _ hj).2 _).1 b
   rw [Nat.add_sub_cancel_left] at b4
   have := asy2 _ _ hi' a2 b4
   omega
theorem gst_po : okPo (n + m) (stL n xs m ys) = true := by
 obtain ⟨_, _, hxl, _⟩ := hq_po_rel hP
 obtain ⟨_, _, hyl, _⟩ := hq_po_rel hQ
 refine gtwo_po hP hQ h8 (c := true) (by rw [stL_len]; omega) (fun i hi => ⟨(gst_bits1 hP hQ h8 hi).1, fun k => ?_⟩) (fun j hj => gst_bits2 hP hQ h8 hj)
 rw [(gst_bits1 hP hQ h8 hi).2 k]
 simp
end
def gPM (n : Int) (o : List Int) : Prop := o.length = n.toNat ∧ o.Nodup ∧ ∀ v ∈ o, 0 ≤ v ∧ v < n
theorem gpm_get {n : Int} {o : List Int} (h : gPM n o) {i : Nat} (hi : i < n.toNat) : o.getD i 0 ∈ o ∧ 0 ≤ o.getD i 0 ∧ o.getD i 0 < n := by
 have : o.getD i 0 ∈ o := by
  rw [List.getD_eq_getElem?_getD, List.getElem?_eq_getElem (by rw [h.1]; exact hi)]
  exact List.getElem_mem _
 exact ⟨this, h.2.2 _ this⟩
theorem gpm_onto {n : Int} {o : List Int} (h : gPM n o) {y : Nat} (hy : y < n.toNat) : ∃ k, k < n.toNat ∧ o.getD k 0 = (y : Int) := by
 have hm : (y : Int) ∈ o := by
  refine Classical.byContradiction fun hn => ?_
  have h1 := glen_le (l := (y : Int) :: o) (m := (List.range n.toNat).map fun i : Nat => (i : Int)) (List.nodup_cons.2 ⟨hn, h.2.1⟩) fun v hv => by
   rcases List.mem_cons.1 hv with rfl | hv
   ·exact List.mem_map.2 ⟨y, List.mem_range.2 hy, rfl⟩
   ·have := h.2.2 v hv
    exact List.mem_map.2 ⟨v.toNat, List.mem_range.2 (by omega), by omega⟩
  simp only [List.length_cons, List.length_map, List.length_range, h.1] at h1
  omega
 obtain ⟨k, hk, e⟩ := List.getElem_of_mem hm
 refine ⟨k, by rw [← h.1]; exact hk, ?_⟩
 rw [List.getD_eq_getElem?_getD, List.getElem?_eq_getElem hk, e]
 rfl
end Go.Proofs.YtjllngcefoohpaaGreat

/-! Draws, existential: numbers. -/
namespace Go.Proofs.YtjllngcefoohpaaGreat
open Go.RowKit Go.Abs
theorem u64and (a : Int) : 0 ≤ bits .and .u64 a 16777215 ∧ bits .and .u64 a 16777215 ≤ 16777215 := by
 show 0 ≤ IntKind.u64.wrap _ ∧ IntKind.u64.wrap _ ≤ 16777215
 rw [IntKind.wrap_u64]
 have h : (BitVec.ofInt 64 a &&& BitVec.ofInt 64 16777215).toNat ≤ 16777215 := by
  rw [BitVec.toNat_and]
  exact Nat.le_trans Nat.and_le_right (by decide)
 have e : ∀ k : Nat, k ≤ 16777215 → 0 ≤ ((k : Int) % 18446744073709551616) ∧ ((k : Int) % 18446744073709551616) ≤ 16777215 := fun k hk => by omega
 exact e _ h
def BY (c : List Int) : Prop := c.length ≤ 4096 ∧ ∀ j : Nat, j < c.length → 0 ≤ c.getD j 0 ∧ c.getD j 0 ≤ 255
theorem mod_rng {x n : Int} (h : ¬ n < 1) : (n < 1 → x % n = 0) ∧ (1 ≤ n → 0 ≤ x % n ∧ x % n < n) := ⟨fun h1 => absurd h1 h, fun h1 => ⟨Int.emod_nonneg _ (by omega), Int.emod_lt_of_pos _ (by omega)⟩⟩
theorem nextX_c_r1 (c : List Int) (p : Nat) (h n : Int) (eo1 so1 no1 : Nat) (co1 : List AV) (hc : BY c) : CallX Tryz.prog 101 [.ptr 0 0, AI n] [.box 157 [LB c, AI (p : Int), .int .u64 h], .list eo1 so1 no1 co1] (fun (resX : AV) (objX : List AObj) => ∃ v : Int, ∃ p1 : Nat, ∃ h1 : Int, ((n < 1 → v = 0) ∧ (1 ≤ n → 0 ≤ v ∧ v < n)) ∧ resX = AI v ∧ objX = [.box 157 [LB c, AI (p1 : Int), .int .u64 h1], .list eo1 so1 no1 co1]) := by
 have hcl : c.length ≤ 4096 := hc.1
 have hcb := hc.2
 have hxr := fun h => u64and (shr64 (IntKind.u64.wrap (IntKind.u64.wrap (h * 6364136223846793005) + 1442695040888963407)) 33)
 have hxh := hxr h
 refine CallX.dropE (CallX.ofF Tryz.func101 rfl (by kernel_rfl) ?_)
 intro usC frC hfC
 refine R.go 10 (k3 (n < 1) (fun c1 => ?_) (fun c1 => ?_))
 ·exact R.go 4 (R.retX (res := AI 0) (hp' := [.box 157 [LB c, AI (p : Int), .int .u64 h], .list eo1 so1 no1 co1, .dead]) (by kernel_rfl) (by kernel_rfl) (by kernel_rfl) (by kernel_rfl) ⟨[0, 1], by kernel_rfl, by decide, 0, p, h, by first | exact mod_rng (by assumption) | exact ⟨fun _ => rfl, fun h1 => by omega⟩, by kernel_rfl, by kernel_rfl⟩)
 refine R.go 22 (k2 .i64 (bits .and .u64 (shr64 (IntKind.u64.wrap ((IntKind.u64.wrap (h * 6364136223846793005)) + 1442695040888963407)) 33) 16777215) (wrap_id (by omega) (by omega)) (R.go 16 (k3 ((p : Int) < (c.length : Int)) (fun c2 => ?_) (fun c2 => ?_))))
 ·have hbp := hcb p (by omega)
  refine R.go 11 (k9 eB c 0 p (p : Int) eB_len (R.go 1 (k2 .i64 (c.getD p 0) (wrap_id (by omega) (by omega)) (k1 ((bits .and .u64 (shr64 (IntKind.u64.wrap ((IntKind.u64.wrap (h * 6364136223846793005)) + 1442695040888963407)) 33) 16777215) + (c.getD p 0)) (R.go 8 (k1 ((p : Int) + 1) (R.go 8 (R.rem ((bits .and .u64 (shr64 (IntKind.u64.wrap ((IntKind.u64.wrap (h * 6364136223846793005)) + 1442695040888963407)) 33) 16777215) + (c.getD p 0)) n (by kernel_rfl) (by omega) (by omega) (by kernel_rfl) ?_))))))))
  exact R.go 2 (R.retX (res := AI (((bits .and .u64 (shr64 (IntKind.u64.wrap ((IntKind.u64.wrap (h * 6364136223846793005)) + 1442695040888963407)) 33) 16777215) + (c.getD p 0)) % n)) (hp' := [.box 157 [LB c, AI ((p : Int) + 1), .int .u64 (IntKind.u64.wrap ((IntKind.u64.wrap (h * 6364136223846793005)) + 1442695040888963407))], .list eo1 so1 no1 co1, .dead]) (by kernel_rfl) (by kernel_rfl) (by kernel_rfl) (by kernel_rfl) ⟨[0, 1], by kernel_rfl, by decide, ((bits .and .u64 (shr64 (IntKind.u64.wrap ((IntKind.u64.wrap (h * 6364136223846793005)) + 1442695040888963407)) 33) 16777215) + (c.getD p 0)) % n, p + 1, IntKind.u64.wrap ((IntKind.u64.wrap (h * 6364136223846793005)) + 1442695040888963407), by first | exact mod_rng (by assumption) | exact ⟨fun _ => rfl, fun h1 => by omega⟩, by kernel_rfl, by kernel_rfl⟩)
 refine R.go 5 (R.rem (bits .and .u64 (shr64 (IntKind.u64.wrap ((IntKind.u64.wrap (h * 6364136223846793005)) + 1442695040888963407)) 33) 16777215) n (by kernel_rfl) (by omega) (by omega) (by kernel_rfl) ?_)
 exact R.go 2 (R.retX (res := AI ((bits .and .u64 (shr64 (IntKind.u64.wrap ((IntKind.u64.wrap (h * 6364136223846793005)) + 1442695040888963407)) 33) 16777215) % n)) (hp' := [.box 157 [LB c, AI (p : Int), .int .u64 (IntKind.u64.wrap ((IntKind.u64.wrap (h * 6364136223846793005)) + 1442695040888963407))], .list eo1 so1 no1 co1, .dead]) (by kernel_rfl) (by kernel_rfl) (by kernel_rfl) (by kernel_rfl) ⟨[0, 1], by kernel_rfl, by decide, (bits .and .u64 (shr64 (IntKind.u64.wrap ((IntKind.u64.wrap (h * 6364136223846793005)) + 1442695040888963407)) 33) 16777215) % n, p, IntKind.u64.wrap ((IntKind.u64.wrap (h * 6364136223846793005)) + 1442695040888963407), by first | exact mod_rng (by assumption) | exact ⟨fun _ => rfl, fun h1 => by omega⟩, by kernel_rfl, by kernel_rfl⟩)
theorem nextX_c_r3 (c : List Int) (p : Nat) (h n : Int) (eo1 so1 no1 : Nat) (co1 : List AV) (eo2 so2 no2 : Nat) (co2 : List AV) (eo3 so3 no3 : Nat) (co3 : List AV) (hc : BY c) : CallX Tryz.prog 101 [.ptr 0 0, AI n] [.box 157 [LB c, AI (p : Int), .int .u64 h], .list eo1 so1 no1 co1, .list eo2 so2 no2 co2, .list eo3 so3 no3 co3] (fun (resX : AV) (objX : List AObj) => ∃ v : Int, ∃ p1 : Nat, ∃ h1 : Int, ((n < 1 → v = 0) ∧ (1 ≤ n → 0 ≤ v ∧ v < n)) ∧ resX = AI v ∧ objX = [.box 157 [LB c, AI (p1 : Int), .int .u64 h1], .list eo1 so1 no1 co1, .list eo2 so2 no2 co2, .list eo3 so3 no3 co3]) := by
 have hcl : c.length ≤ 4096 := hc.1
 have hcb := hc.2
 have hxr := fun h => u64and (shr64 (IntKind.u64.wrap (IntKind.u64.wrap (h * 6364136223846793005) + 1442695040888963407)) 33)
 have hxh := hxr h
 refine CallX.dropE (CallX.ofF Tryz.func101 rfl (by kernel_rfl) ?_)
 intro usC frC hfC
 refine R.go 10 (k3 (n < 1) (fun c1 => ?_) (fun c1 => ?_))
 ·exact R.go 4 (R.retX (res := AI 0) (hp' := [.box 157 [LB c, AI (p : Int), .int .u64 h], .list eo1 so1 no1 co1, .list eo2 so2 no2 co2, .list eo3 so3 no3 co3, .dead]) (by kernel_rfl) (by kernel_rfl) (by kernel_rfl) (by kernel_rfl) ⟨[0, 1, 2, 3], by kernel_rfl, by decide, 0, p, h, by first | exact mod_rng (by assumption) | exact ⟨fun _ => rfl, fun h1 => by omega⟩, by kernel_rfl, by kernel_rfl⟩)
 refine R.go 22 (k2 .i64 (bits .and .u64 (shr64 (IntKind.u64.wrap ((IntKind.u64.wrap (h * 6364136223846793005)) + 1442695040888963407)) 33) 16777215) (wrap_id (by omega) (by omega)) (R.go 16 (k3 ((p : Int) < (c.length : Int)) (fun c2 => ?_) (fun c2 => ?_))))
 ·have hbp := hcb p (by omega)
  refine R.go 11 (k9 eB c 0 p (p : Int) eB_len (R.go 1 (k2 .i64 (c.getD p 0) (wrap_id (by omega) (by omega)) (k1 ((bits .and .u64 (shr64 (IntKind.u64.wrap ((IntKind.u64.wrap (h * 6364136223846793005)) + 1442695040888963407)) 33) 16777215) + (c.getD p 0)) (R.go 8 (k1 ((p : Int) + 1) (R.go 8 (R.rem ((bits .and .u64 (shr64 (IntKind.u64.wrap ((IntKind.u64.wrap (h * 6364136223846793005)) + 1442695040888963407)) 33) 16777215) + (c.getD p 0)) n (by kernel_rfl) (by omega) (by omega) (by kernel_rfl) ?_))))))))
  exact R.go 2 (R.retX (res := AI (((bits .and .u64 (shr64 (IntKind.u64.wrap ((IntKind.u64.wrap (h * 6364136223846793005)) + 1442695040888963407)) 33) 16777215) + (c.getD p 0)) % n)) (hp' := [.box 157 [LB c, AI ((p : Int) + 1), .int .u64 (IntKind.u64.wrap ((IntKind.u64.wrap (h * 6364136223846793005)) + 1442695040888963407))], .list eo1 so1 no1 co1, .list eo2 so2 no2 co2, .list eo3 so3 no3 co3, .dead]) (by kernel_rfl) (by kernel_rfl) (by kernel_rfl) (by kernel_rfl) ⟨[0, 1, 2, 3], by kernel_rfl, by decide, ((bits .and .u64 (shr64 (IntKind.u64.wrap ((IntKind.u64.wrap (h * 6364136223846793005)) + 1442695040888963407)) 33) 16777215) + (c.getD p 0)) % n, p + 1, IntKind.u64.wrap ((IntKind.u64.wrap (h * 6364136223846793005)) + 1442695040888963407), by first | exact mod_rng (by assumption) | exact ⟨fun _ => rfl, fun h1 => by omega⟩, by kernel_rfl, by kernel_rfl⟩)
 refine R.go 5 (R.rem (bits .and .u64 (shr64 (IntKind.u64.wrap ((IntKind.u64.wrap (h * 6364136223846793005)) + 1442695040888963407)) 33) 16777215) n (by kernel_rfl) (by omega) (by omega) (by kernel_rfl) ?_)
 exact R.go 2 (R.retX (res := AI ((bits .and .u64 (shr64 (IntKind.u64.wrap ((IntKind.u64.wrap (h * 6364136223846793005)) + 1442695040888963407)) 33) 16777215) % n)) (hp' := [.box 157 [LB c, AI (p : Int), .int .u64 (IntKind.u64.wrap ((IntKind.u64.wrap (h * 6364136223846793005)) + 1442695040888963407))], .list eo1 so1 no1 co1, .list eo2 so2 no2 co2, .list eo3 so3 no3 co3, .dead]) (by kernel_rfl) (by kernel_rfl) (by kernel_rfl) (by kernel_rfl) ⟨[0, 1, 2, 3], by kernel_rfl, by decide, (bits .and .u64 (shr64 (IntKind.u64.wrap ((IntKind.u64.wrap (h * 6364136223846793005)) + 1442695040888963407)) 33) 16777215) % n, p, IntKind.u64.wrap ((IntKind.u64.wrap (h * 6364136223846793005)) + 1442695040888963407), by first | exact mod_rng (by assumption) | exact ⟨fun _ => rfl, fun h1 => by omega⟩, by kernel_rfl, by kernel_rfl⟩)
theorem nextX_c_r4 (c : List Int) (p : Nat) (h n : Int) (eo1 so1 no1 : Nat) (co1 : List AV) (eo2 so2 no2 : Nat) (co2 : List AV) (eo3 so3 no3 : Nat) (co3 : List AV) (eo4 so4 no4 : Nat) (co4 : List AV) (hc : BY c) : CallX Tryz.prog 101 [.ptr 0 0, AI n] [.box 157 [LB c, AI (p : Int), .int .u64 h], .list eo1 so1 no1 co1, .list eo2 so2 no2 co2, .list eo3 so3 no3 co3, .list eo4 so4 no4 co4] (fun (resX : AV) (objX : List AObj) => ∃ v : Int, ∃ p1 : Nat, ∃ h1 : Int, ((n < 1 → v = 0) ∧ (1 ≤ n → 0 ≤ v ∧ v < n)) ∧ resX = AI v ∧ objX = [.box 157 [LB c, AI (p1 : Int), .int .u64 h1], .list eo1 so1 no1 co1, .list eo2 so2 no2 co2, .list eo3 so3 no3 co3, .list eo4 so4 no4 co4]) := by
 have hcl : c.length ≤ 4096 := hc.1
 have hcb := hc.2
 have hxr := fun h => u64and (shr64 (IntKind.u64.wrap (IntKind.u64.wrap (h * 6364136223846793005) + 1442695040888963407)) 33)
 have hxh := hxr h
 refine CallX.dropE (CallX.ofF Tryz.func101 rfl (by kernel_rfl) ?_)
 intro usC frC hfC
 refine R.go 10 (k3 (n < 1) (fun c1 => ?_) (fun c1 => ?_))
 ·exact R.go 4 (R.retX (res := AI 0) (hp' := [.box 157 [LB c, AI (p : Int), .int .u64 h], .list eo1 so1 no1 co1, .list eo2 so2 no2 co2, .list eo3 so3 no3 co3, .list eo4 so4 no4 co4, .dead]) (by kernel_rfl) (by kernel_rfl) (by kernel_rfl) (by kernel_rfl) ⟨[0, 1, 2, 3, 4], by kernel_rfl, by decide, 0, p, h, by first | exact mod_rng (by assumption) | exact ⟨fun _ => rfl, fun h1 => by omega⟩, by kernel_rfl, by kernel_rfl⟩)
 refine R.go 22 (k2 .i64 (bits .and .u64 (shr64 (IntKind.u64.wrap ((IntKind.u64.wrap (h * 6364136223846793005)) + 1442695040888963407)) 33) 16777215) (wrap_id (by omega) (by omega)) (R.go 16 (k3 ((p : Int) < (c.length : Int)) (fun c2 => ?_) (fun c2 => ?_))))
 ·have hbp := hcb p (by omega)
  refine R.go 11 (k9 eB c 0 p (p : Int) eB_len (R.go 1 (k2 .i64 (c.getD p 0) (wrap_id (by omega) (by omega)) (k1 ((bits .and .u64 (shr64 (IntKind.u64.wrap ((IntKind.u64.wrap (h * 6364136223846793005)) + 1442695040888963407)) 33) 16777215) + (c.getD p 0)) (R.go 8 (k1 ((p : Int) + 1) (R.go 8 (R.rem ((bits .and .u64 (shr64 (IntKind.u64.wrap ((IntKind.u64.wrap (h * 6364136223846793005)) + 1442695040888963407)) 33) 16777215) + (c.getD p 0)) n (by kernel_rfl) (by omega) (by omega) (by kernel_rfl) ?_))))))))
  exact R.go 2 (R.retX (res := AI (((bits .and .u64 (shr64 (IntKind.u64.wrap ((IntKind.u64.wrap (h * 6364136223846793005)) + 1442695040888963407)) 33) 16777215) + (c.getD p 0)) % n)) (hp' := [.box 157 [LB c, AI ((p : Int) + 1), .int .u64 (IntKind.u64.wrap ((IntKind.u64.wrap (h * 6364136223846793005)) + 1442695040888963407))], .list eo1 so1 no1 co1, .list eo2 so2 no2 co2, .list eo3 so3 no3 co3, .list eo4 so4 no4 co4, .dead]) (by kernel_rfl) (by kernel_rfl) (by kernel_rfl) (by kernel_rfl) ⟨[0, 1, 2, 3, 4], by kernel_rfl, by decide, ((bits .and .u64 (shr64 (IntKind.u64.wrap ((IntKind.u64.wrap (h * 6364136223846793005)) + 1442695040888963407)) 33) 16777215) + (c.getD p 0)) % n, p + 1, IntKind.u64.wrap ((IntKind.u64.wrap (h * 6364136223846793005)) + 1442695040888963407), by first | exact mod_rng (by assumption) | exact ⟨fun _ => rfl, fun h1 => by omega⟩, by kernel_rfl, by kernel_rfl⟩)
 refine R.go 5 (R.rem (bits .and .u64 (shr64 (IntKind.u64.wrap ((IntKind.u64.wrap (h * 6364136223846793005)) + 1442695040888963407)) 33) 16777215) n (by kernel_rfl) (by omega) (by omega) (by kernel_rfl) ?_)
 exact R.go 2 (R.retX (res := AI ((bits .and .u64 (shr64 (IntKind.u64.wrap ((IntKind.u64.wrap (h * 6364136223846793005)) + 1442695040888963407)) 33) 16777215) % n)) (hp' := [.box 157 [LB c, AI (p : Int), .int .u64 (IntKind.u64.wrap ((IntKind.u64.wrap (h * 6364136223846793005)) + 1442695040888963407))], .list eo1 so1 no1 co1, .list eo2 so2 no2 co2, .list eo3 so3 no3 co3, .list eo4 so4 no4 co4, .dead]) (by kernel_rfl) (by kernel_rfl) (by kernel_rfl) (by kernel_rfl) ⟨[0, 1, 2, 3, 4], by kernel_rfl, by decide, (bits .and .u64 (shr64 (IntKind.u64.wrap ((IntKind.u64.wrap (h * 6364136223846793005)) + 1442695040888963407)) 33) 16777215) % n, p, IntKind.u64.wrap ((IntKind.u64.wrap (h * 6364136223846793005)) + 1442695040888963407), by first | exact mod_rng (by assumption) | exact ⟨fun _ => rfl, fun h1 => by omega⟩, by kernel_rfl, by kernel_rfl⟩)
theorem nextX_c_r5 (c : List Int) (p : Nat) (h n : Int) (eo1 so1 no1 : Nat) (co1 : List AV) (eo2 so2 no2 : Nat) (co2 : List AV) (eo3 so3 no3 : Nat) (co3 : List AV) (eo4 so4 no4 : Nat) (co4 : List AV) (eo5 so5 no5 : Nat) (co5 : List AV) (hc : BY c) : CallX Tryz.prog 101 [.ptr 0 0, AI n] [.box 157 [LB c, AI (p : Int), .int .u64 h], .list eo1 so1 no1 co1, .list eo2 so2 no2 co2, .list eo3 so3 no3 co3, .list eo4 so4 no4 co4, .list eo5 so5 no5 co5] (fun (resX : AV) (objX : List AObj) => ∃ v : Int, ∃ p1 : Nat, ∃ h1 : Int, ((n < 1 → v = 0) ∧ (1 ≤ n → 0 ≤ v ∧ v < n)) ∧ resX = AI v ∧ objX = [.box 157 [LB c, AI (p1 : Int), .int .u64 h1], .list eo1 so1 no1 co1, .list eo2 so2 no2 co2, .list eo3 so3 no3 co3, .list eo4 so4 no4 co4, .list eo5 so5 no5 co5]) := by
 have hcl : c.length ≤ 4096 := hc.1
 have hcb := hc.2
 have hxr := fun h => u64and (shr64 (IntKind.u64.wrap (IntKind.u64.wrap (h * 6364136223846793005) + 1442695040888963407)) 33)
 have hxh := hxr h
 refine CallX.dropE (CallX.ofF Tryz.func101 rfl (by kernel_rfl) ?_)
 intro usC frC hfC
 refine R.go 10 (k3 (n < 1) (fun c1 => ?_) (fun c1 => ?_))
 ·exact R.go 4 (R.retX (res := AI 0) (hp' := [.box 157 [LB c, AI (p : Int), .int .u64 h], .list eo1 so1 no1 co1, .list eo2 so2 no2 co2, .list eo3 so3 no3 co3, .list eo4 so4 no4 co4, .list eo5 so5 no5 co5, .dead]) (by kernel_rfl) (by kernel_rfl) (by kernel_rfl) (by kernel_rfl) ⟨[0, 1, 2, 3, 4, 5], by kernel_rfl, by decide, 0, p, h, by first | exact mod_rng (by assumption) | exact ⟨fun _ => rfl, fun h1 => by omega⟩, by kernel_rfl, by kernel_rfl⟩)
 refine R.go 22 (k2 .i64 (bits .and .u64 (shr64 (IntKind.u64.wrap ((IntKind.u64.wrap (h * 6364136223846793005)) + 1442695040888963407)) 33) 16777215) (wrap_id (by omega) (by omega)) (R.go 16 (k3 ((p : Int) < (c.length : Int)) (fun c2 => ?_) (fun c2 => ?_))))
 ·have hbp := hcb p (by omega)
  refine R.go 11 (k9 eB c 0 p (p : Int) eB_len (R.go 1 (k2 .i64 (c.getD p 0) (wrap_id (by omega) (by omega)) (k1 ((bits .and .u64 (shr64 (IntKind.u64.wrap ((IntKind.u64.wrap (h * 6364136223846793005)) + 1442695040888963407)) 33) 16777215) + (c.getD p 0)) (R.go 8 (k1 ((p : Int) + 1) (R.go 8 (R.rem ((bits .and .u64 (shr64 (IntKind.u64.wrap ((IntKind.u64.wrap (h * 6364136223846793005)) + 1442695040888963407)) 33) 16777215) + (c.getD p 0)) n (by kernel_rfl) (by omega) (by omega) (by kernel_rfl) ?_))))))))
  exact R.go 2 (R.retX (res := AI (((bits .and .u64 (shr64 (IntKind.u64.wrap ((IntKind.u64.wrap (h * 6364136223846793005)) + 1442695040888963407)) 33) 16777215) + (c.getD p 0)) % n)) (hp' := [.box 157 [LB c, AI ((p : Int) + 1), .int .u64 (IntKind.u64.wrap ((IntKind.u64.wrap (h * 6364136223846793005)) + 1442695040888963407))], .list eo1 so1 no1 co1, .list eo2 so2 no2 co2, .list eo3 so3 no3 co3, .list eo4 so4 no4 co4, .list eo5 so5 no5 co5, .dead]) (by kernel_rfl) (by kernel_rfl) (by kernel_rfl) (by kernel_rfl) ⟨[0, 1, 2, 3, 4, 5], by kernel_rfl, by decide, ((bits .and .u64 (shr64 (IntKind.u64.wrap ((IntKind.u64.wrap (h * 6364136223846793005)) + 1442695040888963407)) 33) 16777215) + (c.getD p 0)) % n, p + 1, IntKind.u64.wrap ((IntKind.u64.wrap (h * 6364136223846793005)) + 1442695040888963407), by first | exact mod_rng (by assumption) | exact ⟨fun _ => rfl, fun h1 => by omega⟩, by kernel_rfl, by kernel_rfl⟩)
 refine R.go 5 (R.rem (bits .and .u64 (shr64 (IntKind.u64.wrap ((IntKind.u64.wrap (h * 6364136223846793005)) + 1442695040888963407)) 33) 16777215) n (by kernel_rfl) (by omega) (by omega) (by kernel_rfl) ?_)
 exact R.go 2 (R.retX (res := AI ((bits .and .u64 (shr64 (IntKind.u64.wrap ((IntKind.u64.wrap (h * 6364136223846793005)) + 1442695040888963407)) 33) 16777215) % n)) (hp' := [.box 157 [LB c, AI (p : Int), .int .u64 (IntKind.u64.wrap ((IntKind.u64.wrap (h * 6364136223846793005)) + 1442695040888963407))], .list eo1 so1 no1 co1, .list eo2 so2 no2 co2, .list eo3 so3 no3 co3, .list eo4 so4 no4 co4, .list eo5 so5 no5 co5, .dead]) (by kernel_rfl) (by kernel_rfl) (by kernel_rfl) (by kernel_rfl) ⟨[0, 1, 2, 3, 4, 5], by kernel_rfl, by decide, (bits .and .u64 (shr64 (IntKind.u64.wrap ((IntKind.u64.wrap (h * 6364136223846793005)) + 1442695040888963407)) 33) 16777215) % n, p, IntKind.u64.wrap ((IntKind.u64.wrap (h * 6364136223846793005)) + 1442695040888963407), by first | exact mod_rng (by assumption) | exact ⟨fun _ => rfl, fun h1 => by omega⟩, by kernel_rfl, by kernel_rfl⟩)
theorem nextX_c_r6 (c : List Int) (p : Nat) (h n : Int) (eo1 so1 no1 : Nat) (co1 : List AV) (eo2 so2 no2 : Nat) (co2 : List AV) (eo3 so3 no3 : Nat) (co3 : List AV) (eo4 so4 no4 : Nat) (co4 : List AV) (eo5 so5 no5 : Nat) (co5 : List AV) (eo6 so6 no6 : Nat) (co6 : List AV) (hc : BY c) : CallX Tryz.prog 101 [.ptr 0 0, AI n] [.box 157 [LB c, AI (p : Int), .int .u64 h], .list eo1 so1 no1 co1, .list eo2 so2 no2 co2, .list eo3 so3 no3 co3, .list eo4 so4 no4 co4, .list eo5 so5 no5 co5, .list eo6 so6 no6 co6] (fun (resX : AV) (objX : List AObj) => ∃ v : Int, ∃ p1 : Nat, ∃ h1 : Int, ((n < 1 → v = 0) ∧ (1 ≤ n → 0 ≤ v ∧ v < n)) ∧ resX = AI v ∧ objX = [.box 157 [LB c, AI (p1 : Int), .int .u64 h1], .list eo1 so1 no1 co1, .list eo2 so2 no2 co2, .list eo3 so3 no3 co3, .list eo4 so4 no4 co4, .list eo5 so5 no5 co5, .list eo6 so6 no6 co6]) := by
 have hcl : c.length ≤ 4096 := hc.1
 have hcb := hc.2
 have hxr := fun h => u64and (shr64 (IntKind.u64.wrap (IntKind.u64.wrap (h * 6364136223846793005) + 1442695040888963407)) 33)
 have hxh := hxr h
 refine CallX.dropE (CallX.ofF Tryz.func101 rfl (by kernel_rfl) ?_)
 intro usC frC hfC
 refine R.go 10 (k3 (n < 1) (fun c1 => ?_) (fun c1 => ?_))
 ·exact R.go 4 (R.retX (res := AI 0) (hp' := [.box 157 [LB c, AI (p : Int), .int .u64 h], .list eo1 so1 no1 co1, .list eo2 so2 no2 co2, .list eo3 so3 no3 co3, .list eo4 so4 no4 co4, .list eo5 so5 no5 co5, .list eo6 so6 no6 co6, .dead]) (by kernel_rfl) (by kernel_rfl) (by kernel_rfl) (by kernel_rfl) ⟨[0, 1, 2, 3, 4, 5, 6], by kernel_rfl, by decide, 0, p, h, by first | exact mod_rng (by assumption) | exact ⟨fun _ => rfl, fun h1 => by omega⟩, by kernel_rfl, by kernel_rfl⟩)
 refine R.go 22 (k2 .i64 (bits .and .u64 (shr64 (IntKind.u64.wrap ((IntKind.u64.wrap (h * 6364136223846793005)) + 1442695040888963407)) 33) 16777215) (wrap_id (by omega) (by omega)) (R.go 16 (k3 ((p : Int) < (c.length : Int)) (fun c2 => ?_) (fun c2 => ?_))))
 ·have hbp := hcb p (by omega)
  refine R.go 11 (k9 eB c 0 p (p : Int) eB_len (R.go 1 (k2 .i64 (c.getD p 0) (wrap_id (by omega) (by omega)) (k1 ((bits .and .u64 (shr64 (IntKind.u64.wrap ((IntKind.u64.wrap (h * 6364136223846793005)) + 1442695040888963407)) 33) 16777215) + (c.getD p 0)) (R.go 8 (k1 ((p : Int) + 1) (R.go 8 (R.rem ((bits .and .u64 (shr64 (IntKind.u64.wrap ((IntKind.u64.wrap (h * 6364136223846793005)) + 1442695040888963407)) 33) 16777215) + (c.getD p 0)) n (by kernel_rfl) (by omega) (by omega) (by kernel_rfl) ?_))))))))
  exact R.go 2 (R.retX (res := AI (((bits .and .u64 (shr64 (IntKind.u64.wrap ((IntKind.u64.wrap (h * 6364136223846793005)) + 1442695040888963407)) 33) 16777215) + (c.getD p 0)) % n)) (hp' := [.box 157 [LB c, AI ((p : Int) + 1), .int .u64 (IntKind.u64.wrap ((IntKind.u64.wrap (h * 6364136223846793005)) + 1442695040888963407))], .list eo1 so1 no1 co1, .list eo2 so2 no2 co2, .list eo3 so3 no3 co3, .list eo4 so4 no4 co4, .list eo5 so5 no5 co5, .list eo6 so6 no6 co6, .dead]) (by kernel_rfl) (by kernel_rfl) (by kernel_rfl) (by kernel_rfl) ⟨[0, 1, 2, 3, 4, 5, 6], by kernel_rfl, by decide, ((bits .and .u64 (shr64 (IntKind.u64.wrap ((IntKind.u64.wrap (h * 6364136223846793005)) + 1442695040888963407)) 33) 16777215) + (c.getD p 0)) % n, p + 1, IntKind.u64.wrap ((IntKind.u64.wrap (h * 6364136223846793005)) + 1442695040888963407), by first | exact mod_rng (by assumption) | exact ⟨fun _ => rfl, fun h1 => by omega⟩, by kernel_rfl, by kernel_rfl⟩)
 refine R.go 5 (R.rem (bits .and .u64 (shr64 (IntKind.u64.wrap ((IntKind.u64.wrap (h * 6364136223846793005)) + 1442695040888963407)) 33) 16777215) n (by kernel_rfl) (by omega) (by omega) (by kernel_rfl) ?_)
 exact R.go 2 (R.retX (res := AI ((bits .and .u64 (shr64 (IntKind.u64.wrap ((IntKind.u64.wrap (h * 6364136223846793005)) + 1442695040888963407)) 33) 16777215) % n)) (hp' := [.box 157 [LB c, AI (p : Int), .int .u64 (IntKind.u64.wrap ((IntKind.u64.wrap (h * 6364136223846793005)) + 1442695040888963407))], .list eo1 so1 no1 co1, .list eo2 so2 no2 co2, .list eo3 so3 no3 co3, .list eo4 so4 no4 co4, .list eo5 so5 no5 co5, .list eo6 so6 no6 co6, .dead]) (by kernel_rfl) (by kernel_rfl) (by kernel_rfl) (by kernel_rfl) ⟨[0, 1, 2, 3, 4, 5, 6], by kernel_rfl, by decide, (bits .and .u64 (shr64 (IntKind.u64.wrap ((IntKind.u64.wrap (h * 6364136223846793005)) + 1442695040888963407)) 33) 16777215) % n, p, IntKind.u64.wrap ((IntKind.u64.wrap (h * 6364136223846793005)) + 1442695040888963407), by first | exact mod_rng (by assumption) | exact ⟨fun _ => rfl, fun h1 => by omega⟩, by kernel_rfl, by kernel_rfl⟩)
end Go.Proofs.YtjllngcefoohpaaGreat

/-! Draws of frames. -/
namespace Go.Proofs.YtjllngcefoohpaaGreat
open Go.RowKit Go.Abs
def refI (xs : List Int) : Nat → List Int
 | 0 => []
 | i + 1 => refI xs i ++ [bor (xs.getD i 0) (shl64 1 (i : Int))]
theorem refI_len (xs : List Int) : ∀ i, (refI xs i).length = i
 | 0 => rfl
 | i + 1 => by simp [refI, refI_len xs i]
theorem l01Refl_c (xs : List Int) (hl : xs.length ≤ 60) : CallA Tryz.prog 321 [LI xs] (ownA eI 2 1 (refI xs xs.length)) := by
 refine CallA.of Tryz.func321 rfl (by kernel_rfl) (R.go 15 (k17 ((fun | (i, ys) => (⟨(frm 23 [(0, LI xs), (3, .ref 0), (4, AI (i : Int))]), [rowA eI 2 1 ys]⟩ : St) : Nat × (List Int) → St)) (fun | (i, ys) => (i ≤ xs.length) ∧ (ys.length = i) ∧ (ys = refI xs i)) (fun | (i, ys) => xs.length - i) (0, []) [0, 3, 4] none ⟨(by omega), (by rfl), (by rfl)⟩ ?_))
 rintro ⟨i, ys⟩ ⟨h4_1, h4_2, h4_3⟩ R1 N2
 refine R.go 8 (k3 ((i : Int) < (xs.length : Int)) (fun c5 => ?_) (fun c5 => ?_))
 ·refine R.go 7 (k9 eI xs 0 i (i : Int) eI_len (R.go 2 (k16 true (l01One_c (i : Int) (by omega) (by omega)) (R.go 2 (k14 eI ys [bor (xs.getD i 0) (shl64 1 (i : Int))] 0 2 1 8 eI_one (R.go 5 (k1 ((i : Int) + 1) ?_)))))))
  exact R.go 2 (k18 R1 (N2 (i + 1, ys ++ [bor (xs.getD i 0) (shl64 1 (i : Int))]) [0, 3, 4] (some [0]) _ (by kernel_rfl) (by kernel_rfl) ⟨(by omega), (by (simp <;> omega)), (by rw [refI, ← ‹ys = refI xs i›])⟩ (by show (xs.length - (i + 1)) < (xs.length - i); omega)))
 exact R.go 6 (k19 (ownA eI 2 1 ys) (by first | (rw [‹ys = refI xs i›, show xs.length = i by omega]) | (exfalso; omega)))
theorem l01Clos_c (xs : List Int) (hl : xs.length ≤ 60) : CallA Tryz.prog 284 [LI xs] (ownA eI 2 1 (wout xs xs.length)) := by
 refine CallA.of Tryz.func284 rfl (by kernel_rfl) (R.go 7 (k16 true (l01Own_c xs (by first | omega | (simp <;> omega))) (R.go 8 (k17 ((fun | (j, out) => (⟨(frm 39 [(3, .ref 0), (4, AI (j : Int))]), [rowA eI 2 1 out]⟩ : St) : Nat × (List Int) → St)) (fun | (j, out) => (j ≤ xs.length) ∧ (out = wout xs j)) (fun | (j, out) => xs.length - j) (0, xs) [3, 4] none ⟨(by omega), (by rfl)⟩ ?_))))
 rintro ⟨j, out⟩ ⟨h4_1, h4_2⟩ R1 N2
 have hlen : out.length = xs.length := by rw [‹out = wout xs j›]; exact wout_len xs j
 refine R.go 8 (k3 ((j : Int) < (out.length : Int)) (fun c5 => ?_) (fun c5 => ?_))
 ·refine R.go 8 (k17 ((fun | (i, o2) => (⟨(frm 39 [(3, .ref 0), (4, AI (j : Int)), (5, AI (i : Int))]), [rowA eI 2 1 o2]⟩ : St) : Nat × (List Int) → St)) (fun | (i, o2) => (i ≤ xs.length) ∧ (o2 = win out j i)) (fun | (i, o2) => xs.length - i) (0, out) [3, 4, 5] none ⟨(by omega), (by rfl)⟩ ?_)
  rintro ⟨i, o2⟩ ⟨h9_1, h9_2⟩ R6 N7
  have hlen2 : o2.length = xs.length := by rw [‹o2 = win out j i›, win_len]; exact hlen
  refine R.go 8 (k3 ((i : Int) < (o2.length : Int)) (fun c10 => ?_) (fun c10 => ?_))
  ·refine R.go 7 (k10 0 1 o2.length i (i : Int) (k12 o2 i (R.go 1 (k16 true (l01Bit_c (o2.getD i 0) (j : Int) (by omega) (by omega)) (R.go 1 (k3 (band (shr64 (o2.getD i 0) (j : Int)) 1 = 1) (fun c11 => ?_) (fun c11 => ?_)))))))
   ·refine R.go 5 (k10 0 1 o2.length i (i : Int) (k12 o2 i (R.go 2 (k10 0 1 o2.length j (j : Int) (k12 o2 j (R.go 1 (k10 0 1 o2.length i (i : Int) (k13 0 2 o2 i (bor (o2.getD i 0) (o2.getD j 0)) (R.go 4 (k1 ((i : Int) + 1) ?_))))))))))
    exact R.go 2 (k18 R6 (N7 (i + 1, o2.set i (bor (o2.getD i 0) (o2.getD j 0))) [3, 4, 5] none _ (by kernel_rfl) (by kernel_rfl) ⟨(by omega), (by first | (rw [win, wrow, ← ‹o2 = win out j i›, if_pos ‹band (shr64 (o2.getD i 0) (j : Int)) 1 = 1›]) | (rw [win, wrow, ← ‹o2 = win out j i›, if_neg ‹¬ band (shr64 (o2.getD i 0) (j : Int)) 1 = 1›]))⟩ (by show (xs.length - (i + 1)) < (xs.length - i); omega)))
   refine R.go 4 (k1 ((i : Int) + 1) ?_)
   exact R.go 2 (k18 R6 (N7 (i + 1, o2) [3, 4, 5] none _ (by kernel_rfl) (by kernel_rfl) ⟨(by omega), (by first | (rw [win, wrow, ← ‹o2 = win out j i›, if_pos ‹band (shr64 (o2.getD i 0) (j : Int)) 1 = 1›]) | (rw [win, wrow, ← ‹o2 = win out j i›, if_neg ‹¬ band (shr64 (o2.getD i 0) (j : Int)) 1 = 1›]))⟩ (by show (xs.length - (i + 1)) < (xs.length - i); omega)))
  refine R.go 4 (k1 ((j : Int) + 1) ?_)
  exact R.go 2 (k18 R1 (N2 (j + 1, o2) [3, 4] none _ (by kernel_rfl) (by kernel_rfl) ⟨(by omega), (by rw [wout, ← ‹out = wout xs j›, ← show i = xs.length by omega]; assumption)⟩ (by show (xs.length - (j + 1)) < (xs.length - j); omega)))
 exact R.go 6 (k19 (ownA eI 2 1 out) (by first | (rw [‹out = wout xs j›, show j = xs.length by omega]) | (exfalso; omega)))
end Go.Proofs.YtjllngcefoohpaaGreat

/-! Draws of posets. -/
namespace Go.Proofs.YtjllngcefoohpaaGreat
open Go.RowKit Go.Abs
def sqz (L : List Int) (m : Int) : Nat → Int
 | 0 => 0
 | k + 1 => if band (shr64 m (L.getD k 0)) 1 = 1 then bor (sqz L m k) (shl64 1 (k : Int)) else sqz L m k
theorem sqz_yes {L : List Int} {m : Int} {k : Nat} (h : band (shr64 m (L.getD k 0)) 1 = 1) : bor (sqz L m k) (shl64 1 (k : Int)) = sqz L m (k + 1) := by rw [sqz, if_pos h]
theorem sqz_no {L : List Int} {m : Int} {k : Nat} (h : ¬ band (shr64 m (L.getD k 0)) 1 = 1) : sqz L m k = sqz L m (k + 1) := by rw [sqz, if_neg h]
def RNG (n : Int) (l : List Int) : Prop := ∀ j : Nat, j < l.length → 0 ≤ l.getD j 0 ∧ l.getD j 0 < n
theorem l05SquD_c (L : List Int) (m : Int) (hL : ∀ j : Nat, j < L.length → 0 ≤ L.getD j 0 ∧ L.getD j 0 < 61) (hl : L.length ≤ 62) : CallA Tryz.prog 286 [LI L, AI m] (AI (sqz L m L.length)) := by
 refine CallA.of Tryz.func286 rfl (by kernel_rfl) (R.go 14 (k17 ((fun | (t, r) => (⟨(frm 24 [(0, LI L), (1, AI m), (5, AI r), (6, AI (t : Int))]), []⟩ : St) : Nat × Int → St)) (fun | (t, r) => (t ≤ L.length) ∧ (r = sqz L m t)) (fun | (t, r) => L.length - t) (0, 0) [0, 1, 5, 6] none ⟨(by omega), (by rfl)⟩ ?_))
 rintro ⟨t, r⟩ ⟨h4_1, rfl⟩ R1 N2
 refine R.go 8 (k3 ((t : Int) < (L.length : Int)) (fun c5 => ?_) (fun c5 => ?_))
 ·have hjw := hL t (by omega)
  refine R.go 8 (k9 eI L 0 t (t : Int) eI_len (R.go 1 (k16 true (l01Bit_c m (L.getD t 0) (by omega) (by omega)) (R.go 1 (k3 (band (shr64 m (L.getD t 0)) 1 = 1) (fun c6 => ?_) (fun c6 => ?_))))))
  ·refine R.go 3 (k16 true (l01One_c (t : Int) (by omega) (by omega)) (R.go 6 (k1 ((t : Int) + 1) ?_)))
   exact R.go 2 (k18 R1 (N2 (t + 1, bor (sqz L m t) (shl64 1 (t : Int))) [0, 1, 5, 6] none _ (by kernel_rfl) (by kernel_rfl) ⟨(by omega), (by first | exact sqz_yes (by assumption) | exact sqz_no (by assumption))⟩ (by show (L.length - (t + 1)) < (L.length - t); omega)))
  refine R.go 4 (k1 ((t : Int) + 1) ?_)
  exact R.go 2 (k18 R1 (N2 (t + 1, sqz L m t) [0, 1, 5, 6] none _ (by kernel_rfl) (by kernel_rfl) ⟨(by omega), (by first | exact sqz_yes (by assumption) | exact sqz_no (by assumption))⟩ (by show (L.length - (t + 1)) < (L.length - t); omega)))
 exact R.go 6 (k19 (AI (sqz L m t)) (by first | (rw [show t = L.length by omega]) | (exfalso; omega)))
theorem joinD_c (n : Int) (xs : List Int) (m : Int) (ys : List Int) (hb : 0 ≤ n ∧ n ≤ 20 ∧ (xs.length : Int) = n ∧ 0 ≤ m ∧ m ≤ 20 ∧ (ys.length : Int) = m) : CallA Tryz.prog 323 [.agg [AI n, LI xs], .agg [AI m, LI ys], .bool true] (.agg [AI ((stL n xs m ys).length), ownA eI 2 1 (stL n xs m ys)]) := by
 have hsh := shl_rng m (by omega) (by omega)
 refine CallA.of Tryz.func323 rfl (by kernel_rfl) (R.go 17 (k17 ((fun | (i, out) => (⟨(frm 59 [(2, .bool true), (3, .ptr 0 0), (4, .ptr 1 0), (6, .ptr 2 0), (7, .ref 3), (8, AI (i : Int))]), [.box 35 [AI n, LI xs], .box 35 [AI m, LI ys], .box 35 [AI 0, .nil], rowA eI 2 1 out]⟩ : St) : Nat × (List Int) → St)) (fun | (i, out) => (i ≤ xs.length) ∧ (out = stX n xs m i)) (fun | (i, out) => xs.length - i) (0, []) [2, 3, 4, 6, 7, 8] none ⟨(by omega), (by rfl)⟩ ?_))
 rintro ⟨i, out⟩ ⟨h4_1, rfl⟩ R1 N2
 have hol := stX_len (n := n) (m := m) (xs := xs) (i := i) (by assumption)
 refine R.go 9 (k3 ((i : Int) < (xs.length : Int)) (fun c5 => ?_) (fun c5 => ?_))
 ·refine R.go 8 (k9 eI xs 0 i (i : Int) eI_len (R.go 13 (k16 true (l01Full_c m (by omega) (by omega)) (R.go 2 (k2 .u64 n (u64_id (by omega) (by omega)) (R.shl ((shl64 1 m) - 1) n (by kernel_rfl) (by omega) (by kernel_rfl) (R.go 7 (k14 eI (stX n xs m i) [bor (xs.getD i 0) (shl64 ((shl64 1 m) - 1) n)] 3 2 1 8 eI_one (R.go 5 (k1 ((i : Int) + 1) ?_))))))))))
  exact R.go 2 (k18 R1 (N2 (i + 1, (stX n xs m i) ++ [bor (xs.getD i 0) (shl64 ((shl64 1 m) - 1) n)]) [2, 3, 4, 6, 7, 8] (some [0, 1, 2, 3]) _ (by kernel_rfl) (by kernel_rfl) ⟨(by omega), (by exact stX_step (by omega))⟩ (by show (xs.length - (i + 1)) < (xs.length - i); omega)))
 refine R.go 7 (k17 ((fun | (j, o2) => (⟨(frm 59 [(3, .ptr 0 0), (4, .ptr 1 0), (6, .ptr 2 0), (7, .ref 3), (10, AI (j : Int))]), [.box 35 [AI n, LI xs], .box 35 [AI m, LI ys], .box 35 [AI 0, .nil], rowA eI 2 1 o2]⟩ : St) : Nat × (List Int) → St)) (fun | (j, o2) => (j ≤ ys.length) ∧ (o2 = stY n xs m ys j)) (fun | (j, o2) => ys.length - j) (0, (stX n xs m i)) [3, 4, 6, 7, 10] none ⟨(by omega), (by exact stY_zero (by omega))⟩ ?_)
 rintro ⟨j, o2⟩ ⟨h9_1, rfl⟩ R6 N7
 have hol2 := stY_len (n := n) (m := m) (xs := xs) (ys := ys) (j := j) (by assumption)
 refine R.go 9 (k3 ((j : Int) < (ys.length : Int)) (fun c10 => ?_) (fun c10 => ?_))
 ·refine R.go 8 (k9 eI ys 0 j (j : Int) eI_len (R.go 3 (k2 .u64 n (u64_id (by omega) (by omega)) (R.shl (ys.getD j 0) n (by kernel_rfl) (by omega) (by kernel_rfl) (R.go 1 (k14 eI (stY n xs m ys j) [shl64 (ys.getD j 0) n] 3 2 1 8 eI_one (R.go 5 (k1 ((j : Int) + 1) ?_))))))))
  exact R.go 2 (k18 R6 (N7 (j + 1, (stY n xs m ys j) ++ [shl64 (ys.getD j 0) n]) [3, 4, 6, 7, 10] (some [0, 1, 2, 3]) _ (by kernel_rfl) (by kernel_rfl) ⟨(by omega), (by exact stY_step (by omega))⟩ (by show (ys.length - (j + 1)) < (ys.length - j); omega)))
 refine R.go 4 (k16 false (l16Make_c (stY n xs m ys j) (by first | omega | (simp <;> omega))) ?_ (hr := by simp [AV.closed, closedL, AI, ownA_closed eI_closed]))
 exact R.go 2 (k19 (.agg [AI ((stY n xs m ys j).length), ownA eI 2 1 (stY n xs m ys j)]) (by first | (rw [stY_end (show j = ys.length by omega)]) | (exfalso; omega)))
end Go.Proofs.YtjllngcefoohpaaGreat

/-! Drawn orders: closures of rising relations, and orders whose elements are numbered in another way. -/
namespace Go.Proofs.YtjllngcefoohpaaGreat
open Go.RowKit Go.Abs
def prt (xs L : List Int) : List Int := L.map fun v => sqz L (xs.getD v.toNat 0) L.length
theorem prt_len (xs L : List Int) : (prt xs L).length = L.length := by simp [prt]
theorem refI_ok {n : Nat} {xs : List Int} (hn : n ≤ 61) (h : RelOK n xs) : ∀ i, i ≤ n → (refI xs i).length = i ∧ ∀ p, p < i → InM n ((refI xs i).getD p 0) ∧ ∀ k, tb ((refI xs i).getD p 0) k = true ↔ tb (xs.getD p 0) k = true ∨ p = k
 | 0, _ => ⟨rfl, fun p hp => absurd hp (by omega)⟩
 | i + 1, hi => by
  obtain ⟨h1, h2⟩ := refI_ok hn h i (by omega)
  refine ⟨refI_len xs (i + 1), fun p hp => ?_⟩
  rw [refI]
  rcases Nat.lt_or_ge p i with hp' | hp'
  ·rw [List.getD_eq_getElem?_getD, List.getElem?_append_left (by omega), ← List.getD_eq_getElem?_getD]; exact h2 p hp'
  ·rw [List.getD_eq_getElem?_getD, List.getElem?_append_right (by omega), show p - (refI xs i).length = 0 by omega]
   obtain rfl : p = i := by omega
   have a := h.2 p (by omega)
   have b := inM_one hn (show p < n by omega)
   refine ⟨inM_bor hn a b, fun k => ?_⟩
   show tb (bor (xs.getD p 0) (shl64 1 (p : Int))) k = true ↔ _
   rw [tb_bor hn a b, Bool.or_eq_true, tb_one (by omega), decide_eq_true_iff]
def Rising (xs : List Int) : Prop := ∀ p k : Nat, p < xs.length → tb (xs.getD p 0) k = true → p < k
theorem star_le {E : Nat → Nat → Prop} (hE : ∀ i j, E i j → i ≤ j) {i j : Nat} (h : Star E i j) : i ≤ j := by
 induction h with
 | refl => exact Nat.le_refl _
 | tail _ e ih => exact Nat.le_trans ih (hE _ _ e)
theorem tri_bits {n : Nat} {xs : List Int} (hn : n ≤ 61) (h : RelOK n xs) : RelOK n (wout (refI xs n) n) ∧ ∀ p, p < n → ∀ k, tb ((wout (refI xs n) n).getD p 0) k = true ↔ Star (Edge (refI xs n)) p k := by
 obtain ⟨h1, h2⟩ := refI_ok hn h n (Nat.le_refl _)
 have hR : RelOK n (refI xs n) := ⟨h1, fun j hj => (h2 j hj).1⟩
 obtain ⟨k1, k2⟩ := wout_ok hn hR n (Nat.le_refl _)
 refine ⟨k1, fun p hp k => ?_⟩
 rw [k2 p hp k, ← pth_star (n := n) (fun i j e => by rw [← h1]; exact e.1)]
 constructor
 ·exact .inl
 ·rintro (q | rfl)
  ·exact q
  ·exact .edge ⟨by rw [h1]; exact hp, ((h2 p hp).2 p).2 (.inr rfl)⟩
theorem tri_po {n : Int} {xs : List Int} (h0 : 0 ≤ n) (h8 : n ≤ 8) (h : RelOK n.toNat xs) (hr : Rising xs) : okPo n (wout (refI xs n.toNat) n.toNat) = true := by
 obtain ⟨k1, k2⟩ := tri_bits (n := n.toNat) (by omega) h
 obtain ⟨h1, h2⟩ := refI_ok (n := n.toNat) (by omega) h _ (Nat.le_refl _)
 have hE : ∀ i j, Edge (refI xs n.toNat) i j → i ≤ j := fun i j e => by
  rcases ((h2 i (by have := e.1; omega)).2 j).1 e.2 with q | q
  ·exact Nat.le_of_lt (hr i j (by rw [h.1]; have := e.1; omega) q)
  ·omega
 refine gpo_mk h0 h8 (by have := k1.1; omega) (fun i hi => k1.2 i hi) (fun i hi => (k2 i hi i).2 (.refl i)) (fun i j k hi a b => ?_) fun i j hi a b => ?_
 ·have hj := tb_lt (k1.2 i hi) a
  exact (k2 i hi k).2 (((k2 i hi j).1 a).trans ((k2 j hj k).1 b))
 ·have hj := tb_lt (k1.2 i hi) a
  have a' := star_le hE ((k2 i hi j).1 a)
  have b' := star_le hE ((k2 j hj i).1 b)
  omega
theorem rel_snoc {n : Nat} {xs : List Int} {m : Int} (h : ∀ j : Nat, j < xs.length → InM n (xs.getD j 0)) (hm : InM n m) : ∀ j : Nat, j < (xs ++ [m]).length → InM n ((xs ++ [m]).getD j 0) := fun j hj => by
 rw [List.length_append, List.length_singleton] at hj
 rcases Nat.lt_or_ge j xs.length with hi | hi
 ·rw [List.getD_eq_getElem?_getD, List.getElem?_append_left hi, ← List.getD_eq_getElem?_getD]; exact h j hi
 ·rw [List.getD_eq_getElem?_getD, List.getElem?_append_right hi, show j - xs.length = 0 by omega]; exact hm
theorem ris_snoc {xs : List Int} {m : Int} (h : Rising xs) (hm : ∀ k, tb m k = true → xs.length < k) : Rising (xs ++ [m]) := fun p k hp hk => by
 rw [List.length_append, List.length_singleton] at hp
 rcases Nat.lt_or_ge p xs.length with hi | hi
 ·rw [List.getD_eq_getElem?_getD, List.getElem?_append_left hi, ← List.getD_eq_getElem?_getD] at hk; exact h p k hi hk
 ·rw [List.getD_eq_getElem?_getD, List.getElem?_append_right hi, show p - xs.length = 0 by omega] at hk
  have := hm k hk; omega
theorem ris_nil : Rising [] := fun p k hp => by simp at hp
def Up (n x : Nat) (m : Int) : Prop := InM n m ∧ ∀ k, tb m k = true → x ≤ k
theorem up_and {n x : Nat} {m k : Int} (hn : n ≤ 61) (h : Up n x m) (hk : InM 61 k) : Up n x (band m k) := by
 have h1 : ∀ i, tb (band m k) i = true → tb m i = true := fun i hi => by
  rw [tb_band (n := 61) (by omega) (inM_mono hn h.1) hk, Bool.and_eq_true] at hi; exact hi.1
 refine ⟨?_, fun i hi => h.2 i (h1 i hi)⟩
 have h2 := inM_band (n := 61) (by omega) (inM_mono hn h.1) hk
 refine ⟨h2.1, Nat.lt_of_not_le fun hge => ?_⟩
 obtain ⟨i, hi, hti⟩ := Nat.exists_ge_and_testBit_of_ge_two_pow hge
 have := tb_lt h.1 (h1 i hti)
 omega
theorem in_next {n : Int} {v : Int} (h0 : 0 ≤ n) (h1 : n ≤ 61) (hv : 0 ≤ v ∧ v < shl64 1 n) : InM n.toNat v := by
 refine ⟨hv.1, ?_⟩
 have h2 := shl_nat (i := n.toNat) (by omega)
 rw [Int.toNat_of_nonneg h0] at h2
 have h3 := hv.2
 rw [h2] at h3
 generalize 2 ^ n.toNat = q at h3 ⊢
 omega
theorem up_cut {n x : Nat} {v : Int} (hn : n ≤ 61) (hx : x + 1 ≤ 61) (hv : InM n v) : Up n (x + 1) (bnot v ((shl64 1 ((x + 1 : Nat) : Int)) - 1)) := by
 have hf : InM 61 ((shl64 1 ((x + 1 : Nat) : Int)) - 1) := inM_mono hx (inM_full (n := x + 1) hx)
 have hv' : InM 61 v := inM_mono hn hv
 have hb : ∀ k, tb (bnot v ((shl64 1 ((x + 1 : Nat) : Int)) - 1)) k = (tb v k && !tb ((shl64 1 ((x + 1 : Nat) : Int)) - 1) k) := fun k => tb_bnot (n := 61) (by omega) hv' hf k
 refine ⟨?_, fun k hk => ?_⟩
 ·have h2 := inM_bnot (n := 61) (by omega) hv' hf
  refine ⟨h2.1, ?_⟩
  refine Nat.lt_of_not_le fun hge => ?_
  obtain ⟨i, hi, hti⟩ := Nat.exists_ge_and_testBit_of_ge_two_pow hge
  have := hb i
  rw [show tb (bnot v ((shl64 1 ((x + 1 : Nat) : Int)) - 1)) i = true from hti] at this
  have h4 : tb v i = true := by
   cases e : tb v i with
   | true => rfl
   | false => rw [e] at this; cases this
  have := tb_lt hv h4
  omega
 ·rw [hb, Bool.and_eq_true] at hk
  have h5 := hk.2
  rw [tb_full hx] at h5
  have : ¬ k < x + 1 := by simpa using h5
  omega
def PMX (n : Int) (r : List Int) : Prop := (r.length : Int) = n ∧ RNG n r ∧ ∀ i j : Nat, i < r.length → j < r.length → r.getD i 0 = r.getD j 0 → i = j
theorem idr_snoc {i : Nat} {o : List Int} (hl : o.length = i) (h : ∀ j : Nat, j < i → o.getD j 0 = (j : Int)) : ∀ j : Nat, j < i + 1 → (o ++ [(i : Int)]).getD j 0 = (j : Int) := fun j hj => by
 rcases Nat.lt_or_ge j o.length with hi | hi
 ·rw [List.getD_eq_getElem?_getD, List.getElem?_append_left hi, ← List.getD_eq_getElem?_getD]; exact h j (by omega)
 ·rw [List.getD_eq_getElem?_getD, List.getElem?_append_right hi, show j - o.length = 0 by omega]
  show (i : Int) = _
  omega
theorem pmx_id {n : Int} {o : List Int} (hl : (o.length : Int) = n) (h : ∀ j : Nat, j < o.length → o.getD j 0 = (j : Int)) : PMX n o := ⟨hl, fun j hj => by rw [h j hj]; omega, fun i j hi hj e => by rw [h i hi, h j hj] at e; omega⟩
theorem pmx_swap {n : Int} {o : List Int} {i k : Nat} (h : PMX n o) (hi : i < o.length) (hk : k < o.length) : PMX n ((o.set i (o.getD k 0)).set k (o.getD i 0)) := by
 obtain ⟨h1, h2, h3⟩ := h
 have hg : ∀ j : Nat, j < o.length → ((o.set i (o.getD k 0)).set k (o.getD i 0)).getD j 0 = o.getD (if k = j then i else if i = j then k else j) 0 := fun j hj => by
  rw [getD_set_if _ _ _ _ _ (by rw [List.length_set]; exact hk)]
  by_cases e : k = j
  ·rw [if_pos e, if_pos e]
  ·rw [if_neg e, if_neg e, getD_set_if _ _ _ _ _ hi]
   by_cases e2 : i = j
   ·rw [if_pos e2, if_pos e2]
   ·rw [if_neg e2, if_neg e2]
 have hs : ∀ j : Nat, j < o.length → (if k = j then i else if i = j then k else j) < o.length := fun j hj => by
  split
  ·exact hi
  ·split
   ·exact hk
   ·exact hj
 refine ⟨by rw [List.length_set, List.length_set]; exact h1, fun j hj => ?_, fun a b ha hb e => ?_⟩
 ·rw [List.length_set, List.length_set] at hj
  rw [hg j hj]; exact h2 _ (hs j hj)
 ·rw [List.length_set, List.length_set] at ha hb
  rw [hg a ha, hg b hb] at e
  have := h3 _ _ (hs a ha) (hs b hb) e
  revert this
  repeat' split
  all_goals (intro; omega)
theorem pmx_onto {n : Int} {o : List Int} (h : PMX n o) {y : Nat} (hy : (y : Int) < n) : ∃ k, k < o.length ∧ o.getD k 0 = (y : Int) := by
 obtain ⟨h1, h2, h3⟩ := h
 have hP : gPM n o := by
  refine ⟨by omega, ?_, fun v hv => ?_⟩
  ·refine List.pairwise_iff_getElem.2 fun i j hi hj hij e => ?_
   have := h3 i j hi hj (by rw [List.getD_eq_getElem?_getD, List.getD_eq_getElem?_getD, List.getElem?_eq_getElem hi, List.getElem?_eq_getElem hj, e])
   omega
  ·obtain ⟨j, hj, rfl⟩ := List.getElem_of_mem hv
   have := h2 j hj
   rwa [List.getD_eq_getElem?_getD, List.getElem?_eq_getElem hj] at this
 obtain ⟨k, hk, e⟩ := gpm_onto hP (y := y) (by omega)
 exact ⟨k, by omega, e⟩
theorem gsqz_bits {L : List Int} {m : Int} {N : Nat} (hN : N ≤ 61) (hm : InM N m) (hL : ∀ j : Nat, j < L.length → 0 ≤ L.getD j 0 ∧ L.getD j 0 < (N : Int)) : ∀ k : Nat, k ≤ L.length → k ≤ 61 → InM k (sqz L m k) ∧ ∀ i, tb (sqz L m k) i = true ↔ i < k ∧ tb m (L.getD i 0).toNat = true
 | 0, _, _ => ⟨inM_zero _, fun i => by simp [sqz, tb_zero]⟩
 | k + 1, hk, h61 => by
  obtain ⟨h1, h2⟩ := gsqz_bits hN hm hL k (by omega) (by omega)
  have hr := hL k (by omega)
  have hb := has_tb (n := N) (i := (L.getD k 0).toNat) hN hm (by omega)
  rw [show (((L.getD k 0).toNat : Nat) : Int) = L.getD k 0 by omega] at hb
  have h1' := inM_mono (n' := k + 1) (by omega) h1
  have ho := inM_one (n := k + 1) h61 (show k < k + 1 by omega)
  rw [sqz]
  split
  ·rename_i hc
   refine ⟨inM_bor h61 h1' ho, fun i => ?_⟩
   rw [tb_bor h61 h1' ho, Bool.or_eq_true, h2, tb_one (by omega), decide_eq_true_iff]
   constructor
   ·rintro (⟨a, b⟩ | rfl)
    ·exact ⟨by omega, b⟩
    ·exact ⟨by omega, hb.1 hc⟩
   ·rintro ⟨a, b⟩
    by_cases e : k = i
    ·exact .inr e
    ·exact .inl ⟨by omega, b⟩
  ·rename_i hc
   refine ⟨h1', fun i => ?_⟩
   rw [h2]
   constructor
   ·rintro ⟨a, b⟩; exact ⟨by omega, b⟩
   ·rintro ⟨a, b⟩
    refine ⟨?_, b⟩
    by_cases e : i = k
    ·subst e; exact absurd (hb.2 b) hc
    ·omega
theorem prt_get {xs L : List Int} {i : Nat} (h : i < L.length) : (prt xs L).getD i 0 = sqz L (xs.getD (L.getD i 0).toNat 0) L.length := by
 simp [prt, List.getD_eq_getElem?_getD, List.getElem?_eq_getElem h]
theorem prt_bits {n : Int} {xs L : List Int} (h61 : n ≤ 61) (hx : RelOK n.toNat xs) (hL : PMX n L) {i : Nat} (hi : i < L.length) : InM L.length ((prt xs L).getD i 0) ∧ ∀ k, tb ((prt xs L).getD i 0) k = true ↔ k < L.length ∧ tb (xs.getD (L.getD i 0).toNat 0) (L.getD k 0).toNat = true := by
 obtain ⟨h1, h2, h3⟩ := hL
 have hr := h2 i hi
 rw [prt_get hi]
 exact gsqz_bits (N := n.toNat) (by omega) (hx.2 _ (by omega)) (fun j hj => by have := h2 j hj; omega) _ (Nat.le_refl _) (by omega)
theorem prt_po {n : Int} {xs L : List Int} (hP : okPo n xs = true) (hL : PMX n L) : okPo n (prt xs L) = true := by
 obtain ⟨h0, h8, hxl, hr, rf, tr, asy⟩ := hq_po_rel hP
 obtain ⟨h1, h2, h3⟩ := hL
 have hb := fun i (hi : i < L.length) => prt_bits (n := n) (xs := xs) (L := L) (by omega) hr ⟨h1, h2, h3⟩ hi
 have hrg := fun i (hi : i < L.length) => h2 i hi
 refine gpo_mk h0 h8 (by rw [prt_len]; exact h1) (fun i hi => by have := (hb i (by omega)).1; rwa [show L.length = n.toNat by omega] at this) (fun i hi => ((hb i (by omega)).2 i).2 ⟨by omega, rf _ (by have := hrg i (by omega); omega)⟩) (fun i j k hi a b => ?_) fun i j hi a b => ?_
 ·have a' := ((hb i (by omega)).2 j).1 a
  have b' := ((hb j a'.1).2 k).1 b
  exact ((hb i (by omega)).2 k).2 ⟨b'.1, tr _ _ _ (by have := hrg i (by omega); omega) a'.2 b'.2⟩
 ·have a' := ((hb i (by omega)).2 j).1 a
  have b' := ((hb j a'.1).2 i).1 b
  have hri := hrg i (by omega)
  have hrj := hrg j a'.1
  have := asy _ _ (by omega) a'.2 b'.2
  exact h3 i j (by omega) a'.1 (by omega)
end Go.Proofs.YtjllngcefoohpaaGreat
