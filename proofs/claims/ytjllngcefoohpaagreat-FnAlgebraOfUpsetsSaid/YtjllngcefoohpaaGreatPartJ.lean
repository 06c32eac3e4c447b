/- Texts of the proof: HM1, P01, P02, P04B. -/
import Derived.Test.YtjllngcefoohpaaGreatPartI

/-! Algebras of orders: what meets, joins and implications are; when there are some. -/
namespace Go.Proofs.YtjllngcefoohpaaGreat
open Go.RowKit Go.Abs

/-! The order of a list of rows. -/
def leX (xs : List Int) (x y : Nat) : Prop := tb (xs.getD x 0) y = true
def mX (xs : List Int) (x y : Nat) : Nat := (hyM xs x y).toNat
def jX (xs : List Int) (x y : Nat) : Nat := (hyJ xs x y).toNat
def iX (xs : List Int) (x y : Nat) : Nat := (hyI xs x y).toNat
def tX (xs : List Int) : Nat := (lowF (invA xs xs.length) (fullM xs.length)).toNat
structure Ord (xs : List Int) : Prop where
  n30 : xs.length ≤ 30
  rel : RelOK xs.length xs
  pa : paB xs.length xs = true
theorem HyOK.ord {xs : List Int} (h : HyOK xs) : Ord xs := ⟨h.n30, h.rel, h.pa⟩
section
variable {xs : List Int} (h : Ord xs)
include h
theorem ox_refl {x : Nat} (hx : x < xs.length) : leX xs x x := by
  have := h.pa
  simp only [paB, Bool.and_eq_true] at this
  exact rB_iff.1 this.1 x hx
theorem ox_lt {x y : Nat} (hx : x < xs.length) (a : leX xs x y) : y < xs.length := tb_lt (h.rel.2 x hx) a
theorem ox_trans {x y z : Nat} (hx : x < xs.length) (a : leX xs x y) (b : leX xs y z) : leX xs x z := by
  have h1 := h.pa
  simp only [paB, Bool.and_eq_true] at h1
  have hy := ox_lt h hx a
  exact tB_iff.1 h1.2.1 x hx y hy z (ox_lt h hy b) a b
theorem ox_anti {x y : Nat} (hx : x < xs.length) (a : leX xs x y) (b : leX xs y x) : x = y := by
  have h1 := h.pa
  simp only [paB, Bool.and_eq_true] at h1
  exact aB_iff.1 h1.2.2 x hx y (ox_lt h hx a) a b
theorem ox_inv : RelOK xs.length (invA xs xs.length) ∧ ∀ j : Nat, j < xs.length → ∀ k, tb ((invA xs xs.length).getD j 0) k = true ↔ k < xs.length ∧ leX xs k j := invA_ok h.rel h.n30 _ (Nat.le_refl _)
theorem ox_lowP {m : Int} (hm : InM xs.length m) {x : Nat} (hx : x < xs.length) : lowP xs m x = true ↔ tb m x = true ∧ ∀ z, tb m z = true → leX xs x z := by
  have := h.n30
  rw [lowP, Bool.and_eq_true, decide_eq_true_eq, bnot_sub (n := xs.length) (by omega) hm (h.rel.2 x hx)]
  exact Iff.rfl
theorem ox_lowQ {m : Int} (hm : InM xs.length m) {x : Nat} (hx : x < xs.length) : lowP (invA xs xs.length) m x = true ↔ tb m x = true ∧ ∀ z, tb m z = true → leX xs z x := by
  have h30 := h.n30
  have hi := ox_inv h
  rw [lowP, Bool.and_eq_true, decide_eq_true_eq, bnot_sub (n := xs.length) (by omega) hm (hi.1.2 x hx)]
  refine and_congr_right fun _ => ⟨fun a z hz => ((hi.2 x hx z).1 (a z hz)).2, fun a z hz => (hi.2 x hx z).2 ⟨tb_lt hm hz, a z hz⟩⟩
theorem ox_low_is {m : Int} (hm : InM xs.length m) {k : Nat} (hk : k < xs.length) (h1 : tb m k = true) (h2 : ∀ z, tb m z = true → leX xs k z) : lowF xs m = (k : Int) := by
  refine lowF_at (fun x hx => ?_) ((ox_lowP h hm hk).2 ⟨h1, h2⟩) hk
  cases e : lowP xs m x with
  | false => rfl
  | true =>
    have e2 := (ox_lowP h hm (by omega)).1 e
    have := ox_anti h (by omega) (e2.2 k h1) (h2 x e2.1)
    omega
theorem ox_lowI_is {m : Int} (hm : InM xs.length m) {k : Nat} (hk : k < xs.length) (h1 : tb m k = true) (h2 : ∀ z, tb m z = true → leX xs z k) : lowF (invA xs xs.length) m = (k : Int) := by
  refine lowF_at (fun x hx => ?_) ((ox_lowQ h hm hk).2 ⟨h1, h2⟩) (by rw [invA_len]; exact hk)
  cases e : lowP (invA xs xs.length) m x with
  | false => rfl
  | true =>
    have e2 := (ox_lowQ h hm (by omega)).1 e
    have := ox_anti h (by omega) (h2 x e2.1) (e2.2 k h1)
    omega
theorem ox_low_get {m : Int} (hm : InM xs.length m) (h0 : 0 ≤ lowF xs m) : (lowF xs m).toNat < xs.length ∧ tb m (lowF xs m).toNat = true ∧ ∀ z, tb m z = true → leX xs (lowF xs m).toNat z := by
  obtain ⟨x, h1, h2, h3⟩ := lowF_some h0
  rw [h2, Int.toNat_natCast]
  exact ⟨h1, (ox_lowP h hm h1).1 h3⟩
theorem ox_lowI_get {m : Int} (hm : InM xs.length m) (h0 : 0 ≤ lowF (invA xs xs.length) m) : (lowF (invA xs xs.length) m).toNat < xs.length ∧ tb m (lowF (invA xs xs.length) m).toNat = true ∧ ∀ z, tb m z = true → leX xs z (lowF (invA xs xs.length) m).toNat := by
  obtain ⟨x, h1, h2, h3⟩ := lowF_some h0
  rw [invA_len] at h1
  rw [h2, Int.toNat_natCast]
  exact ⟨h1, (ox_lowQ h hm h1).1 h3⟩
/-! Masks. -/
theorem ox_mm {x y : Nat} (hx : x < xs.length) (hy : y < xs.length) : InM xs.length (band ((invA xs xs.length).getD x 0) ((invA xs xs.length).getD y 0)) ∧ ∀ z, tb (band ((invA xs xs.length).getD x 0) ((invA xs xs.length).getD y 0)) z = true ↔ z < xs.length ∧ leX xs z x ∧ leX xs z y := by
  have h30 := h.n30
  have hi := ox_inv h
  refine ⟨inM_band (by omega) (hi.1.2 x hx) (hi.1.2 y hy), fun z => ?_⟩
  rw [tb_band (n := xs.length) (by omega) (hi.1.2 x hx) (hi.1.2 y hy), Bool.and_eq_true, hi.2 x hx, hi.2 y hy]
  exact ⟨fun a => ⟨a.1.1, a.1.2, a.2.2⟩, fun a => ⟨⟨a.1, a.2.1⟩, a.1, a.2.2⟩⟩
theorem ox_jm {x y : Nat} (hx : x < xs.length) (hy : y < xs.length) : InM xs.length (band (xs.getD x 0) (xs.getD y 0)) ∧ ∀ z, tb (band (xs.getD x 0) (xs.getD y 0)) z = true ↔ leX xs x z ∧ leX xs y z := by
  have h30 := h.n30
  refine ⟨inM_band (by omega) (h.rel.2 x hx) (h.rel.2 y hy), fun z => ?_⟩
  rw [tb_band (n := xs.length) (by omega) (h.rel.2 x hx) (h.rel.2 y hy), Bool.and_eq_true]
  exact Iff.rfl
theorem ox_im {x y : Nat} (hx : x < xs.length) (hy : y < xs.length) : InM xs.length (hyC xs x y xs.length) ∧ ((∀ z, z < xs.length → 0 ≤ hyM xs z x) → ∀ z, tb (hyC xs x y xs.length) z = true ↔ z < xs.length ∧ leX xs (mX xs z x) y) := by
  have h30 := h.n30
  have hk := mkB_ok (fun z => tb ((invA xs xs.length).getD y 0) (hyM xs z x).toNat) (N := xs.length) (by omega) _ (Nat.le_refl _)
  refine ⟨hk.1, fun hm z => ?_⟩
  rw [hyC, hk.2, Bool.and_eq_true, decide_eq_true_eq]
  refine and_congr_right fun hz => ?_
  rw [(ox_inv h).2 y hy]
  have h1 := lowF_rng (invA xs xs.length) (band ((invA xs xs.length).getD z 0) ((invA xs xs.length).getD x 0))
  rw [invA_len] at h1
  have h2 := hm z hz
  have h3 : (hyM xs z x).toNat < xs.length := by
    have : hyM xs z x < (xs.length : Int) := h1.2
    omega
  exact ⟨fun a => a.2, fun a => ⟨h3, a⟩⟩
theorem ox_full : InM xs.length (fullM xs.length) ∧ ∀ z, tb (fullM xs.length) z = true ↔ z < xs.length := by
  have h30 := h.n30
  refine ⟨inM_full (by omega), fun z => ?_⟩
  rw [fullM, tb_full (by omega), decide_eq_true_iff]
/-! What they are. -/
theorem ox_b_is {k : Nat} (hk : k < xs.length) (h1 : ∀ z, z < xs.length → leX xs k z) : lowF xs (fullM xs.length) = (k : Int) := by
  obtain ⟨hm, hb⟩ := ox_full h
  exact ox_low_is h hm hk ((hb k).2 hk) fun z hz => h1 z ((hb z).1 hz)
theorem ox_t_is {k : Nat} (hk : k < xs.length) (h1 : ∀ z, z < xs.length → leX xs z k) : lowF (invA xs xs.length) (fullM xs.length) = (k : Int) := by
  obtain ⟨hm, hb⟩ := ox_full h
  exact ox_lowI_is h hm hk ((hb k).2 hk) fun z hz => h1 z ((hb z).1 hz)
theorem ox_M_get {x y : Nat} (hx : x < xs.length) (hy : y < xs.length) (h0 : 0 ≤ hyM xs x y) : mX xs x y < xs.length ∧ leX xs (mX xs x y) x ∧ leX xs (mX xs x y) y ∧ ∀ z, z < xs.length → leX xs z x → leX xs z y → leX xs z (mX xs x y) := by
  obtain ⟨hm, hb⟩ := ox_mm h hx hy
  obtain ⟨a, b, c⟩ := ox_lowI_get h hm h0
  have b' := (hb _).1 b
  exact ⟨a, b'.2.1, b'.2.2, fun z hz p q => c z ((hb z).2 ⟨hz, p, q⟩)⟩
theorem ox_J_get {x y : Nat} (hx : x < xs.length) (hy : y < xs.length) (h0 : 0 ≤ hyJ xs x y) : jX xs x y < xs.length ∧ leX xs x (jX xs x y) ∧ leX xs y (jX xs x y) ∧ ∀ z, z < xs.length → leX xs x z → leX xs y z → leX xs (jX xs x y) z := by
  obtain ⟨hm, hb⟩ := ox_jm h hx hy
  obtain ⟨a, b, c⟩ := ox_low_get h hm h0
  have b' := (hb _).1 b
  exact ⟨a, b'.1, b'.2, fun z hz p q => c z ((hb z).2 ⟨p, q⟩)⟩
theorem ox_I_get {x y : Nat} (hx : x < xs.length) (hy : y < xs.length) (hm0 : ∀ z, z < xs.length → 0 ≤ hyM xs z x) (h0 : 0 ≤ hyI xs x y) : iX xs x y < xs.length ∧ ∀ z, z < xs.length → (leX xs (mX xs z x) y ↔ leX xs z (iX xs x y)) := by
  obtain ⟨hm, hb⟩ := ox_im h hx hy
  obtain ⟨a, b, c⟩ := ox_lowI_get h hm h0
  have b' := ((hb hm0 _).1 b).2
  refine ⟨a, fun z hz => ⟨fun p => c z ((hb hm0 z).2 ⟨hz, p⟩), fun p => ?_⟩⟩
  have hi : iX xs x y < xs.length := a
  obtain ⟨m1, m2, m3, _⟩ := ox_M_get h hz hx (hm0 z hz)
  obtain ⟨k1, _, _, k4⟩ := ox_M_get h hi hx (hm0 _ hi)
  exact ox_trans h m1 (k4 _ m1 (ox_trans h m1 m2 p) m3) b'
/-- Finitely many elements have a common lower bound, and an upper one. -/
theorem ox_bot (h0 : 0 < xs.length) (hm : ∀ x y, x < xs.length → y < xs.length → 0 ≤ hyM xs x y) : ∀ k, k ≤ xs.length → ∃ b, b < xs.length ∧ ∀ z, z < k → leX xs b z
  | 0, _ => ⟨0, h0, fun z hz => absurd hz (by omega)⟩
  | k + 1, hk => by
    obtain ⟨b, hb, h1⟩ := ox_bot h0 hm k (by omega)
    obtain ⟨m1, m2, m3, _⟩ := ox_M_get h hb (show k < xs.length by omega) (hm b k hb (by omega))
    refine ⟨mX xs b k, m1, fun z hz => ?_⟩
    rcases Nat.lt_or_ge z k with hz' | hz'
    · exact ox_trans h m1 m2 (h1 z hz')
    · rw [show z = k by omega]; exact m3
theorem ox_top (h0 : 0 < xs.length) (hj : ∀ x y, x < xs.length → y < xs.length → 0 ≤ hyJ xs x y) : ∀ k, k ≤ xs.length → ∃ b, b < xs.length ∧ ∀ z, z < k → leX xs z b
  | 0, _ => ⟨0, h0, fun z hz => absurd hz (by omega)⟩
  | k + 1, hk => by
    obtain ⟨b, hb, h1⟩ := ox_top h0 hj k (by omega)
    obtain ⟨m1, m2, m3, _⟩ := ox_J_get h hb (show k < xs.length by omega) (hj b k hb (by omega))
    refine ⟨jX xs b k, m1, fun z hz => ?_⟩
    rcases Nat.lt_or_ge z k with hz' | hz'
    · exact ox_trans h (by omega) (h1 z hz') m2
    · rw [show z = k by omega]; exact m3
theorem ox_hy (h0 : 0 < xs.length) (hm : ∀ x y, x < xs.length → y < xs.length → 0 ≤ hyM xs x y) (hj : ∀ x y, x < xs.length → y < xs.length → 0 ≤ hyJ xs x y) (hi : ∀ x y, x < xs.length → y < xs.length → 0 ≤ hyI xs x y) : HyOK xs := by
  refine ⟨h0, h.n30, h.rel, h.pa, hm, hj, hi, ?_, ?_⟩
  · obtain ⟨b, hb, h1⟩ := ox_bot h h0 hm _ (Nat.le_refl _)
    rw [ox_b_is h hb h1]; omega
  · obtain ⟨b, hb, h1⟩ := ox_top h h0 hj _ (Nat.le_refl _)
    rw [ox_t_is h hb h1]; omega
end
/-! A Heyting algebra. -/
section
variable {xs : List Int} (h : HyOK xs)
include h
theorem hx_refl {x : Nat} (hx : x < xs.length) : leX xs x x := ox_refl h.ord hx
theorem hx_anti {x y : Nat} (hx : x < xs.length) (a : leX xs x y) (b : leX xs y x) : x = y := ox_anti h.ord hx a b
theorem hx_M {x y : Nat} (hx : x < xs.length) (hy : y < xs.length) : hyM xs x y = (mX xs x y : Int) ∧ mX xs x y < xs.length ∧ leX xs (mX xs x y) x ∧ leX xs (mX xs x y) y ∧ ∀ z, z < xs.length → leX xs z x → leX xs z y → leX xs z (mX xs x y) :=
  ⟨(Int.toNat_of_nonneg (h.me x y hx hy)).symm, ox_M_get h.ord hx hy (h.me x y hx hy)⟩
theorem hx_J {x y : Nat} (hx : x < xs.length) (hy : y < xs.length) : hyJ xs x y = (jX xs x y : Int) ∧ jX xs x y < xs.length ∧ leX xs x (jX xs x y) ∧ leX xs y (jX xs x y) ∧ ∀ z, z < xs.length → leX xs x z → leX xs y z → leX xs (jX xs x y) z :=
  ⟨(Int.toNat_of_nonneg (h.jo x y hx hy)).symm, ox_J_get h.ord hx hy (h.jo x y hx hy)⟩
theorem hx_I {x y : Nat} (hx : x < xs.length) (hy : y < xs.length) : hyI xs x y = (iX xs x y : Int) ∧ iX xs x y < xs.length ∧ ∀ z, z < xs.length → (leX xs (mX xs z x) y ↔ leX xs z (iX xs x y)) :=
  ⟨(Int.toNat_of_nonneg (h.im x y hx hy)).symm, ox_I_get h.ord hx hy (fun z hz => h.me z x hz hx) (h.im x y hx hy)⟩
theorem hx_t : lowF (invA xs xs.length) (fullM xs.length) = (tX xs : Int) ∧ tX xs < xs.length ∧ ∀ z, z < xs.length → leX xs z (tX xs) := by
  obtain ⟨hm, hb⟩ := ox_full h.ord
  obtain ⟨a, b, c⟩ := ox_lowI_get h.ord hm h.to
  exact ⟨(Int.toNat_of_nonneg h.to).symm, a, fun z hz => c z ((hb z).2 hz)⟩
theorem hx_Mx {x y : Nat} (hx : x < xs.length) (hy : y < xs.length) : hyM xs x y = (x : Int) ↔ leX xs x y := by
  obtain ⟨e, a, b, c, d⟩ := hx_M h hx hy
  constructor
  · intro q
    have : mX xs x y = x := by omega
    rw [this] at c; exact c
  · intro q
    have := hx_anti h a b (d x hx (hx_refl h hx) q)
    omega
end
/-! Is there an algebra of the order? -/
def hyB (xs : List Int) : Bool := decide (0 < xs.length) && (paB xs.length xs && (List.range xs.length).all fun x => (List.range xs.length).all fun y => decide (0 ≤ hyM xs x y) && (decide (0 ≤ hyJ xs x y) && decide (0 ≤ hyI xs x y)))
theorem hyB_parts {xs : List Int} : hyB xs = true ↔ 0 < xs.length ∧ paB xs.length xs = true ∧ ∀ x, x < xs.length → ∀ y, y < xs.length → 0 ≤ hyM xs x y ∧ 0 ≤ hyJ xs x y ∧ 0 ≤ hyI xs x y := by
  simp only [hyB, Bool.and_eq_true, decide_eq_true_eq, List.all_eq_true, List.mem_range]
theorem hyB_ok {xs : List Int} (h30 : xs.length ≤ 30) (hr : RelOK xs.length xs) (h : hyB xs = true) : HyOK xs := by
  obtain ⟨a, b, c⟩ := hyB_parts.1 h
  exact ox_hy ⟨h30, hr, b⟩ a (fun x y hx hy => (c x hx y hy).1) (fun x y hx hy => (c x hx y hy).2.1) (fun x y hx hy => (c x hx y hy).2.2)
theorem hyB_of {xs : List Int} (h : HyOK xs) : hyB xs = true := hyB_parts.2 ⟨h.n0, h.pa, fun x hx y hy => ⟨h.me x y hx hy, h.jo x y hx hy, h.im x y hx hy⟩⟩
/-- Rows of elements for each element. -/
def tabB (N : Nat) (A : List (List Int)) : Bool := decide (A.length = N) && A.all fun r => decide (r.length = N) && r.all fun x => decide (0 ≤ x ∧ x < (N : Int))
theorem tabB_iff {N : Nat} {A : List (List Int)} : tabB N A = true ↔ A.length = N ∧ ∀ i : Nat, i < A.length → (A.getD i []).length = N ∧ ∀ j : Nat, j < (A.getD i []).length → 0 ≤ (A.getD i []).getD j 0 ∧ (A.getD i []).getD j 0 < (N : Int) := by
  simp only [tabB, Bool.and_eq_true, decide_eq_true_eq, List.all_eq_true]
  refine and_congr_right fun _ => ⟨fun h i hi => ?_, fun h r hr => ?_⟩
  · have hm : A.getD i [] ∈ A := by rw [List.getD_eq_getElem?_getD, List.getElem?_eq_getElem hi]; exact List.getElem_mem _
    have gm : ∀ (r : List Int) (j : Nat), j < r.length → r.getD j 0 ∈ r := fun r j hj => by rw [List.getD_eq_getElem?_getD, List.getElem?_eq_getElem hj]; exact List.getElem_mem _
    exact ⟨(h _ hm).1, fun j hj => (h _ hm).2 _ (gm _ j hj)⟩
  · obtain ⟨i, hi, rfl⟩ := List.getElem_of_mem hr
    have e : A.getD i [] = A[i] := by rw [List.getD_eq_getElem?_getD, List.getElem?_eq_getElem hi]; rfl
    rw [← e]
    refine ⟨(h i hi).1, fun x hx => ?_⟩
    obtain ⟨j, hj, rfl⟩ := List.getElem_of_mem hx
    have := (h i hi).2 j hj
    rwa [List.getD_eq_getElem?_getD, List.getElem?_eq_getElem hj] at this
theorem tabB_at {N : Nat} {A : List (List Int)} (h : tabB N A = true) {i : Nat} (hi : i < N) : (A.getD i []).length = N ∧ ∀ j : Nat, j < N → 0 ≤ (A.getD i []).getD j 0 ∧ (A.getD i []).getD j 0 < (N : Int) := by
  obtain ⟨a, b⟩ := tabB_iff.1 h
  obtain ⟨c, d⟩ := b i (by omega)
  exact ⟨c, fun j hj => d j (by omega)⟩
/-- The order of a table. -/
def ordB (A : List (List Int)) (x y : Nat) : Bool := decide ((A.getD x []).getD y 0 = (x : Int))
def ordT (A : List (List Int)) : List Int := (List.range A.length).map fun x => mkB (ordB A x) A.length
theorem ordT_len (A : List (List Int)) : (ordT A).length = A.length := by simp [ordT]
theorem ordT_get {A : List (List Int)} {x : Nat} (h : x < A.length) : (ordT A).getD x 0 = mkB (ordB A x) A.length := by simp [ordT, List.getD_eq_getElem?_getD, List.getElem?_range h]
theorem ordT_rel {A : List (List Int)} (h : A.length ≤ 61) : RelOK (ordT A).length (ordT A) := by
  refine ⟨rfl, fun j hj => ?_⟩
  rw [ordT_len] at hj ⊢
  rw [ordT_get hj]
  exact (mkB_ok _ (N := A.length) h _ (Nat.le_refl _)).1
theorem ordT_le {A : List (List Int)} (h : A.length ≤ 61) {x y : Nat} (hx : x < A.length) : leX (ordT A) x y ↔ y < A.length ∧ (A.getD x []).getD y 0 = (x : Int) := by
  rw [leX, ordT_get hx, (mkB_ok _ (N := A.length) h _ (Nat.le_refl _)).2, Bool.and_eq_true, decide_eq_true_eq, ordB, decide_eq_true_eq]
/-- Is it an algebra? -/
def hyIs (A O J : List (List Int)) (b t : Int) : Bool :=
  decide (1 ≤ A.length ∧ A.length ≤ 30) && (tabB A.length A && (tabB A.length O && (tabB A.length J && (hyB (ordT A) && decide (b = lowF (ordT A) (fullM A.length) ∧ t = lowF (invA (ordT A) A.length) (fullM A.length) ∧ A = tabR (hyM (ordT A)) A.length A.length ∧ O = tabR (hyJ (ordT A)) A.length A.length ∧ J = tabR (hyI (ordT A)) A.length A.length)))))
theorem hyIs_parts {A O J : List (List Int)} {b t : Int} : hyIs A O J b t = true ↔ (1 ≤ A.length ∧ A.length ≤ 30) ∧ tabB A.length A = true ∧ tabB A.length O = true ∧ tabB A.length J = true ∧ hyB (ordT A) = true ∧ b = lowF (ordT A) (fullM A.length) ∧ t = lowF (invA (ordT A) A.length) (fullM A.length) ∧ A = tabR (hyM (ordT A)) A.length A.length ∧ O = tabR (hyJ (ordT A)) A.length A.length ∧ J = tabR (hyI (ordT A)) A.length A.length := by
  simp only [hyIs, Bool.and_eq_true, decide_eq_true_eq]
/-- An algebra is that of its order. -/
structure IsHy (xs : List Int) (A O J : List (List Int)) (b t : Int) : Prop where
  ok : HyOK xs
  eA : A = tabR (hyM xs) xs.length xs.length
  eO : O = tabR (hyJ xs) xs.length xs.length
  eJ : J = tabR (hyI xs) xs.length xs.length
  eb : b = lowF xs (fullM xs.length)
  et : t = lowF (invA xs xs.length) (fullM xs.length)
theorem tabR_tabB {f : Nat → Nat → Int} {N : Nat} (h : ∀ x y, x < N → y < N → 0 ≤ f x y ∧ f x y < (N : Int)) : tabB N (tabR f N N) = true := by
  refine tabB_iff.2 ⟨tabR_len _ _ _, fun i hi => ?_⟩
  rw [tabR_len] at hi
  rw [tabR_get hi, rowR_len]
  refine ⟨rfl, fun j hj => ?_⟩
  rw [rowR_get hj]
  exact h i j hi hj
theorem ordT_tab {xs : List Int} (h : HyOK xs) : ordT (tabR (hyM xs) xs.length xs.length) = xs := by
  have h30 := h.n30
  have hl := tabR_len (hyM xs) xs.length xs.length
  refine rowN_ext (N := xs.length) (by rw [ordT_len, hl]) rfl fun x hx => ?_
  have hr := h.rel.2 x hx
  have hT := (ordT_rel (A := tabR (hyM xs) xs.length xs.length) (by rw [hl]; omega)).2 x (by rw [ordT_len, hl]; exact hx)
  rw [ordT_len, hl] at hT
  refine tb_ext hT.1 hr.1 fun y => ?_
  rw [Bool.eq_iff_iff]
  have := ordT_le (A := tabR (hyM xs) xs.length xs.length) (by rw [hl]; omega) (x := x) (y := y) (by rw [hl]; exact hx)
  rw [leX] at this
  rw [this, hl]
  constructor
  · rintro ⟨hy, e⟩
    rw [tabR_get hx, rowR_get hy] at e
    exact (hx_Mx h hx hy).1 e
  · intro a
    have hy := tb_lt hr a
    refine ⟨hy, ?_⟩
    rw [tabR_get hx, rowR_get hy]
    exact (hx_Mx h hx hy).2 a
theorem IsHy.is {xs : List Int} {A O J : List (List Int)} {b t : Int} (h : IsHy xs A O J b t) : hyIs A O J b t = true ∧ ordT A = xs ∧ A.length = xs.length := by
  have hl : A.length = xs.length := by rw [h.eA, tabR_len]
  have ho : ordT A = xs := by rw [h.eA]; exact ordT_tab h.ok
  have h1 := h.ok.n0
  have h2 := h.ok.n30
  refine ⟨hyIs_parts.2 ?_, ho, hl⟩
  rw [ho, hl]
  refine ⟨⟨by omega, h2⟩, ?_, ?_, ?_, hyB_of h.ok, h.eb, h.et, h.eA, h.eO, h.eJ⟩
  · rw [h.eA]; exact tabR_tabB fun x y hx hy => by have := hx_M h.ok hx hy; omega
  · rw [h.eO]; exact tabR_tabB fun x y hx hy => by have := hx_J h.ok hx hy; omega
  · rw [h.eJ]; exact tabR_tabB fun x y hx hy => by have := hx_I h.ok hx hy; omega

end Go.Proofs.YtjllngcefoohpaaGreat


/-! Formulas as trees: where parts end; values by a stack (any words). -/
namespace Go.Proofs.YtjllngcefoohpaaGreat
open Go.RowKit Go.Abs

/-- How many nodes the first o parts take. -/
def pe : Nat → List (Int × Int) → Option Nat
  | 0, _ => some 0
  | _ + 1, [] => none
  | o + 1, x :: l => (pe (o + partsN x.1) l).map (· + 1)
theorem pe_zero (l : List (Int × Int)) : pe 0 l = some 0 := by cases l <;> rfl
theorem pe_succ (o : Nat) (x : Int × Int) (l : List (Int × Int)) : pe (o + 1) (x :: l) = (pe (o + partsN x.1) l).map (· + 1) := rfl
theorem pe_cons {o n : Nat} {x : Int × Int} {l : List (Int × Int)} (h : pe (o + 1) (x :: l) = some n) : ∃ k, n = k + 1 ∧ pe (o + partsN x.1) l = some k := by
  rw [pe_succ, Option.map_eq_some_iff] at h
  obtain ⟨k, h1, rfl⟩ := h
  exact ⟨k, rfl, h1⟩
theorem pe_le : ∀ {l : List (Int × Int)} {o n : Nat}, pe o l = some n → n ≤ l.length
  | l, 0, n, h => by rw [pe_zero] at h; cases h; exact Nat.zero_le _
  | [], o + 1, n, h => by cases h
  | x :: l, o + 1, n, h => by
    obtain ⟨k, rfl, h1⟩ := pe_cons h
    exact Nat.succ_le_succ (pe_le h1)
theorem pe_take : ∀ {l : List (Int × Int)} {o n : Nat}, pe o l = some n → pe o (l.take n) = some n
  | l, 0, n, h => by rw [pe_zero] at h ⊢; exact h
  | [], o + 1, n, h => by cases h
  | x :: l, o + 1, n, h => by
    obtain ⟨k, rfl, h1⟩ := pe_cons h
    rw [List.take_succ_cons, pe_succ, pe_take h1]
    rfl
theorem pe_add : ∀ {l : List (Int × Int)} {o p n : Nat}, pe (o + p) l = some n → ∃ k, pe o l = some k ∧ k ≤ n ∧ pe p (l.drop k) = some (n - k)
  | l, 0, p, n, h => ⟨0, pe_zero l, Nat.zero_le _, by simpa using h⟩
  | [], o + 1, p, n, h => by rw [show o + 1 + p = (o + p) + 1 by omega] at h; cases h
  | x :: l, o + 1, p, n, h => by
    rw [show o + 1 + p = (o + p) + 1 by omega] at h
    obtain ⟨k, rfl, h0⟩ := pe_cons h
    rw [show o + p + partsN x.1 = o + partsN x.1 + p by omega] at h0
    obtain ⟨j, h1, h2, h3⟩ := pe_add h0
    exact ⟨j + 1, by rw [pe_succ, h1]; rfl, by omega, by rw [List.drop_succ_cons, h3]; congr 1; omega⟩
theorem pe_suffix : ∀ {l : List (Int × Int)} {o : Nat}, pe o l = some l.length → ∀ j, ∃ o', pe o' (l.drop j) = some (l.drop j).length
  | l, o, h, 0 => ⟨o, h⟩
  | [], o, h, j + 1 => ⟨0, rfl⟩
  | x :: l, 0, h, j + 1 => by rw [pe_zero] at h; cases h
  | x :: l, o + 1, h, j + 1 => by
    obtain ⟨k, hk, h⟩ := pe_cons h
    rw [List.drop_succ_cons]
    exact pe_suffix (by rw [h]; congr 1; simpa using hk.symm) j

/-- Where o parts end that begin at j. -/
def peX (o : Nat) (a : List (Int × Int)) (j : Nat) : Int := match pe o (a.drop j) with | some n => (j : Int) + n | none => -1
theorem peX_zero (a : List (Int × Int)) (j : Nat) : peX 0 a j = j := by simp [peX, pe_zero]
theorem peX_end (o : Nat) (a : List (Int × Int)) (j : Nat) (h : a.length ≤ j) : peX (o + 1) a j = -1 := by simp [peX, List.drop_eq_nil_of_le h, pe]
theorem drop_cons (a : List (Int × Int)) (j : Nat) (h : j < a.length) : a.drop j = a.getD j (0, 0) :: a.drop (j + 1) := by
  rw [List.drop_eq_getElem_cons h, List.getD_eq_getElem?_getD, List.getElem?_eq_getElem h]; rfl
theorem peX_step (o : Nat) (a : List (Int × Int)) (j : Nat) (h : j < a.length) : peX (o + 1) a j = peX (o + partsN (a.getD j (0, 0)).1) a (j + 1) := by
  unfold peX
  rw [drop_cons a j h, pe_succ]
  cases pe (o + partsN (a.getD j (0, 0)).1) (a.drop (j + 1)) with
  | none => rfl
  | some n => simp only [Option.map_some]; omega
theorem peX_stepI (o : Int) (a : List (Int × Int)) (j : Nat) (c : Int) (ho : 0 < o) (h : j < a.length) (hc : c = o - 1 + partsN (a.getD j (0, 0)).1) : peX o.toNat a j = peX c.toNat a (j + 1) := by
  rw [show o.toNat = (o.toNat - 1) + 1 by omega, peX_step _ a j h]
  congr 1
  omega
theorem peX_endI (o : Int) (a : List (Int × Int)) (j : Nat) (ho : 0 < o) (h : a.length ≤ j) : peX o.toNat a j = -1 := by
  rw [show o.toNat = (o.toNat - 1) + 1 by omega, peX_end _ a j h]

/-- A formula with variables below nv. -/
def OKM (nv : Nat) (a : List (Int × Int)) : Prop := pe 1 a = some a.length ∧ ∀ x ∈ a, 0 ≤ x.1 ∧ x.1 ≤ 6 ∧ (x.1 = 0 → 0 ≤ x.2 ∧ x.2 < nv)
def lef (a : List (Int × Int)) : List (Int × Int) := (a.take (peX 1 a 1).toNat).drop 1
def rig (a : List (Int × Int)) : List (Int × Int) := a.drop (peX 1 a 1).toNat
theorem okm_cons {nv : Nat} {a : List (Int × Int)} (h : OKM nv a) : ∃ x r, a = x :: r ∧ pe (partsN x.1) r = some r.length := by
  obtain ⟨h, _⟩ := h
  cases a with
  | nil => cases h
  | cons x r =>
    obtain ⟨k, hk, h⟩ := pe_cons (o := 0) h
    exact ⟨x, r, rfl, by rw [Nat.zero_add] at h; rw [h]; congr 1; simpa using hk.symm⟩
theorem okm_pos {nv : Nat} {a : List (Int × Int)} (h : OKM nv a) : 1 ≤ a.length := by
  obtain ⟨x, r, rfl, _⟩ := okm_cons h
  simp
theorem okm_get {nv : Nat} {a : List (Int × Int)} (h : OKM nv a) (j : Nat) (hj : j < a.length) : 0 ≤ (a.getD j (0, 0)).1 ∧ (a.getD j (0, 0)).1 ≤ 6 ∧ ((a.getD j (0, 0)).1 = 0 → 0 ≤ (a.getD j (0, 0)).2 ∧ (a.getD j (0, 0)).2 < nv) := by
  have : a.getD j (0, 0) ∈ a := by
    rw [List.getD_eq_getElem?_getD, List.getElem?_eq_getElem hj, Option.getD_some]
    exact List.getElem_mem hj
  exact h.2 _ this
theorem okm_two {nv : Nat} {a : List (Int × Int)} (h : OKM nv a) (hp : partsN (a.getD 0 (0, 0)).1 = 2) :
    ∃ x L R, a = x :: (L ++ R) ∧ OKM nv L ∧ OKM nv R ∧ peX 1 a 1 = 1 + L.length ∧ lef a = L ∧ rig a = R := by
  obtain ⟨x, r, rfl, hr⟩ := okm_cons h
  simp only [List.getD_cons_zero] at hp
  rw [hp] at hr
  obtain ⟨k, h1, h2, h3⟩ := pe_add (o := 1) (p := 1) hr
  have hk := pe_le h1
  have hX : peX 1 (x :: r) 1 = 1 + k := by simp [peX, h1]
  have hL : lef (x :: r) = r.take k := by
    unfold lef
    rw [hX, show (1 + (k : Int)).toNat = k + 1 by omega, List.take_succ_cons, List.drop_succ_cons, List.drop_zero]
  have hR : rig (x :: r) = r.drop k := by
    unfold rig
    rw [hX, show (1 + (k : Int)).toNat = k + 1 by omega, List.drop_succ_cons]
  have hl : (r.take k).length = k := by simp; omega
  refine ⟨x, r.take k, r.drop k, by rw [List.take_append_drop], ⟨?_, ?_⟩, ⟨?_, ?_⟩, by rw [hX, hl], hL, hR⟩
  · rw [pe_take h1, hl]
  · exact fun y hy => h.2 y (List.mem_cons_of_mem _ (List.mem_of_mem_take hy))
  · rw [h3]; simp
  · exact fun y hy => h.2 y (List.mem_cons_of_mem _ (List.mem_of_mem_drop hy))
theorem partsN_1 {k : Int} (h : k = 5 ∨ k = 6) : partsN k = 1 := by
  unfold partsN
  rw [if_neg (by omega), if_pos h]
theorem okm_one {nv : Nat} {a : List (Int × Int)} (h : OKM nv a) (hp : partsN (a.getD 0 (0, 0)).1 = 1) : ∃ x r, a = x :: r ∧ OKM nv r ∧ a.drop 1 = r := by
  obtain ⟨x, r, rfl, hr⟩ := okm_cons h
  simp only [List.getD_cons_zero] at hp
  rw [hp] at hr
  exact ⟨x, r, rfl, ⟨hr, fun y hy => h.2 y (List.mem_cons_of_mem _ hy)⟩, rfl⟩
theorem okm_lef {nv : Nat} {a : List (Int × Int)} (h : OKM nv a) (hp : partsN (a.getD 0 (0, 0)).1 = 2) : OKM nv (lef a) := by
  obtain ⟨x, L, R, _, hL, _, _, e, _⟩ := okm_two h hp
  rw [e]; exact hL
theorem okm_rig {nv : Nat} {a : List (Int × Int)} (h : OKM nv a) (hp : partsN (a.getD 0 (0, 0)).1 = 2) : OKM nv (rig a) := by
  obtain ⟨x, L, R, _, _, hR, _, _, e⟩ := okm_two h hp
  rw [e]; exact hR
theorem lenm_lef {nv : Nat} {a : List (Int × Int)} (h : OKM nv a) (hp : partsN (a.getD 0 (0, 0)).1 = 2) : (lef a).length < a.length ∧ (rig a).length < a.length ∧ 1 ≤ peX 1 a 1 ∧ peX 1 a 1 ≤ a.length := by
  obtain ⟨x, L, R, rfl, hL, _, e0, e1, e2⟩ := okm_two h hp
  rw [e1, e2, e0]
  simp
  omega

/-- Values by a stack: b tells the words of two parts, u those of one. -/
def stepG (b : Int → Int → Int → Int) (u : Int → Int → Int) (vs : List Int) (x : Int × Int) (st : List Int) : List Int :=
  if x.1 = 0 then vs.getD x.2.toNat 0 :: st
  else if x.1 = 2 ∨ x.1 = 3 ∨ x.1 = 4 then b x.1 (st.getD 0 0) (st.getD 1 0) :: st.drop 2
  else if x.1 = 5 ∨ x.1 = 6 then u x.1 (st.getD 0 0) :: st.drop 1
  else 0 :: st
section
variable (b : Int → Int → Int → Int) (u : Int → Int → Int) (vs : List Int)
theorem stepG_var {x : Int × Int} (h : x.1 = 0) (st : List Int) : stepG b u vs x st = vs.getD x.2.toNat 0 :: st := by rw [stepG, if_pos h]
theorem stepG_two {x : Int × Int} (h : x.1 = 2 ∨ x.1 = 3 ∨ x.1 = 4) (p q : Int) (st : List Int) : stepG b u vs x (p :: q :: st) = b x.1 p q :: st := by rw [stepG, if_neg (by omega), if_pos h]; rfl
theorem stepG_one {x : Int × Int} (h : x.1 = 5 ∨ x.1 = 6) (p : Int) (st : List Int) : stepG b u vs x (p :: st) = u x.1 p :: st := by rw [stepG, if_neg (by omega), if_neg (by omega), if_pos h]; rfl
theorem stepG_bot {x : Int × Int} (h : x.1 = 1) (st : List Int) : stepG b u vs x st = 0 :: st := by rw [stepG, if_neg (by omega), if_neg (by omega), if_neg (by omega)]
def stkG (a : List (Int × Int)) : List Int := a.foldr (stepG b u vs) []
def gv (a : List (Int × Int)) : Int := (stkG b u vs a).getD 0 0
theorem stkg_parts : ∀ {l : List (Int × Int)} {o : Nat}, (∀ x ∈ l, 0 ≤ x.1 ∧ x.1 ≤ 6) → pe o l = some l.length → ∃ ws : List Int, ws.length = o ∧ ∀ st, l.foldr (stepG b u vs) st = ws ++ st
  | [], 0, _, _ => ⟨[], rfl, fun _ => rfl⟩
  | [], o + 1, _, h => by cases h
  | x :: l, 0, _, h => by rw [pe_zero] at h; cases h
  | x :: l, o + 1, hx, h => by
    obtain ⟨k, hk, h⟩ := pe_cons h
    obtain ⟨ws, h1, h2⟩ := stkg_parts (fun y hy => hx y (List.mem_cons_of_mem _ hy)) (show pe (o + partsN x.1) l = some l.length by rw [h]; congr 1; simpa using hk.symm)
    have hx0 := hx x (List.mem_cons_self ..)
    have hc : x.1 = 0 ∨ x.1 = 1 ∨ (x.1 = 2 ∨ x.1 = 3 ∨ x.1 = 4) ∨ (x.1 = 5 ∨ x.1 = 6) := by omega
    rcases hc with hc | hc | hc | hc
    · exact ⟨vs.getD x.2.toNat 0 :: ws, by simp [partsN, hc] at h1; simp [h1], fun st => by rw [List.foldr_cons, h2, stepG_var _ _ _ hc]; rfl⟩
    · exact ⟨0 :: ws, by simp [partsN, hc] at h1; simp [h1], fun st => by rw [List.foldr_cons, h2, stepG_bot _ _ _ hc]; rfl⟩
    · rw [(partsN_two _).2 hc] at h1
      match ws, h1 with
      | p :: q :: ws, h1 =>
        have h1' : ws.length = o := by simp at h1; omega
        exact ⟨b x.1 p q :: ws, by simp [h1'], fun st => by rw [List.foldr_cons, h2, List.cons_append, List.cons_append, stepG_two _ _ _ hc]; rfl⟩
    · rw [partsN_1 hc] at h1
      match ws, h1 with
      | p :: ws, h1 =>
        have h1' : ws.length = o := by simp at h1; omega
        exact ⟨u x.1 p :: ws, by simp [h1'], fun st => by rw [List.foldr_cons, h2, List.cons_append, stepG_one _ _ _ hc]; rfl⟩
theorem okm_stk {nv : Nat} {a : List (Int × Int)} (h : OKM nv a) : ∀ st, a.foldr (stepG b u vs) st = gv b u vs a :: st := by
  obtain ⟨ws, h1, h2⟩ := stkg_parts b u vs (fun x hx => ⟨(h.2 x hx).1, (h.2 x hx).2.1⟩) h.1
  match ws, h1 with
  | [v], _ =>
    have : gv b u vs a = v := by simp [gv, stkG, h2]
    intro st
    rw [h2, this]
    rfl
theorem gv_two {nv : Nat} {a : List (Int × Int)} (h : OKM nv a) {k : Int} (hk : (a.getD 0 (0, 0)).1 = k) (hc : k = 2 ∨ k = 3 ∨ k = 4) : b k (gv b u vs (lef a)) (gv b u vs (rig a)) = gv b u vs a := by
  obtain ⟨x, L, R, rfl, hL, hR, _, e1, e2⟩ := okm_two h ((partsN_two _).2 (by rw [hk]; exact hc))
  rw [e1, e2]
  simp only [List.getD_cons_zero] at hk
  subst hk
  conv => rhs; unfold gv stkG
  rw [List.foldr_cons, List.foldr_append, okm_stk b u vs hR, okm_stk b u vs hL, stepG_two _ _ _ hc]
  rfl
theorem gv_var {nv : Nat} {a : List (Int × Int)} (h : OKM nv a) (hk : (a.getD 0 (0, 0)).1 = 0) : vs.getD (a.getD 0 (0, 0)).2.toNat 0 = gv b u vs a := by
  obtain ⟨x, r, rfl, hr⟩ := okm_cons h
  simp only [List.getD_cons_zero] at hk ⊢
  simp [gv, stkG, stepG, hk]
theorem gv_bot {nv : Nat} {a : List (Int × Int)} (h : OKM nv a) (hk : (a.getD 0 (0, 0)).1 = 1) : 0 = gv b u vs a := by
  obtain ⟨x, r, rfl, hr⟩ := okm_cons h
  simp only [List.getD_cons_zero] at hk ⊢
  simp [gv, stkG, stepG, hk]

/-! The stack from behind. -/
theorem stkg_step (a : List (Int × Int)) (i : Int) (h0 : 0 ≤ i) (h1 : i < a.length) : stkG b u vs (a.drop (i - 1 + 1).toNat) = stepG b u vs (a.getD i.toNat (0, 0)) (stkG b u vs (a.drop (i + 1).toNat)) := by
  rw [show (i - 1 + 1).toNat = i.toNat by omega, show (i + 1).toNat = i.toNat + 1 by omega, drop_cons a i.toNat (by omega)]
  rfl
theorem stkg_len {nv : Nat} {a : List (Int × Int)} (h : OKM nv a) (i : Int) (h0 : 0 ≤ i) (h1 : i < a.length) : partsN (a.getD i.toNat (0, 0)).1 ≤ (stkG b u vs (a.drop (i + 1).toNat)).length := by
  obtain ⟨o, ho⟩ := pe_suffix h.1 i.toNat
  rw [drop_cons a i.toNat (by omega), show i.toNat + 1 = (i + 1).toNat by omega] at ho
  cases o with
  | zero => rw [pe_zero] at ho; cases ho
  | succ o =>
    obtain ⟨k, hk, ho⟩ := pe_cons ho
    obtain ⟨ws, h2, h3⟩ := stkg_parts b u vs (fun x hx => ⟨(h.2 x (List.mem_of_mem_drop hx)).1, (h.2 x (List.mem_of_mem_drop hx)).2.1⟩) (show pe (o + partsN (a.getD i.toNat (0, 0)).1) (a.drop (i + 1).toNat) = some (a.drop (i + 1).toNat).length by rw [ho]; congr 1; simpa using hk.symm)
    unfold stkG
    rw [h3, List.append_nil, h2]
    omega
variable {b u vs}
theorem stkg_push {a : List (Int × Int)} {S : List Int} {i : Int} (hS : S = (stkG b u vs (a.drop (i + 1).toNat)).reverse) (h0 : 0 ≤ i) (h1 : i < a.length) (hk : (a.getD i.toNat (0, 0)).1 = 0) : S ++ [vs.getD (a.getD i.toNat (0, 0)).2.toNat 0] = (stkG b u vs (a.drop (i - 1 + 1).toNat)).reverse := by
  rw [stkg_step b u vs a i h0 h1, hS, stepG_var _ _ _ hk, List.reverse_cons]
theorem stkg_bot {a : List (Int × Int)} {S : List Int} {i : Int} (hS : S = (stkG b u vs (a.drop (i + 1).toNat)).reverse) (h0 : 0 ≤ i) (h1 : i < a.length) (hk : (a.getD i.toNat (0, 0)).1 = 1) : S ++ [0] = (stkG b u vs (a.drop (i - 1 + 1).toNat)).reverse := by
  rw [stkg_step b u vs a i h0 h1, hS, stepG_bot _ _ _ hk, List.reverse_cons]
theorem rev_top (p : Int) (r : List Int) : ((p :: r).reverse).getD (((p :: r).reverse).length - 1) 0 = p := by simp [List.getD_eq_getElem?_getD]
theorem rev_pop (p : Int) (r : List Int) : ((p :: r).reverse).take (((p :: r).reverse).length - 1) = r.reverse := by simp
theorem stkg_two {nv : Nat} {a : List (Int × Int)} {S S1 : List Int} {i p q v k : Int} (hok : OKM nv a) (hS : S = (stkG b u vs (a.drop (i + 1).toNat)).reverse) (h0 : 0 ≤ i) (h1 : i < a.length)
    (hk : (a.getD i.toNat (0, 0)).1 = k) (hc : k = 2 ∨ k = 3 ∨ k = 4) (hp : S.getD (S.length - 1) 0 = p) (h2 : S.take (S.length - 1) = S1) (hq : S1.getD (S1.length - 1) 0 = q) (hv : v = b k p q) :
    S1.take (S1.length - 1) ++ [v] = (stkG b u vs (a.drop (i - 1 + 1).toNat)).reverse := by
  subst hk
  have hl := stkg_len b u vs hok i h0 h1
  rw [(partsN_two _).2 hc] at hl
  rw [stkg_step b u vs a i h0 h1]
  generalize stkG b u vs (a.drop (i + 1).toNat) = T at hS hl
  match T, hl with
  | p' :: q' :: r, _ =>
    subst hS
    rw [rev_top] at hp
    rw [rev_pop] at h2
    subst h2
    rw [rev_top] at hq
    subst hp
    subst hq
    rw [rev_pop, stepG_two _ _ _ hc, List.reverse_cons, hv]
theorem stkg_room {nv : Nat} {a : List (Int × Int)} {S : List Int} {i : Int} (hok : OKM nv a) (hS : S = (stkG b u vs (a.drop (i + 1).toNat)).reverse) (h0 : 0 ≤ i) (h1 : i < a.length) : partsN (a.getD i.toNat (0, 0)).1 ≤ S.length := by
  rw [hS, List.length_reverse]
  exact stkg_len b u vs hok i h0 h1
theorem stkg_fin {nv : Nat} {a : List (Int × Int)} {S : List Int} {i : Int} (hok : OKM nv a) (hS : S = (stkG b u vs (a.drop (i + 1).toNat)).reverse) (h0 : i = -1) : S = [gv b u vs a] := by
  subst h0
  have := okm_stk b u vs hok []
  rw [hS]
  simp [stkG, this]
end

theorem partEnd_c (a : List (Int × Int)) (i : Nat) (hi : i ≤ a.length) (hl : a.length ≤ 1000000000) : CallA Tryz.prog 171 [LN a, AI (i : Int)] (AI (peX 1 a i)) := by
 refine CallA.of Tryz.func171 rfl (by kernel_rfl) ?_
 refine R.go 10 (k15 ((fun | (o, j) => (⟨(frm 24 [(0, LN a), (1, AI (j : Int)), (5, AI o)]), []⟩ : St) : Int × Nat → St)) (fun | (o, j) => (0 ≤ o) ∧ (o ≤ j + 1) ∧ (j ≤ a.length) ∧ (peX 1 a i = peX o.toNat a j)) (fun | (o, j) => a.length - j) (1, i) [0, 1, 5] none ⟨(by omega), (by omega), (by omega), (by rfl)⟩ ?_)
 rintro ⟨o, j⟩ ⟨h4_1, h4_2, h4_3, h4_4⟩ R1 N2
 have hp := partsN_le (a.getD j (0, 0)).1
 refine R.go 6 (k3 (o > 0) (fun c5 => ?_) (fun c5 => ?_))
 ·refine R.go 11 (k3 ((j : Int) ≥ (a.length : Int)) (fun c6 => ?_) (fun c6 => ?_))
  ·exact R.go 4 (k17 (AI (-1)) (by first | (apply congrArg AI; rw [‹peX 1 a i = _›]; first | exact (peX_endI _ _ _ (by omega) (by omega)).symm | (rw [show o = 0 by omega]; exact (peX_zero _ _).symm)) | (exfalso; omega)))
  ·refine R.go 5 (k8 eN a (0, 0) j (j : Int) rfl eN_len ?_)
   refine R.go 2 (k14 true (partsOf_c ((a.getD j (0, 0)).1)) rfl ?_)
   refine k1 ((partsN ((a.getD j (0, 0)).1) : Int) - 1) ?_
   refine k1 (o + ((partsN ((a.getD j (0, 0)).1) : Int) - 1)) ?_
   refine R.go 5 (k1 ((j : Int) + 1) ?_)
   exact R.go 2 (k16 R1 (N2 (o + ((partsN ((a.getD j (0, 0)).1) : Int) - 1), j + 1) [0, 1, 5] none _ (by kernel_rfl) (by kernel_rfl) ⟨(by omega), (by omega), (by omega), (by rw [‹peX 1 a i = _›]; exact peX_stepI _ _ _ _ (by omega) (by omega) (by omega))⟩ (by show (a.length - (j + 1)) < (a.length - j); omega)))
 ·exact R.go 6 (k17 (AI (j : Int)) (by first | (apply congrArg AI; rw [‹peX 1 a i = _›]; first | exact (peX_endI _ _ _ (by omega) (by omega)).symm | (rw [show o = 0 by omega]; exact (peX_zero _ _).symm)) | (exfalso; omega)))

theorem l02Part_c (a : List (Int × Int)) (i : Nat) (hi : i ≤ a.length) (hl : a.length ≤ 1000000000) : CallA Tryz.prog 313 [LN a, AI (i : Int)] (AI (peX 1 a i)) := by
 refine CallA.of Tryz.func313 rfl (by kernel_rfl) ?_
 refine R.go 10 (k15 ((fun | (o, j) => (⟨(frm 24 [(0, LN a), (1, AI (j : Int)), (5, AI o)]), []⟩ : St) : Int × Nat → St)) (fun | (o, j) => (0 ≤ o) ∧ (o ≤ j + 1) ∧ (j ≤ a.length) ∧ (peX 1 a i = peX o.toNat a j)) (fun | (o, j) => a.length - j) (1, i) [0, 1, 5] none ⟨(by omega), (by omega), (by omega), (by rfl)⟩ ?_)
 rintro ⟨o, j⟩ ⟨h4_1, h4_2, h4_3, h4_4⟩ R1 N2
 have hp := partsN_le (a.getD j (0, 0)).1
 refine R.go 6 (k3 (o > 0) (fun c5 => ?_) (fun c5 => ?_))
 ·refine R.go 10 (k3 ((j : Int) ≥ (a.length : Int)) (fun c6 => ?_) (fun c6 => ?_))
  ·exact R.go 4 (k17 (AI (-1)) (by first | (apply congrArg AI; rw [‹peX 1 a i = _›]; first | exact (peX_endI _ _ _ (by omega) (by omega)).symm | (rw [show o = 0 by omega]; exact (peX_zero _ _).symm)) | (exfalso; omega)))
  ·refine R.go 4 (k1 (o - 1) ?_)
   refine R.go 2 (k8 eN a (0, 0) j (j : Int) rfl eN_len ?_)
   refine R.go 2 (k14 true (l02Parts_c ((a.getD j (0, 0)).1)) rfl ?_)
   refine k1 ((o - 1) + (partsN ((a.getD j (0, 0)).1) : Int)) ?_
   refine R.go 4 (k1 ((j : Int) + 1) ?_)
   exact R.go 3 (k16 R1 (N2 ((o - 1) + (partsN ((a.getD j (0, 0)).1) : Int), j + 1) [0, 1, 5] none _ (by kernel_rfl) (by kernel_rfl) ⟨(by omega), (by omega), (by omega), (by rw [‹peX 1 a i = _›]; exact peX_stepI _ _ _ _ (by omega) (by omega) (by omega))⟩ (by show (a.length - (j + 1)) < (a.length - j); omega)))
 ·exact R.go 6 (k17 (AI (j : Int)) (by first | (apply congrArg AI; rw [‹peX 1 a i = _›]; first | exact (peX_endI _ _ _ (by omega) (by omega)).symm | (rw [show o = 0 by omega]; exact (peX_zero _ _).symm)) | (exfalso; omega)))

theorem l02Left_c (nv : Nat) (a : List (Int × Int)) (hok : OKM nv a) (h2 : partsN (a.getD 0 (0, 0)).1 = 2) (hl : a.length ≤ 1000000000) : CallA Tryz.prog 210 [LN a] (LN (lef a)) := by
 have h1 := okm_pos hok
 have hb := lenm_lef hok h2
 refine CallA.of Tryz.func210 rfl (by kernel_rfl) ?_
 refine R.go 8 (k14 true (l02Part_c a 1 (by first | omega | (simp <;> omega)) hl) rfl ?_)
 refine R.slLH eN a 1 ((peX 1 a 1).toNat) 1 (peX 1 a 1) (by kernel_rfl) rfl (by omega) eN_len (by omega) (by omega) (by kernel_rfl) ?_
 exact R.go 2 (k17 (LN ((a.take ((peX 1 a 1).toNat)).drop 1)) (by first | (rfl) | (exfalso; omega)))

theorem l02Right_c (nv : Nat) (a : List (Int × Int)) (hok : OKM nv a) (h2 : partsN (a.getD 0 (0, 0)).1 = 2) (hl : a.length ≤ 1000000000) : CallA Tryz.prog 211 [LN a] (LN (rig a)) := by
 have h1 := okm_pos hok
 have hb := lenm_lef hok h2
 refine CallA.of Tryz.func211 rfl (by kernel_rfl) ?_
 refine R.go 8 (k14 true (l02Part_c a 1 (by first | omega | (simp <;> omega)) hl) rfl ?_)
 refine R.slL eN a ((peX 1 a 1).toNat) (peX 1 a 1) (by kernel_rfl) (by omega) eN_len (by omega) (by kernel_rfl) ?_
 exact R.go 2 (k17 (LN (a.drop ((peX 1 a 1).toNat))) (by first | (rfl) | (exfalso; omega)))

end Go.Proofs.YtjllngcefoohpaaGreat


/-! Which lists are formulas; their variables. -/
namespace Go.Proofs.YtjllngcefoohpaaGreat
open Go.RowKit Go.Abs

def okN (x : Int × Int) : Bool := decide ((x.1 = 0 ∧ 0 ≤ x.2 ∧ x.2 ≤ 5) ∨ (1 ≤ x.1 ∧ x.1 ≤ 6 ∧ x.2 = 0))
def badN (x : Int × Int) : Bool := !okN x
def modN (x : Int × Int) : Bool := decide (x.1 = 5 ∨ x.1 = 6)
def treeB (a : List (Int × Int)) : Bool := decide (0 < a.length) && a.all okN && decide (peX 1 a 0 = a.length)
def isF (a : List (Int × Int)) : Bool := decide (a.length ≤ 40) && treeB a
theorem okN_no (x : Int × Int) : okN x = false ↔ ¬ ((x.1 = 0 ∧ 0 ≤ x.2 ∧ x.2 ≤ 5) ∨ (1 ≤ x.1 ∧ x.1 ≤ 6 ∧ x.2 = 0)) := by unfold okN; exact decide_eq_false_iff_not
theorem okN_yes (x : Int × Int) : okN x = true ↔ ((x.1 = 0 ∧ 0 ≤ x.2 ∧ x.2 ≤ 5) ∨ (1 ≤ x.1 ∧ x.1 ≤ 6 ∧ x.2 = 0)) := by unfold okN; exact decide_eq_true_iff
theorem mod_no (x : Int × Int) : modN x = false ↔ ¬ (x.1 = 5 ∨ x.1 = 6) := by unfold modN; exact decide_eq_false_iff_not
theorem mod_yes (x : Int × Int) : modN x = true ↔ (x.1 = 5 ∨ x.1 = 6) := by unfold modN; exact decide_eq_true_iff
theorem bad_no (x : Int × Int) : badN x = false ↔ ((x.1 = 0 ∧ 0 ≤ x.2 ∧ x.2 ≤ 5) ∨ (1 ≤ x.1 ∧ x.1 ≤ 6 ∧ x.2 = 0)) := by unfold badN; rw [Bool.not_eq_false', okN_yes]
theorem bad_yes (x : Int × Int) : badN x = true ↔ ¬ ((x.1 = 0 ∧ 0 ≤ x.2 ∧ x.2 ≤ 5) ∨ (1 ≤ x.1 ∧ x.1 ≤ 6 ∧ x.2 = 0)) := by unfold badN; rw [Bool.not_eq_true', okN_no]
theorem all_any (a : List (Int × Int)) : a.all okN = !a.any badN := by
  induction a with
  | nil => rfl
  | cons x a ih => simp [List.all_cons, List.any_cons, ih, badN]
/-- Where p holds first. -/
def fidx (p : Int × Int → Bool) : List (Int × Int) → Int → Int
  | [], _ => -1
  | x :: l, i => if p x = true then i else fidx p l (i + 1)
theorem fidx_hit {p : Int × Int → Bool} {a : List (Int × Int)} {i : Nat} (h : i < a.length) (hp : p (a.getD i (0, 0)) = true) : fidx p (a.drop i) i = i := by
  rw [drop_cons a i h, fidx, if_pos hp]
theorem fidx_miss {p : Int × Int → Bool} {a : List (Int × Int)} {i : Nat} (h : i < a.length) (hp : p (a.getD i (0, 0)) = false) : fidx p (a.drop i) i = fidx p (a.drop (i + 1)) ((i + 1 : Nat) : Int) := by
  rw [drop_cons a i h, fidx, if_neg (by rw [hp]; decide)]
  rfl
theorem fidx_end {p : Int × Int → Bool} {a : List (Int × Int)} {i : Nat} (h : a.length ≤ i) : fidx p (a.drop i) i = -1 := by
  rw [List.drop_eq_nil_of_le h, fidx]
theorem fidx_any {p : Int × Int → Bool} : ∀ {a : List (Int × Int)} {i : Int}, 0 ≤ i → (0 ≤ fidx p a i ↔ a.any p = true)
  | [], i, h => by simp [fidx]
  | x :: a, i, h => by
    have ih := fidx_any (p := p) (a := a) (i := i + 1) (by omega)
    rw [fidx, List.any_cons]
    by_cases hp : p x = true
    · simp [hp, h]
    · rw [if_neg hp, ih]; simp [hp]
theorem any_hit {p : Int × Int → Bool} {a : List (Int × Int)} {i : Nat} (h : i < a.length) (hp : p (a.getD i (0, 0)) = true) : (a.drop i).any p = true := by
  rw [drop_cons a i h, List.any_cons, hp, Bool.true_or]
theorem any_miss {p : Int × Int → Bool} {a : List (Int × Int)} {i : Nat} (h : i < a.length) (hp : p (a.getD i (0, 0)) = false) : (a.drop i).any p = (a.drop (i + 1)).any p := by
  rw [drop_cons a i h, List.any_cons, hp, Bool.false_or]
theorem any_end {p : Int × Int → Bool} {a : List (Int × Int)} {i : Nat} (h : a.length ≤ i) : (a.drop i).any p = false := by
  rw [List.drop_eq_nil_of_le h]; rfl
theorem tree_no {a : List (Int × Int)} (h : a.any badN = true) : treeB a = false := by simp [treeB, all_any, h]
theorem tree_yes {a : List (Int × Int)} (h : a.any badN = false) : treeB a = (decide (0 < a.length) && decide (peX 1 a 0 = a.length)) := by simp [treeB, all_any, h]
/-- The variables of the first nodes. -/
def vmTo (a : List (Int × Int)) : Nat → Int
  | 0 => 0
  | i + 1 => if (a.getD i (0, 0)).1 = 0 then bor (vmTo a i) (shl64 1 (a.getD i (0, 0)).2) else vmTo a i
theorem bor63 : ∀ m s : Fin 64, 0 ≤ bor (m.val : Int) (s.val : Int) ∧ bor (m.val : Int) (s.val : Int) ≤ 63 ∧ (m.val : Int) ≤ bor (m.val : Int) (s.val : Int) ∧ (s.val : Int) ≤ bor (m.val : Int) (s.val : Int) := by decide +kernel
theorem bor_63 {m s : Int} (h0 : 0 ≤ m) (h1 : m ≤ 63) (h2 : 0 ≤ s) (h3 : s ≤ 63) : 0 ≤ bor m s ∧ bor m s ≤ 63 ∧ m ≤ bor m s ∧ s ≤ bor m s := by
  obtain ⟨m, rfl⟩ := Int.eq_ofNat_of_zero_le h0
  obtain ⟨s, rfl⟩ := Int.eq_ofNat_of_zero_le h2
  exact bor63 ⟨m, by omega⟩ ⟨s, by omega⟩
theorem shl6 : ∀ v : Fin 6, 1 ≤ shl64 1 (v.val : Int) ∧ shl64 1 (v.val : Int) ≤ 63 ∧ (shl64 1 (v.val : Int) ≤ 1 → v.val = 0) := by decide +kernel
theorem shl_6 {v : Int} (h0 : 0 ≤ v) (h1 : v ≤ 5) : 1 ≤ shl64 1 v ∧ shl64 1 v ≤ 63 ∧ (shl64 1 v ≤ 1 → v = 0) := by
  obtain ⟨v, rfl⟩ := Int.eq_ofNat_of_zero_le h0
  obtain ⟨a, b, c⟩ := shl6 ⟨v, by omega⟩
  exact ⟨a, b, fun h => by have := c h; simp at this; omega⟩
theorem okN_get {a : List (Int × Int)} (h : a.any badN = false) {j : Nat} (hj : j < a.length) : okN (a.getD j (0, 0)) = true := by
  have h1 : a.getD j (0, 0) ∈ a := by
    rw [List.getD_eq_getElem?_getD, List.getElem?_eq_getElem hj, Option.getD_some]
    exact List.getElem_mem hj
  have h2 : a.all okN = true := by rw [all_any, h]; rfl
  exact List.all_eq_true.1 h2 _ h1
theorem vm_rng {a : List (Int × Int)} (h : a.any badN = false) : ∀ i, i ≤ a.length → 0 ≤ vmTo a i ∧ vmTo a i ≤ 63
  | 0, _ => ⟨Int.le_refl _, by simp [vmTo]⟩
  | i + 1, hi => by
    have ih := vm_rng h i (by omega)
    have hn := (okN_yes _).1 (okN_get h (j := i) (by omega))
    rw [vmTo]
    split
    · have hs := shl_6 (v := (a.getD i (0, 0)).2) (by omega) (by omega)
      have hb := bor_63 ih.1 ih.2 (by omega) hs.2.1
      exact ⟨hb.1, hb.2.1⟩
    · exact ih
/-- The bits of a mask. -/
def bitsL : Nat → Int → Int → List Int
  | 0, _, _ => []
  | f + 1, m, i => if 0 < m then (if m % 2 = 1 then i :: bitsL f (m / 2) (i + 1) else bitsL f (m / 2) (i + 1)) else []
theorem bits_one (f : Nat) (m i : Int) (h : 0 < m) (h1 : m % 2 = 1) : bitsL (f + 1) m i = i :: bitsL f (m / 2) (i + 1) := by rw [bitsL, if_pos h, if_pos h1]
theorem bits_no (f : Nat) (m i : Int) (h : 0 < m) (h1 : ¬ m % 2 = 1) : bitsL (f + 1) m i = bitsL f (m / 2) (i + 1) := by rw [bitsL, if_pos h, if_neg h1]
theorem bits_end (f : Nat) (m i : Int) (h : ¬ 0 < m) : bitsL f m i = [] := by cases f with | zero => rfl | succ f => rw [bitsL, if_neg h]
theorem half_lt {m : Int} {f : Nat} (h : m < 2 ^ (f + 1)) : m / 2 < 2 ^ f := by rw [Int.pow_succ] at h; omega
theorem isF_parts {a : List (Int × Int)} (h : isF a = true) : a.length ≤ 40 ∧ 0 < a.length ∧ a.any badN = false ∧ peX 1 a 0 = a.length := by
  simp only [isF, treeB, all_any, Bool.and_eq_true, decide_eq_true_eq, Bool.not_eq_true'] at h
  exact ⟨h.1, h.2.1.1, h.2.1.2, h.2.2⟩
theorem pe_of_peX {a : List (Int × Int)} (h : peX 1 a 0 = a.length) : pe 1 a = some a.length := by
  unfold peX at h
  rw [List.drop_zero] at h
  cases hp : pe 1 a with
  | none => rw [hp] at h; simp only at h; omega
  | some n => rw [hp] at h; simp only at h; congr 1; omega

theorem isF_okm {a : List (Int × Int)} (h : isF a = true) : OKM 6 a ∧ a.length ≤ 40 := by
  obtain ⟨h1, h2, h3, h4⟩ := isF_parts h
  refine ⟨⟨pe_of_peX h4, fun x hx => ?_⟩, h1⟩
  obtain ⟨j, hj, rfl⟩ := List.getElem_of_mem hx
  have hg : a[j] = a.getD j (0, 0) := by rw [List.getD_eq_getElem?_getD, List.getElem?_eq_getElem hj]; rfl
  have hn := (okN_yes _).1 (okN_get h3 hj)
  rw [hg]
  refine ⟨by omega, by omega, fun h0 => by omega⟩

theorem isVariable_c (v : Int) : CallA Tryz.prog 282 [AI v] (.bool (inR v 0 5)) := by
 refine CallA.of Tryz.func282 rfl (by kernel_rfl) ?_
 refine R.go 7 (k14 true (inRange_c v 0 5) rfl ?_)
 exact R.go 2 (k17 (.bool (inR v 0 5)) (by rfl))

theorem isNode_c (k : Int) (v : Int) : CallA Tryz.prog 170 [.agg [AI k, AI v]] (.bool (okN (k, v))) := by
 refine CallA.of Tryz.func170 rfl (by kernel_rfl) ?_
 refine R.go 12 (k3 (k = 0) (fun c1 => ?_) (fun c1 => ?_))
 ·refine R.go 4 (k14 true (isVariable_c v) rfl ?_)
  exact R.go 2 (k17 (.bool (inR v 0 5)) (by first | (apply congrArg AV.bool; rw [Bool.eq_iff_iff]; simp only [okN, badN, modN, inR, decide_eq_true_eq, Bool.and_eq_true, Bool.not_eq_true', decide_eq_false_iff_not, Bool.and_eq_false_iff, true_iff, false_iff, iff_true, iff_false, reduceCtorEq] at *; omega) | (exfalso; omega)))
 ·refine R.go 5 (k14 true (inRange_c k 1 6) rfl ?_)
  refine R.go 1 ?_
  refine (Bool.eq_false_or_eq_true (inR k 1 6)).elim (fun c2 => ?_) (fun c2 => ?_)
  ·refine k5 (inR k 1 6) true c2 ?_
   refine R.go 1 (k5 (inR k 1 6) true c2 ?_)
   refine R.go 1 (k5 (inR k 1 6) true c2 ?_)
   refine R.go 1 (k7 (inR k 1 6) true c2 ?_)
   exact R.go 2 (k17 (.bool (decide (v = 0))) (by first | (apply congrArg AV.bool; rw [Bool.eq_iff_iff]; simp only [okN, badN, modN, inR, decide_eq_true_eq, Bool.and_eq_true, Bool.not_eq_true', decide_eq_false_iff_not, Bool.and_eq_false_iff, true_iff, false_iff, iff_true, iff_false, reduceCtorEq] at *; omega) | (exfalso; omega)))
  ·refine k6 (inR k 1 6) true c2 ?_
   refine k6 (inR k 1 6) true c2 ?_
   refine k6 (inR k 1 6) true c2 ?_
   refine k7 (inR k 1 6) false c2 ?_
   exact R.go 2 (k17 (.bool false) (by first | (apply congrArg AV.bool; rw [Bool.eq_iff_iff]; simp only [okN, badN, modN, inR, decide_eq_true_eq, Bool.and_eq_true, Bool.not_eq_true', decide_eq_false_iff_not, Bool.and_eq_false_iff, true_iff, false_iff, iff_true, iff_false, reduceCtorEq] at *; omega) | (exfalso; omega)))

theorem isFormula1_c (k : Int) (v : Int) : CallA Tryz.prog 169 [.agg [AI k, AI v]] (.bool (badN (k, v))) := by
 refine CallA.of Tryz.func169 rfl (by kernel_rfl) ?_
 refine R.go 8 (k14 true (isNode_c k v) rfl ?_)
 exact R.go 3 (k17 (.bool (!(okN (k, v)))) (by first | (rfl) | (exfalso; omega)))

theorem isModal_c (k : Int) : CallA Tryz.prog 174 [AI k] (.bool (decide (k = 5 ∨ k = 6))) := by
 refine CallA.of Tryz.func174 rfl (by kernel_rfl) ?_
 refine R.go 9 ?_
 by_cases c1 : k = 5
 ·refine k6 (decide (k = 5)) false (dT c1) ?_
  refine k6 (decide (k = 5)) false (dT c1) ?_
  refine k7 (decide (k = 5)) true (dT c1) ?_
  exact R.go 2 (k17 (.bool true) (by first | (apply congrArg AV.bool; rw [Bool.eq_iff_iff]; simp only [okN, badN, modN, inR, decide_eq_true_eq, Bool.and_eq_true, Bool.not_eq_true', decide_eq_false_iff_not, Bool.and_eq_false_iff, true_iff, false_iff, iff_true, iff_false, reduceCtorEq] at *; omega) | (exfalso; omega)))
 ·refine k5 (decide (k = 5)) false (dF c1) ?_
  refine R.go 1 (k5 (decide (k = 5)) false (dF c1) ?_)
  refine R.go 1 (k7 (decide (k = 5)) false (dF c1) ?_)
  exact R.go 2 (k17 (.bool (decide (k = 6))) (by first | (apply congrArg AV.bool; rw [Bool.eq_iff_iff]; simp only [okN, badN, modN, inR, decide_eq_true_eq, Bool.and_eq_true, Bool.not_eq_true', decide_eq_false_iff_not, Bool.and_eq_false_iff, true_iff, false_iff, iff_true, iff_false, reduceCtorEq] at *; omega) | (exfalso; omega)))

theorem isPlain1_c (k : Int) (v : Int) : CallA Tryz.prog 173 [.agg [AI k, AI v]] (.bool (modN (k, v))) := by
 refine CallA.of Tryz.func173 rfl (by kernel_rfl) ?_
 refine R.go 9 (k14 true (isModal_c k) rfl ?_)
 exact R.go 2 (k17 (.bool (decide (k = 5 ∨ k = 6))) (by first | (rfl) | (exfalso; omega)))

theorem index_badN_c (a : List (Int × Int)) (hl : a.length ≤ 1000000000) : CallA Tryz.prog 281 [LN a, .fn 169 []] (AI (fidx badN a 0)) := by
 refine CallA.of Tryz.func281 rfl (by kernel_rfl) ?_
 refine R.go 12 (k15 (fun (i : Nat) => (⟨(frm 19 [(0, LN a), (1, .fn 169 []), (7, AI a.length), (8, AI (i : Int))]), []⟩ : St)) (fun (i : Nat) => (i ≤ a.length) ∧ (fidx badN a 0 = fidx badN (a.drop i) i)) (fun (i : Nat) => a.length - i) 0 [0, 1, 7, 8] none ⟨(by omega), (by rfl)⟩ ?_)
 rintro i ⟨h3_1, h3_2⟩ R1 N2
 refine R.go 5 (k3 ((i : Int) < (a.length : Int)) (fun c4 => ?_) (fun c4 => ?_))
 ·refine R.go 13 (k8 eN a (0, 0) i (i : Int) rfl eN_len ?_)
  refine R.go 1 (k14 true (isFormula1_c ((a.getD i (0, 0)).1) ((a.getD i (0, 0)).2)) rfl ?_)
  refine R.go 1 (R.condB (badN (((a.getD i (0, 0)).1), ((a.getD i (0, 0)).2))) (by kernel_rfl) (fun c5 => ?_) (fun c5 => ?_))
  ·exact R.go 5 (k17 (AI (i : Int)) (by first | (apply congrArg AI; rw [‹fidx badN a 0 = _›]; first | exact (fidx_end (by omega)).symm | exact (fidx_hit (by omega) (by assumption)).symm) | (exfalso; omega)))
  ·refine R.go 3 (k1 ((i : Int) + 1) ?_)
   exact R.go 2 (k16 R1 (N2 (i + 1) [0, 1, 7, 8] none _ (by kernel_rfl) (by kernel_rfl) ⟨(by omega), (by rw [‹fidx badN a 0 = _›]; exact fidx_miss (by omega) (by assumption))⟩ (by show (a.length - (i + 1)) < (a.length - i); omega)))
 ·exact R.go 5 (k17 (AI (-1)) (by first | (apply congrArg AI; rw [‹fidx badN a 0 = _›]; first | exact (fidx_end (by omega)).symm | exact (fidx_hit (by omega) (by assumption)).symm) | (exfalso; omega)))

theorem contains_badN_c (a : List (Int × Int)) (hl : a.length ≤ 1000000000) : CallA Tryz.prog 168 [LN a, .fn 169 []] (.bool (a.any badN)) := by
 refine CallA.of Tryz.func168 rfl (by kernel_rfl) ?_
 refine R.go 8 (k14 true (index_badN_c a hl) rfl ?_)
 exact R.go 3 (k17 (.bool (decide ((fidx badN a 0) ≥ 0))) (by first | (apply congrArg AV.bool; rw [Bool.eq_iff_iff, decide_eq_true_iff]; exact fidx_any (Int.le_refl 0)) | (exfalso; omega)))

theorem index_modN_c (a : List (Int × Int)) (hl : a.length ≤ 1000000000) : CallA Tryz.prog 281 [LN a, .fn 173 []] (AI (fidx modN a 0)) := by
 refine CallA.of Tryz.func281 rfl (by kernel_rfl) ?_
 refine R.go 12 (k15 (fun (i : Nat) => (⟨(frm 19 [(0, LN a), (1, .fn 173 []), (7, AI a.length), (8, AI (i : Int))]), []⟩ : St)) (fun (i : Nat) => (i ≤ a.length) ∧ (fidx modN a 0 = fidx modN (a.drop i) i)) (fun (i : Nat) => a.length - i) 0 [0, 1, 7, 8] none ⟨(by omega), (by rfl)⟩ ?_)
 rintro i ⟨h3_1, h3_2⟩ R1 N2
 refine R.go 5 (k3 ((i : Int) < (a.length : Int)) (fun c4 => ?_) (fun c4 => ?_))
 ·refine R.go 13 (k8 eN a (0, 0) i (i : Int) rfl eN_len ?_)
  refine R.go 1 (k14 true (isPlain1_c ((a.getD i (0, 0)).1) ((a.getD i (0, 0)).2)) rfl ?_)
  refine R.go 1 (R.condB (modN (((a.getD i (0, 0)).1), ((a.getD i (0, 0)).2))) (by kernel_rfl) (fun c5 => ?_) (fun c5 => ?_))
  ·exact R.go 5 (k17 (AI (i : Int)) (by first | (apply congrArg AI; rw [‹fidx modN a 0 = _›]; first | exact (fidx_end (by omega)).symm | exact (fidx_hit (by omega) (by assumption)).symm) | (exfalso; omega)))
  ·refine R.go 3 (k1 ((i : Int) + 1) ?_)
   exact R.go 2 (k16 R1 (N2 (i + 1) [0, 1, 7, 8] none _ (by kernel_rfl) (by kernel_rfl) ⟨(by omega), (by rw [‹fidx modN a 0 = _›]; exact fidx_miss (by omega) (by assumption))⟩ (by show (a.length - (i + 1)) < (a.length - i); omega)))
 ·exact R.go 5 (k17 (AI (-1)) (by first | (apply congrArg AI; rw [‹fidx modN a 0 = _›]; first | exact (fidx_end (by omega)).symm | exact (fidx_hit (by omega) (by assumption)).symm) | (exfalso; omega)))

theorem contains_modN_c (a : List (Int × Int)) (hl : a.length ≤ 1000000000) : CallA Tryz.prog 168 [LN a, .fn 173 []] (.bool (a.any modN)) := by
 refine CallA.of Tryz.func168 rfl (by kernel_rfl) ?_
 refine R.go 8 (k14 true (index_modN_c a hl) rfl ?_)
 exact R.go 3 (k17 (.bool (decide ((fidx modN a 0) ≥ 0))) (by first | (apply congrArg AV.bool; rw [Bool.eq_iff_iff, decide_eq_true_iff]; exact fidx_any (Int.le_refl 0)) | (exfalso; omega)))

theorem isPlain_c (a : List (Int × Int)) (hl : a.length ≤ 1000000000) : CallA Tryz.prog 80 [LN a] (.bool (!(a.any modN))) := by
 refine CallA.of Tryz.func80 rfl (by kernel_rfl) ?_
 refine R.go 7 (k14 true (contains_modN_c a hl) rfl ?_)
 exact R.go 3 (k17 (.bool (!(a.any modN))) (by rfl))

theorem isFormula_c (a : List (Int × Int)) (hl : a.length ≤ 1000000000) : CallA Tryz.prog 76 [LN a] (.bool (isF a)) := by
 refine CallA.of Tryz.func76 rfl (by kernel_rfl) ?_
 refine R.go 10 ?_
 by_cases c1 : (a.length : Int) ≥ 1
 ·refine k5 (decide ((a.length : Int) ≥ 1)) true (dT c1) ?_
  refine R.go 1 (k5 (decide ((a.length : Int) ≥ 1)) true (dT c1) ?_)
  refine R.go 1 (k5 (decide ((a.length : Int) ≥ 1)) true (dT c1) ?_)
  refine R.go 1 (k7 (decide ((a.length : Int) ≥ 1)) true (dT c1) ?_)
  refine R.go 1 ?_
  by_cases c2 : (a.length : Int) ≤ 40
  ·refine k5 (decide ((a.length : Int) ≤ 40)) true (dT c2) ?_
   refine R.go 1 (k5 (decide ((a.length : Int) ≤ 40)) true (dT c2) ?_)
   refine k14 true (contains_badN_c a hl) rfl ?_
   refine k5 (decide ((a.length : Int) ≤ 40)) true (dT c2) ?_
   refine R.go 1 (k7 (decide ((a.length : Int) ≤ 40)) true (dT c2) ?_)
   refine R.go 1 ?_
   refine (Bool.eq_false_or_eq_true (a.any badN)).elim (fun c3 => ?_) (fun c3 => ?_)
   ·refine k6 (!(a.any badN)) true (bnF c3) ?_
    refine k6 (!(a.any badN)) true (bnF c3) ?_
    refine k6 (!(a.any badN)) true (bnF c3) ?_
    refine k6 (!(a.any badN)) true (bnF c3) ?_
    refine k6 (!(a.any badN)) true (bnF c3) ?_
    refine k7 (!(a.any badN)) false (bnF c3) ?_
    exact R.go 2 (k17 (.bool false) (by first | (apply congrArg AV.bool; simp only [isF, treeB, all_any]; first | (rw [decide_eq_true (show a.length ≤ 40 by omega), decide_eq_true (show 0 < a.length by omega)]; simp [*]; done) | (rw [decide_eq_false (show ¬ a.length ≤ 40 by omega)]; rfl) | (rw [decide_eq_false (show ¬ 0 < a.length by omega)]; simp)) | (exfalso; omega)))
   ·refine k5 (!(a.any badN)) true (bnT c3) ?_
    refine R.go 1 (k5 (!(a.any badN)) true (bnT c3) ?_)
    refine k14 true (partEnd_c a 0 (by first | omega | (simp <;> omega)) hl) rfl ?_
    refine k5 (!(a.any badN)) true (bnT c3) ?_
    refine R.go 1 (k5 (!(a.any badN)) true (bnT c3) ?_)
    refine R.go 1 (k5 (!(a.any badN)) true (bnT c3) ?_)
    refine R.go 1 (k7 (!(a.any badN)) true (bnT c3) ?_)
    exact R.go 2 (k17 (.bool (decide ((peX 1 a 0) = (a.length : Int)))) (by first | (apply congrArg AV.bool; simp only [isF, treeB, all_any]; first | (rw [decide_eq_true (show a.length ≤ 40 by omega), decide_eq_true (show 0 < a.length by omega)]; simp [*]; done) | (rw [decide_eq_false (show ¬ a.length ≤ 40 by omega)]; rfl) | (rw [decide_eq_false (show ¬ 0 < a.length by omega)]; simp)) | (exfalso; omega)))
  ·refine k6 (decide ((a.length : Int) ≤ 40)) true (dF c2) ?_
   refine k6 (decide ((a.length : Int) ≤ 40)) true (dF c2) ?_
   refine k6 (decide ((a.length : Int) ≤ 40)) true (dF c2) ?_
   refine k7 (decide ((a.length : Int) ≤ 40)) false (dF c2) ?_
   exact R.go 9 (k17 (.bool false) (by first | (apply congrArg AV.bool; simp only [isF, treeB, all_any]; first | (rw [decide_eq_true (show a.length ≤ 40 by omega), decide_eq_true (show 0 < a.length by omega)]; simp [*]; done) | (rw [decide_eq_false (show ¬ a.length ≤ 40 by omega)]; rfl) | (rw [decide_eq_false (show ¬ 0 < a.length by omega)]; simp)) | (exfalso; omega)))
 ·refine k6 (decide ((a.length : Int) ≥ 1)) true (dF c1) ?_
  refine k6 (decide ((a.length : Int) ≥ 1)) true (dF c1) ?_
  refine k6 (decide ((a.length : Int) ≥ 1)) true (dF c1) ?_
  refine k7 (decide ((a.length : Int) ≥ 1)) false (dF c1) ?_
  exact R.go 14 (k17 (.bool false) (by first | (apply congrArg AV.bool; simp only [isF, treeB, all_any]; first | (rw [decide_eq_true (show a.length ≤ 40 by omega), decide_eq_true (show 0 < a.length by omega)]; simp [*]; done) | (rw [decide_eq_false (show ¬ a.length ≤ 40 by omega)]; rfl) | (rw [decide_eq_false (show ¬ 0 < a.length by omega)]; simp)) | (exfalso; omega)))

theorem l02Plain_c (a : List (Int × Int)) (hl : a.length ≤ 1000000000) : CallA Tryz.prog 158 [LN a] (.bool (!(a.any modN))) := by
 refine CallA.of Tryz.func158 rfl (by kernel_rfl) ?_
 refine R.go 10 (k15 (fun (i : Nat) => (⟨(frm 24 [(0, LN a), (3, AI (i : Int))]), []⟩ : St)) (fun (i : Nat) => (i ≤ a.length) ∧ (a.any modN = (a.drop i).any modN)) (fun (i : Nat) => a.length - i) 0 [0, 3] none ⟨(by omega), (by rfl)⟩ ?_)
 rintro i ⟨h3_1, h3_2⟩ R1 N2
 refine R.go 8 (k3 ((i : Int) < (a.length : Int)) (fun c4 => ?_) (fun c4 => ?_))
 ·refine R.go 7 (k8 eN a (0, 0) i (i : Int) rfl eN_len ?_)
  refine R.go 4 ?_
  by_cases c5 : ((a.getD i (0, 0)).1) = 5
  ·refine k6 (decide (((a.getD i (0, 0)).1) = 5)) false (dT c5) ?_
   refine k6 (decide (((a.getD i (0, 0)).1) = 5)) false (dT c5) ?_
   refine k6 (decide (((a.getD i (0, 0)).1) = 5)) false (dT c5) ?_
   refine k6 (decide (((a.getD i (0, 0)).1) = 5)) false (dT c5) ?_
   refine k6 (decide (((a.getD i (0, 0)).1) = 5)) false (dT c5) ?_
   refine k6 (decide (((a.getD i (0, 0)).1) = 5)) false (dT c5) ?_
   refine k7 (decide (((a.getD i (0, 0)).1) = 5)) true (dT c5) ?_
   exact R.go 6 (k17 (.bool false) (by first | (apply congrArg AV.bool; rw [‹a.any modN = _›]; first | (rw [any_end (by omega)]; rfl) | (rw [any_hit (by omega) ((mod_yes _).2 (by omega))]; rfl)) | (exfalso; omega)))
  ·refine k5 (decide (((a.getD i (0, 0)).1) = 5)) false (dF c5) ?_
   refine R.go 1 (k5 (decide (((a.getD i (0, 0)).1) = 5)) false (dF c5) ?_)
   refine R.go 1 (k5 (decide (((a.getD i (0, 0)).1) = 5)) false (dF c5) ?_)
   refine k8 eN a (0, 0) i (i : Int) rfl eN_len ?_
   refine k5 (decide (((a.getD i (0, 0)).1) = 5)) false (dF c5) ?_
   refine R.go 1 (k5 (decide (((a.getD i (0, 0)).1) = 5)) false (dF c5) ?_)
   refine R.go 1 (k5 (decide (((a.getD i (0, 0)).1) = 5)) false (dF c5) ?_)
   refine R.go 1 (k7 (decide (((a.getD i (0, 0)).1) = 5)) false (dF c5) ?_)
   refine R.go 1 (k3 (((a.getD i (0, 0)).1) = 6) (fun c6 => ?_) (fun c6 => ?_))
   ·exact R.go 4 (k17 (.bool false) (by first | (apply congrArg AV.bool; rw [‹a.any modN = _›]; first | (rw [any_end (by omega)]; rfl) | (rw [any_hit (by omega) ((mod_yes _).2 (by omega))]; rfl)) | (exfalso; omega)))
   ·refine R.go 4 (k1 ((i : Int) + 1) ?_)
    exact R.go 2 (k16 R1 (N2 (i + 1) [0, 3] none _ (by kernel_rfl) (by kernel_rfl) ⟨(by omega), (by rw [‹a.any modN = _›]; exact any_miss (by omega) ((mod_no _).2 (by omega)))⟩ (by show (a.length - (i + 1)) < (a.length - i); omega)))
 ·exact R.go 5 (k17 (.bool true) (by first | (apply congrArg AV.bool; rw [‹a.any modN = _›]; first | (rw [any_end (by omega)]; rfl) | (rw [any_hit (by omega) ((mod_yes _).2 (by omega))]; rfl)) | (exfalso; omega)))

theorem l02Tree_c (a : List (Int × Int)) (hl : a.length ≤ 1000000000) : CallA Tryz.prog 209 [LN a] (.bool (treeB a)) := by
 refine CallA.of Tryz.func209 rfl (by kernel_rfl) ?_
 refine R.go 10 (k15 (fun (i : Nat) => (⟨(frm 52 [(0, LN a), (3, AI (i : Int))]), []⟩ : St)) (fun (i : Nat) => (i ≤ a.length) ∧ (a.any badN = (a.drop i).any badN)) (fun (i : Nat) => a.length - i) 0 [0, 3] none ⟨(by omega), (by rfl)⟩ ?_)
 rintro i ⟨h3_1, h3_2⟩ R1 N2
 refine R.go 8 (k3 ((i : Int) < (a.length : Int)) (fun c4 => ?_) (fun c4 => ?_))
 ·refine R.go 7 (k8 eN a (0, 0) i (i : Int) rfl eN_len ?_)
  refine R.go 2 (k14 true (l01In_c ((a.getD i (0, 0)).1) 0 6) rfl ?_)
  refine R.go 2 ?_
  refine (Bool.eq_false_or_eq_true (inR ((a.getD i (0, 0)).1) 0 6)).elim (fun c5 => ?_) (fun c5 => ?_)
  ·refine k5 (!(inR ((a.getD i (0, 0)).1) 0 6)) false (bnF c5) ?_
   refine R.go 1 (k5 (!(inR ((a.getD i (0, 0)).1) 0 6)) false (bnF c5) ?_)
   refine R.go 1 (k5 (!(inR ((a.getD i (0, 0)).1) 0 6)) false (bnF c5) ?_)
   refine k8 eN a (0, 0) i (i : Int) rfl eN_len ?_
   refine k5 (!(inR ((a.getD i (0, 0)).1) 0 6)) false (bnF c5) ?_
   refine R.go 1 (k5 (!(inR ((a.getD i (0, 0)).1) 0 6)) false (bnF c5) ?_)
   refine R.go 1 (k5 (!(inR ((a.getD i (0, 0)).1) 0 6)) false (bnF c5) ?_)
   refine k14 true (l01In_c ((a.getD i (0, 0)).2) 0 5) rfl ?_
   refine k5 (!(inR ((a.getD i (0, 0)).1) 0 6)) false (bnF c5) ?_
   refine R.go 1 (k7 (!(inR ((a.getD i (0, 0)).1) 0 6)) false (bnF c5) ?_)
   refine R.go 1 ?_
   refine (Bool.eq_false_or_eq_true (inR ((a.getD i (0, 0)).2) 0 5)).elim (fun c6 => ?_) (fun c6 => ?_)
   ·refine k5 (!(inR ((a.getD i (0, 0)).2) 0 5)) false (bnF c6) ?_
    refine R.go 1 (k5 (!(inR ((a.getD i (0, 0)).2) 0 5)) false (bnF c6) ?_)
    refine R.go 1 (k5 (!(inR ((a.getD i (0, 0)).2) 0 5)) false (bnF c6) ?_)
    refine k8 eN a (0, 0) i (i : Int) rfl eN_len ?_
    refine k5 (!(inR ((a.getD i (0, 0)).2) 0 5)) false (bnF c6) ?_
    refine R.go 1 (k5 (!(inR ((a.getD i (0, 0)).2) 0 5)) false (bnF c6) ?_)
    refine R.go 1 (k5 (!(inR ((a.getD i (0, 0)).2) 0 5)) false (bnF c6) ?_)
    refine R.go 1 (k5 (!(inR ((a.getD i (0, 0)).2) 0 5)) false (bnF c6) ?_)
    refine R.go 1 ?_
    by_cases c7 : ((a.getD i (0, 0)).1) = 0
    ·refine k6 (!decide (((a.getD i (0, 0)).1) = 0)) true (nF c7) ?_
     refine k6 (!decide (((a.getD i (0, 0)).1) = 0)) true (nF c7) ?_
     refine k6 (!decide (((a.getD i (0, 0)).1) = 0)) true (nF c7) ?_
     refine k6 (!decide (((a.getD i (0, 0)).1) = 0)) true (nF c7) ?_
     refine k6 (!decide (((a.getD i (0, 0)).1) = 0)) true (nF c7) ?_
     refine k6 (!decide (((a.getD i (0, 0)).1) = 0)) true (nF c7) ?_
     refine k5 (!(inR ((a.getD i (0, 0)).2) 0 5)) false (bnF c6) ?_
     refine k7 (!decide (((a.getD i (0, 0)).1) = 0)) false (nF c7) ?_
     refine k7 (!(inR ((a.getD i (0, 0)).2) 0 5)) false (bnF c6) ?_
     refine R.go 6 (k1 ((i : Int) + 1) ?_)
     exact R.go 2 (k16 R1 (N2 (i + 1) [0, 3] none _ (by kernel_rfl) (by kernel_rfl) ⟨(by omega), (by rw [‹a.any badN = _›]; exact any_miss (by omega) ((bad_no _).2 (by simp only [inR_iff, inR_not] at *; omega)))⟩ (by show (a.length - (i + 1)) < (a.length - i); omega)))
    ·refine k5 (!decide (((a.getD i (0, 0)).1) = 0)) true (nT c7) ?_
     refine R.go 1 (k5 (!decide (((a.getD i (0, 0)).1) = 0)) true (nT c7) ?_)
     refine R.go 1 (k5 (!decide (((a.getD i (0, 0)).1) = 0)) true (nT c7) ?_)
     refine k8 eN a (0, 0) i (i : Int) rfl eN_len ?_
     refine k5 (!decide (((a.getD i (0, 0)).1) = 0)) true (nT c7) ?_
     refine R.go 1 (k5 (!decide (((a.getD i (0, 0)).1) = 0)) true (nT c7) ?_)
     refine R.go 1 (k5 (!decide (((a.getD i (0, 0)).1) = 0)) true (nT c7) ?_)
     refine R.go 1 (k5 (!(inR ((a.getD i (0, 0)).2) 0 5)) false (bnF c6) ?_)
     refine k7 (!decide (((a.getD i (0, 0)).1) = 0)) true (nT c7) ?_
     refine k7 (!(inR ((a.getD i (0, 0)).2) 0 5)) false (bnF c6) ?_
     refine R.go 1 (k4 (((a.getD i (0, 0)).2) = 0) (fun c8 => ?_) (fun c8 => ?_))
     ·exact R.go 4 (k17 (.bool false) (by first | (apply congrArg AV.bool; first | (rw [tree_yes (by rw [‹a.any badN = _›]; exact any_end (by omega))]; simp [*]; try omega) | (rw [tree_no (by rw [‹a.any badN = _›]; exact any_hit (by omega) ((bad_yes _).2 (by simp only [inR_iff, inR_not] at *; omega)))])) | (exfalso; omega)))
     ·refine R.go 4 (k1 ((i : Int) + 1) ?_)
      exact R.go 2 (k16 R1 (N2 (i + 1) [0, 3] none _ (by kernel_rfl) (by kernel_rfl) ⟨(by omega), (by rw [‹a.any badN = _›]; exact any_miss (by omega) ((bad_no _).2 (by simp only [inR_iff, inR_not] at *; omega)))⟩ (by show (a.length - (i + 1)) < (a.length - i); omega)))
   ·refine k6 (!(inR ((a.getD i (0, 0)).2) 0 5)) false (bnT c6) ?_
    refine k6 (!(inR ((a.getD i (0, 0)).2) 0 5)) false (bnT c6) ?_
    refine k6 (!(inR ((a.getD i (0, 0)).2) 0 5)) false (bnT c6) ?_
    refine k6 (!(inR ((a.getD i (0, 0)).2) 0 5)) false (bnT c6) ?_
    refine k6 (!(inR ((a.getD i (0, 0)).2) 0 5)) false (bnT c6) ?_
    refine k6 (!(inR ((a.getD i (0, 0)).2) 0 5)) false (bnT c6) ?_
    refine k6 (!(inR ((a.getD i (0, 0)).2) 0 5)) false (bnT c6) ?_
    refine R.go 6 (k6 (!(inR ((a.getD i (0, 0)).2) 0 5)) false (bnT c6) ?_)
    refine k7 (!(inR ((a.getD i (0, 0)).2) 0 5)) true (bnT c6) ?_
    exact R.go 6 (k17 (.bool false) (by first | (apply congrArg AV.bool; first | (rw [tree_yes (by rw [‹a.any badN = _›]; exact any_end (by omega))]; simp [*]; try omega) | (rw [tree_no (by rw [‹a.any badN = _›]; exact any_hit (by omega) ((bad_yes _).2 (by simp only [inR_iff, inR_not] at *; omega)))])) | (exfalso; omega)))
  ·refine k6 (!(inR ((a.getD i (0, 0)).1) 0 6)) false (bnT c5) ?_
   refine k6 (!(inR ((a.getD i (0, 0)).1) 0 6)) false (bnT c5) ?_
   refine k6 (!(inR ((a.getD i (0, 0)).1) 0 6)) false (bnT c5) ?_
   refine k6 (!(inR ((a.getD i (0, 0)).1) 0 6)) false (bnT c5) ?_
   refine k6 (!(inR ((a.getD i (0, 0)).1) 0 6)) false (bnT c5) ?_
   refine k6 (!(inR ((a.getD i (0, 0)).1) 0 6)) false (bnT c5) ?_
   refine k6 (!(inR ((a.getD i (0, 0)).1) 0 6)) false (bnT c5) ?_
   refine k7 (!(inR ((a.getD i (0, 0)).1) 0 6)) true (bnT c5) ?_
   exact R.go 22 (k17 (.bool false) (by first | (apply congrArg AV.bool; first | (rw [tree_yes (by rw [‹a.any badN = _›]; exact any_end (by omega))]; simp [*]; try omega) | (rw [tree_no (by rw [‹a.any badN = _›]; exact any_hit (by omega) ((bad_yes _).2 (by simp only [inR_iff, inR_not] at *; omega)))])) | (exfalso; omega)))
 ·refine R.go 7 ?_
  by_cases c9 : (a.length : Int) > 0
  ·refine k5 (decide ((a.length : Int) > 0)) true (dT c9) ?_
   refine R.go 1 (k5 (decide ((a.length : Int) > 0)) true (dT c9) ?_)
   refine k14 true (l02Part_c a 0 (by first | omega | (simp <;> omega)) hl) rfl ?_
   refine k5 (decide ((a.length : Int) > 0)) true (dT c9) ?_
   refine R.go 1 (k5 (decide ((a.length : Int) > 0)) true (dT c9) ?_)
   refine R.go 1 (k5 (decide ((a.length : Int) > 0)) true (dT c9) ?_)
   refine R.go 1 (k7 (decide ((a.length : Int) > 0)) true (dT c9) ?_)
   exact R.go 2 (k17 (.bool (decide ((peX 1 a 0) = (a.length : Int)))) (by first | (apply congrArg AV.bool; first | (rw [tree_yes (by rw [‹a.any badN = _›]; exact any_end (by omega))]; simp [*]; try omega) | (rw [tree_no (by rw [‹a.any badN = _›]; exact any_hit (by omega) ((bad_yes _).2 (by simp only [inR_iff, inR_not] at *; omega)))])) | (exfalso; omega)))
  ·refine k6 (decide ((a.length : Int) > 0)) true (dF c9) ?_
   refine k6 (decide ((a.length : Int) > 0)) true (dF c9) ?_
   refine k6 (decide ((a.length : Int) > 0)) true (dF c9) ?_
   refine k6 (decide ((a.length : Int) > 0)) true (dF c9) ?_
   refine k6 (decide ((a.length : Int) > 0)) true (dF c9) ?_
   refine k7 (decide ((a.length : Int) > 0)) false (dF c9) ?_
   exact R.go 2 (k17 (.bool false) (by first | (apply congrArg AV.bool; first | (rw [tree_yes (by rw [‹a.any badN = _›]; exact any_end (by omega))]; simp [*]; try omega) | (rw [tree_no (by rw [‹a.any badN = _›]; exact any_hit (by omega) ((bad_yes _).2 (by simp only [inR_iff, inR_not] at *; omega)))])) | (exfalso; omega)))

theorem l02Is_c (a : List (Int × Int)) (hl : a.length ≤ 1000000000) : CallA Tryz.prog 109 [LN a] (.bool (isF a)) := by
 refine CallA.of Tryz.func109 rfl (by kernel_rfl) ?_
 refine R.go 10 ?_
 by_cases c1 : (a.length : Int) ≤ 40
 ·refine k5 (decide ((a.length : Int) ≤ 40)) true (dT c1) ?_
  refine R.go 1 (k5 (decide ((a.length : Int) ≤ 40)) true (dT c1) ?_)
  refine k14 true (l02Tree_c a hl) rfl ?_
  refine k7 (decide ((a.length : Int) ≤ 40)) true (dT c1) ?_
  exact R.go 2 (k17 (.bool (treeB a)) (by first | (apply congrArg AV.bool; simp [isF, *]; try omega) | (exfalso; omega)))
 ·refine k6 (decide ((a.length : Int) ≤ 40)) true (dF c1) ?_
  refine k6 (decide ((a.length : Int) ≤ 40)) true (dF c1) ?_
  refine k7 (decide ((a.length : Int) ≤ 40)) false (dF c1) ?_
  exact R.go 2 (k17 (.bool false) (by first | (apply congrArg AV.bool; simp [isF, *]; try omega) | (exfalso; omega)))

theorem l02Variables_list_c (m : Int) (h0 : 0 ≤ m) (h1 : m ≤ 63) : CallA Tryz.prog 224 [AI m] (ownA eI 2 1 (bitsL 6 m 0)) := by
 refine CallA.of Tryz.func224 rfl (by kernel_rfl) ?_
 refine R.go 15 (k15 ((fun | (out, f, m', i) => (⟨(frm 20 [(0, AI m'), (3, .ref 0), (4, AI i)]), [rowA eI 2 1 out]⟩ : St) : (List Int) × Nat × Int × Int → St)) (fun | (out, f, m', i) => (0 ≤ m' ∧ m' ≤ 63) ∧ (m' < 2 ^ f) ∧ (i = 6 - f) ∧ (f ≤ 6) ∧ (out.length ≤ i) ∧ (out ++ bitsL f m' i = bitsL 6 m 0)) (fun | (out, f, m', i) => f) ([], 6, m, 0) [0, 3, 4] none ⟨(by omega), (by omega), (by omega), (by omega), (by simp), (by rfl)⟩ ?_)
 rintro ⟨out, f, m', i⟩ ⟨h4_1, h4_2, h4_3, h4_4, h4_5, h4_6⟩ R1 N2
 have hf : 0 < m' → f = f - 1 + 1 := fun h => by
  cases f with
  | zero => simp at *; omega
  | succ f => rfl
 have hh : 0 < m' → m' / 2 < 2 ^ (f - 1) := fun h => half_lt (by rw [← hf h]; assumption)
 have b1 : 0 < m' → m' % 2 = 1 → bitsL f m' i = i :: bitsL (f - 1) (m' / 2) (i + 1) := fun h h1 => by rw [hf h]; exact bits_one _ _ _ h h1
 have b0 : 0 < m' → ¬ m' % 2 = 1 → bitsL f m' i = bitsL (f - 1) (m' / 2) (i + 1) := fun h h1 => by rw [hf h]; exact bits_no _ _ _ h h1
 refine R.go 6 (k3 (m' > 0) (fun c5 => ?_) (fun c5 => ?_))
 ·refine R.go 7 (R.rem m' 2 (by kernel_rfl) (by omega) (by omega) (by kernel_rfl) ?_)
  refine R.go 2 (k3 ((m' % 2) = 1) (fun c6 => ?_) (fun c6 => ?_))
  ·refine R.go 4 (k12 eI out [i] 0 2 1 8 eI_one ?_)
   refine R.go 4 (k1 (i + 1) ?_)
   refine R.go 5 (R.quo m' 2 (by kernel_rfl) (by omega) (by omega) (by omega) (by kernel_rfl) ?_)
   exact R.go 2 (k16 R1 (N2 (out ++ [i], (f - 1), m' / 2, i + 1) [0, 3, 4] (some [0]) _ (by kernel_rfl) (by kernel_rfl) ⟨(by omega), (by exact hh (by omega)), (by have := hf (by omega); omega), (by omega), (by first | omega | (simp <;> omega)), (by first | (rw [List.append_assoc, List.singleton_append, ← b1 (by omega) (by omega)]; assumption) | (rw [← b0 (by omega) (by omega)]; assumption))⟩ (by show (f - 1) < f; have := hf (by omega); omega)))
  ·refine R.go 3 (k1 (i + 1) ?_)
   refine R.go 5 (R.quo m' 2 (by kernel_rfl) (by omega) (by omega) (by omega) (by kernel_rfl) ?_)
   exact R.go 2 (k16 R1 (N2 (out, (f - 1), m' / 2, i + 1) [0, 3, 4] none _ (by kernel_rfl) (by kernel_rfl) ⟨(by omega), (by exact hh (by omega)), (by have := hf (by omega); omega), (by omega), (by first | omega | (simp <;> omega)), (by first | (rw [List.append_assoc, List.singleton_append, ← b1 (by omega) (by omega)]; assumption) | (rw [← b0 (by omega) (by omega)]; assumption))⟩ (by show (f - 1) < f; have := hf (by omega); omega)))
 ·exact R.go 6 (k17 (ownA eI 2 1 out) (by first | (rw [show out = bitsL 6 m 0 by rw [← ‹out ++ bitsL f m' i = bitsL 6 m 0›, bits_end f m' i (by omega), List.append_nil]]) | (exfalso; omega)))

theorem l02Variables_c (a : List (Int × Int)) (hb : a.any badN = false) (hl : a.length ≤ 40) : CallA Tryz.prog 120 [LN a] (ownA eI 2 1 (bitsL 6 (vmTo a a.length) 0)) := by
 refine CallA.of Tryz.func120 rfl (by kernel_rfl) ?_
 refine R.go 14 (k15 ((fun | (i, m) => (⟨(frm 27 [(0, LN a), (3, AI m), (4, AI (i : Int))]), []⟩ : St) : Nat × Int → St)) (fun | (i, m) => (i ≤ a.length) ∧ (m = vmTo a i)) (fun | (i, m) => a.length - i) (0, 0) [0, 3, 4] none ⟨(by omega), (by rfl)⟩ ?_)
 rintro ⟨i, m⟩ ⟨h4_1, h4_2⟩ R1 N2
 have hk : i < a.length → (a.getD i (0, 0)).1 = 0 → 0 ≤ (a.getD i (0, 0)).2 ∧ (a.getD i (0, 0)).2 ≤ 5 := fun h h0 => by
  have hn := (okN_yes _).1 (okN_get hb h)
  omega
 have hr := vm_rng hb i (by omega)
 refine R.go 8 (k3 ((i : Int) < (a.length : Int)) (fun c5 => ?_) (fun c5 => ?_))
 ·refine R.go 7 (k8 eN a (0, 0) i (i : Int) rfl eN_len ?_)
  refine R.go 4 (k3 (((a.getD i (0, 0)).1) = 0) (fun c6 => ?_) (fun c6 => ?_))
  ·refine R.go 4 (k8 eN a (0, 0) i (i : Int) rfl eN_len ?_)
   refine R.go 2 (k14 true (l01One_c ((a.getD i (0, 0)).2) (by omega) (by omega)) rfl ?_)
   refine R.go 6 (k1 ((i : Int) + 1) ?_)
   exact R.go 2 (k16 R1 (N2 (i + 1, bor m (shl64 1 ((a.getD i (0, 0)).2))) [0, 3, 4] none _ (by kernel_rfl) (by kernel_rfl) ⟨(by omega), (by first | (rw [vmTo, if_pos ‹(a.getD i (0, 0)).1 = 0›, ← ‹m = vmTo a i›]) | (rw [vmTo, if_neg ‹¬ (a.getD i (0, 0)).1 = 0›]; assumption))⟩ (by show (a.length - (i + 1)) < (a.length - i); omega)))
  ·refine R.go 4 (k1 ((i : Int) + 1) ?_)
   exact R.go 2 (k16 R1 (N2 (i + 1, m) [0, 3, 4] none _ (by kernel_rfl) (by kernel_rfl) ⟨(by omega), (by first | (rw [vmTo, if_pos ‹(a.getD i (0, 0)).1 = 0›, ← ‹m = vmTo a i›]) | (rw [vmTo, if_neg ‹¬ (a.getD i (0, 0)).1 = 0›]; assumption))⟩ (by show (a.length - (i + 1)) < (a.length - i); omega)))
 ·refine R.go 4 (k14 true (l02Variables_list_c m (by omega) (by omega)) rfl ?_)
  exact R.go 2 (k17 (ownA eI 2 1 (bitsL 6 m 0)) (by first | (rw [‹m = _›, show i = a.length by omega]) | (exfalso; omega)))

theorem variableMask_c (a : List (Int × Int)) (hb : a.any badN = false) (hl : a.length ≤ 40) : CallA Tryz.prog 222 [LN a] (AI (vmTo a a.length)) := by
 refine CallA.of Tryz.func222 rfl (by kernel_rfl) ?_
 refine R.go 16 (k15 ((fun | (i, m) => (⟨(frm 22 [(3, AI m), (6, LN a), (7, AI a.length), (8, AI (i : Int))]), []⟩ : St) : Nat × Int → St)) (fun | (i, m) => (i ≤ a.length) ∧ (m = vmTo a i)) (fun | (i, m) => a.length - i) (0, 0) [3, 6, 7, 8] none ⟨(by omega), (by rfl)⟩ ?_)
 rintro ⟨i, m⟩ ⟨h4_1, h4_2⟩ R1 N2
 have hk : i < a.length → (a.getD i (0, 0)).1 = 0 → 0 ≤ (a.getD i (0, 0)).2 ∧ (a.getD i (0, 0)).2 ≤ 5 := fun h h0 => by
  have hn := (okN_yes _).1 (okN_get hb h)
  omega
 refine R.go 5 (k3 ((i : Int) < (a.length : Int)) (fun c5 => ?_) (fun c5 => ?_))
 ·refine R.go 5 (k8 eN a (0, 0) i (i : Int) rfl eN_len ?_)
  refine R.go 10 (k3 (((a.getD i (0, 0)).1) = 0) (fun c6 => ?_) (fun c6 => ?_))
  ·refine R.go 4 (R.shl 1 ((a.getD i (0, 0)).2) (by kernel_rfl) (by omega) (by kernel_rfl) ?_)
   refine R.go 5 (k1 ((i : Int) + 1) ?_)
   exact R.go 2 (k16 R1 (N2 (i + 1, bor m (shl64 1 ((a.getD i (0, 0)).2))) [3, 6, 7, 8] (some []) _ (by kernel_rfl) (by kernel_rfl) ⟨(by omega), (by first | (rw [vmTo, if_pos ‹(a.getD i (0, 0)).1 = 0›, ← ‹m = vmTo a i›]) | (rw [vmTo, if_neg ‹¬ (a.getD i (0, 0)).1 = 0›]; assumption))⟩ (by show (a.length - (i + 1)) < (a.length - i); omega)))
  ·refine R.go 3 (k1 ((i : Int) + 1) ?_)
   exact R.go 2 (k16 R1 (N2 (i + 1, m) [3, 6, 7, 8] (some []) _ (by kernel_rfl) (by kernel_rfl) ⟨(by omega), (by first | (rw [vmTo, if_pos ‹(a.getD i (0, 0)).1 = 0›, ← ‹m = vmTo a i›]) | (rw [vmTo, if_neg ‹¬ (a.getD i (0, 0)).1 = 0›]; assumption))⟩ (by show (a.length - (i + 1)) < (a.length - i); omega)))
 ·exact R.go 6 (k17 (AI m) (by first | (rw [‹m = _›, show i = a.length by omega]) | (exfalso; omega)))

end Go.Proofs.YtjllngcefoohpaaGreat


/-! Lists of formulas: their variables. -/
namespace Go.Proofs.YtjllngcefoohpaaGreat
open Go.RowKit Go.Abs

/-- The variables of the first formulas. -/
def vmT (l : List (List (Int × Int))) : Nat → Int
  | 0 => 0
  | i + 1 => bor (vmT l i) (vmTo (l.getD i []) (l.getD i []).length)
def allF (l : List (List (Int × Int))) : Bool := !l.any fun a => !isF a
theorem allF_get {l : List (List (Int × Int))} (h : allF l = true) (j : Nat) (hj : j < l.length) : isF (l.getD j []) = true := by
  unfold allF at h
  rw [Bool.not_eq_true', List.any_eq_false] at h
  have h1 : l.getD j [] ∈ l := by
    rw [List.getD_eq_getElem?_getD, List.getElem?_eq_getElem hj, Option.getD_some]
    exact List.getElem_mem hj
  simpa using h _ h1
theorem vmT_rng {l : List (List (Int × Int))} (h : allF l = true) : ∀ i, i ≤ l.length → 0 ≤ vmT l i ∧ vmT l i ≤ 63
  | 0, _ => ⟨Int.le_refl _, by simp [vmT]⟩
  | i + 1, hi => by
    have ih := vmT_rng h i (by omega)
    have hv := vm_rng (isF_parts (allF_get h i (by omega))).2.2.1 _ (Nat.le_refl _)
    have hb := bor_63 ih.1 ih.2 hv.1 hv.2
    exact ⟨hb.1, hb.2.1⟩
theorem vm63 {a : List (Int × Int)} (h : a.any badN = false) : InM 6 (vmTo a a.length) := by
  have := vm_rng h _ (Nat.le_refl _)
  exact ⟨this.1, by have : (2 : Nat) ^ 6 = 64 := by decide
                    omega⟩
theorem inM6 {m : Int} (h0 : 0 ≤ m) (h1 : m ≤ 63) : InM 6 m := ⟨h0, by have : (2 : Nat) ^ 6 = 64 := by decide
                                                                       omega⟩
theorem inM6_le {m : Int} (h : InM 6 m) : 0 ≤ m ∧ m ≤ 63 := ⟨h.1, by have : (2 : Nat) ^ 6 = 64 := by decide
                                                                     have := h.2
                                                                     omega⟩
/-- A mask with the first members of a list. -/
def orTo (m : Int) (vs : List Int) : Nat → Int
  | 0 => m
  | k + 1 => bor (orTo m vs k) (shl64 1 (vs.getD k 0))
theorem mem_get {m : Int} {v : Int} (h : v ∈ mem m) (hm : InM 6 m) : 0 ≤ v ∧ v < 6 ∧ tb m v.toNat = true := by
  obtain ⟨j, h1, h2, rfl⟩ := memN_mem.1 h
  have := tb_lt hm h2
  exact ⟨by omega, by omega, h2⟩
theorem mem_at {v : Int} (hv : InM 6 v) {k : Nat} (h : k < (mem v).length) : 0 ≤ (mem v).getD k 0 ∧ (mem v).getD k 0 < 6 := by
  have hg : (mem v).getD k 0 ∈ mem v := by
    rw [List.getD_eq_getElem?_getD, List.getElem?_eq_getElem h, Option.getD_some]
    exact List.getElem_mem _
  have := mem_get hg hv
  exact ⟨this.1, this.2.1⟩
theorem orTo_ok {m : Int} {vs : List Int} (hm : InM 6 m) (hv : ∀ v ∈ vs, 0 ≤ v ∧ v < 6) : ∀ k, k ≤ vs.length → InM 6 (orTo m vs k) ∧ ∀ j, tb (orTo m vs k) j = true ↔ tb m j = true ∨ ∃ i, i < k ∧ vs.getD i 0 = (j : Int)
  | 0, _ => ⟨hm, fun j => by simp [orTo]⟩
  | k + 1, hk => by
    obtain ⟨h1, h2⟩ := orTo_ok hm hv k (by omega)
    have hg : vs.getD k 0 ∈ vs := by
      rw [List.getD_eq_getElem?_getD, List.getElem?_eq_getElem (by omega), Option.getD_some]
      exact List.getElem_mem _
    obtain ⟨v, hvv⟩ : ∃ v : Nat, vs.getD k 0 = (v : Int) := ⟨(vs.getD k 0).toNat, by have := hv _ hg; omega⟩
    have hv6 : v < 6 := by have := hv _ hg; omega
    have h3 := inM_one (n := 6) (by decide) hv6
    rw [orTo, hvv]
    refine ⟨inM_bor (by decide) h1 h3, fun j => ?_⟩
    rw [tb_bor (by decide) h1 h3, Bool.or_eq_true, h2 j, tb_one (by omega), decide_eq_true_iff]
    constructor
    · rintro ((h | ⟨i, a, b⟩) | h)
      · exact .inl h
      · exact .inr ⟨i, by omega, b⟩
      · exact .inr ⟨k, by omega, by rw [hvv, h]⟩
    · rintro (h | ⟨i, a, b⟩)
      · exact .inl (.inl h)
      · by_cases hik : i = k
        · subst hik; exact .inr (by rw [hvv] at b; omega)
        · exact .inl (.inr ⟨i, by omega, b⟩)
theorem orTo_mem {m v : Int} (hm : InM 6 m) (hv : InM 6 v) : orTo m (mem v) (mem v).length = bor m v := by
  obtain ⟨h1, h2⟩ := orTo_ok hm (fun x hx => by have := mem_get hx hv; exact ⟨this.1, this.2.1⟩) (mem v).length (Nat.le_refl _)
  refine tb_ext h1.1 (inM_bor (by decide) hm hv).1 fun j => ?_
  rw [Bool.eq_iff_iff, h2 j, tb_bor (by decide) hm hv, Bool.or_eq_true]
  constructor
  · rintro (h | ⟨i, a, b⟩)
    · exact .inl h
    · have hg : (mem v).getD i 0 ∈ mem v := by
        rw [List.getD_eq_getElem?_getD, List.getElem?_eq_getElem a, Option.getD_some]
        exact List.getElem_mem _
      have := (mem_get hg hv).2.2
      rw [b] at this
      exact .inr this
  · rintro (h | h)
    · exact .inl h
    · have hj := tb_lt hv h
      have : (j : Int) ∈ mem v := memN_mem.2 ⟨j, by omega, h, rfl⟩
      obtain ⟨i, hi, e⟩ := List.getElem_of_mem this
      exact .inr ⟨i, hi, by rw [List.getD_eq_getElem?_getD, List.getElem?_eq_getElem hi, Option.getD_some, e]⟩
theorem bits_mem : ∀ m : Fin 64, bitsL 6 (m.val : Int) 0 = mem (m.val : Int) := by decide +kernel
theorem bits_mem6 {m : Int} (h : InM 6 m) : bitsL 6 m 0 = mem m := by
  obtain ⟨h0, h1⟩ := inM6_le h
  obtain ⟨m, rfl⟩ := Int.eq_ofNat_of_zero_le h0
  exact bits_mem ⟨m, by omega⟩
def fidxF (p : List (Int × Int) → Bool) : List (List (Int × Int)) → Int → Int
  | [], _ => -1
  | x :: l, i => if p x = true then i else fidxF p l (i + 1)
theorem drop_consF (a : List (List (Int × Int))) (j : Nat) (h : j < a.length) : a.drop j = a.getD j [] :: a.drop (j + 1) := by
  rw [List.drop_eq_getElem_cons h, List.getD_eq_getElem?_getD, List.getElem?_eq_getElem h]; rfl
theorem fidxF_hit {p : List (Int × Int) → Bool} {a : List (List (Int × Int))} {i : Nat} (h : i < a.length) (hp : p (a.getD i []) = true) : fidxF p (a.drop i) i = i := by
  rw [drop_consF a i h, fidxF, if_pos hp]
theorem fidxF_miss {p : List (Int × Int) → Bool} {a : List (List (Int × Int))} {i : Nat} (h : i < a.length) (hp : p (a.getD i []) = false) : fidxF p (a.drop i) i = fidxF p (a.drop (i + 1)) ((i + 1 : Nat) : Int) := by
  rw [drop_consF a i h, fidxF, if_neg (by rw [hp]; decide)]
  rfl
theorem fidxF_end {p : List (Int × Int) → Bool} {a : List (List (Int × Int))} {i : Nat} (h : a.length ≤ i) : fidxF p (a.drop i) i = -1 := by
  rw [List.drop_eq_nil_of_le h, fidxF]
theorem fidxF_any {p : List (Int × Int) → Bool} : ∀ {a : List (List (Int × Int))} {i : Int}, 0 ≤ i → (0 ≤ fidxF p a i ↔ a.any p = true)
  | [], i, h => by simp [fidxF]
  | x :: a, i, h => by
    have ih := fidxF_any (p := p) (a := a) (i := i + 1) (by omega)
    rw [fidxF, List.any_cons]
    by_cases hp : p x = true
    · simp [hp, h]
    · rw [if_neg hp, ih]; simp [hp]
/-- The rows of l are short. -/
def shortL (l : List (List (Int × Int))) : Prop := l.length ≤ 1000000000 ∧ ∀ j : Nat, j < l.length → (l.getD j []).length ≤ 1000000000
def notF (a : List (Int × Int)) : Bool := !isF a
theorem notF_yes {a : List (Int × Int)} (h : isF a = false) : notF a = true := by rw [notF, h]; rfl
theorem notF_no {a : List (Int × Int)} (h : isF a = true) : notF a = false := by rw [notF, h]; rfl
theorem allF_not (l : List (List (Int × Int))) : allF l = !l.any notF := rfl

theorem shortL_one {a : List (Int × Int)} (h : a.length ≤ 1000000000) : shortL [a] := ⟨by simp, fun j hj => by
  have hj : j = 0 := by simpa using hj
  subst hj
  simpa using h⟩

theorem areFormulas1_c (a : List (Int × Int)) (hl : a.length ≤ 1000000000) : CallA Tryz.prog 273 [LN a] (.bool (notF a)) := by
 refine CallA.of Tryz.func273 rfl (by kernel_rfl) ?_
 refine R.go 7 (k14 true (isFormula_c a hl) rfl ?_)
 exact R.go 3 (k17 (.bool (!(isF a))) (by first | (rfl) | (exfalso; omega)))

theorem index_notF_c (l : List (List (Int × Int))) (hs : shortL l) : CallA Tryz.prog 332 [LLN l, .fn 273 []] (AI (fidxF notF l 0)) := by
 have hl := hs.1
 refine CallA.of Tryz.func332 rfl (by kernel_rfl) ?_
 refine R.go 12 (k15 (fun (i : Nat) => (⟨(frm 19 [(0, LLN l), (1, .fn 273 []), (7, AI l.length), (8, AI (i : Int))]), []⟩ : St)) (fun (i : Nat) => (i ≤ l.length) ∧ (fidxF notF l 0 = fidxF notF (l.drop i) i)) (fun (i : Nat) => l.length - i) 0 [0, 1, 7, 8] none ⟨(by omega), (by rfl)⟩ ?_)
 rintro i ⟨h3_1, h3_2⟩ R1 N2
 refine R.go 5 (k3 ((i : Int) < (l.length : Int)) (fun c4 => ?_) (fun c4 => ?_))
 ·have hj := hs.2 i (by omega)
  refine R.go 13 (k8 eLN l [] i (i : Int) rfl eLN_len ?_)
  refine R.go 1 (k14 true (areFormulas1_c (l.getD i []) (by first | omega | (simp <;> omega))) rfl ?_)
  refine R.go 1 (R.condB (notF (l.getD i [])) (by kernel_rfl) (fun c5 => ?_) (fun c5 => ?_))
  ·exact R.go 5 (k17 (AI (i : Int)) (by first | (apply congrArg AI; rw [‹fidxF notF l 0 = _›]; first | exact (fidxF_end (by omega)).symm | exact (fidxF_hit (by omega) (by assumption)).symm) | (exfalso; omega)))
  ·refine R.go 3 (k1 ((i : Int) + 1) ?_)
   exact R.go 2 (k16 R1 (N2 (i + 1) [0, 1, 7, 8] none _ (by kernel_rfl) (by kernel_rfl) ⟨(by omega), (by rw [‹fidxF notF l 0 = _›]; exact fidxF_miss (by omega) (by assumption))⟩ (by show (l.length - (i + 1)) < (l.length - i); omega)))
 ·exact R.go 5 (k17 (AI (-1)) (by first | (apply congrArg AI; rw [‹fidxF notF l 0 = _›]; first | exact (fidxF_end (by omega)).symm | exact (fidxF_hit (by omega) (by assumption)).symm) | (exfalso; omega)))

theorem contains_notF_c (l : List (List (Int × Int))) (hs : shortL l) : CallA Tryz.prog 272 [LLN l, .fn 273 []] (.bool (l.any notF)) := by
 refine CallA.of Tryz.func272 rfl (by kernel_rfl) ?_
 refine R.go 8 (k14 true (index_notF_c l hs) rfl ?_)
 exact R.go 3 (k17 (.bool (decide ((fidxF notF l 0) ≥ 0))) (by first | (apply congrArg AV.bool; rw [Bool.eq_iff_iff, decide_eq_true_iff]; exact fidxF_any (Int.le_refl 0)) | (exfalso; omega)))

theorem areFormulas_c (l : List (List (Int × Int))) (hs : shortL l) : CallA Tryz.prog 154 [LLN l] (.bool (allF l)) := by
 refine CallA.of Tryz.func154 rfl (by kernel_rfl) ?_
 refine R.go 7 (k14 true (contains_notF_c l hs) rfl ?_)
 exact R.go 3 (k17 (.bool (!(l.any notF))) (by first | (rfl) | (exfalso; omega)))

theorem variablesIn_c (l : List (List (Int × Int))) (hF : allF l = true) (hl : l.length ≤ 1000000000) : CallA Tryz.prog 118 [LLN l] (ownA eI 2 1 (mem (vmT l l.length))) := by
 refine CallA.of Tryz.func118 rfl (by kernel_rfl) ?_
 refine R.go 16 (k15 ((fun | (i, m) => (⟨(frm 19 [(3, AI m), (6, LLN l), (7, AI l.length), (8, AI (i : Int))]), []⟩ : St) : Nat × Int → St)) (fun | (i, m) => (i ≤ l.length) ∧ (m = vmT l i)) (fun | (i, m) => l.length - i) (0, 0) [3, 6, 7, 8] none ⟨(by omega), (by rfl)⟩ ?_)
 rintro ⟨i, m⟩ ⟨h4_1, h4_2⟩ R1 N2
 have hv := vmT_rng hF i (by omega)
 have ha := fun h : i < l.length => isF_parts (allF_get hF i h)
 refine R.go 5 (k3 ((i : Int) < (l.length : Int)) (fun c5 => ?_) (fun c5 => ?_))
 ·refine R.go 5 (k8 eLN l [] i (i : Int) rfl eLN_len ?_)
  have hb : (l.getD i []).any badN = false := (ha (by omega)).2.2.1
  have hl4 : (l.getD i []).length ≤ 40 := (ha (by omega)).1
  refine R.go 6 (k14 true (variableMask_c (l.getD i []) hb hl4) rfl ?_)
  refine R.go 5 (k1 ((i : Int) + 1) ?_)
  exact R.go 2 (k16 R1 (N2 (i + 1, bor m (vmTo (l.getD i []) (l.getD i []).length)) [3, 6, 7, 8] none _ (by kernel_rfl) (by kernel_rfl) ⟨(by omega), (by rw [vmT, ← ‹m = vmT l i›])⟩ (by show (l.length - (i + 1)) < (l.length - i); omega)))
 ·have hv2 := vmT_rng hF i (by omega)
  refine R.go 4 (k14 true (membersOf_c m (by first | assumption | exact inM61 (by omega) (by omega))) rfl ?_)
  exact R.go 2 (k17 (ownA eI 2 1 (mem m)) (by first | (rw [‹m = vmT l i›, show i = l.length by omega]) | (exfalso; omega)))

theorem l02VariablesM_c (a : List (Int × Int)) (hb : a.any badN = false) (hl : a.length ≤ 40) : CallA Tryz.prog 120 [LN a] (ownA eI 2 1 (mem (vmTo a a.length))) := by
  have h := l02Variables_c a hb hl
  rw [bits_mem6 (vm63 hb)] at h
  exact h

theorem l06Variables_c (l : List (List (Int × Int))) (hF : allF l = true) (hl : l.length ≤ 1000000000) : CallA Tryz.prog 161 [LLN l] (ownA eI 2 1 (mem (vmT l l.length))) := by
 refine CallA.of Tryz.func161 rfl (by kernel_rfl) ?_
 refine R.go 14 (k15 ((fun | (i, m) => (⟨(frm 33 [(0, LLN l), (3, AI m), (4, AI (i : Int))]), []⟩ : St) : Nat × Int → St)) (fun | (i, m) => (i ≤ l.length) ∧ (m = vmT l i)) (fun | (i, m) => l.length - i) (0, 0) [0, 3, 4] none ⟨(by omega), (by rfl)⟩ ?_)
 rintro ⟨i, m⟩ ⟨h4_1, h4_2⟩ R1 N2
 have hv := vmT_rng hF i (by omega)
 have ha := fun h : i < l.length => isF_parts (allF_get hF i h)
 refine R.go 8 (k3 ((i : Int) < (l.length : Int)) (fun c5 => ?_) (fun c5 => ?_))
 ·have hb : (l.getD i []).any badN = false := (ha (by omega)).2.2.1
  have hl4 : (l.getD i []).length ≤ 40 := (ha (by omega)).1
  have hv6 := vm63 hb
  have hm6 : InM 6 (vmT l i) := inM6 hv.1 hv.2
  refine R.go 7 (k8 eLN l [] i (i : Int) rfl eLN_len ?_)
  refine R.go 1 (k14 true (l02VariablesM_c (l.getD i []) hb hl4).frz rfl ?_)
  refine R.go 7 (k15 ((fun | (k, m2) => (⟨(frm 33 [(0, LLN l), (3, AI m2), (4, AI (i : Int)), (5, LI (mem (vmTo (l.getD i []) (l.getD i []).length))), (6, AI (k : Int))]), []⟩ : St) : Nat × Int → St)) (fun | (k, m2) => (k ≤ (mem (vmTo (l.getD i []) (l.getD i []).length)).length) ∧ (m2 = orTo m (mem (vmTo (l.getD i []) (l.getD i []).length)) k)) (fun | (k, m2) => (mem (vmTo (l.getD i []) (l.getD i []).length)).length - k) (0, m) [0, 3, 4, 5, 6] none ⟨(by omega), (by rfl)⟩ ?_)
  rintro ⟨k, m2⟩ ⟨h9_1, h9_2⟩ R6 N7
  have hg := fun h : k < (mem (vmTo (l.getD i []) (l.getD i []).length)).length => mem_at hv6 h
  have hml := mem_le (vmTo (l.getD i []) (l.getD i []).length)
  refine R.go 8 (k3 ((k : Int) < ((mem (vmTo (l.getD i []) (l.getD i []).length)).length : Int)) (fun c10 => ?_) (fun c10 => ?_))
  ·have hg2 := hg (by omega)
   refine R.go 7 (k8 eI (mem (vmTo (l.getD i []) (l.getD i []).length)) 0 k (k : Int) rfl eI_len ?_ (hj := by first | omega | (simp only [List.length_set]; omega) | (simp <;> omega)))
   refine R.go 1 (k14 true (l01One_c ((mem (vmTo (l.getD i []) (l.getD i []).length)).getD k 0) (by first | omega | (simp <;> omega)) (by first | omega | (simp <;> omega))) rfl ?_)
   refine R.go 6 (k1 ((k : Int) + 1) ?_)
   exact R.go 2 (k16 R6 (N7 (k + 1, bor m2 (shl64 1 ((mem (vmTo (l.getD i []) (l.getD i []).length)).getD k 0))) [0, 3, 4, 5, 6] none _ (by kernel_rfl) (by kernel_rfl) ⟨(by omega), (by rw [orTo, ← ‹m2 = orTo m (mem (vmTo (l.getD i []) (l.getD i []).length)) k›])⟩ (by show ((mem (vmTo (l.getD i []) (l.getD i []).length)).length - (k + 1)) < ((mem (vmTo (l.getD i []) (l.getD i []).length)).length - k); omega)))
  ·refine R.go 4 (k1 ((i : Int) + 1) ?_)
   exact R.go 2 (k16 R1 (N2 (i + 1, m2) [0, 3, 4] none _ (by kernel_rfl) (by kernel_rfl) ⟨(by omega), (by rw [vmT, ← orTo_mem hm6 hv6, ← ‹m = vmT l i›, ← show k = (mem _).length by omega]; assumption)⟩ (by show (l.length - (i + 1)) < (l.length - i); omega)))
 ·have hv2 := vmT_rng hF i (by omega)
  refine R.go 4 (k14 true (l01ListM_c m (by first | assumption | exact inM61 (by omega) (by omega))) rfl ?_)
  exact R.go 2 (k17 (ownA eI 2 1 (mem m)) (by first | (rw [‹m = vmT l i›, show i = l.length by omega]) | (exfalso; omega)))

end Go.Proofs.YtjllngcefoohpaaGreat
