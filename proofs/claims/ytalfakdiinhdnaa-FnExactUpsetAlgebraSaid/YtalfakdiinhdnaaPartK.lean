/- Texts of the proof: HY3, HY4, HY5. -/
import Derived.Test.YtalfakdiinhdnaaPartJ

/-! The algebra of a poset's upsets: its order has meets, joins and implications. -/
namespace Go.Proofs.Ytalfakdiinhdnaa
open Go.RowKit Go.Abs

theorem hq_upTo_mem {xs : List Int} {m : Int} : ∀ k, m ∈ upTo xs k ↔ 0 ≤ m ∧ m < (k : Int) ∧ img xs m xs.length = m
  | 0 => by
    simp only [upTo, List.not_mem_nil, false_iff]
    rintro ⟨h1, h2, _⟩
    omega
  | k + 1 => by
    have ih := hq_upTo_mem (xs := xs) (m := m) k
    by_cases h : img xs (k : Int) xs.length = (k : Int)
    · rw [← upTo_yes h, List.mem_append, ih, List.mem_singleton]
      constructor
      · rintro (⟨a, b, c⟩ | rfl)
        · exact ⟨a, by omega, c⟩
        · exact ⟨by omega, by omega, h⟩
      · rintro ⟨a, b, c⟩
        by_cases e : m = (k : Int)
        · exact .inr e
        · exact .inl ⟨a, by omega, c⟩
    · rw [← upTo_no h, ih]
      constructor
      · rintro ⟨a, b, c⟩; exact ⟨a, by omega, c⟩
      · rintro ⟨a, b, c⟩
        refine ⟨a, ?_, c⟩
        by_cases e : m = (k : Int)
        · subst e; exact absurd c h
        · omega
theorem hq_upTo_nodup {xs : List Int} : ∀ k, (upTo xs k).Nodup
  | 0 => List.nodup_nil
  | k + 1 => by
    by_cases h : img xs (k : Int) xs.length = (k : Int)
    · rw [← upTo_yes h]
      refine List.nodup_append.2 ⟨hq_upTo_nodup k, by simp, fun a ha b hb => ?_⟩
      have := (hq_upTo_mem k).1 ha
      have : b = (k : Int) := by simpa using hb
      omega
    · rw [← upTo_no h]; exact hq_upTo_nodup k
theorem hq_inM_lt {n m : Int} (h0 : 0 ≤ n) (h8 : n ≤ 8) : InM n.toNat m ↔ 0 ≤ m ∧ m < shl64 1 n := by
  rw [full_rng (n := n.toNat) (by omega), show ((n.toNat : Nat) : Int) = n by omega, inR_iff]
  omega
theorem hq_bits_eq {N : Nat} {a b : Int} (ha : InM N a) (hb : InM N b) (h : ∀ i, i < N → (tb a i = true ↔ tb b i = true)) : a = b := by
  refine tb_ext ha.1 hb.1 fun i => ?_
  rw [Bool.eq_iff_iff]
  by_cases hi : i < N
  · exact h i hi
  · constructor
    · intro h2; exact absurd (tb_lt ha h2) hi
    · intro h2; exact absurd (tb_lt hb h2) hi
section
variable {n : Int} {xs : List Int} (hP : okPo n xs = true)
include hP
theorem hq_po_rel : 0 ≤ n ∧ n ≤ 8 ∧ (xs.length : Int) = n ∧ RelOK n.toNat xs ∧ (∀ i, i < n.toNat → tb (xs.getD i 0) i = true) ∧ (∀ i j k : Nat, i < n.toNat → tb (xs.getD i 0) j = true → tb (xs.getD j 0) k = true → tb (xs.getD i 0) k = true) ∧ ∀ i j : Nat, i < n.toNat → tb (xs.getD i 0) j = true → tb (xs.getD j 0) i = true → i = j := by
  have hF := okPo_fr hP
  obtain ⟨h0, h8, hl, hr⟩ := okFr_rel hF
  simp only [okPo, Bool.and_eq_true] at hP
  obtain ⟨_, h1, h2, h3⟩ := hP
  have hlt : ∀ i j, i < n.toNat → tb (xs.getD i 0) j = true → j < n.toNat := fun i j hi h => tb_lt (hr.2 i hi) h
  exact ⟨h0, h8, hl, hr, rB_iff.1 h1, fun i j k hi a b => tB_iff.1 h2 i hi j (hlt i j hi a) k (hlt j k (hlt i j hi a) b) a b, fun i j hi a b => aB_iff.1 h3 i hi j (hlt i j hi a) a b⟩
theorem hq_img_bits {m : Int} (hm : InM n.toNat m) : InM n.toNat (img xs m xs.length) ∧ ∀ k, tb (img xs m xs.length) k = true ↔ ∃ j, tb m j = true ∧ tb (xs.getD j 0) k = true := by
  obtain ⟨h0, h8, hl, hr, _⟩ := hq_po_rel hP
  obtain ⟨h1, h2⟩ := img_ok (n := n.toNat) (by omega) hr hm xs.length (by omega)
  refine ⟨h1, fun k => ?_⟩
  rw [h2]
  constructor
  · rintro ⟨j, _, h3, h4⟩; exact ⟨j, h3, h4⟩
  · rintro ⟨j, h3, h4⟩; exact ⟨j, by have := tb_lt hm h3; omega, h3, h4⟩
theorem hq_up_iff {m : Int} : m ∈ upR n xs ↔ InM n.toNat m ∧ ∀ i j : Nat, tb m i = true → tb (xs.getD i 0) j = true → tb m j = true := by
  obtain ⟨h0, h8, hl, hr, rf, _⟩ := hq_po_rel hP
  have hs := shl_rng n h0 (by omega)
  rw [upR, if_pos hP, upL, hq_upTo_mem, show ((shl64 1 n).toNat : Int) = shl64 1 n by omega, hq_inM_lt h0 h8]
  constructor
  · rintro ⟨a, b, c⟩
    have hm := (hq_inM_lt h0 h8).2 ⟨a, b⟩
    refine ⟨⟨a, b⟩, fun i j h1 h2 => ?_⟩
    rw [← c]
    exact ((hq_img_bits hP hm).2 j).2 ⟨i, h1, h2⟩
  · rintro ⟨⟨a, b⟩, h⟩
    have hm := (hq_inM_lt h0 h8).2 ⟨a, b⟩
    refine ⟨a, b, hq_bits_eq (hq_img_bits hP hm).1 hm fun k hk => ?_⟩
    rw [(hq_img_bits hP hm).2]
    constructor
    · rintro ⟨j, h1, h2⟩; exact h j k h1 h2
    · intro h1; exact ⟨k, h1, rf k hk⟩
theorem hq_box_po {m : Int} (hm : InM n.toNat m) : InM n.toNat (boxB xs m xs.length) ∧ ∀ k, tb (boxB xs m xs.length) k = true ↔ k < n.toNat ∧ ∀ j, tb (xs.getD k 0) j = true → tb m j = true := by
  obtain ⟨h0, h8, hl, hr, _⟩ := hq_po_rel hP
  have := boxB_ok (n := n.toNat) (by omega) hr hm n.toNat (Nat.le_refl _)
  rw [show xs.length = n.toNat by omega]
  exact this
theorem hq_box_up {m : Int} (hm : InM n.toNat m) : boxB xs m xs.length ∈ upR n xs := by
  obtain ⟨h0, h8, hl, hr, rf, tr, asy⟩ := hq_po_rel hP
  obtain ⟨b1, b2⟩ := hq_box_po hP hm
  refine (hq_up_iff hP).2 ⟨b1, fun i j h1 h2 => ?_⟩
  obtain ⟨hi, h3⟩ := (b2 i).1 h1
  exact (b2 j).2 ⟨tb_lt (hr.2 i hi) h2, fun k hk => h3 k (tr i j k hi h2 hk)⟩
theorem hq_up_or {x y : Int} (hx : x ∈ upR n xs) (hy : y ∈ upR n xs) : bor x y ∈ upR n xs := by
  obtain ⟨h0, h8, _⟩ := hq_po_rel hP
  obtain ⟨a1, a2⟩ := (hq_up_iff hP).1 hx
  obtain ⟨b1, b2⟩ := (hq_up_iff hP).1 hy
  refine (hq_up_iff hP).2 ⟨inM_bor (by omega) a1 b1, fun i j h1 h2 => ?_⟩
  rw [tb_bor (n := n.toNat) (by omega) a1 b1, Bool.or_eq_true] at h1 ⊢
  exact h1.imp (fun h => a2 i j h h2) (fun h => b2 i j h h2)
theorem hq_up_and {x y : Int} (hx : x ∈ upR n xs) (hy : y ∈ upR n xs) : band x y ∈ upR n xs := by
  obtain ⟨h0, h8, _⟩ := hq_po_rel hP
  obtain ⟨a1, a2⟩ := (hq_up_iff hP).1 hx
  obtain ⟨b1, b2⟩ := (hq_up_iff hP).1 hy
  refine (hq_up_iff hP).2 ⟨inM_band (by omega) a1 b1, fun i j h1 h2 => ?_⟩
  rw [tb_band (n := n.toNat) (by omega) a1 b1, Bool.and_eq_true] at h1 ⊢
  exact ⟨a2 i j h1.1 h2, b2 i j h1.2 h2⟩
end

/-- Is the set at x within the set at y? -/
def subU (U : List Int) (x y : Nat) : Bool := decide (bnot (U.getD x 0) (U.getD y 0) = 0)
def ordU (U : List Int) : List Int := (List.range U.length).map fun x => mkB (subU U x) U.length
theorem ordU_len (U : List Int) : (ordU U).length = U.length := by simp [ordU]
theorem ordU_get {U : List Int} {x : Nat} (h : x < U.length) : (ordU U).getD x 0 = mkB (subU U x) U.length := by simp [ordU, List.getD_eq_getElem?_getD, List.getElem?_range h]
/-- Sets that are closed under what an algebra needs; J: the implication. -/
structure SysU (N : Nat) (U : List Int) (J : Int → Int → Int) : Prop where
  n61 : N ≤ 61
  n0 : 0 < U.length
  n30 : U.length ≤ 30
  rng : ∀ i : Nat, i < U.length → InM N (U.getD i 0)
  inj : ∀ i j : Nat, i < U.length → j < U.length → U.getD i 0 = U.getD j 0 → i = j
  cap : ∀ i j : Nat, i < U.length → j < U.length → ∃ k : Nat, k < U.length ∧ U.getD k 0 = band (U.getD i 0) (U.getD j 0)
  cup : ∀ i j : Nat, i < U.length → j < U.length → ∃ k : Nat, k < U.length ∧ U.getD k 0 = bor (U.getD i 0) (U.getD j 0)
  imp : ∀ i j : Nat, i < U.length → j < U.length → ∃ k : Nat, k < U.length ∧ U.getD k 0 = J (U.getD i 0) (U.getD j 0)
  adj : ∀ i j z : Nat, i < U.length → j < U.length → z < U.length → (bnot (band (U.getD z 0) (U.getD i 0)) (U.getD j 0) = 0 ↔ bnot (U.getD z 0) (J (U.getD i 0) (U.getD j 0)) = 0)
  bot : ∃ k : Nat, k < U.length ∧ ∀ z : Nat, z < U.length → bnot (U.getD k 0) (U.getD z 0) = 0
  top : ∃ k : Nat, k < U.length ∧ ∀ z : Nat, z < U.length → bnot (U.getD z 0) (U.getD k 0) = 0
section
variable {N : Nat} {U : List Int} {J : Int → Int → Int} (h : SysU N U J)
include h
theorem sub_bits {a b : Nat} (ha : a < U.length) (hb : b < U.length) : bnot (U.getD a 0) (U.getD b 0) = 0 ↔ ∀ i, tb (U.getD a 0) i = true → tb (U.getD b 0) i = true := bnot_sub h.n61 (h.rng a ha) (h.rng b hb)
theorem ordU_tb {x y : Nat} (hx : x < U.length) : tb ((ordU U).getD x 0) y = true ↔ y < U.length ∧ bnot (U.getD x 0) (U.getD y 0) = 0 := by
  rw [ordU_get hx, (mkB_ok _ (N := U.length) (by have := h.n30; omega) _ (Nat.le_refl _)).2, Bool.and_eq_true, decide_eq_true_eq, subU, decide_eq_true_eq]
theorem ordU_rel : RelOK (ordU U).length (ordU U) := by
  refine ⟨rfl, fun j hj => ?_⟩
  rw [ordU_len] at hj ⊢
  rw [ordU_get hj]
  exact (mkB_ok _ (N := U.length) (by have := h.n30; omega) _ (Nat.le_refl _)).1
theorem ordU_asym {x y : Nat} (hx : x < U.length) (hy : y < U.length) (a : bnot (U.getD x 0) (U.getD y 0) = 0) (b : bnot (U.getD y 0) (U.getD x 0) = 0) : x = y := by
  refine h.inj x y hx hy (tb_ext (h.rng x hx).1 (h.rng y hy).1 fun i => ?_)
  rw [Bool.eq_iff_iff]
  exact ⟨(sub_bits h hx hy).1 a i, (sub_bits h hy hx).1 b i⟩
theorem ordU_pa : paB (ordU U).length (ordU U) = true := by
  have h1 : rB (ordU U).length (ordU U) = true := rB_iff.2 fun i hi => by
    rw [ordU_len] at hi
    exact (ordU_tb h hi).2 ⟨hi, (sub_bits h hi hi).2 fun _ a => a⟩
  have h2 : tB (ordU U).length (ordU U) = true := tB_iff.2 fun i hi j hj k hk a b => by
    rw [ordU_len] at hi hj hk
    have a' := ((ordU_tb h hi).1 a).2
    have b' := ((ordU_tb h hj).1 b).2
    exact (ordU_tb h hi).2 ⟨hk, (sub_bits h hi hk).2 fun q hq => (sub_bits h hj hk).1 b' q ((sub_bits h hi hj).1 a' q hq)⟩
  have h3 : aB (ordU U).length (ordU U) = true := aB_iff.2 fun i hi j hj a b => by
    rw [ordU_len] at hi hj
    exact ordU_asym h hi hj ((ordU_tb h hi).1 a).2 ((ordU_tb h hj).1 b).2
  rw [paB, h1, h2, h3]; rfl
theorem inv_tb {x y : Nat} (hy : y < U.length) : tb ((invA (ordU U) (ordU U).length).getD y 0) x = true ↔ x < U.length ∧ bnot (U.getD x 0) (U.getD y 0) = 0 := by
  have h1 := (invA_ok (ordU_rel h) (by rw [ordU_len]; exact h.n30) _ (Nat.le_refl _)).2 y (by rw [ordU_len]; exact hy) x
  rw [h1, ordU_len]
  constructor
  · rintro ⟨hx, a⟩; exact ⟨hx, ((ordU_tb h hx).1 a).2⟩
  · rintro ⟨hx, a⟩; exact ⟨hx, (ordU_tb h hx).2 ⟨hy, a⟩⟩
theorem inv_in {y : Nat} (hy : y < U.length) : InM U.length ((invA (ordU U) (ordU U).length).getD y 0) := by
  have h1 := (invA_ok (ordU_rel h) (by rw [ordU_len]; exact h.n30) _ (Nat.le_refl _)).1.2 y (by rw [ordU_len]; exact hy)
  generalize (invA (ordU U) (ordU U).length).getD y 0 = X at h1 ⊢
  rwa [ordU_len] at h1
theorem ord_in {y : Nat} (hy : y < U.length) : InM U.length ((ordU U).getD y 0) := by
  have h1 := (ordU_rel h).2 y (by rw [ordU_len]; exact hy)
  rwa [ordU_len] at h1
/-- The greatest member of a mask, told by sets. -/
theorem low_inv {m : Int} {k : Nat} (hm : InM U.length m) (hk : k < U.length) (h1 : tb m k = true) (h2 : ∀ z : Nat, tb m z = true → bnot (U.getD z 0) (U.getD k 0) = 0) : lowF (invA (ordU U) (ordU U).length) m = (k : Int) := by
  have h30 := h.n30
  have key : ∀ x : Nat, x < U.length → (lowP (invA (ordU U) (ordU U).length) m x = true ↔ tb m x = true ∧ ∀ z : Nat, tb m z = true → bnot (U.getD z 0) (U.getD x 0) = 0) := fun x hx => by
    rw [lowP, Bool.and_eq_true, decide_eq_true_eq, bnot_sub (n := U.length) (by omega) hm (inv_in h hx)]
    refine and_congr_right fun _ => ⟨fun a z hz => ((inv_tb h hx).1 (a z hz)).2, fun a z hz => (inv_tb h hx).2 ⟨tb_lt hm hz, a z hz⟩⟩
  refine lowF_at (fun x hx => ?_) ((key k hk).2 ⟨h1, h2⟩) (by rw [invA_len, ordU_len]; exact hk)
  cases e : lowP (invA (ordU U) (ordU U).length) m x with
  | false => rfl
  | true =>
    have e2 := (key x (by omega)).1 e
    have := ordU_asym h (by omega) hk (h2 x e2.1) (e2.2 k h1)
    omega
theorem low_ord {m : Int} {k : Nat} (hm : InM U.length m) (hk : k < U.length) (h1 : tb m k = true) (h2 : ∀ z : Nat, tb m z = true → bnot (U.getD k 0) (U.getD z 0) = 0) : lowF (ordU U) m = (k : Int) := by
  have h30 := h.n30
  have key : ∀ x : Nat, x < U.length → (lowP (ordU U) m x = true ↔ tb m x = true ∧ ∀ z : Nat, tb m z = true → bnot (U.getD x 0) (U.getD z 0) = 0) := fun x hx => by
    rw [lowP, Bool.and_eq_true, decide_eq_true_eq, bnot_sub (n := U.length) (by omega) hm (ord_in h hx)]
    refine and_congr_right fun _ => ⟨fun a z hz => ((ordU_tb h hx).1 (a z hz)).2, fun a z hz => (ordU_tb h hx).2 ⟨tb_lt hm hz, a z hz⟩⟩
  refine lowF_at (fun x hx => ?_) ((key k hk).2 ⟨h1, h2⟩) (by rw [ordU_len]; exact hk)
  cases e : lowP (ordU U) m x with
  | false => rfl
  | true =>
    have e2 := (key x (by omega)).1 e
    have := ordU_asym h (by omega) hk (e2.2 k h1) (h2 x e2.1)
    omega
theorem hyM_at {x y k : Nat} (hx : x < U.length) (hy : y < U.length) (hk : k < U.length) (e : U.getD k 0 = band (U.getD x 0) (U.getD y 0)) : hyM (ordU U) x y = (k : Int) := by
  have h30 := h.n30
  have hm := inM_band (n := U.length) (by omega) (inv_in h hx) (inv_in h hy)
  have hb : ∀ z : Nat, tb (band ((invA (ordU U) (ordU U).length).getD x 0) ((invA (ordU U) (ordU U).length).getD y 0)) z = true ↔ z < U.length ∧ bnot (U.getD z 0) (U.getD x 0) = 0 ∧ bnot (U.getD z 0) (U.getD y 0) = 0 := fun z => by
    rw [tb_band (n := U.length) (by omega) (inv_in h hx) (inv_in h hy), Bool.and_eq_true, inv_tb h hx, inv_tb h hy]
    exact ⟨fun a => ⟨a.1.1, a.1.2, a.2.2⟩, fun a => ⟨⟨a.1, a.2.1⟩, a.1, a.2.2⟩⟩
  have hkb : ∀ i, tb (U.getD k 0) i = true ↔ tb (U.getD x 0) i = true ∧ tb (U.getD y 0) i = true := fun i => by
    rw [e, tb_band h.n61 (h.rng x hx) (h.rng y hy), Bool.and_eq_true]
  refine low_inv h hm hk ((hb k).2 ⟨hk, (sub_bits h hk hx).2 fun i a => ((hkb i).1 a).1, (sub_bits h hk hy).2 fun i a => ((hkb i).1 a).2⟩) fun z hz => ?_
  obtain ⟨hz, a, b⟩ := (hb z).1 hz
  exact (sub_bits h hz hk).2 fun i q => (hkb i).2 ⟨(sub_bits h hz hx).1 a i q, (sub_bits h hz hy).1 b i q⟩
theorem hyJ_at {x y k : Nat} (hx : x < U.length) (hy : y < U.length) (hk : k < U.length) (e : U.getD k 0 = bor (U.getD x 0) (U.getD y 0)) : hyJ (ordU U) x y = (k : Int) := by
  have h30 := h.n30
  have hm := inM_band (n := U.length) (by omega) (ord_in h hx) (ord_in h hy)
  have hb : ∀ z : Nat, tb (band ((ordU U).getD x 0) ((ordU U).getD y 0)) z = true ↔ z < U.length ∧ bnot (U.getD x 0) (U.getD z 0) = 0 ∧ bnot (U.getD y 0) (U.getD z 0) = 0 := fun z => by
    rw [tb_band (n := U.length) (by omega) (ord_in h hx) (ord_in h hy), Bool.and_eq_true, ordU_tb h hx, ordU_tb h hy]
    exact ⟨fun a => ⟨a.1.1, a.1.2, a.2.2⟩, fun a => ⟨⟨a.1, a.2.1⟩, a.1, a.2.2⟩⟩
  have hkb : ∀ i, tb (U.getD k 0) i = true ↔ tb (U.getD x 0) i = true ∨ tb (U.getD y 0) i = true := fun i => by
    rw [e, tb_bor h.n61 (h.rng x hx) (h.rng y hy), Bool.or_eq_true]
  refine low_ord h hm hk ((hb k).2 ⟨hk, (sub_bits h hx hk).2 fun i a => (hkb i).2 (.inl a), (sub_bits h hy hk).2 fun i a => (hkb i).2 (.inr a)⟩) fun z hz => ?_
  obtain ⟨hz, a, b⟩ := (hb z).1 hz
  exact (sub_bits h hk hz).2 fun i q => ((hkb i).1 q).elim ((sub_bits h hx hz).1 a i) ((sub_bits h hy hz).1 b i)
theorem hyI_at {x y k : Nat} (hx : x < U.length) (hy : y < U.length) (hk : k < U.length) (e : U.getD k 0 = J (U.getD x 0) (U.getD y 0)) : hyI (ordU U) x y = (k : Int) := by
  have h30 := h.n30
  have hm : InM U.length (hyC (ordU U) x y (ordU U).length) := by rw [ordU_len]; exact (mkB_ok _ (by omega) _ (Nat.le_refl _)).1
  have hb : ∀ z : Nat, tb (hyC (ordU U) x y (ordU U).length) z = true ↔ z < U.length ∧ bnot (U.getD z 0) (U.getD k 0) = 0 := fun z => by
    rw [hyC, (mkB_ok _ (N := (ordU U).length) (by rw [ordU_len]; omega) _ (Nat.le_refl _)).2, Bool.and_eq_true, decide_eq_true_eq, ordU_len]
    refine and_congr_right fun hz => ?_
    obtain ⟨q, hq, eq⟩ := h.cap z x hz hx
    rw [hyM_at h hz hx hq eq, Int.toNat_natCast, ← ordU_len U, inv_tb h hy, eq, e]
    exact ⟨fun a => (h.adj x y z hx hy hz).1 a.2, fun a => ⟨hq, (h.adj x y z hx hy hz).2 a⟩⟩
  exact low_inv h hm hk ((hb k).2 ⟨hk, (sub_bits h hk hk).2 fun _ a => a⟩) fun z hz => ((hb z).1 hz).2
theorem sys_hy : HyOK (ordU U) := by
  have h30 := h.n30
  have hl := ordU_len U
  have hfm : InM U.length (fullM U.length) := inM_full (by omega)
  have hft : ∀ z : Nat, tb (fullM U.length) z = decide (z < U.length) := fun z => tb_full (by omega) z
  refine ⟨by rw [hl]; exact h.n0, by rw [hl]; exact h30, ordU_rel h, ordU_pa h, fun x y hx hy => ?_, fun x y hx hy => ?_, fun x y hx hy => ?_, ?_, ?_⟩
  · rw [hl] at hx hy
    obtain ⟨k, hk, e⟩ := h.cap x y hx hy
    rw [hyM_at h hx hy hk e]; omega
  · rw [hl] at hx hy
    obtain ⟨k, hk, e⟩ := h.cup x y hx hy
    rw [hyJ_at h hx hy hk e]; omega
  · rw [hl] at hx hy
    obtain ⟨k, hk, e⟩ := h.imp x y hx hy
    rw [hyI_at h hx hy hk e]; omega
  · obtain ⟨k, hk, e⟩ := h.bot
    rw [hl, low_ord h hfm hk (by rw [hft]; exact decide_eq_true hk) fun z hz => e z (tb_lt hfm hz)]; omega
  · obtain ⟨k, hk, e⟩ := h.top
    have e2 : fullM (ordU U).length = fullM U.length := by rw [hl]
    rw [e2, low_inv h hfm hk (by rw [hft]; exact decide_eq_true hk) fun z hz => e z (tb_lt hfm hz)]; omega
end
/-- Implication of upsets. -/
def uJ (n : Int) (xs : List Int) (a b : Int) : Int := boxB xs (bor (bnot ((shl64 1 n) - 1) a) b) xs.length
theorem up_sys {n : Int} {xs : List Int} (hP : okPo n xs = true) (h30 : (upL n xs).length ≤ 30) : SysU n.toNat (upL n xs) (uJ n xs) := by
  obtain ⟨h0, h8, hl, hr, rf, tr, asy⟩ := hq_po_rel hP
  have eU : upR n xs = upL n xs := if_pos hP
  have mem : ∀ i : Nat, i < (upL n xs).length → (upL n xs).getD i 0 ∈ upR n xs := fun i hi => by
    rw [eU, List.getD_eq_getElem?_getD, List.getElem?_eq_getElem hi]; exact List.getElem_mem _
  have idx : ∀ m ∈ upR n xs, ∃ k : Nat, k < (upL n xs).length ∧ (upL n xs).getD k 0 = m := fun m hm => by
    rw [eU] at hm
    obtain ⟨k, hk, e⟩ := List.getElem_of_mem hm
    exact ⟨k, hk, by rw [List.getD_eq_getElem?_getD, List.getElem?_eq_getElem hk]; exact e⟩
  have rng : ∀ i : Nat, i < (upL n xs).length → InM n.toNat ((upL n xs).getD i 0) := fun i hi => ((hq_up_iff hP).1 (mem i hi)).1
  have hz : (0 : Int) ∈ upR n xs := (hq_up_iff hP).2 ⟨inM_zero _, fun i j h _ => by rw [tb_zero] at h; cases h⟩
  have hnn : ((n.toNat : Nat) : Int) = n := by omega
  have hfi : InM n.toNat ((shl64 1 n) - 1) := by have := inM_full (n := n.toNat) (by omega); rwa [hnn] at this
  have hft : ∀ i, tb ((shl64 1 n) - 1) i = decide (i < n.toNat) := fun i => by have := tb_full (n := n.toNat) (by omega) i; rwa [hnn] at this
  have hf : (shl64 1 n) - 1 ∈ upR n xs := (hq_up_iff hP).2 ⟨hfi, fun i j a b => by
    rw [hft] at a ⊢
    exact decide_eq_true (tb_lt (hr.2 i (of_decide_eq_true a)) b)⟩
  have cmp : ∀ a, InM n.toNat a → InM n.toNat (bnot ((shl64 1 n) - 1) a) ∧ ∀ i, tb (bnot ((shl64 1 n) - 1) a) i = (decide (i < n.toNat) && !tb a i) := fun a ha => ⟨inM_bnot (by omega) hfi ha, fun i => by rw [tb_bnot (n := n.toNat) (by omega) hfi ha, hft]⟩
  refine ⟨by omega, ?_, h30, rng, fun i j hi hj e => ?_, fun i j hi hj => idx _ (hq_up_and hP (mem i hi) (mem j hj)), fun i j hi hj => idx _ (hq_up_or hP (mem i hi) (mem j hj)), fun i j hi hj => idx _ (hq_box_up hP (inM_bor (by omega) (cmp _ (rng i hi)).1 (rng j hj))), fun i j z hi hj hz' => ?_, ?_, ?_⟩
  · obtain ⟨k, hk, _⟩ := idx 0 hz; omega
  · have hn : (upL n xs).Nodup := hq_upTo_nodup _
    have e1 : (upL n xs)[i] = (upL n xs)[j] := by
      rw [List.getD_eq_getElem?_getD, List.getD_eq_getElem?_getD, List.getElem?_eq_getElem hi, List.getElem?_eq_getElem hj] at e
      exact e
    rcases Nat.lt_trichotomy i j with hlt | hlt | hlt
    · exact absurd e1 (List.pairwise_iff_getElem.1 hn i j hi hj hlt)
    · exact hlt
    · exact absurd e1.symm (List.pairwise_iff_getElem.1 hn j i hj hi hlt)
  · have ha := rng i hi
    have hb := rng j hj
    have hc := rng z hz'
    have hzu := ((hq_up_iff hP).1 (mem z hz')).2
    have hm := inM_bor (n := n.toNat) (by omega) (cmp _ ha).1 hb
    obtain ⟨b1, b2⟩ := hq_box_po hP hm
    rw [bnot_sub (n := n.toNat) (by omega) (inM_band (by omega) hc ha) hb, uJ, bnot_sub (n := n.toNat) (by omega) hc b1]
    constructor
    · intro a k hk
      refine (b2 k).2 ⟨tb_lt hc hk, fun q hq => ?_⟩
      have hzq := hzu k q hk hq
      rw [tb_bor (n := n.toNat) (by omega) (cmp _ ha).1 hb, (cmp _ ha).2, Bool.or_eq_true, Bool.and_eq_true, decide_eq_true_eq]
      cases e : tb ((upL n xs).getD i 0) q with
      | false => exact .inl ⟨tb_lt hc hzq, rfl⟩
      | true => exact .inr (a q (by rw [tb_band (n := n.toNat) (by omega) hc ha, hzq, e]; rfl))
    · intro a k hk
      rw [tb_band (n := n.toNat) (by omega) hc ha, Bool.and_eq_true] at hk
      have h1 := ((b2 k).1 (a k hk.1)).2 k (rf k (tb_lt hc hk.1))
      rw [tb_bor (n := n.toNat) (by omega) (cmp _ ha).1 hb, (cmp _ ha).2, hk.2] at h1
      simpa using h1
  · obtain ⟨k, hk, e⟩ := idx 0 hz
    refine ⟨k, hk, fun z hz' => ?_⟩
    rw [e, bnot_sub (n := n.toNat) (by omega) (inM_zero _) (rng z hz')]
    intro i a; rw [tb_zero] at a; cases a
  · obtain ⟨k, hk, e⟩ := idx _ hf
    refine ⟨k, hk, fun z hz' => ?_⟩
    rw [e, bnot_sub (n := n.toNat) (by omega) (rng z hz') hfi]
    intro i a; rw [hft]; exact decide_eq_true (tb_lt (rng z hz') a)
theorem up_hy {n : Int} {xs : List Int} (hP : okPo n xs = true) (h30 : (upL n xs).length ≤ 30) : HyOK (ordU (upL n xs)) := sys_hy (up_sys hP h30)

end Go.Proofs.Ytalfakdiinhdnaa


/-! The reference's algebra of an order; upset algebras of both programs. -/
namespace Go.Proofs.Ytalfakdiinhdnaa
open Go.RowKit Go.Abs

theorem rowR_last {f : Nat → Int} {y : Nat} {v : Int} (h : v = f y) : (rowR f y ++ [v]).getD y 0 = f y := by
  rw [h, rowR_snoc, rowR_get (by omega)]
theorem rowR_lenS {f : Nat → Int} {y : Nat} {v : Int} : (rowR f y ++ [v]).length = y + 1 := by simp [rowR]
theorem ordT_zero {U : List Int} : List.replicate U.length 0 = rowT (fun x => mkB (subU U x) U.length) U.length 0 := rowT_zero
/-- Row x under way. -/
def ordW (U : List Int) (x y : Nat) : List Int := (rowT (fun x => mkB (subU U x) U.length) U.length x).set x (mkB (subU U x) y)
theorem ordW_len (U : List Int) (x y : Nat) : (ordW U x y).length = U.length := by simp [ordW, rowT_len]
theorem ordW_get {U : List Int} {x y : Nat} (h : x < U.length) : (ordW U x y).getD x 0 = mkB (subU U x) y := by rw [ordW, getD_set_if _ _ _ _ _ (by rw [rowT_len]; exact h), if_pos rfl]
theorem ordW_zero {U : List Int} {x : Nat} (h : x < U.length) : rowT (fun x => mkB (subU U x) U.length) U.length x = ordW U x 0 := by
  refine rowN_ext (rowT_len _ _ _) (ordW_len _ _ _) fun j hj => ?_
  rw [ordW, getD_set_if _ _ _ _ _ (by rw [rowT_len]; exact h)]
  by_cases e : x = j
  · subst e; rw [if_pos rfl, rowT_get hj, if_neg (by omega)]; rfl
  · rw [if_neg e]
theorem ordW_yes {U : List Int} {x y : Nat} (hx : x < U.length) (h : bnot (U.getD x 0) (U.getD y 0) = 0) : (ordW U x y).set x (bor ((ordW U x y).getD x 0) (shl64 1 (y : Int))) = ordW U x (y + 1) := by
  rw [ordW_get hx, ordW, List.set_set, ordW, mkB_yes (P := subU U x) (decide_eq_true h)]
theorem ordW_no {U : List Int} {x y : Nat} (h : ¬ bnot (U.getD x 0) (U.getD y 0) = 0) : ordW U x y = ordW U x (y + 1) := by
  rw [ordW, ordW, mkB_no (P := subU U x) (k := y) (decide_eq_false h)]
theorem ordW_end {U : List Int} {x y : Nat} (hx : x < U.length) (hy : y = U.length) : ordW U x y = rowT (fun x => mkB (subU U x) U.length) U.length (x + 1) := by
  subst hy; exact rowT_set hx rfl
theorem ordU_row {U : List Int} {x : Nat} (h : x = U.length) : rowT (fun x => mkB (subU U x) U.length) U.length x = ordU U := rowT_end h
theorem ordU_rowR {U : List Int} {x : Nat} (h : x = U.length) : rowR (fun x => mkB (subU U x) U.length) x = ordU U := by rw [h]; rfl
theorem mkS_yes {U : List Int} {x y : Nat} (h : bnot (U.getD x 0) (U.getD y 0) = 0) : bor (mkB (subU U x) y) (shl64 1 (y : Int)) = mkB (subU U x) (y + 1) := mkB_yes (decide_eq_true h)
theorem mkS_no {U : List Int} {x y : Nat} (h : ¬ bnot (U.getD x 0) (U.getD y 0) = 0) : mkB (subU U x) y = mkB (subU U x) (y + 1) := mkB_no (decide_eq_false h)
theorem mkS_row {U : List Int} {x y : Nat} (h : y = U.length) : rowR (fun x => mkB (subU U x) U.length) x ++ [mkB (subU U x) y] = rowR (fun x => mkB (subU U x) U.length) (x + 1) := by subst h; exact rowR_snoc

set_option maxHeartbeats 1000000 in
theorem l18Build_c (xs : List Int) (hH : HyOK xs) : CallA Try.prog 48 [LI xs] (.tup [.agg [ownA eLI 22 1 (tabR (hyM xs) xs.length xs.length), ownA eLI 22 1 (tabR (hyJ xs) xs.length xs.length), ownA eLI 22 1 (tabR (hyI xs) xs.length xs.length), AI (lowF xs (fullM xs.length)), AI (lowF (invA xs xs.length) (fullM xs.length))], .bool true]) := by
  have hn := hH.n30
  have hn0 := hH.n0
  have hrel := hH.rel
  have hpa := hH.pa
  have hil := invA_len xs xs.length
  have hir := (inv_rel hH).1
  have hxi := fun (i : Nat) (hi : i < xs.length) => hrel.2 i hi
  have hbi := fun (i : Nat) (hi : i < xs.length) => hir.2 i hi
  have hrl : okRl (xs.length : Int) xs := okRl_of hn hrel
  have hfl : InM xs.length (fullM xs.length) := inM_full (by omega)
  have hsh : 1 ≤ shl64 1 (xs.length : Int) ∧ shl64 1 (xs.length : Int) ≤ 4611686018427387904 := shl_rng _ (by omega) (by omega)
  have hfl61 := inM_mono (n' := 61) (by omega) hfl
  have hfm : InM 61 ((shl64 1 (xs.length : Int)) - 1) := hfl61
  have hbo : 0 ≤ lowF xs ((shl64 1 (xs.length : Int)) - 1) := hH.bo
  have hto : 0 ≤ lowF (invA xs xs.length) ((shl64 1 (xs.length : Int)) - 1) := hH.to
  have hpa' : paB xs.length xs = true := hpa
  refine CallA.of Try.func48 rfl (by kernel_rfl) ?_
  refine R.go 17 ?_
  by_cases c1 : (xs.length : Int) = 0
  · refine R.skp (decide ((xs.length : Int) = 0)) false (by kernel_rfl) (dT c1) (by kernel_rfl) ?_
    refine R.skp (decide ((xs.length : Int) = 0)) false (by kernel_rfl) (dT c1) (by kernel_rfl) ?_
    refine R.skp (decide ((xs.length : Int) = 0)) false (by kernel_rfl) (dT c1) (by kernel_rfl) ?_
    refine R.pick (decide ((xs.length : Int) = 0)) true (by kernel_rfl) (dT c1) (by kernel_rfl) ?_
    refine R.go 8 (R.nilB 0 0 22 1 (by kernel_rfl) ?_)
    refine R.nilB 0 1 22 1 (by kernel_rfl) ?_
    refine R.nilB 0 2 22 1 (by kernel_rfl) ?_
    exact R.retE (.tup [.agg [ownA eLI 22 1 [], ownA eLI 22 1 [], ownA eLI 22 1 [], AI 0, AI 0], .bool false]) (by kernel_rfl) (by kernel_rfl) (by first | (first | (rw [show x = xs.length by omega, show u = xs.length by omega]; rfl) | (exfalso; simp_all; done)) | (exfalso; omega))
  · refine R.want (decide ((xs.length : Int) = 0)) false (by kernel_rfl) (dF c1) ?_
    refine R.go 1 (R.want (decide ((xs.length : Int) = 0)) false (by kernel_rfl) (dF c1) ?_)
    refine R.call true (l18Partial_c xs (by first | omega | (simp <;> omega)) (by assumption)) (by kernel_rfl) rfl (by kernel_rfl) ?_
    refine R.want (decide ((xs.length : Int) = 0)) false (by kernel_rfl) (dF c1) ?_
    refine R.go 1 (R.pick (decide ((xs.length : Int) = 0)) false (by kernel_rfl) (dF c1) (by kernel_rfl) ?_)
    refine R.go 1 (R.condM (paB xs.length xs) (by kernel_rfl) (fun c2 => ?_) (fun c2 => ?_))
    · refine R.go 6 (R.nilB 0 0 22 1 (by kernel_rfl) ?_)
      refine R.nilB 0 1 22 1 (by kernel_rfl) ?_
      refine R.nilB 0 2 22 1 (by kernel_rfl) ?_
      exact R.retE (.tup [.agg [ownA eLI 22 1 [], ownA eLI 22 1 [], ownA eLI 22 1 [], AI 0, AI 0], .bool false]) (by kernel_rfl) (by kernel_rfl) (by first | (first | (rw [show x = xs.length by omega, show u = xs.length by omega]; rfl) | (exfalso; simp_all; done)) | (exfalso; omega))
    · refine R.go 4 (R.call true (l01Inverse_c xs (by first | omega | (simp <;> omega)) (by assumption)) (by kernel_rfl) rfl (by kernel_rfl) ?_)
      refine R.go 6 (R.call true (l01Full_c xs.length (by first | omega | (simp <;> omega)) (by first | omega | (simp <;> omega))) (by kernel_rfl) rfl (by kernel_rfl) ?_)
      refine R.call true (l18Low_c xs ((shl64 1 xs.length) - 1) (by first | omega | (simp <;> omega)) (by first | assumption | exact inM_mono (by omega) (by assumption))) (by kernel_rfl) rfl (by kernel_rfl) ?_
      refine R.go 2 (R.call true (l01Full_c xs.length (by first | omega | (simp <;> omega)) (by first | omega | (simp <;> omega))) (by kernel_rfl) rfl (by kernel_rfl) ?_)
      refine R.call false (l18Low_c (invA xs xs.length) ((shl64 1 xs.length) - 1) (by first | omega | (simp <;> omega)) (by first | assumption | exact inM_mono (by omega) (by assumption))) (by kernel_rfl) rfl (by kernel_rfl) ?_
      refine R.go 7 (R.frz 1 (by kernel_rfl) ?_)
      refine R.go 4 ?_
      by_cases c3 : (lowF xs ((shl64 1 xs.length) - 1)) < 0
      · refine R.skp (decide ((lowF xs ((shl64 1 xs.length) - 1)) < 0)) false (by kernel_rfl) (dT c3) (by kernel_rfl) ?_
        refine R.skp (decide ((lowF xs ((shl64 1 xs.length) - 1)) < 0)) false (by kernel_rfl) (dT c3) (by kernel_rfl) ?_
        refine R.skp (decide ((lowF xs ((shl64 1 xs.length) - 1)) < 0)) false (by kernel_rfl) (dT c3) (by kernel_rfl) ?_
        refine R.pick (decide ((lowF xs ((shl64 1 xs.length) - 1)) < 0)) true (by kernel_rfl) (dT c3) (by kernel_rfl) ?_
        refine R.go 8 (R.nilB 0 0 22 1 (by kernel_rfl) ?_)
        refine R.nilB 0 1 22 1 (by kernel_rfl) ?_
        refine R.nilB 0 2 22 1 (by kernel_rfl) ?_
        exact R.retE (.tup [.agg [ownA eLI 22 1 [], ownA eLI 22 1 [], ownA eLI 22 1 [], AI 0, AI 0], .bool false]) (by kernel_rfl) (by kernel_rfl) (by first | (first | (rw [show x = xs.length by omega, show u = xs.length by omega]; rfl) | (exfalso; simp_all; done)) | (exfalso; omega))
      · refine R.want (decide ((lowF xs ((shl64 1 xs.length) - 1)) < 0)) false (by kernel_rfl) (dF c3) ?_
        refine R.go 1 (R.want (decide ((lowF xs ((shl64 1 xs.length) - 1)) < 0)) false (by kernel_rfl) (dF c3) ?_)
        refine R.go 1 (R.want (decide ((lowF xs ((shl64 1 xs.length) - 1)) < 0)) false (by kernel_rfl) (dF c3) ?_)
        refine R.go 1 (R.pick (decide ((lowF xs ((shl64 1 xs.length) - 1)) < 0)) false (by kernel_rfl) (dF c3) (by kernel_rfl) ?_)
        refine R.go 1 (R.cond ((lowF (invA xs xs.length) ((shl64 1 xs.length) - 1)) < 0) (by kernel_rfl) (fun c4 => ?_) (fun c4 => ?_))
        · refine R.go 6 (R.nilB 0 0 22 1 (by kernel_rfl) ?_)
          refine R.nilB 0 1 22 1 (by kernel_rfl) ?_
          refine R.nilB 0 2 22 1 (by kernel_rfl) ?_
          exact R.retE (.tup [.agg [ownA eLI 22 1 [], ownA eLI 22 1 [], ownA eLI 22 1 [], AI 0, AI 0], .bool false]) (by kernel_rfl) (by kernel_rfl) (by first | (first | (rw [show x = xs.length by omega, show u = xs.length by omega]; rfl) | (exfalso; simp_all; done)) | (exfalso; omega))
        · refine R.go 7 (R.nilB 2 0 22 1 (by kernel_rfl) ?_)
          refine R.nilB 2 1 22 1 (by kernel_rfl) ?_
          refine R.loop ((fun | (x, A, O) => (⟨(frm 168 [(0, LI xs), (2, .ptr 0 0), (4, AI xs.length), (5, LI (invA xs xs.length)), (6, .ptr 1 0), (7, AI (x : Int))]), [.box 28 [.nil, .nil, .nil, AI 0, AI 0], .box 28 [.ref 2, .ref 3, .nil, AI (lowF xs ((shl64 1 xs.length) - 1)), AI (lowF (invA xs xs.length) ((shl64 1 xs.length) - 1))], rowA eLI 22 1 A, rowA eLI 22 1 O]⟩ : St) : Nat × (List (List Int)) × (List (List Int)) → St)) (fun | (x, A, O) => (x ≤ xs.length) ∧ (A = tabR (hyM xs) xs.length x) ∧ (O = tabR (hyJ xs) xs.length x)) (fun | (x, A, O) => xs.length - x) (0, [], []) [0, 2, 4, 5, 6, 7] (some [0, 2, 3, 4]) (by kernel_rfl) (by kernel_rfl) (by kernel_rfl) ⟨(by omega), (by rfl), (by rfl)⟩ ?_
          rintro ⟨x, A, O⟩ ⟨h8_1, rfl, rfl⟩ R5 N6
          have hal := tabR_len (hyM xs) xs.length x
          have hol := tabR_len (hyJ xs) xs.length x
          refine R.go 7 (R.cond ((x : Int) < (xs.length : Int)) (by kernel_rfl) (fun c9 => ?_) (fun c9 => ?_))
          · refine R.go 16 (R.loop ((fun | (y, a, o) => (⟨(frm 168 [(0, LI xs), (2, .ptr 0 0), (4, AI xs.length), (5, LI (invA xs xs.length)), (6, .ptr 1 0), (7, AI (x : Int)), (8, .ref 4), (9, .ref 5), (10, AI (y : Int))]), [.box 28 [.nil, .nil, .nil, AI 0, AI 0], .box 28 [.ref 2, .ref 3, .nil, AI (lowF xs ((shl64 1 xs.length) - 1)), AI (lowF (invA xs xs.length) ((shl64 1 xs.length) - 1))], rowA eLI 22 1 (tabR (hyM xs) xs.length x), rowA eLI 22 1 (tabR (hyJ xs) xs.length x), rowA eI 2 1 a, rowA eI 2 1 o]⟩ : St) : Nat × (List Int) × (List Int) → St)) (fun | (y, a, o) => (y ≤ xs.length) ∧ (a = rowR (hyM xs x) y) ∧ (o = rowR (hyJ xs x) y)) (fun | (y, a, o) => xs.length - y) (0, [], []) [0, 2, 4, 5, 6, 7, 8, 9, 10] none (by kernel_rfl) (by kernel_rfl) (by kernel_rfl) ⟨(by omega), (by rfl), (by rfl)⟩ ?_)
            rintro ⟨y, a, o⟩ ⟨h13_1, rfl, rfl⟩ R10 N11
            have har := rowR_len (hyM xs x) y
            have hor := rowR_len (hyJ xs x) y
            refine R.go 7 (R.cond ((y : Int) < (xs.length : Int)) (by kernel_rfl) (fun c14 => ?_) (fun c14 => ?_))
            · refine R.go 4 ?_
              have hbx := hbi x (by omega)
              have hby := hbi y (by omega)
              have hmm := inM_band (n := xs.length) (by omega) hbx hby
              have hlm := hH.me x y (by omega) (by omega)
              have hxx := hxi x (by omega)
              have hxy := hxi y (by omega)
              have hjj := inM_band (n := xs.length) (by omega) hxx hxy
              have hlj := hH.jo x y (by omega) (by omega)
              have hmm61 := inM_mono (n' := 61) (by omega) hmm
              have hjj61 := inM_mono (n' := 61) (by omega) hjj
              refine R.meet (⟨(frm 168 [(0, LI xs), (2, .ptr 0 0), (4, AI xs.length), (5, LI (invA xs xs.length)), (6, .ptr 1 0), (7, AI (x : Int)), (8, .ref 4), (9, .ref 5), (10, AI (y : Int)), (54, AI (y : Int)), (55, AI xs.length), (56, .bool (decide ((y : Int) < (xs.length : Int)))), (60, LI (invA xs xs.length)), (61, LI (invA xs xs.length)), (62, AI (x : Int)), (63, .rptr [AI ((invA xs xs.length).getD x 0)]), (64, AI ((invA xs xs.length).getD x 0)), (65, LI (invA xs xs.length)), (66, AI (y : Int)), (67, .rptr [AI ((invA xs xs.length).getD y 0)]), (68, AI ((invA xs xs.length).getD y 0)), (69, AI (band ((invA xs xs.length).getD x 0) ((invA xs xs.length).getD y 0))), (70, AI (lowF (invA xs xs.length) (band ((invA xs xs.length).getD x 0) ((invA xs xs.length).getD y 0)))), (71, LI [lowF (invA xs xs.length) (band ((invA xs xs.length).getD x 0) ((invA xs xs.length).getD y 0))]), (72, .ref 4)]), [.box 28 [.nil, .nil, .nil, AI 0, AI 0], .box 28 [.ref 2, .ref 3, .nil, AI (lowF xs ((shl64 1 xs.length) - 1)), AI (lowF (invA xs xs.length) ((shl64 1 xs.length) - 1))], rowA eLI 22 1 (tabR (hyM xs) xs.length x), rowA eLI 22 1 (tabR (hyJ xs) xs.length x), rowA eI 2 1 ((rowR (hyM xs x) y) ++ [lowF (invA xs xs.length) (band ((invA xs xs.length).getD x 0) ((invA xs xs.length).getD y 0))]), rowA eI 2 1 (rowR (hyJ xs x) y)]⟩ : St) (by kernel_rfl) ?_ ?_
              · refine R.any (by decide +kernel) (by kernel_rfl) ?_
                refine R.anyF 0 (by kernel_rfl) (np_meet _) ?_
                refine R.anyF 1 (by kernel_rfl) (np_meet _) ?_
                refine R.anyF 2 (by kernel_rfl) (np_meet _) ?_
                refine R.anyF 3 (by kernel_rfl) (np_meet _) ?_
                refine R.anyF 6 (by kernel_rfl) (np_meet _) ?_
                refine R.anyF 7 (by kernel_rfl) (np_meet _) ?_
                refine R.anyP 4 eI (invA xs xs.length) 0 x (x : Int) (by kernel_rfl) rfl eI_len (by omega) (np_meet _) ?_
                refine R.anyP 8 eI (invA xs xs.length) 0 y (y : Int) (by kernel_rfl) rfl eI_len (by omega) (np_meet _) ?_
                refine R.any2 5 9 (by kernel_rfl) (by kernel_rfl) ?_ ?_
                · refine R.go 2 (R.any1 9 (by kernel_rfl) (by kernel_rfl) ?_)
                  refine R.go 2 (R.any1 10 (by kernel_rfl) (by kernel_rfl) ?_)
                  refine R.go 2 (R.any1 11 (by kernel_rfl) (by kernel_rfl) ?_)
                  refine R.call true (l18Low_c (invA xs xs.length) (band ((invA xs xs.length).getD x 0) ((invA xs xs.length).getD y 0)) (by first | omega | (simp <;> omega)) (by first | assumption | exact inM_mono (by omega) (by assumption))) (by kernel_rfl) rfl (by kernel_rfl) ?_
                  refine R.go 1 (R.any1 12 (by kernel_rfl) (by kernel_rfl) ?_)
                  refine R.lit (s := 1) (n := 1) (cs := rows eI [lowF (invA xs xs.length) (band ((invA xs xs.length).getD x 0) ((invA xs xs.length).getD y 0))]) (by kernel_rfl) (by kernel_rfl) ?_
                  refine R.go 1 (R.any1 13 (by kernel_rfl) (by kernel_rfl) ?_)
                  refine R.app eI (rowR (hyM xs x) y) [lowF (invA xs xs.length) (band ((invA xs xs.length).getD x 0) ((invA xs xs.length).getD y 0))] 4 2 1 8 (by kernel_rfl) eI_one (by decide) (by first | omega | (simp <;> omega)) (by kernel_rfl) ?_
                  refine R.go 1 (R.any1 14 (by kernel_rfl) (by kernel_rfl) ?_)
                  refine R.go 2 (R.any0 (by kernel_rfl) ?_)
                  exact R.met (by kernel_rfl) (by kernel_rfl)
                · refine R.go 2 (R.any1 5 (by kernel_rfl) (by kernel_rfl) ?_)
                  refine R.go 2 (R.any1 10 (by kernel_rfl) (by kernel_rfl) ?_)
                  refine R.go 2 (R.any1 11 (by kernel_rfl) (by kernel_rfl) ?_)
                  refine R.call true (l18Low_c (invA xs xs.length) (band ((invA xs xs.length).getD x 0) ((invA xs xs.length).getD y 0)) (by first | omega | (simp <;> omega)) (by first | assumption | exact inM_mono (by omega) (by assumption))) (by kernel_rfl) rfl (by kernel_rfl) ?_
                  refine R.go 1 (R.any1 12 (by kernel_rfl) (by kernel_rfl) ?_)
                  refine R.lit (s := 1) (n := 1) (cs := rows eI [lowF (invA xs xs.length) (band ((invA xs xs.length).getD x 0) ((invA xs xs.length).getD y 0))]) (by kernel_rfl) (by kernel_rfl) ?_
                  refine R.go 1 (R.any1 13 (by kernel_rfl) (by kernel_rfl) ?_)
                  refine R.app eI (rowR (hyM xs x) y) [lowF (invA xs xs.length) (band ((invA xs xs.length).getD x 0) ((invA xs xs.length).getD y 0))] 4 2 1 8 (by kernel_rfl) eI_one (by decide) (by first | omega | (simp <;> omega)) (by kernel_rfl) ?_
                  refine R.go 1 (R.any1 14 (by kernel_rfl) (by kernel_rfl) ?_)
                  refine R.go 2 (R.any0 (by kernel_rfl) ?_)
                  exact R.met (by kernel_rfl) (by kernel_rfl)
              · refine R.go 1 (R.meet (⟨(frm 168 [(0, LI xs), (2, .ptr 0 0), (4, AI xs.length), (5, LI (invA xs xs.length)), (6, .ptr 1 0), (7, AI (x : Int)), (8, .ref 4), (9, .ref 5), (10, AI (y : Int)), (54, AI (y : Int)), (55, AI xs.length), (56, .bool (decide ((y : Int) < (xs.length : Int)))), (60, LI (invA xs xs.length)), (61, LI (invA xs xs.length)), (62, AI (x : Int)), (63, .rptr [AI ((invA xs xs.length).getD x 0)]), (64, AI ((invA xs xs.length).getD x 0)), (65, LI (invA xs xs.length)), (66, AI (y : Int)), (67, .rptr [AI ((invA xs xs.length).getD y 0)]), (68, AI ((invA xs xs.length).getD y 0)), (69, AI (band ((invA xs xs.length).getD x 0) ((invA xs xs.length).getD y 0))), (70, AI (lowF (invA xs xs.length) (band ((invA xs xs.length).getD x 0) ((invA xs xs.length).getD y 0)))), (71, LI [lowF (invA xs xs.length) (band ((invA xs xs.length).getD x 0) ((invA xs xs.length).getD y 0))]), (72, .ref 4), (74, LI xs), (75, LI xs), (76, AI (x : Int)), (77, .rptr [AI (xs.getD x 0)]), (78, AI (xs.getD x 0)), (79, LI xs), (80, AI (y : Int)), (81, .rptr [AI (xs.getD y 0)]), (82, AI (xs.getD y 0)), (83, AI (band (xs.getD x 0) (xs.getD y 0))), (84, AI (lowF xs (band (xs.getD x 0) (xs.getD y 0)))), (85, LI [lowF xs (band (xs.getD x 0) (xs.getD y 0))]), (86, .ref 5)]), [.box 28 [.nil, .nil, .nil, AI 0, AI 0], .box 28 [.ref 2, .ref 3, .nil, AI (lowF xs ((shl64 1 xs.length) - 1)), AI (lowF (invA xs xs.length) ((shl64 1 xs.length) - 1))], rowA eLI 22 1 (tabR (hyM xs) xs.length x), rowA eLI 22 1 (tabR (hyJ xs) xs.length x), rowA eI 2 1 ((rowR (hyM xs x) y) ++ [lowF (invA xs xs.length) (band ((invA xs xs.length).getD x 0) ((invA xs xs.length).getD y 0))]), rowA eI 2 1 ((rowR (hyJ xs x) y) ++ [lowF xs (band (xs.getD x 0) (xs.getD y 0))])]⟩ : St) (by kernel_rfl) ?_ ?_)
                · refine R.any (by decide +kernel) (by kernel_rfl) ?_
                  refine R.anyF 0 (by kernel_rfl) (np_meet _) ?_
                  refine R.anyF 1 (by kernel_rfl) (np_meet _) ?_
                  refine R.anyF 2 (by kernel_rfl) (np_meet _) ?_
                  refine R.anyF 3 (by kernel_rfl) (np_meet _) ?_
                  refine R.anyF 6 (by kernel_rfl) (np_meet _) ?_
                  refine R.anyF 7 (by kernel_rfl) (np_meet _) ?_
                  refine R.anyP 4 eI xs 0 x (x : Int) (by kernel_rfl) rfl eI_len (by omega) (np_meet _) ?_
                  refine R.anyP 8 eI xs 0 y (y : Int) (by kernel_rfl) rfl eI_len (by omega) (np_meet _) ?_
                  refine R.any2 5 9 (by kernel_rfl) (by kernel_rfl) ?_ ?_
                  · refine R.go 2 (R.any1 9 (by kernel_rfl) (by kernel_rfl) ?_)
                    refine R.go 2 (R.any1 10 (by kernel_rfl) (by kernel_rfl) ?_)
                    refine R.go 2 (R.any1 11 (by kernel_rfl) (by kernel_rfl) ?_)
                    refine R.call true (l18Low_c xs (band (xs.getD x 0) (xs.getD y 0)) (by first | omega | (simp <;> omega)) (by first | assumption | exact inM_mono (by omega) (by assumption))) (by kernel_rfl) rfl (by kernel_rfl) ?_
                    refine R.go 1 (R.any1 12 (by kernel_rfl) (by kernel_rfl) ?_)
                    refine R.lit (s := 1) (n := 1) (cs := rows eI [lowF xs (band (xs.getD x 0) (xs.getD y 0))]) (by kernel_rfl) (by kernel_rfl) ?_
                    refine R.go 1 (R.any1 13 (by kernel_rfl) (by kernel_rfl) ?_)
                    refine R.app eI (rowR (hyJ xs x) y) [lowF xs (band (xs.getD x 0) (xs.getD y 0))] 5 2 1 8 (by kernel_rfl) eI_one (by decide) (by first | omega | (simp <;> omega)) (by kernel_rfl) ?_
                    refine R.go 1 (R.any1 14 (by kernel_rfl) (by kernel_rfl) ?_)
                    refine R.go 2 (R.any0 (by kernel_rfl) ?_)
                    exact R.met (by kernel_rfl) (by kernel_rfl)
                  · refine R.go 2 (R.any1 5 (by kernel_rfl) (by kernel_rfl) ?_)
                    refine R.go 2 (R.any1 10 (by kernel_rfl) (by kernel_rfl) ?_)
                    refine R.go 2 (R.any1 11 (by kernel_rfl) (by kernel_rfl) ?_)
                    refine R.call true (l18Low_c xs (band (xs.getD x 0) (xs.getD y 0)) (by first | omega | (simp <;> omega)) (by first | assumption | exact inM_mono (by omega) (by assumption))) (by kernel_rfl) rfl (by kernel_rfl) ?_
                    refine R.go 1 (R.any1 12 (by kernel_rfl) (by kernel_rfl) ?_)
                    refine R.lit (s := 1) (n := 1) (cs := rows eI [lowF xs (band (xs.getD x 0) (xs.getD y 0))]) (by kernel_rfl) (by kernel_rfl) ?_
                    refine R.go 1 (R.any1 13 (by kernel_rfl) (by kernel_rfl) ?_)
                    refine R.app eI (rowR (hyJ xs x) y) [lowF xs (band (xs.getD x 0) (xs.getD y 0))] 5 2 1 8 (by kernel_rfl) eI_one (by decide) (by first | omega | (simp <;> omega)) (by kernel_rfl) ?_
                    refine R.go 1 (R.any1 14 (by kernel_rfl) (by kernel_rfl) ?_)
                    refine R.go 2 (R.any0 (by kernel_rfl) ?_)
                    exact R.met (by kernel_rfl) (by kernel_rfl)
                · have hg1 := rowR_last (f := hyM xs x) (y := y) rfl
                  have hg2 := rowR_last (f := hyJ xs x) (y := y) rfl
                  have hg3 : (((rowR (hyM xs x) y) ++ [lowF (invA xs xs.length) (band ((invA xs xs.length).getD x 0) ((invA xs xs.length).getD y 0))])).length = y + 1 := rowR_lenS
                  have hg4 : (((rowR (hyJ xs x) y) ++ [lowF xs (band (xs.getD x 0) (xs.getD y 0))])).length = y + 1 := rowR_lenS
                  have hg5 : 0 ≤ (((rowR (hyM xs x) y) ++ [lowF (invA xs xs.length) (band ((invA xs xs.length).getD x 0) ((invA xs xs.length).getD y 0))])).getD y 0 := by show 0 ≤ (rowR (hyM xs x) y ++ [hyM xs x y]).getD y 0; rw [hg1]; exact hlm
                  have hg6 : 0 ≤ (((rowR (hyJ xs x) y) ++ [lowF xs (band (xs.getD x 0) (xs.getD y 0))])).getD y 0 := by show 0 ≤ (rowR (hyJ xs x) y ++ [hyJ xs x y]).getD y 0; rw [hg2]; exact hlj
                  refine R.go 4 (R.idxO 4 1 ((rowR (hyM xs x) y) ++ [lowF (invA xs xs.length) (band ((invA xs xs.length).getD x 0) ((invA xs xs.length).getD y 0))]).length y (y : Int) (by kernel_rfl) rfl (by first | omega | (simp only [List.length_set]; omega) | (simp <;> omega)) (by kernel_rfl) ?_)
                  refine R.ldI ((rowR (hyM xs x) y) ++ [lowF (invA xs xs.length) (band ((invA xs xs.length).getD x 0) ((invA xs xs.length).getD y 0))]) y (by kernel_rfl) (by first | omega | (simp only [List.length_set]; omega) | (simp <;> omega)) (by kernel_rfl) ?_
                  refine R.go 2 ?_
                  by_cases c15 : (((rowR (hyM xs x) y) ++ [lowF (invA xs xs.length) (band ((invA xs xs.length).getD x 0) ((invA xs xs.length).getD y 0))]).getD y 0) < 0
                  · refine R.skp (decide ((((rowR (hyM xs x) y) ++ [lowF (invA xs xs.length) (band ((invA xs xs.length).getD x 0) ((invA xs xs.length).getD y 0))]).getD y 0) < 0)) false (by kernel_rfl) (dT c15) (by kernel_rfl) ?_
                    refine R.skp (decide ((((rowR (hyM xs x) y) ++ [lowF (invA xs xs.length) (band ((invA xs xs.length).getD x 0) ((invA xs xs.length).getD y 0))]).getD y 0) < 0)) false (by kernel_rfl) (dT c15) (by kernel_rfl) ?_
                    refine R.skp (decide ((((rowR (hyM xs x) y) ++ [lowF (invA xs xs.length) (band ((invA xs xs.length).getD x 0) ((invA xs xs.length).getD y 0))]).getD y 0) < 0)) false (by kernel_rfl) (dT c15) (by kernel_rfl) ?_
                    refine R.skp (decide ((((rowR (hyM xs x) y) ++ [lowF (invA xs xs.length) (band ((invA xs xs.length).getD x 0) ((invA xs xs.length).getD y 0))]).getD y 0) < 0)) false (by kernel_rfl) (dT c15) (by kernel_rfl) ?_
                    refine R.skp (decide ((((rowR (hyM xs x) y) ++ [lowF (invA xs xs.length) (band ((invA xs xs.length).getD x 0) ((invA xs xs.length).getD y 0))]).getD y 0) < 0)) false (by kernel_rfl) (dT c15) (by kernel_rfl) ?_
                    refine R.pick (decide ((((rowR (hyM xs x) y) ++ [lowF (invA xs xs.length) (band ((invA xs xs.length).getD x 0) ((invA xs xs.length).getD y 0))]).getD y 0) < 0)) true (by kernel_rfl) (dT c15) (by kernel_rfl) ?_
                    refine R.go 8 (R.nilB 0 0 22 1 (by kernel_rfl) ?_)
                    refine R.nilB 0 1 22 1 (by kernel_rfl) ?_
                    refine R.nilB 0 2 22 1 (by kernel_rfl) ?_
                    exact R.retE (.tup [.agg [ownA eLI 22 1 [], ownA eLI 22 1 [], ownA eLI 22 1 [], AI 0, AI 0], .bool false]) (by kernel_rfl) (by kernel_rfl) (by first | (first | (rw [show x = xs.length by omega, show u = xs.length by omega]; rfl) | (exfalso; simp_all; done)) | (exfalso; omega))
                  · refine R.want (decide ((((rowR (hyM xs x) y) ++ [lowF (invA xs xs.length) (band ((invA xs xs.length).getD x 0) ((invA xs xs.length).getD y 0))]).getD y 0) < 0)) false (by kernel_rfl) (dF c15) ?_
                    refine R.go 1 (R.want (decide ((((rowR (hyM xs x) y) ++ [lowF (invA xs xs.length) (band ((invA xs xs.length).getD x 0) ((invA xs xs.length).getD y 0))]).getD y 0) < 0)) false (by kernel_rfl) (dF c15) ?_)
                    refine R.go 1 (R.want (decide ((((rowR (hyM xs x) y) ++ [lowF (invA xs xs.length) (band ((invA xs xs.length).getD x 0) ((invA xs xs.length).getD y 0))]).getD y 0) < 0)) false (by kernel_rfl) (dF c15) ?_)
                    refine R.idxO 5 1 ((rowR (hyJ xs x) y) ++ [lowF xs (band (xs.getD x 0) (xs.getD y 0))]).length y (y : Int) (by kernel_rfl) rfl (by first | omega | (simp only [List.length_set]; omega) | (simp <;> omega)) (by kernel_rfl) ?_
                    refine R.want (decide ((((rowR (hyM xs x) y) ++ [lowF (invA xs xs.length) (band ((invA xs xs.length).getD x 0) ((invA xs xs.length).getD y 0))]).getD y 0) < 0)) false (by kernel_rfl) (dF c15) ?_
                    refine R.ldI ((rowR (hyJ xs x) y) ++ [lowF xs (band (xs.getD x 0) (xs.getD y 0))]) y (by kernel_rfl) (by first | omega | (simp only [List.length_set]; omega) | (simp <;> omega)) (by kernel_rfl) ?_
                    refine R.want (decide ((((rowR (hyM xs x) y) ++ [lowF (invA xs xs.length) (band ((invA xs xs.length).getD x 0) ((invA xs xs.length).getD y 0))]).getD y 0) < 0)) false (by kernel_rfl) (dF c15) ?_
                    refine R.go 1 (R.pick (decide ((((rowR (hyM xs x) y) ++ [lowF (invA xs xs.length) (band ((invA xs xs.length).getD x 0) ((invA xs xs.length).getD y 0))]).getD y 0) < 0)) false (by kernel_rfl) (dF c15) (by kernel_rfl) ?_)
                    refine R.go 1 (R.cond ((((rowR (hyJ xs x) y) ++ [lowF xs (band (xs.getD x 0) (xs.getD y 0))]).getD y 0) < 0) (by kernel_rfl) (fun c16 => ?_) (fun c16 => ?_))
                    · refine R.go 6 (R.nilB 0 0 22 1 (by kernel_rfl) ?_)
                      refine R.nilB 0 1 22 1 (by kernel_rfl) ?_
                      refine R.nilB 0 2 22 1 (by kernel_rfl) ?_
                      exact R.retE (.tup [.agg [ownA eLI 22 1 [], ownA eLI 22 1 [], ownA eLI 22 1 [], AI 0, AI 0], .bool false]) (by kernel_rfl) (by kernel_rfl) (by first | (first | (rw [show x = xs.length by omega, show u = xs.length by omega]; rfl) | (exfalso; simp_all; done)) | (exfalso; omega))
                    · refine R.go 4 (R.ar ((y : Int) + 1) (by kernel_rfl) (by omega) (by omega) (by kernel_rfl) ?_)
                      exact R.go 2 (R.stop R10 (by kernel_rfl) (N11 (y + 1, (rowR (hyM xs x) y) ++ [lowF (invA xs xs.length) (band ((invA xs xs.length).getD x 0) ((invA xs xs.length).getD y 0))], (rowR (hyJ xs x) y) ++ [lowF xs (band (xs.getD x 0) (xs.getD y 0))]) [0, 2, 4, 5, 6, 7, 8, 9, 10] none _ (by kernel_rfl) (by kernel_rfl) ⟨(by omega), (by exact rowR_snoc), (by exact rowR_snoc)⟩ (by show (xs.length - (y + 1)) < (xs.length - y); omega)))
            · refine R.go 6 (R.app eLI [] (tabR (hyM xs) xs.length x) 6 22 1 24 (by kernel_rfl) eLI_one (by decide) (by first | omega | (simp <;> omega)) (by kernel_rfl) ?_)
              refine R.go 1 (R.frz 4 (by kernel_rfl) ?_)
              refine R.go 1 (R.app eLI ([] ++ (tabR (hyM xs) xs.length x)) [rowR (hyM xs x) y] 6 22 1 24 (by kernel_rfl) eLI_one (by decide) (by first | omega | (simp <;> omega)) (by kernel_rfl) ?_)
              refine R.go 7 (R.app eLI [] (tabR (hyJ xs) xs.length x) 8 22 1 24 (by kernel_rfl) eLI_one (by decide) (by first | omega | (simp <;> omega)) (by kernel_rfl) ?_)
              refine R.go 1 (R.frz 5 (by kernel_rfl) ?_)
              refine R.go 1 (R.app eLI ([] ++ (tabR (hyJ xs) xs.length x)) [rowR (hyJ xs x) y] 8 22 1 24 (by kernel_rfl) eLI_one (by decide) (by first | omega | (simp <;> omega)) (by kernel_rfl) ?_)
              refine R.go 6 (R.ar ((x : Int) + 1) (by kernel_rfl) (by omega) (by omega) (by kernel_rfl) ?_)
              exact R.go 2 (R.stop R5 (by kernel_rfl) (N6 (x + 1, [] ++ (tabR (hyM xs) xs.length x) ++ [rowR (hyM xs x) y], [] ++ (tabR (hyJ xs) xs.length x) ++ [rowR (hyJ xs x) y]) [0, 2, 4, 5, 6, 7] (some [0, 1, 6, 8]) _ (by kernel_rfl) (by kernel_rfl) ⟨(by omega), (by rw [show y = xs.length by omega]; exact tabR_snoc), (by rw [show y = xs.length by omega]; exact tabR_snoc)⟩ (by show (xs.length - (x + 1)) < (xs.length - x); omega)))
          · refine R.go 7 (R.nilB 1 2 22 1 (by kernel_rfl) ?_)
            refine R.loop ((fun | (u, LJ) => (⟨(frm 168 [(0, LI xs), (2, .ptr 0 0), (4, AI xs.length), (5, LI (invA xs xs.length)), (6, .ptr 1 0), (11, AI (u : Int))]), [.box 28 [.nil, .nil, .nil, AI 0, AI 0], .box 28 [.ref 2, .ref 3, .ref 4, AI (lowF xs ((shl64 1 xs.length) - 1)), AI (lowF (invA xs xs.length) ((shl64 1 xs.length) - 1))], rowA eLI 22 1 (tabR (hyM xs) xs.length x), rowA eLI 22 1 (tabR (hyJ xs) xs.length x), rowA eLI 22 1 LJ]⟩ : St) : Nat × (List (List Int)) → St)) (fun | (u, LJ) => (u ≤ xs.length) ∧ (LJ = tabR (hyI xs) xs.length u)) (fun | (u, LJ) => xs.length - u) (0, []) [0, 2, 4, 5, 6, 11] none (by kernel_rfl) (by kernel_rfl) (by kernel_rfl) ⟨(by omega), (by rfl)⟩ ?_
            rintro ⟨u, LJ⟩ ⟨h20_1, rfl⟩ R17 N18
            have hjl := tabR_len (hyI xs) xs.length u
            refine R.go 7 (R.cond ((u : Int) < (xs.length : Int)) (by kernel_rfl) (fun c21 => ?_) (fun c21 => ?_))
            · refine R.go 14 (R.loop ((fun | (w, C) => (⟨(frm 168 [(0, LI xs), (2, .ptr 0 0), (4, AI xs.length), (5, LI (invA xs xs.length)), (6, .ptr 1 0), (11, AI (u : Int)), (12, .ref 5), (13, AI (w : Int))]), [.box 28 [.nil, .nil, .nil, AI 0, AI 0], .box 28 [.ref 2, .ref 3, .ref 4, AI (lowF xs ((shl64 1 xs.length) - 1)), AI (lowF (invA xs xs.length) ((shl64 1 xs.length) - 1))], rowA eLI 22 1 (tabR (hyM xs) xs.length x), rowA eLI 22 1 (tabR (hyJ xs) xs.length x), rowA eLI 22 1 (tabR (hyI xs) xs.length u), rowA eI 2 1 C]⟩ : St) : Nat × (List Int) → St)) (fun | (w, C) => (w ≤ xs.length) ∧ (C = rowR (hyI xs u) w)) (fun | (w, C) => xs.length - w) (0, []) [0, 2, 4, 5, 6, 11, 12, 13] none (by kernel_rfl) (by kernel_rfl) (by kernel_rfl) ⟨(by omega), (by rfl)⟩ ?_)
              rintro ⟨w, C⟩ ⟨h25_1, rfl⟩ R22 N23
              have hcr := rowR_len (hyI xs u) w
              refine R.go 7 (R.cond ((w : Int) < (xs.length : Int)) (by kernel_rfl) (fun c26 => ?_) (fun c26 => ?_))
              · refine R.go 13 (R.loop ((fun | (z, cm) => (⟨(frm 168 [(0, LI xs), (2, .ptr 0 0), (4, AI xs.length), (5, LI (invA xs xs.length)), (6, .ptr 1 0), (11, AI (u : Int)), (12, .ref 5), (13, AI (w : Int)), (14, AI cm), (15, AI (z : Int))]), [.box 28 [.nil, .nil, .nil, AI 0, AI 0], .box 28 [.ref 2, .ref 3, .ref 4, AI (lowF xs ((shl64 1 xs.length) - 1)), AI (lowF (invA xs xs.length) ((shl64 1 xs.length) - 1))], rowA eLI 22 1 (tabR (hyM xs) xs.length x), rowA eLI 22 1 (tabR (hyJ xs) xs.length x), rowA eLI 22 1 (tabR (hyI xs) xs.length u), rowA eI 2 1 (rowR (hyI xs u) w)]⟩ : St) : Nat × Int → St)) (fun | (z, cm) => (z ≤ xs.length) ∧ (cm = hyC xs u w z)) (fun | (z, cm) => xs.length - z) (0, 0) [0, 2, 4, 5, 6, 11, 12, 13, 14, 15] none (by kernel_rfl) (by kernel_rfl) (by kernel_rfl) ⟨(by omega), (by rfl)⟩ ?_)
                rintro ⟨z, cm⟩ ⟨h30_1, rfl⟩ R27 N28
                refine R.go 7 (R.cond ((z : Int) < (xs.length : Int)) (by kernel_rfl) (fun c31 => ?_) (fun c31 => ?_))
                · have hzx : x = xs.length := by omega
                  have hat := tabL_at (f := hyM xs) (N := xs.length) (x := x) (i := z) (j := u) (by omega) (by omega)
                  have hva := hat.1
                  have hvl := hat.2
                  have hvr := hyM_rng hH (x := z) (y := u) (by omega) (by omega)
                  have hvx := hxi ((((tabR (hyM xs) xs.length x).getD z []).getD u 0).toNat) (by omega)
                  refine R.go 9 (R.idxO 2 1 (tabR (hyM xs) xs.length x).length z (z : Int) (by kernel_rfl) rfl (by omega) (by kernel_rfl) ?_)
                  refine R.ldE eLI 1 0 (tabR (hyM xs) xs.length x) [] z (LI ((tabR (hyM xs) xs.length x).getD z [])) (by kernel_rfl) eLI_len (by omega) rfl (by kernel_rfl) ?_
                  refine R.go 1 (R.idx eI ((tabR (hyM xs) xs.length x).getD z []) 0 u (u : Int) (by kernel_rfl) rfl eI_len (by first | omega | (simp only [List.length_set]; omega) | (simp <;> omega)) (by kernel_rfl) ?_)
                  refine R.go 1 (R.idx eI xs 0 (((((tabR (hyM xs) xs.length x).getD z []).getD u 0)).toNat) (((tabR (hyM xs) xs.length x).getD z []).getD u 0) (by kernel_rfl) (by omega) eI_len (by omega) (by kernel_rfl) ?_)
                  refine R.go 2 (R.call true (l01Bit_c (xs.getD (((((tabR (hyM xs) xs.length x).getD z []).getD u 0)).toNat) 0) (w : Int) (by omega) (by omega)) (by kernel_rfl) rfl (by kernel_rfl) ?_)
                  refine R.go 1 (R.cond (band (shr64 (xs.getD (((((tabR (hyM xs) xs.length x).getD z []).getD u 0)).toNat) 0) (w : Int)) 1 = 1) (by kernel_rfl) (fun c32 => ?_) (fun c32 => ?_))
                  · refine R.go 3 (R.call true (l01One_c (z : Int) (by omega) (by omega)) (by kernel_rfl) rfl (by kernel_rfl) ?_)
                    refine R.go 6 (R.ar ((z : Int) + 1) (by kernel_rfl) (by omega) (by omega) (by kernel_rfl) ?_)
                    exact R.go 2 (R.stop R27 (by kernel_rfl) (N28 (z + 1, bor (hyC xs u w z) (shl64 1 (z : Int))) [0, 2, 4, 5, 6, 11, 12, 13, 14, 15] none _ (by kernel_rfl) (by kernel_rfl) ⟨(by omega), (by first | exact hyC_yes hH (by omega) (by omega) (by omega) hva ((spec_bit hH (by omega) (by omega) (by omega)).1 (by assumption)) | exact hyC_no hH (by omega) (by omega) (by omega) hva (fun q => absurd ((spec_bit hH (by omega) (by omega) (by omega)).2 q) (by assumption)))⟩ (by show (xs.length - (z + 1)) < (xs.length - z); omega)))
                  · refine R.go 4 (R.ar ((z : Int) + 1) (by kernel_rfl) (by omega) (by omega) (by kernel_rfl) ?_)
                    exact R.go 2 (R.stop R27 (by kernel_rfl) (N28 (z + 1, hyC xs u w z) [0, 2, 4, 5, 6, 11, 12, 13, 14, 15] none _ (by kernel_rfl) (by kernel_rfl) ⟨(by omega), (by first | exact hyC_yes hH (by omega) (by omega) (by omega) hva ((spec_bit hH (by omega) (by omega) (by omega)).1 (by assumption)) | exact hyC_no hH (by omega) (by omega) (by omega) hva (fun q => absurd ((spec_bit hH (by omega) (by omega) (by omega)).2 q) (by assumption)))⟩ (by show (xs.length - (z + 1)) < (xs.length - z); omega)))
                · have hcz := inM_mono (n' := 61) (by omega) (hyC_in hH u w (z := z) (by omega))
                  have hcl : 0 ≤ lowF (invA xs xs.length) (hyC xs u w z) := by rw [show z = xs.length by omega]; exact hH.im u w (by omega) (by omega)
                  refine R.go 5 (R.call true (l18Low_c (invA xs xs.length) (hyC xs u w z) (by first | omega | (simp <;> omega)) (by first | assumption | exact inM_mono (by omega) (by assumption))) (by kernel_rfl) rfl (by kernel_rfl) ?_)
                  refine R.go 8 (R.cond ((lowF (invA xs xs.length) (hyC xs u w z)) < 0) (by kernel_rfl) (fun c33 => ?_) (fun c33 => ?_))
                  · refine R.go 6 (R.nilB 0 0 22 1 (by kernel_rfl) ?_)
                    refine R.nilB 0 1 22 1 (by kernel_rfl) ?_
                    refine R.nilB 0 2 22 1 (by kernel_rfl) ?_
                    exact R.retE (.tup [.agg [ownA eLI 22 1 [], ownA eLI 22 1 [], ownA eLI 22 1 [], AI 0, AI 0], .bool false]) (by kernel_rfl) (by kernel_rfl) (by first | (first | (rw [show x = xs.length by omega, show u = xs.length by omega]; rfl) | (exfalso; simp_all; done)) | (exfalso; omega))
                  · refine R.go 5 (R.app eI (rowR (hyI xs u) w) [lowF (invA xs xs.length) (hyC xs u w z)] 5 2 1 8 (by kernel_rfl) eI_one (by decide) (by first | omega | (simp <;> omega)) (by kernel_rfl) ?_)
                    refine R.go 5 (R.ar ((w : Int) + 1) (by kernel_rfl) (by omega) (by omega) (by kernel_rfl) ?_)
                    exact R.go 2 (R.stop R22 (by kernel_rfl) (N23 (w + 1, (rowR (hyI xs u) w) ++ [lowF (invA xs xs.length) (hyC xs u w z)]) [0, 2, 4, 5, 6, 11, 12, 13] (some [0, 1, 2, 3, 4, 5]) _ (by kernel_rfl) (by kernel_rfl) ⟨(by omega), (by rw [show z = xs.length by omega]; exact rowR_snoc)⟩ (by show (xs.length - (w + 1)) < (xs.length - w); omega)))
              · refine R.go 5 (R.app eLI [] (tabR (hyI xs) xs.length u) 6 22 1 24 (by kernel_rfl) eLI_one (by decide) (by first | omega | (simp <;> omega)) (by kernel_rfl) ?_)
                refine R.go 1 (R.frz 5 (by kernel_rfl) ?_)
                refine R.go 1 (R.app eLI ([] ++ (tabR (hyI xs) xs.length u)) [rowR (hyI xs u) w] 6 22 1 24 (by kernel_rfl) eLI_one (by decide) (by first | omega | (simp <;> omega)) (by kernel_rfl) ?_)
                refine R.go 6 (R.ar ((u : Int) + 1) (by kernel_rfl) (by omega) (by omega) (by kernel_rfl) ?_)
                exact R.go 2 (R.stop R17 (by kernel_rfl) (N18 (u + 1, [] ++ (tabR (hyI xs) xs.length u) ++ [rowR (hyI xs u) w]) [0, 2, 4, 5, 6, 11] (some [0, 1, 2, 3, 6]) _ (by kernel_rfl) (by kernel_rfl) ⟨(by omega), (by rw [show w = xs.length by omega]; exact tabR_snoc)⟩ (by show (xs.length - (u + 1)) < (xs.length - u); omega)))
            · exact R.go 7 (R.retE (.tup [.agg [ownA eLI 22 1 (tabR (hyM xs) xs.length x), ownA eLI 22 1 (tabR (hyJ xs) xs.length x), ownA eLI 22 1 (tabR (hyI xs) xs.length u), AI (lowF xs ((shl64 1 xs.length) - 1)), AI (lowF (invA xs xs.length) ((shl64 1 xs.length) - 1))], .bool true]) (by kernel_rfl) (by kernel_rfl) (by first | (first | (rw [show x = xs.length by omega, show u = xs.length by omega]; rfl) | (exfalso; simp_all; done)) | (exfalso; omega)))

theorem l18BuildU_c (U R : List Int) (hR : R = ordU U) (hH : HyOK (ordU U)) : CallA Try.prog 48 [LI R] (.tup [.agg [ownA eLI 22 1 (tabR (hyM (ordU U)) (ordU U).length (ordU U).length), ownA eLI 22 1 (tabR (hyJ (ordU U)) (ordU U).length (ordU U).length), ownA eLI 22 1 (tabR (hyI (ordU U)) (ordU U).length (ordU U).length), AI (lowF (ordU U) (fullM (ordU U).length)), AI (lowF (invA (ordU U) (ordU U).length) (fullM (ordU U).length))], .bool true]) := by subst hR; exact l18Build_c _ hH

theorem heytingOfU_c (U R : List Int) (hR : R = ordU U) (hH : HyOK (ordU U)) : CallE Try.prog 56 [LI R] (fun (b : Nat) (r : AV) => ∃ LA : List (Value × List Int), ∃ LO : List (Value × List Int), ∃ LJ : List (Value × List Int), r = .tup [.agg [ownA (eV eI 2 1) 22 1 LA, ownA (eV eI 2 1) 22 1 LO, ownA (eV eI 2 1) 22 1 LJ, AI (lowF (ordU U) (fullM (ordU U).length)), AI (lowF (invA (ordU U) (ordU U).length) (fullM (ordU U).length))], .bool true] ∧ (NL b LA) ∧ (NL b LO) ∧ (NL b LJ) ∧ (NX LA LO) ∧ (NX LA LJ) ∧ (NX LO LJ) ∧ (LA.map Prod.snd = tabR (hyM (ordU U)) (ordU U).length (ordU U).length) ∧ (LO.map Prod.snd = tabR (hyJ (ordU U)) (ordU U).length (ordU U).length) ∧ (LJ.map Prod.snd = tabR (hyI (ordU U)) (ordU U).length (ordU U).length)) := by subst hR; exact heytingOf_c _ hH

theorem heytingOfU_c_cl (U R : List Int) : ∀ (b : Nat) (r : AV), (fun (b : Nat) (r : AV) => ∃ LA : List (Value × List Int), ∃ LO : List (Value × List Int), ∃ LJ : List (Value × List Int), r = .tup [.agg [ownA (eV eI 2 1) 22 1 LA, ownA (eV eI 2 1) 22 1 LO, ownA (eV eI 2 1) 22 1 LJ, AI (lowF (ordU U) (fullM (ordU U).length)), AI (lowF (invA (ordU U) (ordU U).length) (fullM (ordU U).length))], .bool true] ∧ (NL b LA) ∧ (NL b LO) ∧ (NL b LJ) ∧ (NX LA LO) ∧ (NX LA LJ) ∧ (NX LO LJ) ∧ (LA.map Prod.snd = tabR (hyM (ordU U)) (ordU U).length (ordU U).length) ∧ (LO.map Prod.snd = tabR (hyJ (ordU U)) (ordU U).length (ordU U).length) ∧ (LJ.map Prod.snd = tabR (hyI (ordU U)) (ordU U).length (ordU U).length)) b r → ClosedN b r := heytingOf_c_cl (ordU U)

theorem l18Of_c (n : Int) (xs : List Int) (hP : okPo n xs = true) (h30 : (upL n xs).length ≤ 30) : CallA Try.prog 29 [.agg [AI n, LI xs]] (.agg [ownA eLI 22 1 (tabR (hyM (ordU (upL n xs))) (ordU (upL n xs)).length (ordU (upL n xs)).length), ownA eLI 22 1 (tabR (hyJ (ordU (upL n xs))) (ordU (upL n xs)).length (ordU (upL n xs)).length), ownA eLI 22 1 (tabR (hyI (ordU (upL n xs))) (ordU (upL n xs)).length (ordU (upL n xs)).length), AI (lowF (ordU (upL n xs)) (fullM (ordU (upL n xs)).length)), AI (lowF (invA (ordU (upL n xs)) (ordU (upL n xs)).length) (fullM (ordU (upL n xs)).length))]) := by
  have hH : HyOK (ordU (upL n xs)) := up_hy hP h30
  have hol := ordU_len (upL n xs)
  refine CallA.of Try.func29 rfl (by kernel_rfl) ?_
  refine R.go 8 (R.call true (l16Upsets_c n xs hP) (by kernel_rfl) rfl (by kernel_rfl) ?_)
  refine R.go 10 (R.loop ((fun | (x, R) => (⟨(frm 49 [(2, .ptr 0 0), (3, .ref 1), (4, .ref 2), (5, AI (x : Int))]), [.box 28 [.nil, .nil, .nil, AI 0, AI 0], rowA eI 2 1 (upL n xs), rowA eI 2 1 R]⟩ : St) : Nat × (List Int) → St)) (fun | (x, R) => (x ≤ (upL n xs).length) ∧ (R = rowR (fun x => mkB (subU (upL n xs) x) (upL n xs).length) x)) (fun | (x, R) => (upL n xs).length - x) (0, []) [2, 3, 4, 5] (some [1, 2, 3]) (by kernel_rfl) (by kernel_rfl) (by kernel_rfl) ⟨(by omega), (by rfl)⟩ ?_)
  rintro ⟨x, R⟩ ⟨h4_1, rfl⟩ R1 N2
  have hrl := rowR_len (fun x => mkB (subU (upL n xs) x) (upL n xs).length) x
  refine R.go 8 (R.cond ((x : Int) < ((upL n xs).length : Int)) (by kernel_rfl) (fun c5 => ?_) (fun c5 => ?_))
  · refine R.go 13 (R.loop ((fun | (y, m) => (⟨(frm 49 [(2, .ptr 0 0), (3, .ref 1), (4, .ref 2), (5, AI (x : Int)), (6, AI m), (7, AI (y : Int))]), [.box 28 [.nil, .nil, .nil, AI 0, AI 0], rowA eI 2 1 (upL n xs), rowA eI 2 1 (rowR (fun x => mkB (subU (upL n xs) x) (upL n xs).length) x)]⟩ : St) : Nat × Int → St)) (fun | (y, m) => (y ≤ (upL n xs).length) ∧ (m = mkB (subU (upL n xs) x) y)) (fun | (y, m) => (upL n xs).length - y) (0, 0) [2, 3, 4, 5, 6, 7] none (by kernel_rfl) (by kernel_rfl) (by kernel_rfl) ⟨(by omega), (by rfl)⟩ ?_)
    rintro ⟨y, m⟩ ⟨h9_1, rfl⟩ R6 N7
    refine R.go 8 (R.cond ((y : Int) < ((upL n xs).length : Int)) (by kernel_rfl) (fun c10 => ?_) (fun c10 => ?_))
    · refine R.go 7 (R.idxO 1 1 (upL n xs).length x (x : Int) (by kernel_rfl) rfl (by omega) (by kernel_rfl) ?_)
      refine R.ldI (upL n xs) x (by kernel_rfl) (by omega) (by kernel_rfl) ?_
      refine R.go 2 (R.idxO 1 1 (upL n xs).length y (y : Int) (by kernel_rfl) rfl (by omega) (by kernel_rfl) ?_)
      refine R.ldI (upL n xs) y (by kernel_rfl) (by omega) (by kernel_rfl) ?_
      refine R.go 3 (R.cond ((bnot ((upL n xs).getD x 0) ((upL n xs).getD y 0)) = 0) (by kernel_rfl) (fun c11 => ?_) (fun c11 => ?_))
      · refine R.go 3 (R.call true (l01One_c (y : Int) (by omega) (by omega)) (by kernel_rfl) rfl (by kernel_rfl) ?_)
        refine R.go 6 (R.ar ((y : Int) + 1) (by kernel_rfl) (by omega) (by omega) (by kernel_rfl) ?_)
        exact R.go 2 (R.stop R6 (by kernel_rfl) (N7 (y + 1, bor (mkB (subU (upL n xs) x) y) (shl64 1 (y : Int))) [2, 3, 4, 5, 6, 7] none _ (by kernel_rfl) (by kernel_rfl) ⟨(by omega), (by first | exact mkS_yes (by assumption) | exact mkS_no (by assumption))⟩ (by show ((upL n xs).length - (y + 1)) < ((upL n xs).length - y); omega)))
      · refine R.go 4 (R.ar ((y : Int) + 1) (by kernel_rfl) (by omega) (by omega) (by kernel_rfl) ?_)
        exact R.go 2 (R.stop R6 (by kernel_rfl) (N7 (y + 1, mkB (subU (upL n xs) x) y) [2, 3, 4, 5, 6, 7] none _ (by kernel_rfl) (by kernel_rfl) ⟨(by omega), (by first | exact mkS_yes (by assumption) | exact mkS_no (by assumption))⟩ (by show ((upL n xs).length - (y + 1)) < ((upL n xs).length - y); omega)))
    · refine R.go 5 (R.app eI (rowR (fun x => mkB (subU (upL n xs) x) (upL n xs).length) x) [mkB (subU (upL n xs) x) y] 2 2 1 8 (by kernel_rfl) eI_one (by decide) (by first | omega | (simp <;> omega)) (by kernel_rfl) ?_)
      refine R.go 5 (R.ar ((x : Int) + 1) (by kernel_rfl) (by omega) (by omega) (by kernel_rfl) ?_)
      exact R.go 2 (R.stop R1 (by kernel_rfl) (N2 (x + 1, (rowR (fun x => mkB (subU (upL n xs) x) (upL n xs).length) x) ++ [mkB (subU (upL n xs) x) y]) [2, 3, 4, 5] (some [0, 1, 2]) _ (by kernel_rfl) (by kernel_rfl) ⟨(by omega), (by exact mkS_row (by omega))⟩ (by show ((upL n xs).length - (x + 1)) < ((upL n xs).length - x); omega)))
  · refine R.go 4 (R.frz 2 (by kernel_rfl) ?_)
    refine R.call true (l18BuildU_c (upL n xs) (rowR (fun x => mkB (subU (upL n xs) x) (upL n xs).length) x) (by first | exact ordU_rowR (by omega) | exact ordU_row (by omega)) hH) (by kernel_rfl) rfl (by kernel_rfl) ?_
    exact R.go 12 (R.retE (.agg [ownA eLI 22 1 (tabR (hyM (ordU (upL n xs))) (ordU (upL n xs)).length (ordU (upL n xs)).length), ownA eLI 22 1 (tabR (hyJ (ordU (upL n xs))) (ordU (upL n xs)).length (ordU (upL n xs)).length), ownA eLI 22 1 (tabR (hyI (ordU (upL n xs))) (ordU (upL n xs)).length (ordU (upL n xs)).length), AI (lowF (ordU (upL n xs)) (fullM (ordU (upL n xs)).length)), AI (lowF (invA (ordU (upL n xs)) (ordU (upL n xs)).length) (fullM (ordU (upL n xs)).length))]) (by kernel_rfl) (by kernel_rfl) (by rfl))

theorem upsetAlgebra_c (n : Int) (xs : List Int) (hP : okPo n xs = true) (h30 : (upL n xs).length ≤ 30) : CallE Try.prog 32 [.agg [AI n, LI xs]] (fun (b : Nat) (r : AV) => ∃ LA : List (Value × List Int), ∃ LO : List (Value × List Int), ∃ LJ : List (Value × List Int), r = .agg [ownA (eV eI 2 1) 22 1 LA, ownA (eV eI 2 1) 22 1 LO, ownA (eV eI 2 1) 22 1 LJ, AI (lowF (ordU (upL n xs)) (fullM (ordU (upL n xs)).length)), AI (lowF (invA (ordU (upL n xs)) (ordU (upL n xs)).length) (fullM (ordU (upL n xs)).length))] ∧ (NL b LA) ∧ (NL b LO) ∧ (NL b LJ) ∧ (NX LA LO) ∧ (NX LA LJ) ∧ (NX LO LJ) ∧ (LA.map Prod.snd = tabR (hyM (ordU (upL n xs))) (ordU (upL n xs)).length (ordU (upL n xs)).length) ∧ (LO.map Prod.snd = tabR (hyJ (ordU (upL n xs))) (ordU (upL n xs)).length (ordU (upL n xs)).length) ∧ (LJ.map Prod.snd = tabR (hyI (ordU (upL n xs))) (ordU (upL n xs)).length (ordU (upL n xs)).length)) := by
  have hH : HyOK (ordU (upL n xs)) := up_hy hP h30
  have hol := ordU_len (upL n xs)
  refine CallE.of Try.func32 rfl (by kernel_rfl) (fun b => ?_)
  refine R.go 8 (R.call true (upsets_c n xs hP) (by kernel_rfl) rfl (by kernel_rfl) ?_)
  refine R.go 6 (R.mk eI 0 2 8 ((upL n xs).length) ((upL n xs).length) (by kernel_rfl) rfl (by decide) (by omega) (by kernel_rfl) ?_)
  refine R.go 10 (R.loop ((fun | (x, R) => (⟨(frm 49 [(2, .ptr 1 0), (3, .ref 2), (4, .ref 3), (16, .ref 2), (17, AI ((upL n xs).length)), (18, AI (x : Int))]), [.inert (.base b), .box 28 [.nil, .nil, .nil, AI 0, AI 0], rowA eI 2 1 (upL n xs), rowA eI 2 1 R]⟩ : St) : Nat × (List Int) → St)) (fun | (x, R) => (x ≤ (upL n xs).length) ∧ (R = rowT (fun x => mkB (subU (upL n xs) x) (upL n xs).length) (upL n xs).length x)) (fun | (x, R) => (upL n xs).length - x) (0, (List.replicate ((upL n xs).length) 0)) [2, 3, 4, 16, 17, 18] (some [0, 2, 3, 4]) (by kernel_rfl) (by kernel_rfl) (by kernel_rfl) ⟨(by omega), (by exact ordT_zero)⟩ ?_)
  rintro ⟨x, R⟩ ⟨h4_1, rfl⟩ R1 N2
  have hrl := rowT_len (fun x => mkB (subU (upL n xs) x) (upL n xs).length) (upL n xs).length x
  refine R.go 5 (R.cond ((x : Int) < ((upL n xs).length : Int)) (by kernel_rfl) (fun c5 => ?_) (fun c5 => ?_))
  · refine R.go 6 (R.idxO 2 1 (upL n xs).length x (x : Int) (by kernel_rfl) rfl (by omega) (by kernel_rfl) ?_)
    refine R.ldI (upL n xs) x (by kernel_rfl) (by omega) (by kernel_rfl) ?_
    refine R.go 10 (R.loop ((fun | (y, W) => (⟨(frm 49 [(2, .ptr 1 0), (3, .ref 2), (4, .ref 3), (5, AI (x : Int)), (6, AI ((upL n xs).getD x 0)), (16, .ref 2), (17, AI ((upL n xs).length)), (18, AI (x : Int)), (23, .ref 2), (24, AI ((upL n xs).length)), (25, AI (y : Int))]), [.inert (.base b), .box 28 [.nil, .nil, .nil, AI 0, AI 0], rowA eI 2 1 (upL n xs), rowA eI 2 1 W]⟩ : St) : Nat × (List Int) → St)) (fun | (y, W) => (y ≤ (upL n xs).length) ∧ (W = ordW (upL n xs) x y)) (fun | (y, W) => (upL n xs).length - y) (0, (rowT (fun x => mkB (subU (upL n xs) x) (upL n xs).length) (upL n xs).length x)) [2, 3, 4, 5, 6, 16, 17, 18, 23, 24, 25] none (by kernel_rfl) (by kernel_rfl) (by kernel_rfl) ⟨(by omega), (by exact ordW_zero (by omega))⟩ ?_)
    rintro ⟨y, W⟩ ⟨h9_1, rfl⟩ R6 N7
    have hwl := ordW_len (upL n xs) x y
    refine R.go 5 (R.cond ((y : Int) < ((upL n xs).length : Int)) (by kernel_rfl) (fun c10 => ?_) (fun c10 => ?_))
    · refine R.go 6 (R.idxO 2 1 (upL n xs).length y (y : Int) (by kernel_rfl) rfl (by omega) (by kernel_rfl) ?_)
      refine R.ldI (upL n xs) y (by kernel_rfl) (by omega) (by kernel_rfl) ?_
      refine R.go 7 (R.call true (within_c ((upL n xs).getD x 0) ((upL n xs).getD y 0)) (by kernel_rfl) rfl (by kernel_rfl) ?_)
      refine R.go 1 (R.cond (bnot ((upL n xs).getD x 0) ((upL n xs).getD y 0) = 0) (by kernel_rfl) (fun c11 => ?_) (fun c11 => ?_))
      · refine R.meet (⟨(frm 49 [(2, .ptr 1 0), (3, .ref 2), (4, .ref 3), (5, AI (x : Int)), (6, AI ((upL n xs).getD x 0)), (7, AI (y : Int)), (8, AI ((upL n xs).getD y 0)), (16, .ref 2), (17, AI ((upL n xs).length)), (18, AI (x : Int)), (23, .ref 2), (24, AI ((upL n xs).length)), (25, AI (y : Int)), (26, .bool (decide ((y : Int) < ((upL n xs).length : Int)))), (27, AI (y : Int)), (28, .ptr 2 (y * 1)), (29, AI ((upL n xs).getD y 0)), (30, AI ((upL n xs).getD x 0)), (31, AI ((upL n xs).getD y 0)), (32, .bool (decide (bnot ((upL n xs).getD x 0) ((upL n xs).getD y 0) = 0))), (33, .ref 3), (34, AI (x : Int)), (35, .ptr 3 (x * 1)), (36, AI ((ordW (upL n xs) x y).getD x 0)), (37, AI (y : Int)), (38, AI (shl64 1 (y : Int))), (39, AI (bor ((ordW (upL n xs) x y).getD x 0) (shl64 1 (y : Int)))), (40, .ptr 3 (x * 1))]), [.inert (.base b), .box 28 [.nil, .nil, .nil, AI 0, AI 0], rowA eI 2 1 (upL n xs), rowA eI 2 1 ((ordW (upL n xs) x y).set x (bor ((ordW (upL n xs) x y).getD x 0) (shl64 1 (y : Int))))]⟩ : St) (by kernel_rfl) ?_ ?_
        · refine R.any (by decide +kernel) (by kernel_rfl) ?_
          refine R.anyF 0 (by kernel_rfl) (np_meet _) ?_
          refine R.anyF 1 (by kernel_rfl) (np_meet _) ?_
          refine R.anyF 4 (by kernel_rfl) (np_meet _) ?_
          refine R.anyO 2 3 1 (ordW (upL n xs) x y).length x (x : Int) (by kernel_rfl) rfl (by omega) (np_meet _) ?_
          refine R.anyS 5 1 (y : Int) (by kernel_rfl) (by omega) (np_meet _) ?_
          refine R.any1 3 (by kernel_rfl) (by kernel_rfl) ?_
          refine R.ldI (ordW (upL n xs) x y) x (by kernel_rfl) (by omega) (by kernel_rfl) ?_
          refine R.go 1 (R.any1 6 (by kernel_rfl) (by kernel_rfl) ?_)
          refine R.go 2 (R.anyO 7 3 1 (ordW (upL n xs) x y).length x (x : Int) (by kernel_rfl) rfl (by omega) (np_meet _) ?_)
          refine R.any1 8 (by kernel_rfl) (by kernel_rfl) ?_
          refine R.stI 3 2 (ordW (upL n xs) x y) x (bor ((ordW (upL n xs) x y).getD x 0) (shl64 1 (y : Int))) (by kernel_rfl) (by omega) (by kernel_rfl) ?_
          refine R.go 1 (R.any0 (by kernel_rfl) ?_)
          exact R.met (by kernel_rfl) (by kernel_rfl)
        · refine R.go 2 (R.ar ((y : Int) + 1) (by kernel_rfl) (by omega) (by omega) (by kernel_rfl) ?_)
          exact R.go 2 (R.stop R6 (by kernel_rfl) (N7 (y + 1, (ordW (upL n xs) x y).set x (bor ((ordW (upL n xs) x y).getD x 0) (shl64 1 (y : Int)))) [2, 3, 4, 5, 6, 16, 17, 18, 23, 24, 25] none _ (by kernel_rfl) (by kernel_rfl) ⟨(by omega), (by first | exact ordW_yes (by omega) (by assumption) | exact ordW_no (by assumption))⟩ (by show ((upL n xs).length - (y + 1)) < ((upL n xs).length - y); omega)))
      · refine R.go 3 (R.ar ((y : Int) + 1) (by kernel_rfl) (by omega) (by omega) (by kernel_rfl) ?_)
        exact R.go 2 (R.stop R6 (by kernel_rfl) (N7 (y + 1, ordW (upL n xs) x y) [2, 3, 4, 5, 6, 16, 17, 18, 23, 24, 25] none _ (by kernel_rfl) (by kernel_rfl) ⟨(by omega), (by first | exact ordW_yes (by omega) (by assumption) | exact ordW_no (by assumption))⟩ (by show ((upL n xs).length - (y + 1)) < ((upL n xs).length - y); omega)))
    · refine R.go 3 (R.ar ((x : Int) + 1) (by kernel_rfl) (by omega) (by omega) (by kernel_rfl) ?_)
      exact R.go 2 (R.stop R1 (by kernel_rfl) (N2 (x + 1, ordW (upL n xs) x y) [2, 3, 4, 16, 17, 18] none _ (by kernel_rfl) (by kernel_rfl) ⟨(by omega), (by exact ordW_end (by omega) (by omega))⟩ (by show ((upL n xs).length - (x + 1)) < ((upL n xs).length - x); omega)))
  · refine R.go 4 (R.callE (avs0 := [.ref 3]) (heytingOfU_c (upL n xs) (rowT (fun x => mkB (subU (upL n xs) x) (upL n xs).length) (upL n xs).length x) (by first | exact ordU_rowR (by omega) | exact ordU_row (by omega)) hH) (by kernel_rfl) (.cons (.ref (e := 2) (s := 1) (n := (rowT (fun x => mkB (subU (upL n xs) x) (upL n xs).length) (upL n xs).length x).length) (cs := rows eI (rowT (fun x => mkB (subU (upL n xs) x) (upL n xs).length) (upL n xs).length x)) (by kernel_rfl)) (.nil)) (heytingOfU_c_cl (upL n xs) (rowT (fun x => mkB (subU (upL n xs) x) (upL n xs).length) (upL n xs).length x)) (by kernel_rfl) ?_)
    intro bE1 hbn12 hsn13 rn14 hrn15
    obtain ⟨LAE1, LOE1, LJE1, rfl, heE1_1, heE1_2, heE1_3, heE1_4, heE1_5, heE1_6, heE1_7, heE1_8, heE1_9⟩ := hrn15
    have hbb16 : b ≤ bE1 := hbn12 0 b (by kernel_rfl)
    clear hbn12 hsn13
    exact R.go 12 (R.retB (.agg [ownA (eV eI 2 1) 22 1 LAE1, ownA (eV eI 2 1) 22 1 LOE1, ownA (eV eI 2 1) 22 1 LJE1, AI (lowF (ordU (upL n xs)) (fullM (ordU (upL n xs)).length)), AI (lowF (invA (ordU (upL n xs)) (ordU (upL n xs)).length) (fullM (ordU (upL n xs)).length))]) (by kernel_rfl) (by kernel_rfl) ⟨LAE1, LOE1, LJE1, rfl, by first | (exact NL.mono ‹NL bE1 LAE1› ‹b ≤ bE1›) | (exfalso; omega), by first | (exact NL.mono ‹NL bE1 LOE1› ‹b ≤ bE1›) | (exfalso; omega), by first | (exact NL.mono ‹NL bE1 LJE1› ‹b ≤ bE1›) | (exfalso; omega), by first | (assumption) | (exfalso; omega), by first | (assumption) | (exfalso; omega), by first | (assumption) | (exfalso; omega), by first | (assumption) | (exfalso; omega), by first | (assumption) | (exfalso; omega), by first | (assumption) | (exfalso; omega)⟩)
theorem upsetAlgebra_c_cl (n : Int) (xs : List Int) : ∀ (b : Nat) (r : AV), (fun (b : Nat) (r : AV) => ∃ LA : List (Value × List Int), ∃ LO : List (Value × List Int), ∃ LJ : List (Value × List Int), r = .agg [ownA (eV eI 2 1) 22 1 LA, ownA (eV eI 2 1) 22 1 LO, ownA (eV eI 2 1) 22 1 LJ, AI (lowF (ordU (upL n xs)) (fullM (ordU (upL n xs)).length)), AI (lowF (invA (ordU (upL n xs)) (ordU (upL n xs)).length) (fullM (ordU (upL n xs)).length))] ∧ (NL b LA) ∧ (NL b LO) ∧ (NL b LJ) ∧ (NX LA LO) ∧ (NX LA LJ) ∧ (NX LO LJ) ∧ (LA.map Prod.snd = tabR (hyM (ordU (upL n xs))) (ordU (upL n xs)).length (ordU (upL n xs)).length) ∧ (LO.map Prod.snd = tabR (hyJ (ordU (upL n xs))) (ordU (upL n xs)).length (ordU (upL n xs)).length) ∧ (LJ.map Prod.snd = tabR (hyI (ordU (upL n xs))) (ordU (upL n xs)).length (ordU (upL n xs)).length)) b r → ClosedN b r := by
 rintro b r ⟨LA, LO, LJ, rfl, e0, e1, e2, e3, e4, e5, e6, e7, e8⟩
 exact (closedN_agg (closedNL_cons (closedN_own _ e0 eI_closed) (closedNL_cons (closedN_own _ e1 eI_closed) (closedNL_cons (closedN_own _ e2 eI_closed) (closedNL_cons closedN_int (closedNL_cons closedN_int closedNL_nil))))))

end Go.Proofs.Ytalfakdiinhdnaa


/-! The law of UpsetAlgebra. -/
namespace Go.Proofs.Ytalfakdiinhdnaa
open Go.RowKit Go.Abs

/-- What UpsetAlgebra answers. -/
def uaC (n : Int) (xs : List Int) : Int := if okPo n xs = true then (if (upL n xs).length > 30 then 3 else 0) else 1
def uaT (f : List Int → Nat → Nat → Int) (n : Int) (xs : List Int) : List (List Int) := if uaC n xs = 0 then tabR (f (ordU (upL n xs))) (ordU (upL n xs)).length (ordU (upL n xs)).length else []
def uaA (n : Int) (xs : List Int) : List (List Int) := uaT hyM n xs
def uaO (n : Int) (xs : List Int) : List (List Int) := uaT hyJ n xs
def uaI (n : Int) (xs : List Int) : List (List Int) := uaT hyI n xs
def uaB (n : Int) (xs : List Int) : Int := if uaC n xs = 0 then lowF (ordU (upL n xs)) (fullM (ordU (upL n xs)).length) else 0
def uaP (n : Int) (xs : List Int) : Int := if uaC n xs = 0 then lowF (invA (ordU (upL n xs)) (ordU (upL n xs)).length) (fullM (ordU (upL n xs)).length) else 0
theorem ua_bad {n : Int} {xs : List Int} (h : okPo n xs = false) : uaC n xs = 1 ∧ uaA n xs = [] ∧ uaO n xs = [] ∧ uaI n xs = [] ∧ uaB n xs = 0 ∧ uaP n xs = 0 := by
  have e : uaC n xs = 1 := by simp [uaC, h]
  simp [uaA, uaO, uaI, uaT, uaB, uaP, e]
theorem ua_lim {n : Int} {xs : List Int} (h : okPo n xs = true) (h2 : (upL n xs).length > 30) : uaC n xs = 3 ∧ uaA n xs = [] ∧ uaO n xs = [] ∧ uaI n xs = [] ∧ uaB n xs = 0 ∧ uaP n xs = 0 := by
  have e : uaC n xs = 3 := by simp [uaC, h, h2]
  simp [uaA, uaO, uaI, uaT, uaB, uaP, e]
theorem ua_ok {n : Int} {xs : List Int} (h : okPo n xs = true) (h2 : (upL n xs).length ≤ 30) : uaC n xs = 0 ∧ uaA n xs = tabR (hyM (ordU (upL n xs))) (ordU (upL n xs)).length (ordU (upL n xs)).length ∧ uaO n xs = tabR (hyJ (ordU (upL n xs))) (ordU (upL n xs)).length (ordU (upL n xs)).length ∧ uaI n xs = tabR (hyI (ordU (upL n xs))) (ordU (upL n xs)).length (ordU (upL n xs)).length ∧ uaB n xs = lowF (ordU (upL n xs)) (fullM (ordU (upL n xs)).length) ∧ uaP n xs = lowF (invA (ordU (upL n xs)) (ordU (upL n xs)).length) (fullM (ordU (upL n xs)).length) := by
  have e : uaC n xs = 0 := by simp [uaC, h]; omega
  simp [uaA, uaO, uaI, uaT, uaB, uaP, e]
theorem ua_cases (n : Int) (xs : List Int) : okPo n xs = false ∨ (okPo n xs = true ∧ (upL n xs).length > 30) ∨ (okPo n xs = true ∧ (upL n xs).length ≤ 30) := by
  cases h : okPo n xs with
  | false => exact .inl rfl
  | true => rcases Nat.lt_or_ge 30 (upL n xs).length with h2 | h2
            · exact .inr (.inl ⟨rfl, h2⟩)
            · exact .inr (.inr ⟨rfl, h2⟩)
theorem uaT_len (f : List Int → Nat → Nat → Int) (n : Int) (xs : List Int) : (uaT f n xs).length ≤ 30 ∧ ∀ j : Nat, j < (uaT f n xs).length → ((uaT f n xs).getD j []).length ≤ 30 := by
  rcases ua_cases n xs with h | ⟨h, h2⟩ | ⟨h, h2⟩
  · have e : uaC n xs = 1 := by simp [uaC, h]
    simp [uaT, e]
  · have e : uaC n xs = 3 := by simp [uaC, h, h2]
    simp [uaT, e]
  · have e : uaC n xs = 0 := by simp [uaC, h]; omega
    rw [uaT, if_pos e, tabR_len, ordU_len]
    exact ⟨h2, fun j hj => by rw [tabR_get hj, rowR_len]; exact h2⟩
theorem mkI_row {X Y : List Int} {k : Int} {i : Nat} (hX : X = Y) (hi : i = X.length) : markI X k i = markC Y.length k := by subst hX hi; exact markI_all _ _ _ rfl
theorem lenG_le' {α : Type} {l : List (List α)} {c : Nat} (h : ∀ j, j < l.length → (l.getD j []).length ≤ c) : ∀ i, i ≤ l.length → lenG l i ≤ c * i
  | 0, _ => by simp [lenG]
  | i + 1, hi => by
    have h1 := lenG_le' h i (by omega)
    have h2 := h i (by omega)
    rw [lenG, Nat.mul_add]; omega
theorem uaT_sum (f : List Int → Nat → Nat → Int) (n : Int) (xs : List Int) : lenG (uaT f n xs) (uaT f n xs).length ≤ 900 := by
  obtain ⟨h1, h2⟩ := uaT_len f n xs
  have := lenG_le' h2 _ (Nat.le_refl _)
  omega
theorem uaF {f : List Int → Nat → Nat → Int} {n : Int} {xs : List Int} {L : List (Value × List Int)} (h : L.map Prod.snd = uaT f n xs) : L.length = (uaT f n xs).length ∧ (L.map Prod.snd).length ≤ 1000000000 ∧ (∀ j : Nat, j < (L.map Prod.snd).length → ((L.map Prod.snd).getD j []).length ≤ 1000000000) := by
  obtain ⟨h1, h2⟩ := uaT_len f n xs
  refine ⟨lenV h, by rw [h]; omega, fun j hj => ?_⟩
  rw [h] at hj ⊢
  have := h2 j hj
  omega
theorem NX.at {α β : Type} {L : List (Value × List α)} {K : List (Value × List β)} (h : NX L K) (d : Value × List α) {i : Nat} (hi : i < L.length) : ∀ x ∈ K, ∀ g, blk (L.getD i d).1 = some g → blk x.1 ≠ some g :=
  fun x hx g a => h _ (List.mem_of_getElem? (i := i) (by simp [List.getD_eq_getElem?_getD, List.getElem?_eq_getElem hi])) x hx g a
theorem NX.at' {α β : Type} {L : List (Value × List α)} {K : List (Value × List β)} (h : NX K L) (d : Value × List α) {i : Nat} (hi : i < L.length) : ∀ x ∈ K, ∀ g, blk (L.getD i d).1 = some g → blk x.1 ≠ some g :=
  fun x hx g a b => h x hx _ (List.mem_of_getElem? (i := i) (by simp [List.getD_eq_getElem?_getD, List.getElem?_eq_getElem hi])) g b a
theorem set_names {α : Type} {L : List (Value × List α)} {i : Nat} {d : Value × List α} {ys : List α} (hi : i < L.length) {x : Value × List α} (hx : x ∈ L.set i ((L.getD i d).1, ys)) : ∃ y ∈ L, y.1 = x.1 := by
  rcases List.mem_or_eq_of_mem_set hx with h | h
  · exact ⟨x, h, rfl⟩
  · exact ⟨L.getD i d, List.mem_of_getElem? (i := i) (by simp [List.getD_eq_getElem?_getD, List.getElem?_eq_getElem hi]), by rw [h]⟩
theorem NX.setL {α β : Type} {L : List (Value × List α)} {K : List (Value × List β)} (h : NX L K) (i : Nat) (d : Value × List α) (ys : List α) (hi : i < L.length) : NX (L.set i ((L.getD i d).1, ys)) K := by
  intro u hu w hw g a b
  obtain ⟨y, hy, e⟩ := set_names hi hu
  exact h y hy w hw g (by rw [e]; exact a) b
theorem NX.setR {α β : Type} {L : List (Value × List α)} {K : List (Value × List β)} (h : NX L K) (i : Nat) (d : Value × List β) (ys : List β) (hi : i < K.length) : NX L (K.set i ((K.getD i d).1, ys)) := by
  intro u hu w hw g a b
  obtain ⟨y, hy, e⟩ := set_names hi hw
  exact h u hu y hy g a (by rw [e]; exact b)

theorem UpsetAlgebra_c (n : Int) (xs : List Int) (lx : xs.length ≤ 1048576) : CallE Try.prog 9 [.agg [AI n, LI xs]] (fun (b : Nat) (r : AV) => ∃ LA : List (Value × List Int), ∃ LO : List (Value × List Int), ∃ LJ : List (Value × List Int), r = .tup [.agg [ownA (eV eI 2 1) 22 1 LA, ownA (eV eI 2 1) 22 1 LO, ownA (eV eI 2 1) 22 1 LJ, AI (uaB n xs), AI (uaP n xs)], AI (uaC n xs)] ∧ (NL b LA) ∧ (NL b LO) ∧ (NL b LJ) ∧ (NX LA LO) ∧ (NX LA LJ) ∧ (NX LO LJ) ∧ (LA.map Prod.snd = uaA n xs) ∧ (LO.map Prod.snd = uaO n xs) ∧ (LJ.map Prod.snd = uaI n xs)) := by
  refine CallE.of Try.func9 rfl (by kernel_rfl) (fun b => ?_)
  refine R.go 11 (R.call true (isPoset_c n xs (by first | omega | (simp <;> omega))) (by kernel_rfl) rfl (by kernel_rfl) ?_)
  refine R.go 3 (R.condM (okPo n xs) (by kernel_rfl) (fun c1 => ?_) (fun c1 => ?_))
  · have hP : okPo n xs = false := by assumption
    obtain ⟨hu1, hu2, hu3, hu4, hu5, hu6⟩ := ua_bad hP
    refine R.go 6 (R.nilB 2 0 22 1 (by kernel_rfl) ?_)
    refine R.nilB 2 1 22 1 (by kernel_rfl) ?_
    refine R.nilB 2 2 22 1 (by kernel_rfl) ?_
    exact R.retB (.tup [.agg [ownA (eV eI 2 1) 22 1 [], ownA (eV eI 2 1) 22 1 [], ownA (eV eI 2 1) 22 1 [], AI 0, AI 0], AI 1]) (by kernel_rfl) (by kernel_rfl) ⟨[], [], [], by first | rfl | (rw [hu1, hu5, hu6]) | (exfalso; omega), by first | (first | exact NL.nil | exact NL.mono ‹NL bE1 LAE1› ‹b ≤ bE1›) | (exfalso; omega), by first | (first | exact NL.nil | exact NL.mono ‹NL bE1 LOE1› ‹b ≤ bE1›) | (exfalso; omega), by first | (first | exact NL.nil | exact NL.mono ‹NL bE1 LJE1› ‹b ≤ bE1›) | (exfalso; omega), by first | (first | exact NX.nil | assumption) | (exfalso; omega), by first | (first | exact NX.nil | assumption) | (exfalso; omega), by first | (first | exact NX.nil | assumption) | (exfalso; omega), by first | (rw [hu2]; first | rfl | assumption) | (exfalso; omega), by first | (rw [hu3]; first | rfl | assumption) | (exfalso; omega), by first | (rw [hu4]; first | rfl | assumption) | (exfalso; omega)⟩
  · refine R.go 3 (R.call true (upsets_c n xs c1).frz (by kernel_rfl) rfl (by kernel_rfl) ?_)
    refine R.go 4 (R.cond (((upL n xs).length : Int) > 30) (by kernel_rfl) (fun c2 => ?_) (fun c2 => ?_))
    · have hP : okPo n xs = true := by assumption
      have h30 : (upL n xs).length > 30 := by omega
      obtain ⟨hu1, hu2, hu3, hu4, hu5, hu6⟩ := ua_lim hP h30
      refine R.go 6 (R.nilB 2 0 22 1 (by kernel_rfl) ?_)
      refine R.nilB 2 1 22 1 (by kernel_rfl) ?_
      refine R.nilB 2 2 22 1 (by kernel_rfl) ?_
      exact R.retB (.tup [.agg [ownA (eV eI 2 1) 22 1 [], ownA (eV eI 2 1) 22 1 [], ownA (eV eI 2 1) 22 1 [], AI 0, AI 0], AI 3]) (by kernel_rfl) (by kernel_rfl) ⟨[], [], [], by first | rfl | (rw [hu1, hu5, hu6]) | (exfalso; omega), by first | (first | exact NL.nil | exact NL.mono ‹NL bE1 LAE1› ‹b ≤ bE1›) | (exfalso; omega), by first | (first | exact NL.nil | exact NL.mono ‹NL bE1 LOE1› ‹b ≤ bE1›) | (exfalso; omega), by first | (first | exact NL.nil | exact NL.mono ‹NL bE1 LJE1› ‹b ≤ bE1›) | (exfalso; omega), by first | (first | exact NX.nil | assumption) | (exfalso; omega), by first | (first | exact NX.nil | assumption) | (exfalso; omega), by first | (first | exact NX.nil | assumption) | (exfalso; omega), by first | (rw [hu2]; first | rfl | assumption) | (exfalso; omega), by first | (rw [hu3]; first | rfl | assumption) | (exfalso; omega), by first | (rw [hu4]; first | rfl | assumption) | (exfalso; omega)⟩
    · have hP : okPo n xs = true := by assumption
      have h30 : (upL n xs).length ≤ 30 := by omega
      obtain ⟨hu1, hu2, hu3, hu4, hu5, hu6⟩ := ua_ok hP h30
      refine R.go 5 (R.callE (avs0 := [.agg [AI n, LI xs]]) (upsetAlgebra_c n xs hP h30) (by kernel_rfl) (.cons (.agg (.cons (.leaf rfl) (.cons (.leaf rfl) (.nil)))) (.nil)) (upsetAlgebra_c_cl n xs) (by kernel_rfl) ?_)
      intro bE1 hbn3 hsn4 rn5 hrn6
      obtain ⟨LAE1, LOE1, LJE1, rfl, heE1_1, heE1_2, heE1_3, heE1_4, heE1_5, heE1_6, heE1_7, heE1_8, heE1_9⟩ := hrn6
      have hbb7 : b ≤ bE1 := hbn3 0 b (by kernel_rfl)
      clear hbn3 hsn4
      exact R.go 3 (R.retB (.tup [.agg [ownA (eV eI 2 1) 22 1 LAE1, ownA (eV eI 2 1) 22 1 LOE1, ownA (eV eI 2 1) 22 1 LJE1, AI (lowF (ordU (upL n xs)) (fullM (ordU (upL n xs)).length)), AI (lowF (invA (ordU (upL n xs)) (ordU (upL n xs)).length) (fullM (ordU (upL n xs)).length))], AI 0]) (by kernel_rfl) (by kernel_rfl) ⟨LAE1, LOE1, LJE1, by first | rfl | (rw [hu1, hu5, hu6]) | (exfalso; omega), by first | (first | exact NL.nil | exact NL.mono ‹NL bE1 LAE1› ‹b ≤ bE1›) | (exfalso; omega), by first | (first | exact NL.nil | exact NL.mono ‹NL bE1 LOE1› ‹b ≤ bE1›) | (exfalso; omega), by first | (first | exact NL.nil | exact NL.mono ‹NL bE1 LJE1› ‹b ≤ bE1›) | (exfalso; omega), by first | (first | exact NX.nil | assumption) | (exfalso; omega), by first | (first | exact NX.nil | assumption) | (exfalso; omega), by first | (first | exact NX.nil | assumption) | (exfalso; omega), by first | (rw [hu2]; first | rfl | assumption) | (exfalso; omega), by first | (rw [hu3]; first | rfl | assumption) | (exfalso; omega), by first | (rw [hu4]; first | rfl | assumption) | (exfalso; omega)⟩)
theorem UpsetAlgebra_c_cl (n : Int) (xs : List Int) : ∀ (b : Nat) (r : AV), (fun (b : Nat) (r : AV) => ∃ LA : List (Value × List Int), ∃ LO : List (Value × List Int), ∃ LJ : List (Value × List Int), r = .tup [.agg [ownA (eV eI 2 1) 22 1 LA, ownA (eV eI 2 1) 22 1 LO, ownA (eV eI 2 1) 22 1 LJ, AI (uaB n xs), AI (uaP n xs)], AI (uaC n xs)] ∧ (NL b LA) ∧ (NL b LO) ∧ (NL b LJ) ∧ (NX LA LO) ∧ (NX LA LJ) ∧ (NX LO LJ) ∧ (LA.map Prod.snd = uaA n xs) ∧ (LO.map Prod.snd = uaO n xs) ∧ (LJ.map Prod.snd = uaI n xs)) b r → ClosedN b r := by
 rintro b r ⟨LA, LO, LJ, rfl, e0, e1, e2, e3, e4, e5, e6, e7, e8⟩
 exact (closedN_tup (closedNL_cons (closedN_agg (closedNL_cons (closedN_own _ e0 eI_closed) (closedNL_cons (closedN_own _ e1 eI_closed) (closedNL_cons (closedN_own _ e2 eI_closed) (closedNL_cons closedN_int (closedNL_cons closedN_int closedNL_nil)))))) (closedNL_cons closedN_int closedNL_nil)))

theorem UpsetAlgebra_s (n : Int) (xs : List Int) (lx : xs.length ≤ 1048576) : CallA Try.prog 7 [.agg [AI n, LI xs]] (.tup [.agg [ownA eLI 22 1 (uaA n xs), ownA eLI 22 1 (uaO n xs), ownA eLI 22 1 (uaI n xs), AI (uaB n xs), AI (uaP n xs)], AI (uaC n xs)]) := by
  refine CallA.of Try.func7 rfl (by kernel_rfl) ?_
  refine R.go 11 (R.call true (l16Is_c n xs (by first | omega | (simp <;> omega))) (by kernel_rfl) rfl (by kernel_rfl) ?_)
  refine R.go 3 (R.condM (okPo n xs) (by kernel_rfl) (fun c1 => ?_) (fun c1 => ?_))
  · have hP : okPo n xs = false := by assumption
    obtain ⟨hu1, hu2, hu3, hu4, hu5, hu6⟩ := ua_bad hP
    refine R.go 6 (R.nilB 1 0 22 1 (by kernel_rfl) ?_)
    refine R.nilB 1 1 22 1 (by kernel_rfl) ?_
    refine R.nilB 1 2 22 1 (by kernel_rfl) ?_
    exact R.retE (.tup [.agg [ownA eLI 22 1 [], ownA eLI 22 1 [], ownA eLI 22 1 [], AI 0, AI 0], AI 1]) (by kernel_rfl) (by kernel_rfl) (by first | (rw [hu1, hu2, hu3, hu4, hu5, hu6]) | (exfalso; omega))
  · refine R.go 3 (R.call true (l16Upsets_c n xs c1).frz (by kernel_rfl) rfl (by kernel_rfl) ?_)
    refine R.go 4 (R.cond (((upL n xs).length : Int) > 30) (by kernel_rfl) (fun c2 => ?_) (fun c2 => ?_))
    · have hP : okPo n xs = true := by assumption
      have h30 : (upL n xs).length > 30 := by omega
      obtain ⟨hu1, hu2, hu3, hu4, hu5, hu6⟩ := ua_lim hP h30
      refine R.go 6 (R.nilB 1 0 22 1 (by kernel_rfl) ?_)
      refine R.nilB 1 1 22 1 (by kernel_rfl) ?_
      refine R.nilB 1 2 22 1 (by kernel_rfl) ?_
      exact R.retE (.tup [.agg [ownA eLI 22 1 [], ownA eLI 22 1 [], ownA eLI 22 1 [], AI 0, AI 0], AI 3]) (by kernel_rfl) (by kernel_rfl) (by first | (rw [hu1, hu2, hu3, hu4, hu5, hu6]) | (exfalso; omega))
    · have hP : okPo n xs = true := by assumption
      have h30 : (upL n xs).length ≤ 30 := by omega
      obtain ⟨hu1, hu2, hu3, hu4, hu5, hu6⟩ := ua_ok hP h30
      refine R.go 5 (R.call true (l18Of_c n xs hP h30) (by kernel_rfl) rfl (by kernel_rfl) ?_)
      exact R.go 3 (R.retE (.tup [.agg [ownA eLI 22 1 (tabR (hyM (ordU (upL n xs))) (ordU (upL n xs)).length (ordU (upL n xs)).length), ownA eLI 22 1 (tabR (hyJ (ordU (upL n xs))) (ordU (upL n xs)).length (ordU (upL n xs)).length), ownA eLI 22 1 (tabR (hyI (ordU (upL n xs))) (ordU (upL n xs)).length (ordU (upL n xs)).length), AI (lowF (ordU (upL n xs)) (fullM (ordU (upL n xs)).length)), AI (lowF (invA (ordU (upL n xs)) (ordU (upL n xs)).length) (fullM (ordU (upL n xs)).length))], AI 0]) (by kernel_rfl) (by kernel_rfl) (by first | (rw [hu1, hu2, hu3, hu4, hu5, hu6]) | (exfalso; omega)))

theorem eqInt64SS_c (a : List (List Int)) (b : List (List Int)) (la : a.length ≤ 1000000000) (lb : ∀ j : Nat, j < a.length → (a.getD j []).length ≤ 1000000000) : CallA Try.prog 17 [LLI a, LLI b] (.bool (decide (a = b))) := by
  refine CallA.of Try.func17 rfl (by kernel_rfl) ?_
  refine R.go 13 (R.condN ((a.length : Int) = (b.length : Int)) (by kernel_rfl) (fun c1 => ?_) (fun c1 => ?_))
  · exact R.go 4 (R.retE (.bool false) (by kernel_rfl) (by kernel_rfl) (by first | (first | (rw [dF (fun h => by subst h; omega)]) | (rw [dT (take_all (i := i) (by omega) (by omega) (by assumption))]) | (rw [dF (fun h => by subst h; exact absurd rfl (by assumption))])) | (exfalso; omega)))
  · refine R.go 7 (R.loop (fun (i : Nat) => (⟨(frm 27 [(0, LLI a), (1, LLI b), (5, AI (i : Int))]), []⟩ : St)) (fun (i : Nat) => (i ≤ a.length) ∧ (a.take i = b.take i)) (fun (i : Nat) => a.length - i) 0 [0, 1, 5] none (by kernel_rfl) (by kernel_rfl) (by kernel_rfl) ⟨(by omega), (by rfl)⟩ ?_)
    rintro i ⟨h4_1, h4_2⟩ R2 N3
    refine R.go 8 (R.cond ((i : Int) < (a.length : Int)) (by kernel_rfl) (fun c5 => ?_) (fun c5 => ?_))
    · have hgl := lb i (by omega)
      refine R.go 7 (R.idx eLI a [] i (i : Int) (by kernel_rfl) rfl eLI_len (by omega) (by kernel_rfl) ?_)
      refine R.go 3 (R.idx eLI b [] i (i : Int) (by kernel_rfl) rfl eLI_len (by omega) (by kernel_rfl) ?_)
      refine R.go 1 (R.call true (eqInt64S_c (a.getD i []) (b.getD i []) (by first | omega | (simp <;> omega))) (by kernel_rfl) rfl (by kernel_rfl) ?_)
      refine R.go 2 (R.condN ((a.getD i []) = (b.getD i [])) (by kernel_rfl) (fun c6 => ?_) (fun c6 => ?_))
      · exact R.go 4 (R.retE (.bool false) (by kernel_rfl) (by kernel_rfl) (by first | (first | (rw [dF (fun h => by subst h; omega)]) | (rw [dT (take_all (i := i) (by omega) (by omega) (by assumption))]) | (rw [dF (fun h => by subst h; exact absurd rfl (by assumption))])) | (exfalso; omega)))
      · refine R.go 4 (R.ar ((i : Int) + 1) (by kernel_rfl) (by omega) (by omega) (by kernel_rfl) ?_)
        exact R.go 2 (R.stop R2 (by kernel_rfl) (N3 (i + 1) [0, 1, 5] none _ (by kernel_rfl) (by kernel_rfl) ⟨(by omega), (by exact take_step a b [] i (by omega) (by omega) (by assumption) (by assumption))⟩ (by show (a.length - (i + 1)) < (a.length - i); omega)))
    · exact R.go 5 (R.retE (.bool true) (by kernel_rfl) (by kernel_rfl) (by first | (first | (rw [dF (fun h => by subst h; omega)]) | (rw [dT (take_all (i := i) (by omega) (by omega) (by assumption))]) | (rw [dF (fun h => by subst h; exact absurd rfl (by assumption))])) | (exfalso; omega)))

theorem eqHeyting_c (a : List (List Int)) (o : List (List Int)) (j : List (List Int)) (a2 : List (List Int)) (o2 : List (List Int)) (j2 : List (List Int)) (b : Int) (t : Int) (ea : a = a2) (eo : o = o2) (ej : j = j2) (la : a.length ≤ 1000000000) (ma : ∀ i0 : Nat, i0 < a.length → (a.getD i0 []).length ≤ 1000000000) (lo : o.length ≤ 1000000000) (mo : ∀ i0 : Nat, i0 < o.length → (o.getD i0 []).length ≤ 1000000000) (lj : j.length ≤ 1000000000) (mj : ∀ i0 : Nat, i0 < j.length → (j.getD i0 []).length ≤ 1000000000) : CallA Try.prog 10 [.agg [LLI a, LLI o, LLI j, AI b, AI t], .agg [LLI a2, LLI o2, LLI j2, AI b, AI t]] (.bool true) := by
  refine CallA.of Try.func10 rfl (by kernel_rfl) ?_
  refine R.go 13 (R.call true (eqInt64SS_c a a2 la (by assumption)) (by kernel_rfl) rfl (by kernel_rfl) ?_)
  refine R.go 2 (R.els (!decide (a = a2)) (by kernel_rfl) (nF ea) ?_)
  refine R.go 8 (R.call true (eqInt64SS_c o o2 lo (by assumption)) (by kernel_rfl) rfl (by kernel_rfl) ?_)
  refine R.go 2 (R.els (!decide (o = o2)) (by kernel_rfl) (nF eo) ?_)
  refine R.go 8 (R.call true (eqInt64SS_c j j2 lj (by assumption)) (by kernel_rfl) rfl (by kernel_rfl) ?_)
  refine R.go 2 (R.els (!decide (j = j2)) (by kernel_rfl) (nF ej) ?_)
  refine R.go 10 (R.els (!decide (b = b)) (by kernel_rfl) (nF rfl) ?_)
  refine R.go 10 (R.els (!decide (t = t)) (by kernel_rfl) (nF rfl) ?_)
  exact R.go 5 (R.retE (.bool true) (by kernel_rfl) (by kernel_rfl) (by rfl))

theorem heldHeyting_c (a : List (List Int)) (o : List (List Int)) (j : List (List Int)) (b : Int) (t : Int) (k : Int) (la : a.length ≤ 1000000 ∧ o.length ≤ 1000000 ∧ j.length ≤ 1000000) (hk : 0 ≤ k ∧ k + 1 * (lenG a a.length : Int) + 1 * (lenG o o.length : Int) + 1 * (lenG j j.length : Int) ≤ 1000000) (ha : HdG markC 1 k a) (ho : HdG markC 1 (k + 1 * (lenG a a.length : Int)) o) (hj : HdG markC 1 (k + 1 * (lenG a a.length : Int) + 1 * (lenG o o.length : Int)) j) : CallA Try.prog 14 [.agg [LLI a, LLI o, LLI j, AI b, AI t], AI k] (AI (k + 1 * (lenG a a.length : Int) + 1 * (lenG o o.length : Int) + 1 * (lenG j j.length : Int))) := by
  refine CallA.of Try.func14 rfl (by kernel_rfl) ?_
  refine R.go 10 (R.call true (heldInt64SS_c a k (by first | omega | (simp <;> omega)) (by first | omega | (simp <;> omega)) ha) (by kernel_rfl) rfl (by kernel_rfl) ?_)
  refine R.go 8 (R.cond ((k + 1 * (lenG a a.length : Int)) < 0) (by kernel_rfl) (fun c1 => ?_) (fun c1 => ?_))
  · exact R.go 4 (R.retE (AI (-1)) (by kernel_rfl) (by kernel_rfl) (by first | (rfl) | (exfalso; omega)))
  · refine R.go 6 (R.call true (heldInt64SS_c o (k + 1 * (lenG a a.length : Int)) (by first | omega | (simp <;> omega)) (by first | omega | (simp <;> omega)) ho) (by kernel_rfl) rfl (by kernel_rfl) ?_)
    refine R.go 8 (R.cond (((k + 1 * (lenG a a.length : Int)) + 1 * (lenG o o.length : Int)) < 0) (by kernel_rfl) (fun c2 => ?_) (fun c2 => ?_))
    · exact R.go 4 (R.retE (AI (-1)) (by kernel_rfl) (by kernel_rfl) (by first | (rfl) | (exfalso; omega)))
    · refine R.go 6 (R.call true (heldInt64SS_c j ((k + 1 * (lenG a a.length : Int)) + 1 * (lenG o o.length : Int)) (by first | omega | (simp <;> omega)) (by first | omega | (simp <;> omega)) (by assumption)) (by kernel_rfl) rfl (by kernel_rfl) ?_)
      refine R.go 8 (R.cond ((((k + 1 * (lenG a a.length : Int)) + 1 * (lenG o o.length : Int)) + 1 * (lenG j j.length : Int)) < 0) (by kernel_rfl) (fun c3 => ?_) (fun c3 => ?_))
      · exact R.go 4 (R.retE (AI (-1)) (by kernel_rfl) (by kernel_rfl) (by first | (rfl) | (exfalso; omega)))
      · exact R.go 6 (R.retE (AI (((k + 1 * (lenG a a.length : Int)) + 1 * (lenG o o.length : Int)) + 1 * (lenG j j.length : Int))) (by kernel_rfl) (by kernel_rfl) (by first | (rfl) | (exfalso; omega)))

end Go.Proofs.Ytalfakdiinhdnaa
