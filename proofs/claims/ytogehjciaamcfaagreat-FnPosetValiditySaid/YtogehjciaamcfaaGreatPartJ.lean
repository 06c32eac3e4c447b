/- Texts of the proof: PVA, SymK, SymL, SymM. -/
import Derived.Test.YtogehjciaamcfaaGreatPartI

/-! Forcing bit by bit; validity by all monotone valuations; sums. -/
namespace Go.Proofs.YtogehjciaamcfaaGreat
open Go.RowKit Go.Abs

/-- A formula is a variable, False, two parts under a node, or one. -/
theorem okm_cases {nv : Nat} {a : List (Int × Int)} (h : OKM nv a) : (∃ v, a = [(0, v)] ∧ 0 ≤ v ∧ v < nv) ∨ (∃ s, a = [(1, s)]) ∨ (∃ k s L R, (k = 2 ∨ k = 3 ∨ k = 4) ∧ a = (k, s) :: (L ++ R) ∧ OKM nv L ∧ OKM nv R ∧ lef a = L ∧ rig a = R) ∨ (∃ k s L, (k = 5 ∨ k = 6) ∧ a = (k, s) :: L ∧ OKM nv L) := by
  obtain ⟨⟨k, s⟩, r, rfl, hr⟩ := okm_cons h
  have hk := h.2 (k, s) (List.mem_cons_self ..)
  simp only at hk hr
  have hp : partsN k = 0 ∨ partsN k = 1 ∨ partsN k = 2 := by have := partsN_le k; omega
  rcases hp with hp | hp | hp
  · rw [hp, pe_zero] at hr
    have h0 : r = [] := List.eq_nil_of_length_eq_zero (by simpa using hr.symm)
    subst h0
    have hk01 : k = 0 ∨ k = 1 := by
      have h2 : ¬ (k = 2 ∨ k = 3 ∨ k = 4) := fun hq => by have := (partsN_two k).2 hq; omega
      have h5 : ¬ (k = 5 ∨ k = 6) := fun hq => by have := partsN_1 hq; omega
      omega
    rcases hk01 with rfl | rfl
    · exact .inl ⟨s, rfl, hk.2.2 rfl⟩
    · exact .inr (.inl ⟨s, rfl⟩)
  · obtain ⟨x, r', e, h1, h2⟩ := okm_one h (by simpa using hp)
    cases e
    refine .inr (.inr (.inr ⟨k, s, r, ?_, rfl, h1⟩))
    have h2 : ¬ (k = 2 ∨ k = 3 ∨ k = 4) := fun hq => by have := (partsN_two k).2 hq; omega
    have h0 : ¬ k = 0 := fun e => by subst e; exact absurd hp (by decide)
    have h1 : ¬ k = 1 := fun e => by subst e; exact absurd hp (by decide)
    omega
  · obtain ⟨x, L, R, e, h1, h2, _, h4, h5⟩ := okm_two h (by simpa using hp)
    cases e
    exact .inr (.inr (.inl ⟨k, s, L, R, (partsN_two k).1 hp, rfl, h1, h2, h4, h5⟩))

/-- What holds of a formula if it holds of its parts. -/
theorem okm_ind {nv : Nat} {C : List (Int × Int) → Prop} (hv : ∀ v : Int, 0 ≤ v → v < nv → C [(0, v)]) (hb : ∀ s : Int, C [(1, s)])
    (h2 : ∀ (k s : Int) (L R : List (Int × Int)), (k = 2 ∨ k = 3 ∨ k = 4) → OKM nv ((k, s) :: (L ++ R)) → OKM nv L → OKM nv R → C L → C R → C ((k, s) :: (L ++ R))) (h1 : ∀ (k s : Int) (L : List (Int × Int)), (k = 5 ∨ k = 6) → OKM nv ((k, s) :: L) → OKM nv L → C L → C ((k, s) :: L)) :
    ∀ {a : List (Int × Int)}, OKM nv a → C a := by
  intro a0 ha0
  have main : ∀ (m : Nat) (a : List (Int × Int)), a.length = m → OKM nv a → C a := by
    intro m
    induction m using Nat.strongRecOn with
    | _ m ih =>
      intro a hm ha
      rcases okm_cases ha with ⟨v, rfl, h0, h3⟩ | ⟨s, rfl⟩ | ⟨k, s, L, R, hk, rfl, hL, hR, _, _⟩ | ⟨k, s, L, hk, rfl, hL⟩
      · exact hv v h0 h3
      · exact hb s
      · simp only [List.length_cons, List.length_append] at hm
        exact h2 k s L R hk ha hL hR (ih _ (by omega) L rfl hL) (ih _ (by omega) R rfl hR)
      · simp only [List.length_cons] at hm
        exact h1 k s L hk ha hL (ih _ (by omega) L rfl hL)
  exact main _ _ rfl ha0

section
variable (b : Int → Int → Int → Int) (u : Int → Int → Int) (vs : List Int)
theorem gv_bot1 (s : Int) : gv b u vs [(1, s)] = 0 := rfl
theorem gv_two1 {nv : Nat} {k s : Int} {L R : List (Int × Int)} (hk : k = 2 ∨ k = 3 ∨ k = 4) (hL : OKM nv L) (hR : OKM nv R) : gv b u vs ((k, s) :: (L ++ R)) = b k (gv b u vs L) (gv b u vs R) := by
  conv => lhs; unfold gv stkG
  rw [List.foldr_cons, List.foldr_append, okm_stk b u vs hR, okm_stk b u vs hL, stepG_two _ _ _ hk]
  rfl
theorem gv_one1 {nv : Nat} {k s : Int} {L : List (Int × Int)} (hk : k = 5 ∨ k = 6) (hL : OKM nv L) : gv b u vs ((k, s) :: L) = u k (gv b u vs L) := by
  conv => lhs; unfold gv stkG
  rw [List.foldr_cons, okm_stk b u vs hL, stepG_one _ _ _ hk]
  rfl
end

theorem full_iff {n : Int} {m : Int} (h0 : 0 ≤ n) (h8 : n ≤ 8) (hm : InM n.toNat m) : m = (shl64 1 n) - 1 ↔ ∀ w, w < n.toNat → tb m w = true := by
  have hf := inM_full (n := n.toNat) (by omega)
  have htf : ∀ j, tb ((shl64 1 n) - 1) j = decide (j < n.toNat) := fun j => by
    have ht := tb_full (n := n.toNat) (by omega) j
    rwa [nn_eq h0] at ht
  rw [nn_eq h0] at hf
  constructor
  · rintro rfl w hw
    rw [htf, decide_eq_true hw]
  · intro h
    refine tb_ext hm.1 hf.1 fun w => ?_
    rw [htf]
    by_cases hw : w < n.toNat
    · rw [h w hw, decide_eq_true hw]
    · rw [decide_eq_false hw]
      cases e : tb m w with
      | false => rfl
      | true => exact absurd (tb_lt hm e) hw

/-- Values matter only for the variables that occur. -/
theorem gv_agree {b : Int → Int → Int → Int} {u : Int → Int → Int} {X Y : List Int} {nv : Nat} {a : List (Int × Int)} (ha : OKM nv a) : (∀ v : Int, (0, v) ∈ a → X.getD v.toNat 0 = Y.getD v.toNat 0) → gv b u X a = gv b u Y a := by
  refine okm_ind (C := fun a => (∀ v : Int, (0, v) ∈ a → X.getD v.toNat 0 = Y.getD v.toNat 0) → gv b u X a = gv b u Y a) ?_ ?_ ?_ ?_ ha
  · intro v _ _ h
    exact h v (by simp)
  · intro s _
    rfl
  · intro k s L R hk _ hL hR iL iR h
    rw [gv_two1 _ _ _ hk hL hR, gv_two1 _ _ _ hk hL hR, iL fun v hv => h v (by simp [hv]), iR fun v hv => h v (by simp [hv])]
  · intro k s L hk _ hL iL h
    rw [gv_one1 _ _ _ hk hL, gv_one1 _ _ _ hk hL, iL fun v hv => h v (by simp [hv])]
theorem vmTo_bits {a : List (Int × Int)} (ha : ∀ x ∈ a, x.1 = 0 → 0 ≤ x.2 ∧ x.2 < 6) : ∀ i, i ≤ a.length → InM 6 (vmTo a i) ∧ ∀ v : Nat, tb (vmTo a i) v = true ↔ ∃ j, j < i ∧ a.getD j (0, 0) = (0, (v : Int))
  | 0, _ => ⟨inM_zero 6, fun v => by simp [vmTo, tb_zero]⟩
  | i + 1, hi => by
    obtain ⟨h1, h2⟩ := vmTo_bits ha i (by omega)
    have hm : a.getD i (0, 0) ∈ a := by
      rw [List.getD_eq_getElem?_getD, List.getElem?_eq_getElem (by omega)]
      exact List.getElem_mem _
    rw [vmTo]
    split
    · rename_i h0
      obtain ⟨r1, r2⟩ := ha _ hm h0
      obtain ⟨s, hs⟩ := Int.eq_ofNat_of_zero_le r1
      have i1 : InM 6 (shl64 1 (a.getD i (0, 0)).2) := by rw [hs]; exact inM_one (by omega) (by omega)
      refine ⟨inM_bor (by omega) h1 i1, fun v => ?_⟩
      rw [tb_bor (n := 6) (by omega) h1 i1, Bool.or_eq_true, h2, hs, tb_one (by omega), decide_eq_true_iff]
      constructor
      · rintro (⟨j, hj, e⟩ | rfl)
        · exact ⟨j, by omega, e⟩
        · exact ⟨i, by omega, Prod.ext h0 hs⟩
      · rintro ⟨j, hj, e⟩
        by_cases ej : j = i
        · subst ej
          refine .inr ?_
          rw [e] at hs
          simp only at hs
          omega
        · exact .inl ⟨j, by omega, e⟩
    · rename_i h0
      refine ⟨h1, fun v => ?_⟩
      rw [h2]
      constructor
      · exact fun ⟨j, hj, e⟩ => ⟨j, by omega, e⟩
      · rintro ⟨j, hj, e⟩
        by_cases ej : j = i
        · subst ej; rw [e] at h0; exact absurd rfl h0
        · exact ⟨j, by omega, e⟩
theorem vm_mem {a : List (Int × Int)} (hF : isF a = true) {v : Int} (h : (0, v) ∈ a) : v ∈ mem (vmT [a] [a].length) ∧ 0 ≤ v ∧ v < 6 := by
  have ha := (isF_okm hF).1
  have hb := ha.2 _ h
  have hv := hb.2.2 rfl
  simp only at hv
  obtain ⟨w, rfl⟩ := Int.eq_ofNat_of_zero_le hv.1
  refine ⟨?_, hv.1, hv.2⟩
  rw [vmT_one hF]
  refine memN_mem.2 ⟨w, by omega, ?_, rfl⟩
  refine ((vmTo_bits (fun x hx h0 => (ha.2 x hx).2.2 h0) a.length (Nat.le_refl _)).2 w).2 ?_
  obtain ⟨j, hj, e⟩ := List.getElem_of_mem h
  exact ⟨j, hj, by rw [List.getD_eq_getElem?_getD, List.getElem?_eq_getElem hj, e]; rfl⟩

theorem fst_none_iff {p : Nat → Bool} {t : Nat} : (fstN p t).isNone = true ↔ ∀ M, M < t → p M = false := by
  unfold fstN
  rw [Option.isNone_iff_eq_none, List.find?_eq_none]
  simp only [List.mem_range, Bool.not_eq_true]

/-- What is counted below a bound. -/
theorem upTo_mem {xs : List Int} {m : Int} : ∀ k, m ∈ upTo xs k ↔ 0 ≤ m ∧ m < (k : Int) ∧ img xs m xs.length = m
  | 0 => by
    simp only [upTo, List.not_mem_nil, false_iff]
    rintro ⟨h1, h2, _⟩
    omega
  | k + 1 => by
    have ih := upTo_mem (xs := xs) (m := m) k
    by_cases h : img xs (k : Int) xs.length = (k : Int)
    · rw [← upTo_yes h, List.mem_append, ih, List.mem_singleton]
      constructor
      · rintro (⟨a, b, c⟩ | rfl)
        · exact ⟨a, by omega, c⟩
        · exact ⟨by omega, by omega, h⟩
      · rintro ⟨a, b, c⟩
        by_cases e : m = (k : Int)
        · exact .inr e
        · exact .inl ⟨a, by omega, c⟩
    · rw [← upTo_no h, ih]
      constructor
      · rintro ⟨a, b, c⟩; exact ⟨a, by omega, c⟩
      · rintro ⟨a, b, c⟩
        refine ⟨a, ?_, c⟩
        by_cases e : m = (k : Int)
        · subst e; exact absurd c h
        · omega

theorem inM_lt {n m : Int} (h0 : 0 ≤ n) (h8 : n ≤ 8) : InM n.toNat m ↔ 0 ≤ m ∧ m < shl64 1 n := by
  rw [full_rng (n := n.toNat) (by omega), show ((n.toNat : Nat) : Int) = n by omega, inR_iff]
  omega
/-- Masks that are equal bit by bit. -/
theorem bits_eq {N : Nat} {a b : Int} (ha : InM N a) (hb : InM N b) (h : ∀ i, i < N → (tb a i = true ↔ tb b i = true)) : a = b := by
  refine tb_ext ha.1 hb.1 fun i => ?_
  rw [Bool.eq_iff_iff]
  by_cases hi : i < N
  · exact h i hi
  · constructor
    · intro h2; exact absurd (tb_lt ha h2) hi
    · intro h2; exact absurd (tb_lt hb h2) hi
/-- The mask of what has a property. -/
def mkM (p : Nat → Bool) : Nat → Int
  | 0 => 0
  | i + 1 => if p i = true then bor (mkM p i) (shl64 1 (i : Int)) else mkM p i
theorem mkM_ok {p : Nat → Bool} {N : Nat} (hN : N ≤ 61) : ∀ i, i ≤ N → InM N (mkM p i) ∧ ∀ k, tb (mkM p i) k = true ↔ k < i ∧ p k = true
  | 0, _ => ⟨inM_zero _, fun k => by simp [mkM, tb_zero]⟩
  | i + 1, h => by
    obtain ⟨h1, h2⟩ := mkM_ok (p := p) hN i (by omega)
    have ho := inM_one (n := N) (i := i) hN (by omega)
    by_cases hp : p i = true
    · rw [mkM, if_pos hp]
      refine ⟨inM_bor hN h1 ho, fun k => ?_⟩
      rw [tb_bor hN h1 ho, Bool.or_eq_true, h2, tb_one (by omega), decide_eq_true_iff]
      constructor
      · rintro (⟨a, b⟩ | rfl)
        · exact ⟨by omega, b⟩
        · exact ⟨by omega, hp⟩
      · rintro ⟨a, b⟩
        by_cases e : k = i
        · exact .inr e.symm
        · exact .inl ⟨by omega, b⟩
    · rw [mkM, if_neg hp]
      refine ⟨h1, fun k => ?_⟩
      rw [h2]
      constructor
      · rintro ⟨a, b⟩; exact ⟨by omega, b⟩
      · rintro ⟨a, b⟩
        by_cases e : k = i
        · subst e; exact absurd b hp
        · exact ⟨by omega, b⟩

section
variable {n : Int} {xs : List Int} (hP : okPo n xs = true)
include hP
theorem po_rel : 0 ≤ n ∧ n ≤ 8 ∧ (xs.length : Int) = n ∧ RelOK n.toNat xs ∧ (∀ i, i < n.toNat → tb (xs.getD i 0) i = true) ∧ (∀ i j k : Nat, i < n.toNat → tb (xs.getD i 0) j = true → tb (xs.getD j 0) k = true → tb (xs.getD i 0) k = true) ∧ ∀ i j : Nat, i < n.toNat → tb (xs.getD i 0) j = true → tb (xs.getD j 0) i = true → i = j := by
  have hF := okPo_fr hP
  obtain ⟨h0, h8, hl, hr⟩ := okFr_rel hF
  simp only [okPo, Bool.and_eq_true] at hP
  obtain ⟨_, h1, h2, h3⟩ := hP
  have hlt : ∀ i j, i < n.toNat → tb (xs.getD i 0) j = true → j < n.toNat := fun i j hi h => tb_lt (hr.2 i hi) h
  exact ⟨h0, h8, hl, hr, rB_iff.1 h1, fun i j k hi a b => tB_iff.1 h2 i hi j (hlt i j hi a) k (hlt j k (hlt i j hi a) b) a b, fun i j hi a b => aB_iff.1 h3 i hi j (hlt i j hi a) a b⟩
theorem img_bits {m : Int} (hm : InM n.toNat m) : InM n.toNat (img xs m xs.length) ∧ ∀ k, tb (img xs m xs.length) k = true ↔ ∃ j, tb m j = true ∧ tb (xs.getD j 0) k = true := by
  obtain ⟨h0, h8, hl, hr, _⟩ := po_rel hP
  obtain ⟨h1, h2⟩ := img_ok (n := n.toNat) (by omega) hr hm xs.length (by omega)
  refine ⟨h1, fun k => ?_⟩
  rw [h2]
  constructor
  · rintro ⟨j, _, h3, h4⟩; exact ⟨j, h3, h4⟩
  · rintro ⟨j, h3, h4⟩; exact ⟨j, by have := tb_lt hm h3; omega, h3, h4⟩
theorem up_iff {m : Int} : m ∈ upR n xs ↔ InM n.toNat m ∧ ∀ i j : Nat, tb m i = true → tb (xs.getD i 0) j = true → tb m j = true := by
  obtain ⟨h0, h8, hl, hr, rf, _⟩ := po_rel hP
  have hs := shl_rng n h0 (by omega)
  rw [upR, if_pos hP, upL, upTo_mem, show ((shl64 1 n).toNat : Int) = shl64 1 n by omega, inM_lt h0 h8]
  constructor
  · rintro ⟨a, b, c⟩
    have hm := (inM_lt h0 h8).2 ⟨a, b⟩
    refine ⟨⟨a, b⟩, fun i j h1 h2 => ?_⟩
    rw [← c]
    exact ((img_bits hP hm).2 j).2 ⟨i, h1, h2⟩
  · rintro ⟨⟨a, b⟩, h⟩
    have hm := (inM_lt h0 h8).2 ⟨a, b⟩
    refine ⟨a, b, bits_eq (img_bits hP hm).1 hm fun k hk => ?_⟩
    rw [(img_bits hP hm).2]
    constructor
    · rintro ⟨j, h1, h2⟩; exact h j k h1 h2
    · intro h1; exact ⟨k, h1, rf k hk⟩
end

/-! Bits of forced sets. -/
def fb (n : Int) (xs X : List Int) (a : List (Int × Int)) (w : Nat) : Bool := tb (fcd n xs X a) w
theorem fb_var (n : Int) (xs X : List Int) (v : Int) (w : Nat) : fb n xs X [(0, v)] w = tb (X.getD v.toNat 0) w := rfl
theorem fb_bot {n : Int} {xs X : List Int} (s : Int) (w : Nat) : fb n xs X [(1, s)] w = false := by
  unfold fb fcd
  rw [gv_bot1, tb_zero]
theorem pbx_bits {n : Int} {xs : List Int} (hR : okFr n xs = true) {m : Int} (hm : InM n.toNat m) (w : Nat) : tb (pxB xs m) w = true ↔ w < n.toNat ∧ ∀ j, tb (xs.getD w 0) j = true → tb m j = true := by
  obtain ⟨h0, h8, hl, hr⟩ := okFr_rel hR
  have := (boxB_ok (n := n.toNat) (by omega) hr hm n.toNat (Nat.le_refl _)).2 w
  unfold pxB
  rw [show xs.length = n.toNat by omega]
  exact this
section
variable {n : Int} {xs X : List Int} (hR : okFr n xs = true) (hX : ∀ j : Nat, j < 6 → InM n.toNat (X.getD j 0))
include hR hX
theorem fb_and {s : Int} {L R : List (Int × Int)} (hL : OKM 6 L) (hRR : OKM 6 R) (w : Nat) : fb n xs X ((2, s) :: (L ++ R)) w = (fb n xs X L w && fb n xs X R w) := by
  obtain ⟨h0, h8, _, _⟩ := okFr_rel hR
  unfold fb fcd
  rw [gv_two1 _ _ _ (.inl rfl) hL hRR, pT, if_pos rfl]
  exact tb_band (n := n.toNat) (by omega) (fcd_in hR hL hX) (fcd_in hR hRR hX) w
theorem fb_or {s : Int} {L R : List (Int × Int)} (hL : OKM 6 L) (hRR : OKM 6 R) (w : Nat) : fb n xs X ((3, s) :: (L ++ R)) w = (fb n xs X L w || fb n xs X R w) := by
  obtain ⟨h0, h8, _, _⟩ := okFr_rel hR
  unfold fb fcd
  rw [gv_two1 _ _ _ (.inr (.inl rfl)) hL hRR, pT, if_neg (by decide), if_pos rfl]
  exact tb_bor (n := n.toNat) (by omega) (fcd_in hR hL hX) (fcd_in hR hRR hX) w
theorem fb_imp {s : Int} {L R : List (Int × Int)} (hL : OKM 6 L) (hRR : OKM 6 R) {w : Nat} (hw : w < n.toNat) : fb n xs X ((4, s) :: (L ++ R)) w = true ↔ ∀ j, tb (xs.getD w 0) j = true → fb n xs X L j = true → fb n xs X R j = true := by
  obtain ⟨h0, h8, _, hr⟩ := okFr_rel hR
  unfold fb fcd
  rw [gv_two1 _ _ _ (.inr (.inr rfl)) hL hRR, pT, if_neg (by decide), if_neg (by decide)]
  have hf := inM_full (n := n.toNat) (by omega)
  have ht := fun j => tb_full (n := n.toNat) (by omega) j
  rw [nn_eq h0] at hf ht
  have hl : InM n.toNat (gv (pT n (pxB xs)) pU X L) := fcd_in hR hL hX
  have hrr : InM n.toNat (gv (pT n (pxB xs)) pU X R) := fcd_in hR hRR hX
  have hb := inM_bnot (n := n.toNat) (by omega) hf hl
  rw [pbx_bits hR (inM_bor (by omega) hb hrr)]
  constructor
  · rintro ⟨_, h⟩ j hj h1
    have h2 := h j hj
    rw [tb_bor (by omega) hb hrr, tb_bnot (by omega) hf hl, h1] at h2
    simpa using h2
  · intro h
    refine ⟨hw, fun j hj => ?_⟩
    rw [tb_bor (by omega) hb hrr, tb_bnot (by omega) hf hl, ht, decide_eq_true (tb_lt (hr.2 w hw) hj)]
    cases e : tb (gv (pT n (pxB xs)) pU X L) j with
    | false => rfl
    | true => rw [h j hj e]; rfl
end
theorem plain_cons {k s : Int} {r : List (Int × Int)} (h : ((k, s) :: r).any modN = false) : ¬ (k = 5 ∨ k = 6) ∧ r.any modN = false := by
  rw [List.any_cons, Bool.or_eq_false_iff] at h
  exact ⟨(mod_no (k, s)).1 h.1, h.2⟩
/-- Forcing is carried along a map. -/
theorem fb_map {n m : Int} {xs ys X Y : List Int} (hR : okFr n xs = true) (hS : okFr m ys = true) (hX : ∀ j : Nat, j < 6 → InM n.toNat (X.getD j 0)) (hY : ∀ j : Nat, j < 6 → InM m.toNat (Y.getD j 0)) {g : Nat → Nat} (hg : ∀ w, w < n.toNat → g w < m.toNat)
    (forth : ∀ w j, w < n.toNat → tb (xs.getD w 0) j = true → tb (ys.getD (g w) 0) (g j) = true) (back : ∀ w k, w < n.toNat → tb (ys.getD (g w) 0) k = true → ∃ j, tb (xs.getD w 0) j = true ∧ g j = k)
    (hv : ∀ v : Nat, v < 6 → ∀ w, w < n.toNat → tb (X.getD v 0) w = tb (Y.getD v 0) (g w)) {a : List (Int × Int)} (ha : OKM 6 a) : a.any modN = false → ∀ w, w < n.toNat → fb n xs X a w = fb m ys Y a (g w) := by
  obtain ⟨_, _, _, hr⟩ := okFr_rel hR
  refine okm_ind (C := fun a => a.any modN = false → ∀ w, w < n.toNat → fb n xs X a w = fb m ys Y a (g w)) ?_ ?_ ?_ ?_ ha
  · intro v h0 h6 _ w hw
    rw [fb_var, fb_var]
    exact hv v.toNat (by omega) w hw
  · intro s _ w hw
    rw [fb_bot, fb_bot]
  · intro k s L R hk _ hL hR2 iL iR hp w hw
    have hp2 := (plain_cons hp).2
    rw [List.any_append, Bool.or_eq_false_iff] at hp2
    rcases hk with rfl | rfl | rfl
    · rw [fb_and hR hX hL hR2, fb_and hS hY hL hR2, iL hp2.1 w hw, iR hp2.2 w hw]
    · rw [fb_or hR hX hL hR2, fb_or hS hY hL hR2, iL hp2.1 w hw, iR hp2.2 w hw]
    · rw [Bool.eq_iff_iff, fb_imp hR hX hL hR2 hw, fb_imp hS hY hL hR2 (hg w hw)]
      constructor
      · intro h k hk h1
        obtain ⟨j, hj, rfl⟩ := back w k hw hk
        have hjn := tb_lt (hr.2 w hw) hj
        rw [← iR hp2.2 j hjn]
        exact h j hj (by rw [iL hp2.1 j hjn]; exact h1)
      · intro h j hj h1
        have hjn := tb_lt (hr.2 w hw) hj
        rw [iR hp2.2 j hjn]
        exact h (g j) (forth w j hw hj) (by rw [← iL hp2.1 j hjn]; exact h1)
  · intro k s L hk _ _ _ hp
    exact absurd hk (plain_cons hp).1
/-! Each monotone valuation has a number. -/
def encU (q : Nat) (f : Int → Nat) : List Int → Nat
  | [] => 0
  | v :: r => f v * q ^ r.length + encU q f r
theorem encU_lt {q : Nat} {f : Int → Nat} : ∀ {l : List Int}, (∀ v ∈ l, f v < q) → encU q f l < q ^ l.length
  | [], _ => by simp [encU]
  | v :: r, h => by
    have ih := encU_lt (l := r) fun u hu => h u (List.mem_cons_of_mem _ hu)
    have hv := h v (List.mem_cons_self ..)
    rw [encU, List.length_cons, Nat.pow_succ]
    generalize q ^ r.length = A at ih ⊢
    generalize f v = a at hv ⊢
    calc a * A + encU q f r < a * A + A := by omega
      _ = (a + 1) * A := by rw [Nat.add_mul, Nat.one_mul]
      _ ≤ q * A := Nat.mul_le_mul_right _ (by omega)
      _ = A * q := Nat.mul_comm _ _
theorem encU_get {q : Nat} {f : Int → Nat} : ∀ {l : List Int}, (∀ v ∈ l, f v < q) → ∀ k, k < l.length → encU q f l / q ^ (l.length - 1 - k) % q = f (l.getD k 0)
  | [], _, k, hk => by simp at hk
  | v :: r, h, 0, _ => by
    have ih := encU_lt (l := r) fun u hu => h u (List.mem_cons_of_mem _ hu)
    have hv := h v (List.mem_cons_self ..)
    rw [encU, List.length_cons, show r.length + 1 - 1 - 0 = r.length by omega, List.getD_cons_zero]
    rw [Nat.add_comm, Nat.add_mul_div_right _ _ (Nat.pow_pos (by omega)), Nat.div_eq_of_lt ih, Nat.zero_add]
    exact Nat.mod_eq_of_lt hv
  | v :: r, h, k + 1, hk => by
    have ih := encU_get (l := r) (fun u hu => h u (List.mem_cons_of_mem _ hu)) k (by simpa using hk)
    have hv := h v (List.mem_cons_self ..)
    simp only [List.length_cons] at hk
    rw [encU, List.length_cons, show r.length + 1 - 1 - (k + 1) = r.length - 1 - k by omega, List.getD_cons_succ, ← ih]
    have e : r.length = (r.length - 1 - k) + (k + 1) := by omega
    generalize f v = a
    generalize encU q f r = E
    have e2 : a * q ^ r.length + E = E + (a * q ^ k * q) * q ^ (r.length - 1 - k) := by
      conv => lhs; rw [e]
      rw [Nat.add_comm, Nat.pow_add, Nat.pow_succ]
      congr 1
      simp only [Nat.mul_assoc, Nat.mul_comm, Nat.mul_left_comm]
    rw [e2, Nat.add_mul_div_right _ _ (Nat.pow_pos (by omega)), Nat.add_mul_mod_self_right]
theorem vrU_onto {ups vs Y : List Int} (hY : ∀ j : Nat, j < 6 → Y.getD j 0 ∈ ups) (hvs : VS vs) : ∃ N, N < ups.length ^ vs.length ∧ ∀ j : Nat, j < 6 → (j : Int) ∈ vs → (vrU ups vs N).getD j 0 = Y.getD j 0 := by
  have hlt : ∀ v ∈ vs, ups.idxOf (Y.getD v.toNat 0) < ups.length := fun v hv => List.idxOf_lt_length_iff.2 (hY v.toNat (by have := hvs.2 v hv; omega))
  refine ⟨encU ups.length (fun v => ups.idxOf (Y.getD v.toNat 0)) vs, encU_lt hlt, fun j hj hm => ?_⟩
  rw [vrU_get hj, vatU, if_pos hm]
  have hk : vs.idxOf (j : Int) < vs.length := List.idxOf_lt_length_iff.2 hm
  have hget : vs.getD (vs.idxOf (j : Int)) 0 = (j : Int) := by
    rw [List.getD_eq_getElem?_getD, List.getElem?_eq_getElem hk, Option.getD_some]
    exact List.getElem_idxOf hk
  have hg := encU_get hlt (vs.idxOf (j : Int)) hk
  rw [hget, Int.toNat_natCast] at hg
  rw [hg]
  have hi : ups.idxOf (Y.getD j 0) < ups.length := List.idxOf_lt_length_iff.2 (hY j hj)
  rw [List.getD_eq_getElem?_getD, List.getElem?_eq_getElem hi, Option.getD_some]
  exact List.getElem_idxOf hi
def mono (n : Int) (xs Y : List Int) : Prop := ∀ j : Nat, j < 6 → Y.getD j 0 ∈ upR n xs
theorem mono_in {n : Int} {xs Y : List Int} (hP : okPo n xs = true) (h : mono n xs Y) : ∀ j : Nat, j < 6 → InM n.toNat (Y.getD j 0) := fun j hj => ((up_iff hP).1 (h j hj)).1
theorem zero_up {n : Int} {xs : List Int} (hP : okPo n xs = true) : (0 : Int) ∈ upR n xs := (up_iff hP).2 ⟨inM_zero _, fun i j h _ => by rw [tb_zero] at h; cases h⟩
theorem upL_mem {n : Int} {xs : List Int} (hP : okPo n xs = true) (i : Nat) : (upL n xs).getD i 0 ∈ upR n xs := by
  rw [List.getD_eq_getElem?_getD]
  rcases Nat.lt_or_ge i (upL n xs).length with hj | hj
  · rw [List.getElem?_eq_getElem hj, Option.getD_some, upR, if_pos hP]
    exact List.getElem_mem hj
  · rw [List.getElem?_eq_none hj]; exact zero_up hP
theorem vrU_mono {n : Int} {xs vs : List Int} (hP : okPo n xs = true) (N : Nat) : mono n xs (vrU (upL n xs) vs N) := fun j hj => by
  rw [vrU_get hj, vatU]
  split
  · exact upL_mem hP _
  · exact zero_up hP
theorem fb_full {n : Int} {xs Y : List Int} {a : List (Int × Int)} (hP : okPo n xs = true) (ha : OKM 6 a) (hY : mono n xs Y) : fcd n xs Y a = (shl64 1 n) - 1 ↔ ∀ w, w < n.toNat → fb n xs Y a w = true := by
  obtain ⟨h0, h8, _⟩ := okFr_rel (okPo_fr hP)
  exact full_iff h0 h8 (fcd_in (okPo_fr hP) ha (mono_in hP hY))
theorem pc1 {n : Int} {xs : List Int} {a : List (Int × Int)} (h : pcode n xs [a] = 0) : okPo n xs = true ∧ isF a = true ∧ a.any modN = false ∧ VS (mem (vmT [a] [a].length)) := by
  obtain ⟨h1, h2, h3, _⟩ := pc_ok h
  exact ⟨h1, isF_all h2, pl_one h3, VS_vmT h2⟩
theorem pv_parts {n : Int} {xs : List Int} {a : List (Int × Int)} : pvV n xs a = true ↔ pcode n xs [a] = 0 ∧ ∀ N, N < totU n xs (mem (vmT [a] [a].length)) → fcd n xs (vrU (upL n xs) (mem (vmT [a] [a].length)) N) a = (shl64 1 n) - 1 := by
  rw [pvV, Bool.and_eq_true, decide_eq_true_eq]
  unfold fstU
  rw [fst_none_iff]
  refine and_congr_right fun _ => ⟨fun h N hN => badU_eq rfl (h N hN), fun h N hN => badU_no (h N hN)⟩
/-- What is valid is forced everywhere by each monotone valuation. -/
theorem pv_all {n : Int} {xs Y : List Int} {a : List (Int × Int)} (h : pvV n xs a = true) (hY : mono n xs Y) : ∀ w, w < n.toNat → fb n xs Y a w = true := by
  obtain ⟨h1, h2⟩ := pv_parts.1 h
  obtain ⟨hP, hF, hp, hV⟩ := pc1 h1
  obtain ⟨N, hN, hr⟩ := vrU_onto (ups := upL n xs) (Y := Y) (fun j hj => by have := hY j hj; rw [upR, if_pos hP] at this; exact this) hV
  refine (fb_full hP (isF_okm hF).1 hY).1 ?_
  rw [← h2 N hN]
  refine gv_agree (isF_okm hF).1 fun v hv => ?_
  obtain ⟨m1, m2, m3⟩ := vm_mem hF hv
  exact (hr v.toNat (by omega) (by rw [nn_eq m2]; exact m1)).symm
theorem pv_mk {n : Int} {xs : List Int} {a : List (Int × Int)} (hc : pcode n xs [a] = 0) (h : ∀ Y, mono n xs Y → ∀ w, w < n.toNat → fb n xs Y a w = true) : pvV n xs a = true := by
  obtain ⟨hP, hF, hp, hV⟩ := pc1 hc
  exact pv_parts.2 ⟨hc, fun N _ => (fb_full hP (isF_okm hF).1 (vrU_mono hP N)).2 (h _ (vrU_mono hP N))⟩
/-! A poset beside a point. -/
theorem sum_get1 {n : Int} {xs : List Int} (hl : (xs.length : Int) = n) {w : Nat} (hw : w < n.toNat) : (xs ++ [shl64 1 n]).getD w 0 = xs.getD w 0 := by
  rw [List.getD_eq_getElem?_getD, List.getElem?_append_left (by omega), ← List.getD_eq_getElem?_getD]
theorem sum_get2 {n : Int} {xs : List Int} (h0 : 0 ≤ n) (hl : (xs.length : Int) = n) : (xs ++ [shl64 1 n]).getD n.toNat 0 = shl64 1 ((n.toNat : Nat) : Int) := by
  rw [List.getD_eq_getElem?_getD, List.getElem?_append_right (by omega), show n.toNat - xs.length = 0 by omega, nn_eq h0]
  rfl
theorem po_one : okPo 1 [1] = true := by decide +kernel
theorem one_get (j : Nat) : tb (([1] : List Int).getD 0 0) j = decide (j = 0) := by
  have := tb_one (i := 0) (j := j) (by omega)
  rw [show shl64 1 ((0 : Nat) : Int) = 1 by decide +kernel] at this
  rw [show ([1] : List Int).getD 0 0 = 1 from rfl, this, Bool.eq_iff_iff, decide_eq_true_iff, decide_eq_true_iff]
  omega
theorem inM_get {k : Nat} {p : Nat → Nat → Bool} {j : Nat} (hk : k ≤ 61) (hj : j < 6) : InM k (((List.range 6).map fun v => mkM (p v) k).getD j 0) ∧ ∀ w, tb (((List.range 6).map fun v => mkM (p v) k).getD j 0) w = true ↔ w < k ∧ p j w = true := by
  rw [List.getD_eq_getElem?_getD, List.getElem?_map, List.getElem?_range hj]
  exact mkM_ok hk k (Nat.le_refl _)
/-- Validity on a poset beside a point. -/
theorem pv_sum {n : Int} {xs : List Int} {a : List (Int × Int)} (hv : pvV n xs a = true) (h8 : n + 1 ≤ 8) (hs : pcode (n + 1) (xs ++ [shl64 1 n]) [a] = 0) (ho : pcode 1 [1] [a] = 0) : pvV (n + 1) (xs ++ [shl64 1 n]) a = pvV 1 [1] a := by
  obtain ⟨hP, hF, hp, _⟩ := pc1 (pv_parts.1 hv).1
  obtain ⟨hS, _⟩ := pc1 hs
  obtain ⟨h0, _, hl, hr, rf, _⟩ := po_rel hP
  have ha := (isF_okm hF).1
  have hn1 : (n + 1).toNat = n.toNat + 1 := by omega
  have hlast : ∀ j, tb ((xs ++ [shl64 1 n]).getD n.toNat 0) j = decide (n.toNat = j) := fun j => by rw [sum_get2 h0 hl, tb_one (by omega)]
  rw [Bool.eq_iff_iff]
  constructor
  · intro h
    refine pv_mk ho fun Y hY w hw => ?_
    have hw0 : w = 0 := by
      have : (1 : Int).toNat = 1 := rfl
      omega
    subst hw0
    have hZ : mono (n + 1) (xs ++ [shl64 1 n]) ((List.range 6).map fun v => mkM (fun w => decide (w = n.toNat) && tb (Y.getD v 0) 0) (n.toNat + 1)) := fun j hj => by
      obtain ⟨i1, i2⟩ := inM_get (k := n.toNat + 1) (p := fun v w => decide (w = n.toNat) && tb (Y.getD v 0) 0) (by omega) hj
      refine (up_iff hS).2 ⟨by rw [hn1]; exact i1, fun i k h1 h2 => ?_⟩
      obtain ⟨h3, h4⟩ := (i2 i).1 h1
      simp only [Bool.and_eq_true, decide_eq_true_eq] at h4
      rw [h4.1, hlast, decide_eq_true_iff] at h2
      refine (i2 k).2 ⟨by omega, ?_⟩
      simp only [Bool.and_eq_true, decide_eq_true_eq]
      exact ⟨h2.symm, h4.2⟩
    have hf := pv_all h hZ n.toNat (by omega)
    rw [← hf]
    refine fb_map (g := fun _ => n.toNat) (okPo_fr po_one) (okPo_fr hS) (mono_in po_one hY) (mono_in hS hZ) (fun w _ => by omega) (fun w j _ _ => by rw [hlast]; simp) (fun w k hw hk => ?_) (fun v hv w hw => ?_) ha hp 0 (by decide)
    · rw [hlast, decide_eq_true_iff] at hk
      have hw0 : w = 0 := by
        have : (1 : Int).toNat = 1 := rfl
        omega
      exact ⟨0, by rw [hw0, one_get]; rfl, hk⟩
    · have hw0 : w = 0 := by
        have : (1 : Int).toNat = 1 := rfl
        omega
      subst hw0
      rw [Bool.eq_iff_iff, (inM_get (k := n.toNat + 1) (p := fun v w => decide (w = n.toNat) && tb (Y.getD v 0) 0) (by omega) hv).2]
      simp
  · intro h
    refine pv_mk hs fun Y hY w hw => ?_
    have hu := fun (v : Nat) (hv : v < 6) => (up_iff hS).1 (hY v hv)
    rw [hn1] at hw
    by_cases e : w < n.toNat
    · have hZ : mono n xs ((List.range 6).map fun v => mkM (fun w => tb (Y.getD v 0) w) n.toNat) := fun j hj => by
        obtain ⟨i1, i2⟩ := inM_get (k := n.toNat) (p := fun v w => tb (Y.getD v 0) w) (by omega) hj
        refine (up_iff hP).2 ⟨i1, fun i k h1 h2 => ?_⟩
        obtain ⟨h3, h4⟩ := (i2 i).1 h1
        exact (i2 k).2 ⟨tb_lt (hr.2 i h3) h2, (hu j hj).2 i k h4 (by rw [sum_get1 hl h3]; exact h2)⟩
      have hf := pv_all hv hZ w e
      rw [← hf]
      refine (fb_map (g := fun w => w) (okPo_fr hP) (okPo_fr hS) (mono_in hP hZ) (mono_in hS hY) (fun w hw => by omega) (fun w j hw h => by rw [sum_get1 hl hw]; exact h) (fun w k hw h => ⟨k, by rw [sum_get1 hl hw] at h; exact h, rfl⟩) (fun v hv w hw => ?_) ha hp w e).symm
      rw [Bool.eq_iff_iff, (inM_get (k := n.toNat) (p := fun v w => tb (Y.getD v 0) w) (by omega) hv).2]
      exact ⟨fun h => h.2, fun h => ⟨hw, h⟩⟩
    · have ew : w = n.toNat := by omega
      subst ew
      have hZ : mono 1 [1] ((List.range 6).map fun v => mkM (fun _ => tb (Y.getD v 0) n.toNat) 1) := fun j hj => by
        obtain ⟨i1, i2⟩ := inM_get (k := 1) (p := fun v _ => tb (Y.getD v 0) n.toNat) (by omega) hj
        refine (up_iff po_one).2 ⟨i1, fun i k h1 h2 => ?_⟩
        obtain ⟨h3, h4⟩ := (i2 i).1 h1
        rw [show i = 0 by omega, one_get, decide_eq_true_iff] at h2
        exact (i2 k).2 ⟨by omega, h4⟩
      have hf := pv_all h hZ 0 (by decide)
      rw [← hf]
      refine (fb_map (g := fun _ => n.toNat) (okPo_fr po_one) (okPo_fr hS) (mono_in po_one hZ) (mono_in hS hY) (fun w _ => by omega) (fun w j _ _ => by rw [hlast]; simp) (fun w k hw hk => ?_) (fun v hv w hw => ?_) ha hp 0 (by decide)).symm
      · rw [hlast, decide_eq_true_iff] at hk
        have hw0 : w = 0 := by
          have : (1 : Int).toNat = 1 := rfl
          omega
        exact ⟨0, by rw [hw0, one_get]; rfl, hk⟩
      · rw [Bool.eq_iff_iff, (inM_get (k := 1) (p := fun v _ => tb (Y.getD v 0) n.toNat) (by omega) hv).2]
        have : (1 : Int).toNat = 1 := rfl
        exact ⟨fun h => h.2, fun h => ⟨by omega, h⟩⟩

/-! What is not forced. -/
theorem uTo_in {n : Int} {xs vs : List Int} {a : List (Int × Int)} (hP : okPo n xs = true) (ha : OKM 6 a) : ∀ t : Nat, InM n.toNat (uTo n xs vs a t) ∧ ∀ w, tb (uTo n xs vs a t) w = true ↔ w < n.toNat ∧ ∃ N, N < t ∧ fb n xs (vrU (upL n xs) vs N) a w = false
  | 0 => ⟨inM_zero _, fun w => by
    rw [uTo, tb_zero]
    exact ⟨fun h => by simp at h, fun ⟨_, N, h, _⟩ => by omega⟩⟩
  | t + 1 => by
    obtain ⟨h1, h2⟩ := uTo_in hP ha t
    obtain ⟨h0, h8, _⟩ := okFr_rel (okPo_fr hP)
    have hf := inM_full (n := n.toNat) (by omega)
    have htf := fun w => tb_full (n := n.toNat) (by omega) w
    rw [nn_eq h0] at hf htf
    have hc := fcd_in (okPo_fr hP) ha (mono_in hP (vrU_mono (vs := vs) hP t))
    have hb := inM_bnot (n := n.toNat) (by omega) hf hc
    rw [uTo]
    refine ⟨inM_bor (by omega) h1 hb, fun w => ?_⟩
    rw [tb_bor (n := n.toNat) (by omega) h1 hb, Bool.or_eq_true, h2, tb_bnot (n := n.toNat) (by omega) hf hc, htf, Bool.and_eq_true, decide_eq_true_iff, Bool.not_eq_true']
    constructor
    · rintro (⟨a1, N, a2, a3⟩ | ⟨a1, a2⟩)
      · exact ⟨a1, N, by omega, a3⟩
      · exact ⟨a1, t, by omega, a2⟩
    · rintro ⟨a1, N, a2, a3⟩
      by_cases e : N = t
      · subst e; exact .inr ⟨a1, a3⟩
      · exact .inl ⟨a1, N, by omega, a3⟩
theorem pv_code {n : Int} {xs : List Int} {l : List (List (Int × Int))} : pcode n xs l = 0 ∨ pcode n xs l = 1 ∨ pcode n xs l = 3 ∨ pcode n xs l = 5 := by
  unfold pcode
  split
  · split
    · split <;> simp
    · simp
  · simp
theorem fu_pc {n : Int} {xs : List Int} {a : List (Int × Int)} (h : fuC n xs a = 0 ∨ fuC n xs a = 4) : pcode n xs [a] = 0 := by
  unfold fuC at h
  split at h
  · assumption
  · have := pv_code (n := n) (xs := xs) (l := [a])
    omega
theorem fu_pv {n : Int} {xs : List Int} {a : List (Int × Int)} (hc : pcode n xs [a] = 0) : pvV n xs a = decide (fuC n xs a = 4) := by
  rw [pvV, fuC, if_pos hc, decide_eq_true hc, Bool.true_and]
  cases fstU n xs (mem (vmT [a] [a].length)) a <;> rfl
theorem fu_ue {n : Int} {xs : List Int} {a : List (Int × Int)} (hc : pcode n xs [a] = 0) : ueV n xs a = 0 ↔ pvV n xs a = true := by
  obtain ⟨hP, hF, hp, hV⟩ := pc1 hc
  have ha := (isF_okm hF).1
  obtain ⟨h0, h8, _⟩ := okFr_rel (okPo_fr hP)
  obtain ⟨u1, u2⟩ := uTo_in (vs := mem (vmT [a] [a].length)) hP ha (totU n xs (mem (vmT [a] [a].length)))
  rw [ueV, if_pos hc, pv_parts]
  constructor
  · intro h
    refine ⟨hc, fun N hN => (fb_full hP ha (vrU_mono hP N)).2 fun w hw => ?_⟩
    cases e : fb n xs (vrU (upL n xs) (mem (vmT [a] [a].length)) N) a w with
    | true => rfl
    | false =>
      have := (u2 w).2 ⟨hw, N, hN, e⟩
      rw [h, tb_zero] at this
      cases this
  · rintro ⟨_, h⟩
    refine bits_eq u1 (inM_zero _) fun w hw => ?_
    rw [u2, tb_zero]
    constructor
    · rintro ⟨_, N, h1, h2⟩
      have := (fb_full hP ha (vrU_mono hP N)).1 (h N h1) w hw
      rw [this] at h2; cases h2
    · intro h; cases h
theorem fo_pv {n : Int} {xs : List Int} {a : List (Int × Int)} (hc : pcode n xs [a] = 0) : foV n xs [] a = pvV n xs a := by
  obtain ⟨hP, hF, hp, hV⟩ := pc1 hc
  have ha := (isF_okm hF).1
  obtain ⟨h0, h8, _⟩ := okFr_rel (okPo_fr hP)
  have hf := inM_full (n := n.toNat) (by omega)
  rw [nn_eq h0] at hf
  unfold foV pvV
  simp only [List.nil_append]
  congr 2
  unfold foN fstU totU
  simp only [List.nil_append]
  refine congrArg (fun p => fstN p _) (funext fun N => ?_)
  unfold badF badU
  simp only [List.length_nil, pmU]
  congr 1
  rw [decide_eq_decide]
  have hc := fcd_in (okPo_fr hP) ha (mono_in hP (vrU_mono (vs := mem (vmT [a] [a].length)) hP N))
  constructor
  · intro h
    have hs := (bnot_sub (n := n.toNat) (by omega) hf hc).1 h
    exact bits_eq hc hf fun i hi => ⟨fun _ => by have := tb_full (n := n.toNat) (by omega) i; rw [nn_eq h0] at this; rw [this]; simpa using hi, hs i⟩
  · intro h
    rw [h]
    exact (bnot_sub (n := n.toNat) (by omega) hf hf).2 fun i h => h
/-- The first valuation that does not force the formula. -/
theorem fu_some2 {n : Int} {xs : List Int} {a : List (Int × Int)} (h : fuC n xs a = 0) : okPo n xs = true ∧ isF a = true ∧ a.any modN = false ∧ 0 ≤ n ∧ n ≤ 8 ∧ mono n xs (fuR n xs a) ∧ (fuR n xs a).length = 6 ∧ 0 ≤ fuX n xs a ∧ fuX n xs a < n ∧ InM n.toNat (fcd n xs (fuR n xs a) a) ∧ tb (fcd n xs (fuR n xs a) a) (fuX n xs a).toNat = false ∧ InM n.toNat (ueV n xs a) ∧ tb (ueV n xs a) (fuX n xs a).toNat = true := by
  have hc := fu_pc (.inl h)
  obtain ⟨hP, hF, hp, hV⟩ := pc1 hc
  have ha := (isF_okm hF).1
  obtain ⟨h0, h8, _⟩ := okFr_rel (okPo_fr hP)
  have hf := inM_full (n := n.toNat) (by omega)
  have htf := fun w => tb_full (n := n.toNat) (by omega) w
  rw [nn_eq h0] at hf htf
  have hi : (fstU n xs (mem (vmT [a] [a].length)) a).isSome = true := by
    rw [fuC, if_pos hc] at h
    split at h
    · assumption
    · omega
  have hne := uVal_ne hP ha hi
  cases e : fstU n xs (mem (vmT [a] [a].length)) a with
  | none => rw [e] at hi; cases hi
  | some N =>
    have eR : fuR n xs a = vrU (upL n xs) (mem (vmT [a] [a].length)) N := by rw [fuR, if_pos h]; simp only [uRow, e]
    have eV : uVal n xs (mem (vmT [a] [a].length)) a = fcd n xs (vrU (upL n xs) (mem (vmT [a] [a].length)) N) a := by simp only [uVal, e]
    have hm := vrU_mono (vs := mem (vmT [a] [a].length)) hP N
    have hI := fcd_in (okPo_fr hP) ha (mono_in hP hm)
    have eX : fuX n xs a = (mem (bnot ((shl64 1 n) - 1) (fcd n xs (vrU (upL n xs) (mem (vmT [a] [a].length)) N) a))).getD 0 0 := by rw [fuX, if_pos h, eV]
    rw [eV] at hne
    have hb := inM_bnot (n := n.toNat) (by omega) hf hI
    have hx : fuX n xs a ∈ mem (bnot ((shl64 1 n) - 1) (fcd n xs (vrU (upL n xs) (mem (vmT [a] [a].length)) N) a)) := by
      rw [eX, List.getD_eq_getElem?_getD, List.getElem?_eq_getElem hne.2]
      exact List.getElem_mem _
    have hxr := mem_lt (by omega) hb _ hx
    have hxb := (mem_iff (j := (fuX n xs a).toNat) (by omega) hb).1 (by rw [nn_eq hxr.1]; exact hx)
    rw [tb_bnot (n := n.toNat) (by omega) hf hI, Bool.and_eq_true, Bool.not_eq_true'] at hxb
    obtain ⟨u1, u2⟩ := uTo_in (vs := mem (vmT [a] [a].length)) hP ha (totU n xs (mem (vmT [a] [a].length)))
    rw [eR, ueV, if_pos hc]
    refine ⟨hP, hF, hp, h0, h8, hm, vrU_len _ _ _, hxr.1, by omega, hI, hxb.2, u1, (u2 _).2 ⟨by omega, N, (fstN_some e).1, hxb.2⟩⟩

end Go.Proofs.YtogehjciaamcfaaGreat


/-! Rows of bytes; drawn regions with tags of one's own. -/
namespace Go.Abs
open Go.RowKit Go.ChangeShapes Go.WideShapes Go.Deep

def eB (n : Int) : List AV := [.int .u8 n]
def LB (xs : List Int) : AV := .lst 1 xs.length (rows eB xs)
theorem eB_len (x : Int) : (eB x).length = 1 := rfl
section
variable {H : Type} {enc : TypeId × Value → H} {P : Program} {w : World} {base : Nat} {spare : Nat → Bool} {held : Bool}

theorem RelL_bytes {Z : Nat → Prop} {μ : List Value} : ∀ xs : List Int, RelL w Z μ (rows eB xs) (xs.map fun n => .int .u8 n)
  | [] => RelL.nil
  | x :: xs => RelL.cons (by simp [Rel]) (RelL_bytes xs)

theorem trod_bytes {t e : TypeId} {fuel : Nat} {cs : List Value} {x : DataW H × List MemPlace} (ht : P.underlying t = some (.slice e)) (he : P.underlying e = some (.int .u8)) (hc : P.cellsOf e = 1)
    (h : DataW.trod enc P w base spare held fuel t cs = some x) : ∃ v, cs = [v] ∧ ∃ xs : List Int, xs.length ≤ maxLen ∧ (∀ j, j < xs.length → 0 ≤ xs.getD j 0 ∧ xs.getD j 0 ≤ 255) ∧ Rel w (Z0 w) [] (LB xs) v := by
  rcases open_slice1 ht hc h with ⟨rfl, _⟩ | ⟨a, len, cap, m, n, V, D, Pl, rfl, _, hl, hm, hmm, _, hx⟩
  · exact ⟨_, rfl, [], Nat.zero_le _, fun j hj => absurd hj (by simp), none, 0, [], rfl, rfl, Nat.le_refl _, fun h => absurd rfl h, RelL.nil⟩
  · have hlm : len ≤ m := by rw [hmm]; split <;> omega
    obtain ⟨xs, h1, h2⟩ := choose_list (n := len) (p := fun i y => w.cell? (a.add i) = some (.int .u8 y) ∧ 0 ≤ y ∧ y ≤ 255) fun i hi => by
      obtain ⟨g1, g2⟩ := hx i (by omega)
      obtain ⟨y, hy, _, hw⟩ := DataW.trod_int he g2
      simp at hy
      simp [Lit.wf, IntKind.min, IntKind.max, IntKind.signed, IntKind.bits] at hw
      exact ⟨y, by rw [g1, hy], by omega, by omega⟩
    refine ⟨_, rfl, xs, by omega, fun j hj => (h2 j (by omega)).2, ⟨some a, cap, xs.map fun n => .int .u8 n, by rw [h1], by rw [rows_length eB_len, h1], by omega, fun hne => ⟨a, rfl, ?_, fun j u hj => ?_⟩, RelL_bytes xs⟩⟩
    · have : 0 < len := by
        rw [← h1]
        cases xs with
        | nil => exact absurd rfl hne
        | cons x xs => simp
      have := not_Z0 (h2 0 this).1
      simpa [Addr.add] using this
    · rw [List.getElem?_map, Option.map_eq_some_iff] at hj
      obtain ⟨y, hy, rfl⟩ := hj
      have hj := (List.getElem?_eq_some_iff.1 hy).1
      rw [(h2 j (by omega)).1, List.getD_eq_getElem?_getD, hy]
      rfl

theorem open_bytes {r : Reach} {b0 : Nat} {t e : TypeId} {v : Value} {d : DataW H} {ps : List MemPlace} (ht : P.underlying t = some (.slice e)) (he : P.underlying e = some (.int .u8)) (hc : P.cellsOf e = 1)
    (hval : Value.okWide P w r b0 t v) (hd : DataW.Trod enc P w base spare held t v d ps) : ∃ xs : List Int, xs.length ≤ maxLen ∧ (∀ j, j < xs.length → 0 ≤ xs.getD j 0 ∧ xs.getD j 0 ≤ 255) ∧ Rel w (Z0 w) [] (LB xs) v := by
  obtain ⟨A, n, c, rfl⟩ := okWide_slice ht hval
  obtain ⟨fuel, hf⟩ := hd
  obtain ⟨v, h1, h2⟩ := trod_bytes ht he hc hf
  simp [Value.cells] at h1
  subst h1
  exact h2
end

section
variable {rd : Option Nat} {P : Program} {m : M} {Q : Exit → St → Prop}
end
end Go.Abs


/-! Calls of which only what holds behind them is told (draws). -/
namespace Go.Abs
open Go.RowKit Go.ChangeShapes Go.WideShapes Go.Deep

/-- A call by reference: behind it the objects and the result are some of those that Φ tells. -/
def CallX (P : Program) (f : FuncId) (args : List AV) (hp : List AObj) (Φ : AV → List AObj → Prop) : Prop :=
  Enters P f ∧ ∀ (Z0 F : Nat → Prop) (w0 w : World) (μ vs us : List Value) (fr : List AV), (∀ b, F b → w0.heap.size ≤ b ∧ b < w.heap.size) → HRel w (Zone Z0 F w0.heap.size) w0.heap.size μ hp → RelL w (Zone Z0 F w0.heap.size) μ args vs → RelL w (Zone Z0 F w0.heap.size) μ fr us → Below w0.heap.size w0 w →
    Calls P f vs.toArray w fun e w' => ∃ v μ' F' res hp', Φ res hp' ∧ e = .returned v ∧ (∀ b, F' b → w0.heap.size ≤ b ∧ b < w'.heap.size) ∧ HRel w' (Zone Z0 F' w0.heap.size) w0.heap.size μ' hp' ∧ Rel w' (Zone Z0 F' w0.heap.size) μ' res v ∧ RelL w' (Zone Z0 F' w0.heap.size) μ' fr us ∧ Below w0.heap.size w0 w'

section
variable {rd : Option Nat} {P : Program} {m : M} {Q : Exit → St → Prop}

theorem CallX.mono {f : FuncId} {args : List AV} {hp : List AObj} {Φ Ψ : AV → List AObj → Prop} (h : CallX P f args hp Φ) (hm : ∀ r h', Φ r h' → Ψ r h') : CallX P f args hp Ψ := by
  refine ⟨h.1, fun Z0 F w0 w μ vs us fr hFb hH hvs hus hbel => (h.2 Z0 F w0 w μ vs us fr hFb hH hvs hus hbel).mono ?_⟩
  rintro e w' ⟨v, μ', F', res, hp', hΦ, r⟩
  exact ⟨v, μ', F', res, hp', hm _ _ hΦ, r⟩

/-- How the body of such a function ends. -/
def retX (P : Program) (fn : Func) (n : Nat) (us : List Value) (fr : List AV) (Φ : AV → List AObj → Prop) : Exit → St → Prop := fun e st' => ∃ res hp', Φ res hp' ∧ Go.Abs.retS P fn n us fr res hp' e st'

theorem CallX.of {f : FuncId} {fn : Func} {c : Code} {args : List AV} {hp : List AObj} {Φ : AV → List AObj → Prop} (hf : P.funcs[f]? = some fn) (hb : fn.body = some c) (hnm : (fn.name == "runtime.NumGoroutine") = false)
    (h : ∀ us fr, Runs none P ⟨[.code c], ⟨frameOf fn.ntmps args, hp ++ [.frame us fr]⟩⟩ (retX P fn hp.length us fr Φ)) : CallX P f args hp Φ := by
  refine ⟨enters_of hf hnm (by rw [hb]; rfl), ?_⟩
  intro Z0 F w0 w μ vs us fr hFb hH hvs hus hbel
  have hlen := hvs.length
  refine calls_of_wpIn hf hb ?_
  have hS : Sim Z0 w0 ⟨frameOf fn.ntmps args, hp ++ [.frame us fr]⟩ { tmps := vs.toArray ++ Array.replicate (fn.ntmps - vs.toArray.size) undef, defers := [] } w := by
    refine ⟨μ ++ [.bool false], F, hFb, hH.extend1 (zone_new hbel.size hFb) (Below.refl _ _) ?_ (fun g hg => by simp [blk] at hg) rfl, ?_, .inl rfl, hbel⟩
    · exact RelL.keep (w := w) (fun _ _ _ => rfl) (fun i u hu => append_old i u hu) hus
    · simp only [Array.toList_append, Array.toList_replicate, List.size_toArray, hlen, frameOf]
      refine RelL.append (RelL.keep (w := w) (fun _ _ _ => rfl) (fun i u hu => append_old i u hu) hvs) ?_
      generalize fn.ntmps - args.length = n
      induction n with
      | zero => exact RelL.nil
      | succ n ih => exact RelL.cons (by simp [Rel]) ih
  have hrun2 := h us fr
  simp only [runs_iff] at hrun2
  simp only [RunsK] at hrun2
  refine wpIn_mono (hrun2 Z0 w0 _ w hS) ?_
  have fin : ∀ (e : Exit) (st' : St) (a' : Act) (w' : World), retX P fn hp.length us fr Φ e st' → Sim Z0 w0 st' a' w' → a'.defers = [] ∧ ∃ v, (results fn a'.tmps).run P w' = .ok v w' ∧ ∃ v' μ' F' res hp', Φ res hp' ∧ Ending.returned v = .returned v' ∧ (∀ b, F' b → w0.heap.size ≤ b ∧ b < w'.heap.size) ∧ HRel w' (Zone Z0 F' w0.heap.size) w0.heap.size μ' hp' ∧ Rel w' (Zone Z0 F' w0.heap.size) μ' res v' ∧ RelL w' (Zone Z0 F' w0.heap.size) μ' fr us ∧ Below w0.heap.size w0 w' := by
    rintro e st' a' w' ⟨res, hp', hΦ, _, hres, hfr, hh⟩ ⟨μ', F', hFb', hH', hF', hd', hbel'⟩
    obtain ⟨x, h1, h2⟩ := resIn_run hH' hF' hres
    unfold frameAt at hfr
    split at hfr
    · rename_i us2 fr2 hi
      cases hfr
      have hil : hp.length < μ'.length := by rw [hH'.len]; exact (List.getElem?_eq_some_iff.1 hi).1
      have hfrr : RelL w' (Zone Z0 F' w0.heap.size) μ' fr us := hH'.obj _ _ _ hi (List.getElem?_eq_getElem hil)
      exact ⟨hd'.none (resIn_mark hres), x, h1, x, μ', F', res, hp', hΦ, rfl, hFb', hh ▸ hH'.bury _, h2, hfrr, hbel'⟩
    · cases hfr
  rintro e a' w' ⟨st', hq, hS'⟩
  cases e with
  | normal => exact fin _ st' a' w' hq hS'
  | ret => exact fin _ st' a' w' hq hS'
  | exit id => (obtain ⟨_, _, _, hq, _⟩ := hq; exact absurd hq (by simp))
  | goto l => (obtain ⟨_, _, _, hq, _⟩ := hq; exact absurd hq (by simp))
  | panic ch => (obtain ⟨_, _, _, hq, _⟩ := hq; exact absurd hq (by simp))
  | outgrown => (obtain ⟨_, _, _, hq, _⟩ := hq; exact absurd hq (by simp))

theorem R.retX {fn : Func} {n : Nat} {us : List Value} {fr : List AV} {Φ : AV → List AObj → Prop} {res : AV} {hp' : List AObj} (h : (edAt m).isSome = true) (hr : resIn P fn m.st = some res) (hf : frameAt n m.st = some (us, fr)) (hh : m.st.hp.set n .dead = hp') (hΦ : Φ res hp') :
    Runs rd P m (Go.Abs.retX P fn n us fr Φ) :=
  R.fin h ⟨res, hp', hΦ, .inl rfl, hr, hf, hh⟩ ⟨res, hp', hΦ, .inr rfl, hr, hf, hh⟩

theorem OpsQ.callX {all : Array Oper} {o : Oper} {l : List Oper} {fr : List AV} {hp : List AObj} {R : Exit → St → Prop} {c : Operand} {args : Array Operand} {tys : Array TypeId} {f : FuncId} {caps : List AV} {Φ : AV → List AObj → Prop} (hnm : noMark hp = true) (hw : WantedA all o fr)
    (hop : o.op = .call { callee := .value c, args := args, argTypes := tys }) (hc : ev fr c = .fn f caps) (hcall : CallX P f (args.toList.map (ev fr) ++ caps) hp Φ) (h' : ∀ res hp', Φ res hp' → OpsQ rd P all l ⟨putF fr o.dst res, hp'⟩ R) : OpsQ rd P all (o :: l) ⟨fr, hp⟩ R := by
  intro Z0 w0 a w hS
  refine wpListIn_step fun K hK => ?_
  obtain ⟨μ, F, hFb, hH, hF, hd, hb⟩ := hS
  rw [wanted_rel hF hw, if_pos rfl]
  have hE : ∀ y, Rel w (Zone Z0 F w0.heap.size) μ (ev fr y) (a.eval y) := fun y => ev_rel hF y
  have hcv := hc ▸ hE c
  simp only [Rel] at hcv
  obtain ⟨cv, hcv, hrc⟩ := hcv
  have hargs' : RelL w (Zone Z0 F w0.heap.size) μ (args.toList.map (ev fr)) (args.toList.map a.eval) := by
    generalize args.toList = l
    induction l with
    | nil => exact RelL.nil
    | cons x l ih => exact RelL.cons (hE x) ih
  obtain ⟨hen, hcall⟩ := hcall
  have hC := hcall Z0 F w0 w μ _ _ fr hFb hH (hargs'.append hrc) hF hb
  have hrun : (execOp a.eval o).run P w = .ok (.enter f (args.toList.map a.eval ++ cv).toArray) w := by
    have e1 : (args.map a.eval ++ cv.toArray) = (args.toList.map a.eval ++ cv).toArray := by
      apply Array.toList_inj.1; simp
    simp only [execOp, hop, resolve, Deferred.ofValue, hcv, Sem.run_bind, Sem.run_pure, Result.andThen_ok, invoke, Array.empty_append]
    rw [e1]
    exact hen _ _
  refine wpIn_of_run (fun c' => by rw [hop]; simp) ?_
  rw [hrun]
  refine upon_enter hC ?_
  rintro en w' ⟨x, μ', F', res, hp', hΦ, rfl, hFb', hH', hr, hF', hbel⟩
  exact ⟨x, rfl, hK _ _ (h' res hp' hΦ Z0 w0 _ _ ⟨μ', F', hFb', hH', put_rel hF' _ hr, by rw [put_defers']; exact .inl (hd.none hnm), hbel⟩)⟩

def opsHd (m : M) : Bool :=
  match m.ks with
  | .ops _ (_ :: _) _ :: _ => true
  | _ => false

theorem R.callX {f : FuncId} {avs : List AV} {hp : List AObj} {Φ : AV → List AObj → Prop} (hc : CallX P f avs hp Φ) (h : csAt m = some (f, avs)) (hh : m.st.hp = hp) (ht : opsHd m = true) (h' : ∀ res hp', Φ res hp' → Runs rd P (putM m none res hp') Q) : Runs rd P m Q := by
  have hnm := csAt_mark h
  obtain ⟨fo, args, tys, caps, hop, hf, rfl⟩ := csAt_parts h
  subst hh
  obtain ⟨ks, ⟨fr, hp⟩⟩ := m
  unfold opM headOf at hop
  unfold opsHd at ht
  unfold putM at h'
  simp only [runs_iff] at h' ⊢
  try simp only at hop ht h' hf hc hnm ⊢
  split at hop
  · rename_i all o fl t heq
    split at hop
    · rename_i hw
      simp only [Option.some.injEq] at hop
      split at heq
      · cases heq
        intro hW
        exact OpsQ.callX hnm (wantH_true hw hW) hop hf hc fun res hp' hΦ => h' res hp' hΦ headW_false
      · simp at ht
      · cases heq
    · cases hop
  · cases hop
/-- Under one more frame. -/
theorem CallX.frame {P : Program} {f : FuncId} {args : List AV} {hp : List AObj} {Φ : AV → List AObj → Prop} (us2 : List Value) (fr2 : List AV) (hc : CallX P f args hp Φ) (h1 : renH (List.range hp.length) hp = hp)
    (h2 : renL (List.range hp.length) args = args) (h3 : ∀ r h', Φ r h' → hp.length ≤ h'.length) : CallX P f args (hp ++ [.frame us2 fr2]) fun r h => ∃ res hp', Φ res hp' ∧ r = res.ren (insJ hp.length hp'.length) ∧ h = insF hp.length us2 fr2 hp' := by
  obtain ⟨hen, hc⟩ := hc
  refine ⟨hen, ?_⟩
  intro Z0 F w0 w μ vs us fr hFb hH hvs hus hbel
  have hml : μ.length = hp.length + 1 := by rw [hH.len]; simp
  have hH0 := hH.ren (List.range hp.length) List.nodup_range
  have e0 : ((List.range hp.length).map fun i => ((hp ++ [AObj.frame us2 fr2]).getD i .dead).ren (List.range hp.length)) = hp := by
    refine Eq.trans (List.map_congr_left fun i hi => ?_) h1
    have hi := List.mem_range.1 hi
    simp only [List.getD_eq_getElem?_getD]
    rw [List.getElem?_append_left hi]
  rw [e0] at hH0
  have hvs0 := hvs.ren (List.range hp.length)
  rw [h2] at hvs0
  have hn2 : (hp ++ [AObj.frame us2 fr2])[hp.length]? = some (.frame us2 fr2) := by simp
  obtain ⟨u, hu⟩ : ∃ u, μ[hp.length]? = some u := ⟨_, List.getElem?_eq_getElem (by omega)⟩
  have hf2 : RelL w (Zone Z0 F w0.heap.size) μ fr2 us2 := hH.obj _ _ u hn2 hu
  have hus0 := (hus.append hf2).ren (List.range hp.length)
  refine (hc Z0 F w0 w _ vs (us ++ us2) _ hFb hH0 hvs0 hus0 hbel).mono ?_
  rintro e w' ⟨v, μ1, F1, res, hp', hΦ, rfl, hF1, hH1, hres, hfr1, hb1⟩
  have h3 := h3 _ _ hΦ
  have hm1 := hH1.len
  have hHd := hH1.addDead u (hH.one _ u hu)
  have hH2 := hHd.ren (insJ hp.length hp'.length) (insJ_nodup h3)
  obtain ⟨μ2, hμ2⟩ : ∃ μ2, μ2 = ((insJ hp.length hp'.length).map fun i => (μ1 ++ [u]).getD i (.bool false)) := ⟨_, rfl⟩
  have hA : ∀ (i : Nat) x, i < hp.length → μ1[i]? = some x → μ2[i]? = some x := by
    intro i x hi hx
    have hj : (insJ hp.length hp'.length)[i]? = some i := by
      unfold insJ
      rw [List.getElem?_append_left (by simpa using hi)]
      simp [hi]
    rw [hμ2, List.getElem?_map, hj]
    simp only [Option.map_some, List.getD_eq_getElem?_getD]
    rw [List.getElem?_append_left (by omega), hx]
    rfl
  have hB : ∀ (i : Nat) x, hp.length ≤ i → μ[i]? = some x → μ2[i]? = some x := by
    intro i x hi hx
    have hin : i = hp.length := by have := (List.getElem?_eq_some_iff.1 hx).1; omega
    subst hin
    rw [hu] at hx
    have hj : (insJ hp.length hp'.length)[hp.length]? = some hp'.length := by
      unfold insJ
      rw [List.getElem?_append_right (by simp)]
      simp
    rw [hμ2, List.getElem?_map, hj]
    simp only [Option.map_some, List.getD_eq_getElem?_getD]
    rw [List.getElem?_append_right (by omega), hm1]
    simpa using hx
  rw [← hμ2] at hH2
  have hall := RelL.mix hA hB (hus.append hf2) hfr1
  have hul := hus.length
  have hfr : RelL w' (Zone Z0 F1 w0.heap.size) μ2 fr us := by
    have := hall.take fr.length
    rwa [List.take_left, ← hul, List.take_left] at this
  have hfr2 : RelL w' (Zone Z0 F1 w0.heap.size) μ2 fr2 us2 := by
    have := hall.drop fr.length
    rwa [List.drop_left, ← hul, List.drop_left] at this
  refine ⟨v, μ2, F1, _, _, ⟨res, hp', hΦ, rfl, rfl⟩, rfl, hF1, ?_, ?_, hfr, hb1⟩
  · refine hH2.frameAt ?_ hfr2
    have hj : (insJ hp.length hp'.length)[hp.length]? = some hp'.length := by
      unfold insJ
      rw [List.getElem?_append_right (by simp)]
      simp
    rw [List.getElem?_map, hj]
    simp [AObj.ren]
  · rw [hμ2]
    exact Rel.ren _ (Rel.keep (w := w') (fun _ _ _ => rfl) (fun i u hu => append_old i u hu) hres)
/-- Objects left out that the call has made. -/
theorem CallX.drop {P : Program} {f : FuncId} {args : List AV} {hp : List AObj} {Φ : AV → List AObj → Prop} (js : List Nat) (hc : CallX P f args hp Φ) (h1 : js.take hp.length = List.range hp.length) (h2 : js.Nodup) :
    CallX P f args hp fun r h => ∃ res hp', Φ res hp' ∧ r = res.ren js ∧ h = renH js hp' := by
  obtain ⟨hen, hc⟩ := hc
  refine ⟨hen, ?_⟩
  intro Z0 F w0 w μ vs us fr hFb hH hvs hus hbel
  refine (hc Z0 F w0 w μ vs us fr hFb hH hvs hus hbel).mono ?_
  rintro e w' ⟨v, μ1, F1, res, hp', hΦ, rfl, hF1, hH1, hres, hfr1, hb1⟩
  have hm1 := hH1.len
  have hjs : ∀ i, i < hp.length → js[i]? = some i := by
    intro i hi
    have := congrArg (fun l : List Nat => l[i]?) h1
    simp only [List.getElem?_take, if_pos hi] at this
    rw [this]
    simp [hi]
  refine ⟨v, _, F1, _, _, ⟨res, hp', hΦ, rfl, rfl⟩, rfl, hF1, hH1.ren js h2, Rel.ren js hres, ?_, hb1⟩
  refine RelL.mix (n := hp.length) ?_ ?_ hus (hfr1.ren (List.range hp.length))
  · intro i x hi hx
    rw [List.getElem?_map, hjs i hi]
    rw [List.getElem?_map] at hx
    simpa [hi] using hx
  · intro i x hi hx
    have h4 := (List.getElem?_eq_some_iff.1 hx).1
    have h5 := hH.len
    omega
/-- Objects left out that the call has made; which, depends on the way. -/
theorem CallX.dropE {P : Program} {f : FuncId} {args : List AV} {hp : List AObj} {Φ : AV → List AObj → Prop} (hc : CallX P f args hp fun r h => ∃ js : List Nat, js.take hp.length = List.range hp.length ∧ js.Nodup ∧ Φ (r.ren js) (renH js h)) :
    CallX P f args hp Φ := by
  obtain ⟨hen, hc⟩ := hc
  refine ⟨hen, ?_⟩
  intro Z0 F w0 w μ vs us fr hFb hH hvs hus hbel
  refine (hc Z0 F w0 w μ vs us fr hFb hH hvs hus hbel).mono ?_
  rintro e w' ⟨v, μ1, F1, res, hp', ⟨js, h1, h2, hΦ⟩, rfl, hF1, hH1, hres, hfr1, hb1⟩
  have hm1 := hH1.len
  have hjs : ∀ i, i < hp.length → js[i]? = some i := by
    intro i hi
    have := congrArg (fun l : List Nat => l[i]?) h1
    simp only [List.getElem?_take, if_pos hi] at this
    rw [this]
    simp [hi]
  refine ⟨v, _, F1, _, _, hΦ, rfl, hF1, hH1.ren js h2, Rel.ren js hres, ?_, hb1⟩
  refine RelL.mix (n := hp.length) ?_ ?_ hus (hfr1.ren (List.range hp.length))
  · intro i x hi hx
    rw [List.getElem?_map, hjs i hi]
    rw [List.getElem?_map] at hx
    simpa [hi] using hx
  · intro i x hi hx
    have h4 := (List.getElem?_eq_some_iff.1 hx).1
    have h5 := hH.len
    omega
/-- Objects left out (dead ones), the others under new numbers. -/
def opsHd0 (m : M) : Bool :=
  match m.ks with
  | .ops _ (_ :: _) false :: _ => true
  | _ => false
/-- A dead object as an empty frame, so that CallX.frame carries a contract over it. -/
theorem R.deadF (i : Nat) (h : opsHd0 m = true) (hd : m.st.hp[i]? = some .dead) (h' : Runs rd P ⟨m.ks, ⟨m.st.fr, m.st.hp.set i (.frame [] [])⟩⟩ Q) : Runs rd P m Q := by
  obtain ⟨ks, ⟨fr, hp⟩⟩ := m
  unfold opsHd0 at h
  simp only [runs_iff] at h h' hd ⊢
  split at h
  · simp only [RunsK] at h' ⊢
    intro _ Z0 w0 a w hS
    obtain ⟨μ, F, hFb, hH, hF, hdf, hb⟩ := hS
    refine h' headW_false Z0 w0 a w ⟨μ, F, hFb, hH.frameAt hd RelL.nil, hF, hdf.keep (fun j x hj => ⟨?_, fun u hu => hu⟩), hb⟩
    have hne : i ≠ j := fun e => by subst e; rw [hd] at hj; cases hj
    simp only
    rw [List.getElem?_set_ne hne]; exact hj
  · cases h
end
end Go.Abs


/-! Calls told by what holds behind them, under further frames that lie anywhere among the objects. -/
namespace Go.Abs
open Go.RowKit Go.ChangeShapes Go.WideShapes Go.Deep

mutual
theorem Rel.mixJ {w w' : World} {Z Z' : Nat → Prop} {μ μ1 μ2 : List Value} {js : List Nat} (hA : ∀ (i : Nat) u, js.contains i = true → μ1[js.idxOf i]? = some u → μ2[i]? = some u) (hB : ∀ (i : Nat) u, js.contains i = false → μ[i]? = some u → μ2[i]? = some u) :
    ∀ {c : AV} {v : Value}, Rel w Z μ c v → Rel w' Z' μ1 (c.ren js) v → Rel w' Z' μ2 c v
  | .int _ _, _, _, h => by simpa [Rel, AV.ren] using h
  | .bool _, _, _, h => by simpa [Rel, AV.ren] using h
  | .str _, _, _, h => by simpa [Rel, AV.ren] using h
  | .nil, _, _, h => by simpa [Rel, AV.ren] using h
  | .top, _, _, _ => by simp [Rel]
  | .own _ _ _ _, _, h, _ => by simp [Rel] at h
  | .lst _ _ _, _, _, h => by simpa [Rel, AV.ren] using h
  | .clp _ _ _, _, _, h => by simpa [Rel, AV.ren] using h
  | .rptr _, _, _, h => by simpa [Rel, AV.ren] using h
  | .ref i, v, h1, h2 => by
    simp only [Rel] at h1 ⊢
    cases hc : js.contains i with
    | true =>
      simp only [AV.ren, hc, if_true, Rel] at h2
      exact hA i v hc h2
    | false => exact hB i v hc h1
  | .ptr i o, v, h1, h2 => by
    simp only [Rel] at h1 ⊢
    cases hc : js.contains i with
    | true =>
      simp only [AV.ren, hc, if_true, Rel] at h2
      obtain ⟨u, g, e1, e2, e3⟩ := h2
      exact ⟨u, g, hA i u hc e1, e2, e3⟩
    | false =>
      obtain ⟨u, g, e1, e2, e3⟩ := h1
      exact ⟨u, g, hB i u hc e1, e2, e3⟩
  | .agg cs, v, h1, h2 => by
    simp only [Rel, AV.ren] at h1 h2 ⊢
    obtain ⟨xs, e1, r1⟩ := h1
    obtain ⟨ys, e2, r2⟩ := h2
    rw [e1] at e2
    simp only [Value.agg.injEq] at e2
    have e3 : xs = ys := by simpa using e2
    subst e3
    exact ⟨xs, e1, RelL.mixJ hA hB r1 r2⟩
  | .tup cs, v, h1, h2 => by
    simp only [Rel, AV.ren] at h1 h2 ⊢
    obtain ⟨xs, e1, r1⟩ := h1
    obtain ⟨ys, e2, r2⟩ := h2
    rw [e1] at e2
    simp only [Value.tuple.injEq] at e2
    have e3 : xs = ys := by simpa using e2
    subst e3
    exact ⟨xs, e1, RelL.mixJ hA hB r1 r2⟩
  | .fn f cs, v, h1, h2 => by
    simp only [Rel, AV.ren] at h1 h2 ⊢
    obtain ⟨xs, e1, r1⟩ := h1
    obtain ⟨ys, e2, r2⟩ := h2
    rw [e1] at e2
    simp only [Value.func.injEq, true_and] at e2
    have e3 : xs = ys := by simpa using e2
    subst e3
    exact ⟨xs, e1, RelL.mixJ hA hB r1 r2⟩
theorem RelL.mixJ {w w' : World} {Z Z' : Nat → Prop} {μ μ1 μ2 : List Value} {js : List Nat} (hA : ∀ (i : Nat) u, js.contains i = true → μ1[js.idxOf i]? = some u → μ2[i]? = some u) (hB : ∀ (i : Nat) u, js.contains i = false → μ[i]? = some u → μ2[i]? = some u) :
    ∀ {cs : List AV} {vs : List Value}, RelL w Z μ cs vs → RelL w' Z' μ1 (renL js cs) vs → RelL w' Z' μ2 cs vs
  | [], _, _, h => by simpa [RelL, renL] using h
  | c :: cs, _, h1, h2 => by
    simp only [RelL, renL] at h1 h2 ⊢
    obtain ⟨x, xs, e1, a1, b1⟩ := h1
    obtain ⟨y, ys, e2, a2, b2⟩ := h2
    rw [e1] at e2
    simp only [List.cons.injEq] at e2
    obtain ⟨rfl, rfl⟩ := e2
    exact ⟨x, xs, e1, Rel.mixJ hA hB a1 a2, RelL.mixJ hA hB b1 b2⟩
end

/-- The numbers below n + 1 but k. -/
def insI (k n : Nat) : List Nat := List.range k ++ (List.range (n - k)).map (· + (k + 1))

theorem insI_get {k n j : Nat} (hk : k ≤ n) (hj : j < n) : (insI k n)[j]? = some (if j < k then j else j + 1) := by
  unfold insI
  rcases Nat.lt_or_ge j k with h | h
  · rw [List.getElem?_append_left (by simpa using h)]
    simp [h]
  · rw [List.getElem?_append_right (by simpa using h)]
    simp only [List.length_range, List.getElem?_map]
    rw [List.getElem?_range (by omega)]
    simp only [Option.map_some, if_neg (Nat.not_lt.2 h), Option.some.injEq]
    omega
theorem insI_length {k n : Nat} (hk : k ≤ n) : (insI k n).length = n := by
  unfold insI
  simp
  omega
theorem insI_mem {k n i : Nat} (hk : k ≤ n) (hi : i ≤ n) (hne : i ≠ k) : (insI k n).contains i = true := by
  have : i ∈ insI k n := by
    rcases Nat.lt_or_ge i k with h | h
    · exact List.mem_of_getElem? (i := i) (by rw [insI_get hk (by omega), if_pos h])
    · exact List.mem_of_getElem? (i := i - 1) (by rw [insI_get hk (by omega), if_neg (by omega)]; congr 1; omega)
  simpa using this
theorem insI_nodup {k n : Nat} (hk : k ≤ n) : (insI k n).Nodup := by
  unfold insI
  rw [List.nodup_append]
  refine ⟨List.nodup_range, ?_, ?_⟩
  · rw [List.nodup_iff_pairwise_ne, List.pairwise_map]
    exact List.nodup_range.imp fun h e => h (by omega)
  · intro a ha b hb e
    rw [List.mem_range] at ha
    rw [List.mem_map] at hb
    obtain ⟨c, _, hc⟩ := hb
    omega
theorem insI_idx {k n i : Nat} (hk : k ≤ n) (hc : (insI k n).contains i = true) : (insI k n).idxOf i < n ∧ i = (if (insI k n).idxOf i < k then (insI k n).idxOf i else (insI k n).idxOf i + 1) := by
  have hm : i ∈ insI k n := by simpa using hc
  have hlt := List.idxOf_lt_length_iff.2 hm
  have hlt' : (insI k n).idxOf i < n := by rw [insI_length hk] at hlt; exact hlt
  refine ⟨hlt', ?_⟩
  have h1 := List.getElem_idxOf hlt
  have h2 := insI_get hk hlt'
  rw [List.getElem?_eq_getElem hlt, h1] at h2
  exact Option.some.inj h2
theorem insJ_lo {k m j : Nat} (hj : j < k) : (insJ k m)[j]? = some j := by
  unfold insJ
  rw [List.getElem?_append_left (by simpa using hj)]
  simp [hj]
theorem insJ_at {k m : Nat} : (insJ k m)[k]? = some m := by
  unfold insJ
  rw [List.getElem?_append_right (by simp)]
  simp
theorem insJ_hi {k m j : Nat} (hj : k ≤ j) (hm : j < m) : (insJ k m)[j + 1]? = some j := by
  unfold insJ
  rw [List.getElem?_append_right (by simp; omega)]
  have e : j + 1 - (List.range k).length = (j - k) + 1 := by simp; omega
  rw [e, List.getElem?_cons_succ, List.getElem?_map, List.getElem?_range (by omega)]
  simp
  omega

section
variable {P : Program}

/-- Under a frame that lies at place k. -/
theorem CallX.inF {f : FuncId} {args : List AV} {hp : List AObj} {Φ : AV → List AObj → Prop} (k : Nat) (us2 : List Value) (fr2 : List AV) (hc : CallX P f args hp Φ) (hk : k ≤ hp.length)
    (h1 : renH (insI k hp.length) (insF k us2 fr2 hp) = hp) (h2 : renL (insI k hp.length) (renL (insJ k hp.length) args) = args) (h3 : ∀ r h', Φ r h' → hp.length ≤ h'.length) :
    CallX P f (renL (insJ k hp.length) args) (insF k us2 fr2 hp) fun r h => ∃ res hp', Φ res hp' ∧ r = res.ren (insJ k hp'.length) ∧ h = insF k us2 fr2 hp' := by
  obtain ⟨hen, hc⟩ := hc
  refine ⟨hen, ?_⟩
  intro Z0 F w0 w μ vs us fr hFb hH hvs hus hbel
  have hHl : (insF k us2 fr2 hp).length = hp.length + 1 := by
    unfold insF renH insJ
    simp
    omega
  have hml : μ.length = hp.length + 1 := by rw [hH.len, hHl]
  have hH0 := hH.ren (insI k hp.length) (insI_nodup hk)
  have e0 : ((insI k hp.length).map fun i => ((insF k us2 fr2 hp).getD i .dead).ren (insI k hp.length)) = hp := h1
  rw [e0] at hH0
  have hvs0 := hvs.ren (insI k hp.length)
  rw [h2] at hvs0
  have hn2 : (insF k us2 fr2 hp)[k]? = some (.frame us2 fr2) := by
    unfold insF
    rw [List.getElem?_set_self]
    have : (renH (insJ k hp.length) (hp ++ [.dead])).length = hp.length + 1 := by unfold renH insJ; simp; omega
    omega
  obtain ⟨u, hu⟩ : ∃ u, μ[k]? = some u := ⟨_, List.getElem?_eq_getElem (by omega)⟩
  have hf2 : RelL w (Zone Z0 F w0.heap.size) μ fr2 us2 := hH.obj _ _ u hn2 hu
  have hus0 := (hus.append hf2).ren (insI k hp.length)
  refine (hc Z0 F w0 w _ vs (us ++ us2) _ hFb hH0 hvs0 hus0 hbel).mono ?_
  rintro e w' ⟨v, μ1, F1, res, hp', hΦ, rfl, hF1, hH1, hres, hfr1, hb1⟩
  have h3 := h3 _ _ hΦ
  have hm1 := hH1.len
  have hHd := hH1.addDead u (hH.one _ u hu)
  have hH2 := hHd.ren (insJ k hp'.length) (insJ_nodup (by omega))
  obtain ⟨μ2, hμ2⟩ : ∃ μ2, μ2 = ((insJ k hp'.length).map fun i => (μ1 ++ [u]).getD i (.bool false)) := ⟨_, rfl⟩
  have hA : ∀ (i : Nat) x, (insI k hp.length).contains i = true → μ1[(insI k hp.length).idxOf i]? = some x → μ2[i]? = some x := by
    intro i x hi hx
    obtain ⟨g1, g2⟩ := insI_idx hk hi
    generalize (insI k hp.length).idxOf i = j at g1 g2 hx
    have hj : (insJ k hp'.length)[i]? = some j := by
      split at g2
      · rw [g2]; exact insJ_lo (by assumption)
      · rw [g2]; exact insJ_hi (by omega) (by omega)
    rw [hμ2, List.getElem?_map, hj]
    simp only [Option.map_some, List.getD_eq_getElem?_getD]
    rw [List.getElem?_append_left (List.getElem?_eq_some_iff.1 hx).1, hx]
    rfl
  have hB : ∀ (i : Nat) x, (insI k hp.length).contains i = false → μ[i]? = some x → μ2[i]? = some x := by
    intro i x hi hx
    have hlt := (List.getElem?_eq_some_iff.1 hx).1
    have hin : i = k := by
      refine Classical.byContradiction fun hne => ?_
      have := insI_mem hk (i := i) (by omega) hne
      rw [this] at hi
      cases hi
    subst hin
    rw [hu] at hx
    rw [hμ2, List.getElem?_map, insJ_at]
    simp only [Option.map_some, List.getD_eq_getElem?_getD]
    rw [List.getElem?_append_right (by omega), hm1]
    simpa using hx
  rw [← hμ2] at hH2
  have hall := RelL.mixJ hA hB (hus.append hf2) hfr1
  have hul := hus.length
  have hfr : RelL w' (Zone Z0 F1 w0.heap.size) μ2 fr us := by
    have := hall.take fr.length
    rwa [List.take_left, ← hul, List.take_left] at this
  have hfr2 : RelL w' (Zone Z0 F1 w0.heap.size) μ2 fr2 us2 := by
    have := hall.drop fr.length
    rwa [List.drop_left, ← hul, List.drop_left] at this
  refine ⟨v, μ2, F1, _, _, ⟨res, hp', hΦ, rfl, rfl⟩, rfl, hF1, ?_, ?_, hfr, hb1⟩
  · refine hH2.frameAt ?_ hfr2
    rw [List.getElem?_map, insJ_at]
    simp [AObj.ren]
  · rw [hμ2]
    exact Rel.ren _ (Rel.keep (w := w') (fun _ _ _ => rfl) (fun i u hu => append_old i u hu) hres)
end
section
variable {P : Program}
/-- The same with the objects in another order. -/
theorem CallX.perm {f : FuncId} {args : List AV} {hp : List AObj} {Φ : AV → List AObj → Prop} (js ks : List Nat) (hc : CallX P f args hp Φ)
    (hk : (decide js.Nodup && decide ks.Nodup && decide (js.length = hp.length) && js.all (fun i => decide (i < hp.length)) && ks.all (fun i => decide (i < hp.length)) && (List.range hp.length).all fun i => ks.contains i && decide (js[i]? = some (ks.idxOf i))) = true)
    (h1 : renH ks (renH js hp) = hp) (h2 : renL ks (renL js args) = args) (h3 : ∀ r h', Φ r h' → hp.length ≤ h'.length) :
    CallX P f (renL js args) (renH js hp) fun r h => ∃ res hp', Φ res hp' ∧ r = res.ren (js ++ (List.range (hp'.length - hp.length)).map (· + hp.length)) ∧ h = renH (js ++ (List.range (hp'.length - hp.length)).map (· + hp.length)) hp' := by
  obtain ⟨hen, hc⟩ := hc
  refine ⟨hen, ?_⟩
  simp only [Bool.and_eq_true, decide_eq_true_eq, List.all_eq_true, List.mem_range] at hk
  obtain ⟨⟨⟨⟨⟨k1, k2⟩, k3⟩, k4⟩, k6⟩, k5⟩ := hk
  intro Z0 F w0 w μ vs us fr hFb hH hvs hus hbel
  have hml : μ.length = hp.length := by rw [hH.len]; unfold renH; simp [k3]
  have hH0 := hH.ren ks k2
  have e0 : (ks.map fun i => ((renH js hp).getD i .dead).ren ks) = hp := h1
  rw [e0] at hH0
  have hvs0 := hvs.ren ks
  rw [h2] at hvs0
  have hus0 := hus.ren ks
  refine (hc Z0 F w0 w _ vs us _ hFb hH0 hvs0 hus0 hbel).mono ?_
  rintro e w' ⟨v, μ1, F1, res, hp', hΦ, rfl, hF1, hH1, hres, hfr1, hb1⟩
  have h3 := h3 _ _ hΦ
  have hm1 := hH1.len
  obtain ⟨js', hjs'⟩ : ∃ js', js' = js ++ (List.range (hp'.length - hp.length)).map (· + hp.length) := ⟨_, rfl⟩
  have hnd : js'.Nodup := by
    rw [hjs', List.nodup_append]
    refine ⟨k1, ?_, ?_⟩
    · rw [List.nodup_iff_pairwise_ne, List.pairwise_map]
      exact List.nodup_range.imp fun h e => h (by omega)
    · intro a ha b hb e
      rw [List.mem_map] at hb
      obtain ⟨c, _, hc⟩ := hb
      have := k4 a ha
      omega
  have hH2 := hH1.ren js' hnd
  refine ⟨v, _, F1, res.ren js', renH js' hp', ⟨res, hp', hΦ, by rw [hjs'], by rw [hjs']⟩, rfl, hF1, hH2, Rel.ren js' hres, RelL.mixJ ?_ ?_ hus hfr1, hb1⟩
  · intro i x hi hx
    have hlt : i < hp.length := k6 i (by simpa using hi)
    have h5 := (k5 i hlt).2
    have hj' : js'[i]? = some (ks.idxOf i) := by
      rw [hjs', List.getElem?_append_left (by omega)]; exact h5
    rw [List.getElem?_map, hj']
    simp only [Option.map_some, List.getD_eq_getElem?_getD, hx, Option.getD_some]
  · intro i x hi hx
    have hlt := (List.getElem?_eq_some_iff.1 hx).1
    have := (k5 i (by omega)).1
    rw [this] at hi
    cases hi
end

/-! ### A caller's frame, of which nothing is known, stays as it is -/
theorem fit_idx {n i : Nat} {js : List Nat} (hjs : js.take n = List.range n) (hi : i < n) : js.contains i = true ∧ js.idxOf i = i := by
  have e : js = List.range n ++ js.drop n := by rw [← hjs, List.take_append_drop]
  have hm : i ∈ List.range n := List.mem_range.2 hi
  refine ⟨?_, ?_⟩
  · have : i ∈ js := by rw [e]; exact List.mem_append_left _ hm
    simpa using this
  · rw [e, List.idxOf_append, if_pos hm, idx_range hi]
mutual
theorem Rel.fitR {w : World} {Z : Nat → Prop} {μ : List Value} {js : List Nat} (hjs : js.take μ.length = List.range μ.length) : ∀ {c : AV} {v : Value}, Rel w Z μ c v → c.ren js = c
  | .int _ _, _, _ => rfl
  | .bool _, _, _ => rfl
  | .str _, _, _ => rfl
  | .nil, _, _ => rfl
  | .top, _, _ => rfl
  | .own _ _ _ _, _, _ => rfl
  | .lst _ _ _, _, _ => rfl
  | .clp _ _ _, _, _ => rfl
  | .rptr _, _, _ => rfl
  | .ref i, v, h => by
    simp only [Rel] at h
    obtain ⟨h1, h2⟩ := fit_idx hjs (List.getElem?_eq_some_iff.1 h).1
    simp only [AV.ren, h1, h2, if_true]
  | .ptr i o, v, h => by
    simp only [Rel] at h
    obtain ⟨u, g, h, _⟩ := h
    obtain ⟨h1, h2⟩ := fit_idx hjs (List.getElem?_eq_some_iff.1 h).1
    simp only [AV.ren, h1, h2, if_true]
  | .agg cs, v, h => by
    simp only [Rel] at h
    obtain ⟨xs, _, h⟩ := h
    simp only [AV.ren, RelL.fitR hjs h]
  | .tup cs, v, h => by
    simp only [Rel] at h
    obtain ⟨xs, _, h⟩ := h
    simp only [AV.ren, RelL.fitR hjs h]
  | .fn f cs, v, h => by
    simp only [Rel] at h
    obtain ⟨xs, _, h⟩ := h
    simp only [AV.ren, RelL.fitR hjs h]
theorem RelL.fitR {w : World} {Z : Nat → Prop} {μ : List Value} {js : List Nat} (hjs : js.take μ.length = List.range μ.length) : ∀ {cs : List AV} {vs : List Value}, RelL w Z μ cs vs → renL js cs = cs
  | [], _, _ => rfl
  | c :: cs, _, h => by
    simp only [RelL] at h
    obtain ⟨x, xs, _, h1, h2⟩ := h
    simp only [renL, Rel.fitR hjs h1, RelL.fitR hjs h2]
end
mutual
theorem Rel.fitK {w : World} {Z : Nat → Prop} {μ : List Value} {k : Nat} (hk : μ.length ≤ k) : ∀ {c : AV} {v : Value}, Rel w Z μ c v → c.kill k = c
  | .int _ _, _, _ => rfl
  | .bool _, _, _ => rfl
  | .str _, _, _ => rfl
  | .nil, _, _ => rfl
  | .top, _, _ => rfl
  | .own _ _ _ _, _, _ => rfl
  | .lst _ _ _, _, _ => rfl
  | .clp _ _ _, _, _ => rfl
  | .rptr _, _, _ => rfl
  | .ref i, v, h => by
    simp only [Rel] at h
    have := (List.getElem?_eq_some_iff.1 h).1
    simp only [AV.kill]
    rw [if_neg (by omega)]
  | .ptr i o, v, h => by
    simp only [Rel] at h
    obtain ⟨u, g, h, _⟩ := h
    have := (List.getElem?_eq_some_iff.1 h).1
    simp only [AV.kill]
    rw [if_neg (by omega)]
  | .agg cs, v, h => by
    simp only [Rel] at h
    obtain ⟨xs, _, h⟩ := h
    simp only [AV.kill, RelL.fitK hk h]
  | .tup cs, v, h => by
    simp only [Rel] at h
    obtain ⟨xs, _, h⟩ := h
    simp only [AV.kill, RelL.fitK hk h]
  | .fn f cs, v, h => by
    simp only [Rel] at h
    obtain ⟨xs, _, h⟩ := h
    simp only [AV.kill, RelL.fitK hk h]
theorem RelL.fitK {w : World} {Z : Nat → Prop} {μ : List Value} {k : Nat} (hk : μ.length ≤ k) : ∀ {cs : List AV} {vs : List Value}, RelL w Z μ cs vs → killL k cs = cs
  | [], _, _ => rfl
  | c :: cs, _, h => by
    simp only [RelL] at h
    obtain ⟨x, xs, _, h1, h2⟩ := h
    simp only [killL, Rel.fitK hk h1, RelL.fitK hk h2]
end

mutual
theorem Rel.fitF {w : World} {Z : Nat → Prop} {μ : List Value} {k : Nat} {r : AV} (hk : μ.length ≤ k) : ∀ {c : AV} {v : Value}, Rel w Z μ c v → frzV k r c = c
  | .int _ _, _, _ => rfl
  | .bool _, _, _ => rfl
  | .str _, _, _ => rfl
  | .nil, _, _ => rfl
  | .top, _, _ => rfl
  | .own _ _ _ _, _, _ => rfl
  | .lst _ _ _, _, _ => rfl
  | .clp _ _ _, _, _ => rfl
  | .rptr _, _, _ => rfl
  | .ref i, v, h => by
    simp only [Rel] at h
    have := (List.getElem?_eq_some_iff.1 h).1
    simp only [frzV]
    rw [if_neg (by omega)]
  | .ptr i o, v, h => by
    simp only [Rel] at h
    obtain ⟨u, g, h, _⟩ := h
    have := (List.getElem?_eq_some_iff.1 h).1
    simp only [frzV]
    rw [if_neg (by omega)]
  | .agg cs, v, h => by
    simp only [Rel] at h
    obtain ⟨xs, _, h⟩ := h
    simp only [frzV, RelL.fitF hk h]
  | .tup cs, v, h => by
    simp only [Rel] at h
    obtain ⟨xs, _, h⟩ := h
    simp only [frzV, RelL.fitF hk h]
  | .fn f cs, v, h => by
    simp only [Rel] at h
    obtain ⟨xs, _, h⟩ := h
    simp only [frzV, RelL.fitF hk h]
theorem RelL.fitF {w : World} {Z : Nat → Prop} {μ : List Value} {k : Nat} {r : AV} (hk : μ.length ≤ k) : ∀ {cs : List AV} {vs : List Value}, RelL w Z μ cs vs → frzL k r cs = cs
  | [], _, _ => rfl
  | c :: cs, _, h => by
    simp only [RelL] at h
    obtain ⟨x, xs, _, h1, h2⟩ := h
    simp only [frzL, Rel.fitF hk h1, RelL.fitF hk h2]
end

/-- Nothing in fr names an object from n on. -/
structure Fits (n : Nat) (fr : List AV) : Prop where
  ren : ∀ js : List Nat, js.take n = List.range n → renL js fr = fr
  kill : ∀ i, n ≤ i → killL i fr = fr
  frz : ∀ i r, n ≤ i → frzL i r fr = fr

section
variable {rd : Option Nat} {P : Program} {m : M} {Q : Exit → St → Prop}

theorem CallX.ofF {f : FuncId} {fn : Func} {c : Code} {args : List AV} {hp : List AObj} {Φ : AV → List AObj → Prop} (hf : P.funcs[f]? = some fn) (hb : fn.body = some c) (hnm : (fn.name == "runtime.NumGoroutine") = false)
    (h : ∀ us fr, Fits hp.length fr → Runs none P ⟨[.code c], ⟨frameOf fn.ntmps args, hp ++ [.frame us fr]⟩⟩ (retX P fn hp.length us fr Φ)) : CallX P f args hp Φ := by
  refine ⟨enters_of hf hnm (by rw [hb]; rfl), ?_⟩
  intro Z0 F w0 w μ vs us fr hFb hH hvs hus hbel
  have hml := hH.len
  have hfit : Fits hp.length fr := ⟨fun js hjs => RelL.fitR (by rw [hml]; exact hjs) hus, fun i hi => RelL.fitK (by rw [hml]; exact hi) hus, fun i r hi => RelL.fitF (by rw [hml]; exact hi) hus⟩
  · have hlen := hvs.length
    refine calls_of_wpIn hf hb ?_
    have hS : Sim Z0 w0 ⟨frameOf fn.ntmps args, hp ++ [.frame us fr]⟩ { tmps := vs.toArray ++ Array.replicate (fn.ntmps - vs.toArray.size) undef, defers := [] } w := by
      refine ⟨μ ++ [.bool false], F, hFb, hH.extend1 (zone_new hbel.size hFb) (Below.refl _ _) ?_ (fun g hg => by simp [blk] at hg) rfl, ?_, .inl rfl, hbel⟩
      · exact RelL.keep (w := w) (fun _ _ _ => rfl) (fun i u hu => append_old i u hu) hus
      · simp only [Array.toList_append, Array.toList_replicate, List.size_toArray, hlen, frameOf]
        refine RelL.append (RelL.keep (w := w) (fun _ _ _ => rfl) (fun i u hu => append_old i u hu) hvs) ?_
        generalize fn.ntmps - args.length = n
        induction n with
        | zero => exact RelL.nil
        | succ n ih => exact RelL.cons (by simp [Rel]) ih
    have hrun2 := h us fr hfit
    simp only [runs_iff] at hrun2
    simp only [RunsK] at hrun2
    refine wpIn_mono (hrun2 Z0 w0 _ w hS) ?_
    have fin : ∀ (e : Exit) (st' : St) (a' : Act) (w' : World), retX P fn hp.length us fr Φ e st' → Sim Z0 w0 st' a' w' → a'.defers = [] ∧ ∃ v, (results fn a'.tmps).run P w' = .ok v w' ∧ ∃ v' μ' F' res hp', Φ res hp' ∧ Ending.returned v = .returned v' ∧ (∀ b, F' b → w0.heap.size ≤ b ∧ b < w'.heap.size) ∧ HRel w' (Zone Z0 F' w0.heap.size) w0.heap.size μ' hp' ∧ Rel w' (Zone Z0 F' w0.heap.size) μ' res v' ∧ RelL w' (Zone Z0 F' w0.heap.size) μ' fr us ∧ Below w0.heap.size w0 w' := by
      rintro e st' a' w' ⟨res, hp', hΦ, _, hres, hfr, hh⟩ ⟨μ', F', hFb', hH', hF', hd', hbel'⟩
      obtain ⟨x, h1, h2⟩ := resIn_run hH' hF' hres
      unfold frameAt at hfr
      split at hfr
      · rename_i us2 fr2 hi
        cases hfr
        have hil : hp.length < μ'.length := by rw [hH'.len]; exact (List.getElem?_eq_some_iff.1 hi).1
        have hfrr : RelL w' (Zone Z0 F' w0.heap.size) μ' fr us := hH'.obj _ _ _ hi (List.getElem?_eq_getElem hil)
        exact ⟨hd'.none (resIn_mark hres), x, h1, x, μ', F', res, hp', hΦ, rfl, hFb', hh ▸ hH'.bury _, h2, hfrr, hbel'⟩
      · cases hfr
    rintro e a' w' ⟨st', hq, hS'⟩
    cases e with
    | normal => exact fin _ st' a' w' hq hS'
    | ret => exact fin _ st' a' w' hq hS'
    | exit id => (obtain ⟨_, _, _, hq, _⟩ := hq; exact absurd hq (by simp))
    | goto l => (obtain ⟨_, _, _, hq, _⟩ := hq; exact absurd hq (by simp))
    | panic ch => (obtain ⟨_, _, _, hq, _⟩ := hq; exact absurd hq (by simp))
    | outgrown => (obtain ⟨_, _, _, hq, _⟩ := hq; exact absurd hq (by simp))

/-- A caller's frame in which an object of the call's own has been forgotten. -/
theorem R.kfix (n : Nat) {us : List Value} {fr fr2 : List AV} (h0 : m.st.hp[n]? = some (.frame us fr2)) (hk : fr2 = fr) (h' : Runs rd P ⟨m.ks, ⟨m.st.fr, m.st.hp.set n (.frame us fr)⟩⟩ Q) : Runs rd P m Q := by
  subst hk
  obtain ⟨ks, ⟨f, hp⟩⟩ := m
  have e : hp.set n (.frame us fr2) = hp := by
    refine List.ext_getElem? fun i => ?_
    rw [List.getElem?_set]
    split
    · rename_i hi
      subst hi
      simp only at h0
      have hlt := (List.getElem?_eq_some_iff.1 h0).1
      rw [if_pos hlt, h0]
    · rfl
  simp only [e] at h'
  exact h'
theorem canonF {ks : List Nat} {js : List Nat} {st s' : St} {fr : List AV} (S : List AV → St) (hfit : renL js fr = fr) (h1 : canon ks (some js) st = S (renL js fr)) (h2 : S fr = s') : canon ks (some js) st = s' := by rw [h1, hfit, h2]
end
/-! ### A box seen as a row of one element, while a call does not look at it -/
mutual
theorem Rel.mixK {w w' : World} {Z Z' : Nat → Prop} {μ μ1 μ2 : List Value} {j : Nat} (hA : ∀ (i : Nat) u, i ≠ j → μ1[i]? = some u → μ2[i]? = some u) (hB : ∀ u, μ[j]? = some u → μ2[j]? = some u) :
    ∀ {c : AV} {v : Value}, Rel w Z μ c v → Rel w' Z' μ1 (c.kill j) v → Rel w' Z' μ2 c v
  | .int _ _, _, _, h => by simpa [Rel, AV.kill] using h
  | .bool _, _, _, h => by simpa [Rel, AV.kill] using h
  | .str _, _, _, h => by simpa [Rel, AV.kill] using h
  | .nil, _, _, h => by simpa [Rel, AV.kill] using h
  | .top, _, _, _ => by simp [Rel]
  | .own _ _ _ _, _, h, _ => by simp [Rel] at h
  | .lst _ _ _, _, _, h => by simpa [Rel, AV.kill] using h
  | .clp _ _ _, _, _, h => by simpa [Rel, AV.kill] using h
  | .rptr _, _, _, h => by simpa [Rel, AV.kill] using h
  | .ref i, v, h1, h2 => by
    simp only [Rel] at h1 ⊢
    by_cases hi : i = j
    · subst hi; exact hB v h1
    · simp only [AV.kill, if_neg hi, Rel] at h2
      exact hA i v hi h2
  | .ptr i o, v, h1, h2 => by
    simp only [Rel] at h1 ⊢
    by_cases hi : i = j
    · subst hi
      obtain ⟨u, g, e1, e2, e3⟩ := h1
      exact ⟨u, g, hB u e1, e2, e3⟩
    · simp only [AV.kill, if_neg hi, Rel] at h2
      obtain ⟨u, g, e1, e2, e3⟩ := h2
      exact ⟨u, g, hA i u hi e1, e2, e3⟩
  | .agg cs, v, h1, h2 => by
    simp only [Rel, AV.kill] at h1 h2 ⊢
    obtain ⟨xs, e1, r1⟩ := h1
    obtain ⟨ys, e2, r2⟩ := h2
    rw [e1] at e2
    simp only [Value.agg.injEq] at e2
    have e3 : xs = ys := by simpa using e2
    subst e3
    exact ⟨xs, e1, RelL.mixK hA hB r1 r2⟩
  | .tup cs, v, h1, h2 => by
    simp only [Rel, AV.kill] at h1 h2 ⊢
    obtain ⟨xs, e1, r1⟩ := h1
    obtain ⟨ys, e2, r2⟩ := h2
    rw [e1] at e2
    simp only [Value.tuple.injEq] at e2
    have e3 : xs = ys := by simpa using e2
    subst e3
    exact ⟨xs, e1, RelL.mixK hA hB r1 r2⟩
  | .fn f cs, v, h1, h2 => by
    simp only [Rel, AV.kill] at h1 h2 ⊢
    obtain ⟨xs, e1, r1⟩ := h1
    obtain ⟨ys, e2, r2⟩ := h2
    rw [e1] at e2
    simp only [Value.func.injEq, true_and] at e2
    have e3 : xs = ys := by simpa using e2
    subst e3
    exact ⟨xs, e1, RelL.mixK hA hB r1 r2⟩
theorem RelL.mixK {w w' : World} {Z Z' : Nat → Prop} {μ μ1 μ2 : List Value} {j : Nat} (hA : ∀ (i : Nat) u, i ≠ j → μ1[i]? = some u → μ2[i]? = some u) (hB : ∀ u, μ[j]? = some u → μ2[j]? = some u) :
    ∀ {cs : List AV} {vs : List Value}, RelL w Z μ cs vs → RelL w' Z' μ1 (killL j cs) vs → RelL w' Z' μ2 cs vs
  | [], _, _, h => by simpa [RelL, killL] using h
  | c :: cs, _, h1, h2 => by
    simp only [RelL, killL] at h1 h2 ⊢
    obtain ⟨x, xs, e1, a1, b1⟩ := h1
    obtain ⟨y, ys, e2, a2, b2⟩ := h2
    rw [e1] at e2
    simp only [List.cons.injEq] at e2
    obtain ⟨rfl, rfl⟩ := e2
    exact ⟨x, xs, e1, Rel.mixK hA hB a1 a2, RelL.mixK hA hB b1 b2⟩
end

/-- One object changes its look and its value, in the same block; the others do not name it. -/
theorem HRel.swap {w : World} {Z : Nat → Prop} {B j : Nat} {μ : List Value} {hp : List AObj} {u u' : Value} {o o' : AObj} (h : HRel w Z B μ hp) (hj : hp[j]? = some o) (hu : μ[j]? = some u) (ha : o.alive = true)
    (hblk : blk u' = blk u) (hone : u'.oneCell' = true) (hk : ∀ i oi, i ≠ j → hp[i]? = some oi → oi.kill j = oi) (hnew : ObjRel w Z (μ.set j u') B u' o') : HRel w Z B (μ.set j u') (hp.set j o') := by
  have hjl := (List.getElem?_eq_some_iff.1 hj).1
  have hul := (List.getElem?_eq_some_iff.1 hu).1
  have get : ∀ (i : Nat) oi ui, (hp.set j o')[i]? = some oi → (μ.set j u')[i]? = some ui → (i = j ∧ oi = o' ∧ ui = u') ∨ (i ≠ j ∧ hp[i]? = some oi ∧ μ[i]? = some ui) := by
    intro i oi ui h1 h2
    by_cases e : j = i
    · subst e
      rw [List.getElem?_set_self hjl] at h1
      rw [List.getElem?_set_self hul] at h2
      simp at h1 h2
      exact .inl ⟨rfl, h1.symm, h2.symm⟩
    · rw [List.getElem?_set_ne e] at h1 h2
      exact .inr ⟨fun h => e h.symm, h1, h2⟩
  refine ⟨by simp [h.len], fun i oi ui g h1 ha' h2 hg => ?_, fun i x hx => ?_, fun i oi ui h1 h2 => ?_, fun i k oi ok ui uk g hne h1 h2 a1 a2 m1 m2 b1 b2 => ?_⟩
  · rcases get i oi ui h1 h2 with ⟨rfl, rfl, rfl⟩ | ⟨_, e1, e2⟩
    · exact h.zone _ o u g hj ha hu (hblk ▸ hg)
    · exact h.zone i oi ui g e1 ha' e2 hg
  · by_cases e : j = i
    · subst e
      rw [List.getElem?_set_self hul] at hx
      simp at hx
      rw [← hx]; exact hone
    · rw [List.getElem?_set_ne e] at hx
      exact h.one i x hx
  · rcases get i oi ui h1 h2 with ⟨rfl, rfl, rfl⟩ | ⟨hne, e1, e2⟩
    · exact hnew
    · have := (h.obj i oi ui e1 e2).keep_kill (μ' := μ.set j u') j (fun _ _ _ => rfl) (fun k x hk hx => by rw [List.getElem?_set_ne (fun e => hk e.symm)]; exact hx) (fun _ _ => rfl)
      rwa [hk i oi hne e1] at this
  · rcases get i oi ui h1 m1 with ⟨rfl, rfl, rfl⟩ | ⟨hi, e1, e2⟩ <;> rcases get k ok uk h2 m2 with ⟨rfl, rfl, rfl⟩ | ⟨hk', e3, e4⟩
    · exact hne rfl
    · exact h.sep _ k o ok u uk g (fun e => hk' e.symm) hj e3 ha a2 hu e4 (hblk ▸ b1) b2
    · exact h.sep i _ oi o ui u g hi e1 hj a1 ha e2 hu b1 (hblk ▸ b2)
    · exact h.sep i k oi ok ui uk g hne e1 e3 a1 a2 e2 e4 b1 b2

theorem CallX.box {P : Program} {f : FuncId} {args : List AV} {hp : List AObj} {Φ : AV → List AObj → Prop} (j : Nat) (t : TypeId) (cs : List AV) (hc : CallX P f args hp Φ) (hj : hp[j]? = some (.list t cs.length 1 cs)) (hl : leafyL cs = true)
    (h1 : hp.map (AObj.kill j) = hp) (h2 : killL j args = args) (h3 : ∀ r h', Φ r h' → h'[j]? = some (.list t cs.length 1 cs) ∧ h'.map (AObj.kill j) = h' ∧ r.kill j = r) :
    CallX P f args (hp.set j (.box t cs)) fun r h => ∃ hp', Φ r hp' ∧ h = hp'.set j (.box t cs) := by
  obtain ⟨hen, hc⟩ := hc
  refine ⟨hen, ?_⟩
  intro Z0 F w0 w μ vs us fr hFb hH hvs hus hbel
  have hjl := (List.getElem?_eq_some_iff.1 hj).1
  have kof : ∀ {l : List AObj}, l.map (AObj.kill j) = l → ∀ (i : Nat) (oi : AObj), l[i]? = some oi → oi.kill j = oi := by
    intro l hl i oi hi
    have := congrArg (fun l : List AObj => l[i]?) hl
    simp only [List.getElem?_map, hi, Option.map_some, Option.some.injEq] at this
    exact this
  have hbj : (hp.set j (.box t cs))[j]? = some (.box t cs) := List.getElem?_set_self hjl
  obtain ⟨u, hu⟩ : ∃ u, μ[j]? = some u := ⟨_, List.getElem?_eq_getElem (by rw [hH.len, List.length_set]; exact hjl)⟩
  have hul := (List.getElem?_eq_some_iff.1 hu).1
  obtain ⟨g, xs, rfl, hBg, hg, hr⟩ := hH.obj j _ u hbj hu
  have hr0 : RelL w (Zone Z0 F w0.heap.size) [] cs xs := RelL.leafy hl hr
  have hxl := hr0.length
  obtain ⟨u', hu'⟩ : ∃ u', u' = Value.slice (some ⟨g, 0, none⟩) 1 1 := ⟨_, rfl⟩
  have hset : ((hp.set j (.box t cs)).set j (.list t cs.length 1 cs)) = hp := by
    rw [List.set_set]
    refine List.ext_getElem? fun i => ?_
    rw [List.getElem?_set]
    split
    · rename_i e
      subst e
      exact hj.symm
    · rfl
  have hH0 : HRel w (Zone Z0 F w0.heap.size) w0.heap.size (μ.set j u') hp := by
    have := hH.swap (u' := u') (o' := .list t cs.length 1 cs) hbj hu rfl (by rw [hu']; rfl) (by rw [hu']; rfl) (fun i oi hne hi => kof h1 i oi (by rw [List.getElem?_set_ne (fun e => hne e.symm)] at hi; exact hi)) ⟨xs, ⟨by rw [hxl, Nat.one_mul], .inr ⟨g, 1, xs.toArray, hu', hBg, hg, Nat.le_refl _, by decide, by simp [hxl], by simp [← hxl]⟩⟩, hr0⟩
    rwa [hset] at this
  have hm : ∀ (i : Nat) (x : Value), i ≠ j → μ[i]? = some x → (μ.set j u')[i]? = some x := fun i x hne hx => by rw [List.getElem?_set_ne (fun e => hne e.symm)]; exact hx
  have hvs0 := RelL.keep_kill (w := w) (w' := w) j (fun _ _ _ => rfl) hm hvs
  rw [h2] at hvs0
  have hus0 := RelL.keep_kill (w := w) (w' := w) j (fun _ _ _ => rfl) hm hus
  have hrefj : RelL w (Zone Z0 F w0.heap.size) (μ.set j u') [.ref j] [u'] := RelL.cons (by simp only [Rel]; rw [List.getElem?_set_self hul]) RelL.nil
  refine (hc Z0 F w0 w _ vs (us ++ [u']) _ hFb hH0 hvs0 (hus0.append hrefj) hbel).mono ?_
  rintro e w' ⟨v, μ1, F1, res, hp', hΦ, rfl, hF1, hH1, hres, hfr1, hb1⟩
  obtain ⟨k1, k2, k3⟩ := h3 _ _ hΦ
  have hlen1 := hus0.length
  have hfrA : RelL w' (Zone Z0 F1 w0.heap.size) μ1 (killL j fr) us := by
    have := hfr1.take (killL j fr).length
    rwa [List.take_left, ← hlen1, List.take_left] at this
  have hrj : RelL w' (Zone Z0 F1 w0.heap.size) μ1 [.ref j] [u'] := by
    have := hfr1.drop (killL j fr).length
    rwa [List.drop_left, ← hlen1, List.drop_left] at this
  have hm1 : μ1[j]? = some u' := by
    simp only [RelL, Rel] at hrj
    obtain ⟨x, _, e1, e2, _⟩ := hrj
    simp only [List.cons.injEq] at e1
    rw [e1.1]; exact e2
  have hjl1 := (List.getElem?_eq_some_iff.1 hm1).1
  obtain ⟨xs1, hown, hr1⟩ := hH1.obj j _ u' k1 hm1
  have hcell : w0.heap.size ≤ g ∧ w'.heap[g]? = some (.cells xs1.toArray t (0, 0)) := by
    rcases hown.2 with ⟨e1, _⟩ | ⟨g', cap, cur, e1, e2, e3, e4, e5, e6, e7⟩
    · rw [hu'] at e1; cases e1
    · rw [hu'] at e1
      simp only [Value.slice.injEq, Option.some.injEq, Addr.mk.injEq, true_and, and_true] at e1
      obtain ⟨rfl, rfl⟩ := e1
      refine ⟨e2, ?_⟩
      have : cur = xs1.toArray := by
        apply Array.toList_inj.1
        rw [← e7, List.take_of_length_le (by simp [e6])]
      rw [e3, this]
  refine ⟨v, μ1.set j (.pointer (some ⟨g, 0, none⟩)), F1, res, _, ⟨hp', hΦ, rfl⟩, rfl, hF1, ?_, ?_, ?_, hb1⟩
  · exact hH1.swap k1 hm1 rfl (by rw [hu']; rfl) rfl (fun i oi _ hi => kof k2 i oi hi) ⟨g, xs1, rfl, hcell.1, hcell.2, hr1.lift⟩
  · have := Rel.keep_kill (w := w') (w' := w') (μ' := μ1.set j (.pointer (some ⟨g, 0, none⟩))) j (fun _ _ _ => rfl) (fun i x hne hx => by rw [List.getElem?_set_ne (fun e => hne e.symm)]; exact hx) hres
    rwa [k3] at this
  · refine RelL.mixK ?_ ?_ hus hfrA
    · intro i x hne hx
      rw [List.getElem?_set_ne (fun e => hne e.symm)]; exact hx
    · intro x hx
      rw [hu] at hx
      rw [List.getElem?_set_self hjl1]
      exact hx
/-! ### The address of a field may come first -/
section
variable {P : Program} {m : M} {Q : Exit → St → Prop}
def faAt (P : Program) (m : M) (i : Nat) : Option AV :=
  match m.ks with
  | .any ops listed (_ + 1) :: _ => match ops[i]? with
    | some o => match o.op with
      | .fieldAddr s x f => if o.guard.isNone && Region.noSelect ops && Region.free .any ops listed i && (Region.ready .any ops listed).contains i then (match ev m.st.fr x, fieldB P s f with
        | .ptr j q, some (off, k) => if k = 0 then none else some (.ptr j (q + off))
        | _, _ => none) else none
      | _ => none
    | none => none
  | _ => none

theorem R.anyA (i : Nat) (v : AV) (h : faAt P m i = some v) (np : NoPanic Q) (h' : Runs none P (exM i v m) Q) : Runs none P m Q := by
  obtain ⟨ks, ⟨fr, hp⟩⟩ := m
  simp only [runs_iff] at h' ⊢
  unfold faAt at h
  simp only at h
  split at h
  · rename_i ops listed n ks'
    split at h
    · rename_i o ho
      split at h
      · rename_i s x f hx
        split at h
        · rename_i hc
          simp only [Bool.and_eq_true] at hc
          obtain ⟨⟨⟨hg, hs⟩, hf⟩, hr⟩ := hc
          split at h
          · rename_i j q off k hcs hfb
            split at h
            · cases h
            · rename_i hk
              simp only [Option.some.injEq] at h
              subst h
              simp only [exM, ho, RunsK] at h' ⊢
              intro Z0 w0 a w hS
              have hW : Region.wanted o (yielded ops a.tmps) = true := by
                unfold Region.wanted
                rw [Option.isNone_iff_eq_none.1 hg]
              have hrun : ∃ u, ∀ w, (execOp a.eval o).run P w = .ok (.value u) w := by
                obtain ⟨μ, F, _, _, hFr, _, _⟩ := hS
                have h1 := ev_rel hFr x
                rw [hcs] at h1
                simp only [Rel] at h1
                obtain ⟨u, g, hu, hg', h2⟩ := h1
                refine ⟨.pointer (some ((⟨g, q, none⟩ : Addr).add off)), fun w => ?_⟩
                unfold execOp
                rw [hx]
                simp [h2, run_fieldAt hfb hk w] <;> rfl
              obtain ⟨u, hrun⟩ := hrun
              have hw' : WantedA ops o fr := wantedE_true (by unfold wantedE; rw [Option.isNone_iff_eq_none.1 hg])
              have h1 := StepR.sound (rd := none) (K := fun a' w' => Sim Z0 w0 ⟨putF fr o.dst (.ptr j (q + off)), hp⟩ a' w') (Q := fun _ _ _ => True) (st' := ⟨putF fr o.dst (.ptr j (q + off)), hp⟩) (by simpa using StepR.eff (P := P) (st := ⟨fr, hp⟩) hw' (v := .ptr j (q + off)) (news := []) (by rw [hx]; exact EffR.fieldAddr j q off k hcs hfb hk)) hS (fun _ _ h => h)
              rw [if_pos hW] at h1
              unfold Oper.wpIn at h1
              have h1 := h1.2
              rw [show (Fc none).round = none from rfl, Oper.semAt_none, hrun w] at h1
              simp only [Oper.uponIn] at h1
              exact wpAnyIn_take rfl ho hs hf hr (fun c a w ⟨st', hq, _⟩ => absurd (runsK_panic ks' st' hq) (np c st')) ⟨.inl ⟨hW, hrun⟩, fun w => by unfold Oper.about; rw [hx]⟩ (h' Z0 w0 _ w h1)
          · cases h
        · cases h
      · cases h
    · cases h
  · cases h
theorem np_retX (P : Program) (fn : Func) (n : Nat) (us : List Value) (fr : List AV) (Φ : AV → List AObj → Prop) : NoPanic (retX P fn n us fr Φ) := fun _ _ h => by
  obtain ⟨_, _, _, h⟩ := h
  simp [retS] at h
end
/-! ### Sums that may come first -/
section
variable {P : Program} {m : M} {Q : Exit → St → Prop}
def inAt (m : M) (i : Nat) : Option AV :=
  match m.ks with
  | .any ops listed (_ + 1) :: _ => match ops[i]? with
    | some o => match o.op with
      | .binOp .add _ x y _ => if o.guard.isNone && Region.noSelect ops && Region.free .any ops listed i && (Region.ready .any ops listed).contains i then (match ev m.st.fr x, ev m.st.fr y with
        | .int k a, .int k' b => if k = k' then some (.int k (k.wrap (a + b))) else none
        | _, _ => none) else none
      | _ => none
    | none => none
  | _ => none

theorem R.anyI (i : Nat) (v : AV) (h : inAt m i = some v) (np : NoPanic Q) (h' : Runs none P (exM i v m) Q) : Runs none P m Q := by
  obtain ⟨ks, ⟨fr, hp⟩⟩ := m
  simp only [runs_iff] at h' ⊢
  unfold inAt at h
  simp only at h
  split at h
  · rename_i ops listed n ks'
    split at h
    · rename_i o ho
      split at h
      · rename_i t x y ty hx
        split at h
        · rename_i hc
          simp only [Bool.and_eq_true] at hc
          obtain ⟨⟨⟨hg, hs⟩, hf⟩, hr⟩ := hc
          split at h
          · rename_i k a k' b h1 h2
            split at h
            · rename_i hk
              subst hk
              simp only [Option.some.injEq] at h
              subst h
              simp only [exM, ho, RunsK] at h' ⊢
              intro Z0 w0 ac w hS
              have hW : Region.wanted o (yielded ops ac.tmps) = true := by
                unfold Region.wanted
                rw [Option.isNone_iff_eq_none.1 hg]
              have hrun : ∃ u, ∀ w, (execOp ac.eval o).run P w = .ok (.value u) w := by
                obtain ⟨μ, F, _, _, hFr, _, _⟩ := hS
                have e1 := rel_int (h1 ▸ ev_rel hFr x)
                have e2 := rel_int (h2 ▸ ev_rel hFr y)
                refine ⟨.int k (k.wrap (a + b)), fun w => ?_⟩
                unfold execOp
                rw [hx]
                simp [e1, e2, eqGuard_at_int, binOp_add, Op.intArith] <;> rfl
              obtain ⟨u, hrun⟩ := hrun
              have hw' : WantedA ops o fr := wantedE_true (by unfold wantedE; rw [Option.isNone_iff_eq_none.1 hg])
              have h1' := StepR.sound (rd := none) (K := fun a' w' => Sim Z0 w0 ⟨putF fr o.dst (.int k (k.wrap (a + b))), hp⟩ a' w') (Q := fun _ _ _ => True) (st' := ⟨putF fr o.dst (.int k (k.wrap (a + b))), hp⟩) (by simpa using StepR.eff (P := P) (st := ⟨fr, hp⟩) hw' (v := .int k (k.wrap (a + b))) (news := []) (by rw [hx]; exact EffR.bin k a b h1 h2 rfl)) hS (fun _ _ h => h)
              rw [if_pos hW] at h1'
              unfold Oper.wpIn at h1'
              have h1' := h1'.2
              rw [show (Fc none).round = none from rfl, Oper.semAt_none, hrun w] at h1'
              simp only [Oper.uponIn] at h1'
              exact wpAnyIn_take rfl ho hs hf hr (fun c a w ⟨st', hq, _⟩ => absurd (runsK_panic ks' st' hq) (np c st')) ⟨.inl ⟨hW, hrun⟩, fun w => by unfold Oper.about; rw [hx]⟩ (h' Z0 w0 _ w h1')
            · cases h
          · cases h
        · cases h
      · cases h
    · cases h
  · cases h

/-! ### One element is taken out of a row: append(x[:j], x[j+1:]...) -/
theorem AnyQ.del {ops : Array Oper} {listed : Array Bool} {n : Nat} {fr : List AV} {hp : List AObj} {R : Exit → St → Prop} {i1 i2 i3 : Nat} {o1 o2 o3 : Oper} {t d1 d2 i el s by_ N j : Nat} {k1 k2 : IntKind} {x y hi lo : Operand} {cs zs : List AV}
    (np : ∀ c st, ¬ R (.panic c) st) (hs : Region.noSelect ops = true)
    (ho1 : ops[i1]? = some o1) (ho2 : ops[i2]? = some o2) (ho3 : ops[i3]? = some o3) (g1 : o1.guard = none) (g2 : o2.guard = none) (g3 : o3.guard = none)
    (p1 : o1.op = .slice t x none (some hi) none) (p2 : o2.op = .slice t y (some lo) none none) (p3 : o3.op = .call { callee := .builtin .append, args := #[.tmp d1, .tmp d2], argTypes := #[t, t] })
    (e1 : o1.dst = some d1) (e2 : o2.dst = some d2) (hne : d1 ≠ d2) (hd1 : d1 < fr.length) (hd2 : d2 < fr.length) (hy1 : y ≠ .tmp d1) (hl1 : lo ≠ .tmp d1)
    (hf1 : Region.free .any ops listed i1 = true) (hr1 : (Region.ready .any ops listed).contains i1 = true)
    (hf2 : Region.free .any ops (listed.setIfInBounds i1 true) i2 = true) (hr2 : (Region.ready .any ops (listed.setIfInBounds i1 true)).contains i2 = true)
    (hr3 : Region.ready .any ops ((listed.setIfInBounds i1 true).setIfInBounds i2 true) = [i3])
    (hx : ev fr x = .ref i) (hy : ev fr y = .ref i) (hhi : ev fr hi = .int k1 j) (hlo : ev fr lo = .int k2 ((j + 1 : Nat) : Int)) (hr : rowB P t = some (el, s, zs, by_)) (hi' : hp[i]? = some (.list el s N cs)) (hj : j < N)
    (h1 : ∀ c ∈ cs, c.one = true) (hb : N * by_ ≤ 140737488355328) (hm : N ≤ maxLen)
    (h' : AnyQ none P ops (((listed.setIfInBounds i1 true).setIfInBounds i2 true).setIfInBounds i3 true) n ⟨putF (killL i (putF (putF fr (some d1) .top) (some d2) .top)) o3.dst (.ref i), (hp.map (AObj.kill i)).set i (.list el s (N - 1) (cs.take (j * s) ++ cs.drop ((j + 1) * s)))⟩ R) :
    AnyQ none P ops listed (n + 3) ⟨fr, hp⟩ R := by
  intro Z0 w0 a w hS
  obtain ⟨μ, F, hFb, hH, hF, hdf, hbl⟩ := hS
  have hB := hbl.size
  have hZn := zone_new (Z0 := Z0) hB hFb
  obtain ⟨info, z, hu, hinf, hz, rfl, rfl, hzs, hs0, _⟩ := row_parts hr
  have hxv := hx ▸ ev_rel hF x
  have hyv := hy ▸ ev_rel hF y
  simp only [Rel] at hxv hyv
  have hhv := rel_int (hhi ▸ ev_rel hF hi)
  have hlv := rel_int (hlo ▸ ev_rel hF lo)
  have hts : a.tmps.size = fr.length := by simpa using hF.length
  have hel : elemB P t = some (el, info.size) := by
    unfold elemB
    rw [hu]
    simp [hinf]
  obtain ⟨xs, hown, hrx⟩ := hH.obj i _ _ hi' hxv
  have hlen := hrx.length
  have hcl := hown.1
  rcases hown.2 with ⟨_, h0⟩ | ⟨g, cap, cur, hv0, hB2, hg, hnc, hcm, hcs, htk⟩
  · omega
  have hyx : a.eval y = a.eval x := by rw [hxv] at hyv; exact (Option.some.inj hyv).symm
  have hc0 : ¬ cap = 0 := by omega
  -- the two slices
  have r1 : ∀ w, (Instr.sliceAt t (a.eval x) none (some (.int k1 j)) none).run P w = .ok (.slice (some ⟨g, 0, none⟩) j cap) w := fun w => by
    have := run_sliceAt (P := P) hel (some ⟨g, 0, none⟩) N cap none (some (.int k1 j)) none 0 j cap (fun w => by simp [Instr.sliceBounds, run_bound (P := P) k1 j cap _ (by omega)]) w
    rw [← hv0] at this
    simpa [if_neg hc0, add_lit'] using this
  have r2 : ∀ w, (Instr.sliceAt t (a.eval y) (some (.int k2 ((j + 1 : Nat) : Int))) none none).run P w = .ok (.slice (if cap = j + 1 then some ⟨g, 0, none⟩ else some ⟨g, (j + 1) * info.size, none⟩) (N - (j + 1)) (cap - (j + 1))) w := fun w => by
    have := run_sliceAt (P := P) hel (some ⟨g, 0, none⟩) N cap (some (.int k2 ((j + 1 : Nat) : Int))) none none (j + 1) N cap (fun w => by
      have hbb := run_bound (P := P) k2 (j + 1) N .sliceB (by omega) w
      simp [Instr.sliceBounds] at hbb ⊢; simp [hbb]) w
    rw [hyx, hv0]
    simpa [add_lit'] using this
  obtain ⟨v1, hv1⟩ : ∃ v1 : Value, v1 = .slice (some ⟨g, 0, none⟩) j cap := ⟨_, rfl⟩
  obtain ⟨A, hAe⟩ : ∃ A : Option Addr, A = (if cap = j + 1 then some ⟨g, 0, none⟩ else some ⟨g, (j + 1) * info.size, none⟩) := ⟨_, rfl⟩
  rw [← hv1] at r1
  rw [← hAe] at r2
  have w1 : Region.wanted o1 (yielded ops a.tmps) = true := by unfold Region.wanted; rw [g1]
  refine wpAnyIn_take (v := v1) rfl ho1 hs hf1 hr1 (fun c a w ⟨st', hq, _⟩ => absurd hq (np c st')) ⟨.inl ⟨w1, fun w => by simp only [execOp, p1, hhv, Option.map_some, Option.map_none, Sem.run_bind, r1, Result.andThen_ok, Sem.run_pure]⟩, fun w => by unfold Oper.about; rw [p1]⟩ ?_
  rw [e1]
  have q2 : (a.put (some d1) v1).eval y = a.eval y := Act.eval_put fun d hd => by cases hd; exact hy1
  have q3 : (a.put (some d1) v1).eval lo = a.eval lo := Act.eval_put fun d hd => by cases hd; exact hl1
  have w2 : Region.wanted o2 (yielded ops (a.put (some d1) v1).tmps) = true := by unfold Region.wanted; rw [g2]
  refine wpAnyIn_take (v := .slice A (N - (j + 1)) (cap - (j + 1))) rfl ho2 hs hf2 hr2 (fun c a w ⟨st', hq, _⟩ => absurd hq (np c st')) ⟨.inl ⟨w2, fun w => by simp only [execOp, p2, q2, q3, hlv, Option.map_some, Option.map_none, Sem.run_bind, r2, Result.andThen_ok, Sem.run_pure]⟩, fun w => by unfold Oper.about; rw [p2]⟩ ?_
  rw [e2]
  refine wpAnyIn_all hr3 (by simp) fun k hk => ?_
  simp only [List.mem_cons, List.not_mem_nil, or_false] at hk
  subst hk
  refine wpOp_of_one (Q1 := fun e a' w' => e = .normal ∧ wpAnyIn (Fc none) 0 P .any ops (fun e a' w' => ∃ st', R e st' ∧ Sim Z0 w0 st' a' w') n (((listed.setIfInBounds i1 true).setIfInBounds i2 true).setIfInBounds k true) a' w') ho3 ?_ (fun a w h => h.2) (fun e a w hne h => absurd h.1 hne)
  refine wpListIn_plain g3 fun K hK => ?_
  refine wpIn_of_run (fun c h => by rw [p3] at h; cases h) ?_
  -- the append
  have hown1 : w.ownsRow w0.heap.size el info.size v1 j (xs.take (j * info.size)) := by
    have hle : j * info.size ≤ N * info.size := Nat.mul_le_mul_right _ (by omega)
    refine ⟨by rw [List.length_take, hcl]; omega, .inr ⟨g, cap, cur, hv1, hB2, hg, by omega, hcm, hcs, ?_⟩⟩
    rw [← htk, List.take_take, Nat.min_eq_left hle]
  have hmul : (j + 1) * info.size + (N - (j + 1)) * info.size = N * info.size := by rw [← Nat.add_mul]; congr 1; omega
  have hyl : (xs.drop ((j + 1) * info.size)).length = (N - (j + 1)) * info.size := by rw [List.length_drop, hcl]; omega
  have hsrc : xs.drop ((j + 1) * info.size) ≠ [] → ∃ ad, A = some ad ∧ ∀ (q : Nat) u, (xs.drop ((j + 1) * info.size))[q]? = some u → w.cell? (ad.add q) = some u := by
    intro hne0
    have hN : j + 1 < N := by
      refine Nat.lt_of_not_le fun hle => hne0 ?_
      apply List.eq_nil_of_length_eq_zero
      rw [hyl, show N - (j + 1) = 0 by omega, Nat.zero_mul]
    refine ⟨⟨g, (j + 1) * info.size, none⟩, by rw [hAe, if_neg (by omega)], fun q u hq => ?_⟩
    rw [List.getElem?_drop] at hq
    have := hown.cells (g := g) (by rw [hv0]; rfl) _ u hq
    rw [add_lit'] at this ⊢
    rw [Nat.zero_add] at this
    exact this
  have hA0 : A = none → xs.drop ((j + 1) * info.size) = [] := fun h => by
    rw [hAe] at h
    split at h <;> cases h
  have h1x := ones_rel (μ := []) (w := w) (Z := Zone Z0 F w0.heap.size) (by simp) h1 hrx
  obtain ⟨v', w', hrun, hown', hgr, hblk⟩ := run_append_all (P := P) (ty := o3.type) (cp := cap - (j + 1)) hr hown1 hyl hsrc hA0 (fun u hu => h1x u (List.mem_of_mem_drop hu)) (by rw [show j + (N - (j + 1)) = N - 1 by omega]; exact Nat.le_trans (Nat.mul_le_mul_right _ (Nat.sub_le _ _)) hb) (by omega) hB
  have hbu' := ownsRow_blk hown'
  have hbv1 : v1.ownBlock = some g := by rw [hv1]; rfl
  have hbx : blk (a.eval x) = some g := by rw [hv0]; rfl
  have ed1 : ((a.put (some d1) v1).put (some d2) (.slice A (N - (j + 1)) (cap - (j + 1)))).eval (.tmp d1) = v1 := by
    simp [Act.put, Act.eval, hts, hd1, Ne.symm hne]
  have ed2 : ((a.put (some d1) v1).put (some d2) (.slice A (N - (j + 1)) (cap - (j + 1)))).eval (.tmp d2) = .slice A (N - (j + 1)) (cap - (j + 1)) := by
    simp [Act.put, Act.eval, hts, hd2]
  have er : (execOp ((a.put (some d1) v1).put (some d2) (.slice A (N - (j + 1)) (cap - (j + 1)))).eval o3).run P w = .ok (.value v') w' := by
    simp only [execOp, p3, resolve, List.map_toArray, List.map_cons, List.map_nil, ed1, ed2, Sem.run_bind, Sem.run_pure, Result.andThen_ok, invoke, builtin, hrun]
  rw [er]
  refine hK _ _ (wpListIn_nil ⟨rfl, ?_⟩)
  have hoth : ∀ b, b < w.heap.size → blk (a.eval x) ≠ some b → w'.heap[b]? = w.heap[b]? := fun b hb1 hne => hgr.block b hb1 (fun e => hne (by rw [hbx, ← hbv1, e]))
  have hk : ∀ b, b < w.heap.size → ¬ Zone Z0 F w0.heap.size b → w'.heap[b]? = w.heap[b]? := fun b hb1 hz => hoth b hb1 (fun e => hz (hH.zone i _ _ b hi' rfl hxv e))
  have hm' : ∀ (q : Nat) (u : Value), q ≠ i → μ[q]? = some u → (μ.set i v')[q]? = some u := fun q u hne hu => by rw [List.getElem?_set_ne (Ne.symm hne)]; exact hu
  have hil := (List.getElem?_eq_some_iff.1 hi').1
  refine h' Z0 w0 _ w' ⟨μ.set i v', F, fun b h => ⟨(hFb b h).1, Nat.lt_of_lt_of_le (hFb b h).2 hgr.size⟩, ?_, ?_, ?_, hbl.trans ⟨hgr.os, hgr.tape, hgr.output, hgr.size, fun b hb1 => hoth b (by omega) (fun e => by rw [hbx] at e; simp only [Option.some.injEq] at e; omega)⟩⟩
  · have hown2 : w'.ownsRow w0.heap.size el info.size v' (N - 1) (xs.take (j * info.size) ++ xs.drop ((j + 1) * info.size)) := by
      rw [show N - 1 = j + (N - (j + 1)) by omega]; exact hown'
    refine hH.update hZn hi' hxv rfl hoth ⟨_, hown2, ?_⟩ (fun b hb2 => ?_) (ownsRow_one hown')
    · exact ((hrx.take _).append (hrx.drop _)).keep hk (fun _ _ h => h)
    · rw [hbu'] at hb2
      rcases hblk with e1 | e1
      · left; rw [hbx, ← hbv1, ← e1]; exact hb2
      · right; rw [e1] at hb2; simp only [Option.some.injEq] at hb2; omega
  · refine put_rel ?_ _ (by simp only [Rel]; rw [List.getElem?_set_self (by rw [hH.len]; exact hil)])
    exact RelL.keep_kill i hk hm' (put_rel (put_rel hF (some d1) (v := .top) (by simp [Rel])) (some d2) (v := .top) (by simp [Rel]))
  · rw [put_defers', put_defers', put_defers']
    refine hdf.keep fun q y hq => ?_
    have hqi : q ≠ i := by rintro rfl; rw [hi'] at hq; cases hq
    refine ⟨?_, fun u hu => hm' q u hqi hu⟩
    rw [List.getElem?_set_ne (Ne.symm hqi), List.getElem?_map, hq]
    rfl
def isTmp (d : Nat) : Operand → Bool
  | .tmp q => q == d
  | _ => false
def delAt (P : Program) (m : M) (i1 i2 i3 : Nat) : Option (Nat × Nat × Nat × Nat × List AV × Nat × Int × Int) :=
  match m.ks with
  | .any ops listed (_ + 3) :: _ => match ops[i1]?, ops[i2]?, ops[i3]? with
    | some o1, some o2, some o3 => match o1.op, o2.op, o3.op with
      | .slice t x none (some hi) none, .slice t' y (some lo) none none, .call c => match c.callee, c.args.toList, c.argTypes.toList, o1.dst, o2.dst with
        | .builtin .append, [.tmp d1, .tmp d2], [ta, tb], some e1, some e2 =>
          if decide (t' = t ∧ ta = t ∧ tb = t ∧ e1 = d1 ∧ e2 = d2 ∧ d1 ≠ d2 ∧ d1 < m.st.fr.length ∧ d2 < m.st.fr.length) && !(isTmp d1 y) && !(isTmp d1 lo) && o1.guard.isNone && o2.guard.isNone && o3.guard.isNone && Region.noSelect ops && Region.free .any ops listed i1 && (Region.ready .any ops listed).contains i1 && Region.free .any ops (listed.setIfInBounds i1 true) i2 && (Region.ready .any ops (listed.setIfInBounds i1 true)).contains i2 && decide (Region.ready .any ops ((listed.setIfInBounds i1 true).setIfInBounds i2 true) = [i3]) then
            match ev m.st.fr x, ev m.st.fr y, ev m.st.fr hi, ev m.st.fr lo, rowB P t with
            | .ref i, .ref i', .int _ a, .int _ b, some (el, s, _, by_) => match m.st.hp[i]? with
              | some (.list el' s' n cs) => if i' = i ∧ el' = el ∧ s' = s then some (i, el, s, n, cs, by_, a, b) else none
              | _ => none
            | _, _, _, _, _ => none
          else none
        | _, _, _, _, _ => none
      | _, _, _ => none
    | _, _, _ => none
  | _ => none
def delM (i1 i2 i3 i : Nat) (ob : AObj) (m : M) : M :=
  match m.ks with
  | .any ops listed n :: ks => match ops[i1]?, ops[i2]?, ops[i3]? with
    | some o1, some o2, some o3 => ⟨.any ops (((listed.setIfInBounds i1 true).setIfInBounds i2 true).setIfInBounds i3 true) (n - 3) :: ks, ⟨putF (killL i (putF (putF m.st.fr o1.dst .top) o2.dst .top)) o3.dst (.ref i), (m.st.hp.map (AObj.kill i)).set i ob⟩⟩
    | _, _, _ => m
  | _ => m

theorem tmp_ne {y : Operand} {d : Nat} (h : (!(isTmp d y)) = true) : y ≠ .tmp d := by
  rintro rfl
  simp [isTmp] at h

theorem R.del {α : Type} {m : M} {Q : Exit → St → Prop} (E : α → List AV) (xs : List α) (i1 i2 i3 i el b j : Nat) {s : Nat} (hi lo : Int) (h : delAt P m i1 i2 i3 = some (i, el, s, xs.length, rows E xs, b, hi, lo)) (hhi : hi = (j : Int)) (hlo : lo = ((j + 1 : Nat) : Int))
    (hE : ∀ x, (E x).length = s) (hE1 : ∀ x, (E x).all AV.one = true) (hj : j < xs.length) (h0 : 0 < b) (hb : xs.length * b ≤ 140737488355328) (np : NoPanic Q)
    (h' : Runs none P (delM i1 i2 i3 i (.list el s (xs.take j ++ xs.drop (j + 1)).length (rows E (xs.take j ++ xs.drop (j + 1)))) m) Q) : Runs none P m Q := by
  subst hhi
  subst hlo
  obtain ⟨ks, ⟨fr, hp⟩⟩ := m
  unfold delAt at h
  simp only at h
  split at h
  · rename_i ops listed n ks'
    split at h
    · rename_i o1 o2 o3 ho1 ho2 ho3
      split at h
      · rename_i t x hi0 t' y lo0 c p1 p2 p3
        obtain ⟨callee, args, tys⟩ := c
        simp only at h
        split at h
        · rename_i d1 d2 ta tb e1 e2 ha hb' he1 he2
          split at h
          · rename_i hc
            simp only [Bool.and_eq_true, decide_eq_true_eq, Option.isNone_iff_eq_none] at hc
            obtain ⟨⟨⟨⟨⟨⟨⟨⟨⟨⟨⟨⟨rfl, rfl, rfl, rfl, rfl, hne, hd1, hd2⟩, hy1⟩, hl1⟩, g1⟩, g2⟩, g3⟩, hs⟩, hf1⟩, hr1⟩, hf2⟩, hr2⟩, hr3⟩ := hc
            split at h
            · rename_i i0 i0' k1 a k2 b2 el0 s0 z0 by0 hx hy hhi hlo hr
              split at h
              · rename_i el1 s1 n1 cs1 hi1
                split at h
                · rename_i he
                  obtain ⟨rfl, rfl, rfl⟩ := he
                  simp only [Option.some.injEq, Prod.mk.injEq] at h
                  obtain ⟨rfl, rfl, rfl, rfl, rfl, rfl, rfl, rfl⟩ := h
                  have ea : args = #[.tmp e1, .tmp e2] := Array.toList_inj.1 ha
                  have et : tys = #[_, _] := Array.toList_inj.1 hb'
                  subst ea
                  subst et
                  simp only [runs_iff, delM, ho1, ho2, ho3, RunsK] at h' ⊢
                  have hlen : (xs.take j ++ xs.drop (j + 1)).length = xs.length - 1 := by simp; omega
                  rw [hlen, rows_append, ← rows_take hE, ← rows_drop hE] at h'
                  refine AnyQ.del (fun c st hq => np c st (runsK_panic ks' st hq)) hs ho1 ho2 ho3 g1 g2 g3 p1 p2 p3 he1 he2 hne hd1 hd2 (tmp_ne hy1) (tmp_ne hl1) hf1 hr1 hf2 hr2 hr3 hx hy hhi hlo hr hi1 hj (fun c hc => List.all_eq_true.1 (rows_all hE1 _) c hc) hb (app_bound hb h0) ?_
                  rw [← he1, ← he2]
                  exact h'
                · cases h
              · cases h
            · cases h
          · cases h
        · cases h
      · cases h
    · cases h
  · cases h
end
end Go.Abs
