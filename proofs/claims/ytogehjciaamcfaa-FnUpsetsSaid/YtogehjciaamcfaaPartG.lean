/- Texts of the proof: UU1, SymK, Sym2, SymL, SymM. -/
import Derived.Test.YtogehjciaamcfaaPartF

/-! Upsets, antichains, the dual order: how many there are, and how they are closed. -/
namespace Go.Proofs.Ytogehjciaamcfaa
open Go.RowKit Go.Abs

/-! Lists without repetition. -/
theorem len_le {α : Type} : ∀ {l m : List α}, l.Nodup → (∀ x ∈ l, x ∈ m) → l.length ≤ m.length
  | [], _, _, _ => Nat.zero_le _
  | x :: l, m, hn, h => by
    obtain ⟨a, b, rfl⟩ := List.append_of_mem (h x (List.mem_cons_self ..))
    rw [List.nodup_cons] at hn
    have := len_le (l := l) (m := a ++ b) hn.2 fun y hy => by
      have := h y (List.mem_cons_of_mem _ hy)
      rcases List.mem_append.1 this with h1 | h1
      · exact List.mem_append.2 (.inl h1)
      · rcases List.mem_cons.1 h1 with rfl | h1
        · exact absurd hy hn.1
        · exact List.mem_append.2 (.inr h1)
    simp only [List.length_cons, List.length_append] at this ⊢
    omega
theorem nodup_map {α β : Type} {f : α → β} : ∀ {l : List α}, l.Nodup → (∀ x ∈ l, ∀ y ∈ l, f x = f y → x = y) → (l.map f).Nodup
  | [], _, _ => List.nodup_nil
  | x :: l, hn, h => by
    rw [List.nodup_cons] at hn
    rw [List.map_cons, List.nodup_cons]
    refine ⟨fun hm => ?_, nodup_map hn.2 fun y hy z hz => h y (List.mem_cons_of_mem _ hy) z (List.mem_cons_of_mem _ hz)⟩
    obtain ⟨y, hy, e⟩ := List.mem_map.1 hm
    rw [h y (List.mem_cons_of_mem _ hy) x (List.mem_cons_self ..) e] at hy
    exact hn.1 hy
theorem len_inj {α β : Type} {f : α → β} {l : List α} {m : List β} (hn : l.Nodup) (hi : ∀ x ∈ l, ∀ y ∈ l, f x = f y → x = y) (hm : ∀ x ∈ l, f x ∈ m) : l.length ≤ m.length := by
  have := len_le (nodup_map hn hi) (m := m) fun y hy => by
    obtain ⟨x, hx, rfl⟩ := List.mem_map.1 hy
    exact hm x hx
  rwa [List.length_map] at this
/-- What is counted below a bound. -/
theorem upTo_mem {xs : List Int} {m : Int} : ∀ k, m ∈ upTo xs k ↔ 0 ≤ m ∧ m < (k : Int) ∧ img xs m xs.length = m
  | 0 => by
    simp only [upTo, List.not_mem_nil, false_iff]
    rintro ⟨h1, h2, _⟩
    omega
  | k + 1 => by
    have ih := upTo_mem (xs := xs) (m := m) k
    by_cases h : img xs (k : Int) xs.length = (k : Int)
    · rw [← upTo_yes h, List.mem_append, ih, List.mem_singleton]
      constructor
      · rintro (⟨a, b, c⟩ | rfl)
        · exact ⟨a, by omega, c⟩
        · exact ⟨by omega, by omega, h⟩
      · rintro ⟨a, b, c⟩
        by_cases e : m = (k : Int)
        · exact .inr e
        · exact .inl ⟨a, by omega, c⟩
    · rw [← upTo_no h, ih]
      constructor
      · rintro ⟨a, b, c⟩; exact ⟨a, by omega, c⟩
      · rintro ⟨a, b, c⟩
        refine ⟨a, ?_, c⟩
        by_cases e : m = (k : Int)
        · subst e; exact absurd c h
        · omega
theorem upTo_nodup {xs : List Int} : ∀ k, (upTo xs k).Nodup
  | 0 => List.nodup_nil
  | k + 1 => by
    by_cases h : img xs (k : Int) xs.length = (k : Int)
    · rw [← upTo_yes h]
      refine List.nodup_append.2 ⟨upTo_nodup k, by simp, fun a ha b hb => ?_⟩
      have := (upTo_mem k).1 ha
      have : b = (k : Int) := by simpa using hb
      omega
    · rw [← upTo_no h]; exact upTo_nodup k
theorem antTo_mem {n : Int} {xs : List Int} {m : Int} : ∀ k, m ∈ antTo n xs k ↔ 0 ≤ m ∧ m < (k : Int) ∧ antB n xs m = true
  | 0 => by
    simp only [antTo, List.not_mem_nil, false_iff]
    rintro ⟨h1, h2, _⟩
    omega
  | k + 1 => by
    have ih := antTo_mem (n := n) (xs := xs) (m := m) k
    cases h : antB n xs (k : Int) with
    | true =>
      rw [← antTo_yes h, List.mem_append, ih, List.mem_singleton]
      constructor
      · rintro (⟨a, b, c⟩ | rfl)
        · exact ⟨a, by omega, c⟩
        · exact ⟨by omega, by omega, h⟩
      · rintro ⟨a, b, c⟩
        by_cases e : m = (k : Int)
        · exact .inr e
        · exact .inl ⟨a, by omega, c⟩
    | false =>
      rw [← antTo_no h, ih]
      constructor
      · rintro ⟨a, b, c⟩; exact ⟨a, by omega, c⟩
      · rintro ⟨a, b, c⟩
        refine ⟨a, ?_, c⟩
        by_cases e : m = (k : Int)
        · subst e; rw [h] at c; cases c
        · omega
theorem antTo_nodup {n : Int} {xs : List Int} : ∀ k, (antTo n xs k).Nodup
  | 0 => List.nodup_nil
  | k + 1 => by
    cases h : antB n xs (k : Int) with
    | true =>
      rw [← antTo_yes h]
      refine List.nodup_append.2 ⟨antTo_nodup k, by simp, fun a ha b hb => ?_⟩
      have := (antTo_mem k).1 ha
      have : b = (k : Int) := by simpa using hb
      omega
    | false => rw [← antTo_no h]; exact antTo_nodup k
theorem inM_lt {n m : Int} (h0 : 0 ≤ n) (h8 : n ≤ 8) : InM n.toNat m ↔ 0 ≤ m ∧ m < shl64 1 n := by
  rw [full_rng (n := n.toNat) (by omega), show ((n.toNat : Nat) : Int) = n by omega, inR_iff]
  omega
/-- Masks that are equal bit by bit. -/
theorem bits_eq {N : Nat} {a b : Int} (ha : InM N a) (hb : InM N b) (h : ∀ i, i < N → (tb a i = true ↔ tb b i = true)) : a = b := by
  refine tb_ext ha.1 hb.1 fun i => ?_
  rw [Bool.eq_iff_iff]
  by_cases hi : i < N
  · exact h i hi
  · constructor
    · intro h2; exact absurd (tb_lt ha h2) hi
    · intro h2; exact absurd (tb_lt hb h2) hi
/-- The mask of what has a property. -/
def mkM (p : Nat → Bool) : Nat → Int
  | 0 => 0
  | i + 1 => if p i = true then bor (mkM p i) (shl64 1 (i : Int)) else mkM p i
theorem mkM_ok {p : Nat → Bool} {N : Nat} (hN : N ≤ 61) : ∀ i, i ≤ N → InM N (mkM p i) ∧ ∀ k, tb (mkM p i) k = true ↔ k < i ∧ p k = true
  | 0, _ => ⟨inM_zero _, fun k => by simp [mkM, tb_zero]⟩
  | i + 1, h => by
    obtain ⟨h1, h2⟩ := mkM_ok (p := p) hN i (by omega)
    have ho := inM_one (n := N) (i := i) hN (by omega)
    by_cases hp : p i = true
    · rw [mkM, if_pos hp]
      refine ⟨inM_bor hN h1 ho, fun k => ?_⟩
      rw [tb_bor hN h1 ho, Bool.or_eq_true, h2, tb_one (by omega), decide_eq_true_iff]
      constructor
      · rintro (⟨a, b⟩ | rfl)
        · exact ⟨by omega, b⟩
        · exact ⟨by omega, hp⟩
      · rintro ⟨a, b⟩
        by_cases e : k = i
        · exact .inr e.symm
        · exact .inl ⟨by omega, b⟩
    · rw [mkM, if_neg hp]
      refine ⟨h1, fun k => ?_⟩
      rw [h2]
      constructor
      · rintro ⟨a, b⟩; exact ⟨by omega, b⟩
      · rintro ⟨a, b⟩
        by_cases e : k = i
        · subst e; exact absurd b hp
        · exact ⟨by omega, b⟩
theorem filter_lt {p q : Nat → Bool} : ∀ {l : List Nat}, (∀ x ∈ l, p x = true → q x = true) → (∃ x ∈ l, q x = true ∧ p x = false) → (l.filter p).length < (l.filter q).length
  | [], _, h => by obtain ⟨x, hx, _⟩ := h; cases hx
  | y :: l, h, he => by
    have hle : (l.filter p).length ≤ (l.filter q).length := by
      have h' : ∀ x ∈ l, p x = true → q x = true := fun x hx => h x (List.mem_cons_of_mem _ hx)
      clear he h
      induction l with
      | nil => exact Nat.le_refl _
      | cons z l ih =>
        have ih := ih fun x hx => h' x (List.mem_cons_of_mem _ hx)
        have hz := h' z (List.mem_cons_self ..)
        rw [List.filter_cons, List.filter_cons]
        by_cases e : p z = true
        · rw [if_pos e, if_pos (hz e)]; simp; exact ih
        · rw [if_neg e]; split <;> simp <;> omega
    obtain ⟨x, hx, h1, h2⟩ := he
    rcases List.mem_cons.1 hx with rfl | hx
    · rw [List.filter_cons, List.filter_cons, if_neg (by rw [h2]; decide), if_pos h1]
      simp only [List.length_cons]; omega
    · have ih := filter_lt (l := l) (fun x hx => h x (List.mem_cons_of_mem _ hx)) ⟨x, hx, h1, h2⟩
      have hy := h y (List.mem_cons_self ..)
      rw [List.filter_cons, List.filter_cons]
      by_cases e : p y = true
      · rw [if_pos e, if_pos (hy e)]; simp; exact ih
      · rw [if_neg e]; split <;> simp <;> omega
section
variable {n : Int} {xs : List Int} (hP : okPo n xs = true)
include hP
theorem po_rel : 0 ≤ n ∧ n ≤ 8 ∧ (xs.length : Int) = n ∧ RelOK n.toNat xs ∧ (∀ i, i < n.toNat → tb (xs.getD i 0) i = true) ∧ (∀ i j k : Nat, i < n.toNat → tb (xs.getD i 0) j = true → tb (xs.getD j 0) k = true → tb (xs.getD i 0) k = true) ∧ ∀ i j : Nat, i < n.toNat → tb (xs.getD i 0) j = true → tb (xs.getD j 0) i = true → i = j := by
  have hF := okPo_fr hP
  obtain ⟨h0, h8, hl, hr⟩ := okFr_rel hF
  simp only [okPo, Bool.and_eq_true] at hP
  obtain ⟨_, h1, h2, h3⟩ := hP
  have hlt : ∀ i j, i < n.toNat → tb (xs.getD i 0) j = true → j < n.toNat := fun i j hi h => tb_lt (hr.2 i hi) h
  exact ⟨h0, h8, hl, hr, rB_iff.1 h1, fun i j k hi a b => tB_iff.1 h2 i hi j (hlt i j hi a) k (hlt j k (hlt i j hi a) b) a b, fun i j hi a b => aB_iff.1 h3 i hi j (hlt i j hi a) a b⟩
theorem img_bits {m : Int} (hm : InM n.toNat m) : InM n.toNat (img xs m xs.length) ∧ ∀ k, tb (img xs m xs.length) k = true ↔ ∃ j, tb m j = true ∧ tb (xs.getD j 0) k = true := by
  obtain ⟨h0, h8, hl, hr, _⟩ := po_rel hP
  obtain ⟨h1, h2⟩ := img_ok (n := n.toNat) (by omega) hr hm xs.length (by omega)
  refine ⟨h1, fun k => ?_⟩
  rw [h2]
  constructor
  · rintro ⟨j, _, h3, h4⟩; exact ⟨j, h3, h4⟩
  · rintro ⟨j, h3, h4⟩; exact ⟨j, by have := tb_lt hm h3; omega, h3, h4⟩
theorem up_iff {m : Int} : m ∈ upR n xs ↔ InM n.toNat m ∧ ∀ i j : Nat, tb m i = true → tb (xs.getD i 0) j = true → tb m j = true := by
  obtain ⟨h0, h8, hl, hr, rf, _⟩ := po_rel hP
  have hs := shl_rng n h0 (by omega)
  rw [upR, if_pos hP, upL, upTo_mem, show ((shl64 1 n).toNat : Int) = shl64 1 n by omega, inM_lt h0 h8]
  constructor
  · rintro ⟨a, b, c⟩
    have hm := (inM_lt h0 h8).2 ⟨a, b⟩
    refine ⟨⟨a, b⟩, fun i j h1 h2 => ?_⟩
    rw [← c]
    exact ((img_bits hP hm).2 j).2 ⟨i, h1, h2⟩
  · rintro ⟨⟨a, b⟩, h⟩
    have hm := (inM_lt h0 h8).2 ⟨a, b⟩
    refine ⟨a, b, bits_eq (img_bits hP hm).1 hm fun k hk => ?_⟩
    rw [(img_bits hP hm).2]
    constructor
    · rintro ⟨j, h1, h2⟩; exact h j k h1 h2
    · intro h1; exact ⟨k, h1, rf k hk⟩
theorem an_iff {m : Int} : m ∈ anR n xs ↔ InM n.toNat m ∧ ∀ i j : Nat, tb m i = true → tb m j = true → tb (xs.getD i 0) j = true → i = j := by
  obtain ⟨h0, h8, hl, hr, rf, _⟩ := po_rel hP
  have hs := shl_rng n h0 (by omega)
  rw [anR, if_pos hP, anL, antTo_mem, show ((shl64 1 n).toNat : Int) = shl64 1 n by omega, inM_lt h0 h8, antB_iff]
  constructor
  · rintro ⟨a, b, c⟩
    have hm := (inM_lt h0 h8).2 ⟨a, b⟩
    refine ⟨⟨a, b⟩, fun i j h1 h2 h3 => ?_⟩
    have hi := tb_lt hm h1
    have e := c i hi h1
    have hb := tb_band (n := n.toNat) (by omega) (hr.2 i hi) hm j
    rw [e, tb_one (by omega), h2, h3] at hb
    simpa using hb
  · rintro ⟨⟨a, b⟩, h⟩
    have hm := (inM_lt h0 h8).2 ⟨a, b⟩
    refine ⟨a, b, fun i hi h1 => ?_⟩
    refine bits_eq (inM_band (by omega) (hr.2 i hi) hm) (inM_one (by omega) hi) fun k hk => ?_
    rw [tb_band (by omega) (hr.2 i hi) hm, Bool.and_eq_true, tb_one (by omega), decide_eq_true_iff]
    constructor
    · rintro ⟨h2, h3⟩; exact h i k h1 h3 h2
    · rintro rfl; exact ⟨rf i hi, h1⟩
/-- Each member of an upset is above a least one. -/
theorem min_ex {m : Int} (hm : InM n.toNat m) (x : Nat) (hx : tb m x = true) : ∃ y, tb m y = true ∧ tb (xs.getD y 0) x = true ∧ ∀ z, tb m z = true → tb (xs.getD z 0) y = true → z = y := by
  obtain ⟨h0, h8, hl, hr, rf, tr, asy⟩ := po_rel hP
  have main : ∀ (c x : Nat), ((List.range n.toNat).filter fun z => tb (xs.getD z 0) x).length = c → tb m x = true → ∃ y, tb m y = true ∧ tb (xs.getD y 0) x = true ∧ ∀ z, tb m z = true → tb (xs.getD z 0) y = true → z = y := by
    intro c
    induction c using Nat.strongRecOn with
    | _ c ih =>
      intro x hc hx
      have hxn := tb_lt hm hx
      by_cases h : ∀ z, tb m z = true → tb (xs.getD z 0) x = true → z = x
      · exact ⟨x, hx, rf x hxn, h⟩
      · obtain ⟨z, hz⟩ := Classical.not_forall.1 h
        obtain ⟨hz1, hz2⟩ := Classical.not_imp.1 hz
        obtain ⟨hz2, hz3⟩ := Classical.not_imp.1 hz2
        have hzn := tb_lt hm hz1
        obtain ⟨y, y1, y2, y3⟩ := ih _ (by
          rw [← hc]
          refine filter_lt (fun w hw h1 => ?_) ⟨x, List.mem_range.2 hxn, rf x hxn, ?_⟩
          · exact tr w z x (List.mem_range.1 hw) h1 hz2
          · cases e : tb (xs.getD x 0) z with
            | false => rfl
            | true => exact absurd (asy x z hxn e hz2) (fun e => hz3 e.symm)) z rfl hz1
        exact ⟨y, y1, tr y z x (tb_lt hm y1) y2 hz2, y3⟩
  exact main _ x rfl hx
theorem len_anti : (anR n xs).length = (upR n xs).length := by
  obtain ⟨h0, h8, hl, hr, rf, tr, asy⟩ := po_rel hP
  have nA : (anR n xs).Nodup := by rw [anR, if_pos hP]; exact antTo_nodup _
  have nU : (upR n xs).Nodup := by rw [upR, if_pos hP]; exact upTo_nodup _
  refine Nat.le_antisymm ?_ ?_
  · refine len_inj (f := fun m => img xs m xs.length) nA (fun a ha b hb e => ?_) (fun a ha => ?_)
    · obtain ⟨a1, a2⟩ := (an_iff hP).1 ha
      obtain ⟨b1, b2⟩ := (an_iff hP).1 hb
      have one : ∀ {a b : Int}, InM n.toNat a → InM n.toNat b → (∀ i j : Nat, tb a i = true → tb a j = true → tb (xs.getD i 0) j = true → i = j) → img xs a xs.length = img xs b xs.length → ∀ x, x < n.toNat → tb a x = true → tb b x = true := by
        intro a b a1 b1 a2 e x hx h
        obtain ⟨y, y1, y2⟩ := ((img_bits hP b1).2 x).1 (by rw [← e]; exact ((img_bits hP a1).2 x).2 ⟨x, h, rf x hx⟩)
        have hyn := tb_lt b1 y1
        obtain ⟨z, z1, z2⟩ := ((img_bits hP a1).2 y).1 (by rw [e]; exact ((img_bits hP b1).2 y).2 ⟨y, y1, rf y hyn⟩)
        have hzn := tb_lt a1 z1
        have ez := a2 z x z1 h (tr z y x hzn z2 y2)
        subst ez
        rw [asy z y hzn z2 y2]; exact y1
      exact bits_eq a1 b1 fun x hx => ⟨one a1 b1 a2 e x hx, one b1 a1 b2 e.symm x hx⟩
    · obtain ⟨a1, a2⟩ := (an_iff hP).1 ha
      refine (up_iff hP).2 ⟨(img_bits hP a1).1, fun i j h1 h2 => ?_⟩
      obtain ⟨k, k1, k2⟩ := ((img_bits hP a1).2 i).1 h1
      exact ((img_bits hP a1).2 j).2 ⟨k, k1, tr k i j (tb_lt a1 k1) k2 h2⟩
  · have hmk : ∀ (m : Int), InM n.toNat m → ∀ k, tb (mkM (fun i => tb m i && (List.range n.toNat).all fun z => !(tb m z && tb (xs.getD z 0) i) || decide (z = i)) n.toNat) k = true ↔ tb m k = true ∧ ∀ z, tb m z = true → tb (xs.getD z 0) k = true → z = k := by
      intro m hm k
      rw [(mkM_ok (by omega) n.toNat (Nat.le_refl _)).2 k]
      simp only [Bool.and_eq_true, List.all_eq_true, List.mem_range, Bool.or_eq_true, Bool.not_eq_true', decide_eq_true_eq]
      constructor
      · rintro ⟨_, h1, h2⟩
        refine ⟨h1, fun z z1 z2 => ?_⟩
        rcases h2 z (tb_lt hm z1) with h3 | h3
        · rw [z1, z2] at h3; cases h3
        · exact h3
      · rintro ⟨h1, h2⟩
        refine ⟨tb_lt hm h1, h1, fun z hz => ?_⟩
        by_cases e : tb m z = true ∧ tb (xs.getD z 0) k = true
        · exact .inr (h2 z e.1 e.2)
        · refine .inl ?_
          cases e1 : tb m z with
          | false => rfl
          | true =>
            cases e2 : tb (xs.getD z 0) k with
            | false => rfl
            | true => exact absurd ⟨e1, e2⟩ e
    have hmi : ∀ (p : Nat → Bool), InM n.toNat (mkM p n.toNat) := fun p => (mkM_ok (by omega) n.toNat (Nat.le_refl _)).1
    refine len_inj (f := fun m => mkM (fun i => tb m i && (List.range n.toNat).all fun z => !(tb m z && tb (xs.getD z 0) i) || decide (z = i)) n.toNat) nU (fun a ha b hb e => ?_) (fun a ha => ?_)
    · obtain ⟨a1, a2⟩ := (up_iff hP).1 ha
      obtain ⟨b1, b2⟩ := (up_iff hP).1 hb
      have one : ∀ {a b : Int}, InM n.toNat a → InM n.toNat b → (∀ i j : Nat, tb b i = true → tb (xs.getD i 0) j = true → tb b j = true) → mkM (fun i => tb a i && (List.range n.toNat).all fun z => !(tb a z && tb (xs.getD z 0) i) || decide (z = i)) n.toNat = mkM (fun i => tb b i && (List.range n.toNat).all fun z => !(tb b z && tb (xs.getD z 0) i) || decide (z = i)) n.toNat → ∀ x, tb a x = true → tb b x = true := by
        intro a b a1 b1 b2 e x h
        obtain ⟨y, y1, y2, y3⟩ := min_ex hP a1 x h
        have h1 := (hmk a a1 y).2 ⟨y1, y3⟩
        rw [e] at h1
        exact b2 y x ((hmk b b1 y).1 h1).1 y2
      exact bits_eq a1 b1 fun x _ => ⟨one a1 b1 b2 e x, one b1 a1 a2 e.symm x⟩
    · obtain ⟨a1, a2⟩ := (up_iff hP).1 ha
      refine (an_iff hP).2 ⟨hmi _, fun i j h1 h2 h3 => ?_⟩
      exact ((hmk a a1 j).1 h2).2 i ((hmk a a1 i).1 h1).1 h3
/-! The dual. -/
theorem inv_bits : RelOK n.toNat (invA xs xs.length) ∧ ∀ j : Nat, j < n.toNat → ∀ k, tb ((invA xs xs.length).getD j 0) k = true ↔ k < n.toNat ∧ tb (xs.getD k 0) j = true := by
  obtain ⟨h0, h8, hl, hr, _⟩ := po_rel hP
  have e : xs.length = n.toNat := by omega
  rw [e]
  exact invA_ok hr (by omega) n.toNat (Nat.le_refl _)
theorem inv_po : okPo n (invA xs xs.length) = true := by
  obtain ⟨h0, h8, hl, hr, rf, tr, asy⟩ := po_rel hP
  obtain ⟨r1, r2⟩ := inv_bits hP
  have hF : okFr n (invA xs xs.length) = true := by
    refine okFr_mk ((inR_iff _ _ _).2 (by omega)) (by rw [invA_len]; exact hl) ?_
    rw [List.any_eq_false]
    intro x hx
    obtain ⟨j, hj, rfl⟩ := List.getElem_of_mem hx
    rw [invA_len] at hj
    have h1 := r1.2 j (by omega)
    rw [List.getD_eq_getElem?_getD, List.getElem?_eq_getElem (by rw [invA_len]; exact hj)] at h1
    have := (full_rng (n := n.toNat) (by omega)).1 h1
    rw [show ((n.toNat : Nat) : Int) = n by omega] at this
    simp only [Option.getD_some] at this
    rw [this]; simp
  simp only [okPo, Bool.and_eq_true]
  refine ⟨hF, rB_iff.2 fun i hi => (r2 i hi i).2 ⟨hi, rf i hi⟩, tB_iff.2 fun i hi j hj k hk a b => ?_, aB_iff.2 fun i hi j hj a b => ?_⟩
  · have a := ((r2 i hi j).1 a).2
    have b := ((r2 j hj k).1 b).2
    exact (r2 i hi k).2 ⟨hk, tr k j i hk b a⟩
  · have a := ((r2 i hi j).1 a).2
    have b := ((r2 j hj i).1 b).2
    exact asy i j hi b a
theorem comp_in {m : Int} (hm : InM n.toNat m) : InM n.toNat (bnot ((shl64 1 n) - 1) m) ∧ ∀ k, tb (bnot ((shl64 1 n) - 1) m) k = true ↔ k < n.toNat ∧ tb m k = false := by
  obtain ⟨h0, h8, _⟩ := po_rel hP
  have hf := inM_full (n := n.toNat) (by omega)
  rw [show ((n.toNat : Nat) : Int) = n by omega] at hf
  refine ⟨inM_bnot (by omega) hf hm, fun k => ?_⟩
  have ht := tb_full (n := n.toNat) (by omega) k
  rw [show ((n.toNat : Nat) : Int) = n by omega] at ht
  rw [tb_bnot (n := n.toNat) (by omega) hf hm, ht, Bool.and_eq_true, decide_eq_true_iff, Bool.not_eq_true']
theorem comp_up {m : Int} (h : m ∈ upR n xs) : bnot ((shl64 1 n) - 1) m ∈ upR n (invA xs xs.length) := by
  obtain ⟨a1, a2⟩ := (up_iff hP).1 h
  obtain ⟨c1, c2⟩ := comp_in hP a1
  obtain ⟨r1, r2⟩ := inv_bits hP
  refine (up_iff (inv_po hP)).2 ⟨c1, fun i j h1 h2 => ?_⟩
  obtain ⟨hi, h3⟩ := (c2 i).1 h1
  obtain ⟨hj, h4⟩ := (r2 i hi j).1 h2
  refine (c2 j).2 ⟨hj, ?_⟩
  cases e : tb m j with
  | false => rfl
  | true => rw [a2 j i e h4] at h3; cases h3
theorem comp_dn {m : Int} (h : m ∈ upR n (invA xs xs.length)) : bnot ((shl64 1 n) - 1) m ∈ upR n xs := by
  obtain ⟨a1, a2⟩ := (up_iff (inv_po hP)).1 h
  obtain ⟨c1, c2⟩ := comp_in hP a1
  obtain ⟨r1, r2⟩ := inv_bits hP
  obtain ⟨_, _, _, hr, _⟩ := po_rel hP
  refine (up_iff hP).2 ⟨c1, fun i j h1 h2 => ?_⟩
  obtain ⟨hi, h3⟩ := (c2 i).1 h1
  have hj := tb_lt (hr.2 i hi) h2
  refine (c2 j).2 ⟨hj, ?_⟩
  cases e : tb m j with
  | false => rfl
  | true => rw [a2 j i e ((r2 j hj i).2 ⟨hi, h2⟩)] at h3; cases h3
theorem comp_inj {a b : Int} (ha : InM n.toNat a) (hb : InM n.toNat b) (e : bnot ((shl64 1 n) - 1) a = bnot ((shl64 1 n) - 1) b) : a = b := by
  obtain ⟨c1, c2⟩ := comp_in hP ha
  obtain ⟨d1, d2⟩ := comp_in hP hb
  refine bits_eq ha hb fun k hk => ?_
  have h1 := c2 k
  rw [e, d2 k] at h1
  cases h3 : tb a k <;> cases h4 : tb b k <;> simp_all
theorem len_dual : (upR n (invA xs xs.length)).length = (upR n xs).length := by
  have nU : (upR n xs).Nodup := by rw [upR, if_pos hP]; exact upTo_nodup _
  have nD : (upR n (invA xs xs.length)).Nodup := by rw [upR, if_pos (inv_po hP)]; exact upTo_nodup _
  exact Nat.le_antisymm (len_inj nD (fun a ha b hb e => comp_inj hP ((up_iff (inv_po hP)).1 ha).1 ((up_iff (inv_po hP)).1 hb).1 e) fun a ha => comp_dn hP ha) (len_inj nU (fun a ha b hb e => comp_inj hP ((up_iff hP).1 ha).1 ((up_iff hP).1 hb).1 e) fun a ha => comp_up hP ha)
theorem up_pos : 1 ≤ (upR n xs).length := by
  have : (0 : Int) ∈ upR n xs := (up_iff hP).2 ⟨inM_zero _, fun i j h _ => by rw [tb_zero] at h; cases h⟩
  exact List.length_pos_of_mem this
/-! Least upsets and interiors. -/
theorem box_po {m : Int} (hm : InM n.toNat m) : InM n.toNat (boxB xs m xs.length) ∧ ∀ k, tb (boxB xs m xs.length) k = true ↔ k < n.toNat ∧ ∀ j, tb (xs.getD k 0) j = true → tb m j = true := by
  obtain ⟨h0, h8, hl, hr, _⟩ := po_rel hP
  have := boxB_ok (n := n.toNat) (by omega) hr hm n.toNat (Nat.le_refl _)
  rw [show xs.length = n.toNat by omega]
  exact this
theorem img_up {m : Int} (hm : InM n.toNat m) : img xs m xs.length ∈ upR n xs := by
  obtain ⟨h0, h8, hl, hr, rf, tr, asy⟩ := po_rel hP
  refine (up_iff hP).2 ⟨(img_bits hP hm).1, fun i j h1 h2 => ?_⟩
  obtain ⟨k, k1, k2⟩ := ((img_bits hP hm).2 i).1 h1
  exact ((img_bits hP hm).2 j).2 ⟨k, k1, tr k i j (tb_lt hm k1) k2 h2⟩
theorem box_up {m : Int} (hm : InM n.toNat m) : boxB xs m xs.length ∈ upR n xs := by
  obtain ⟨h0, h8, hl, hr, rf, tr, asy⟩ := po_rel hP
  obtain ⟨b1, b2⟩ := box_po hP hm
  refine (up_iff hP).2 ⟨b1, fun i j h1 h2 => ?_⟩
  obtain ⟨hi, h3⟩ := (b2 i).1 h1
  exact (b2 j).2 ⟨tb_lt (hr.2 i hi) h2, fun k hk => h3 k (tr i j k hi h2 hk)⟩
theorem img_id {x : Int} (hx : x ∈ upR n xs) : img xs x xs.length = x := by
  obtain ⟨h0, h8, hl, hr, rf, tr, asy⟩ := po_rel hP
  obtain ⟨a1, a2⟩ := (up_iff hP).1 hx
  refine bits_eq (img_bits hP a1).1 a1 fun k hk => ?_
  rw [(img_bits hP a1).2]
  exact ⟨fun ⟨j, h1, h2⟩ => a2 j k h1 h2, fun h => ⟨k, h, rf k hk⟩⟩
theorem box_id {x : Int} (hx : x ∈ upR n xs) : boxB xs x xs.length = x := by
  obtain ⟨h0, h8, hl, hr, rf, tr, asy⟩ := po_rel hP
  obtain ⟨a1, a2⟩ := (up_iff hP).1 hx
  refine bits_eq (box_po hP a1).1 a1 fun k hk => ?_
  rw [(box_po hP a1).2]
  exact ⟨fun ⟨_, h⟩ => h k (rf k hk), fun h => ⟨hk, fun j hj => a2 k j h hj⟩⟩
theorem up_or {x y : Int} (hx : x ∈ upR n xs) (hy : y ∈ upR n xs) : bor x y ∈ upR n xs := by
  obtain ⟨h0, h8, _⟩ := po_rel hP
  obtain ⟨a1, a2⟩ := (up_iff hP).1 hx
  obtain ⟨b1, b2⟩ := (up_iff hP).1 hy
  refine (up_iff hP).2 ⟨inM_bor (by omega) a1 b1, fun i j h1 h2 => ?_⟩
  rw [tb_bor (n := n.toNat) (by omega) a1 b1, Bool.or_eq_true] at h1 ⊢
  exact h1.imp (fun h => a2 i j h h2) (fun h => b2 i j h h2)
theorem up_and {x y : Int} (hx : x ∈ upR n xs) (hy : y ∈ upR n xs) : band x y ∈ upR n xs := by
  obtain ⟨h0, h8, _⟩ := po_rel hP
  obtain ⟨a1, a2⟩ := (up_iff hP).1 hx
  obtain ⟨b1, b2⟩ := (up_iff hP).1 hy
  refine (up_iff hP).2 ⟨inM_band (by omega) a1 b1, fun i j h1 h2 => ?_⟩
  rw [tb_band (n := n.toNat) (by omega) a1 b1, Bool.and_eq_true] at h1 ⊢
  exact ⟨a2 i j h1.1 h2, b2 i j h1.2 h2⟩
theorem sub_img {m : Int} (hm : InM n.toNat m) : bnot m (img xs m xs.length) = 0 := by
  obtain ⟨h0, h8, hl, hr, rf, tr, asy⟩ := po_rel hP
  exact (bnot_sub (n := n.toNat) (by omega) hm (img_bits hP hm).1).2 fun k hk => ((img_bits hP hm).2 k).2 ⟨k, hk, rf k (tb_lt hm hk)⟩
theorem sub_box {m : Int} (hm : InM n.toNat m) : bnot (boxB xs m xs.length) m = 0 := by
  obtain ⟨h0, h8, hl, hr, rf, tr, asy⟩ := po_rel hP
  exact (bnot_sub (n := n.toNat) (by omega) (box_po hP hm).1 hm).2 fun k hk => by
    obtain ⟨h1, h2⟩ := ((box_po hP hm).2 k).1 hk
    exact h2 k (rf k h1)
end

end Go.Proofs.Ytogehjciaamcfaa


/-! Rows of bytes; drawn regions with tags of one's own. -/
namespace Go.Abs
open Go.RowKit Go.ChangeShapes Go.WideShapes Go.Deep

def eB (n : Int) : List AV := [.int .u8 n]
def LB (xs : List Int) : AV := .lst 1 xs.length (rows eB xs)
theorem eB_len (x : Int) : (eB x).length = 1 := rfl
section
variable {H : Type} {enc : TypeId × Value → H} {P : Program} {w : World} {base : Nat} {spare : Nat → Bool} {held : Bool}

theorem RelL_bytes {Z : Nat → Prop} {μ : List Value} : ∀ xs : List Int, RelL w Z μ (rows eB xs) (xs.map fun n => .int .u8 n)
  | [] => RelL.nil
  | x :: xs => RelL.cons (by simp [Rel]) (RelL_bytes xs)

theorem trod_bytes {t e : TypeId} {fuel : Nat} {cs : List Value} {x : DataW H × List MemPlace} (ht : P.underlying t = some (.slice e)) (he : P.underlying e = some (.int .u8)) (hc : P.cellsOf e = 1)
    (h : DataW.trod enc P w base spare held fuel t cs = some x) : ∃ v, cs = [v] ∧ ∃ xs : List Int, xs.length ≤ maxLen ∧ (∀ j, j < xs.length → 0 ≤ xs.getD j 0 ∧ xs.getD j 0 ≤ 255) ∧ Rel w (Z0 w) [] (LB xs) v := by
  rcases open_slice1 ht hc h with ⟨rfl, _⟩ | ⟨a, len, cap, m, n, V, D, Pl, rfl, _, hl, hm, hmm, _, hx⟩
  · exact ⟨_, rfl, [], Nat.zero_le _, fun j hj => absurd hj (by simp), none, 0, [], rfl, rfl, Nat.le_refl _, fun h => absurd rfl h, RelL.nil⟩
  · have hlm : len ≤ m := by rw [hmm]; split <;> omega
    obtain ⟨xs, h1, h2⟩ := choose_list (n := len) (p := fun i y => w.cell? (a.add i) = some (.int .u8 y) ∧ 0 ≤ y ∧ y ≤ 255) fun i hi => by
      obtain ⟨g1, g2⟩ := hx i (by omega)
      obtain ⟨y, hy, _, hw⟩ := DataW.trod_int he g2
      simp at hy
      simp [Lit.wf, IntKind.min, IntKind.max, IntKind.signed, IntKind.bits] at hw
      exact ⟨y, by rw [g1, hy], by omega, by omega⟩
    refine ⟨_, rfl, xs, by omega, fun j hj => (h2 j (by omega)).2, ⟨some a, cap, xs.map fun n => .int .u8 n, by rw [h1], by rw [rows_length eB_len, h1], by omega, fun hne => ⟨a, rfl, ?_, fun j u hj => ?_⟩, RelL_bytes xs⟩⟩
    · have : 0 < len := by
        rw [← h1]
        cases xs with
        | nil => exact absurd rfl hne
        | cons x xs => simp
      have := not_Z0 (h2 0 this).1
      simpa [Addr.add] using this
    · rw [List.getElem?_map, Option.map_eq_some_iff] at hj
      obtain ⟨y, hy, rfl⟩ := hj
      have hj := (List.getElem?_eq_some_iff.1 hy).1
      rw [(h2 j (by omega)).1, List.getD_eq_getElem?_getD, hy]
      rfl

theorem open_bytes {r : Reach} {b0 : Nat} {t e : TypeId} {v : Value} {d : DataW H} {ps : List MemPlace} (ht : P.underlying t = some (.slice e)) (he : P.underlying e = some (.int .u8)) (hc : P.cellsOf e = 1)
    (hval : Value.okWide P w r b0 t v) (hd : DataW.Trod enc P w base spare held t v d ps) : ∃ xs : List Int, xs.length ≤ maxLen ∧ (∀ j, j < xs.length → 0 ≤ xs.getD j 0 ∧ xs.getD j 0 ≤ 255) ∧ Rel w (Z0 w) [] (LB xs) v := by
  obtain ⟨A, n, c, rfl⟩ := okWide_slice ht hval
  obtain ⟨fuel, hf⟩ := hd
  obtain ⟨v, h1, h2⟩ := trod_bytes ht he hc hf
  simp [Value.cells] at h1
  subst h1
  exact h2
end

section
variable {rd : Option Nat} {P : Program} {m : M} {Q : Exit → St → Prop}
end
end Go.Abs


/-! Calls that change the caller's objects: under a further frame; with objects left out. -/
namespace Go.Abs
open Go.RowKit

theorem idx_range {n i : Nat} (h : i < n) : (List.range n).idxOf i = i := by
  have hm : i ∈ List.range n := List.mem_range.2 h
  have hlt := List.idxOf_lt_length_iff.2 hm
  have := List.getElem_idxOf hlt
  rw [List.getElem_range] at this
  exact this

mutual
theorem Rel.mix {w w' : World} {Z Z' : Nat → Prop} {μ μ1 μ2 : List Value} {n : Nat} (hA : ∀ (i : Nat) u, i < n → μ1[i]? = some u → μ2[i]? = some u) (hB : ∀ (i : Nat) u, n ≤ i → μ[i]? = some u → μ2[i]? = some u) :
    ∀ {c : AV} {v : Value}, Rel w Z μ c v → Rel w' Z' μ1 (c.ren (List.range n)) v → Rel w' Z' μ2 c v
  | .int _ _, _, _, h => by simpa [Rel, AV.ren] using h
  | .bool _, _, _, h => by simpa [Rel, AV.ren] using h
  | .str _, _, _, h => by simpa [Rel, AV.ren] using h
  | .nil, _, _, h => by simpa [Rel, AV.ren] using h
  | .top, _, _, _ => by simp [Rel]
  | .own _ _ _ _, _, h, _ => by simp [Rel] at h
  | .lst _ _ _, _, _, h => by simpa [Rel, AV.ren] using h
  | .clp _ _ _, _, _, h => by simpa [Rel, AV.ren] using h
  | .rptr _, _, _, h => by simpa [Rel, AV.ren] using h
  | .ref i, v, h1, h2 => by
    simp only [Rel] at h1 ⊢
    rcases Nat.lt_or_ge i n with hi | hi
    · have hc : (List.range n).contains i = true := by simpa using hi
      simp only [AV.ren, hc, if_true, idx_range hi, Rel] at h2
      exact hA i v hi h2
    · exact hB i v hi h1
  | .ptr i o, v, h1, h2 => by
    simp only [Rel] at h1 ⊢
    rcases Nat.lt_or_ge i n with hi | hi
    · have hc : (List.range n).contains i = true := by simpa using hi
      simp only [AV.ren, hc, if_true, idx_range hi, Rel] at h2
      obtain ⟨u, g, e1, e2, e3⟩ := h2
      exact ⟨u, g, hA i u hi e1, e2, e3⟩
    · obtain ⟨u, g, e1, e2, e3⟩ := h1
      exact ⟨u, g, hB i u hi e1, e2, e3⟩
  | .agg cs, v, h1, h2 => by
    simp only [Rel, AV.ren] at h1 h2 ⊢
    obtain ⟨xs, e1, r1⟩ := h1
    obtain ⟨ys, e2, r2⟩ := h2
    rw [e1] at e2
    simp only [Value.agg.injEq] at e2
    have e3 : xs = ys := by simpa using e2
    subst e3
    exact ⟨xs, e1, RelL.mix hA hB r1 r2⟩
  | .tup cs, v, h1, h2 => by
    simp only [Rel, AV.ren] at h1 h2 ⊢
    obtain ⟨xs, e1, r1⟩ := h1
    obtain ⟨ys, e2, r2⟩ := h2
    rw [e1] at e2
    simp only [Value.tuple.injEq] at e2
    have e3 : xs = ys := by simpa using e2
    subst e3
    exact ⟨xs, e1, RelL.mix hA hB r1 r2⟩
  | .fn f cs, v, h1, h2 => by
    simp only [Rel, AV.ren] at h1 h2 ⊢
    obtain ⟨xs, e1, r1⟩ := h1
    obtain ⟨ys, e2, r2⟩ := h2
    rw [e1] at e2
    simp only [Value.func.injEq, true_and] at e2
    have e3 : xs = ys := by simpa using e2
    subst e3
    exact ⟨xs, e1, RelL.mix hA hB r1 r2⟩
theorem RelL.mix {w w' : World} {Z Z' : Nat → Prop} {μ μ1 μ2 : List Value} {n : Nat} (hA : ∀ (i : Nat) u, i < n → μ1[i]? = some u → μ2[i]? = some u) (hB : ∀ (i : Nat) u, n ≤ i → μ[i]? = some u → μ2[i]? = some u) :
    ∀ {cs : List AV} {vs : List Value}, RelL w Z μ cs vs → RelL w' Z' μ1 (renL (List.range n) cs) vs → RelL w' Z' μ2 cs vs
  | [], _, _, h => by simpa [RelL, renL] using h
  | c :: cs, _, h1, h2 => by
    simp only [RelL, renL] at h1 h2 ⊢
    obtain ⟨x, xs, e1, a1, b1⟩ := h1
    obtain ⟨y, ys, e2, a2, b2⟩ := h2
    rw [e1] at e2
    simp only [List.cons.injEq] at e2
    obtain ⟨rfl, rfl⟩ := e2
    exact ⟨x, xs, e1, Rel.mix hA hB a1 a2, RelL.mix hA hB b1 b2⟩
end

/-- One object more, of which nothing is known. -/
theorem HRel.addDead {w : World} {Z : Nat → Prop} {B : Nat} {μ : List Value} {hp : List AObj} (h : HRel w Z B μ hp) (u : Value) (hu : u.oneCell' = true) : HRel w Z B (μ ++ [u]) (hp ++ [.dead]) := by
  have split : ∀ (i : Nat) oi ui, (hp ++ [.dead])[i]? = some oi → (μ ++ [u])[i]? = some ui → (hp[i]? = some oi ∧ μ[i]? = some ui) ∨ oi = .dead := by
    intro i oi ui h1 h2
    rcases Nat.lt_or_ge i hp.length with hi | hi
    · rw [List.getElem?_append_left hi] at h1
      rw [List.getElem?_append_left (by rw [h.len]; exact hi)] at h2
      exact .inl ⟨h1, h2⟩
    · rw [List.getElem?_append_right hi] at h1
      rcases Nat.eq_zero_or_pos (i - hp.length) with h0 | h0
      · rw [h0] at h1; simp at h1; exact .inr h1.symm
      · rw [List.getElem?_eq_none (by simp; omega)] at h1; cases h1
  refine ⟨by simp [h.len], fun i oi ui g h1 ha h2 hg => ?_, fun i x hx => ?_, fun i oi ui h1 h2 => ?_, fun i j oi oj ui uj g hne h1 h2 a1 a2 m1 m2 b1 b2 => ?_⟩
  · rcases split i oi ui h1 h2 with ⟨e1, e2⟩ | rfl
    · exact h.zone i oi ui g e1 ha e2 hg
    · cases ha
  · rcases Nat.lt_or_ge i μ.length with hi | hi
    · rw [List.getElem?_append_left hi] at hx
      exact h.one i x hx
    · rw [List.getElem?_append_right hi] at hx
      rcases Nat.eq_zero_or_pos (i - μ.length) with h0 | h0
      · rw [h0] at hx; simp at hx; rw [← hx]; exact hu
      · rw [List.getElem?_eq_none (by simp; omega)] at hx; cases hx
  · rcases split i oi ui h1 h2 with ⟨e1, e2⟩ | rfl
    · exact (h.obj i oi ui e1 e2).keep (fun _ _ _ => rfl) (fun i u hu => append_old i u hu) (fun _ _ => rfl)
    · trivial
  · rcases split i oi ui h1 m1 with ⟨e1, e2⟩ | rfl
    · rcases split j oj uj h2 m2 with ⟨e3, e4⟩ | rfl
      · exact h.sep i j oi oj ui uj g hne e1 e3 a1 a2 e2 e4 b1 b2
      · cases a2
    · cases a1

/-- A caller's frame where nothing is known. -/
theorem HRel.frameAt {w : World} {Z : Nat → Prop} {B n : Nat} {μ : List Value} {hp : List AObj} {us : List Value} {fr : List AV} (h : HRel w Z B μ hp) (hd : hp[n]? = some .dead) (hr : RelL w Z μ fr us) : HRel w Z B μ (hp.set n (.frame us fr)) := by
  have hn := (List.getElem?_eq_some_iff.1 hd).1
  have get : ∀ (i : Nat) oi, (hp.set n (.frame us fr))[i]? = some oi → oi = .frame us fr ∨ hp[i]? = some oi := by
    intro i oi h1
    by_cases e : n = i
    · subst e
      rw [List.getElem?_set_self hn] at h1
      simp at h1; exact .inl h1.symm
    · rw [List.getElem?_set_ne e] at h1; exact .inr h1
  refine ⟨by rw [List.length_set]; exact h.len, fun i oi ui g h1 ha h2 hg => ?_, h.one, fun i oi ui h1 h2 => ?_, fun i j oi oj ui uj g hne h1 h2 a1 a2 m1 m2 b1 b2 => ?_⟩
  · rcases get i oi h1 with rfl | h1
    · cases ha
    · exact h.zone i oi ui g h1 ha h2 hg
  · rcases get i oi h1 with rfl | h1
    · exact hr
    · exact h.obj i oi ui h1 h2
  · rcases get i oi h1 with rfl | h1
    · cases a1
    · rcases get j oj h2 with rfl | h2
      · cases a2
      · exact h.sep i j oi oj ui uj g hne h1 h2 a1 a2 m1 m2 b1 b2

def renH (js : List Nat) (hp : List AObj) : List AObj := js.map fun i => (hp.getD i .dead).ren js
/-- The caller's frame laid between the n objects of the call and those that the call has made. -/
def insJ (n m : Nat) : List Nat := List.range n ++ (m :: (List.range (m - n)).map (· + n))
def insF (n : Nat) (us : List Value) (fr : List AV) (hp : List AObj) : List AObj := (renH (insJ n hp.length) (hp ++ [.dead])).set n (.frame us fr)

theorem insJ_nodup {n m : Nat} (h : n ≤ m) : (insJ n m).Nodup := by
  unfold insJ
  rw [List.nodup_append]
  refine ⟨List.nodup_range, ?_, ?_⟩
  · rw [List.nodup_cons]
    refine ⟨?_, ?_⟩
    · intro hm
      rw [List.mem_map] at hm
      obtain ⟨k, hk, e⟩ := hm
      rw [List.mem_range] at hk
      omega
    · rw [List.nodup_iff_pairwise_ne, List.pairwise_map]
      exact List.nodup_range.imp fun h e => h (by omega)
  · intro a ha b hb e
    rw [List.mem_range] at ha
    rw [List.mem_cons, List.mem_map] at hb
    rcases hb with hb | ⟨k, _, hk⟩ <;> omega

theorem CallS.frame {P : Program} {f : FuncId} {args : List AV} {hp : List AObj} {res : AV} {hp' : List AObj} (us2 : List Value) (fr2 : List AV) (hc : CallS P f args hp res hp') (h1 : renH (List.range hp.length) hp = hp)
    (h2 : renL (List.range hp.length) args = args) (h3 : hp.length ≤ hp'.length) : CallS P f args (hp ++ [.frame us2 fr2]) (res.ren (insJ hp.length hp'.length)) (insF hp.length us2 fr2 hp') := by
  obtain ⟨hen, hc⟩ := hc
  refine ⟨hen, ?_⟩
  intro Z0 F w0 w μ vs us fr hFb hH hvs hus hbel
  have hml : μ.length = hp.length + 1 := by rw [hH.len]; simp
  have hH0 := hH.ren (List.range hp.length) List.nodup_range
  have e0 : ((List.range hp.length).map fun i => ((hp ++ [AObj.frame us2 fr2]).getD i .dead).ren (List.range hp.length)) = hp := by
    refine Eq.trans (List.map_congr_left fun i hi => ?_) h1
    have hi := List.mem_range.1 hi
    simp only [List.getD_eq_getElem?_getD]
    rw [List.getElem?_append_left hi]
  rw [e0] at hH0
  have hvs0 := hvs.ren (List.range hp.length)
  rw [h2] at hvs0
  have hn2 : (hp ++ [AObj.frame us2 fr2])[hp.length]? = some (.frame us2 fr2) := by simp
  obtain ⟨u, hu⟩ : ∃ u, μ[hp.length]? = some u := ⟨_, List.getElem?_eq_getElem (by omega)⟩
  have hf2 : RelL w (Zone Z0 F w0.heap.size) μ fr2 us2 := hH.obj _ _ u hn2 hu
  have hus0 := (hus.append hf2).ren (List.range hp.length)
  refine (hc Z0 F w0 w _ vs (us ++ us2) _ hFb hH0 hvs0 hus0 hbel).mono ?_
  rintro e w' ⟨v, μ1, F1, rfl, hF1, hH1, hres, hfr1, hb1⟩
  have hm1 := hH1.len
  have hHd := hH1.addDead u (hH.one _ u hu)
  have hH2 := hHd.ren (insJ hp.length hp'.length) (insJ_nodup h3)
  obtain ⟨μ2, hμ2⟩ : ∃ μ2, μ2 = ((insJ hp.length hp'.length).map fun i => (μ1 ++ [u]).getD i (.bool false)) := ⟨_, rfl⟩
  have hA : ∀ (i : Nat) x, i < hp.length → μ1[i]? = some x → μ2[i]? = some x := by
    intro i x hi hx
    have hj : (insJ hp.length hp'.length)[i]? = some i := by
      unfold insJ
      rw [List.getElem?_append_left (by simpa using hi)]
      simp [hi]
    rw [hμ2, List.getElem?_map, hj]
    simp only [Option.map_some, List.getD_eq_getElem?_getD]
    rw [List.getElem?_append_left (by omega), hx]
    rfl
  have hB : ∀ (i : Nat) x, hp.length ≤ i → μ[i]? = some x → μ2[i]? = some x := by
    intro i x hi hx
    have hin : i = hp.length := by have := (List.getElem?_eq_some_iff.1 hx).1; omega
    subst hin
    rw [hu] at hx
    have hj : (insJ hp.length hp'.length)[hp.length]? = some hp'.length := by
      unfold insJ
      rw [List.getElem?_append_right (by simp)]
      simp
    rw [hμ2, List.getElem?_map, hj]
    simp only [Option.map_some, List.getD_eq_getElem?_getD]
    rw [List.getElem?_append_right (by omega), hm1]
    simpa using hx
  rw [← hμ2] at hH2
  have hall := RelL.mix hA hB (hus.append hf2) hfr1
  have hul := hus.length
  have hfr : RelL w' (Zone Z0 F1 w0.heap.size) μ2 fr us := by
    have := hall.take fr.length
    rwa [List.take_left, ← hul, List.take_left] at this
  have hfr2 : RelL w' (Zone Z0 F1 w0.heap.size) μ2 fr2 us2 := by
    have := hall.drop fr.length
    rwa [List.drop_left, ← hul, List.drop_left] at this
  refine ⟨v, μ2, F1, rfl, hF1, ?_, ?_, hfr, hb1⟩
  · refine hH2.frameAt ?_ hfr2
    have hj : (insJ hp.length hp'.length)[hp.length]? = some hp'.length := by
      unfold insJ
      rw [List.getElem?_append_right (by simp)]
      simp
    rw [List.getElem?_map, hj]
    simp [AObj.ren]
  · rw [hμ2]
    exact Rel.ren _ (Rel.keep (w := w') (fun _ _ _ => rfl) (fun i u hu => append_old i u hu) hres)

/-- Objects left out that the call has made, or put in another order. -/
theorem CallS.drop {P : Program} {f : FuncId} {args : List AV} {hp : List AObj} {res : AV} {hp' : List AObj} (js : List Nat) (hc : CallS P f args hp res hp') (h1 : js.take hp.length = List.range hp.length) (h2 : js.Nodup) :
    CallS P f args hp (res.ren js) (renH js hp') := by
  obtain ⟨hen, hc⟩ := hc
  refine ⟨hen, ?_⟩
  intro Z0 F w0 w μ vs us fr hFb hH hvs hus hbel
  refine (hc Z0 F w0 w μ vs us fr hFb hH hvs hus hbel).mono ?_
  rintro e w' ⟨v, μ1, F1, rfl, hF1, hH1, hres, hfr1, hb1⟩
  have hm1 := hH1.len
  have hjs : ∀ i, i < hp.length → js[i]? = some i := by
    intro i hi
    have := congrArg (fun l : List Nat => l[i]?) h1
    simp only [List.getElem?_take, if_pos hi] at this
    rw [this]
    simp [hi]
  refine ⟨v, _, F1, rfl, hF1, hH1.ren js h2, Rel.ren js hres, ?_, hb1⟩
  refine RelL.mix (n := hp.length) ?_ ?_ hus (hfr1.ren (List.range hp.length))
  · intro i x hi hx
    rw [List.getElem?_map, hjs i hi]
    rw [List.getElem?_map] at hx
    simpa [hi] using hx
  · intro i x hi hx
    have h4 := (List.getElem?_eq_some_iff.1 hx).1
    have h5 := hH.len
    omega

end Go.Abs


/-! Calls of which only what holds behind them is told (draws). -/
namespace Go.Abs
open Go.RowKit Go.ChangeShapes Go.WideShapes Go.Deep

/-- A call by reference: behind it the objects and the result are some of those that Φ tells. -/
def CallX (P : Program) (f : FuncId) (args : List AV) (hp : List AObj) (Φ : AV → List AObj → Prop) : Prop :=
  Enters P f ∧ ∀ (Z0 F : Nat → Prop) (w0 w : World) (μ vs us : List Value) (fr : List AV), (∀ b, F b → w0.heap.size ≤ b ∧ b < w.heap.size) → HRel w (Zone Z0 F w0.heap.size) w0.heap.size μ hp → RelL w (Zone Z0 F w0.heap.size) μ args vs → RelL w (Zone Z0 F w0.heap.size) μ fr us → Below w0.heap.size w0 w →
    Calls P f vs.toArray w fun e w' => ∃ v μ' F' res hp', Φ res hp' ∧ e = .returned v ∧ (∀ b, F' b → w0.heap.size ≤ b ∧ b < w'.heap.size) ∧ HRel w' (Zone Z0 F' w0.heap.size) w0.heap.size μ' hp' ∧ Rel w' (Zone Z0 F' w0.heap.size) μ' res v ∧ RelL w' (Zone Z0 F' w0.heap.size) μ' fr us ∧ Below w0.heap.size w0 w'

section
variable {rd : Option Nat} {P : Program} {m : M} {Q : Exit → St → Prop}

theorem CallX.mono {f : FuncId} {args : List AV} {hp : List AObj} {Φ Ψ : AV → List AObj → Prop} (h : CallX P f args hp Φ) (hm : ∀ r h', Φ r h' → Ψ r h') : CallX P f args hp Ψ := by
  refine ⟨h.1, fun Z0 F w0 w μ vs us fr hFb hH hvs hus hbel => (h.2 Z0 F w0 w μ vs us fr hFb hH hvs hus hbel).mono ?_⟩
  rintro e w' ⟨v, μ', F', res, hp', hΦ, r⟩
  exact ⟨v, μ', F', res, hp', hm _ _ hΦ, r⟩

/-- How the body of such a function ends. -/
def retX (P : Program) (fn : Func) (n : Nat) (us : List Value) (fr : List AV) (Φ : AV → List AObj → Prop) : Exit → St → Prop := fun e st' => ∃ res hp', Φ res hp' ∧ Go.Abs.retS P fn n us fr res hp' e st'

theorem CallX.of {f : FuncId} {fn : Func} {c : Code} {args : List AV} {hp : List AObj} {Φ : AV → List AObj → Prop} (hf : P.funcs[f]? = some fn) (hb : fn.body = some c) (hnm : (fn.name == "runtime.NumGoroutine") = false)
    (h : ∀ us fr, Runs none P ⟨[.code c], ⟨frameOf fn.ntmps args, hp ++ [.frame us fr]⟩⟩ (retX P fn hp.length us fr Φ)) : CallX P f args hp Φ := by
  refine ⟨enters_of hf hnm (by rw [hb]; rfl), ?_⟩
  intro Z0 F w0 w μ vs us fr hFb hH hvs hus hbel
  have hlen := hvs.length
  refine calls_of_wpIn hf hb ?_
  have hS : Sim Z0 w0 ⟨frameOf fn.ntmps args, hp ++ [.frame us fr]⟩ { tmps := vs.toArray ++ Array.replicate (fn.ntmps - vs.toArray.size) undef, defers := [] } w := by
    refine ⟨μ ++ [.bool false], F, hFb, hH.extend1 (zone_new hbel.size hFb) (Below.refl _ _) ?_ (fun g hg => by simp [blk] at hg) rfl, ?_, .inl rfl, hbel⟩
    · exact RelL.keep (w := w) (fun _ _ _ => rfl) (fun i u hu => append_old i u hu) hus
    · simp only [Array.toList_append, Array.toList_replicate, List.size_toArray, hlen, frameOf]
      refine RelL.append (RelL.keep (w := w) (fun _ _ _ => rfl) (fun i u hu => append_old i u hu) hvs) ?_
      generalize fn.ntmps - args.length = n
      induction n with
      | zero => exact RelL.nil
      | succ n ih => exact RelL.cons (by simp [Rel]) ih
  have hrun2 := h us fr
  simp only [runs_iff] at hrun2
  simp only [RunsK] at hrun2
  refine wpIn_mono (hrun2 Z0 w0 _ w hS) ?_
  have fin : ∀ (e : Exit) (st' : St) (a' : Act) (w' : World), retX P fn hp.length us fr Φ e st' → Sim Z0 w0 st' a' w' → a'.defers = [] ∧ ∃ v, (results fn a'.tmps).run P w' = .ok v w' ∧ ∃ v' μ' F' res hp', Φ res hp' ∧ Ending.returned v = .returned v' ∧ (∀ b, F' b → w0.heap.size ≤ b ∧ b < w'.heap.size) ∧ HRel w' (Zone Z0 F' w0.heap.size) w0.heap.size μ' hp' ∧ Rel w' (Zone Z0 F' w0.heap.size) μ' res v' ∧ RelL w' (Zone Z0 F' w0.heap.size) μ' fr us ∧ Below w0.heap.size w0 w' := by
    rintro e st' a' w' ⟨res, hp', hΦ, _, hres, hfr, hh⟩ ⟨μ', F', hFb', hH', hF', hd', hbel'⟩
    obtain ⟨x, h1, h2⟩ := resIn_run hH' hF' hres
    unfold frameAt at hfr
    split at hfr
    · rename_i us2 fr2 hi
      cases hfr
      have hil : hp.length < μ'.length := by rw [hH'.len]; exact (List.getElem?_eq_some_iff.1 hi).1
      have hfrr : RelL w' (Zone Z0 F' w0.heap.size) μ' fr us := hH'.obj _ _ _ hi (List.getElem?_eq_getElem hil)
      exact ⟨hd'.none (resIn_mark hres), x, h1, x, μ', F', res, hp', hΦ, rfl, hFb', hh ▸ hH'.bury _, h2, hfrr, hbel'⟩
    · cases hfr
  rintro e a' w' ⟨st', hq, hS'⟩
  cases e with
  | normal => exact fin _ st' a' w' hq hS'
  | ret => exact fin _ st' a' w' hq hS'
  | exit id => (obtain ⟨_, _, _, hq, _⟩ := hq; exact absurd hq (by simp))
  | goto l => (obtain ⟨_, _, _, hq, _⟩ := hq; exact absurd hq (by simp))
  | panic ch => (obtain ⟨_, _, _, hq, _⟩ := hq; exact absurd hq (by simp))
  | outgrown => (obtain ⟨_, _, _, hq, _⟩ := hq; exact absurd hq (by simp))

theorem R.retX {fn : Func} {n : Nat} {us : List Value} {fr : List AV} {Φ : AV → List AObj → Prop} {res : AV} {hp' : List AObj} (h : (edAt m).isSome = true) (hr : resIn P fn m.st = some res) (hf : frameAt n m.st = some (us, fr)) (hh : m.st.hp.set n .dead = hp') (hΦ : Φ res hp') :
    Runs rd P m (Go.Abs.retX P fn n us fr Φ) :=
  R.fin h ⟨res, hp', hΦ, .inl rfl, hr, hf, hh⟩ ⟨res, hp', hΦ, .inr rfl, hr, hf, hh⟩

theorem OpsQ.callX {all : Array Oper} {o : Oper} {l : List Oper} {fr : List AV} {hp : List AObj} {R : Exit → St → Prop} {c : Operand} {args : Array Operand} {tys : Array TypeId} {f : FuncId} {caps : List AV} {Φ : AV → List AObj → Prop} (hnm : noMark hp = true) (hw : WantedA all o fr)
    (hop : o.op = .call { callee := .value c, args := args, argTypes := tys }) (hc : ev fr c = .fn f caps) (hcall : CallX P f (args.toList.map (ev fr) ++ caps) hp Φ) (h' : ∀ res hp', Φ res hp' → OpsQ rd P all l ⟨putF fr o.dst res, hp'⟩ R) : OpsQ rd P all (o :: l) ⟨fr, hp⟩ R := by
  intro Z0 w0 a w hS
  refine wpListIn_step fun K hK => ?_
  obtain ⟨μ, F, hFb, hH, hF, hd, hb⟩ := hS
  rw [wanted_rel hF hw, if_pos rfl]
  have hE : ∀ y, Rel w (Zone Z0 F w0.heap.size) μ (ev fr y) (a.eval y) := fun y => ev_rel hF y
  have hcv := hc ▸ hE c
  simp only [Rel] at hcv
  obtain ⟨cv, hcv, hrc⟩ := hcv
  have hargs' : RelL w (Zone Z0 F w0.heap.size) μ (args.toList.map (ev fr)) (args.toList.map a.eval) := by
    generalize args.toList = l
    induction l with
    | nil => exact RelL.nil
    | cons x l ih => exact RelL.cons (hE x) ih
  obtain ⟨hen, hcall⟩ := hcall
  have hC := hcall Z0 F w0 w μ _ _ fr hFb hH (hargs'.append hrc) hF hb
  have hrun : (execOp a.eval o).run P w = .ok (.enter f (args.toList.map a.eval ++ cv).toArray) w := by
    have e1 : (args.map a.eval ++ cv.toArray) = (args.toList.map a.eval ++ cv).toArray := by
      apply Array.toList_inj.1; simp
    simp only [execOp, hop, resolve, Deferred.ofValue, hcv, Sem.run_bind, Sem.run_pure, Result.andThen_ok, invoke, Array.empty_append]
    rw [e1]
    exact hen _ _
  refine wpIn_of_run (fun c' => by rw [hop]; simp) ?_
  rw [hrun]
  refine upon_enter hC ?_
  rintro en w' ⟨x, μ', F', res, hp', hΦ, rfl, hFb', hH', hr, hF', hbel⟩
  exact ⟨x, rfl, hK _ _ (h' res hp' hΦ Z0 w0 _ _ ⟨μ', F', hFb', hH', put_rel hF' _ hr, by rw [put_defers']; exact .inl (hd.none hnm), hbel⟩)⟩

def opsHd (m : M) : Bool :=
  match m.ks with
  | .ops _ (_ :: _) _ :: _ => true
  | _ => false

theorem R.callX {f : FuncId} {avs : List AV} {hp : List AObj} {Φ : AV → List AObj → Prop} (hc : CallX P f avs hp Φ) (h : csAt m = some (f, avs)) (hh : m.st.hp = hp) (ht : opsHd m = true) (h' : ∀ res hp', Φ res hp' → Runs rd P (putM m none res hp') Q) : Runs rd P m Q := by
  have hnm := csAt_mark h
  obtain ⟨fo, args, tys, caps, hop, hf, rfl⟩ := csAt_parts h
  subst hh
  obtain ⟨ks, ⟨fr, hp⟩⟩ := m
  unfold opM headOf at hop
  unfold opsHd at ht
  unfold putM at h'
  simp only [runs_iff] at h' ⊢
  try simp only at hop ht h' hf hc hnm ⊢
  split at hop
  · rename_i all o fl t heq
    split at hop
    · rename_i hw
      simp only [Option.some.injEq] at hop
      split at heq
      · cases heq
        intro hW
        exact OpsQ.callX hnm (wantH_true hw hW) hop hf hc fun res hp' hΦ => h' res hp' hΦ headW_false
      · simp at ht
      · cases heq
    · cases hop
  · cases hop
/-- Under one more frame. -/
theorem CallX.frame {P : Program} {f : FuncId} {args : List AV} {hp : List AObj} {Φ : AV → List AObj → Prop} (us2 : List Value) (fr2 : List AV) (hc : CallX P f args hp Φ) (h1 : renH (List.range hp.length) hp = hp)
    (h2 : renL (List.range hp.length) args = args) (h3 : ∀ r h', Φ r h' → hp.length ≤ h'.length) : CallX P f args (hp ++ [.frame us2 fr2]) fun r h => ∃ res hp', Φ res hp' ∧ r = res.ren (insJ hp.length hp'.length) ∧ h = insF hp.length us2 fr2 hp' := by
  obtain ⟨hen, hc⟩ := hc
  refine ⟨hen, ?_⟩
  intro Z0 F w0 w μ vs us fr hFb hH hvs hus hbel
  have hml : μ.length = hp.length + 1 := by rw [hH.len]; simp
  have hH0 := hH.ren (List.range hp.length) List.nodup_range
  have e0 : ((List.range hp.length).map fun i => ((hp ++ [AObj.frame us2 fr2]).getD i .dead).ren (List.range hp.length)) = hp := by
    refine Eq.trans (List.map_congr_left fun i hi => ?_) h1
    have hi := List.mem_range.1 hi
    simp only [List.getD_eq_getElem?_getD]
    rw [List.getElem?_append_left hi]
  rw [e0] at hH0
  have hvs0 := hvs.ren (List.range hp.length)
  rw [h2] at hvs0
  have hn2 : (hp ++ [AObj.frame us2 fr2])[hp.length]? = some (.frame us2 fr2) := by simp
  obtain ⟨u, hu⟩ : ∃ u, μ[hp.length]? = some u := ⟨_, List.getElem?_eq_getElem (by omega)⟩
  have hf2 : RelL w (Zone Z0 F w0.heap.size) μ fr2 us2 := hH.obj _ _ u hn2 hu
  have hus0 := (hus.append hf2).ren (List.range hp.length)
  refine (hc Z0 F w0 w _ vs (us ++ us2) _ hFb hH0 hvs0 hus0 hbel).mono ?_
  rintro e w' ⟨v, μ1, F1, res, hp', hΦ, rfl, hF1, hH1, hres, hfr1, hb1⟩
  have h3 := h3 _ _ hΦ
  have hm1 := hH1.len
  have hHd := hH1.addDead u (hH.one _ u hu)
  have hH2 := hHd.ren (insJ hp.length hp'.length) (insJ_nodup h3)
  obtain ⟨μ2, hμ2⟩ : ∃ μ2, μ2 = ((insJ hp.length hp'.length).map fun i => (μ1 ++ [u]).getD i (.bool false)) := ⟨_, rfl⟩
  have hA : ∀ (i : Nat) x, i < hp.length → μ1[i]? = some x → μ2[i]? = some x := by
    intro i x hi hx
    have hj : (insJ hp.length hp'.length)[i]? = some i := by
      unfold insJ
      rw [List.getElem?_append_left (by simpa using hi)]
      simp [hi]
    rw [hμ2, List.getElem?_map, hj]
    simp only [Option.map_some, List.getD_eq_getElem?_getD]
    rw [List.getElem?_append_left (by omega), hx]
    rfl
  have hB : ∀ (i : Nat) x, hp.length ≤ i → μ[i]? = some x → μ2[i]? = some x := by
    intro i x hi hx
    have hin : i = hp.length := by have := (List.getElem?_eq_some_iff.1 hx).1; omega
    subst hin
    rw [hu] at hx
    have hj : (insJ hp.length hp'.length)[hp.length]? = some hp'.length := by
      unfold insJ
      rw [List.getElem?_append_right (by simp)]
      simp
    rw [hμ2, List.getElem?_map, hj]
    simp only [Option.map_some, List.getD_eq_getElem?_getD]
    rw [List.getElem?_append_right (by omega), hm1]
    simpa using hx
  rw [← hμ2] at hH2
  have hall := RelL.mix hA hB (hus.append hf2) hfr1
  have hul := hus.length
  have hfr : RelL w' (Zone Z0 F1 w0.heap.size) μ2 fr us := by
    have := hall.take fr.length
    rwa [List.take_left, ← hul, List.take_left] at this
  have hfr2 : RelL w' (Zone Z0 F1 w0.heap.size) μ2 fr2 us2 := by
    have := hall.drop fr.length
    rwa [List.drop_left, ← hul, List.drop_left] at this
  refine ⟨v, μ2, F1, _, _, ⟨res, hp', hΦ, rfl, rfl⟩, rfl, hF1, ?_, ?_, hfr, hb1⟩
  · refine hH2.frameAt ?_ hfr2
    have hj : (insJ hp.length hp'.length)[hp.length]? = some hp'.length := by
      unfold insJ
      rw [List.getElem?_append_right (by simp)]
      simp
    rw [List.getElem?_map, hj]
    simp [AObj.ren]
  · rw [hμ2]
    exact Rel.ren _ (Rel.keep (w := w') (fun _ _ _ => rfl) (fun i u hu => append_old i u hu) hres)
/-- Objects left out that the call has made. -/
theorem CallX.drop {P : Program} {f : FuncId} {args : List AV} {hp : List AObj} {Φ : AV → List AObj → Prop} (js : List Nat) (hc : CallX P f args hp Φ) (h1 : js.take hp.length = List.range hp.length) (h2 : js.Nodup) :
    CallX P f args hp fun r h => ∃ res hp', Φ res hp' ∧ r = res.ren js ∧ h = renH js hp' := by
  obtain ⟨hen, hc⟩ := hc
  refine ⟨hen, ?_⟩
  intro Z0 F w0 w μ vs us fr hFb hH hvs hus hbel
  refine (hc Z0 F w0 w μ vs us fr hFb hH hvs hus hbel).mono ?_
  rintro e w' ⟨v, μ1, F1, res, hp', hΦ, rfl, hF1, hH1, hres, hfr1, hb1⟩
  have hm1 := hH1.len
  have hjs : ∀ i, i < hp.length → js[i]? = some i := by
    intro i hi
    have := congrArg (fun l : List Nat => l[i]?) h1
    simp only [List.getElem?_take, if_pos hi] at this
    rw [this]
    simp [hi]
  refine ⟨v, _, F1, _, _, ⟨res, hp', hΦ, rfl, rfl⟩, rfl, hF1, hH1.ren js h2, Rel.ren js hres, ?_, hb1⟩
  refine RelL.mix (n := hp.length) ?_ ?_ hus (hfr1.ren (List.range hp.length))
  · intro i x hi hx
    rw [List.getElem?_map, hjs i hi]
    rw [List.getElem?_map] at hx
    simpa [hi] using hx
  · intro i x hi hx
    have h4 := (List.getElem?_eq_some_iff.1 hx).1
    have h5 := hH.len
    omega
/-- Objects left out that the call has made; which, depends on the way. -/
theorem CallX.dropE {P : Program} {f : FuncId} {args : List AV} {hp : List AObj} {Φ : AV → List AObj → Prop} (hc : CallX P f args hp fun r h => ∃ js : List Nat, js.take hp.length = List.range hp.length ∧ js.Nodup ∧ Φ (r.ren js) (renH js h)) :
    CallX P f args hp Φ := by
  obtain ⟨hen, hc⟩ := hc
  refine ⟨hen, ?_⟩
  intro Z0 F w0 w μ vs us fr hFb hH hvs hus hbel
  refine (hc Z0 F w0 w μ vs us fr hFb hH hvs hus hbel).mono ?_
  rintro e w' ⟨v, μ1, F1, res, hp', ⟨js, h1, h2, hΦ⟩, rfl, hF1, hH1, hres, hfr1, hb1⟩
  have hm1 := hH1.len
  have hjs : ∀ i, i < hp.length → js[i]? = some i := by
    intro i hi
    have := congrArg (fun l : List Nat => l[i]?) h1
    simp only [List.getElem?_take, if_pos hi] at this
    rw [this]
    simp [hi]
  refine ⟨v, _, F1, _, _, hΦ, rfl, hF1, hH1.ren js h2, Rel.ren js hres, ?_, hb1⟩
  refine RelL.mix (n := hp.length) ?_ ?_ hus (hfr1.ren (List.range hp.length))
  · intro i x hi hx
    rw [List.getElem?_map, hjs i hi]
    rw [List.getElem?_map] at hx
    simpa [hi] using hx
  · intro i x hi hx
    have h4 := (List.getElem?_eq_some_iff.1 hx).1
    have h5 := hH.len
    omega
/-- Objects left out (dead ones), the others under new numbers. -/
def opsHd0 (m : M) : Bool :=
  match m.ks with
  | .ops _ (_ :: _) false :: _ => true
  | _ => false
/-- A dead object as an empty frame, so that CallX.frame carries a contract over it. -/
theorem R.deadF (i : Nat) (h : opsHd0 m = true) (hd : m.st.hp[i]? = some .dead) (h' : Runs rd P ⟨m.ks, ⟨m.st.fr, m.st.hp.set i (.frame [] [])⟩⟩ Q) : Runs rd P m Q := by
  obtain ⟨ks, ⟨fr, hp⟩⟩ := m
  unfold opsHd0 at h
  simp only [runs_iff] at h h' hd ⊢
  split at h
  · simp only [RunsK] at h' ⊢
    intro _ Z0 w0 a w hS
    obtain ⟨μ, F, hFb, hH, hF, hdf, hb⟩ := hS
    refine h' headW_false Z0 w0 a w ⟨μ, F, hFb, hH.frameAt hd RelL.nil, hF, hdf.keep (fun j x hj => ⟨?_, fun u hu => hu⟩), hb⟩
    have hne : i ≠ j := fun e => by subst e; rw [hd] at hj; cases hj
    simp only
    rw [List.getElem?_set_ne hne]; exact hj
  · cases h
end
end Go.Abs


/-! Calls told by what holds behind them, under further frames that lie anywhere among the objects. -/
namespace Go.Abs
open Go.RowKit Go.ChangeShapes Go.WideShapes Go.Deep

mutual
theorem Rel.mixJ {w w' : World} {Z Z' : Nat → Prop} {μ μ1 μ2 : List Value} {js : List Nat} (hA : ∀ (i : Nat) u, js.contains i = true → μ1[js.idxOf i]? = some u → μ2[i]? = some u) (hB : ∀ (i : Nat) u, js.contains i = false → μ[i]? = some u → μ2[i]? = some u) :
    ∀ {c : AV} {v : Value}, Rel w Z μ c v → Rel w' Z' μ1 (c.ren js) v → Rel w' Z' μ2 c v
  | .int _ _, _, _, h => by simpa [Rel, AV.ren] using h
  | .bool _, _, _, h => by simpa [Rel, AV.ren] using h
  | .str _, _, _, h => by simpa [Rel, AV.ren] using h
  | .nil, _, _, h => by simpa [Rel, AV.ren] using h
  | .top, _, _, _ => by simp [Rel]
  | .own _ _ _ _, _, h, _ => by simp [Rel] at h
  | .lst _ _ _, _, _, h => by simpa [Rel, AV.ren] using h
  | .clp _ _ _, _, _, h => by simpa [Rel, AV.ren] using h
  | .rptr _, _, _, h => by simpa [Rel, AV.ren] using h
  | .ref i, v, h1, h2 => by
    simp only [Rel] at h1 ⊢
    cases hc : js.contains i with
    | true =>
      simp only [AV.ren, hc, if_true, Rel] at h2
      exact hA i v hc h2
    | false => exact hB i v hc h1
  | .ptr i o, v, h1, h2 => by
    simp only [Rel] at h1 ⊢
    cases hc : js.contains i with
    | true =>
      simp only [AV.ren, hc, if_true, Rel] at h2
      obtain ⟨u, g, e1, e2, e3⟩ := h2
      exact ⟨u, g, hA i u hc e1, e2, e3⟩
    | false =>
      obtain ⟨u, g, e1, e2, e3⟩ := h1
      exact ⟨u, g, hB i u hc e1, e2, e3⟩
  | .agg cs, v, h1, h2 => by
    simp only [Rel, AV.ren] at h1 h2 ⊢
    obtain ⟨xs, e1, r1⟩ := h1
    obtain ⟨ys, e2, r2⟩ := h2
    rw [e1] at e2
    simp only [Value.agg.injEq] at e2
    have e3 : xs = ys := by simpa using e2
    subst e3
    exact ⟨xs, e1, RelL.mixJ hA hB r1 r2⟩
  | .tup cs, v, h1, h2 => by
    simp only [Rel, AV.ren] at h1 h2 ⊢
    obtain ⟨xs, e1, r1⟩ := h1
    obtain ⟨ys, e2, r2⟩ := h2
    rw [e1] at e2
    simp only [Value.tuple.injEq] at e2
    have e3 : xs = ys := by simpa using e2
    subst e3
    exact ⟨xs, e1, RelL.mixJ hA hB r1 r2⟩
  | .fn f cs, v, h1, h2 => by
    simp only [Rel, AV.ren] at h1 h2 ⊢
    obtain ⟨xs, e1, r1⟩ := h1
    obtain ⟨ys, e2, r2⟩ := h2
    rw [e1] at e2
    simp only [Value.func.injEq, true_and] at e2
    have e3 : xs = ys := by simpa using e2
    subst e3
    exact ⟨xs, e1, RelL.mixJ hA hB r1 r2⟩
theorem RelL.mixJ {w w' : World} {Z Z' : Nat → Prop} {μ μ1 μ2 : List Value} {js : List Nat} (hA : ∀ (i : Nat) u, js.contains i = true → μ1[js.idxOf i]? = some u → μ2[i]? = some u) (hB : ∀ (i : Nat) u, js.contains i = false → μ[i]? = some u → μ2[i]? = some u) :
    ∀ {cs : List AV} {vs : List Value}, RelL w Z μ cs vs → RelL w' Z' μ1 (renL js cs) vs → RelL w' Z' μ2 cs vs
  | [], _, _, h => by simpa [RelL, renL] using h
  | c :: cs, _, h1, h2 => by
    simp only [RelL, renL] at h1 h2 ⊢
    obtain ⟨x, xs, e1, a1, b1⟩ := h1
    obtain ⟨y, ys, e2, a2, b2⟩ := h2
    rw [e1] at e2
    simp only [List.cons.injEq] at e2
    obtain ⟨rfl, rfl⟩ := e2
    exact ⟨x, xs, e1, Rel.mixJ hA hB a1 a2, RelL.mixJ hA hB b1 b2⟩
end

/-- The numbers below n + 1 but k. -/
def insI (k n : Nat) : List Nat := List.range k ++ (List.range (n - k)).map (· + (k + 1))

theorem insI_get {k n j : Nat} (hk : k ≤ n) (hj : j < n) : (insI k n)[j]? = some (if j < k then j else j + 1) := by
  unfold insI
  rcases Nat.lt_or_ge j k with h | h
  · rw [List.getElem?_append_left (by simpa using h)]
    simp [h]
  · rw [List.getElem?_append_right (by simpa using h)]
    simp only [List.length_range, List.getElem?_map]
    rw [List.getElem?_range (by omega)]
    simp only [Option.map_some, if_neg (Nat.not_lt.2 h), Option.some.injEq]
    omega
theorem insI_length {k n : Nat} (hk : k ≤ n) : (insI k n).length = n := by
  unfold insI
  simp
  omega
theorem insI_mem {k n i : Nat} (hk : k ≤ n) (hi : i ≤ n) (hne : i ≠ k) : (insI k n).contains i = true := by
  have : i ∈ insI k n := by
    rcases Nat.lt_or_ge i k with h | h
    · exact List.mem_of_getElem? (i := i) (by rw [insI_get hk (by omega), if_pos h])
    · exact List.mem_of_getElem? (i := i - 1) (by rw [insI_get hk (by omega), if_neg (by omega)]; congr 1; omega)
  simpa using this
theorem insI_nodup {k n : Nat} (hk : k ≤ n) : (insI k n).Nodup := by
  unfold insI
  rw [List.nodup_append]
  refine ⟨List.nodup_range, ?_, ?_⟩
  · rw [List.nodup_iff_pairwise_ne, List.pairwise_map]
    exact List.nodup_range.imp fun h e => h (by omega)
  · intro a ha b hb e
    rw [List.mem_range] at ha
    rw [List.mem_map] at hb
    obtain ⟨c, _, hc⟩ := hb
    omega
theorem insI_idx {k n i : Nat} (hk : k ≤ n) (hc : (insI k n).contains i = true) : (insI k n).idxOf i < n ∧ i = (if (insI k n).idxOf i < k then (insI k n).idxOf i else (insI k n).idxOf i + 1) := by
  have hm : i ∈ insI k n := by simpa using hc
  have hlt := List.idxOf_lt_length_iff.2 hm
  have hlt' : (insI k n).idxOf i < n := by rw [insI_length hk] at hlt; exact hlt
  refine ⟨hlt', ?_⟩
  have h1 := List.getElem_idxOf hlt
  have h2 := insI_get hk hlt'
  rw [List.getElem?_eq_getElem hlt, h1] at h2
  exact Option.some.inj h2
theorem insJ_lo {k m j : Nat} (hj : j < k) : (insJ k m)[j]? = some j := by
  unfold insJ
  rw [List.getElem?_append_left (by simpa using hj)]
  simp [hj]
theorem insJ_at {k m : Nat} : (insJ k m)[k]? = some m := by
  unfold insJ
  rw [List.getElem?_append_right (by simp)]
  simp
theorem insJ_hi {k m j : Nat} (hj : k ≤ j) (hm : j < m) : (insJ k m)[j + 1]? = some j := by
  unfold insJ
  rw [List.getElem?_append_right (by simp; omega)]
  have e : j + 1 - (List.range k).length = (j - k) + 1 := by simp; omega
  rw [e, List.getElem?_cons_succ, List.getElem?_map, List.getElem?_range (by omega)]
  simp
  omega

section
variable {P : Program}

/-- Under a frame that lies at place k. -/
theorem CallX.inF {f : FuncId} {args : List AV} {hp : List AObj} {Φ : AV → List AObj → Prop} (k : Nat) (us2 : List Value) (fr2 : List AV) (hc : CallX P f args hp Φ) (hk : k ≤ hp.length)
    (h1 : renH (insI k hp.length) (insF k us2 fr2 hp) = hp) (h2 : renL (insI k hp.length) (renL (insJ k hp.length) args) = args) (h3 : ∀ r h', Φ r h' → hp.length ≤ h'.length) :
    CallX P f (renL (insJ k hp.length) args) (insF k us2 fr2 hp) fun r h => ∃ res hp', Φ res hp' ∧ r = res.ren (insJ k hp'.length) ∧ h = insF k us2 fr2 hp' := by
  obtain ⟨hen, hc⟩ := hc
  refine ⟨hen, ?_⟩
  intro Z0 F w0 w μ vs us fr hFb hH hvs hus hbel
  have hHl : (insF k us2 fr2 hp).length = hp.length + 1 := by
    unfold insF renH insJ
    simp
    omega
  have hml : μ.length = hp.length + 1 := by rw [hH.len, hHl]
  have hH0 := hH.ren (insI k hp.length) (insI_nodup hk)
  have e0 : ((insI k hp.length).map fun i => ((insF k us2 fr2 hp).getD i .dead).ren (insI k hp.length)) = hp := h1
  rw [e0] at hH0
  have hvs0 := hvs.ren (insI k hp.length)
  rw [h2] at hvs0
  have hn2 : (insF k us2 fr2 hp)[k]? = some (.frame us2 fr2) := by
    unfold insF
    rw [List.getElem?_set_self]
    have : (renH (insJ k hp.length) (hp ++ [.dead])).length = hp.length + 1 := by unfold renH insJ; simp; omega
    omega
  obtain ⟨u, hu⟩ : ∃ u, μ[k]? = some u := ⟨_, List.getElem?_eq_getElem (by omega)⟩
  have hf2 : RelL w (Zone Z0 F w0.heap.size) μ fr2 us2 := hH.obj _ _ u hn2 hu
  have hus0 := (hus.append hf2).ren (insI k hp.length)
  refine (hc Z0 F w0 w _ vs (us ++ us2) _ hFb hH0 hvs0 hus0 hbel).mono ?_
  rintro e w' ⟨v, μ1, F1, res, hp', hΦ, rfl, hF1, hH1, hres, hfr1, hb1⟩
  have h3 := h3 _ _ hΦ
  have hm1 := hH1.len
  have hHd := hH1.addDead u (hH.one _ u hu)
  have hH2 := hHd.ren (insJ k hp'.length) (insJ_nodup (by omega))
  obtain ⟨μ2, hμ2⟩ : ∃ μ2, μ2 = ((insJ k hp'.length).map fun i => (μ1 ++ [u]).getD i (.bool false)) := ⟨_, rfl⟩
  have hA : ∀ (i : Nat) x, (insI k hp.length).contains i = true → μ1[(insI k hp.length).idxOf i]? = some x → μ2[i]? = some x := by
    intro i x hi hx
    obtain ⟨g1, g2⟩ := insI_idx hk hi
    generalize (insI k hp.length).idxOf i = j at g1 g2 hx
    have hj : (insJ k hp'.length)[i]? = some j := by
      split at g2
      · rw [g2]; exact insJ_lo (by assumption)
      · rw [g2]; exact insJ_hi (by omega) (by omega)
    rw [hμ2, List.getElem?_map, hj]
    simp only [Option.map_some, List.getD_eq_getElem?_getD]
    rw [List.getElem?_append_left (List.getElem?_eq_some_iff.1 hx).1, hx]
    rfl
  have hB : ∀ (i : Nat) x, (insI k hp.length).contains i = false → μ[i]? = some x → μ2[i]? = some x := by
    intro i x hi hx
    have hlt := (List.getElem?_eq_some_iff.1 hx).1
    have hin : i = k := by
      refine Classical.byContradiction fun hne => ?_
      have := insI_mem hk (i := i) (by omega) hne
      rw [this] at hi
      cases hi
    subst hin
    rw [hu] at hx
    rw [hμ2, List.getElem?_map, insJ_at]
    simp only [Option.map_some, List.getD_eq_getElem?_getD]
    rw [List.getElem?_append_right (by omega), hm1]
    simpa using hx
  rw [← hμ2] at hH2
  have hall := RelL.mixJ hA hB (hus.append hf2) hfr1
  have hul := hus.length
  have hfr : RelL w' (Zone Z0 F1 w0.heap.size) μ2 fr us := by
    have := hall.take fr.length
    rwa [List.take_left, ← hul, List.take_left] at this
  have hfr2 : RelL w' (Zone Z0 F1 w0.heap.size) μ2 fr2 us2 := by
    have := hall.drop fr.length
    rwa [List.drop_left, ← hul, List.drop_left] at this
  refine ⟨v, μ2, F1, _, _, ⟨res, hp', hΦ, rfl, rfl⟩, rfl, hF1, ?_, ?_, hfr, hb1⟩
  · refine hH2.frameAt ?_ hfr2
    rw [List.getElem?_map, insJ_at]
    simp [AObj.ren]
  · rw [hμ2]
    exact Rel.ren _ (Rel.keep (w := w') (fun _ _ _ => rfl) (fun i u hu => append_old i u hu) hres)
end
section
variable {P : Program}
/-- The same with the objects in another order. -/
theorem CallX.perm {f : FuncId} {args : List AV} {hp : List AObj} {Φ : AV → List AObj → Prop} (js ks : List Nat) (hc : CallX P f args hp Φ)
    (hk : (decide js.Nodup && decide ks.Nodup && decide (js.length = hp.length) && js.all (fun i => decide (i < hp.length)) && ks.all (fun i => decide (i < hp.length)) && (List.range hp.length).all fun i => ks.contains i && decide (js[i]? = some (ks.idxOf i))) = true)
    (h1 : renH ks (renH js hp) = hp) (h2 : renL ks (renL js args) = args) (h3 : ∀ r h', Φ r h' → hp.length ≤ h'.length) :
    CallX P f (renL js args) (renH js hp) fun r h => ∃ res hp', Φ res hp' ∧ r = res.ren (js ++ (List.range (hp'.length - hp.length)).map (· + hp.length)) ∧ h = renH (js ++ (List.range (hp'.length - hp.length)).map (· + hp.length)) hp' := by
  obtain ⟨hen, hc⟩ := hc
  refine ⟨hen, ?_⟩
  simp only [Bool.and_eq_true, decide_eq_true_eq, List.all_eq_true, List.mem_range] at hk
  obtain ⟨⟨⟨⟨⟨k1, k2⟩, k3⟩, k4⟩, k6⟩, k5⟩ := hk
  intro Z0 F w0 w μ vs us fr hFb hH hvs hus hbel
  have hml : μ.length = hp.length := by rw [hH.len]; unfold renH; simp [k3]
  have hH0 := hH.ren ks k2
  have e0 : (ks.map fun i => ((renH js hp).getD i .dead).ren ks) = hp := h1
  rw [e0] at hH0
  have hvs0 := hvs.ren ks
  rw [h2] at hvs0
  have hus0 := hus.ren ks
  refine (hc Z0 F w0 w _ vs us _ hFb hH0 hvs0 hus0 hbel).mono ?_
  rintro e w' ⟨v, μ1, F1, res, hp', hΦ, rfl, hF1, hH1, hres, hfr1, hb1⟩
  have h3 := h3 _ _ hΦ
  have hm1 := hH1.len
  obtain ⟨js', hjs'⟩ : ∃ js', js' = js ++ (List.range (hp'.length - hp.length)).map (· + hp.length) := ⟨_, rfl⟩
  have hnd : js'.Nodup := by
    rw [hjs', List.nodup_append]
    refine ⟨k1, ?_, ?_⟩
    · rw [List.nodup_iff_pairwise_ne, List.pairwise_map]
      exact List.nodup_range.imp fun h e => h (by omega)
    · intro a ha b hb e
      rw [List.mem_map] at hb
      obtain ⟨c, _, hc⟩ := hb
      have := k4 a ha
      omega
  have hH2 := hH1.ren js' hnd
  refine ⟨v, _, F1, res.ren js', renH js' hp', ⟨res, hp', hΦ, by rw [hjs'], by rw [hjs']⟩, rfl, hF1, hH2, Rel.ren js' hres, RelL.mixJ ?_ ?_ hus hfr1, hb1⟩
  · intro i x hi hx
    have hlt : i < hp.length := k6 i (by simpa using hi)
    have h5 := (k5 i hlt).2
    have hj' : js'[i]? = some (ks.idxOf i) := by
      rw [hjs', List.getElem?_append_left (by omega)]; exact h5
    rw [List.getElem?_map, hj']
    simp only [Option.map_some, List.getD_eq_getElem?_getD, hx, Option.getD_some]
  · intro i x hi hx
    have hlt := (List.getElem?_eq_some_iff.1 hx).1
    have := (k5 i (by omega)).1
    rw [this] at hi
    cases hi
end

/-! ### A caller's frame, of which nothing is known, stays as it is -/
theorem fit_idx {n i : Nat} {js : List Nat} (hjs : js.take n = List.range n) (hi : i < n) : js.contains i = true ∧ js.idxOf i = i := by
  have e : js = List.range n ++ js.drop n := by rw [← hjs, List.take_append_drop]
  have hm : i ∈ List.range n := List.mem_range.2 hi
  refine ⟨?_, ?_⟩
  · have : i ∈ js := by rw [e]; exact List.mem_append_left _ hm
    simpa using this
  · rw [e, List.idxOf_append, if_pos hm, idx_range hi]
mutual
theorem Rel.fitR {w : World} {Z : Nat → Prop} {μ : List Value} {js : List Nat} (hjs : js.take μ.length = List.range μ.length) : ∀ {c : AV} {v : Value}, Rel w Z μ c v → c.ren js = c
  | .int _ _, _, _ => rfl
  | .bool _, _, _ => rfl
  | .str _, _, _ => rfl
  | .nil, _, _ => rfl
  | .top, _, _ => rfl
  | .own _ _ _ _, _, _ => rfl
  | .lst _ _ _, _, _ => rfl
  | .clp _ _ _, _, _ => rfl
  | .rptr _, _, _ => rfl
  | .ref i, v, h => by
    simp only [Rel] at h
    obtain ⟨h1, h2⟩ := fit_idx hjs (List.getElem?_eq_some_iff.1 h).1
    simp only [AV.ren, h1, h2, if_true]
  | .ptr i o, v, h => by
    simp only [Rel] at h
    obtain ⟨u, g, h, _⟩ := h
    obtain ⟨h1, h2⟩ := fit_idx hjs (List.getElem?_eq_some_iff.1 h).1
    simp only [AV.ren, h1, h2, if_true]
  | .agg cs, v, h => by
    simp only [Rel] at h
    obtain ⟨xs, _, h⟩ := h
    simp only [AV.ren, RelL.fitR hjs h]
  | .tup cs, v, h => by
    simp only [Rel] at h
    obtain ⟨xs, _, h⟩ := h
    simp only [AV.ren, RelL.fitR hjs h]
  | .fn f cs, v, h => by
    simp only [Rel] at h
    obtain ⟨xs, _, h⟩ := h
    simp only [AV.ren, RelL.fitR hjs h]
theorem RelL.fitR {w : World} {Z : Nat → Prop} {μ : List Value} {js : List Nat} (hjs : js.take μ.length = List.range μ.length) : ∀ {cs : List AV} {vs : List Value}, RelL w Z μ cs vs → renL js cs = cs
  | [], _, _ => rfl
  | c :: cs, _, h => by
    simp only [RelL] at h
    obtain ⟨x, xs, _, h1, h2⟩ := h
    simp only [renL, Rel.fitR hjs h1, RelL.fitR hjs h2]
end
mutual
theorem Rel.fitK {w : World} {Z : Nat → Prop} {μ : List Value} {k : Nat} (hk : μ.length ≤ k) : ∀ {c : AV} {v : Value}, Rel w Z μ c v → c.kill k = c
  | .int _ _, _, _ => rfl
  | .bool _, _, _ => rfl
  | .str _, _, _ => rfl
  | .nil, _, _ => rfl
  | .top, _, _ => rfl
  | .own _ _ _ _, _, _ => rfl
  | .lst _ _ _, _, _ => rfl
  | .clp _ _ _, _, _ => rfl
  | .rptr _, _, _ => rfl
  | .ref i, v, h => by
    simp only [Rel] at h
    have := (List.getElem?_eq_some_iff.1 h).1
    simp only [AV.kill]
    rw [if_neg (by omega)]
  | .ptr i o, v, h => by
    simp only [Rel] at h
    obtain ⟨u, g, h, _⟩ := h
    have := (List.getElem?_eq_some_iff.1 h).1
    simp only [AV.kill]
    rw [if_neg (by omega)]
  | .agg cs, v, h => by
    simp only [Rel] at h
    obtain ⟨xs, _, h⟩ := h
    simp only [AV.kill, RelL.fitK hk h]
  | .tup cs, v, h => by
    simp only [Rel] at h
    obtain ⟨xs, _, h⟩ := h
    simp only [AV.kill, RelL.fitK hk h]
  | .fn f cs, v, h => by
    simp only [Rel] at h
    obtain ⟨xs, _, h⟩ := h
    simp only [AV.kill, RelL.fitK hk h]
theorem RelL.fitK {w : World} {Z : Nat → Prop} {μ : List Value} {k : Nat} (hk : μ.length ≤ k) : ∀ {cs : List AV} {vs : List Value}, RelL w Z μ cs vs → killL k cs = cs
  | [], _, _ => rfl
  | c :: cs, _, h => by
    simp only [RelL] at h
    obtain ⟨x, xs, _, h1, h2⟩ := h
    simp only [killL, Rel.fitK hk h1, RelL.fitK hk h2]
end

mutual
theorem Rel.fitF {w : World} {Z : Nat → Prop} {μ : List Value} {k : Nat} {r : AV} (hk : μ.length ≤ k) : ∀ {c : AV} {v : Value}, Rel w Z μ c v → frzV k r c = c
  | .int _ _, _, _ => rfl
  | .bool _, _, _ => rfl
  | .str _, _, _ => rfl
  | .nil, _, _ => rfl
  | .top, _, _ => rfl
  | .own _ _ _ _, _, _ => rfl
  | .lst _ _ _, _, _ => rfl
  | .clp _ _ _, _, _ => rfl
  | .rptr _, _, _ => rfl
  | .ref i, v, h => by
    simp only [Rel] at h
    have := (List.getElem?_eq_some_iff.1 h).1
    simp only [frzV]
    rw [if_neg (by omega)]
  | .ptr i o, v, h => by
    simp only [Rel] at h
    obtain ⟨u, g, h, _⟩ := h
    have := (List.getElem?_eq_some_iff.1 h).1
    simp only [frzV]
    rw [if_neg (by omega)]
  | .agg cs, v, h => by
    simp only [Rel] at h
    obtain ⟨xs, _, h⟩ := h
    simp only [frzV, RelL.fitF hk h]
  | .tup cs, v, h => by
    simp only [Rel] at h
    obtain ⟨xs, _, h⟩ := h
    simp only [frzV, RelL.fitF hk h]
  | .fn f cs, v, h => by
    simp only [Rel] at h
    obtain ⟨xs, _, h⟩ := h
    simp only [frzV, RelL.fitF hk h]
theorem RelL.fitF {w : World} {Z : Nat → Prop} {μ : List Value} {k : Nat} {r : AV} (hk : μ.length ≤ k) : ∀ {cs : List AV} {vs : List Value}, RelL w Z μ cs vs → frzL k r cs = cs
  | [], _, _ => rfl
  | c :: cs, _, h => by
    simp only [RelL] at h
    obtain ⟨x, xs, _, h1, h2⟩ := h
    simp only [frzL, Rel.fitF hk h1, RelL.fitF hk h2]
end

/-- Nothing in fr names an object from n on. -/
structure Fits (n : Nat) (fr : List AV) : Prop where
  ren : ∀ js : List Nat, js.take n = List.range n → renL js fr = fr
  kill : ∀ i, n ≤ i → killL i fr = fr
  frz : ∀ i r, n ≤ i → frzL i r fr = fr

section
variable {rd : Option Nat} {P : Program} {m : M} {Q : Exit → St → Prop}

theorem CallX.ofF {f : FuncId} {fn : Func} {c : Code} {args : List AV} {hp : List AObj} {Φ : AV → List AObj → Prop} (hf : P.funcs[f]? = some fn) (hb : fn.body = some c) (hnm : (fn.name == "runtime.NumGoroutine") = false)
    (h : ∀ us fr, Fits hp.length fr → Runs none P ⟨[.code c], ⟨frameOf fn.ntmps args, hp ++ [.frame us fr]⟩⟩ (retX P fn hp.length us fr Φ)) : CallX P f args hp Φ := by
  refine ⟨enters_of hf hnm (by rw [hb]; rfl), ?_⟩
  intro Z0 F w0 w μ vs us fr hFb hH hvs hus hbel
  have hml := hH.len
  have hfit : Fits hp.length fr := ⟨fun js hjs => RelL.fitR (by rw [hml]; exact hjs) hus, fun i hi => RelL.fitK (by rw [hml]; exact hi) hus, fun i r hi => RelL.fitF (by rw [hml]; exact hi) hus⟩
  · have hlen := hvs.length
    refine calls_of_wpIn hf hb ?_
    have hS : Sim Z0 w0 ⟨frameOf fn.ntmps args, hp ++ [.frame us fr]⟩ { tmps := vs.toArray ++ Array.replicate (fn.ntmps - vs.toArray.size) undef, defers := [] } w := by
      refine ⟨μ ++ [.bool false], F, hFb, hH.extend1 (zone_new hbel.size hFb) (Below.refl _ _) ?_ (fun g hg => by simp [blk] at hg) rfl, ?_, .inl rfl, hbel⟩
      · exact RelL.keep (w := w) (fun _ _ _ => rfl) (fun i u hu => append_old i u hu) hus
      · simp only [Array.toList_append, Array.toList_replicate, List.size_toArray, hlen, frameOf]
        refine RelL.append (RelL.keep (w := w) (fun _ _ _ => rfl) (fun i u hu => append_old i u hu) hvs) ?_
        generalize fn.ntmps - args.length = n
        induction n with
        | zero => exact RelL.nil
        | succ n ih => exact RelL.cons (by simp [Rel]) ih
    have hrun2 := h us fr hfit
    simp only [runs_iff] at hrun2
    simp only [RunsK] at hrun2
    refine wpIn_mono (hrun2 Z0 w0 _ w hS) ?_
    have fin : ∀ (e : Exit) (st' : St) (a' : Act) (w' : World), retX P fn hp.length us fr Φ e st' → Sim Z0 w0 st' a' w' → a'.defers = [] ∧ ∃ v, (results fn a'.tmps).run P w' = .ok v w' ∧ ∃ v' μ' F' res hp', Φ res hp' ∧ Ending.returned v = .returned v' ∧ (∀ b, F' b → w0.heap.size ≤ b ∧ b < w'.heap.size) ∧ HRel w' (Zone Z0 F' w0.heap.size) w0.heap.size μ' hp' ∧ Rel w' (Zone Z0 F' w0.heap.size) μ' res v' ∧ RelL w' (Zone Z0 F' w0.heap.size) μ' fr us ∧ Below w0.heap.size w0 w' := by
      rintro e st' a' w' ⟨res, hp', hΦ, _, hres, hfr, hh⟩ ⟨μ', F', hFb', hH', hF', hd', hbel'⟩
      obtain ⟨x, h1, h2⟩ := resIn_run hH' hF' hres
      unfold frameAt at hfr
      split at hfr
      · rename_i us2 fr2 hi
        cases hfr
        have hil : hp.length < μ'.length := by rw [hH'.len]; exact (List.getElem?_eq_some_iff.1 hi).1
        have hfrr : RelL w' (Zone Z0 F' w0.heap.size) μ' fr us := hH'.obj _ _ _ hi (List.getElem?_eq_getElem hil)
        exact ⟨hd'.none (resIn_mark hres), x, h1, x, μ', F', res, hp', hΦ, rfl, hFb', hh ▸ hH'.bury _, h2, hfrr, hbel'⟩
      · cases hfr
    rintro e a' w' ⟨st', hq, hS'⟩
    cases e with
    | normal => exact fin _ st' a' w' hq hS'
    | ret => exact fin _ st' a' w' hq hS'
    | exit id => (obtain ⟨_, _, _, hq, _⟩ := hq; exact absurd hq (by simp))
    | goto l => (obtain ⟨_, _, _, hq, _⟩ := hq; exact absurd hq (by simp))
    | panic ch => (obtain ⟨_, _, _, hq, _⟩ := hq; exact absurd hq (by simp))
    | outgrown => (obtain ⟨_, _, _, hq, _⟩ := hq; exact absurd hq (by simp))

/-- A caller's frame in which an object of the call's own has been forgotten. -/
theorem R.kfix (n : Nat) {us : List Value} {fr fr2 : List AV} (h0 : m.st.hp[n]? = some (.frame us fr2)) (hk : fr2 = fr) (h' : Runs rd P ⟨m.ks, ⟨m.st.fr, m.st.hp.set n (.frame us fr)⟩⟩ Q) : Runs rd P m Q := by
  subst hk
  obtain ⟨ks, ⟨f, hp⟩⟩ := m
  have e : hp.set n (.frame us fr2) = hp := by
    refine List.ext_getElem? fun i => ?_
    rw [List.getElem?_set]
    split
    · rename_i hi
      subst hi
      simp only at h0
      have hlt := (List.getElem?_eq_some_iff.1 h0).1
      rw [if_pos hlt, h0]
    · rfl
  simp only [e] at h'
  exact h'
theorem canonF {ks : List Nat} {js : List Nat} {st s' : St} {fr : List AV} (S : List AV → St) (hfit : renL js fr = fr) (h1 : canon ks (some js) st = S (renL js fr)) (h2 : S fr = s') : canon ks (some js) st = s' := by rw [h1, hfit, h2]
end
/-! ### A box seen as a row of one element, while a call does not look at it -/
mutual
theorem Rel.mixK {w w' : World} {Z Z' : Nat → Prop} {μ μ1 μ2 : List Value} {j : Nat} (hA : ∀ (i : Nat) u, i ≠ j → μ1[i]? = some u → μ2[i]? = some u) (hB : ∀ u, μ[j]? = some u → μ2[j]? = some u) :
    ∀ {c : AV} {v : Value}, Rel w Z μ c v → Rel w' Z' μ1 (c.kill j) v → Rel w' Z' μ2 c v
  | .int _ _, _, _, h => by simpa [Rel, AV.kill] using h
  | .bool _, _, _, h => by simpa [Rel, AV.kill] using h
  | .str _, _, _, h => by simpa [Rel, AV.kill] using h
  | .nil, _, _, h => by simpa [Rel, AV.kill] using h
  | .top, _, _, _ => by simp [Rel]
  | .own _ _ _ _, _, h, _ => by simp [Rel] at h
  | .lst _ _ _, _, _, h => by simpa [Rel, AV.kill] using h
  | .clp _ _ _, _, _, h => by simpa [Rel, AV.kill] using h
  | .rptr _, _, _, h => by simpa [Rel, AV.kill] using h
  | .ref i, v, h1, h2 => by
    simp only [Rel] at h1 ⊢
    by_cases hi : i = j
    · subst hi; exact hB v h1
    · simp only [AV.kill, if_neg hi, Rel] at h2
      exact hA i v hi h2
  | .ptr i o, v, h1, h2 => by
    simp only [Rel] at h1 ⊢
    by_cases hi : i = j
    · subst hi
      obtain ⟨u, g, e1, e2, e3⟩ := h1
      exact ⟨u, g, hB u e1, e2, e3⟩
    · simp only [AV.kill, if_neg hi, Rel] at h2
      obtain ⟨u, g, e1, e2, e3⟩ := h2
      exact ⟨u, g, hA i u hi e1, e2, e3⟩
  | .agg cs, v, h1, h2 => by
    simp only [Rel, AV.kill] at h1 h2 ⊢
    obtain ⟨xs, e1, r1⟩ := h1
    obtain ⟨ys, e2, r2⟩ := h2
    rw [e1] at e2
    simp only [Value.agg.injEq] at e2
    have e3 : xs = ys := by simpa using e2
    subst e3
    exact ⟨xs, e1, RelL.mixK hA hB r1 r2⟩
  | .tup cs, v, h1, h2 => by
    simp only [Rel, AV.kill] at h1 h2 ⊢
    obtain ⟨xs, e1, r1⟩ := h1
    obtain ⟨ys, e2, r2⟩ := h2
    rw [e1] at e2
    simp only [Value.tuple.injEq] at e2
    have e3 : xs = ys := by simpa using e2
    subst e3
    exact ⟨xs, e1, RelL.mixK hA hB r1 r2⟩
  | .fn f cs, v, h1, h2 => by
    simp only [Rel, AV.kill] at h1 h2 ⊢
    obtain ⟨xs, e1, r1⟩ := h1
    obtain ⟨ys, e2, r2⟩ := h2
    rw [e1] at e2
    simp only [Value.func.injEq, true_and] at e2
    have e3 : xs = ys := by simpa using e2
    subst e3
    exact ⟨xs, e1, RelL.mixK hA hB r1 r2⟩
theorem RelL.mixK {w w' : World} {Z Z' : Nat → Prop} {μ μ1 μ2 : List Value} {j : Nat} (hA : ∀ (i : Nat) u, i ≠ j → μ1[i]? = some u → μ2[i]? = some u) (hB : ∀ u, μ[j]? = some u → μ2[j]? = some u) :
    ∀ {cs : List AV} {vs : List Value}, RelL w Z μ cs vs → RelL w' Z' μ1 (killL j cs) vs → RelL w' Z' μ2 cs vs
  | [], _, _, h => by simpa [RelL, killL] using h
  | c :: cs, _, h1, h2 => by
    simp only [RelL, killL] at h1 h2 ⊢
    obtain ⟨x, xs, e1, a1, b1⟩ := h1
    obtain ⟨y, ys, e2, a2, b2⟩ := h2
    rw [e1] at e2
    simp only [List.cons.injEq] at e2
    obtain ⟨rfl, rfl⟩ := e2
    exact ⟨x, xs, e1, Rel.mixK hA hB a1 a2, RelL.mixK hA hB b1 b2⟩
end

/-- One object changes its look and its value, in the same block; the others do not name it. -/
theorem HRel.swap {w : World} {Z : Nat → Prop} {B j : Nat} {μ : List Value} {hp : List AObj} {u u' : Value} {o o' : AObj} (h : HRel w Z B μ hp) (hj : hp[j]? = some o) (hu : μ[j]? = some u) (ha : o.alive = true)
    (hblk : blk u' = blk u) (hone : u'.oneCell' = true) (hk : ∀ i oi, i ≠ j → hp[i]? = some oi → oi.kill j = oi) (hnew : ObjRel w Z (μ.set j u') B u' o') : HRel w Z B (μ.set j u') (hp.set j o') := by
  have hjl := (List.getElem?_eq_some_iff.1 hj).1
  have hul := (List.getElem?_eq_some_iff.1 hu).1
  have get : ∀ (i : Nat) oi ui, (hp.set j o')[i]? = some oi → (μ.set j u')[i]? = some ui → (i = j ∧ oi = o' ∧ ui = u') ∨ (i ≠ j ∧ hp[i]? = some oi ∧ μ[i]? = some ui) := by
    intro i oi ui h1 h2
    by_cases e : j = i
    · subst e
      rw [List.getElem?_set_self hjl] at h1
      rw [List.getElem?_set_self hul] at h2
      simp at h1 h2
      exact .inl ⟨rfl, h1.symm, h2.symm⟩
    · rw [List.getElem?_set_ne e] at h1 h2
      exact .inr ⟨fun h => e h.symm, h1, h2⟩
  refine ⟨by simp [h.len], fun i oi ui g h1 ha' h2 hg => ?_, fun i x hx => ?_, fun i oi ui h1 h2 => ?_, fun i k oi ok ui uk g hne h1 h2 a1 a2 m1 m2 b1 b2 => ?_⟩
  · rcases get i oi ui h1 h2 with ⟨rfl, rfl, rfl⟩ | ⟨_, e1, e2⟩
    · exact h.zone _ o u g hj ha hu (hblk ▸ hg)
    · exact h.zone i oi ui g e1 ha' e2 hg
  · by_cases e : j = i
    · subst e
      rw [List.getElem?_set_self hul] at hx
      simp at hx
      rw [← hx]; exact hone
    · rw [List.getElem?_set_ne e] at hx
      exact h.one i x hx
  · rcases get i oi ui h1 h2 with ⟨rfl, rfl, rfl⟩ | ⟨hne, e1, e2⟩
    · exact hnew
    · have := (h.obj i oi ui e1 e2).keep_kill (μ' := μ.set j u') j (fun _ _ _ => rfl) (fun k x hk hx => by rw [List.getElem?_set_ne (fun e => hk e.symm)]; exact hx) (fun _ _ => rfl)
      rwa [hk i oi hne e1] at this
  · rcases get i oi ui h1 m1 with ⟨rfl, rfl, rfl⟩ | ⟨hi, e1, e2⟩ <;> rcases get k ok uk h2 m2 with ⟨rfl, rfl, rfl⟩ | ⟨hk', e3, e4⟩
    · exact hne rfl
    · exact h.sep _ k o ok u uk g (fun e => hk' e.symm) hj e3 ha a2 hu e4 (hblk ▸ b1) b2
    · exact h.sep i _ oi o ui u g hi e1 hj a1 ha e2 hu b1 (hblk ▸ b2)
    · exact h.sep i k oi ok ui uk g hne e1 e3 a1 a2 e2 e4 b1 b2

theorem CallX.box {P : Program} {f : FuncId} {args : List AV} {hp : List AObj} {Φ : AV → List AObj → Prop} (j : Nat) (t : TypeId) (cs : List AV) (hc : CallX P f args hp Φ) (hj : hp[j]? = some (.list t cs.length 1 cs)) (hl : leafyL cs = true)
    (h1 : hp.map (AObj.kill j) = hp) (h2 : killL j args = args) (h3 : ∀ r h', Φ r h' → h'[j]? = some (.list t cs.length 1 cs) ∧ h'.map (AObj.kill j) = h' ∧ r.kill j = r) :
    CallX P f args (hp.set j (.box t cs)) fun r h => ∃ hp', Φ r hp' ∧ h = hp'.set j (.box t cs) := by
  obtain ⟨hen, hc⟩ := hc
  refine ⟨hen, ?_⟩
  intro Z0 F w0 w μ vs us fr hFb hH hvs hus hbel
  have hjl := (List.getElem?_eq_some_iff.1 hj).1
  have kof : ∀ {l : List AObj}, l.map (AObj.kill j) = l → ∀ (i : Nat) (oi : AObj), l[i]? = some oi → oi.kill j = oi := by
    intro l hl i oi hi
    have := congrArg (fun l : List AObj => l[i]?) hl
    simp only [List.getElem?_map, hi, Option.map_some, Option.some.injEq] at this
    exact this
  have hbj : (hp.set j (.box t cs))[j]? = some (.box t cs) := List.getElem?_set_self hjl
  obtain ⟨u, hu⟩ : ∃ u, μ[j]? = some u := ⟨_, List.getElem?_eq_getElem (by rw [hH.len, List.length_set]; exact hjl)⟩
  have hul := (List.getElem?_eq_some_iff.1 hu).1
  obtain ⟨g, xs, rfl, hBg, hg, hr⟩ := hH.obj j _ u hbj hu
  have hr0 : RelL w (Zone Z0 F w0.heap.size) [] cs xs := RelL.leafy hl hr
  have hxl := hr0.length
  obtain ⟨u', hu'⟩ : ∃ u', u' = Value.slice (some ⟨g, 0, none⟩) 1 1 := ⟨_, rfl⟩
  have hset : ((hp.set j (.box t cs)).set j (.list t cs.length 1 cs)) = hp := by
    rw [List.set_set]
    refine List.ext_getElem? fun i => ?_
    rw [List.getElem?_set]
    split
    · rename_i e
      subst e
      exact hj.symm
    · rfl
  have hH0 : HRel w (Zone Z0 F w0.heap.size) w0.heap.size (μ.set j u') hp := by
    have := hH.swap (u' := u') (o' := .list t cs.length 1 cs) hbj hu rfl (by rw [hu']; rfl) (by rw [hu']; rfl) (fun i oi hne hi => kof h1 i oi (by rw [List.getElem?_set_ne (fun e => hne e.symm)] at hi; exact hi)) ⟨xs, ⟨by rw [hxl, Nat.one_mul], .inr ⟨g, 1, xs.toArray, hu', hBg, hg, Nat.le_refl _, by decide, by simp [hxl], by simp [← hxl]⟩⟩, hr0⟩
    rwa [hset] at this
  have hm : ∀ (i : Nat) (x : Value), i ≠ j → μ[i]? = some x → (μ.set j u')[i]? = some x := fun i x hne hx => by rw [List.getElem?_set_ne (fun e => hne e.symm)]; exact hx
  have hvs0 := RelL.keep_kill (w := w) (w' := w) j (fun _ _ _ => rfl) hm hvs
  rw [h2] at hvs0
  have hus0 := RelL.keep_kill (w := w) (w' := w) j (fun _ _ _ => rfl) hm hus
  have hrefj : RelL w (Zone Z0 F w0.heap.size) (μ.set j u') [.ref j] [u'] := RelL.cons (by simp only [Rel]; rw [List.getElem?_set_self hul]) RelL.nil
  refine (hc Z0 F w0 w _ vs (us ++ [u']) _ hFb hH0 hvs0 (hus0.append hrefj) hbel).mono ?_
  rintro e w' ⟨v, μ1, F1, res, hp', hΦ, rfl, hF1, hH1, hres, hfr1, hb1⟩
  obtain ⟨k1, k2, k3⟩ := h3 _ _ hΦ
  have hlen1 := hus0.length
  have hfrA : RelL w' (Zone Z0 F1 w0.heap.size) μ1 (killL j fr) us := by
    have := hfr1.take (killL j fr).length
    rwa [List.take_left, ← hlen1, List.take_left] at this
  have hrj : RelL w' (Zone Z0 F1 w0.heap.size) μ1 [.ref j] [u'] := by
    have := hfr1.drop (killL j fr).length
    rwa [List.drop_left, ← hlen1, List.drop_left] at this
  have hm1 : μ1[j]? = some u' := by
    simp only [RelL, Rel] at hrj
    obtain ⟨x, _, e1, e2, _⟩ := hrj
    simp only [List.cons.injEq] at e1
    rw [e1.1]; exact e2
  have hjl1 := (List.getElem?_eq_some_iff.1 hm1).1
  obtain ⟨xs1, hown, hr1⟩ := hH1.obj j _ u' k1 hm1
  have hcell : w0.heap.size ≤ g ∧ w'.heap[g]? = some (.cells xs1.toArray t (0, 0)) := by
    rcases hown.2 with ⟨e1, _⟩ | ⟨g', cap, cur, e1, e2, e3, e4, e5, e6, e7⟩
    · rw [hu'] at e1; cases e1
    · rw [hu'] at e1
      simp only [Value.slice.injEq, Option.some.injEq, Addr.mk.injEq, true_and, and_true] at e1
      obtain ⟨rfl, rfl⟩ := e1
      refine ⟨e2, ?_⟩
      have : cur = xs1.toArray := by
        apply Array.toList_inj.1
        rw [← e7, List.take_of_length_le (by simp [e6])]
      rw [e3, this]
  refine ⟨v, μ1.set j (.pointer (some ⟨g, 0, none⟩)), F1, res, _, ⟨hp', hΦ, rfl⟩, rfl, hF1, ?_, ?_, ?_, hb1⟩
  · exact hH1.swap k1 hm1 rfl (by rw [hu']; rfl) rfl (fun i oi _ hi => kof k2 i oi hi) ⟨g, xs1, rfl, hcell.1, hcell.2, hr1.lift⟩
  · have := Rel.keep_kill (w := w') (w' := w') (μ' := μ1.set j (.pointer (some ⟨g, 0, none⟩))) j (fun _ _ _ => rfl) (fun i x hne hx => by rw [List.getElem?_set_ne (fun e => hne e.symm)]; exact hx) hres
    rwa [k3] at this
  · refine RelL.mixK ?_ ?_ hus hfrA
    · intro i x hne hx
      rw [List.getElem?_set_ne (fun e => hne e.symm)]; exact hx
    · intro x hx
      rw [hu] at hx
      rw [List.getElem?_set_self hjl1]
      exact hx
/-! ### The address of a field may come first -/
section
variable {P : Program} {m : M} {Q : Exit → St → Prop}
def faAt (P : Program) (m : M) (i : Nat) : Option AV :=
  match m.ks with
  | .any ops listed (_ + 1) :: _ => match ops[i]? with
    | some o => match o.op with
      | .fieldAddr s x f => if o.guard.isNone && Region.noSelect ops && Region.free .any ops listed i && (Region.ready .any ops listed).contains i then (match ev m.st.fr x, fieldB P s f with
        | .ptr j q, some (off, k) => if k = 0 then none else some (.ptr j (q + off))
        | _, _ => none) else none
      | _ => none
    | none => none
  | _ => none

theorem R.anyA (i : Nat) (v : AV) (h : faAt P m i = some v) (np : NoPanic Q) (h' : Runs none P (exM i v m) Q) : Runs none P m Q := by
  obtain ⟨ks, ⟨fr, hp⟩⟩ := m
  simp only [runs_iff] at h' ⊢
  unfold faAt at h
  simp only at h
  split at h
  · rename_i ops listed n ks'
    split at h
    · rename_i o ho
      split at h
      · rename_i s x f hx
        split at h
        · rename_i hc
          simp only [Bool.and_eq_true] at hc
          obtain ⟨⟨⟨hg, hs⟩, hf⟩, hr⟩ := hc
          split at h
          · rename_i j q off k hcs hfb
            split at h
            · cases h
            · rename_i hk
              simp only [Option.some.injEq] at h
              subst h
              simp only [exM, ho, RunsK] at h' ⊢
              intro Z0 w0 a w hS
              have hW : Region.wanted o (yielded ops a.tmps) = true := by
                unfold Region.wanted
                rw [Option.isNone_iff_eq_none.1 hg]
              have hrun : ∃ u, ∀ w, (execOp a.eval o).run P w = .ok (.value u) w := by
                obtain ⟨μ, F, _, _, hFr, _, _⟩ := hS
                have h1 := ev_rel hFr x
                rw [hcs] at h1
                simp only [Rel] at h1
                obtain ⟨u, g, hu, hg', h2⟩ := h1
                refine ⟨.pointer (some ((⟨g, q, none⟩ : Addr).add off)), fun w => ?_⟩
                unfold execOp
                rw [hx]
                simp [h2, run_fieldAt hfb hk w] <;> rfl
              obtain ⟨u, hrun⟩ := hrun
              have hw' : WantedA ops o fr := wantedE_true (by unfold wantedE; rw [Option.isNone_iff_eq_none.1 hg])
              have h1 := StepR.sound (rd := none) (K := fun a' w' => Sim Z0 w0 ⟨putF fr o.dst (.ptr j (q + off)), hp⟩ a' w') (Q := fun _ _ _ => True) (st' := ⟨putF fr o.dst (.ptr j (q + off)), hp⟩) (by simpa using StepR.eff (P := P) (st := ⟨fr, hp⟩) hw' (v := .ptr j (q + off)) (news := []) (by rw [hx]; exact EffR.fieldAddr j q off k hcs hfb hk)) hS (fun _ _ h => h)
              rw [if_pos hW] at h1
              unfold Oper.wpIn at h1
              have h1 := h1.2
              rw [show (Fc none).round = none from rfl, Oper.semAt_none, hrun w] at h1
              simp only [Oper.uponIn] at h1
              exact wpAnyIn_take rfl ho hs hf hr (fun c a w ⟨st', hq, _⟩ => absurd (runsK_panic ks' st' hq) (np c st')) ⟨.inl ⟨hW, hrun⟩, fun w => by unfold Oper.about; rw [hx]⟩ (h' Z0 w0 _ w h1)
          · cases h
        · cases h
      · cases h
    · cases h
  · cases h
end
/-! ### Sums that may come first -/
section
variable {P : Program} {m : M} {Q : Exit → St → Prop}
/-! ### One element is taken out of a row: append(x[:j], x[j+1:]...) -/
end
end Go.Abs
