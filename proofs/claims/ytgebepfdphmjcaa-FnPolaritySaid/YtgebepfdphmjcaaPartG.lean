/- Texts of the proof: P05, P03, Q09, T01, T02, S02, U03, SymZ, SymK, Sym2, SymL. -/
import Derived.Test.YtgebepfdphmjcaaPartF

/-! Bits of meets, differences and boxes; truth sets stay within the worlds. -/
namespace Go.Proofs.Ytgebepfdphmjcaa
open Go.RowKit Go.Abs

theorem tb_nat (a i : Nat) : tb (a : Int) i = a.testBit i := rfl
theorem inM_band {n : Nat} {a b : Int} (hn : n ≤ 61) (ha : InM n a) (hb : InM n b) : InM n (band a b) := by
  obtain ⟨a, rfl, ha'⟩ := inM_nat ha
  obtain ⟨b, rfl, hb'⟩ := inM_nat hb
  rw [band_nat (inM_62 hn ha') (inM_62 hn hb')]
  exact ⟨Int.natCast_nonneg _, by rw [Int.toNat_natCast]; exact Nat.and_lt_two_pow _ hb'⟩
theorem tb_band {n : Nat} {a b : Int} (hn : n ≤ 61) (ha : InM n a) (hb : InM n b) (i : Nat) : tb (band a b) i = (tb a i && tb b i) := by
  obtain ⟨a, rfl, ha'⟩ := inM_nat ha
  obtain ⟨b, rfl, hb'⟩ := inM_nat hb
  rw [band_nat (inM_62 hn ha') (inM_62 hn hb'), tb_nat, tb_nat, tb_nat, Nat.testBit_and]
theorem bnot_nat {a b : Nat} (ha : a < 2 ^ 62) (hb : b < 2 ^ 62) : ∃ c : Nat, bnot (a : Int) (b : Int) = (c : Int) ∧ c ≤ a ∧ ∀ i, c.testBit i = (a.testBit i && !b.testBit i) := by
  have hx : (BitVec.ofNat 64 a &&& ~~~ BitVec.ofNat 64 b).toNat ≤ a := by
    rw [BitVec.toNat_and, toNat_lt ha]
    exact Nat.and_le_left
  refine ⟨(BitVec.ofNat 64 a &&& ~~~ BitVec.ofNat 64 b).toNat, ?_, hx, fun i => ?_⟩
  · rw [bnot_bv, bv_nat, bv_nat, toInt_lt (Nat.lt_of_le_of_lt hx ha)]
  · rw [BitVec.testBit_toNat, BitVec.getLsbD_and, BitVec.getLsbD_not, BitVec.getLsbD_ofNat, BitVec.getLsbD_ofNat]
    by_cases hi : i < 64
    · simp [hi]
    · have h1 : a.testBit i = false := Nat.testBit_lt_two_pow (Nat.lt_of_lt_of_le ha (Nat.pow_le_pow_right (by decide) (by omega)))
      simp [hi, h1]
theorem inM_bnot {n : Nat} {a b : Int} (hn : n ≤ 61) (ha : InM n a) (hb : InM n b) : InM n (bnot a b) := by
  obtain ⟨a, rfl, ha'⟩ := inM_nat ha
  obtain ⟨b, rfl, hb'⟩ := inM_nat hb
  obtain ⟨c, h1, h2, _⟩ := bnot_nat (inM_62 hn ha') (inM_62 hn hb')
  rw [h1]
  exact ⟨Int.natCast_nonneg _, by rw [Int.toNat_natCast]; omega⟩
theorem tb_bnot {n : Nat} {a b : Int} (hn : n ≤ 61) (ha : InM n a) (hb : InM n b) (i : Nat) : tb (bnot a b) i = (tb a i && !tb b i) := by
  obtain ⟨a, rfl, ha'⟩ := inM_nat ha
  obtain ⟨b, rfl, hb'⟩ := inM_nat hb
  obtain ⟨c, h1, _, h3⟩ := bnot_nat (inM_62 hn ha') (inM_62 hn hb')
  rw [h1, tb_nat, tb_nat, tb_nat, h3]
theorem full_nat {n : Nat} (hn : n ≤ 61) : (shl64 1 (n : Int)) - 1 = ((2 ^ n - 1 : Nat) : Int) := by
  rw [shl_nat (by omega)]
  have := Nat.two_pow_pos n
  omega
theorem inM_full {n : Nat} (hn : n ≤ 61) : InM n ((shl64 1 (n : Int)) - 1) := by
  rw [full_nat hn]
  have := Nat.two_pow_pos n
  exact ⟨Int.natCast_nonneg _, by rw [Int.toNat_natCast]; omega⟩
theorem tb_full {n : Nat} (hn : n ≤ 61) (i : Nat) : tb ((shl64 1 (n : Int)) - 1) i = decide (i < n) := by
  rw [full_nat hn, tb_nat, Nat.testBit_two_pow_sub_one]
theorem boxB_ok {n : Nat} {xs : List Int} {m : Int} (hn : n ≤ 61) (h : RelOK n xs) (hm : InM n m) : ∀ i, i ≤ n → InM n (boxB xs m i) ∧ ∀ k, tb (boxB xs m i) k = true ↔ k < i ∧ ∀ j, tb (xs.getD k 0) j = true → tb m j = true
  | 0, _ => ⟨inM_zero n, fun k => by simp [boxB, tb_zero]⟩
  | i + 1, hi => by
    obtain ⟨h1, h2⟩ := boxB_ok hn h hm i (by omega)
    have hb := bnot_sub hn (h.2 i (by omega)) hm
    have hI := inM_one (n := n) hn (show i < n by omega)
    simp only [boxB]
    split
    · rename_i hc
      refine ⟨inM_bor hn h1 hI, fun k => ?_⟩
      rw [tb_bor hn h1 hI, Bool.or_eq_true, h2 k, tb_one (by omega), decide_eq_true_iff]
      constructor
      · rintro (⟨a, b⟩ | rfl)
        · exact ⟨by omega, b⟩
        · exact ⟨by omega, hb.1 hc⟩
      · rintro ⟨a, b⟩
        by_cases hki : i = k
        · exact .inr hki
        · exact .inl ⟨by omega, b⟩
    · rename_i hc
      refine ⟨h1, fun k => ?_⟩
      rw [h2 k]
      constructor
      · rintro ⟨a, b⟩; exact ⟨by omega, b⟩
      · rintro ⟨a, b⟩
        by_cases hki : k = i
        · subst hki; exact absurd (hb.2 b) hc
        · exact ⟨by omega, b⟩

end Go.Proofs.Ytgebepfdphmjcaa


/-! Values of formulas that keep within a set; words that agree on a set. -/
namespace Go.Proofs.Ytgebepfdphmjcaa
open Go.RowKit Go.Abs

section
variable {G : Int → Prop} {b : Int → Int → Int → Int} {u u' : Int → Int → Int} {vs : List Int}
/-- On values within G two words agree, and stay within G. -/
theorem stkg_in (g0 : G 0) (hb : ∀ k p q, G p → G q → G (b k p q)) (hu : ∀ k p, (k = 5 ∨ k = 6) → G p → G (u k p) ∧ u k p = u' k p) :
    ∀ {l : List (Int × Int)} {o : Nat}, (∀ x ∈ l, 0 ≤ x.1 ∧ x.1 ≤ 6 ∧ (x.1 = 0 → G (vs.getD x.2.toNat 0))) → pe o l = some l.length → (∀ v ∈ stkG b u vs l, G v) ∧ stkG b u vs l = stkG b u' vs l
  | [], _, _, _ => ⟨fun v hv => by simp [stkG] at hv, rfl⟩
  | x :: l, 0, _, h => by rw [pe_zero] at h; cases h
  | x :: l, o + 1, hx, h => by
    obtain ⟨k, hk, h⟩ := pe_cons h
    have h' : pe (o + partsN x.1) l = some l.length := by rw [h]; congr 1; simpa using hk.symm
    obtain ⟨i1, i2⟩ := stkg_in g0 hb hu (fun y hy => hx y (List.mem_cons_of_mem _ hy)) h'
    obtain ⟨ws, w1, w2⟩ := stkg_parts b u vs (fun y hy => ⟨(hx y (List.mem_cons_of_mem _ hy)).1, (hx y (List.mem_cons_of_mem _ hy)).2.1⟩) h'
    have hw : stkG b u vs l = ws := by unfold stkG; rw [w2, List.append_nil]
    have hx0 := hx x (List.mem_cons_self ..)
    have e1 : ∀ f : Int → Int → Int, stkG b f vs (x :: l) = stepG b f vs x (stkG b f vs l) := fun _ => rfl
    rw [e1, e1, ← i2, hw]
    rw [hw] at i1
    have hc : x.1 = 0 ∨ x.1 = 1 ∨ (x.1 = 2 ∨ x.1 = 3 ∨ x.1 = 4) ∨ (x.1 = 5 ∨ x.1 = 6) := by omega
    rcases hc with hc | hc | hc | hc
    · rw [stepG_var _ _ _ hc, stepG_var _ _ _ hc]
      exact ⟨fun v hv => by rcases List.mem_cons.1 hv with rfl | hv; exact hx0.2.2 hc; exact i1 v hv, rfl⟩
    · rw [stepG_bot _ _ _ hc, stepG_bot _ _ _ hc]
      exact ⟨fun v hv => by rcases List.mem_cons.1 hv with rfl | hv; exact g0; exact i1 v hv, rfl⟩
    · rw [(partsN_two _).2 hc] at w1
      match ws, w1, i1 with
      | p :: q :: ws, _, i1 =>
        rw [stepG_two _ _ _ hc, stepG_two _ _ _ hc]
        exact ⟨fun v hv => by rcases List.mem_cons.1 hv with rfl | hv; exact hb _ _ _ (i1 p (by simp)) (i1 q (by simp)); exact i1 v (by simp [hv]), rfl⟩
    · rw [partsN_1 hc] at w1
      match ws, w1, i1 with
      | p :: ws, _, i1 =>
        rw [stepG_one _ _ _ hc, stepG_one _ _ _ hc]
        have hp := hu x.1 p hc (i1 p (by simp))
        exact ⟨fun v hv => by rcases List.mem_cons.1 hv with rfl | hv; exact hp.1; exact i1 v (by simp [hv]), by rw [hp.2]⟩
theorem gv_in {nv : Nat} {a : List (Int × Int)} (h : OKM nv a) (g0 : G 0) (hv : ∀ j : Nat, j < nv → G (vs.getD j 0)) (hb : ∀ k p q, G p → G q → G (b k p q)) (hu : ∀ k p, (k = 5 ∨ k = 6) → G p → G (u k p) ∧ u k p = u' k p) : G (gv b u vs a) ∧ gv b u vs a = gv b u' vs a := by
  obtain ⟨h1, h2⟩ := stkg_in (vs := vs) g0 hb hu (fun x hx => ⟨(h.2 x hx).1, (h.2 x hx).2.1, fun h0 => hv _ (by have := (h.2 x hx).2.2 h0; omega)⟩) h.1
  refine ⟨?_, by unfold gv; rw [h2]⟩
  have h3 : stkG b u vs a = [gv b u vs a] := by
    have := okm_stk b u vs h []
    simpa [stkG] using this
  exact h1 _ (by rw [h3]; simp)
end

end Go.Proofs.Ytgebepfdphmjcaa


/-! Searches on frames: codes, valuations of the reference, first refutations, refuting worlds. -/
namespace Go.Proofs.Ytgebepfdphmjcaa
open Go.RowKit Go.Abs

def scode (n : Int) (xs : List Int) (l : List (List (Int × Int))) : Int := if okFr n xs = true ∧ allF l = true then (if n * ((mem (vmT l l.length)).length : Int) > 16 then 3 else 0) else 1
def frC (n : Int) (xs : List Int) (a : List (Int × Int)) : Int := if scode n xs [a] = 0 then (if (fstV n xs (mem (vmT [a] [a].length)) a).isSome = true then 0 else 4) else scode n xs [a]
theorem nn_eq {n : Int} (h0 : 0 ≤ n) : ((n.toNat : Nat) : Int) = n := by omega
theorem mT_in {n : Int} (h0 : 0 ≤ n) (h8 : n ≤ 8) {k p q : Int} (hp : InM n.toNat p) (hq : InM n.toNat q) : InM n.toNat (mT n k p q) := by
  have hn : n.toNat ≤ 61 := by omega
  have hf := inM_full (n := n.toNat) hn
  rw [nn_eq h0] at hf
  unfold mT
  split
  · exact inM_band hn hp hq
  · split
    · exact inM_bor hn hp hq
    · exact inM_bor hn (inM_bnot hn hf hp) hq
theorem bxB_in {n : Int} {xs : List Int} (hR : okFr n xs = true) {m : Int} (hm : InM n.toNat m) : InM n.toNat (bxB xs m) := by
  obtain ⟨h0, h8, hl, hr⟩ := okFr_rel hR
  exact (boxB_ok (by omega) hr hm xs.length (by omega)).1
theorem mU_in {n : Int} {xs : List Int} (hR : okFr n xs = true) {k p : Int} (hp : InM n.toNat p) : InM n.toNat (mU n (bxB xs) k p) := by
  obtain ⟨h0, h8, hl, hr⟩ := okFr_rel hR
  have hn : n.toNat ≤ 61 := by omega
  have hf := inM_full (n := n.toNat) hn
  rw [nn_eq h0] at hf
  unfold mU
  split
  · exact bxB_in hR hp
  · exact inM_bnot hn hf (bxB_in hR (inM_bnot hn hf hp))
theorem tset_in {n : Int} {xs X : List Int} {a : List (Int × Int)} (hR : okFr n xs = true) (ha : OKM 6 a) (hX : ∀ j : Nat, j < 6 → InM n.toNat (X.getD j 0)) : InM n.toNat (tset n xs X a) := by
  obtain ⟨h0, h8, _, _⟩ := okFr_rel hR
  exact (gv_in (G := InM n.toNat) (u' := mU n (bxB xs)) ha (inM_zero _) hX (fun k p q hp hq => mT_in h0 h8 hp hq) (fun k p _ hp => ⟨mU_in hR hp, rfl⟩)).1
end Go.Proofs.Ytgebepfdphmjcaa


/-! Truth by worlds; formulas by their parts. -/
namespace Go.Proofs.Ytgebepfdphmjcaa
open Go.RowKit Go.Abs

/-- A formula is a variable, False, two parts under a node, or one. -/
theorem okm_cases {nv : Nat} {a : List (Int × Int)} (h : OKM nv a) : (∃ v, a = [(0, v)] ∧ 0 ≤ v ∧ v < nv) ∨ (∃ s, a = [(1, s)]) ∨ (∃ k s L R, (k = 2 ∨ k = 3 ∨ k = 4) ∧ a = (k, s) :: (L ++ R) ∧ OKM nv L ∧ OKM nv R ∧ lef a = L ∧ rig a = R) ∨ (∃ k s L, (k = 5 ∨ k = 6) ∧ a = (k, s) :: L ∧ OKM nv L) := by
  obtain ⟨⟨k, s⟩, r, rfl, hr⟩ := okm_cons h
  have hk := h.2 (k, s) (List.mem_cons_self ..)
  simp only at hk hr
  have hp : partsN k = 0 ∨ partsN k = 1 ∨ partsN k = 2 := by have := partsN_le k; omega
  rcases hp with hp | hp | hp
  · rw [hp, pe_zero] at hr
    have h0 : r = [] := List.eq_nil_of_length_eq_zero (by simpa using hr.symm)
    subst h0
    have hk01 : k = 0 ∨ k = 1 := by
      have h2 : ¬ (k = 2 ∨ k = 3 ∨ k = 4) := fun hq => by have := (partsN_two k).2 hq; omega
      have h5 : ¬ (k = 5 ∨ k = 6) := fun hq => by have := partsN_1 hq; omega
      omega
    rcases hk01 with rfl | rfl
    · exact .inl ⟨s, rfl, hk.2.2 rfl⟩
    · exact .inr (.inl ⟨s, rfl⟩)
  · obtain ⟨x, r', e, h1, h2⟩ := okm_one h (by simpa using hp)
    cases e
    refine .inr (.inr (.inr ⟨k, s, r, ?_, rfl, h1⟩))
    have h2 : ¬ (k = 2 ∨ k = 3 ∨ k = 4) := fun hq => by have := (partsN_two k).2 hq; omega
    have h0 : ¬ k = 0 := fun e => by subst e; exact absurd hp (by decide)
    have h1 : ¬ k = 1 := fun e => by subst e; exact absurd hp (by decide)
    omega
  · obtain ⟨x, L, R, e, h1, h2, _, h4, h5⟩ := okm_two h (by simpa using hp)
    cases e
    exact .inr (.inr (.inl ⟨k, s, L, R, (partsN_two k).1 hp, rfl, h1, h2, h4, h5⟩))

/-- What holds of a formula if it holds of its parts. -/
theorem okm_ind {nv : Nat} {C : List (Int × Int) → Prop} (hv : ∀ v : Int, 0 ≤ v → v < nv → C [(0, v)]) (hb : ∀ s : Int, C [(1, s)])
    (h2 : ∀ (k s : Int) (L R : List (Int × Int)), (k = 2 ∨ k = 3 ∨ k = 4) → OKM nv ((k, s) :: (L ++ R)) → OKM nv L → OKM nv R → C L → C R → C ((k, s) :: (L ++ R))) (h1 : ∀ (k s : Int) (L : List (Int × Int)), (k = 5 ∨ k = 6) → OKM nv ((k, s) :: L) → OKM nv L → C L → C ((k, s) :: L)) :
    ∀ {a : List (Int × Int)}, OKM nv a → C a := by
  intro a0 ha0
  have main : ∀ (m : Nat) (a : List (Int × Int)), a.length = m → OKM nv a → C a := by
    intro m
    induction m using Nat.strongRecOn with
    | _ m ih =>
      intro a hm ha
      rcases okm_cases ha with ⟨v, rfl, h0, h3⟩ | ⟨s, rfl⟩ | ⟨k, s, L, R, hk, rfl, hL, hR, _, _⟩ | ⟨k, s, L, hk, rfl, hL⟩
      · exact hv v h0 h3
      · exact hb s
      · simp only [List.length_cons, List.length_append] at hm
        exact h2 k s L R hk ha hL hR (ih _ (by omega) L rfl hL) (ih _ (by omega) R rfl hR)
      · simp only [List.length_cons] at hm
        exact h1 k s L hk ha hL (ih _ (by omega) L rfl hL)
  exact main _ _ rfl ha0

section
variable (b : Int → Int → Int → Int) (u : Int → Int → Int) (vs : List Int)
theorem gv_bot1 (s : Int) : gv b u vs [(1, s)] = 0 := rfl
theorem gv_two1 {nv : Nat} {k s : Int} {L R : List (Int × Int)} (hk : k = 2 ∨ k = 3 ∨ k = 4) (hL : OKM nv L) (hR : OKM nv R) : gv b u vs ((k, s) :: (L ++ R)) = b k (gv b u vs L) (gv b u vs R) := by
  conv => lhs; unfold gv stkG
  rw [List.foldr_cons, List.foldr_append, okm_stk b u vs hR, okm_stk b u vs hL, stepG_two _ _ _ hk]
  rfl
theorem gv_one1 {nv : Nat} {k s : Int} {L : List (Int × Int)} (hk : k = 5 ∨ k = 6) (hL : OKM nv L) : gv b u vs ((k, s) :: L) = u k (gv b u vs L) := by
  conv => lhs; unfold gv stkG
  rw [List.foldr_cons, okm_stk b u vs hL, stepG_one _ _ _ hk]
  rfl
end

/-- Formulas put together. -/
theorem pe_app {o p n : Nat} : ∀ {l r : List (Int × Int)}, pe o l = some l.length → pe p r = some n → pe (o + p) (l ++ r) = some (l.length + n)
  | l, r, h1, h2 => by
    induction l generalizing o with
    | nil =>
      cases o with
      | zero => simpa using h2
      | succ o => cases h1
    | cons x l ih =>
      cases o with
      | zero => rw [pe_zero] at h1; simp at h1
      | succ o =>
        obtain ⟨k, hk, h1⟩ := pe_cons h1
        have hk : k = l.length := by simpa using hk.symm
        subst hk
        have := ih h1
        rw [show o + 1 + p = (o + p) + 1 by omega, List.cons_append, pe_succ, show o + p + partsN x.1 = o + partsN x.1 + p by omega, this]
        simp; omega
theorem okm_var {nv : Nat} {v : Int} (h0 : 0 ≤ v) (h1 : v < nv) : OKM nv [(0, v)] := ⟨rfl, fun x hx => by simp at hx; subst hx; exact ⟨Int.le_refl 0, by simp, fun _ => ⟨h0, h1⟩⟩⟩
theorem okm_bot {nv : Nat} (s : Int) : OKM nv [(1, s)] := ⟨rfl, fun x hx => by simp at hx; subst hx; exact ⟨by simp, by simp, fun h => by simp at h⟩⟩
/-! Bits of truth sets. -/
def tr (n : Int) (xs X : List Int) (a : List (Int × Int)) (w : Nat) : Bool := tb (tset n xs X a) w
theorem tr_var (n : Int) (xs X : List Int) (v : Int) (w : Nat) : tr n xs X [(0, v)] w = tb (X.getD v.toNat 0) w := rfl
theorem bx_bits {n : Int} {xs : List Int} (hR : okFr n xs = true) {m : Int} (hm : InM n.toNat m) (w : Nat) : tb (bxB xs m) w = true ↔ w < n.toNat ∧ ∀ j, tb (xs.getD w 0) j = true → tb m j = true := by
  obtain ⟨h0, h8, hl, hr⟩ := okFr_rel hR
  have := (boxB_ok (n := n.toNat) (by omega) hr hm n.toNat (Nat.le_refl _)).2 w
  unfold bxB
  rw [show xs.length = n.toNat by omega]
  exact this
theorem tr_bot {n : Int} {xs X : List Int} (s : Int) (w : Nat) : tr n xs X [(1, s)] w = false := by
  unfold tr tset
  rw [gv_bot1, tb_zero]
section
variable {n : Int} {xs X : List Int} (hR : okFr n xs = true) (hX : ∀ j : Nat, j < 6 → InM n.toNat (X.getD j 0))
include hR hX
theorem tr_and {s : Int} {L R : List (Int × Int)} (hL : OKM 6 L) (hRR : OKM 6 R) (w : Nat) : tr n xs X ((2, s) :: (L ++ R)) w = (tr n xs X L w && tr n xs X R w) := by
  obtain ⟨h0, h8, _, _⟩ := okFr_rel hR
  unfold tr tset
  rw [gv_two1 _ _ _ (.inl rfl) hL hRR, mT, if_pos rfl]
  exact tb_band (n := n.toNat) (by omega) (tset_in hR hL hX) (tset_in hR hRR hX) w
theorem tr_or {s : Int} {L R : List (Int × Int)} (hL : OKM 6 L) (hRR : OKM 6 R) (w : Nat) : tr n xs X ((3, s) :: (L ++ R)) w = (tr n xs X L w || tr n xs X R w) := by
  obtain ⟨h0, h8, _, _⟩ := okFr_rel hR
  unfold tr tset
  rw [gv_two1 _ _ _ (.inr (.inl rfl)) hL hRR, mT, if_neg (by decide), if_pos rfl]
  exact tb_bor (n := n.toNat) (by omega) (tset_in hR hL hX) (tset_in hR hRR hX) w
theorem tr_imp {s : Int} {L R : List (Int × Int)} (hL : OKM 6 L) (hRR : OKM 6 R) {w : Nat} (hw : w < n.toNat) : tr n xs X ((4, s) :: (L ++ R)) w = (!tr n xs X L w || tr n xs X R w) := by
  obtain ⟨h0, h8, _, _⟩ := okFr_rel hR
  unfold tr tset
  rw [gv_two1 _ _ _ (.inr (.inr rfl)) hL hRR, mT, if_neg (by decide), if_neg (by decide)]
  have hf := inM_full (n := n.toNat) (by omega)
  have ht := tb_full (n := n.toNat) (by omega) w
  rw [nn_eq h0] at hf ht
  have e1 := tb_bor (n := n.toNat) (by omega) (inM_bnot (by omega) hf (tset_in hR hL hX)) (tset_in hR hRR hX) w
  rw [tb_bnot (n := n.toNat) (by omega) hf (tset_in hR hL hX), ht, decide_eq_true hw, Bool.true_and] at e1
  exact e1
theorem tr_box {s : Int} {L : List (Int × Int)} (hL : OKM 6 L) {w : Nat} (hw : w < n.toNat) : tr n xs X ((5, s) :: L) w = true ↔ ∀ j, tb (xs.getD w 0) j = true → tr n xs X L j = true := by
  unfold tr tset
  rw [gv_one1 _ _ _ (.inl rfl) hL, mU, if_pos rfl]
  have hT : InM n.toNat (gv (mT n) (mU n (bxB xs)) X L) := tset_in hR hL hX
  rw [bx_bits hR hT]
  exact ⟨fun h => h.2, fun h => ⟨hw, h⟩⟩
theorem tr_dia {s : Int} {L : List (Int × Int)} (hL : OKM 6 L) {w : Nat} (hw : w < n.toNat) : tr n xs X ((6, s) :: L) w = true ↔ ∃ j, tb (xs.getD w 0) j = true ∧ tr n xs X L j = true := by
  obtain ⟨h0, h8, hl, hr⟩ := okFr_rel hR
  unfold tr tset
  rw [gv_one1 _ _ _ (.inr rfl) hL, mU, if_neg (by decide)]
  have hf := inM_full (n := n.toNat) (by omega)
  rw [nn_eq h0] at hf
  have htf : ∀ j, tb ((shl64 1 n) - 1) j = decide (j < n.toNat) := fun j => by
    have ht := tb_full (n := n.toNat) (by omega) j
    rwa [nn_eq h0] at ht
  have hT : InM n.toNat (gv (mT n) (mU n (bxB xs)) X L) := tset_in hR hL hX
  have hnT := inM_bnot (n := n.toNat) (by omega) hf hT
  have hb : InM n.toNat (bxB xs (bnot ((shl64 1 n) - 1) (gv (mT n) (mU n (bxB xs)) X L))) := bxB_in hR hnT
  rw [tb_bnot (n := n.toNat) (by omega) hf hb, htf, decide_eq_true hw, Bool.true_and, Bool.not_eq_true']
  rw [← Bool.not_eq_true, bx_bits hR hnT]
  constructor
  · intro h
    refine Classical.byContradiction fun hn => h ⟨hw, fun j hj => ?_⟩
    rw [tb_bnot (n := n.toNat) (by omega) hf hT, htf, decide_eq_true (tb_lt (hr.2 w hw) hj), Bool.true_and, Bool.not_eq_true']
    cases e : tb (gv (mT n) (mU n (bxB xs)) X L) j with
    | false => rfl
    | true => exact absurd ⟨j, hj, e⟩ hn
  · rintro ⟨j, hj, e⟩ ⟨_, h⟩
    have := h j hj
    rw [tb_bnot (n := n.toNat) (by omega) hf hT] at this
    have e : tb (gv (mT n) (mU n (bxB xs)) X L) j = true := e
    rw [e] at this
    simp at this
end
end Go.Proofs.Ytgebepfdphmjcaa


/-! Negation normal forms. -/
namespace Go.Proofs.Ytgebepfdphmjcaa
open Go.RowKit Go.Abs

section
variable {nv : Nat} {s : Int} {L R : List (Int × Int)} {p : Bool}
end
theorem okm_two_e {nv : Nat} {k s : Int} {L R : List (Int × Int)} (hk : k = 2 ∨ k = 3 ∨ k = 4) (hL : OKM nv L) (hR : OKM nv R) : lef ((k, s) :: (L ++ R)) = L ∧ rig ((k, s) :: (L ++ R)) = R := by
  have e1 : pe 1 (L ++ R) = some L.length := by
    have := pe_app (o := 1) (p := 0) (n := 0) hL.1 (pe_zero R)
    simpa using this
  have hX : peX 1 ((k, s) :: (L ++ R)) 1 = 1 + L.length := by simp [peX, e1]
  unfold lef rig
  rw [hX, show (1 + (L.length : Int)).toNat = L.length + 1 by omega]
  simp
end Go.Proofs.Ytgebepfdphmjcaa


/-! Formulas as lists of nodes. -/
namespace Go.Proofs.Ytgebepfdphmjcaa
open Go.RowKit Go.Abs

theorem l02False_c : CallA Try.prog 130 [] (ownA eN 117 2 [(1, 0)]) := by
  refine CallA.of Try.func130 rfl (by kernel_rfl) ?_
  exact R.go 10 (R.retE (ownA eN 117 2 [(1, 0)]) (by kernel_rfl) (by kernel_rfl) (by rfl))

theorem l02Var_c (v : Int) : CallA Try.prog 131 [AI v] (ownA eN 117 2 [(0, v)]) := by
  refine CallA.of Try.func131 rfl (by kernel_rfl) ?_
  exact R.go 11 (R.retE (ownA eN 117 2 [(0, v)]) (by kernel_rfl) (by kernel_rfl) (by rfl))

theorem l02Pair_c (k : Int) (a : List (Int × Int)) (b : List (Int × Int)) (ha : a.length ≤ 1000000) (hb : b.length ≤ 1000000) : CallA Try.prog 99 [AI k, LN a, LN b] (ownA eN 117 2 ((k, 0) :: (a ++ b))) := by
  refine CallA.of Try.func99 rfl (by kernel_rfl) ?_
  refine R.go 10 (R.app eN [(k, 0)] a 0 117 2 16 (by kernel_rfl) eN_one (by decide) (by first | omega | (simp <;> omega)) (by kernel_rfl) ?_)
  refine R.go 1 (R.app eN ([(k, 0)] ++ a) b 0 117 2 16 (by kernel_rfl) eN_one (by decide) (by first | omega | (simp <;> omega)) (by kernel_rfl) ?_)
  exact R.go 2 (R.retE (ownA eN 117 2 ([(k, 0)] ++ a ++ b)) (by kernel_rfl) (by kernel_rfl) (by first | (rfl) | (exfalso; omega)))

theorem l02Not_c (a : List (Int × Int)) (ha : a.length ≤ 1000000) : CallA Try.prog 133 [LN a] (ownA eN 117 2 ((4, 0) :: (a ++ [(1, 0)]))) := by
  refine CallA.of Try.func133 rfl (by kernel_rfl) ?_
  refine R.go 7 (R.call true (l02False_c).frz (by kernel_rfl) rfl (by kernel_rfl) ?_)
  refine R.call true (l02Pair_c 4 a [(1, 0)] ha (by first | omega | (simp <;> omega))) (by kernel_rfl) rfl (by kernel_rfl) ?_
  exact R.go 2 (R.retE (ownA eN 117 2 ((4, 0) :: (a ++ [(1, 0)]))) (by kernel_rfl) (by kernel_rfl) (by rfl))

end Go.Proofs.Ytgebepfdphmjcaa


/-! Negation normal forms: the program and the reference. -/
namespace Go.Proofs.Ytgebepfdphmjcaa
open Go.RowKit Go.Abs

section
variable {nv : Nat} {a : List (Int × Int)} {p : Bool}
theorem root_1 (hok : OKM nv a) (h : partsN (a.getD 0 (0, 0)).1 = 1) : ∃ k s L, (k = 5 ∨ k = 6) ∧ a = (k, s) :: L ∧ OKM nv L := by
  rcases okm_cases hok with ⟨v, rfl, _⟩ | ⟨s, rfl⟩ | ⟨k, s, L, R, hk, rfl, _⟩ | ⟨k, s, L, hk, rfl, hL⟩
  · exact absurd h (by simp [partsN])
  · exact absurd h (by simp [partsN])
  · simp only [List.getD_cons_zero] at h
    rw [(partsN_two k).2 hk] at h
    omega
  · exact ⟨k, s, L, hk, rfl, hL⟩
theorem peX_one (hok : OKM nv a) (h : partsN (a.getD 0 (0, 0)).1 = 1) : peX 1 a 1 = a.length := by
  obtain ⟨k, s, L, _, rfl, hL⟩ := root_1 hok h
  simp [peX, hL.1]
  omega
theorem peX_two (hok : OKM nv a) (h : partsN (a.getD 0 (0, 0)).1 = 2) : peX 1 a (peX 1 a 1).toNat = a.length ∧ a.drop (peX 1 a 1).toNat = rig a := by
  obtain ⟨x, L, R, rfl, hL, hR, e, _, er⟩ := okm_two hok h
  rw [e, er, show (1 + (L.length : Int)).toNat = L.length + 1 by omega]
  have hd : (x :: (L ++ R)).drop (L.length + 1) = R := by simp
  refine ⟨?_, hd⟩
  unfold peX
  rw [hd, hR.1]
  simp
  omega
end
theorem part_c (a : List (Int × Int)) (i : Nat) (hi : i ≤ a.length) (h1 : (i : Int) ≤ peX 1 a i) (h2 : peX 1 a i ≤ a.length) (hl : a.length ≤ 1000000000) : CallA Try.prog 151 [LN a, AI (i : Int)] (LN ((a.take (peX 1 a i).toNat).drop i)) := by
  refine CallA.of Try.func151 rfl (by kernel_rfl) ?_
  refine R.go 10 (R.call true (partEnd_c a i hi hl) (by kernel_rfl) rfl (by kernel_rfl) ?_)
  refine R.go 2 (R.call true (partEnd_c a i hi hl) (by kernel_rfl) rfl (by kernel_rfl) ?_)
  refine R.slM eN a i ((peX 1 a i).toNat) ((peX 1 a i).toNat) (i : Int) (peX 1 a i) (peX 1 a i) (by kernel_rfl) rfl (by omega) (by omega) eN_len (by omega) (by omega) (by omega) (by kernel_rfl) ?_
  exact R.go 2 (R.retE (LN ((a.take ((peX 1 a i).toNat)).drop i)) (by kernel_rfl) (by kernel_rfl) (by first | (rfl) | (exfalso; omega)))

theorem first2_c (nv : Nat) (a : List (Int × Int)) (hok : OKM nv a) (h2 : partsN (a.getD 0 (0, 0)).1 = 2) (hl : a.length ≤ 1000000000) : CallA Try.prog 140 [LN a] (LN (lef a)) := by
  have h1 := okm_pos hok
  have hb := lenm_lef hok h2
  refine CallA.of Try.func140 rfl (by kernel_rfl) ?_
  refine R.go 7 (R.call true (part_c a 1 (by first | omega | (simp <;> omega)) (by omega) (by first | omega | (simp <;> omega)) hl) (by kernel_rfl) rfl (by kernel_rfl) ?_)
  exact R.go 2 (R.retE (LN ((a.take (peX 1 a 1).toNat).drop 1)) (by kernel_rfl) (by kernel_rfl) (by first | (rfl) | (exfalso; omega)))

theorem first1_c (nv : Nat) (a : List (Int × Int)) (hok : OKM nv a) (h1 : partsN (a.getD 0 (0, 0)).1 = 1) (hl : a.length ≤ 1000000000) : CallA Try.prog 140 [LN a] (LN (a.drop 1)) := by
  have hp := okm_pos hok
  have hb := peX_one hok h1
  refine CallA.of Try.func140 rfl (by kernel_rfl) ?_
  refine R.go 7 (R.call true (part_c a 1 (by first | omega | (simp <;> omega)) (by omega) (by first | omega | (simp <;> omega)) hl) (by kernel_rfl) rfl (by kernel_rfl) ?_)
  exact R.go 2 (R.retE (LN ((a.take (peX 1 a 1).toNat).drop 1)) (by kernel_rfl) (by kernel_rfl) (by first | (rw [hb]; simp) | (exfalso; omega)))

theorem partEndG_c (a : List (Int × Int)) (i e : Nat) (he : peX 1 a i = e) (hi : i ≤ a.length) (hl : a.length ≤ 1000000000) : CallA Try.prog 111 [LN a, AI (i : Int)] (AI (e : Int)) := by rw [← he]; exact partEnd_c a i hi hl

theorem second_c (nv : Nat) (a : List (Int × Int)) (hok : OKM nv a) (h2 : partsN (a.getD 0 (0, 0)).1 = 2) (hl : a.length ≤ 1000000000) : CallA Try.prog 141 [LN a] (LN (rig a)) := by
  have h1 := okm_pos hok
  have hb := lenm_lef hok h2
  obtain ⟨e, he⟩ : ∃ e : Nat, peX 1 a 1 = e := ⟨(peX 1 a 1).toNat, by omega⟩
  have hx := peX_two hok h2
  rw [he, show (e : Int).toNat = e from rfl] at hx
  have hx1 := hx.1
  refine CallA.of Try.func141 rfl (by kernel_rfl) ?_
  refine R.go 8 (R.call true (partEndG_c a 1 e (by assumption) (by first | omega | (simp <;> omega)) hl) (by kernel_rfl) rfl (by kernel_rfl) ?_)
  refine R.call true (part_c a e (by first | omega | (simp <;> omega)) (by omega) (by first | omega | (simp <;> omega)) hl) (by kernel_rfl) rfl (by kernel_rfl) ?_
  exact R.go 2 (R.retE (LN ((a.take (peX 1 a e).toNat).drop e)) (by kernel_rfl) (by kernel_rfl) (by first | (rw [hx1, ← hx.2]; simp) | (exfalso; omega)))

theorem parts1_c (nv : Nat) (a : List (Int × Int)) (hok : OKM nv a) (hp : partsN (a.getD 0 (0, 0)).1 = 1) (hl : a.length ≤ 1000000000) : CallA Try.prog 106 [LN a] (ownA eLN 29 1 [a.drop 1]) := by
  have h1 := okm_pos hok
  have hpi : (partsN (a.getD 0 (0, 0)).1 : Int) = 1 := by omega
  refine CallA.of Try.func106 rfl (by kernel_rfl) ?_
  refine R.go 8 (R.idx eN a (0, 0) 0 0 (by kernel_rfl) rfl eN_len (by omega) (by kernel_rfl) ?_)
  refine R.go 2 (R.call true (partsOf_c ((a.getD 0 (0, 0)).1)) (by kernel_rfl) rfl (by kernel_rfl) ?_)
  refine R.go 7 (R.cond ((partsN ((a.getD 0 (0, 0)).1) : Int) = 1) (by kernel_rfl) (fun c1 => ?_) (fun c1 => ?_))
  · refine R.go 3 (R.call true (first1_c nv a hok hp hl) (by kernel_rfl) rfl (by kernel_rfl) ?_)
    exact R.go 3 (R.retE (ownA eLN 29 1 [a.drop 1]) (by kernel_rfl) (by kernel_rfl) (by rfl))
  · refine R.go 5 (R.cond ((partsN ((a.getD 0 (0, 0)).1) : Int) = 2) (by kernel_rfl) (fun c2 => ?_) (fun c2 => ?_))
    · refine R.go 3 (R.call true (first1_c nv a hok hp hl) (by kernel_rfl) rfl (by kernel_rfl) ?_)
      refine R.go 1 (R.call true (second_c nv a hok (by first | assumption | exact (partsN_two _).2 (by omega)) hl) (by kernel_rfl) rfl (by kernel_rfl) ?_)
      exact R.go 3 (R.retE (ownA eLN 29 1 [a.drop 1, rig a]) (by kernel_rfl) (by kernel_rfl) (by first | (rfl) | (exfalso; omega)))
    · refine R.go 6 (R.nil 2 29 1 (by kernel_rfl) ?_)
      exact R.retE (ownA eLN 29 1 []) (by kernel_rfl) (by kernel_rfl) (by first | (rfl) | (exfalso; omega))

theorem parts2_c (nv : Nat) (a : List (Int × Int)) (hok : OKM nv a) (hp : partsN (a.getD 0 (0, 0)).1 = 2) (hl : a.length ≤ 1000000000) : CallA Try.prog 106 [LN a] (ownA eLN 29 1 [lef a, rig a]) := by
  have h1 := okm_pos hok
  have hpi : (partsN (a.getD 0 (0, 0)).1 : Int) = 2 := by omega
  refine CallA.of Try.func106 rfl (by kernel_rfl) ?_
  refine R.go 8 (R.idx eN a (0, 0) 0 0 (by kernel_rfl) rfl eN_len (by omega) (by kernel_rfl) ?_)
  refine R.go 2 (R.call true (partsOf_c ((a.getD 0 (0, 0)).1)) (by kernel_rfl) rfl (by kernel_rfl) ?_)
  refine R.go 7 (R.cond ((partsN ((a.getD 0 (0, 0)).1) : Int) = 1) (by kernel_rfl) (fun c1 => ?_) (fun c1 => ?_))
  · refine R.go 3 (R.call true (first2_c nv a hok hp hl) (by kernel_rfl) rfl (by kernel_rfl) ?_)
    exact R.go 3 (R.retE (ownA eLN 29 1 [lef a]) (by kernel_rfl) (by kernel_rfl) (by first | (rfl) | (exfalso; omega)))
  · refine R.go 5 (R.cond ((partsN ((a.getD 0 (0, 0)).1) : Int) = 2) (by kernel_rfl) (fun c2 => ?_) (fun c2 => ?_))
    · refine R.go 3 (R.call true (first2_c nv a hok hp hl) (by kernel_rfl) rfl (by kernel_rfl) ?_)
      refine R.go 1 (R.call true (second_c nv a hok hp hl) (by kernel_rfl) rfl (by kernel_rfl) ?_)
      exact R.go 3 (R.retE (ownA eLN 29 1 [lef a, rig a]) (by kernel_rfl) (by kernel_rfl) (by rfl))
    · refine R.go 6 (R.nil 2 29 1 (by kernel_rfl) ?_)
      exact R.retE (ownA eLN 29 1 []) (by kernel_rfl) (by kernel_rfl) (by first | (rfl) | (exfalso; omega))

end Go.Proofs.Ytgebepfdphmjcaa


/-! The machine's rules: slices without spare room; ways that meet again. -/
namespace Go.Abs
open Go.RowKit Go.ChangeShapes Go.WideShapes Go.Deep

section
variable {rd : Option Nat} {P : Program} {m : M} {Q : Exit → St → Prop} {α : Type}

/-! ### Rows of slices, all nil at first -/
/-! ### A part of a tuple that may come first -/
def exM (i : Nat) (v : AV) (m : M) : M :=
  match m.ks with
  | .any ops listed n :: ks => match ops[i]? with
    | some o => ⟨.any ops (listed.setIfInBounds i true) (n - 1) :: ks, ⟨putF m.st.fr o.dst v, m.st.hp⟩⟩
    | none => m
  | _ => m

/-! ### Ways that meet again -/
def meetQ (S : St) : Exit → St → Prop := fun e st => e = .normal ∧ st = S
def mtAt (m : M) : Bool :=
  match m.ks with
  | .code _ :: _ => true
  | _ => false

theorem R.meet (S : St) (h : mtAt m = true) (h1 : Runs rd P ⟨m.ks.take 1, m.st⟩ (meetQ S)) (h2 : Runs rd P ⟨m.ks.tail, S⟩ Q) : Runs rd P m Q := by
  obtain ⟨ks, st⟩ := m
  unfold mtAt at h
  simp only [runs_iff] at h h1 h2 ⊢
  split at h
  · rename_i c ks'
    simp only [List.take_succ_cons, List.take_zero, List.tail_cons, RunsK] at h1 h2 ⊢
    refine h1.mono ?_
    rintro e st' ⟨rfl, rfl⟩
    exact h2
  · cases h

end

/-! ### Rows of rows of pairs, handed to a law -/
section
variable {H : Type} {enc : TypeId × Value → H} {P : Program} {w : World} {base : Nat} {spare : Nat → Bool} {held : Bool}

end

end Go.Abs


/-! Rows of bytes; drawn regions with tags of one's own. -/
namespace Go.Abs
open Go.RowKit Go.ChangeShapes Go.WideShapes Go.Deep

def eB (n : Int) : List AV := [.int .u8 n]
def LB (xs : List Int) : AV := .lst 1 xs.length (rows eB xs)
theorem eB_len (x : Int) : (eB x).length = 1 := rfl
section
variable {H : Type} {enc : TypeId × Value → H} {P : Program} {w : World} {base : Nat} {spare : Nat → Bool} {held : Bool}

theorem RelL_bytes {Z : Nat → Prop} {μ : List Value} : ∀ xs : List Int, RelL w Z μ (rows eB xs) (xs.map fun n => .int .u8 n)
  | [] => RelL.nil
  | x :: xs => RelL.cons (by simp [Rel]) (RelL_bytes xs)

theorem trod_bytes {t e : TypeId} {fuel : Nat} {cs : List Value} {x : DataW H × List MemPlace} (ht : P.underlying t = some (.slice e)) (he : P.underlying e = some (.int .u8)) (hc : P.cellsOf e = 1)
    (h : DataW.trod enc P w base spare held fuel t cs = some x) : ∃ v, cs = [v] ∧ ∃ xs : List Int, xs.length ≤ maxLen ∧ (∀ j, j < xs.length → 0 ≤ xs.getD j 0 ∧ xs.getD j 0 ≤ 255) ∧ Rel w (Z0 w) [] (LB xs) v := by
  rcases open_slice1 ht hc h with ⟨rfl, _⟩ | ⟨a, len, cap, m, n, V, D, Pl, rfl, _, hl, hm, hmm, _, hx⟩
  · exact ⟨_, rfl, [], Nat.zero_le _, fun j hj => absurd hj (by simp), none, 0, [], rfl, rfl, Nat.le_refl _, fun h => absurd rfl h, RelL.nil⟩
  · have hlm : len ≤ m := by rw [hmm]; split <;> omega
    obtain ⟨xs, h1, h2⟩ := choose_list (n := len) (p := fun i y => w.cell? (a.add i) = some (.int .u8 y) ∧ 0 ≤ y ∧ y ≤ 255) fun i hi => by
      obtain ⟨g1, g2⟩ := hx i (by omega)
      obtain ⟨y, hy, _, hw⟩ := DataW.trod_int he g2
      simp at hy
      simp [Lit.wf, IntKind.min, IntKind.max, IntKind.signed, IntKind.bits] at hw
      exact ⟨y, by rw [g1, hy], by omega, by omega⟩
    refine ⟨_, rfl, xs, by omega, fun j hj => (h2 j (by omega)).2, ⟨some a, cap, xs.map fun n => .int .u8 n, by rw [h1], by rw [rows_length eB_len, h1], by omega, fun hne => ⟨a, rfl, ?_, fun j u hj => ?_⟩, RelL_bytes xs⟩⟩
    · have : 0 < len := by
        rw [← h1]
        cases xs with
        | nil => exact absurd rfl hne
        | cons x xs => simp
      have := not_Z0 (h2 0 this).1
      simpa [Addr.add] using this
    · rw [List.getElem?_map, Option.map_eq_some_iff] at hj
      obtain ⟨y, hy, rfl⟩ := hj
      have hj := (List.getElem?_eq_some_iff.1 hy).1
      rw [(h2 j (by omega)).1, List.getD_eq_getElem?_getD, hy]
      rfl

theorem open_bytes {r : Reach} {b0 : Nat} {t e : TypeId} {v : Value} {d : DataW H} {ps : List MemPlace} (ht : P.underlying t = some (.slice e)) (he : P.underlying e = some (.int .u8)) (hc : P.cellsOf e = 1)
    (hval : Value.okWide P w r b0 t v) (hd : DataW.Trod enc P w base spare held t v d ps) : ∃ xs : List Int, xs.length ≤ maxLen ∧ (∀ j, j < xs.length → 0 ≤ xs.getD j 0 ∧ xs.getD j 0 ≤ 255) ∧ Rel w (Z0 w) [] (LB xs) v := by
  obtain ⟨A, n, c, rfl⟩ := okWide_slice ht hval
  obtain ⟨fuel, hf⟩ := hd
  obtain ⟨v, h1, h2⟩ := trod_bytes ht he hc hf
  simp [Value.cells] at h1
  subst h1
  exact h2
end

section
variable {rd : Option Nat} {P : Program} {m : M} {Q : Exit → St → Prop}
end
end Go.Abs


/-! Calls that change the caller's objects: under a further frame; with objects left out. -/
namespace Go.Abs
open Go.RowKit

theorem idx_range {n i : Nat} (h : i < n) : (List.range n).idxOf i = i := by
  have hm : i ∈ List.range n := List.mem_range.2 h
  have hlt := List.idxOf_lt_length_iff.2 hm
  have := List.getElem_idxOf hlt
  rw [List.getElem_range] at this
  exact this

mutual
theorem Rel.mix {w w' : World} {Z Z' : Nat → Prop} {μ μ1 μ2 : List Value} {n : Nat} (hA : ∀ (i : Nat) u, i < n → μ1[i]? = some u → μ2[i]? = some u) (hB : ∀ (i : Nat) u, n ≤ i → μ[i]? = some u → μ2[i]? = some u) :
    ∀ {c : AV} {v : Value}, Rel w Z μ c v → Rel w' Z' μ1 (c.ren (List.range n)) v → Rel w' Z' μ2 c v
  | .int _ _, _, _, h => by simpa [Rel, AV.ren] using h
  | .bool _, _, _, h => by simpa [Rel, AV.ren] using h
  | .str _, _, _, h => by simpa [Rel, AV.ren] using h
  | .nil, _, _, h => by simpa [Rel, AV.ren] using h
  | .top, _, _, _ => by simp [Rel]
  | .own _ _ _ _, _, h, _ => by simp [Rel] at h
  | .lst _ _ _, _, _, h => by simpa [Rel, AV.ren] using h
  | .clp _ _ _, _, _, h => by simpa [Rel, AV.ren] using h
  | .rptr _, _, _, h => by simpa [Rel, AV.ren] using h
  | .ref i, v, h1, h2 => by
    simp only [Rel] at h1 ⊢
    rcases Nat.lt_or_ge i n with hi | hi
    · have hc : (List.range n).contains i = true := by simpa using hi
      simp only [AV.ren, hc, if_true, idx_range hi, Rel] at h2
      exact hA i v hi h2
    · exact hB i v hi h1
  | .ptr i o, v, h1, h2 => by
    simp only [Rel] at h1 ⊢
    rcases Nat.lt_or_ge i n with hi | hi
    · have hc : (List.range n).contains i = true := by simpa using hi
      simp only [AV.ren, hc, if_true, idx_range hi, Rel] at h2
      obtain ⟨u, g, e1, e2, e3⟩ := h2
      exact ⟨u, g, hA i u hi e1, e2, e3⟩
    · obtain ⟨u, g, e1, e2, e3⟩ := h1
      exact ⟨u, g, hB i u hi e1, e2, e3⟩
  | .agg cs, v, h1, h2 => by
    simp only [Rel, AV.ren] at h1 h2 ⊢
    obtain ⟨xs, e1, r1⟩ := h1
    obtain ⟨ys, e2, r2⟩ := h2
    rw [e1] at e2
    simp only [Value.agg.injEq] at e2
    have e3 : xs = ys := by simpa using e2
    subst e3
    exact ⟨xs, e1, RelL.mix hA hB r1 r2⟩
  | .tup cs, v, h1, h2 => by
    simp only [Rel, AV.ren] at h1 h2 ⊢
    obtain ⟨xs, e1, r1⟩ := h1
    obtain ⟨ys, e2, r2⟩ := h2
    rw [e1] at e2
    simp only [Value.tuple.injEq] at e2
    have e3 : xs = ys := by simpa using e2
    subst e3
    exact ⟨xs, e1, RelL.mix hA hB r1 r2⟩
  | .fn f cs, v, h1, h2 => by
    simp only [Rel, AV.ren] at h1 h2 ⊢
    obtain ⟨xs, e1, r1⟩ := h1
    obtain ⟨ys, e2, r2⟩ := h2
    rw [e1] at e2
    simp only [Value.func.injEq, true_and] at e2
    have e3 : xs = ys := by simpa using e2
    subst e3
    exact ⟨xs, e1, RelL.mix hA hB r1 r2⟩
theorem RelL.mix {w w' : World} {Z Z' : Nat → Prop} {μ μ1 μ2 : List Value} {n : Nat} (hA : ∀ (i : Nat) u, i < n → μ1[i]? = some u → μ2[i]? = some u) (hB : ∀ (i : Nat) u, n ≤ i → μ[i]? = some u → μ2[i]? = some u) :
    ∀ {cs : List AV} {vs : List Value}, RelL w Z μ cs vs → RelL w' Z' μ1 (renL (List.range n) cs) vs → RelL w' Z' μ2 cs vs
  | [], _, _, h => by simpa [RelL, renL] using h
  | c :: cs, _, h1, h2 => by
    simp only [RelL, renL] at h1 h2 ⊢
    obtain ⟨x, xs, e1, a1, b1⟩ := h1
    obtain ⟨y, ys, e2, a2, b2⟩ := h2
    rw [e1] at e2
    simp only [List.cons.injEq] at e2
    obtain ⟨rfl, rfl⟩ := e2
    exact ⟨x, xs, e1, Rel.mix hA hB a1 a2, RelL.mix hA hB b1 b2⟩
end

/-- One object more, of which nothing is known. -/
theorem HRel.addDead {w : World} {Z : Nat → Prop} {B : Nat} {μ : List Value} {hp : List AObj} (h : HRel w Z B μ hp) (u : Value) (hu : u.oneCell' = true) : HRel w Z B (μ ++ [u]) (hp ++ [.dead]) := by
  have split : ∀ (i : Nat) oi ui, (hp ++ [.dead])[i]? = some oi → (μ ++ [u])[i]? = some ui → (hp[i]? = some oi ∧ μ[i]? = some ui) ∨ oi = .dead := by
    intro i oi ui h1 h2
    rcases Nat.lt_or_ge i hp.length with hi | hi
    · rw [List.getElem?_append_left hi] at h1
      rw [List.getElem?_append_left (by rw [h.len]; exact hi)] at h2
      exact .inl ⟨h1, h2⟩
    · rw [List.getElem?_append_right hi] at h1
      rcases Nat.eq_zero_or_pos (i - hp.length) with h0 | h0
      · rw [h0] at h1; simp at h1; exact .inr h1.symm
      · rw [List.getElem?_eq_none (by simp; omega)] at h1; cases h1
  refine ⟨by simp [h.len], fun i oi ui g h1 ha h2 hg => ?_, fun i x hx => ?_, fun i oi ui h1 h2 => ?_, fun i j oi oj ui uj g hne h1 h2 a1 a2 m1 m2 b1 b2 => ?_⟩
  · rcases split i oi ui h1 h2 with ⟨e1, e2⟩ | rfl
    · exact h.zone i oi ui g e1 ha e2 hg
    · cases ha
  · rcases Nat.lt_or_ge i μ.length with hi | hi
    · rw [List.getElem?_append_left hi] at hx
      exact h.one i x hx
    · rw [List.getElem?_append_right hi] at hx
      rcases Nat.eq_zero_or_pos (i - μ.length) with h0 | h0
      · rw [h0] at hx; simp at hx; rw [← hx]; exact hu
      · rw [List.getElem?_eq_none (by simp; omega)] at hx; cases hx
  · rcases split i oi ui h1 h2 with ⟨e1, e2⟩ | rfl
    · exact (h.obj i oi ui e1 e2).keep (fun _ _ _ => rfl) (fun i u hu => append_old i u hu) (fun _ _ => rfl)
    · trivial
  · rcases split i oi ui h1 m1 with ⟨e1, e2⟩ | rfl
    · rcases split j oj uj h2 m2 with ⟨e3, e4⟩ | rfl
      · exact h.sep i j oi oj ui uj g hne e1 e3 a1 a2 e2 e4 b1 b2
      · cases a2
    · cases a1

/-- A caller's frame where nothing is known. -/
theorem HRel.frameAt {w : World} {Z : Nat → Prop} {B n : Nat} {μ : List Value} {hp : List AObj} {us : List Value} {fr : List AV} (h : HRel w Z B μ hp) (hd : hp[n]? = some .dead) (hr : RelL w Z μ fr us) : HRel w Z B μ (hp.set n (.frame us fr)) := by
  have hn := (List.getElem?_eq_some_iff.1 hd).1
  have get : ∀ (i : Nat) oi, (hp.set n (.frame us fr))[i]? = some oi → oi = .frame us fr ∨ hp[i]? = some oi := by
    intro i oi h1
    by_cases e : n = i
    · subst e
      rw [List.getElem?_set_self hn] at h1
      simp at h1; exact .inl h1.symm
    · rw [List.getElem?_set_ne e] at h1; exact .inr h1
  refine ⟨by rw [List.length_set]; exact h.len, fun i oi ui g h1 ha h2 hg => ?_, h.one, fun i oi ui h1 h2 => ?_, fun i j oi oj ui uj g hne h1 h2 a1 a2 m1 m2 b1 b2 => ?_⟩
  · rcases get i oi h1 with rfl | h1
    · cases ha
    · exact h.zone i oi ui g h1 ha h2 hg
  · rcases get i oi h1 with rfl | h1
    · exact hr
    · exact h.obj i oi ui h1 h2
  · rcases get i oi h1 with rfl | h1
    · cases a1
    · rcases get j oj h2 with rfl | h2
      · cases a2
      · exact h.sep i j oi oj ui uj g hne h1 h2 a1 a2 m1 m2 b1 b2

def renH (js : List Nat) (hp : List AObj) : List AObj := js.map fun i => (hp.getD i .dead).ren js
/-- The caller's frame laid between the n objects of the call and those that the call has made. -/
def insJ (n m : Nat) : List Nat := List.range n ++ (m :: (List.range (m - n)).map (· + n))
def insF (n : Nat) (us : List Value) (fr : List AV) (hp : List AObj) : List AObj := (renH (insJ n hp.length) (hp ++ [.dead])).set n (.frame us fr)

theorem insJ_nodup {n m : Nat} (h : n ≤ m) : (insJ n m).Nodup := by
  unfold insJ
  rw [List.nodup_append]
  refine ⟨List.nodup_range, ?_, ?_⟩
  · rw [List.nodup_cons]
    refine ⟨?_, ?_⟩
    · intro hm
      rw [List.mem_map] at hm
      obtain ⟨k, hk, e⟩ := hm
      rw [List.mem_range] at hk
      omega
    · rw [List.nodup_iff_pairwise_ne, List.pairwise_map]
      exact List.nodup_range.imp fun h e => h (by omega)
  · intro a ha b hb e
    rw [List.mem_range] at ha
    rw [List.mem_cons, List.mem_map] at hb
    rcases hb with hb | ⟨k, _, hk⟩ <;> omega

theorem CallS.frame {P : Program} {f : FuncId} {args : List AV} {hp : List AObj} {res : AV} {hp' : List AObj} (us2 : List Value) (fr2 : List AV) (hc : CallS P f args hp res hp') (h1 : renH (List.range hp.length) hp = hp)
    (h2 : renL (List.range hp.length) args = args) (h3 : hp.length ≤ hp'.length) : CallS P f args (hp ++ [.frame us2 fr2]) (res.ren (insJ hp.length hp'.length)) (insF hp.length us2 fr2 hp') := by
  obtain ⟨hen, hc⟩ := hc
  refine ⟨hen, ?_⟩
  intro Z0 F w0 w μ vs us fr hFb hH hvs hus hbel
  have hml : μ.length = hp.length + 1 := by rw [hH.len]; simp
  have hH0 := hH.ren (List.range hp.length) List.nodup_range
  have e0 : ((List.range hp.length).map fun i => ((hp ++ [AObj.frame us2 fr2]).getD i .dead).ren (List.range hp.length)) = hp := by
    refine Eq.trans (List.map_congr_left fun i hi => ?_) h1
    have hi := List.mem_range.1 hi
    simp only [List.getD_eq_getElem?_getD]
    rw [List.getElem?_append_left hi]
  rw [e0] at hH0
  have hvs0 := hvs.ren (List.range hp.length)
  rw [h2] at hvs0
  have hn2 : (hp ++ [AObj.frame us2 fr2])[hp.length]? = some (.frame us2 fr2) := by simp
  obtain ⟨u, hu⟩ : ∃ u, μ[hp.length]? = some u := ⟨_, List.getElem?_eq_getElem (by omega)⟩
  have hf2 : RelL w (Zone Z0 F w0.heap.size) μ fr2 us2 := hH.obj _ _ u hn2 hu
  have hus0 := (hus.append hf2).ren (List.range hp.length)
  refine (hc Z0 F w0 w _ vs (us ++ us2) _ hFb hH0 hvs0 hus0 hbel).mono ?_
  rintro e w' ⟨v, μ1, F1, rfl, hF1, hH1, hres, hfr1, hb1⟩
  have hm1 := hH1.len
  have hHd := hH1.addDead u (hH.one _ u hu)
  have hH2 := hHd.ren (insJ hp.length hp'.length) (insJ_nodup h3)
  obtain ⟨μ2, hμ2⟩ : ∃ μ2, μ2 = ((insJ hp.length hp'.length).map fun i => (μ1 ++ [u]).getD i (.bool false)) := ⟨_, rfl⟩
  have hA : ∀ (i : Nat) x, i < hp.length → μ1[i]? = some x → μ2[i]? = some x := by
    intro i x hi hx
    have hj : (insJ hp.length hp'.length)[i]? = some i := by
      unfold insJ
      rw [List.getElem?_append_left (by simpa using hi)]
      simp [hi]
    rw [hμ2, List.getElem?_map, hj]
    simp only [Option.map_some, List.getD_eq_getElem?_getD]
    rw [List.getElem?_append_left (by omega), hx]
    rfl
  have hB : ∀ (i : Nat) x, hp.length ≤ i → μ[i]? = some x → μ2[i]? = some x := by
    intro i x hi hx
    have hin : i = hp.length := by have := (List.getElem?_eq_some_iff.1 hx).1; omega
    subst hin
    rw [hu] at hx
    have hj : (insJ hp.length hp'.length)[hp.length]? = some hp'.length := by
      unfold insJ
      rw [List.getElem?_append_right (by simp)]
      simp
    rw [hμ2, List.getElem?_map, hj]
    simp only [Option.map_some, List.getD_eq_getElem?_getD]
    rw [List.getElem?_append_right (by omega), hm1]
    simpa using hx
  rw [← hμ2] at hH2
  have hall := RelL.mix hA hB (hus.append hf2) hfr1
  have hul := hus.length
  have hfr : RelL w' (Zone Z0 F1 w0.heap.size) μ2 fr us := by
    have := hall.take fr.length
    rwa [List.take_left, ← hul, List.take_left] at this
  have hfr2 : RelL w' (Zone Z0 F1 w0.heap.size) μ2 fr2 us2 := by
    have := hall.drop fr.length
    rwa [List.drop_left, ← hul, List.drop_left] at this
  refine ⟨v, μ2, F1, rfl, hF1, ?_, ?_, hfr, hb1⟩
  · refine hH2.frameAt ?_ hfr2
    have hj : (insJ hp.length hp'.length)[hp.length]? = some hp'.length := by
      unfold insJ
      rw [List.getElem?_append_right (by simp)]
      simp
    rw [List.getElem?_map, hj]
    simp [AObj.ren]
  · rw [hμ2]
    exact Rel.ren _ (Rel.keep (w := w') (fun _ _ _ => rfl) (fun i u hu => append_old i u hu) hres)

/-- Objects left out that the call has made, or put in another order. -/
theorem CallS.drop {P : Program} {f : FuncId} {args : List AV} {hp : List AObj} {res : AV} {hp' : List AObj} (js : List Nat) (hc : CallS P f args hp res hp') (h1 : js.take hp.length = List.range hp.length) (h2 : js.Nodup) :
    CallS P f args hp (res.ren js) (renH js hp') := by
  obtain ⟨hen, hc⟩ := hc
  refine ⟨hen, ?_⟩
  intro Z0 F w0 w μ vs us fr hFb hH hvs hus hbel
  refine (hc Z0 F w0 w μ vs us fr hFb hH hvs hus hbel).mono ?_
  rintro e w' ⟨v, μ1, F1, rfl, hF1, hH1, hres, hfr1, hb1⟩
  have hm1 := hH1.len
  have hjs : ∀ i, i < hp.length → js[i]? = some i := by
    intro i hi
    have := congrArg (fun l : List Nat => l[i]?) h1
    simp only [List.getElem?_take, if_pos hi] at this
    rw [this]
    simp [hi]
  refine ⟨v, _, F1, rfl, hF1, hH1.ren js h2, Rel.ren js hres, ?_, hb1⟩
  refine RelL.mix (n := hp.length) ?_ ?_ hus (hfr1.ren (List.range hp.length))
  · intro i x hi hx
    rw [List.getElem?_map, hjs i hi]
    rw [List.getElem?_map] at hx
    simpa [hi] using hx
  · intro i x hi hx
    have h4 := (List.getElem?_eq_some_iff.1 hx).1
    have h5 := hH.len
    omega

end Go.Abs


/-! Calls of which only what holds behind them is told (draws). -/
namespace Go.Abs
open Go.RowKit Go.ChangeShapes Go.WideShapes Go.Deep

/-- A call by reference: behind it the objects and the result are some of those that Φ tells. -/
def CallX (P : Program) (f : FuncId) (args : List AV) (hp : List AObj) (Φ : AV → List AObj → Prop) : Prop :=
  Enters P f ∧ ∀ (Z0 F : Nat → Prop) (w0 w : World) (μ vs us : List Value) (fr : List AV), (∀ b, F b → w0.heap.size ≤ b ∧ b < w.heap.size) → HRel w (Zone Z0 F w0.heap.size) w0.heap.size μ hp → RelL w (Zone Z0 F w0.heap.size) μ args vs → RelL w (Zone Z0 F w0.heap.size) μ fr us → Below w0.heap.size w0 w →
    Calls P f vs.toArray w fun e w' => ∃ v μ' F' res hp', Φ res hp' ∧ e = .returned v ∧ (∀ b, F' b → w0.heap.size ≤ b ∧ b < w'.heap.size) ∧ HRel w' (Zone Z0 F' w0.heap.size) w0.heap.size μ' hp' ∧ Rel w' (Zone Z0 F' w0.heap.size) μ' res v ∧ RelL w' (Zone Z0 F' w0.heap.size) μ' fr us ∧ Below w0.heap.size w0 w'

section
variable {rd : Option Nat} {P : Program} {m : M} {Q : Exit → St → Prop}

theorem CallX.mono {f : FuncId} {args : List AV} {hp : List AObj} {Φ Ψ : AV → List AObj → Prop} (h : CallX P f args hp Φ) (hm : ∀ r h', Φ r h' → Ψ r h') : CallX P f args hp Ψ := by
  refine ⟨h.1, fun Z0 F w0 w μ vs us fr hFb hH hvs hus hbel => (h.2 Z0 F w0 w μ vs us fr hFb hH hvs hus hbel).mono ?_⟩
  rintro e w' ⟨v, μ', F', res, hp', hΦ, r⟩
  exact ⟨v, μ', F', res, hp', hm _ _ hΦ, r⟩

/-- How the body of such a function ends. -/
def retX (P : Program) (fn : Func) (n : Nat) (us : List Value) (fr : List AV) (Φ : AV → List AObj → Prop) : Exit → St → Prop := fun e st' => ∃ res hp', Φ res hp' ∧ Go.Abs.retS P fn n us fr res hp' e st'

theorem CallX.of {f : FuncId} {fn : Func} {c : Code} {args : List AV} {hp : List AObj} {Φ : AV → List AObj → Prop} (hf : P.funcs[f]? = some fn) (hb : fn.body = some c) (hnm : (fn.name == "runtime.NumGoroutine") = false)
    (h : ∀ us fr, Runs none P ⟨[.code c], ⟨frameOf fn.ntmps args, hp ++ [.frame us fr]⟩⟩ (retX P fn hp.length us fr Φ)) : CallX P f args hp Φ := by
  refine ⟨enters_of hf hnm (by rw [hb]; rfl), ?_⟩
  intro Z0 F w0 w μ vs us fr hFb hH hvs hus hbel
  have hlen := hvs.length
  refine calls_of_wpIn hf hb ?_
  have hS : Sim Z0 w0 ⟨frameOf fn.ntmps args, hp ++ [.frame us fr]⟩ { tmps := vs.toArray ++ Array.replicate (fn.ntmps - vs.toArray.size) undef, defers := [] } w := by
    refine ⟨μ ++ [.bool false], F, hFb, hH.extend1 (zone_new hbel.size hFb) (Below.refl _ _) ?_ (fun g hg => by simp [blk] at hg) rfl, ?_, .inl rfl, hbel⟩
    · exact RelL.keep (w := w) (fun _ _ _ => rfl) (fun i u hu => append_old i u hu) hus
    · simp only [Array.toList_append, Array.toList_replicate, List.size_toArray, hlen, frameOf]
      refine RelL.append (RelL.keep (w := w) (fun _ _ _ => rfl) (fun i u hu => append_old i u hu) hvs) ?_
      generalize fn.ntmps - args.length = n
      induction n with
      | zero => exact RelL.nil
      | succ n ih => exact RelL.cons (by simp [Rel]) ih
  have hrun2 := h us fr
  simp only [runs_iff] at hrun2
  simp only [RunsK] at hrun2
  refine wpIn_mono (hrun2 Z0 w0 _ w hS) ?_
  have fin : ∀ (e : Exit) (st' : St) (a' : Act) (w' : World), retX P fn hp.length us fr Φ e st' → Sim Z0 w0 st' a' w' → a'.defers = [] ∧ ∃ v, (results fn a'.tmps).run P w' = .ok v w' ∧ ∃ v' μ' F' res hp', Φ res hp' ∧ Ending.returned v = .returned v' ∧ (∀ b, F' b → w0.heap.size ≤ b ∧ b < w'.heap.size) ∧ HRel w' (Zone Z0 F' w0.heap.size) w0.heap.size μ' hp' ∧ Rel w' (Zone Z0 F' w0.heap.size) μ' res v' ∧ RelL w' (Zone Z0 F' w0.heap.size) μ' fr us ∧ Below w0.heap.size w0 w' := by
    rintro e st' a' w' ⟨res, hp', hΦ, _, hres, hfr, hh⟩ ⟨μ', F', hFb', hH', hF', hd', hbel'⟩
    obtain ⟨x, h1, h2⟩ := resIn_run hH' hF' hres
    unfold frameAt at hfr
    split at hfr
    · rename_i us2 fr2 hi
      cases hfr
      have hil : hp.length < μ'.length := by rw [hH'.len]; exact (List.getElem?_eq_some_iff.1 hi).1
      have hfrr : RelL w' (Zone Z0 F' w0.heap.size) μ' fr us := hH'.obj _ _ _ hi (List.getElem?_eq_getElem hil)
      exact ⟨hd'.none (resIn_mark hres), x, h1, x, μ', F', res, hp', hΦ, rfl, hFb', hh ▸ hH'.bury _, h2, hfrr, hbel'⟩
    · cases hfr
  rintro e a' w' ⟨st', hq, hS'⟩
  cases e with
  | normal => exact fin _ st' a' w' hq hS'
  | ret => exact fin _ st' a' w' hq hS'
  | exit id => (obtain ⟨_, _, _, hq, _⟩ := hq; exact absurd hq (by simp))
  | goto l => (obtain ⟨_, _, _, hq, _⟩ := hq; exact absurd hq (by simp))
  | panic ch => (obtain ⟨_, _, _, hq, _⟩ := hq; exact absurd hq (by simp))
  | outgrown => (obtain ⟨_, _, _, hq, _⟩ := hq; exact absurd hq (by simp))

theorem R.retX {fn : Func} {n : Nat} {us : List Value} {fr : List AV} {Φ : AV → List AObj → Prop} {res : AV} {hp' : List AObj} (h : (edAt m).isSome = true) (hr : resIn P fn m.st = some res) (hf : frameAt n m.st = some (us, fr)) (hh : m.st.hp.set n .dead = hp') (hΦ : Φ res hp') :
    Runs rd P m (Go.Abs.retX P fn n us fr Φ) :=
  R.fin h ⟨res, hp', hΦ, .inl rfl, hr, hf, hh⟩ ⟨res, hp', hΦ, .inr rfl, hr, hf, hh⟩

theorem OpsQ.callX {all : Array Oper} {o : Oper} {l : List Oper} {fr : List AV} {hp : List AObj} {R : Exit → St → Prop} {c : Operand} {args : Array Operand} {tys : Array TypeId} {f : FuncId} {caps : List AV} {Φ : AV → List AObj → Prop} (hnm : noMark hp = true) (hw : WantedA all o fr)
    (hop : o.op = .call { callee := .value c, args := args, argTypes := tys }) (hc : ev fr c = .fn f caps) (hcall : CallX P f (args.toList.map (ev fr) ++ caps) hp Φ) (h' : ∀ res hp', Φ res hp' → OpsQ rd P all l ⟨putF fr o.dst res, hp'⟩ R) : OpsQ rd P all (o :: l) ⟨fr, hp⟩ R := by
  intro Z0 w0 a w hS
  refine wpListIn_step fun K hK => ?_
  obtain ⟨μ, F, hFb, hH, hF, hd, hb⟩ := hS
  rw [wanted_rel hF hw, if_pos rfl]
  have hE : ∀ y, Rel w (Zone Z0 F w0.heap.size) μ (ev fr y) (a.eval y) := fun y => ev_rel hF y
  have hcv := hc ▸ hE c
  simp only [Rel] at hcv
  obtain ⟨cv, hcv, hrc⟩ := hcv
  have hargs' : RelL w (Zone Z0 F w0.heap.size) μ (args.toList.map (ev fr)) (args.toList.map a.eval) := by
    generalize args.toList = l
    induction l with
    | nil => exact RelL.nil
    | cons x l ih => exact RelL.cons (hE x) ih
  obtain ⟨hen, hcall⟩ := hcall
  have hC := hcall Z0 F w0 w μ _ _ fr hFb hH (hargs'.append hrc) hF hb
  have hrun : (execOp a.eval o).run P w = .ok (.enter f (args.toList.map a.eval ++ cv).toArray) w := by
    have e1 : (args.map a.eval ++ cv.toArray) = (args.toList.map a.eval ++ cv).toArray := by
      apply Array.toList_inj.1; simp
    simp only [execOp, hop, resolve, Deferred.ofValue, hcv, Sem.run_bind, Sem.run_pure, Result.andThen_ok, invoke, Array.empty_append]
    rw [e1]
    exact hen _ _
  refine wpIn_of_run (fun c' => by rw [hop]; simp) ?_
  rw [hrun]
  refine upon_enter hC ?_
  rintro en w' ⟨x, μ', F', res, hp', hΦ, rfl, hFb', hH', hr, hF', hbel⟩
  exact ⟨x, rfl, hK _ _ (h' res hp' hΦ Z0 w0 _ _ ⟨μ', F', hFb', hH', put_rel hF' _ hr, by rw [put_defers']; exact .inl (hd.none hnm), hbel⟩)⟩

def opsHd (m : M) : Bool :=
  match m.ks with
  | .ops _ (_ :: _) _ :: _ => true
  | _ => false

theorem R.callX {f : FuncId} {avs : List AV} {hp : List AObj} {Φ : AV → List AObj → Prop} (hc : CallX P f avs hp Φ) (h : csAt m = some (f, avs)) (hh : m.st.hp = hp) (ht : opsHd m = true) (h' : ∀ res hp', Φ res hp' → Runs rd P (putM m none res hp') Q) : Runs rd P m Q := by
  have hnm := csAt_mark h
  obtain ⟨fo, args, tys, caps, hop, hf, rfl⟩ := csAt_parts h
  subst hh
  obtain ⟨ks, ⟨fr, hp⟩⟩ := m
  unfold opM headOf at hop
  unfold opsHd at ht
  unfold putM at h'
  simp only [runs_iff] at h' ⊢
  try simp only at hop ht h' hf hc hnm ⊢
  split at hop
  · rename_i all o fl t heq
    split at hop
    · rename_i hw
      simp only [Option.some.injEq] at hop
      split at heq
      · cases heq
        intro hW
        exact OpsQ.callX hnm (wantH_true hw hW) hop hf hc fun res hp' hΦ => h' res hp' hΦ headW_false
      · simp at ht
      · cases heq
    · cases hop
  · cases hop
/-- Under one more frame. -/
theorem CallX.frame {P : Program} {f : FuncId} {args : List AV} {hp : List AObj} {Φ : AV → List AObj → Prop} (us2 : List Value) (fr2 : List AV) (hc : CallX P f args hp Φ) (h1 : renH (List.range hp.length) hp = hp)
    (h2 : renL (List.range hp.length) args = args) (h3 : ∀ r h', Φ r h' → hp.length ≤ h'.length) : CallX P f args (hp ++ [.frame us2 fr2]) fun r h => ∃ res hp', Φ res hp' ∧ r = res.ren (insJ hp.length hp'.length) ∧ h = insF hp.length us2 fr2 hp' := by
  obtain ⟨hen, hc⟩ := hc
  refine ⟨hen, ?_⟩
  intro Z0 F w0 w μ vs us fr hFb hH hvs hus hbel
  have hml : μ.length = hp.length + 1 := by rw [hH.len]; simp
  have hH0 := hH.ren (List.range hp.length) List.nodup_range
  have e0 : ((List.range hp.length).map fun i => ((hp ++ [AObj.frame us2 fr2]).getD i .dead).ren (List.range hp.length)) = hp := by
    refine Eq.trans (List.map_congr_left fun i hi => ?_) h1
    have hi := List.mem_range.1 hi
    simp only [List.getD_eq_getElem?_getD]
    rw [List.getElem?_append_left hi]
  rw [e0] at hH0
  have hvs0 := hvs.ren (List.range hp.length)
  rw [h2] at hvs0
  have hn2 : (hp ++ [AObj.frame us2 fr2])[hp.length]? = some (.frame us2 fr2) := by simp
  obtain ⟨u, hu⟩ : ∃ u, μ[hp.length]? = some u := ⟨_, List.getElem?_eq_getElem (by omega)⟩
  have hf2 : RelL w (Zone Z0 F w0.heap.size) μ fr2 us2 := hH.obj _ _ u hn2 hu
  have hus0 := (hus.append hf2).ren (List.range hp.length)
  refine (hc Z0 F w0 w _ vs (us ++ us2) _ hFb hH0 hvs0 hus0 hbel).mono ?_
  rintro e w' ⟨v, μ1, F1, res, hp', hΦ, rfl, hF1, hH1, hres, hfr1, hb1⟩
  have h3 := h3 _ _ hΦ
  have hm1 := hH1.len
  have hHd := hH1.addDead u (hH.one _ u hu)
  have hH2 := hHd.ren (insJ hp.length hp'.length) (insJ_nodup h3)
  obtain ⟨μ2, hμ2⟩ : ∃ μ2, μ2 = ((insJ hp.length hp'.length).map fun i => (μ1 ++ [u]).getD i (.bool false)) := ⟨_, rfl⟩
  have hA : ∀ (i : Nat) x, i < hp.length → μ1[i]? = some x → μ2[i]? = some x := by
    intro i x hi hx
    have hj : (insJ hp.length hp'.length)[i]? = some i := by
      unfold insJ
      rw [List.getElem?_append_left (by simpa using hi)]
      simp [hi]
    rw [hμ2, List.getElem?_map, hj]
    simp only [Option.map_some, List.getD_eq_getElem?_getD]
    rw [List.getElem?_append_left (by omega), hx]
    rfl
  have hB : ∀ (i : Nat) x, hp.length ≤ i → μ[i]? = some x → μ2[i]? = some x := by
    intro i x hi hx
    have hin : i = hp.length := by have := (List.getElem?_eq_some_iff.1 hx).1; omega
    subst hin
    rw [hu] at hx
    have hj : (insJ hp.length hp'.length)[hp.length]? = some hp'.length := by
      unfold insJ
      rw [List.getElem?_append_right (by simp)]
      simp
    rw [hμ2, List.getElem?_map, hj]
    simp only [Option.map_some, List.getD_eq_getElem?_getD]
    rw [List.getElem?_append_right (by omega), hm1]
    simpa using hx
  rw [← hμ2] at hH2
  have hall := RelL.mix hA hB (hus.append hf2) hfr1
  have hul := hus.length
  have hfr : RelL w' (Zone Z0 F1 w0.heap.size) μ2 fr us := by
    have := hall.take fr.length
    rwa [List.take_left, ← hul, List.take_left] at this
  have hfr2 : RelL w' (Zone Z0 F1 w0.heap.size) μ2 fr2 us2 := by
    have := hall.drop fr.length
    rwa [List.drop_left, ← hul, List.drop_left] at this
  refine ⟨v, μ2, F1, _, _, ⟨res, hp', hΦ, rfl, rfl⟩, rfl, hF1, ?_, ?_, hfr, hb1⟩
  · refine hH2.frameAt ?_ hfr2
    have hj : (insJ hp.length hp'.length)[hp.length]? = some hp'.length := by
      unfold insJ
      rw [List.getElem?_append_right (by simp)]
      simp
    rw [List.getElem?_map, hj]
    simp [AObj.ren]
  · rw [hμ2]
    exact Rel.ren _ (Rel.keep (w := w') (fun _ _ _ => rfl) (fun i u hu => append_old i u hu) hres)
/-- Objects left out that the call has made. -/
theorem CallX.drop {P : Program} {f : FuncId} {args : List AV} {hp : List AObj} {Φ : AV → List AObj → Prop} (js : List Nat) (hc : CallX P f args hp Φ) (h1 : js.take hp.length = List.range hp.length) (h2 : js.Nodup) :
    CallX P f args hp fun r h => ∃ res hp', Φ res hp' ∧ r = res.ren js ∧ h = renH js hp' := by
  obtain ⟨hen, hc⟩ := hc
  refine ⟨hen, ?_⟩
  intro Z0 F w0 w μ vs us fr hFb hH hvs hus hbel
  refine (hc Z0 F w0 w μ vs us fr hFb hH hvs hus hbel).mono ?_
  rintro e w' ⟨v, μ1, F1, res, hp', hΦ, rfl, hF1, hH1, hres, hfr1, hb1⟩
  have hm1 := hH1.len
  have hjs : ∀ i, i < hp.length → js[i]? = some i := by
    intro i hi
    have := congrArg (fun l : List Nat => l[i]?) h1
    simp only [List.getElem?_take, if_pos hi] at this
    rw [this]
    simp [hi]
  refine ⟨v, _, F1, _, _, ⟨res, hp', hΦ, rfl, rfl⟩, rfl, hF1, hH1.ren js h2, Rel.ren js hres, ?_, hb1⟩
  refine RelL.mix (n := hp.length) ?_ ?_ hus (hfr1.ren (List.range hp.length))
  · intro i x hi hx
    rw [List.getElem?_map, hjs i hi]
    rw [List.getElem?_map] at hx
    simpa [hi] using hx
  · intro i x hi hx
    have h4 := (List.getElem?_eq_some_iff.1 hx).1
    have h5 := hH.len
    omega
/-- Objects left out that the call has made; which, depends on the way. -/
theorem CallX.dropE {P : Program} {f : FuncId} {args : List AV} {hp : List AObj} {Φ : AV → List AObj → Prop} (hc : CallX P f args hp fun r h => ∃ js : List Nat, js.take hp.length = List.range hp.length ∧ js.Nodup ∧ Φ (r.ren js) (renH js h)) :
    CallX P f args hp Φ := by
  obtain ⟨hen, hc⟩ := hc
  refine ⟨hen, ?_⟩
  intro Z0 F w0 w μ vs us fr hFb hH hvs hus hbel
  refine (hc Z0 F w0 w μ vs us fr hFb hH hvs hus hbel).mono ?_
  rintro e w' ⟨v, μ1, F1, res, hp', ⟨js, h1, h2, hΦ⟩, rfl, hF1, hH1, hres, hfr1, hb1⟩
  have hm1 := hH1.len
  have hjs : ∀ i, i < hp.length → js[i]? = some i := by
    intro i hi
    have := congrArg (fun l : List Nat => l[i]?) h1
    simp only [List.getElem?_take, if_pos hi] at this
    rw [this]
    simp [hi]
  refine ⟨v, _, F1, _, _, hΦ, rfl, hF1, hH1.ren js h2, Rel.ren js hres, ?_, hb1⟩
  refine RelL.mix (n := hp.length) ?_ ?_ hus (hfr1.ren (List.range hp.length))
  · intro i x hi hx
    rw [List.getElem?_map, hjs i hi]
    rw [List.getElem?_map] at hx
    simpa [hi] using hx
  · intro i x hi hx
    have h4 := (List.getElem?_eq_some_iff.1 hx).1
    have h5 := hH.len
    omega
/-- Objects left out (dead ones), the others under new numbers. -/
def opsHd0 (m : M) : Bool :=
  match m.ks with
  | .ops _ (_ :: _) false :: _ => true
  | _ => false
/-- A dead object as an empty frame, so that CallX.frame carries a contract over it. -/
theorem R.deadF (i : Nat) (h : opsHd0 m = true) (hd : m.st.hp[i]? = some .dead) (h' : Runs rd P ⟨m.ks, ⟨m.st.fr, m.st.hp.set i (.frame [] [])⟩⟩ Q) : Runs rd P m Q := by
  obtain ⟨ks, ⟨fr, hp⟩⟩ := m
  unfold opsHd0 at h
  simp only [runs_iff] at h h' hd ⊢
  split at h
  · simp only [RunsK] at h' ⊢
    intro _ Z0 w0 a w hS
    obtain ⟨μ, F, hFb, hH, hF, hdf, hb⟩ := hS
    refine h' headW_false Z0 w0 a w ⟨μ, F, hFb, hH.frameAt hd RelL.nil, hF, hdf.keep (fun j x hj => ⟨?_, fun u hu => hu⟩), hb⟩
    have hne : i ≠ j := fun e => by subst e; rw [hd] at hj; cases hj
    simp only
    rw [List.getElem?_set_ne hne]; exact hj
  · cases h
end
end Go.Abs
