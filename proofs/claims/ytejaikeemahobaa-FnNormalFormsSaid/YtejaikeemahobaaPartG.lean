/- Texts of the proof: P05, P03, Q09, T01, T02, S02. -/
import Derived.Test.YtejaikeemahobaaPartF

/-! Bits of meets, differences and boxes; truth sets stay within the worlds. -/
namespace Go.Proofs.Ytejaikeemahobaa
open Go.RowKit Go.Abs

theorem tb_nat (a i : Nat) : tb (a : Int) i = a.testBit i := rfl
theorem inM_band {n : Nat} {a b : Int} (hn : n ≤ 61) (ha : InM n a) (hb : InM n b) : InM n (band a b) := by
  obtain ⟨a, rfl, ha'⟩ := inM_nat ha
  obtain ⟨b, rfl, hb'⟩ := inM_nat hb
  rw [band_nat (inM_62 hn ha') (inM_62 hn hb')]
  exact ⟨Int.natCast_nonneg _, by rw [Int.toNat_natCast]; exact Nat.and_lt_two_pow _ hb'⟩
theorem tb_band {n : Nat} {a b : Int} (hn : n ≤ 61) (ha : InM n a) (hb : InM n b) (i : Nat) : tb (band a b) i = (tb a i && tb b i) := by
  obtain ⟨a, rfl, ha'⟩ := inM_nat ha
  obtain ⟨b, rfl, hb'⟩ := inM_nat hb
  rw [band_nat (inM_62 hn ha') (inM_62 hn hb'), tb_nat, tb_nat, tb_nat, Nat.testBit_and]
theorem bnot_nat {a b : Nat} (ha : a < 2 ^ 62) (hb : b < 2 ^ 62) : ∃ c : Nat, bnot (a : Int) (b : Int) = (c : Int) ∧ c ≤ a ∧ ∀ i, c.testBit i = (a.testBit i && !b.testBit i) := by
  have hx : (BitVec.ofNat 64 a &&& ~~~ BitVec.ofNat 64 b).toNat ≤ a := by
    rw [BitVec.toNat_and, toNat_lt ha]
    exact Nat.and_le_left
  refine ⟨(BitVec.ofNat 64 a &&& ~~~ BitVec.ofNat 64 b).toNat, ?_, hx, fun i => ?_⟩
  · rw [bnot_bv, bv_nat, bv_nat, toInt_lt (Nat.lt_of_le_of_lt hx ha)]
  · rw [BitVec.testBit_toNat, BitVec.getLsbD_and, BitVec.getLsbD_not, BitVec.getLsbD_ofNat, BitVec.getLsbD_ofNat]
    by_cases hi : i < 64
    · simp [hi]
    · have h1 : a.testBit i = false := Nat.testBit_lt_two_pow (Nat.lt_of_lt_of_le ha (Nat.pow_le_pow_right (by decide) (by omega)))
      simp [hi, h1]
theorem inM_bnot {n : Nat} {a b : Int} (hn : n ≤ 61) (ha : InM n a) (hb : InM n b) : InM n (bnot a b) := by
  obtain ⟨a, rfl, ha'⟩ := inM_nat ha
  obtain ⟨b, rfl, hb'⟩ := inM_nat hb
  obtain ⟨c, h1, h2, _⟩ := bnot_nat (inM_62 hn ha') (inM_62 hn hb')
  rw [h1]
  exact ⟨Int.natCast_nonneg _, by rw [Int.toNat_natCast]; omega⟩
theorem tb_bnot {n : Nat} {a b : Int} (hn : n ≤ 61) (ha : InM n a) (hb : InM n b) (i : Nat) : tb (bnot a b) i = (tb a i && !tb b i) := by
  obtain ⟨a, rfl, ha'⟩ := inM_nat ha
  obtain ⟨b, rfl, hb'⟩ := inM_nat hb
  obtain ⟨c, h1, _, h3⟩ := bnot_nat (inM_62 hn ha') (inM_62 hn hb')
  rw [h1, tb_nat, tb_nat, tb_nat, h3]
theorem full_nat {n : Nat} (hn : n ≤ 61) : (shl64 1 (n : Int)) - 1 = ((2 ^ n - 1 : Nat) : Int) := by
  rw [shl_nat (by omega)]
  have := Nat.two_pow_pos n
  omega
theorem inM_full {n : Nat} (hn : n ≤ 61) : InM n ((shl64 1 (n : Int)) - 1) := by
  rw [full_nat hn]
  have := Nat.two_pow_pos n
  exact ⟨Int.natCast_nonneg _, by rw [Int.toNat_natCast]; omega⟩
theorem tb_full {n : Nat} (hn : n ≤ 61) (i : Nat) : tb ((shl64 1 (n : Int)) - 1) i = decide (i < n) := by
  rw [full_nat hn, tb_nat, Nat.testBit_two_pow_sub_one]
theorem boxB_ok {n : Nat} {xs : List Int} {m : Int} (hn : n ≤ 61) (h : RelOK n xs) (hm : InM n m) : ∀ i, i ≤ n → InM n (boxB xs m i) ∧ ∀ k, tb (boxB xs m i) k = true ↔ k < i ∧ ∀ j, tb (xs.getD k 0) j = true → tb m j = true
  | 0, _ => ⟨inM_zero n, fun k => by simp [boxB, tb_zero]⟩
  | i + 1, hi => by
    obtain ⟨h1, h2⟩ := boxB_ok hn h hm i (by omega)
    have hb := bnot_sub hn (h.2 i (by omega)) hm
    have hI := inM_one (n := n) hn (show i < n by omega)
    simp only [boxB]
    split
    · rename_i hc
      refine ⟨inM_bor hn h1 hI, fun k => ?_⟩
      rw [tb_bor hn h1 hI, Bool.or_eq_true, h2 k, tb_one (by omega), decide_eq_true_iff]
      constructor
      · rintro (⟨a, b⟩ | rfl)
        · exact ⟨by omega, b⟩
        · exact ⟨by omega, hb.1 hc⟩
      · rintro ⟨a, b⟩
        by_cases hki : i = k
        · exact .inr hki
        · exact .inl ⟨by omega, b⟩
    · rename_i hc
      refine ⟨h1, fun k => ?_⟩
      rw [h2 k]
      constructor
      · rintro ⟨a, b⟩; exact ⟨by omega, b⟩
      · rintro ⟨a, b⟩
        by_cases hki : k = i
        · subst hki; exact absurd (hb.2 b) hc
        · exact ⟨by omega, b⟩

end Go.Proofs.Ytejaikeemahobaa


/-! Values of formulas that keep within a set; words that agree on a set. -/
namespace Go.Proofs.Ytejaikeemahobaa
open Go.RowKit Go.Abs

section
variable {G : Int → Prop} {b : Int → Int → Int → Int} {u u' : Int → Int → Int} {vs : List Int}
/-- On values within G two words agree, and stay within G. -/
theorem stkg_in (g0 : G 0) (hb : ∀ k p q, G p → G q → G (b k p q)) (hu : ∀ k p, (k = 5 ∨ k = 6) → G p → G (u k p) ∧ u k p = u' k p) :
    ∀ {l : List (Int × Int)} {o : Nat}, (∀ x ∈ l, 0 ≤ x.1 ∧ x.1 ≤ 6 ∧ (x.1 = 0 → G (vs.getD x.2.toNat 0))) → pe o l = some l.length → (∀ v ∈ stkG b u vs l, G v) ∧ stkG b u vs l = stkG b u' vs l
  | [], _, _, _ => ⟨fun v hv => by simp [stkG] at hv, rfl⟩
  | x :: l, 0, _, h => by rw [pe_zero] at h; cases h
  | x :: l, o + 1, hx, h => by
    obtain ⟨k, hk, h⟩ := pe_cons h
    have h' : pe (o + partsN x.1) l = some l.length := by rw [h]; congr 1; simpa using hk.symm
    obtain ⟨i1, i2⟩ := stkg_in g0 hb hu (fun y hy => hx y (List.mem_cons_of_mem _ hy)) h'
    obtain ⟨ws, w1, w2⟩ := stkg_parts b u vs (fun y hy => ⟨(hx y (List.mem_cons_of_mem _ hy)).1, (hx y (List.mem_cons_of_mem _ hy)).2.1⟩) h'
    have hw : stkG b u vs l = ws := by unfold stkG; rw [w2, List.append_nil]
    have hx0 := hx x (List.mem_cons_self ..)
    have e1 : ∀ f : Int → Int → Int, stkG b f vs (x :: l) = stepG b f vs x (stkG b f vs l) := fun _ => rfl
    rw [e1, e1, ← i2, hw]
    rw [hw] at i1
    have hc : x.1 = 0 ∨ x.1 = 1 ∨ (x.1 = 2 ∨ x.1 = 3 ∨ x.1 = 4) ∨ (x.1 = 5 ∨ x.1 = 6) := by omega
    rcases hc with hc | hc | hc | hc
    · rw [stepG_var _ _ _ hc, stepG_var _ _ _ hc]
      exact ⟨fun v hv => by rcases List.mem_cons.1 hv with rfl | hv; exact hx0.2.2 hc; exact i1 v hv, rfl⟩
    · rw [stepG_bot _ _ _ hc, stepG_bot _ _ _ hc]
      exact ⟨fun v hv => by rcases List.mem_cons.1 hv with rfl | hv; exact g0; exact i1 v hv, rfl⟩
    · rw [(partsN_two _).2 hc] at w1
      match ws, w1, i1 with
      | p :: q :: ws, _, i1 =>
        rw [stepG_two _ _ _ hc, stepG_two _ _ _ hc]
        exact ⟨fun v hv => by rcases List.mem_cons.1 hv with rfl | hv; exact hb _ _ _ (i1 p (by simp)) (i1 q (by simp)); exact i1 v (by simp [hv]), rfl⟩
    · rw [partsN_1 hc] at w1
      match ws, w1, i1 with
      | p :: ws, _, i1 =>
        rw [stepG_one _ _ _ hc, stepG_one _ _ _ hc]
        have hp := hu x.1 p hc (i1 p (by simp))
        exact ⟨fun v hv => by rcases List.mem_cons.1 hv with rfl | hv; exact hp.1; exact i1 v (by simp [hv]), by rw [hp.2]⟩
theorem gv_in {nv : Nat} {a : List (Int × Int)} (h : OKM nv a) (g0 : G 0) (hv : ∀ j : Nat, j < nv → G (vs.getD j 0)) (hb : ∀ k p q, G p → G q → G (b k p q)) (hu : ∀ k p, (k = 5 ∨ k = 6) → G p → G (u k p) ∧ u k p = u' k p) : G (gv b u vs a) ∧ gv b u vs a = gv b u' vs a := by
  obtain ⟨h1, h2⟩ := stkg_in (vs := vs) g0 hb hu (fun x hx => ⟨(h.2 x hx).1, (h.2 x hx).2.1, fun h0 => hv _ (by have := (h.2 x hx).2.2 h0; omega)⟩) h.1
  refine ⟨?_, by unfold gv; rw [h2]⟩
  have h3 : stkG b u vs a = [gv b u vs a] := by
    have := okm_stk b u vs h []
    simpa [stkG] using this
  exact h1 _ (by rw [h3]; simp)
end

end Go.Proofs.Ytejaikeemahobaa


/-! Searches on frames: codes, valuations of the reference, first refutations, refuting worlds. -/
namespace Go.Proofs.Ytejaikeemahobaa
open Go.RowKit Go.Abs

def scode (n : Int) (xs : List Int) (l : List (List (Int × Int))) : Int := if okFr n xs = true ∧ allF l = true then (if n * ((mem (vmT l l.length)).length : Int) > 16 then 3 else 0) else 1
def frC (n : Int) (xs : List Int) (a : List (Int × Int)) : Int := if scode n xs [a] = 0 then (if (fstV n xs (mem (vmT [a] [a].length)) a).isSome = true then 0 else 4) else scode n xs [a]
theorem nn_eq {n : Int} (h0 : 0 ≤ n) : ((n.toNat : Nat) : Int) = n := by omega
theorem mT_in {n : Int} (h0 : 0 ≤ n) (h8 : n ≤ 8) {k p q : Int} (hp : InM n.toNat p) (hq : InM n.toNat q) : InM n.toNat (mT n k p q) := by
  have hn : n.toNat ≤ 61 := by omega
  have hf := inM_full (n := n.toNat) hn
  rw [nn_eq h0] at hf
  unfold mT
  split
  · exact inM_band hn hp hq
  · split
    · exact inM_bor hn hp hq
    · exact inM_bor hn (inM_bnot hn hf hp) hq
theorem bxB_in {n : Int} {xs : List Int} (hR : okFr n xs = true) {m : Int} (hm : InM n.toNat m) : InM n.toNat (bxB xs m) := by
  obtain ⟨h0, h8, hl, hr⟩ := okFr_rel hR
  exact (boxB_ok (by omega) hr hm xs.length (by omega)).1
theorem mU_in {n : Int} {xs : List Int} (hR : okFr n xs = true) {k p : Int} (hp : InM n.toNat p) : InM n.toNat (mU n (bxB xs) k p) := by
  obtain ⟨h0, h8, hl, hr⟩ := okFr_rel hR
  have hn : n.toNat ≤ 61 := by omega
  have hf := inM_full (n := n.toNat) hn
  rw [nn_eq h0] at hf
  unfold mU
  split
  · exact bxB_in hR hp
  · exact inM_bnot hn hf (bxB_in hR (inM_bnot hn hf hp))
theorem tset_in {n : Int} {xs X : List Int} {a : List (Int × Int)} (hR : okFr n xs = true) (ha : OKM 6 a) (hX : ∀ j : Nat, j < 6 → InM n.toNat (X.getD j 0)) : InM n.toNat (tset n xs X a) := by
  obtain ⟨h0, h8, _, _⟩ := okFr_rel hR
  exact (gv_in (G := InM n.toNat) (u' := mU n (bxB xs)) ha (inM_zero _) hX (fun k p q hp hq => mT_in h0 h8 hp hq) (fun k p _ hp => ⟨mU_in hR hp, rfl⟩)).1
end Go.Proofs.Ytejaikeemahobaa


/-! Truth by worlds; formulas by their parts. -/
namespace Go.Proofs.Ytejaikeemahobaa
open Go.RowKit Go.Abs

/-- A formula is a variable, False, two parts under a node, or one. -/
theorem okm_cases {nv : Nat} {a : List (Int × Int)} (h : OKM nv a) : (∃ v, a = [(0, v)] ∧ 0 ≤ v ∧ v < nv) ∨ (∃ s, a = [(1, s)]) ∨ (∃ k s L R, (k = 2 ∨ k = 3 ∨ k = 4) ∧ a = (k, s) :: (L ++ R) ∧ OKM nv L ∧ OKM nv R ∧ lef a = L ∧ rig a = R) ∨ (∃ k s L, (k = 5 ∨ k = 6) ∧ a = (k, s) :: L ∧ OKM nv L) := by
  obtain ⟨⟨k, s⟩, r, rfl, hr⟩ := okm_cons h
  have hk := h.2 (k, s) (List.mem_cons_self ..)
  simp only at hk hr
  have hp : partsN k = 0 ∨ partsN k = 1 ∨ partsN k = 2 := by have := partsN_le k; omega
  rcases hp with hp | hp | hp
  · rw [hp, pe_zero] at hr
    have h0 : r = [] := List.eq_nil_of_length_eq_zero (by simpa using hr.symm)
    subst h0
    have hk01 : k = 0 ∨ k = 1 := by
      have h2 : ¬ (k = 2 ∨ k = 3 ∨ k = 4) := fun hq => by have := (partsN_two k).2 hq; omega
      have h5 : ¬ (k = 5 ∨ k = 6) := fun hq => by have := partsN_1 hq; omega
      omega
    rcases hk01 with rfl | rfl
    · exact .inl ⟨s, rfl, hk.2.2 rfl⟩
    · exact .inr (.inl ⟨s, rfl⟩)
  · obtain ⟨x, r', e, h1, h2⟩ := okm_one h (by simpa using hp)
    cases e
    refine .inr (.inr (.inr ⟨k, s, r, ?_, rfl, h1⟩))
    have h2 : ¬ (k = 2 ∨ k = 3 ∨ k = 4) := fun hq => by have := (partsN_two k).2 hq; omega
    have h0 : ¬ k = 0 := fun e => by subst e; exact absurd hp (by decide)
    have h1 : ¬ k = 1 := fun e => by subst e; exact absurd hp (by decide)
    omega
  · obtain ⟨x, L, R, e, h1, h2, _, h4, h5⟩ := okm_two h (by simpa using hp)
    cases e
    exact .inr (.inr (.inl ⟨k, s, L, R, (partsN_two k).1 hp, rfl, h1, h2, h4, h5⟩))

/-- What holds of a formula if it holds of its parts. -/
theorem okm_ind {nv : Nat} {C : List (Int × Int) → Prop} (hv : ∀ v : Int, 0 ≤ v → v < nv → C [(0, v)]) (hb : ∀ s : Int, C [(1, s)])
    (h2 : ∀ (k s : Int) (L R : List (Int × Int)), (k = 2 ∨ k = 3 ∨ k = 4) → OKM nv ((k, s) :: (L ++ R)) → OKM nv L → OKM nv R → C L → C R → C ((k, s) :: (L ++ R))) (h1 : ∀ (k s : Int) (L : List (Int × Int)), (k = 5 ∨ k = 6) → OKM nv ((k, s) :: L) → OKM nv L → C L → C ((k, s) :: L)) :
    ∀ {a : List (Int × Int)}, OKM nv a → C a := by
  intro a0 ha0
  have main : ∀ (m : Nat) (a : List (Int × Int)), a.length = m → OKM nv a → C a := by
    intro m
    induction m using Nat.strongRecOn with
    | _ m ih =>
      intro a hm ha
      rcases okm_cases ha with ⟨v, rfl, h0, h3⟩ | ⟨s, rfl⟩ | ⟨k, s, L, R, hk, rfl, hL, hR, _, _⟩ | ⟨k, s, L, hk, rfl, hL⟩
      · exact hv v h0 h3
      · exact hb s
      · simp only [List.length_cons, List.length_append] at hm
        exact h2 k s L R hk ha hL hR (ih _ (by omega) L rfl hL) (ih _ (by omega) R rfl hR)
      · simp only [List.length_cons] at hm
        exact h1 k s L hk ha hL (ih _ (by omega) L rfl hL)
  exact main _ _ rfl ha0

section
variable (b : Int → Int → Int → Int) (u : Int → Int → Int) (vs : List Int)
theorem gv_bot1 (s : Int) : gv b u vs [(1, s)] = 0 := rfl
theorem gv_two1 {nv : Nat} {k s : Int} {L R : List (Int × Int)} (hk : k = 2 ∨ k = 3 ∨ k = 4) (hL : OKM nv L) (hR : OKM nv R) : gv b u vs ((k, s) :: (L ++ R)) = b k (gv b u vs L) (gv b u vs R) := by
  conv => lhs; unfold gv stkG
  rw [List.foldr_cons, List.foldr_append, okm_stk b u vs hR, okm_stk b u vs hL, stepG_two _ _ _ hk]
  rfl
theorem gv_one1 {nv : Nat} {k s : Int} {L : List (Int × Int)} (hk : k = 5 ∨ k = 6) (hL : OKM nv L) : gv b u vs ((k, s) :: L) = u k (gv b u vs L) := by
  conv => lhs; unfold gv stkG
  rw [List.foldr_cons, okm_stk b u vs hL, stepG_one _ _ _ hk]
  rfl
end

/-- Formulas put together. -/
theorem pe_app {o p n : Nat} : ∀ {l r : List (Int × Int)}, pe o l = some l.length → pe p r = some n → pe (o + p) (l ++ r) = some (l.length + n)
  | l, r, h1, h2 => by
    induction l generalizing o with
    | nil =>
      cases o with
      | zero => simpa using h2
      | succ o => cases h1
    | cons x l ih =>
      cases o with
      | zero => rw [pe_zero] at h1; simp at h1
      | succ o =>
        obtain ⟨k, hk, h1⟩ := pe_cons h1
        have hk : k = l.length := by simpa using hk.symm
        subst hk
        have := ih h1
        rw [show o + 1 + p = (o + p) + 1 by omega, List.cons_append, pe_succ, show o + p + partsN x.1 = o + partsN x.1 + p by omega, this]
        simp; omega
theorem okm_var {nv : Nat} {v : Int} (h0 : 0 ≤ v) (h1 : v < nv) : OKM nv [(0, v)] := ⟨rfl, fun x hx => by simp at hx; subst hx; exact ⟨Int.le_refl 0, by simp, fun _ => ⟨h0, h1⟩⟩⟩
theorem okm_bot {nv : Nat} (s : Int) : OKM nv [(1, s)] := ⟨rfl, fun x hx => by simp at hx; subst hx; exact ⟨by simp, by simp, fun h => by simp at h⟩⟩
theorem okm_mk2 {nv : Nat} {k s : Int} {L R : List (Int × Int)} (hk : k = 2 ∨ k = 3 ∨ k = 4) (hL : OKM nv L) (hR : OKM nv R) : OKM nv ((k, s) :: (L ++ R)) := by
  refine ⟨?_, fun x hx => ?_⟩
  · rw [show (1 : Nat) = 0 + 1 from rfl, pe_succ, show partsN (k, s).1 = 2 from (partsN_two k).2 hk]
    rw [show 0 + 2 = 1 + 1 from rfl, pe_app hL.1 hR.1]
    simp
  · rcases List.mem_cons.1 hx with rfl | hx
    · exact ⟨by simp only; omega, by simp only; omega, fun h => by simp only at h; omega⟩
    · rcases List.mem_append.1 hx with hx | hx
      · exact hL.2 x hx
      · exact hR.2 x hx
theorem okm_mk1 {nv : Nat} {k s : Int} {L : List (Int × Int)} (hk : k = 5 ∨ k = 6) (hL : OKM nv L) : OKM nv ((k, s) :: L) := by
  refine ⟨?_, fun x hx => ?_⟩
  · rw [show (1 : Nat) = 0 + 1 from rfl, pe_succ, show partsN (k, s).1 = 1 from partsN_1 hk, show 0 + 1 = 1 from rfl, hL.1]
    simp
  · rcases List.mem_cons.1 hx with rfl | hx
    · exact ⟨by simp only; omega, by simp only; omega, fun h => by simp only at h; omega⟩
    · exact hL.2 x hx
theorem okN_all {a : List (Int × Int)} (h : isF a = true) : a.all okN = true := by
  simp only [isF, treeB, Bool.and_eq_true] at h
  exact h.2.1.2
/-- A formula of at most 40 nodes whose nodes are what they should be. -/
theorem isF_mk {a : List (Int × Int)} (h : OKM 6 a) (hl : a.length ≤ 40) (hn : a.all okN = true) : isF a = true := by
  have hp := okm_pos h
  simp only [isF, treeB, Bool.and_eq_true, decide_eq_true_eq]
  refine ⟨hl, ⟨by omega, hn⟩, ?_⟩
  simp [peX, h.1]

/-! Bits of truth sets. -/
def tr (n : Int) (xs X : List Int) (a : List (Int × Int)) (w : Nat) : Bool := tb (tset n xs X a) w
theorem bx_bits {n : Int} {xs : List Int} (hR : okFr n xs = true) {m : Int} (hm : InM n.toNat m) (w : Nat) : tb (bxB xs m) w = true ↔ w < n.toNat ∧ ∀ j, tb (xs.getD w 0) j = true → tb m j = true := by
  obtain ⟨h0, h8, hl, hr⟩ := okFr_rel hR
  have := (boxB_ok (n := n.toNat) (by omega) hr hm n.toNat (Nat.le_refl _)).2 w
  unfold bxB
  rw [show xs.length = n.toNat by omega]
  exact this
theorem tr_bot {n : Int} {xs X : List Int} (s : Int) (w : Nat) : tr n xs X [(1, s)] w = false := by
  unfold tr tset
  rw [gv_bot1, tb_zero]
section
variable {n : Int} {xs X : List Int} (hR : okFr n xs = true) (hX : ∀ j : Nat, j < 6 → InM n.toNat (X.getD j 0))
include hR hX
theorem tset_ext {Y : List Int} (hY : ∀ j : Nat, j < 6 → InM n.toNat (Y.getD j 0)) {a c : List (Int × Int)} (ha : OKM 6 a) (hc : OKM 6 c) (h : ∀ w, w < n.toNat → tr n xs X a w = tr n xs Y c w) : tset n xs X a = tset n xs Y c := by
  have h1 := tset_in hR ha hX
  have h2 := tset_in hR hc hY
  refine tb_ext h1.1 h2.1 fun w => ?_
  by_cases hw : w < n.toNat
  · exact h w hw
  · have e1 : tb (tset n xs X a) w = false := by
      cases e : tb (tset n xs X a) w with
      | false => rfl
      | true => exact absurd (tb_lt h1 e) hw
    have e2 : tb (tset n xs Y c) w = false := by
      cases e : tb (tset n xs Y c) w with
      | false => rfl
      | true => exact absurd (tb_lt h2 e) hw
    rw [e1, e2]
theorem tr_and {s : Int} {L R : List (Int × Int)} (hL : OKM 6 L) (hRR : OKM 6 R) (w : Nat) : tr n xs X ((2, s) :: (L ++ R)) w = (tr n xs X L w && tr n xs X R w) := by
  obtain ⟨h0, h8, _, _⟩ := okFr_rel hR
  unfold tr tset
  rw [gv_two1 _ _ _ (.inl rfl) hL hRR, mT, if_pos rfl]
  exact tb_band (n := n.toNat) (by omega) (tset_in hR hL hX) (tset_in hR hRR hX) w
theorem tr_or {s : Int} {L R : List (Int × Int)} (hL : OKM 6 L) (hRR : OKM 6 R) (w : Nat) : tr n xs X ((3, s) :: (L ++ R)) w = (tr n xs X L w || tr n xs X R w) := by
  obtain ⟨h0, h8, _, _⟩ := okFr_rel hR
  unfold tr tset
  rw [gv_two1 _ _ _ (.inr (.inl rfl)) hL hRR, mT, if_neg (by decide), if_pos rfl]
  exact tb_bor (n := n.toNat) (by omega) (tset_in hR hL hX) (tset_in hR hRR hX) w
theorem tr_imp {s : Int} {L R : List (Int × Int)} (hL : OKM 6 L) (hRR : OKM 6 R) {w : Nat} (hw : w < n.toNat) : tr n xs X ((4, s) :: (L ++ R)) w = (!tr n xs X L w || tr n xs X R w) := by
  obtain ⟨h0, h8, _, _⟩ := okFr_rel hR
  unfold tr tset
  rw [gv_two1 _ _ _ (.inr (.inr rfl)) hL hRR, mT, if_neg (by decide), if_neg (by decide)]
  have hf := inM_full (n := n.toNat) (by omega)
  have ht := tb_full (n := n.toNat) (by omega) w
  rw [nn_eq h0] at hf ht
  have e1 := tb_bor (n := n.toNat) (by omega) (inM_bnot (by omega) hf (tset_in hR hL hX)) (tset_in hR hRR hX) w
  rw [tb_bnot (n := n.toNat) (by omega) hf (tset_in hR hL hX), ht, decide_eq_true hw, Bool.true_and] at e1
  exact e1
theorem tr_box {s : Int} {L : List (Int × Int)} (hL : OKM 6 L) {w : Nat} (hw : w < n.toNat) : tr n xs X ((5, s) :: L) w = true ↔ ∀ j, tb (xs.getD w 0) j = true → tr n xs X L j = true := by
  unfold tr tset
  rw [gv_one1 _ _ _ (.inl rfl) hL, mU, if_pos rfl]
  have hT : InM n.toNat (gv (mT n) (mU n (bxB xs)) X L) := tset_in hR hL hX
  rw [bx_bits hR hT]
  exact ⟨fun h => h.2, fun h => ⟨hw, h⟩⟩
theorem tr_dia {s : Int} {L : List (Int × Int)} (hL : OKM 6 L) {w : Nat} (hw : w < n.toNat) : tr n xs X ((6, s) :: L) w = true ↔ ∃ j, tb (xs.getD w 0) j = true ∧ tr n xs X L j = true := by
  obtain ⟨h0, h8, hl, hr⟩ := okFr_rel hR
  unfold tr tset
  rw [gv_one1 _ _ _ (.inr rfl) hL, mU, if_neg (by decide)]
  have hf := inM_full (n := n.toNat) (by omega)
  rw [nn_eq h0] at hf
  have htf : ∀ j, tb ((shl64 1 n) - 1) j = decide (j < n.toNat) := fun j => by
    have ht := tb_full (n := n.toNat) (by omega) j
    rwa [nn_eq h0] at ht
  have hT : InM n.toNat (gv (mT n) (mU n (bxB xs)) X L) := tset_in hR hL hX
  have hnT := inM_bnot (n := n.toNat) (by omega) hf hT
  have hb : InM n.toNat (bxB xs (bnot ((shl64 1 n) - 1) (gv (mT n) (mU n (bxB xs)) X L))) := bxB_in hR hnT
  rw [tb_bnot (n := n.toNat) (by omega) hf hb, htf, decide_eq_true hw, Bool.true_and, Bool.not_eq_true']
  rw [← Bool.not_eq_true, bx_bits hR hnT]
  constructor
  · intro h
    refine Classical.byContradiction fun hn => h ⟨hw, fun j hj => ?_⟩
    rw [tb_bnot (n := n.toNat) (by omega) hf hT, htf, decide_eq_true (tb_lt (hr.2 w hw) hj), Bool.true_and, Bool.not_eq_true']
    cases e : tb (gv (mT n) (mU n (bxB xs)) X L) j with
    | false => rfl
    | true => exact absurd ⟨j, hj, e⟩ hn
  · rintro ⟨j, hj, e⟩ ⟨_, h⟩
    have := h j hj
    rw [tb_bnot (n := n.toNat) (by omega) hf hT] at this
    have e : tb (gv (mT n) (mU n (bxB xs)) X L) j = true := e
    rw [e] at this
    simp at this
end
end Go.Proofs.Ytejaikeemahobaa


/-! Negation normal forms. -/
namespace Go.Proofs.Ytejaikeemahobaa
open Go.RowKit Go.Abs

def isB (a : List (Int × Int)) : Bool := decide ((a.getD 0 (0, 0)).1 = 1)
def nf : Nat → List (Int × Int) → Bool → List (Int × Int)
  | 0, _, _ => []
  | k + 1, a, p =>
    if (a.getD 0 (0, 0)).1 = 0 then (if p = true then a else (4, 0) :: (a ++ [(1, 0)]))
    else if (a.getD 0 (0, 0)).1 = 1 then (if p = true then [(1, 0)] else [(4, 0), (1, 0), (1, 0)])
    else if (a.getD 0 (0, 0)).1 = 4 then
      (if isB (lef a) = true ∧ isB (rig a) = true then (if p = true then [(4, 0), (1, 0), (1, 0)] else [(1, 0)])
       else if isB (rig a) = true then nf k (lef a) (!p)
       else if p = true then (3, 0) :: (nf k (lef a) false ++ nf k (rig a) true) else (2, 0) :: (nf k (lef a) true ++ nf k (rig a) false))
    else if (a.getD 0 (0, 0)).1 = 5 ∨ (a.getD 0 (0, 0)).1 = 6 then ((if p = true then (a.getD 0 (0, 0)).1 else 11 - (a.getD 0 (0, 0)).1), 0) :: nf k (a.drop 1) p
    else ((if p = true then (a.getD 0 (0, 0)).1 else 5 - (a.getD 0 (0, 0)).1), 0) :: (nf k (lef a) p ++ nf k (rig a) p)
theorem nf_fuel {nv : Nat} : ∀ (k k' : Nat) (a : List (Int × Int)) (p : Bool), OKM nv a → a.length ≤ k → a.length ≤ k' → nf k a p = nf k' a p
  | 0, _, a, _, ha, hk, _ => by have := okm_pos ha; omega
  | k + 1, 0, a, _, ha, _, hk => by have := okm_pos ha; omega
  | k + 1, k' + 1, a, p, ha, hk, hk' => by
    rcases okm_cases ha with ⟨v, rfl, h0, h3⟩ | ⟨s, rfl⟩ | ⟨c, s, L, R, hc, rfl, hL, hR, el, er⟩ | ⟨c, s, L, hc, rfl, hL⟩
    · rfl
    · rfl
    · simp only [List.length_cons, List.length_append] at hk hk'
      have eL := fun p => nf_fuel k k' L p hL (by omega) (by omega)
      have eR := fun p => nf_fuel k k' R p hR (by omega) (by omega)
      unfold nf
      rw [el, er]
      simp only [eL, eR, List.getD_cons_zero]
      split
      · rfl
      · split
        · rfl
        · split
          · rfl
          · rw [if_neg (show ¬ (c = 5 ∨ c = 6) by omega), if_neg (show ¬ (c = 5 ∨ c = 6) by omega)]
    · simp only [List.length_cons] at hk hk'
      have eL := fun p => nf_fuel k k' L p hL (by omega) (by omega)
      unfold nf
      simp only [List.getD_cons_zero, List.drop_succ_cons, List.drop_zero, eL]
      have c0 : ¬ c = 0 := by omega
      have c1 : ¬ c = 1 := by omega
      have c4 : ¬ c = 4 := by omega
      simp only [if_neg c0, if_neg c1, if_neg c4, if_pos hc]
def nfA (a : List (Int × Int)) (p : Bool) : List (Int × Int) := nf a.length a p
theorem nfA_var (v : Int) (p : Bool) : nfA [(0, v)] p = if p = true then [(0, v)] else [(4, 0), (0, v), (1, 0)] := rfl
theorem nfA_bot (s : Int) (p : Bool) : nfA [(1, s)] p = if p = true then [(1, 0)] else [(4, 0), (1, 0), (1, 0)] := rfl
section
variable {nv : Nat} {s : Int} {L R : List (Int × Int)} {p : Bool}
theorem nfA_imp (hk : OKM nv ((4, s) :: (L ++ R))) (hL : OKM nv L) (hR : OKM nv R) (el : lef ((4, s) :: (L ++ R)) = L) (er : rig ((4, s) :: (L ++ R)) = R) : nfA ((4, s) :: (L ++ R)) p =
    (if isB L = true ∧ isB R = true then (if p = true then [(4, 0), (1, 0), (1, 0)] else [(1, 0)]) else if isB R = true then nfA L (!p) else if p = true then (3, 0) :: (nfA L false ++ nfA R true) else (2, 0) :: (nfA L true ++ nfA R false)) := by
  conv => lhs; unfold nfA; rw [List.length_cons]; unfold nf
  rw [el, er]
  have eL := fun p => nf_fuel (L ++ R).length L.length L p hL (by simp) (Nat.le_refl _)
  have eR := fun p => nf_fuel (L ++ R).length R.length R p hR (by simp) (Nat.le_refl _)
  simp only [List.getD_cons_zero, eL, eR, nfA]
  rw [if_neg (by decide), if_neg (by decide), if_pos trivial]
theorem nfA_two {k : Int} (hk : k = 2 ∨ k = 3) (hL : OKM nv L) (hR : OKM nv R) (el : lef ((k, s) :: (L ++ R)) = L) (er : rig ((k, s) :: (L ++ R)) = R) : nfA ((k, s) :: (L ++ R)) p = ((if p = true then k else 5 - k), 0) :: (nfA L p ++ nfA R p) := by
  conv => lhs; unfold nfA; rw [List.length_cons]; unfold nf
  rw [el, er]
  have eL := fun p => nf_fuel (L ++ R).length L.length L p hL (by simp) (Nat.le_refl _)
  have eR := fun p => nf_fuel (L ++ R).length R.length R p hR (by simp) (Nat.le_refl _)
  simp only [List.getD_cons_zero, eL, eR, nfA]
  rw [if_neg (by omega), if_neg (by omega), if_neg (by omega), if_neg (by omega)]
theorem nfA_one {k : Int} (hk : k = 5 ∨ k = 6) : nfA ((k, s) :: L) p = ((if p = true then k else 11 - k), 0) :: nfA L p := by
  conv => lhs; unfold nfA; rw [List.length_cons]; unfold nf
  simp only [List.getD_cons_zero, List.drop_succ_cons, List.drop_zero, nfA]
  rw [if_neg (by omega), if_neg (by omega), if_neg (by omega), if_pos hk]
end
theorem okm_two_e {nv : Nat} {k s : Int} {L R : List (Int × Int)} (hk : k = 2 ∨ k = 3 ∨ k = 4) (hL : OKM nv L) (hR : OKM nv R) : lef ((k, s) :: (L ++ R)) = L ∧ rig ((k, s) :: (L ++ R)) = R := by
  have e1 : pe 1 (L ++ R) = some L.length := by
    have := pe_app (o := 1) (p := 0) (n := 0) hL.1 (pe_zero R)
    simpa using this
  have hX : peX 1 ((k, s) :: (L ++ R)) 1 = 1 + L.length := by simp [peX, e1]
  unfold lef rig
  rw [hX, show (1 + (L.length : Int)).toNat = L.length + 1 by omega]
  simp
theorem isB_eq {nv : Nat} {a : List (Int × Int)} (h : OKM nv a) : isB a = true ↔ ∃ s, a = [(1, s)] := by
  unfold isB
  rw [decide_eq_true_iff]
  constructor
  · intro h1
    rcases okm_cases h with ⟨v, rfl, _⟩ | ⟨s, rfl⟩ | ⟨c, s, L, R, hc, rfl, _⟩ | ⟨c, s, L, hc, rfl, _⟩
    · simp at h1
    · exact ⟨s, rfl⟩
    · simp only [List.getD_cons_zero] at h1; omega
    · simp only [List.getD_cons_zero] at h1; omega
  · rintro ⟨s, rfl⟩; rfl
theorem okm_truth {nv : Nat} : OKM nv [(4, 0), (1, 0), (1, 0)] := okm_mk2 (L := [(1, 0)]) (R := [(1, 0)]) (by omega) (okm_bot 0) (okm_bot 0)
/-- A normal form is a formula of no more than three times the nodes. -/
theorem nfA_ok {nv : Nat} {a : List (Int × Int)} (h : OKM nv a) : ∀ p, OKM nv (nfA a p) ∧ (nfA a p).length ≤ 3 * a.length ∧ (a.all okN = true → (nfA a p).all okN = true) := by
  refine okm_ind (C := fun a => ∀ p, OKM nv (nfA a p) ∧ (nfA a p).length ≤ 3 * a.length ∧ (a.all okN = true → (nfA a p).all okN = true)) ?_ ?_ ?_ ?_ h
  · intro v h0 h1 p
    rw [nfA_var]
    cases p
    · refine ⟨okm_mk2 (L := [(0, v)]) (R := [(1, 0)]) (by omega) (okm_var h0 h1) (okm_bot 0), by simp, fun h => ?_⟩
      simp only [List.all_cons, List.all_nil, Bool.and_true] at h
      simp only [Bool.false_eq_true, if_false, List.all_cons, h, List.all_nil, Bool.and_true]
      decide
    · exact ⟨okm_var h0 h1, by simp, fun h => h⟩
  · intro s p
    rw [nfA_bot]
    cases p
    · exact ⟨okm_truth, by simp, fun _ => by decide⟩
    · exact ⟨okm_bot 0, by simp, fun _ => by decide⟩
  · intro k s L R hk hok hL hR iL iR p
    obtain ⟨el, er⟩ := okm_two_e (s := s) hk hL hR
    have nodes : ∀ (c : Int) (p q : Bool), (c = 2 ∨ c = 3 ∨ c = 4) → ((k, s) :: (L ++ R)).all okN = true → ((c, (0 : Int)) :: (nfA L p ++ nfA R q)).all okN = true := by
      intro c p q hc h
      simp only [List.all_cons, List.all_append, Bool.and_eq_true] at h ⊢
      refine ⟨?_, (iL p).2.2 h.2.1, (iR q).2.2 h.2.2⟩
      rw [okN_eq]; omega
    rcases hk with rfl | rfl | rfl
    · rw [nfA_two (.inl rfl) hL hR el er]
      have := (iL p).2.1; have := (iR p).2.1
      refine ⟨okm_mk2 (by split <;> omega) (iL p).1 (iR p).1, by simp; omega, nodes _ p p (by split <;> omega)⟩
    · rw [nfA_two (.inr rfl) hL hR el er]
      have := (iL p).2.1; have := (iR p).2.1
      refine ⟨okm_mk2 (by split <;> omega) (iL p).1 (iR p).1, by simp; omega, nodes _ p p (by split <;> omega)⟩
    · rw [nfA_imp hok hL hR el er]
      have h1 := okm_pos hL
      have h2 := okm_pos hR
      split
      · cases p
        · exact ⟨okm_bot 0, by simp; omega, fun _ => by decide⟩
        · exact ⟨okm_truth, by simp; omega, fun _ => by decide⟩
      · split
        · have := (iL (!p)).2.1
          refine ⟨(iL (!p)).1, by simp; omega, fun h => (iL (!p)).2.2 ?_⟩
          simp only [List.all_cons, List.all_append, Bool.and_eq_true] at h
          exact h.2.1
        · cases p
          · have := (iL true).2.1; have := (iR false).2.1
            exact ⟨okm_mk2 (.inl rfl) (iL true).1 (iR false).1, by simp; omega, nodes 2 true false (by omega)⟩
          · have := (iL false).2.1; have := (iR true).2.1
            exact ⟨okm_mk2 (.inr (.inl rfl)) (iL false).1 (iR true).1, by simp; omega, nodes 3 false true (by omega)⟩
  · intro k s L hk hok hL iL p
    rw [nfA_one hk]
    have := (iL p).2.1
    refine ⟨okm_mk1 (by split <;> omega) (iL p).1, by simp; omega, fun h => ?_⟩
    simp only [List.all_cons, Bool.and_eq_true] at h ⊢
    refine ⟨?_, (iL p).2.2 h.2⟩
    rw [okN_eq]
    split <;> omega

/-- A normal form is true where the formula is, that of the negation where it is not. -/
theorem nfA_tr {n : Int} {xs X : List Int} (hR : okFr n xs = true) (hX : ∀ j : Nat, j < 6 → InM n.toNat (X.getD j 0)) {a : List (Int × Int)} (h : OKM 6 a) :
    ∀ w, w < n.toNat → tr n xs X (nfA a true) w = tr n xs X a w ∧ tr n xs X (nfA a false) w = !tr n xs X a w := by
  have tt : ∀ w, w < n.toNat → tr n xs X [(4, 0), (1, 0), (1, 0)] w = true := fun w hw => by
    have := tr_imp hR hX (s := 0) (okm_bot (nv := 6) 0) (okm_bot 0) hw
    rw [show ((4 : Int), (0 : Int)) :: ([(1, 0)] ++ [(1, 0)]) = [(4, 0), (1, 0), (1, 0)] from rfl] at this
    rw [this, tr_bot]
    rfl
  have hrr := (okFr_rel hR).2.2.2
  refine okm_ind (C := fun a => ∀ w, w < n.toNat → tr n xs X (nfA a true) w = tr n xs X a w ∧ tr n xs X (nfA a false) w = !tr n xs X a w) ?_ ?_ ?_ ?_ h
  · intro v h0 h1 w hw
    refine ⟨rfl, ?_⟩
    have := tr_imp hR hX (s := 0) (okm_var (nv := 6) h0 h1) (okm_bot 0) hw
    rw [nfA_var, if_neg (by decide)]
    rw [show ((4 : Int), (0 : Int)) :: ([(0, v)] ++ [(1, 0)]) = [(4, 0), (0, v), (1, 0)] from rfl] at this
    rw [this, tr_bot, Bool.or_false]
  · intro s w hw
    rw [nfA_bot, nfA_bot, if_pos rfl, if_neg (by decide), tr_bot, tr_bot, tt w hw]
    exact ⟨rfl, rfl⟩
  · intro k s L R hk hok hL hRR iL iR w hw
    obtain ⟨el, er⟩ := okm_two_e (s := s) hk hL hRR
    obtain ⟨l1, l2⟩ := iL w hw
    obtain ⟨r1, r2⟩ := iR w hw
    have oL := fun p => (nfA_ok hL p).1
    have oR := fun p => (nfA_ok hRR p).1
    rcases hk with rfl | rfl | rfl
    · rw [nfA_two (.inl rfl) hL hRR el er, nfA_two (.inl rfl) hL hRR el er, if_pos rfl, if_neg (by decide), tr_and hR hX hL hRR]
      refine ⟨by rw [tr_and hR hX (oL _) (oR _), l1, r1], ?_⟩
      rw [show (5 : Int) - 2 = 3 from rfl, tr_or hR hX (oL _) (oR _), l2, r2, Bool.not_and]
    · rw [nfA_two (.inr rfl) hL hRR el er, nfA_two (.inr rfl) hL hRR el er, if_pos rfl, if_neg (by decide), tr_or hR hX hL hRR]
      refine ⟨by rw [tr_or hR hX (oL _) (oR _), l1, r1], ?_⟩
      rw [show (5 : Int) - 3 = 2 from rfl, tr_and hR hX (oL _) (oR _), l2, r2, Bool.not_or]
    · rw [nfA_imp hok hL hRR el er, nfA_imp hok hL hRR el er, tr_imp hR hX hL hRR hw]
      split
      · rename_i hb
        obtain ⟨q, rfl⟩ := (isB_eq hL).1 hb.1
        rw [if_pos rfl, if_neg (by decide), tt w hw, tr_bot, tr_bot]
        exact ⟨rfl, rfl⟩
      · split
        · rename_i hb
          obtain ⟨q, rfl⟩ := (isB_eq hRR).1 hb
          rw [tr_bot, Bool.or_false, Bool.not_true, Bool.not_false, l1, l2, Bool.not_not]
          exact ⟨rfl, rfl⟩
        · rw [if_pos rfl, if_neg (by decide)]
          refine ⟨by rw [tr_or hR hX (oL _) (oR _), l2, r1], ?_⟩
          rw [tr_and hR hX (oL _) (oR _), l1, r2, Bool.not_or, Bool.not_not]
  · intro k s L hk hok hL iL w hw
    have oL := fun p => (nfA_ok hL p).1
    have hin : ∀ j, tb (xs.getD w 0) j = true → j < n.toNat := fun j hj => tb_lt (hrr.2 w hw) hj
    rw [nfA_one hk, nfA_one hk, if_pos rfl, if_neg (by decide)]
    rcases hk with rfl | rfl
    · refine ⟨?_, ?_⟩
      · rw [Bool.eq_iff_iff, tr_box hR hX (oL _) hw, tr_box hR hX hL hw]
        exact ⟨fun h j hj => by rw [← (iL j (hin j hj)).1]; exact h j hj, fun h j hj => by rw [(iL j (hin j hj)).1]; exact h j hj⟩
      · rw [show (11 : Int) - 5 = 6 from rfl, Bool.eq_iff_iff, tr_dia hR hX (oL _) hw, Bool.not_eq_true', ← Bool.not_eq_true, tr_box hR hX hL hw]
        constructor
        · rintro ⟨j, hj, h1⟩ h2
          rw [(iL j (hin j hj)).2, h2 j hj] at h1
          simp at h1
        · intro h1
          refine Classical.byContradiction fun hn => h1 fun j hj => ?_
          cases e : tr n xs X L j with
          | true => rfl
          | false => exact absurd ⟨j, hj, by rw [(iL j (hin j hj)).2, e]; rfl⟩ hn
    · refine ⟨?_, ?_⟩
      · rw [Bool.eq_iff_iff, tr_dia hR hX (oL _) hw, tr_dia hR hX hL hw]
        exact ⟨fun ⟨j, hj, h⟩ => ⟨j, hj, by rw [← (iL j (hin j hj)).1]; exact h⟩, fun ⟨j, hj, h⟩ => ⟨j, hj, by rw [(iL j (hin j hj)).1]; exact h⟩⟩
      · rw [show (11 : Int) - 6 = 5 from rfl, Bool.eq_iff_iff, tr_box hR hX (oL _) hw, Bool.not_eq_true', ← Bool.not_eq_true, tr_dia hR hX hL hw]
        constructor
        · rintro h1 ⟨j, hj, h2⟩
          have := h1 j hj
          rw [(iL j (hin j hj)).2, h2] at this
          simp at this
        · intro h1 j hj
          rw [(iL j (hin j hj)).2]
          cases e : tr n xs X L j with
          | false => rfl
          | true => exact absurd ⟨j, hj, e⟩ h1

end Go.Proofs.Ytejaikeemahobaa


/-! Formulas as lists of nodes. -/
namespace Go.Proofs.Ytejaikeemahobaa
open Go.RowKit Go.Abs

/-- Lengths and joins of the first lists. -/
def lenTo {α : Type} (xss : List (List α)) : Nat → Nat
  | 0 => 0
  | i + 1 => lenTo xss i + (xss.getD i []).length
def joinTo {α : Type} (xss : List (List α)) : Nat → List α
  | 0 => []
  | i + 1 => joinTo xss i ++ xss.getD i []

theorem lenTo_mono {α : Type} (xss : List (List α)) {i j : Nat} (h : i ≤ j) : lenTo xss i ≤ lenTo xss j := by
  induction h with
  | refl => exact Nat.le_refl _
  | step _ ih => exact Nat.le_trans ih (Nat.le_add_right _ _)
theorem lenTo_step {α : Type} (xss : List (List α)) (i : Nat) (h : i < xss.length) : lenTo xss i + (xss.getD i []).length ≤ lenTo xss xss.length := lenTo_mono xss (i := i + 1) h
theorem joinTo_length {α : Type} (xss : List (List α)) (i : Nat) : (joinTo xss i).length = lenTo xss i := by
  induction i with
  | zero => rfl
  | succ i ih => simp [joinTo, lenTo, ih]

theorem growN_c (n : Nat) (h0 : 0 < n) (hn : n ≤ 1000000000) : CallA Try.prog 160 [.nil, AI (n : Int)] (ownA eN 89 2 []) := by
  refine CallA.of Try.func160 rfl (by kernel_rfl) ?_
  refine R.go 10 (R.cond ((n : Int) < 0) (by kernel_rfl) (fun c1 => ?_) (fun c1 => ?_))
  · exfalso; omega -- op ('other', 'makeInterface')
  · refine R.go 10 (R.ar ((n : Int)) (by kernel_rfl) (by omega) (by omega) (by kernel_rfl) ?_)
    refine R.go 7 (R.cond ((n : Int) > 0) (by kernel_rfl) (fun c2 => ?_) (fun c2 => ?_))
    · refine R.go 6 (R.appZ eN (0, 0) 89 16 n (n : Int) (by kernel_rfl) rfl (by omega) (by decide) (by omega) (by kernel_rfl) ?_)
      refine R.go 2 (R.cut eN (List.replicate n (0, 0)) 0 89 0 0 (by kernel_rfl) rfl eN_len (by first | omega | (simp <;> omega)) (by kernel_rfl) ?_)
      exact R.go 7 (R.retE (ownA eN 89 2 ((List.replicate n (0, 0)).take 0)) (by kernel_rfl) (by kernel_rfl) (by first | (rfl) | (exfalso; omega)))
    · refine R.go 6 (R.nil 4 89 2 (by kernel_rfl) ?_)
      exact R.retE (ownA eN 89 2 []) (by kernel_rfl) (by kernel_rfl) (by rfl)

theorem concatN_c (xss : List (List (Int × Int))) (h0 : 0 < lenTo xss xss.length) (hn : lenTo xss xss.length ≤ 1000000000) (hl : xss.length ≤ 1000000) : CallA Try.prog 106 [LLN xss] (ownA eN 89 2 (joinTo xss xss.length)) := by
  refine CallA.of Try.func106 rfl (by kernel_rfl) ?_
  refine R.go 16 (R.loop ((fun | (i, sz) => (⟨(frm 36 [(0, LLN xss), (3, AI (sz : Int)), (9, LLN xss), (10, AI xss.length), (11, AI (i : Int))]), []⟩ : St) : Nat × Nat → St)) (fun | (i, sz) => (i ≤ xss.length) ∧ (sz = lenTo xss i)) (fun | (i, sz) => xss.length - i) (0, 0) [0, 3, 9, 10, 11] none (by kernel_rfl) (by kernel_rfl) (by kernel_rfl) ⟨(by omega), (by rfl)⟩ ?_)
  rintro ⟨i, sz⟩ ⟨h4_1, rfl⟩ R1 N2
  refine R.go 5 (R.cond ((i : Int) < (xss.length : Int)) (by kernel_rfl) (fun c5 => ?_) (fun c5 => ?_))
  · refine R.go 5 (R.idx eLN xss [] i (i : Int) (by kernel_rfl) rfl eLN_len (by omega) (by kernel_rfl) ?_)
    have hs : lenTo xss i + (xss.getD i []).length ≤ lenTo xss xss.length := lenTo_step xss i (by omega)
    refine R.go 8 (R.ar (((lenTo xss i) : Int) + ((xss.getD i []).length : Int)) (by kernel_rfl) (by omega) (by omega) (by kernel_rfl) ?_)
    refine R.go 7 (R.cond ((((lenTo xss i) : Int) + ((xss.getD i []).length : Int)) < 0) (by kernel_rfl) (fun c6 => ?_) (fun c6 => ?_))
    · exfalso; omega -- op ('other', 'makeInterface')
    · refine R.go 3 (R.ar ((i : Int) + 1) (by kernel_rfl) (by omega) (by omega) (by kernel_rfl) ?_)
      exact R.go 2 (R.stop R1 (by kernel_rfl) (N2 (i + 1, lenTo xss i + ((xss.getD i []).length)) [0, 3, 9, 10, 11] none _ (by kernel_rfl) (by kernel_rfl) ⟨(by omega), (by rfl)⟩ (by show (xss.length - (i + 1)) < (xss.length - i); omega)))
  · have hs : lenTo xss i = lenTo xss xss.length := by rw [show i = xss.length by omega]
    refine R.go 4 (R.call true (growN_c (lenTo xss i) (by omega) (by omega)) (by kernel_rfl) rfl (by kernel_rfl) ?_)
    refine R.go 10 (R.loop ((fun | (i, ys) => (⟨(frm 36 [(6, .ref 0), (25, LLN xss), (26, AI xss.length), (27, AI (i : Int))]), [rowA eN 89 2 ys]⟩ : St) : Nat × (List (Int × Int)) → St)) (fun | (i, ys) => (i ≤ xss.length) ∧ (ys = joinTo xss i)) (fun | (i, ys) => xss.length - i) (0, []) [6, 25, 26, 27] none (by kernel_rfl) (by kernel_rfl) (by kernel_rfl) ⟨(by omega), (by rfl)⟩ ?_)
    rintro ⟨i, ys⟩ ⟨h10_1, rfl⟩ R7 N8
    refine R.go 5 (R.cond ((i : Int) < (xss.length : Int)) (by kernel_rfl) (fun c11 => ?_) (fun c11 => ?_))
    · refine R.go 5 (R.idx eLN xss [] i (i : Int) (by kernel_rfl) rfl eLN_len (by omega) (by kernel_rfl) ?_)
      have hs : (joinTo xss i).length + (xss.getD i []).length ≤ lenTo xss xss.length := by rw [joinTo_length]; exact lenTo_step xss i (by omega)
      refine R.go 6 (R.app eN (joinTo xss i) (xss.getD i []) 0 89 2 16 (by kernel_rfl) eN_one (by decide) (by first | omega | (simp <;> omega)) (by kernel_rfl) ?_)
      refine R.go 4 (R.ar ((i : Int) + 1) (by kernel_rfl) (by omega) (by omega) (by kernel_rfl) ?_)
      exact R.go 2 (R.stop R7 (by kernel_rfl) (N8 (i + 1, (joinTo xss i) ++ (xss.getD i [])) [6, 25, 26, 27] none _ (by kernel_rfl) (by kernel_rfl) ⟨(by omega), (by rfl)⟩ (by show (xss.length - (i + 1)) < (xss.length - i); omega)))
    · exact R.go 6 (R.retE (ownA eN 89 2 (joinTo xss i)) (by kernel_rfl) (by kernel_rfl) (by first | (rw [show i = xss.length by omega]) | (exfalso; omega)))

theorem falsum_c : CallA Try.prog 122 [] (ownA eN 89 2 [(1, 0)]) := by
  refine CallA.of Try.func122 rfl (by kernel_rfl) ?_
  exact R.go 10 (R.retE (ownA eN 89 2 [(1, 0)]) (by kernel_rfl) (by kernel_rfl) (by rfl))

theorem join_c (k : Int) (a : List (Int × Int)) (b : List (Int × Int)) (ha : a.length ≤ 1000000) (hb : b.length ≤ 1000000) : CallA Try.prog 168 [AI k, LN a, LN b] (ownA eN 89 2 ((k, 0) :: (a ++ b))) := by
  refine CallA.of Try.func168 rfl (by kernel_rfl) ?_
  refine R.go 11 (R.frz 0 (by kernel_rfl) ?_)
  refine R.lit (s := 1) (n := 3) (cs := rows eLN [[(k, 0)], a, b]) (by kernel_rfl) (by kernel_rfl) ?_
  refine R.call true (concatN_c [[(k, 0)], a, b] (by simp [lenTo] <;> omega) (by simp [lenTo] <;> omega) (by simp)) (by kernel_rfl) rfl (by kernel_rfl) ?_
  exact R.go 2 (R.retE (ownA eN 89 2 (joinTo [[(k, 0)], a, b] [[(k, 0)], a, b].length)) (by kernel_rfl) (by kernel_rfl) (by first | (simp [joinTo]) | (exfalso; omega)))

theorem negation_c (a : List (Int × Int)) (ha : a.length ≤ 1000000) : CallA Try.prog 121 [LN a] (ownA eN 89 2 ((4, 0) :: (a ++ [(1, 0)]))) := by
  refine CallA.of Try.func121 rfl (by kernel_rfl) ?_
  refine R.go 7 (R.call true (falsum_c).frz (by kernel_rfl) rfl (by kernel_rfl) ?_)
  refine R.call true (join_c 4 a [(1, 0)] ha (by first | omega | (simp <;> omega))) (by kernel_rfl) rfl (by kernel_rfl) ?_
  exact R.go 2 (R.retE (ownA eN 89 2 ((4, 0) :: (a ++ [(1, 0)]))) (by kernel_rfl) (by kernel_rfl) (by rfl))

theorem l02False_c : CallA Try.prog 128 [] (ownA eN 89 2 [(1, 0)]) := by
  refine CallA.of Try.func128 rfl (by kernel_rfl) ?_
  exact R.go 10 (R.retE (ownA eN 89 2 [(1, 0)]) (by kernel_rfl) (by kernel_rfl) (by rfl))

theorem l02Var_c (v : Int) : CallA Try.prog 161 [AI v] (ownA eN 89 2 [(0, v)]) := by
  refine CallA.of Try.func161 rfl (by kernel_rfl) ?_
  exact R.go 11 (R.retE (ownA eN 89 2 [(0, v)]) (by kernel_rfl) (by kernel_rfl) (by rfl))

theorem l02Pair_c (k : Int) (a : List (Int × Int)) (b : List (Int × Int)) (ha : a.length ≤ 1000000) (hb : b.length ≤ 1000000) : CallA Try.prog 111 [AI k, LN a, LN b] (ownA eN 89 2 ((k, 0) :: (a ++ b))) := by
  refine CallA.of Try.func111 rfl (by kernel_rfl) ?_
  refine R.go 10 (R.app eN [(k, 0)] a 0 89 2 16 (by kernel_rfl) eN_one (by decide) (by first | omega | (simp <;> omega)) (by kernel_rfl) ?_)
  refine R.go 1 (R.app eN ([(k, 0)] ++ a) b 0 89 2 16 (by kernel_rfl) eN_one (by decide) (by first | omega | (simp <;> omega)) (by kernel_rfl) ?_)
  exact R.go 2 (R.retE (ownA eN 89 2 ([(k, 0)] ++ a ++ b)) (by kernel_rfl) (by kernel_rfl) (by first | (rfl) | (exfalso; omega)))

theorem l02Not_c (a : List (Int × Int)) (ha : a.length ≤ 1000000) : CallA Try.prog 127 [LN a] (ownA eN 89 2 ((4, 0) :: (a ++ [(1, 0)]))) := by
  refine CallA.of Try.func127 rfl (by kernel_rfl) ?_
  refine R.go 7 (R.call true (l02False_c).frz (by kernel_rfl) rfl (by kernel_rfl) ?_)
  refine R.call true (l02Pair_c 4 a [(1, 0)] ha (by first | omega | (simp <;> omega))) (by kernel_rfl) rfl (by kernel_rfl) ?_
  exact R.go 2 (R.retE (ownA eN 89 2 ((4, 0) :: (a ++ [(1, 0)]))) (by kernel_rfl) (by kernel_rfl) (by rfl))

end Go.Proofs.Ytejaikeemahobaa
