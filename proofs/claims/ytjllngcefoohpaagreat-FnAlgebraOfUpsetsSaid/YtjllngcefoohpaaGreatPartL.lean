/- Texts of the proof: HV1, HE1, HY4, HE3, HV2. -/
import Derived.Test.YtjllngcefoohpaaGreatPartK

/-! Values of formulas in the algebra of a poset's upsets are the sets that are forced. -/
namespace Go.Proofs.YtjllngcefoohpaaGreat
open Go.RowKit Go.Abs

/-- A formula is a variable, False, two parts under a node, or one. -/
theorem okm_cases {nv : Nat} {a : List (Int × Int)} (h : OKM nv a) : (∃ v, a = [(0, v)] ∧ 0 ≤ v ∧ v < nv) ∨ (∃ s, a = [(1, s)]) ∨ (∃ k s L R, (k = 2 ∨ k = 3 ∨ k = 4) ∧ a = (k, s) :: (L ++ R) ∧ OKM nv L ∧ OKM nv R ∧ lef a = L ∧ rig a = R) ∨ (∃ k s L, (k = 5 ∨ k = 6) ∧ a = (k, s) :: L ∧ OKM nv L) := by
  obtain ⟨⟨k, s⟩, r, rfl, hr⟩ := okm_cons h
  have hk := h.2 (k, s) (List.mem_cons_self ..)
  simp only at hk hr
  have hp : partsN k = 0 ∨ partsN k = 1 ∨ partsN k = 2 := by have := partsN_le k; omega
  rcases hp with hp | hp | hp
  · rw [hp, pe_zero] at hr
    have h0 : r = [] := List.eq_nil_of_length_eq_zero (by simpa using hr.symm)
    subst h0
    have hk01 : k = 0 ∨ k = 1 := by
      have h2 : ¬ (k = 2 ∨ k = 3 ∨ k = 4) := fun hq => by have := (partsN_two k).2 hq; omega
      have h5 : ¬ (k = 5 ∨ k = 6) := fun hq => by have := partsN_1 hq; omega
      omega
    rcases hk01 with rfl | rfl
    · exact .inl ⟨s, rfl, hk.2.2 rfl⟩
    · exact .inr (.inl ⟨s, rfl⟩)
  · obtain ⟨x, r', e, h1, h2⟩ := okm_one h (by simpa using hp)
    cases e
    refine .inr (.inr (.inr ⟨k, s, r, ?_, rfl, h1⟩))
    have h2 : ¬ (k = 2 ∨ k = 3 ∨ k = 4) := fun hq => by have := (partsN_two k).2 hq; omega
    have h0 : ¬ k = 0 := fun e => by subst e; exact absurd hp (by decide)
    have h1 : ¬ k = 1 := fun e => by subst e; exact absurd hp (by decide)
    omega
  · obtain ⟨x, L, R, e, h1, h2, _, h4, h5⟩ := okm_two h (by simpa using hp)
    cases e
    exact .inr (.inr (.inl ⟨k, s, L, R, (partsN_two k).1 hp, rfl, h1, h2, h4, h5⟩))

/-- What holds of a formula if it holds of its parts. -/
theorem okm_ind {nv : Nat} {C : List (Int × Int) → Prop} (hv : ∀ v : Int, 0 ≤ v → v < nv → C [(0, v)]) (hb : ∀ s : Int, C [(1, s)])
    (h2 : ∀ (k s : Int) (L R : List (Int × Int)), (k = 2 ∨ k = 3 ∨ k = 4) → OKM nv ((k, s) :: (L ++ R)) → OKM nv L → OKM nv R → C L → C R → C ((k, s) :: (L ++ R))) (h1 : ∀ (k s : Int) (L : List (Int × Int)), (k = 5 ∨ k = 6) → OKM nv ((k, s) :: L) → OKM nv L → C L → C ((k, s) :: L)) :
    ∀ {a : List (Int × Int)}, OKM nv a → C a := by
  intro a0 ha0
  have main : ∀ (m : Nat) (a : List (Int × Int)), a.length = m → OKM nv a → C a := by
    intro m
    induction m using Nat.strongRecOn with
    | _ m ih =>
      intro a hm ha
      rcases okm_cases ha with ⟨v, rfl, h0, h3⟩ | ⟨s, rfl⟩ | ⟨k, s, L, R, hk, rfl, hL, hR, _, _⟩ | ⟨k, s, L, hk, rfl, hL⟩
      · exact hv v h0 h3
      · exact hb s
      · simp only [List.length_cons, List.length_append] at hm
        exact h2 k s L R hk ha hL hR (ih _ (by omega) L rfl hL) (ih _ (by omega) R rfl hR)
      · simp only [List.length_cons] at hm
        exact h1 k s L hk ha hL (ih _ (by omega) L rfl hL)
  exact main _ _ rfl ha0

section
variable (b : Int → Int → Int → Int) (u : Int → Int → Int) (vs : List Int)
theorem gv_var1 (v : Int) : gv b u vs [(0, v)] = vs.getD v.toNat 0 := rfl
theorem gv_bot1 (s : Int) : gv b u vs [(1, s)] = 0 := rfl
theorem gv_two1 {nv : Nat} {k s : Int} {L R : List (Int × Int)} (hk : k = 2 ∨ k = 3 ∨ k = 4) (hL : OKM nv L) (hR : OKM nv R) : gv b u vs ((k, s) :: (L ++ R)) = b k (gv b u vs L) (gv b u vs R) := by
  conv => lhs; unfold gv stkG
  rw [List.foldr_cons, List.foldr_append, okm_stk b u vs hR, okm_stk b u vs hL, stepG_two _ _ _ hk]
  rfl
end

theorem plain_cons {k s : Int} {r : List (Int × Int)} (h : ((k, s) :: r).any modN = false) : ¬ (k = 5 ∨ k = 6) ∧ r.any modN = false := by
  rw [List.any_cons, Bool.or_eq_false_iff] at h
  exact ⟨(mod_no (k, s)).1 h.1, h.2⟩
theorem pc1 {n : Int} {xs : List Int} {a : List (Int × Int)} (h : pcode n xs [a] = 0) : okPo n xs = true ∧ isF a = true ∧ a.any modN = false ∧ VS (mem (vmT [a] [a].length)) := by
  obtain ⟨h1, h2, h3, _⟩ := pc_ok h
  exact ⟨h1, isF_all h2, pl_one h3, VS_vmT h2⟩
/-- Tables as operations on numbers. -/
def hT (A O J : List (List Int)) (k p q : Int) : Int := if k = 2 then (A.getD p.toNat []).getD q.toNat 0 else if k = 3 then (O.getD p.toNat []).getD q.toNat 0 else (J.getD p.toNat []).getD q.toNat 0
def heyV (A O J : List (List Int)) (vs : List Int) (a : List (Int × Int)) : Int := gv (hT A O J) pU vs a
def inN (N : Nat) (x : Int) : Prop := 0 ≤ x ∧ x < (N : Int)
theorem hT_in {N : Nat} {A O J : List (List Int)} (hN : 0 < N) (hA : tabB N A = true) (hO : tabB N O = true) (hJ : tabB N J = true) {k p q : Int} (hp : inN N p) (hq : inN N q) : inN N (hT A O J k p q) := by
  have h1 := (tabB_at hA (i := p.toNat) (by have := hp.2; omega)).2 q.toNat (by have := hq.2; omega)
  have h2 := (tabB_at hO (i := p.toNat) (by have := hp.2; omega)).2 q.toNat (by have := hq.2; omega)
  have h3 := (tabB_at hJ (i := p.toNat) (by have := hp.2; omega)).2 q.toNat (by have := hq.2; omega)
  unfold hT
  split
  · exact h1
  · split
    · exact h2
    · exact h3
theorem stkH_in {N : Nat} {A O J : List (List Int)} {vs : List Int} (hN : 0 < N) (hA : tabB N A = true) (hO : tabB N O = true) (hJ : tabB N J = true) (hv : ∀ v : Nat, inN N (vs.getD v 0)) : ∀ l : List (Int × Int), ∀ x ∈ stkG (hT A O J) pU vs l, inN N x
  | [], x, hx => by simp [stkG] at hx
  | y :: l, x, hx => by
    have ih := stkH_in hN hA hO hJ hv l
    have hz : inN N 0 := ⟨by omega, by omega⟩
    have hg : ∀ i, inN N ((stkG (hT A O J) pU vs l).getD i 0) := fun i => by
      rw [List.getD_eq_getElem?_getD]
      rcases Nat.lt_or_ge i (stkG (hT A O J) pU vs l).length with hi | hi
      · rw [List.getElem?_eq_getElem hi]; exact ih _ (List.getElem_mem _)
      · rw [List.getElem?_eq_none hi]; exact hz
    have e : stkG (hT A O J) pU vs (y :: l) = stepG (hT A O J) pU vs y (stkG (hT A O J) pU vs l) := rfl
    rw [e, stepG] at hx
    repeat' split at hx
    · rcases List.mem_cons.1 hx with rfl | hx
      · exact hv _
      · exact ih _ hx
    · rcases List.mem_cons.1 hx with rfl | hx
      · exact hT_in hN hA hO hJ (hg 0) (hg 1)
      · exact ih _ (List.mem_of_mem_drop hx)
    · rcases List.mem_cons.1 hx with rfl | hx
      · exact hz
      · exact ih _ (List.mem_of_mem_drop hx)
    · rcases List.mem_cons.1 hx with rfl | hx
      · exact hz
      · exact ih _ hx
theorem stkH_get {N : Nat} {A O J : List (List Int)} {vs : List Int} (hN : 0 < N) (hA : tabB N A = true) (hO : tabB N O = true) (hJ : tabB N J = true) (hv : ∀ v : Nat, inN N (vs.getD v 0)) {l : List (Int × Int)} {S : List Int} (hS : S = (stkG (hT A O J) pU vs l).reverse) (i : Nat) : inN N (S.getD i 0) := by
  rw [List.getD_eq_getElem?_getD]
  rcases Nat.lt_or_ge i S.length with hi | hi
  · rw [List.getElem?_eq_getElem hi, Option.getD_some]
    have hm : S[i] ∈ S := List.getElem_mem _
    have : ∀ x ∈ S, inN N x := fun x hx => by rw [hS] at hx; exact stkH_in hN hA hO hJ hv l x (List.mem_reverse.1 hx)
    exact this _ hm
  · rw [List.getElem?_eq_none hi]; exact ⟨by simp, by simp; omega⟩
/-- The upsets by their numbers. -/
theorem upL_0 (xs : List Int) (hx : xs.length ≤ 60) : ∀ k : Nat, (upTo xs k).getD 0 0 = 0
  | 0 => rfl
  | 1 => by
    by_cases e : img xs ((0 : Nat) : Int) xs.length = ((0 : Nat) : Int)
    · rw [← upTo_yes e]; rfl
    · rw [← upTo_no e]; rfl
  | k + 2 => by
    have ih := upL_0 xs hx (k + 1)
    have hp := upTo_pos xs hx (k + 1) (by omega)
    by_cases e : img xs ((k + 1 : Nat) : Int) xs.length = ((k + 1 : Nat) : Int)
    · rw [← upTo_yes e, List.getD_eq_getElem?_getD, List.getElem?_append_left (by omega), ← List.getD_eq_getElem?_getD]; exact ih
    · rw [← upTo_no e]; exact ih
def uTab (f : List Int → Nat → Nat → Int) (n : Int) (xs : List Int) : List (List Int) := tabR (f (ordU (upL n xs))) (upL n xs).length (upL n xs).length
theorem uTab_at {n : Int} {xs : List Int} (f : List Int → Nat → Nat → Int) {p q : Int} (hp : inN (upL n xs).length p) (hq : inN (upL n xs).length q) : ((uTab f n xs).getD p.toNat []).getD q.toNat 0 = f (ordU (upL n xs)) p.toNat q.toNat := by
  rw [uTab, tabR_get (by have := hp.1; have := hp.2; omega), rowR_get (by have := hq.1; have := hq.2; omega)]
theorem uTab_len (f : List Int → Nat → Nat → Int) (n : Int) (xs : List Int) : (uTab f n xs).length = (upL n xs).length := tabR_len _ _ _
section
variable {n : Int} {xs : List Int} (hP : okPo n xs = true) (h30 : (upL n xs).length ≤ 30)
include hP h30
theorem uT_op (k : Int) {p q : Int} (hp : inN (upL n xs).length p) (hq : inN (upL n xs).length q) : inN (upL n xs).length (hT (uTab hyM n xs) (uTab hyJ n xs) (uTab hyI n xs) k p q) ∧ (upL n xs).getD (hT (uTab hyM n xs) (uTab hyJ n xs) (uTab hyI n xs) k p q).toNat 0 = pT n (pxB xs) k ((upL n xs).getD p.toNat 0) ((upL n xs).getD q.toNat 0) := by
  have hS := up_sys hP h30
  have h1 : p.toNat < (upL n xs).length := by have := hp.2; have := hp.1; omega
  have h2 : q.toNat < (upL n xs).length := by have := hq.2; have := hq.1; omega
  unfold hT pT
  split
  · obtain ⟨k, hk, e⟩ := hS.cap _ _ h1 h2
    rw [uTab_at hyM hp hq, hyM_at hS h1 h2 hk e, Int.toNat_natCast, e]
    exact ⟨⟨by omega, by omega⟩, rfl⟩
  · split
    · obtain ⟨k, hk, e⟩ := hS.cup _ _ h1 h2
      rw [uTab_at hyJ hp hq, hyJ_at hS h1 h2 hk e, Int.toNat_natCast, e]
      exact ⟨⟨by omega, by omega⟩, rfl⟩
    · obtain ⟨k, hk, e⟩ := hS.imp _ _ h1 h2
      rw [uTab_at hyI hp hq, hyI_at hS h1 h2 hk e, Int.toNat_natCast, e]
      exact ⟨⟨by omega, by omega⟩, rfl⟩
/-- The value of a formula has the number of the set that is forced. -/
theorem hey_fcd {es vs : List Int} (hv : ∀ v : Nat, v < 6 → inN (upL n xs).length (es.getD v 0) ∧ vs.getD v 0 = (upL n xs).getD (es.getD v 0).toNat 0) {a : List (Int × Int)} (ha : OKM 6 a) : a.any modN = false →
    inN (upL n xs).length (heyV (uTab hyM n xs) (uTab hyJ n xs) (uTab hyI n xs) es a) ∧ (upL n xs).getD (heyV (uTab hyM n xs) (uTab hyJ n xs) (uTab hyI n xs) es a).toNat 0 = fcd n xs vs a := by
  have hU := upL_pos hP
  have hx : xs.length ≤ 60 := by have := okFr_rel (okPo_fr hP); omega
  refine okm_ind (C := fun a => a.any modN = false → inN (upL n xs).length (heyV (uTab hyM n xs) (uTab hyJ n xs) (uTab hyI n xs) es a) ∧ (upL n xs).getD (heyV (uTab hyM n xs) (uTab hyJ n xs) (uTab hyI n xs) es a).toNat 0 = fcd n xs vs a) ?_ ?_ ?_ ?_ ha
  · intro v h0 h6 _
    unfold heyV fcd
    rw [gv_var1, gv_var1]
    have := hv v.toNat (by omega)
    exact ⟨this.1, this.2.symm⟩
  · intro s _
    unfold heyV fcd
    rw [gv_bot1, gv_bot1]
    exact ⟨⟨by omega, by omega⟩, upL_0 xs hx _⟩
  · intro k s L R hk _ hL hR iL iR hp
    have hp2 := (plain_cons hp).2
    rw [List.any_append, Bool.or_eq_false_iff] at hp2
    obtain ⟨a1, a2⟩ := iL hp2.1
    obtain ⟨b1, b2⟩ := iR hp2.2
    unfold heyV fcd at *
    rw [gv_two1 _ _ _ hk hL hR, gv_two1 _ _ _ hk hL hR, ← a2, ← b2]
    exact uT_op hP h30 k a1 b1
  · intro k s L hk _ _ _ hp
    exact absurd hk (plain_cons hp).1
theorem uT_top : tX (ordU (upL n xs)) < (upL n xs).length ∧ ∀ x : Nat, x < (upL n xs).length → ((upL n xs).getD x 0 = (shl64 1 n) - 1 ↔ x = tX (ordU (upL n xs))) := by
  have hS := up_sys hP h30
  have hH := up_hy hP h30
  obtain ⟨h0, h8, hl, hr, rf, tr, asy⟩ := hq_po_rel hP
  have hnn : ((n.toNat : Nat) : Int) = n := by omega
  have hfi : InM n.toNat ((shl64 1 n) - 1) := by have := inM_full (n := n.toNat) (by omega); rwa [hnn] at this
  have hft : ∀ i, tb ((shl64 1 n) - 1) i = decide (i < n.toNat) := fun i => by have := tb_full (n := n.toNat) (by omega) i; rwa [hnn] at this
  have hf : (shl64 1 n) - 1 ∈ upR n xs := (hq_up_iff hP).2 ⟨hfi, fun i j a b => by
    rw [hft] at a ⊢
    exact decide_eq_true (tb_lt (hr.2 i (of_decide_eq_true a)) b)⟩
  rw [upR, if_pos hP] at hf
  obtain ⟨k, hk, e⟩ := List.getElem_of_mem hf
  have ek : (upL n xs).getD k 0 = (shl64 1 n) - 1 := by rw [List.getD_eq_getElem?_getD, List.getElem?_eq_getElem hk]; exact e
  have hlen := ordU_len (upL n xs)
  have ht : tX (ordU (upL n xs)) = k := by
    have := ox_t_is hH.ord (k := k) (by rw [hlen]; exact hk) fun z hz => by
      rw [hlen] at hz
      rw [leX, ordU_tb hS hz]
      refine ⟨hk, (bnot_sub (n := n.toNat) (by omega) (hS.rng z hz) (hS.rng k hk)).2 fun i a => ?_⟩
      rw [ek, hft]
      exact decide_eq_true (tb_lt (hS.rng z hz) a)
    rw [tX, this, Int.toNat_natCast]
  rw [ht]
  exact ⟨hk, fun x hx => ⟨fun q => hS.inj x k hx hk (q.trans ek.symm), fun q => by rw [q]; exact ek⟩⟩
end
/-- All elements, in order. -/
def rgU (N : Nat) : List Int := (List.range N).map fun (i : Nat) => (i : Int)
theorem rgU_len (N : Nat) : (rgU N).length = N := by simp [rgU]
theorem rgU_get {N i : Nat} (h : i < N) : (rgU N).getD i 0 = (i : Int) := by simp [rgU, List.getD_eq_getElem?_getD, List.getElem?_range h]
theorem rgU_in {N : Nat} (hN : 0 < N) (i : Nat) : inN N ((rgU N).getD i 0) := by
  rcases Nat.lt_or_ge i N with h | h
  · rw [rgU_get h]; exact ⟨by omega, by omega⟩
  · rw [List.getD_eq_getElem?_getD, List.getElem?_eq_none (by rw [rgU_len]; exact h)]; exact ⟨by simp, by simp; omega⟩
theorem vrG_in {N : Nat} (hN : 0 < N) (vs : List Int) (M v : Nat) : inN N ((vrU (rgU N) vs M).getD v 0) := by
  rcases Nat.lt_or_ge v 6 with h | h
  · rw [vrU_get h, vatU]
    split
    · exact rgU_in hN _
    · exact ⟨by simp, by simp; omega⟩
  · rw [List.getD_eq_getElem?_getD, List.getElem?_eq_none (by rw [vrU_len]; exact h)]; exact ⟨by simp, by simp; omega⟩
/-- Is the value in the valuation M another one than t? -/
def badH (A O J : List (List Int)) (t : Int) (vs : List Int) (a : List (Int × Int)) (M : Nat) : Bool := !decide (heyV A O J (vrU (rgU A.length) vs M) a = t)
def hcode (A O J : List (List Int)) (b t : Int) (a : List (Int × Int)) : Int := if hyIs A O J b t = true ∧ isF a = true then (if allPl [a] = true then (if pwT (A.length : Int) (mem (vmT [a] [a].length)).length ≤ 4096 then 0 else 3) else 5) else 1
def hvB (A O J : List (List Int)) (t : Int) (a : List (Int × Int)) : Bool := (fstN (badH A O J t (mem (vmT [a] [a].length)) a) (A.length ^ (mem (vmT [a] [a].length)).length)).isNone
section
variable {n : Int} {xs : List Int} {a : List (Int × Int)} (hc : pcode n xs [a] = 0) (h30 : (upL n xs).length ≤ 30)
include hc h30
theorem au_bad (M : Nat) : badH (uTab hyM n xs) (uTab hyJ n xs) (uTab hyI n xs) (tX (ordU (upL n xs)) : Int) (mem (vmT [a] [a].length)) a M = badU n xs (mem (vmT [a] [a].length)) a M := by
  obtain ⟨hP, hF, hp, hV⟩ := pc1 hc
  have hU := upL_pos hP
  have hx : xs.length ≤ 60 := by have := okFr_rel (okPo_fr hP); omega
  unfold badH badU
  rw [uTab_len]
  have key := hey_fcd hP h30 (es := vrU (rgU (upL n xs).length) (mem (vmT [a] [a].length)) M) (vs := vrU (upL n xs) (mem (vmT [a] [a].length)) M) (fun v hv => by
    refine ⟨vrG_in (by omega) _ _ _, ?_⟩
    rw [vrU_get hv, vrU_get hv, vatU, vatU, rgU_len]
    split
    · rw [rgU_get (Nat.mod_lt _ (by omega)), Int.toNat_natCast]
    · exact (upL_0 xs hx _).symm) (isF_okm hF).1 hp
  obtain ⟨t1, t2⟩ := uT_top hP h30
  obtain ⟨k1, k2⟩ := key
  congr 1
  rw [Bool.eq_iff_iff, decide_eq_true_iff, decide_eq_true_iff, ← k2, t2 _ (by have := k1.1; have := k1.2; omega)]
  have := k1.1
  omega
theorem au_valid : hvB (uTab hyM n xs) (uTab hyJ n xs) (uTab hyI n xs) (tX (ordU (upL n xs)) : Int) a = pvV n xs a := by
  rw [pvV, decide_eq_true hc, Bool.true_and, hvB, fstU, totU, uTab_len]
  congr 2
  funext M
  exact au_bad hc h30 M
theorem au_is : hyIs (uTab hyM n xs) (uTab hyJ n xs) (uTab hyI n xs) (lowF (ordU (upL n xs)) (fullM (ordU (upL n xs)).length)) (lowF (invA (ordU (upL n xs)) (ordU (upL n xs)).length) (fullM (ordU (upL n xs)).length)) = true := by
  obtain ⟨hP, _⟩ := pc1 hc
  have hl := ordU_len (upL n xs)
  refine (IsHy.is (xs := ordU (upL n xs)) ⟨up_hy hP h30, ?_, ?_, ?_, rfl, rfl⟩).1 <;> rw [hl] <;> rfl
end
theorem au_code {n : Int} {xs : List Int} {a : List (Int × Int)} (hc : pcode n xs [a] = 0) {b t : Int} (h : hyIs (uTab hyM n xs) (uTab hyJ n xs) (uTab hyI n xs) b t = true) : hcode (uTab hyM n xs) (uTab hyJ n xs) (uTab hyI n xs) b t a = 0 := by
  obtain ⟨h1, h2, h3, h4⟩ := pc_ok hc
  rw [hcode, if_pos ⟨h, isF_all h2⟩, if_pos h3, uTab_len, if_pos h4]

end Go.Proofs.YtjllngcefoohpaaGreat


/-! What both packages take for a Heyting algebra: tables, orders. -/
namespace Go.Proofs.YtjllngcefoohpaaGreat
open Go.RowKit Go.Abs

/-- Rows of rows: the first of which p holds. -/
def fidxR (p : List Int → Bool) : List (List Int) → Int → Int
  | [], _ => -1
  | x :: l, i => if p x = true then i else fidxR p l (i + 1)
theorem drop_consR (a : List (List Int)) (i : Nat) (h : i < a.length) : a.drop i = a.getD i [] :: a.drop (i + 1) := by
  rw [List.drop_eq_getElem_cons h, List.getD_eq_getElem?_getD, List.getElem?_eq_getElem h]; rfl
theorem fidxR_hit {p : List Int → Bool} {a : List (List Int)} {i : Nat} (h : i < a.length) (hp : p (a.getD i []) = true) : fidxR p (a.drop i) i = i := by
  rw [drop_consR a i h, fidxR, if_pos hp]
theorem fidxR_miss {p : List Int → Bool} {a : List (List Int)} {i : Nat} (h : i < a.length) (hp : p (a.getD i []) = false) : fidxR p (a.drop i) i = fidxR p (a.drop (i + 1)) ((i + 1 : Nat) : Int) := by
  rw [drop_consR a i h, fidxR, if_neg (by rw [hp]; decide)]
  rfl
theorem fidxR_end {p : List Int → Bool} {a : List (List Int)} {i : Nat} (h : a.length ≤ i) : fidxR p (a.drop i) i = -1 := by
  rw [List.drop_eq_nil_of_le h, fidxR]
theorem fidxR_any {p : List Int → Bool} : ∀ {a : List (List Int)} {i : Int}, 0 ≤ i → (0 ≤ fidxR p a i ↔ a.any p = true)
  | [], i, h => by simp [fidxR]
  | x :: l, i, h => by
    have ih := fidxR_any (p := p) (a := l) (i := i + 1) (by omega)
    rw [fidxR, List.any_cons]
    by_cases e : p x = true
    · rw [if_pos e, e]; simpa using h
    · rw [if_neg e, ih]
      have e2 : p x = false := by simpa using e
      rw [e2, Bool.false_or]
def outN (N : Nat) (x : Int) : Bool := !inR x 0 ((N : Int) - 1)
def badR (N : Nat) (r : List Int) : Bool := decide ((r.length : Int) ≠ (N : Int)) || r.any (outN N)
theorem outN_no {N : Nat} {x : Int} : outN N x = false ↔ 0 ≤ x ∧ x < (N : Int) := by
  rw [outN, Bool.not_eq_false', inR_iff]; omega
theorem badR_no {N : Nat} {r : List Int} : badR N r = false ↔ r.length = N ∧ ∀ x ∈ r, 0 ≤ x ∧ x < (N : Int) := by
  rw [badR, Bool.or_eq_false_iff, decide_eq_false_iff_not, List.any_eq_false]
  refine and_congr ⟨fun h => by omega, fun h => by omega⟩ ⟨fun h x hx => ?_, fun h x hx => ?_⟩
  · have := h x hx
    exact outN_no.1 (by simpa using this)
  · rw [outN_no.2 (h x hx)]; decide
theorem tabB_any {N : Nat} {A : List (List Int)} : tabB N A = (decide ((A.length : Int) = (N : Int)) && !A.any (badR N)) := by
  rw [Bool.eq_iff_iff]
  simp only [tabB, Bool.and_eq_true, decide_eq_true_eq, List.all_eq_true, Bool.not_eq_true', List.any_eq_false]
  refine and_congr ⟨fun h => by omega, fun h => by omega⟩ ⟨fun h r hr => ?_, fun h r hr => ?_⟩
  · rw [badR_no.2 (h r hr)]; decide
  · exact badR_no.1 (by simpa using h r hr)
theorem tabB_l {N : Nat} {A : List (List Int)} (h : ¬ (A.length : Int) = (N : Int)) : false = tabB N A := by rw [tabB_any, decide_eq_false h]; rfl
theorem tabB_b {N : Nat} {A : List (List Int)} (h : (A.length : Int) = (N : Int)) : (!A.any (badR N)) = tabB N A := by rw [tabB_any, decide_eq_true h]; rfl
theorem badR_l {N : Nat} {r : List Int} (h : ¬ (r.length : Int) = (N : Int)) : true = badR N r := by rw [badR, decide_eq_true h]; rfl
theorem badR_b {N : Nat} {r : List Int} (h : (r.length : Int) = (N : Int)) : r.any (outN N) = badR N r := by rw [badR, decide_eq_false (fun q => q h)]; rfl
/-- A row of masks under way. -/
def rwW (P : Nat → Nat → Bool) (N x y : Nat) : List Int := (rowT (fun x => mkB (P x) N) N x).set x (mkB (P x) y)
theorem rwW_len (P : Nat → Nat → Bool) (N x y : Nat) : (rwW P N x y).length = N := by simp [rwW, rowT_len]
theorem rwW_get {P : Nat → Nat → Bool} {N x y : Nat} (h : x < N) : (rwW P N x y).getD x 0 = mkB (P x) y := by rw [rwW, getD_set_if _ _ _ _ _ (by rw [rowT_len]; exact h), if_pos rfl]
theorem rwW_zero {P : Nat → Nat → Bool} {N x : Nat} (h : x < N) : rowT (fun x => mkB (P x) N) N x = rwW P N x 0 := by
  refine rowN_ext (rowT_len _ _ _) (rwW_len _ _ _ _) fun j hj => ?_
  rw [rwW, getD_set_if _ _ _ _ _ (by rw [rowT_len]; exact h)]
  by_cases e : x = j
  · subst e; rw [if_pos rfl, rowT_get hj, if_neg (by omega)]; rfl
  · rw [if_neg e]
theorem rwW_yes {P : Nat → Nat → Bool} {N x y : Nat} (hx : x < N) (h : P x y = true) : (rwW P N x y).set x (bor ((rwW P N x y).getD x 0) (shl64 1 (y : Int))) = rwW P N x (y + 1) := by
  rw [rwW_get hx, rwW, List.set_set, rwW, mkB_yes (P := P x) h]
theorem rwW_no {P : Nat → Nat → Bool} {N x y : Nat} (h : P x y = false) : rwW P N x y = rwW P N x (y + 1) := by
  rw [rwW, rwW, mkB_no (P := P x) (k := y) h]
theorem rwW_end {P : Nat → Nat → Bool} {N x y : Nat} (hx : x < N) (hy : y = N) : rwW P N x y = rowT (fun x => mkB (P x) N) N (x + 1) := by
  subst hy; exact rowT_set hx rfl
theorem ordT_row {A : List (List Int)} {x : Nat} (h : x = A.length) : rowT (fun x => mkB (ordB A x) A.length) A.length x = ordT A := rowT_end h
theorem ordB_yes {A : List (List Int)} {x y : Nat} (h : (A.getD x []).getD y 0 = (x : Int)) : ordB A x y = true := decide_eq_true h
theorem ordB_no {A : List (List Int)} {x y : Nat} (h : ¬ (A.getD x []).getD y 0 = (x : Int)) : ordB A x y = false := decide_eq_false h
theorem hyIs_n {A O J : List (List Int)} {b t : Int} (h : hyIs A O J b t ≠ true) : false = hyIs A O J b t := by
  cases e : hyIs A O J b t with
  | false => rfl
  | true => exact absurd e h
theorem hyIs_1 {A O J : List (List Int)} {b t : Int} (h : ¬ (1 ≤ A.length ∧ A.length ≤ 30)) : false = hyIs A O J b t := hyIs_n fun e => h (hyIs_parts.1 e).1
theorem hyIs_2 {A O J : List (List Int)} {b t : Int} (h : ¬ tabB A.length A = true) : false = hyIs A O J b t := hyIs_n fun e => h (hyIs_parts.1 e).2.1
theorem hyIs_3 {A O J : List (List Int)} {b t : Int} (h : ¬ tabB A.length O = true) : false = hyIs A O J b t := hyIs_n fun e => h (hyIs_parts.1 e).2.2.1
theorem hyIs_4 {A O J : List (List Int)} {b t : Int} (h : ¬ tabB A.length J = true) : false = hyIs A O J b t := hyIs_n fun e => h (hyIs_parts.1 e).2.2.2.1
theorem hyIs_6 {A O J : List (List Int)} {b t : Int} (h1 : 1 ≤ A.length ∧ A.length ≤ 30) (h2 : tabB A.length A = true) (h3 : tabB A.length O = true) (h4 : tabB A.length J = true) (h5 : hyB (ordT A) = true) :
    decide (b = lowF (ordT A) (fullM A.length) ∧ t = lowF (invA (ordT A) A.length) (fullM A.length) ∧ A = tabR (hyM (ordT A)) A.length A.length ∧ O = tabR (hyJ (ordT A)) A.length A.length ∧ J = tabR (hyI (ordT A)) A.length A.length) = hyIs A O J b t := by
  rw [Bool.eq_iff_iff, hyIs_parts, decide_eq_true_iff]
  exact ⟨fun q => ⟨h1, h2, h3, h4, h5, q⟩, fun q => q.2.2.2.2.2⟩

theorem hsize_c (A : List (List Int)) (O : List (List Int)) (J : List (List Int)) (b : Int) (t : Int) : CallA Tryz.prog 55 [.agg [LLI A, LLI O, LLI J, AI b, AI t]] (AI A.length) := by
  refine CallA.of Tryz.func55 rfl (by kernel_rfl) ?_
  exact R.go 12 (R.retE (AI A.length) (by kernel_rfl) (by kernel_rfl) (by rfl))

theorem hasElH_c (A : List (List Int)) (O : List (List Int)) (J : List (List Int)) (b : Int) (t : Int) (x : Int) (la : A.length ≤ 1000000000) : CallA Tryz.prog 79 [.agg [LLI A, LLI O, LLI J, AI b, AI t], AI x] (.bool (inR x 0 ((A.length : Int) - 1))) := by
 refine CallA.of Tryz.func79 rfl (by kernel_rfl) ?_
 refine R.go 9 (k14 true (hsize_c A O J b t) rfl ?_)
 refine k1 ((A.length : Int) - 1) ?_
 refine k14 true (inRange_c x 0 ((A.length : Int) - 1)) rfl ?_
 exact R.go 2 (k17 (.bool (inR x 0 ((A.length : Int) - 1))) (by rfl))

theorem isTab11_c (A : List (List Int)) (O : List (List Int)) (J : List (List Int)) (b : Int) (t : Int) (x : Int) (la : A.length ≤ 1000000000) : CallA Tryz.prog 238 [AI x, .rptr [LLI A, LLI O, LLI J, AI b, AI t]] (.bool (outN A.length x)) := by
 refine CallA.of Tryz.func238 rfl (by kernel_rfl) ?_
 refine R.go 8 (k14 true (hasElH_c A O J b t x la) rfl ?_)
 exact R.go 3 (k17 (.bool (!(inR x 0 ((A.length : Int) - 1)))) (by first | (rfl) | (exfalso; omega)))

theorem indexTb_c (r : List Int) (A : List (List Int)) (O : List (List Int)) (J : List (List Int)) (b : Int) (t : Int) (hl : r.length ≤ 1000000000) (la : A.length ≤ 1000000000) : CallA Tryz.prog 172 [LI r, .fn 238 [.rptr [LLI A, LLI O, LLI J, AI b, AI t]]] (AI (fidxI (outN A.length) r 0)) := by
 refine CallA.of Tryz.func172 rfl (by kernel_rfl) ?_
 refine R.go 12 (k15 (fun (i : Nat) => (⟨(frm 19 [(0, LI r), (1, .fn 238 [.rptr [LLI A, LLI O, LLI J, AI b, AI t]]), (7, AI r.length), (8, AI (i : Int))]), []⟩ : St)) (fun (i : Nat) => (i ≤ r.length) ∧ (fidxI (outN A.length) r 0 = fidxI (outN A.length) (r.drop i) i)) (fun (i : Nat) => r.length - i) 0 [0, 1, 7, 8] none ⟨(by omega), (by rfl)⟩ ?_)
 rintro i ⟨h3_1, h3_2⟩ R1 N2
 refine R.go 5 (k3 ((i : Int) < (r.length : Int)) (fun c4 => ?_) (fun c4 => ?_))
 ·refine R.go 13 (k8 eI r 0 i (i : Int) rfl eI_len ?_)
  refine R.go 1 (k14 true (isTab11_c A O J b t (r.getD i 0) la) rfl ?_)
  refine R.go 1 (R.condB (outN A.length (r.getD i 0)) (by kernel_rfl) (fun c5 => ?_) (fun c5 => ?_))
  ·exact R.go 5 (k17 (AI (i : Int)) (by first | (apply congrArg AI; rw [‹fidxI (outN A.length) r 0 = _›]; first | exact (fidxI_end (by omega)).symm | exact (fidxI_hit (by omega) (by assumption)).symm) | (exfalso; omega)))
  ·refine R.go 3 (k1 ((i : Int) + 1) ?_)
   exact R.go 2 (k16 R1 (N2 (i + 1) [0, 1, 7, 8] none _ (by kernel_rfl) (by kernel_rfl) ⟨(by omega), (by rw [‹fidxI (outN A.length) r 0 = _›]; exact fidxI_miss (by omega) (by assumption))⟩ (by show (r.length - (i + 1)) < (r.length - i); omega)))
 ·exact R.go 5 (k17 (AI (-1)) (by first | (apply congrArg AI; rw [‹fidxI (outN A.length) r 0 = _›]; first | exact (fidxI_end (by omega)).symm | exact (fidxI_hit (by omega) (by assumption)).symm) | (exfalso; omega)))

theorem containsTb_c (r : List Int) (A : List (List Int)) (O : List (List Int)) (J : List (List Int)) (b : Int) (t : Int) (hl : r.length ≤ 1000000000) (la : A.length ≤ 1000000000) : CallA Tryz.prog 77 [LI r, .fn 238 [.rptr [LLI A, LLI O, LLI J, AI b, AI t]]] (.bool (r.any (outN A.length))) := by
 refine CallA.of Tryz.func77 rfl (by kernel_rfl) ?_
 refine R.go 8 (k14 true (indexTb_c r A O J b t hl la) rfl ?_)
 exact R.go 3 (k17 (.bool (decide ((fidxI (outN A.length) r 0) ≥ 0))) (by first | (apply congrArg AV.bool; rw [Bool.eq_iff_iff, decide_eq_true_iff]; exact fidxI_any (Int.le_refl 0)) | (exfalso; omega)))

theorem isTab1_c (A : List (List Int)) (O : List (List Int)) (J : List (List Int)) (b : Int) (t : Int) (r : List Int) (la : A.length ≤ 1000000000) (hr : r.length ≤ 1000000000) : CallA Tryz.prog 237 [LI r, .rptr [LLI A, LLI O, LLI J, AI b, AI t]] (.bool (badR A.length r)) := by
 refine CallA.of Tryz.func237 rfl (by kernel_rfl) ?_
 refine R.go 7 (k14 true (size_c r) rfl ?_)
 refine R.go 1 (k14 true (hsize_c A O J b t) rfl ?_)
 refine R.go 2 ?_
 by_cases c1 : (r.length : Int) = (A.length : Int)
 ·refine k5 (!decide ((r.length : Int) = (A.length : Int))) false (nF c1) ?_
  refine R.go 1 (k5 (!decide ((r.length : Int) = (A.length : Int))) false (nF c1) ?_)
  refine R.go 1 (k5 (!decide ((r.length : Int) = (A.length : Int))) false (nF c1) ?_)
  refine k14 true (containsTb_c r A O J b t hr la) rfl ?_
  refine k7 (!decide ((r.length : Int) = (A.length : Int))) false (nF c1) ?_
  exact R.go 2 (k17 (.bool (r.any (outN A.length))) (by first | (apply congrArg AV.bool; first | exact badR_l (by omega) | exact badR_b (by omega)) | (exfalso; omega)))
 ·refine k6 (!decide ((r.length : Int) = (A.length : Int))) false (nT c1) ?_
  refine k6 (!decide ((r.length : Int) = (A.length : Int))) false (nT c1) ?_
  refine k6 (!decide ((r.length : Int) = (A.length : Int))) false (nT c1) ?_
  refine k7 (!decide ((r.length : Int) = (A.length : Int))) true (nT c1) ?_
  exact R.go 2 (k17 (.bool true) (by first | (apply congrArg AV.bool; first | exact badR_l (by omega) | exact badR_b (by omega)) | (exfalso; omega)))

theorem indexTr_c (A : List (List Int)) (O : List (List Int)) (J : List (List Int)) (b : Int) (t : Int) (t2 : List (List Int)) (la : A.length ≤ 1000000000) (hl : t2.length ≤ 1000000000) (mt2 : ∀ i0 : Nat, i0 < t2.length → (t2.getD i0 []).length ≤ 1000000000) : CallA Tryz.prog 324 [LLI t2, .fn 237 [.rptr [LLI A, LLI O, LLI J, AI b, AI t]]] (AI (fidxR (badR A.length) t2 0)) := by
 refine CallA.of Tryz.func324 rfl (by kernel_rfl) ?_
 refine R.go 12 (k15 (fun (i : Nat) => (⟨(frm 19 [(0, LLI t2), (1, .fn 237 [.rptr [LLI A, LLI O, LLI J, AI b, AI t]]), (7, AI t2.length), (8, AI (i : Int))]), []⟩ : St)) (fun (i : Nat) => (i ≤ t2.length) ∧ (fidxR (badR A.length) t2 0 = fidxR (badR A.length) (t2.drop i) i)) (fun (i : Nat) => t2.length - i) 0 [0, 1, 7, 8] none ⟨(by omega), (by rfl)⟩ ?_)
 rintro i ⟨h3_1, h3_2⟩ R1 N2
 refine R.go 5 (k3 ((i : Int) < (t2.length : Int)) (fun c4 => ?_) (fun c4 => ?_))
 ·have hj := mt2 i (by omega)
  refine R.go 13 (k8 eLI t2 [] i (i : Int) rfl eLI_len ?_)
  refine R.go 1 (k14 true (isTab1_c A O J b t (t2.getD i []) la (by first | omega | (simp <;> omega))) rfl ?_)
  refine R.go 1 (R.condB (badR A.length (t2.getD i [])) (by kernel_rfl) (fun c5 => ?_) (fun c5 => ?_))
  ·exact R.go 5 (k17 (AI (i : Int)) (by first | (apply congrArg AI; rw [‹fidxR (badR A.length) t2 0 = _›]; first | exact (fidxR_end (by omega)).symm | exact (fidxR_hit (by omega) (by assumption)).symm) | (exfalso; omega)))
  ·refine R.go 3 (k1 ((i : Int) + 1) ?_)
   exact R.go 2 (k16 R1 (N2 (i + 1) [0, 1, 7, 8] none _ (by kernel_rfl) (by kernel_rfl) ⟨(by omega), (by rw [‹fidxR (badR A.length) t2 0 = _›]; exact fidxR_miss (by omega) (by assumption))⟩ (by show (t2.length - (i + 1)) < (t2.length - i); omega)))
 ·exact R.go 5 (k17 (AI (-1)) (by first | (apply congrArg AI; rw [‹fidxR (badR A.length) t2 0 = _›]; first | exact (fidxR_end (by omega)).symm | exact (fidxR_hit (by omega) (by assumption)).symm) | (exfalso; omega)))

theorem containsTr_c (A : List (List Int)) (O : List (List Int)) (J : List (List Int)) (b : Int) (t : Int) (t2 : List (List Int)) (la : A.length ≤ 1000000000) (hl : t2.length ≤ 1000000000) (mt2 : ∀ i0 : Nat, i0 < t2.length → (t2.getD i0 []).length ≤ 1000000000) : CallA Tryz.prog 236 [LLI t2, .fn 237 [.rptr [LLI A, LLI O, LLI J, AI b, AI t]]] (.bool (t2.any (badR A.length))) := by
 refine CallA.of Tryz.func236 rfl (by kernel_rfl) ?_
 refine R.go 8 (k14 true (indexTr_c A O J b t t2 la hl mt2) rfl ?_)
 exact R.go 3 (k17 (.bool (decide ((fidxR (badR A.length) t2 0) ≥ 0))) (by first | (apply congrArg AV.bool; rw [Bool.eq_iff_iff, decide_eq_true_iff]; exact fidxR_any (Int.le_refl 0)) | (exfalso; omega)))

theorem sizeR0_c (t2 : List (List Int)) : CallA Tryz.prog 235 [LLI t2] (AI t2.length) := by
  refine CallA.of Tryz.func235 rfl (by kernel_rfl) ?_
  exact R.go 10 (R.retE (AI t2.length) (by kernel_rfl) (by kernel_rfl) (by rfl))

theorem isTable_c (A : List (List Int)) (O : List (List Int)) (J : List (List Int)) (b : Int) (t : Int) (t2 : List (List Int)) (la : A.length ≤ 1000000000) (hl : t2.length ≤ 1000000000) (mt2 : ∀ i0 : Nat, i0 < t2.length → (t2.getD i0 []).length ≤ 1000000000) : CallA Tryz.prog 133 [.agg [LLI A, LLI O, LLI J, AI b, AI t], LLI t2] (.bool (tabB A.length t2)) := by
 refine CallA.of Tryz.func133 rfl (by kernel_rfl) ?_
 refine R.go 8 (k14 true (sizeR0_c t2) rfl ?_)
 refine R.go 1 (k14 true (hsize_c A O J b t) rfl ?_)
 refine R.go 2 ?_
 by_cases c1 : (t2.length : Int) = (A.length : Int)
 ·refine k5 (decide ((t2.length : Int) = (A.length : Int))) true (dT c1) ?_
  refine R.go 1 (k5 (decide ((t2.length : Int) = (A.length : Int))) true (dT c1) ?_)
  refine R.go 1 (k5 (decide ((t2.length : Int) = (A.length : Int))) true (dT c1) ?_)
  refine k14 false (containsTr_c A O J b t t2 la hl mt2) rfl ?_
  refine k5 (decide ((t2.length : Int) = (A.length : Int))) true (dT c1) ?_
  refine R.go 1 (k7 (decide ((t2.length : Int) = (A.length : Int))) true (dT c1) ?_)
  exact R.go 2 (k17 (.bool (!(t2.any (badR A.length)))) (by first | (apply congrArg AV.bool; first | exact tabB_l (by omega) | exact tabB_b (by omega)) | (exfalso; omega)))
 ·refine k6 (decide ((t2.length : Int) = (A.length : Int))) true (dF c1) ?_
  refine k6 (decide ((t2.length : Int) = (A.length : Int))) true (dF c1) ?_
  refine k6 (decide ((t2.length : Int) = (A.length : Int))) true (dF c1) ?_
  refine k6 (decide ((t2.length : Int) = (A.length : Int))) true (dF c1) ?_
  refine k7 (decide ((t2.length : Int) = (A.length : Int))) false (dF c1) ?_
  exact R.go 2 (k17 (.bool false) (by first | (apply congrArg AV.bool; first | exact tabB_l (by omega) | exact tabB_b (by omega)) | (exfalso; omega)))

theorem order_c (A : List (List Int)) (O : List (List Int)) (J : List (List Int)) (b : Int) (t : Int) (hT : tabB A.length A = true) (h30 : A.length ≤ 30) : CallA Tryz.prog 57 [.agg [LLI A, LLI O, LLI J, AI b, AI t]] (ownA eI 2 1 (ordT A)) := by
 have htl := fun (i : Nat) (hi : i < A.length) => (tabB_at hT hi).1
 refine CallA.of Tryz.func57 rfl (by kernel_rfl) ?_
 refine R.go 8 (k14 true (hsize_c A O J b t) rfl ?_)
 refine k13 eI 0 2 8 A.length A.length rfl ?_
 refine R.go 11 (k15 ((fun | (x, R) => (⟨(frm 40 [(3, .ref 0), (12, LLI A), (13, AI A.length), (14, AI (x : Int))]), [rowA eI 2 1 R]⟩ : St) : Nat × (List Int) → St)) (fun | (x, R) => (x ≤ A.length) ∧ (R = rowT (fun x => mkB (ordB A x) A.length) A.length x)) (fun | (x, R) => A.length - x) (0, (List.replicate A.length 0)) [3, 12, 13, 14] (some [1]) ⟨(by omega), (by exact rowT_zero)⟩ ?_)
 rintro ⟨x, R⟩ ⟨h4_1, rfl⟩ R1 N2
 have hrl := rowT_len (fun x => mkB (ordB A x) A.length) A.length x
 refine R.go 5 (k3 ((x : Int) < (A.length : Int)) (fun c5 => ?_) (fun c5 => ?_))
 ·refine R.go 6 (k8 eLI A [] x (x : Int) rfl eLI_len ?_)
  have htx := htl x (by omega)
  refine R.go 11 (k15 ((fun | (y, W) => (⟨(frm 40 [(3, .ref 0), (4, AI (x : Int)), (12, LLI A), (13, AI A.length), (14, AI (x : Int)), (19, LI (A.getD x [])), (20, AI ((A.getD x []).length)), (21, AI (y : Int))]), [rowA eI 2 1 W]⟩ : St) : Nat × (List Int) → St)) (fun | (y, W) => (y ≤ A.length) ∧ (W = rwW (ordB A) A.length x y)) (fun | (y, W) => A.length - y) (0, (rowT (fun x => mkB (ordB A x) A.length) A.length x)) [3, 4, 12, 13, 14, 19, 20, 21] none ⟨(by omega), (by exact rwW_zero (by omega))⟩ ?_)
  rintro ⟨y, W⟩ ⟨h9_1, rfl⟩ R6 N7
  have hwl := rwW_len (ordB A) A.length x y
  refine R.go 5 (k3 ((y : Int) < ((A.getD x []).length : Int)) (fun c10 => ?_) (fun c10 => ?_))
  ·refine R.go 6 (k8 eI (A.getD x []) 0 y (y : Int) rfl eI_len ?_ (hj := by first | omega | (simp only [List.length_set]; omega) | (simp <;> omega)))
   refine R.go 10 (k3 (((A.getD x []).getD y 0) = (x : Int)) (fun c11 => ?_) (fun c11 => ?_))
   ·refine R.go 3 (k9 0 1 (rwW (ordB A) A.length x y).length x (x : Int) ?_ (hji := rfl))
    refine k10 (rwW (ordB A) A.length x y) x ?_
    refine R.go 1 (R.shl 1 (y : Int) (by kernel_rfl) (by omega) (by kernel_rfl) ?_)
    refine R.go 1 (k9 0 1 (rwW (ordB A) A.length x y).length x (x : Int) ?_ (hji := rfl))
    refine k11 0 2 (rwW (ordB A) A.length x y) x (bor ((rwW (ordB A) A.length x y).getD x 0) (shl64 1 (y : Int))) ?_
    refine R.go 3 (k1 ((y : Int) + 1) ?_)
    exact R.go 2 (k16 R6 (N7 (y + 1, (rwW (ordB A) A.length x y).set x (bor ((rwW (ordB A) A.length x y).getD x 0) (shl64 1 (y : Int)))) [3, 4, 12, 13, 14, 19, 20, 21] none _ (by kernel_rfl) (by kernel_rfl) ⟨(by omega), (by first | exact rwW_yes (by omega) (ordB_yes (by assumption)) | exact rwW_no (ordB_no (by assumption)))⟩ (by show (A.length - (y + 1)) < (A.length - y); omega)))
   ·refine R.go 3 (k1 ((y : Int) + 1) ?_)
    exact R.go 2 (k16 R6 (N7 (y + 1, rwW (ordB A) A.length x y) [3, 4, 12, 13, 14, 19, 20, 21] none _ (by kernel_rfl) (by kernel_rfl) ⟨(by omega), (by first | exact rwW_yes (by omega) (ordB_yes (by assumption)) | exact rwW_no (ordB_no (by assumption)))⟩ (by show (A.length - (y + 1)) < (A.length - y); omega)))
  ·refine R.go 3 (k1 ((x : Int) + 1) ?_)
   exact R.go 2 (k16 R1 (N2 (x + 1, rwW (ordB A) A.length x y) [3, 12, 13, 14] none _ (by kernel_rfl) (by kernel_rfl) ⟨(by omega), (by exact rwW_end (by omega) (by omega))⟩ (by show (A.length - (x + 1)) < (A.length - x); omega)))
 ·exact R.go 6 (k17 (ownA eI 2 1 (rowT (fun x => mkB (ordB A x) A.length) A.length x)) (by first | (rw [ordT_row (show x = A.length by omega)]) | (exfalso; omega)))

theorem equalR_c (a : List (List Int)) (b : List (List Int)) (la : a.length ≤ 1000000000) (lb : ∀ j : Nat, j < a.length → (a.getD j []).length ≤ 1000000000) : CallA Tryz.prog 240 [LLI a, LLI b, .fn 241 []] (.bool (decide (a = b))) := by
 refine CallA.of Tryz.func240 rfl (by kernel_rfl) ?_
 refine R.go 13 (k4 ((a.length : Int) = (b.length : Int)) (fun c1 => ?_) (fun c1 => ?_))
 ·exact R.go 4 (k17 (.bool false) (by first | (first | (rw [dF (fun h => by subst h; omega)]) | (rw [dT (take_all (i := i) (by omega) (by omega) (by assumption))]) | (rw [dF (fun h => by subst h; exact absurd rfl (by assumption))])) | (exfalso; omega)))
 ·refine R.go 9 (k15 (fun (i : Nat) => (⟨(frm 32 [(1, LLI b), (2, .fn 241 []), (15, LLI a), (16, AI a.length), (17, AI (i : Int))]), []⟩ : St)) (fun (i : Nat) => (i ≤ a.length) ∧ (a.take i = b.take i)) (fun (i : Nat) => a.length - i) 0 [1, 2, 15, 16, 17] none ⟨(by omega), (by rfl)⟩ ?_)
  rintro i ⟨h4_1, h4_2⟩ R2 N3
  refine R.go 5 (k3 ((i : Int) < (a.length : Int)) (fun c5 => ?_) (fun c5 => ?_))
  ·have hgl := lb i (by omega)
   refine R.go 6 (k8 eLI a [] i (i : Int) rfl eLI_len ?_)
   refine R.go 8 (k8 eLI b [] i (i : Int) rfl eLI_len ?_)
   refine R.go 8 (k14 true (equalI_c (a.getD i []) (b.getD i []) (by first | omega | (simp <;> omega))) rfl ?_)
   refine R.go 2 (k4 ((a.getD i []) = (b.getD i [])) (fun c6 => ?_) (fun c6 => ?_))
   ·exact R.go 4 (k17 (.bool false) (by first | (first | (rw [dF (fun h => by subst h; omega)]) | (rw [dT (take_all (i := i) (by omega) (by omega) (by assumption))]) | (rw [dF (fun h => by subst h; exact absurd rfl (by assumption))])) | (exfalso; omega)))
   ·refine R.go 3 (k1 ((i : Int) + 1) ?_)
    exact R.go 2 (k16 R2 (N3 (i + 1) [1, 2, 15, 16, 17] none _ (by kernel_rfl) (by kernel_rfl) ⟨(by omega), (by exact take_step a b [] i (by omega) (by omega) (by assumption) (by assumption))⟩ (by show (a.length - (i + 1)) < (a.length - i); omega)))
  ·exact R.go 5 (k17 (.bool true) (by first | (first | (rw [dF (fun h => by subst h; omega)]) | (rw [dT (take_all (i := i) (by omega) (by omega) (by assumption))]) | (rw [dF (fun h => by subst h; exact absurd rfl (by assumption))])) | (exfalso; omega)))

theorem sameTab_c (a : List (List Int)) (b : List (List Int)) (la : a.length ≤ 1000000000) (lb : ∀ j : Nat, j < a.length → (a.getD j []).length ≤ 1000000000) : CallA Tryz.prog 239 [LLI a, LLI b] (.bool (decide (a = b))) := by
 refine CallA.of Tryz.func239 rfl (by kernel_rfl) ?_
 refine R.go 8 (k14 true (equalR_c a b la lb) rfl ?_)
 exact R.go 2 (k17 (.bool (decide (a = b))) (by rfl))

theorem sameHey_c (A : List (List Int)) (O : List (List Int)) (J : List (List Int)) (A2 : List (List Int)) (O2 : List (List Int)) (J2 : List (List Int)) (b : Int) (t : Int) (b2 : Int) (t2 : Int) (la : A.length ≤ 1000000000 ∧ O.length ≤ 1000000000 ∧ J.length ≤ 1000000000) (mA : ∀ i0 : Nat, i0 < A.length → (A.getD i0 []).length ≤ 1000000000) (mO : ∀ i0 : Nat, i0 < O.length → (O.getD i0 []).length ≤ 1000000000) (mJ : ∀ i0 : Nat, i0 < J.length → (J.getD i0 []).length ≤ 1000000000) : CallA Tryz.prog 135 [.agg [LLI A, LLI O, LLI J, AI b, AI t], .agg [LLI A2, LLI O2, LLI J2, AI b2, AI t2]] (.bool (decide (b = b2 ∧ t = t2 ∧ A = A2 ∧ O = O2 ∧ J = J2))) := by
 refine CallA.of Tryz.func135 rfl (by kernel_rfl) ?_
 refine R.go 18 ?_
 by_cases c1 : b = b2
 ·refine k5 (decide (b = b2)) true (dT c1) ?_
  refine R.go 1 (k5 (decide (b = b2)) true (dT c1) ?_)
  refine R.go 1 (k5 (decide (b = b2)) true (dT c1) ?_)
  refine R.go 1 (k5 (decide (b = b2)) true (dT c1) ?_)
  refine R.go 1 (k5 (decide (b = b2)) true (dT c1) ?_)
  refine R.go 1 (k7 (decide (b = b2)) true (dT c1) ?_)
  refine R.go 1 ?_
  by_cases c2 : t = t2
  ·refine k5 (decide (t = t2)) true (dT c2) ?_
   refine R.go 1 (k5 (decide (t = t2)) true (dT c2) ?_)
   refine R.go 1 (k5 (decide (t = t2)) true (dT c2) ?_)
   refine R.go 1 (k5 (decide (t = t2)) true (dT c2) ?_)
   refine R.go 1 (k5 (decide (t = t2)) true (dT c2) ?_)
   refine R.go 1 (k5 (decide (t = t2)) true (dT c2) ?_)
   refine k14 true (sameTab_c A A2 (by first | omega | (simp <;> omega)) (by assumption)) rfl ?_
   refine k7 (decide (t = t2)) true (dT c2) ?_
   refine R.go 1 ?_
   by_cases c3 : A = A2
   ·refine k5 (decide (A = A2)) true (dT c3) ?_
    refine R.go 1 (k5 (decide (A = A2)) true (dT c3) ?_)
    refine R.go 1 (k5 (decide (A = A2)) true (dT c3) ?_)
    refine R.go 1 (k5 (decide (A = A2)) true (dT c3) ?_)
    refine R.go 1 (k5 (decide (A = A2)) true (dT c3) ?_)
    refine R.go 1 (k5 (decide (A = A2)) true (dT c3) ?_)
    refine k14 true (sameTab_c O O2 (by first | omega | (simp <;> omega)) (by assumption)) rfl ?_
    refine k7 (decide (A = A2)) true (dT c3) ?_
    refine R.go 1 ?_
    by_cases c4 : O = O2
    ·refine k5 (decide (O = O2)) true (dT c4) ?_
     refine R.go 1 (k5 (decide (O = O2)) true (dT c4) ?_)
     refine R.go 1 (k5 (decide (O = O2)) true (dT c4) ?_)
     refine R.go 1 (k5 (decide (O = O2)) true (dT c4) ?_)
     refine R.go 1 (k5 (decide (O = O2)) true (dT c4) ?_)
     refine R.go 1 (k5 (decide (O = O2)) true (dT c4) ?_)
     refine k14 true (sameTab_c J J2 (by first | omega | (simp <;> omega)) (by assumption)) rfl ?_
     refine k7 (decide (O = O2)) true (dT c4) ?_
     exact R.go 2 (k17 (.bool (decide (J = J2))) (by first | (apply congrArg AV.bool; first | exact (decide_eq_false fun q => absurd q.1 (by assumption)).symm | exact (decide_eq_false fun q => absurd q.2.1 (by assumption)).symm | exact (decide_eq_false fun q => absurd q.2.2.1 (by assumption)).symm | exact (decide_eq_false fun q => absurd q.2.2.2.1 (by assumption)).symm | exact (decide_eq_false fun q => absurd q.2.2.2.2 (by assumption)).symm | (refine decide_eq_decide.2 ⟨fun q => ⟨by assumption, by assumption, by assumption, by assumption, q⟩, fun q => q.2.2.2.2⟩) | (refine decide_eq_decide.2 ⟨fun q => ⟨by assumption, q, by assumption, by assumption, by assumption⟩, fun q => q.2.1⟩)) | (exfalso; omega)))
    ·refine k6 (decide (O = O2)) true (dF c4) ?_
     refine k6 (decide (O = O2)) true (dF c4) ?_
     refine k6 (decide (O = O2)) true (dF c4) ?_
     refine k6 (decide (O = O2)) true (dF c4) ?_
     refine k6 (decide (O = O2)) true (dF c4) ?_
     refine k6 (decide (O = O2)) true (dF c4) ?_
     refine k7 (decide (O = O2)) false (dF c4) ?_
     exact R.go 2 (k17 (.bool false) (by first | (apply congrArg AV.bool; first | exact (decide_eq_false fun q => absurd q.1 (by assumption)).symm | exact (decide_eq_false fun q => absurd q.2.1 (by assumption)).symm | exact (decide_eq_false fun q => absurd q.2.2.1 (by assumption)).symm | exact (decide_eq_false fun q => absurd q.2.2.2.1 (by assumption)).symm | exact (decide_eq_false fun q => absurd q.2.2.2.2 (by assumption)).symm | (refine decide_eq_decide.2 ⟨fun q => ⟨by assumption, by assumption, by assumption, by assumption, q⟩, fun q => q.2.2.2.2⟩) | (refine decide_eq_decide.2 ⟨fun q => ⟨by assumption, q, by assumption, by assumption, by assumption⟩, fun q => q.2.1⟩)) | (exfalso; omega)))
   ·refine k6 (decide (A = A2)) true (dF c3) ?_
    refine k6 (decide (A = A2)) true (dF c3) ?_
    refine k6 (decide (A = A2)) true (dF c3) ?_
    refine k6 (decide (A = A2)) true (dF c3) ?_
    refine k6 (decide (A = A2)) true (dF c3) ?_
    refine k6 (decide (A = A2)) true (dF c3) ?_
    refine k7 (decide (A = A2)) false (dF c3) ?_
    exact R.go 10 (k17 (.bool false) (by first | (apply congrArg AV.bool; first | exact (decide_eq_false fun q => absurd q.1 (by assumption)).symm | exact (decide_eq_false fun q => absurd q.2.1 (by assumption)).symm | exact (decide_eq_false fun q => absurd q.2.2.1 (by assumption)).symm | exact (decide_eq_false fun q => absurd q.2.2.2.1 (by assumption)).symm | exact (decide_eq_false fun q => absurd q.2.2.2.2 (by assumption)).symm | (refine decide_eq_decide.2 ⟨fun q => ⟨by assumption, by assumption, by assumption, by assumption, q⟩, fun q => q.2.2.2.2⟩) | (refine decide_eq_decide.2 ⟨fun q => ⟨by assumption, q, by assumption, by assumption, by assumption⟩, fun q => q.2.1⟩)) | (exfalso; omega)))
  ·refine k6 (decide (t = t2)) true (dF c2) ?_
   refine k6 (decide (t = t2)) true (dF c2) ?_
   refine k6 (decide (t = t2)) true (dF c2) ?_
   refine k6 (decide (t = t2)) true (dF c2) ?_
   refine k6 (decide (t = t2)) true (dF c2) ?_
   refine k6 (decide (t = t2)) true (dF c2) ?_
   refine k7 (decide (t = t2)) false (dF c2) ?_
   exact R.go 18 (k17 (.bool false) (by first | (apply congrArg AV.bool; first | exact (decide_eq_false fun q => absurd q.1 (by assumption)).symm | exact (decide_eq_false fun q => absurd q.2.1 (by assumption)).symm | exact (decide_eq_false fun q => absurd q.2.2.1 (by assumption)).symm | exact (decide_eq_false fun q => absurd q.2.2.2.1 (by assumption)).symm | exact (decide_eq_false fun q => absurd q.2.2.2.2 (by assumption)).symm | (refine decide_eq_decide.2 ⟨fun q => ⟨by assumption, by assumption, by assumption, by assumption, q⟩, fun q => q.2.2.2.2⟩) | (refine decide_eq_decide.2 ⟨fun q => ⟨by assumption, q, by assumption, by assumption, by assumption⟩, fun q => q.2.1⟩)) | (exfalso; omega)))
 ·refine k6 (decide (b = b2)) true (dF c1) ?_
  refine k6 (decide (b = b2)) true (dF c1) ?_
  refine k6 (decide (b = b2)) true (dF c1) ?_
  refine k6 (decide (b = b2)) true (dF c1) ?_
  refine k6 (decide (b = b2)) true (dF c1) ?_
  refine k7 (decide (b = b2)) false (dF c1) ?_
  exact R.go 26 (k17 (.bool false) (by first | (apply congrArg AV.bool; first | exact (decide_eq_false fun q => absurd q.1 (by assumption)).symm | exact (decide_eq_false fun q => absurd q.2.1 (by assumption)).symm | exact (decide_eq_false fun q => absurd q.2.2.1 (by assumption)).symm | exact (decide_eq_false fun q => absurd q.2.2.2.1 (by assumption)).symm | exact (decide_eq_false fun q => absurd q.2.2.2.2 (by assumption)).symm | (refine decide_eq_decide.2 ⟨fun q => ⟨by assumption, by assumption, by assumption, by assumption, q⟩, fun q => q.2.2.2.2⟩) | (refine decide_eq_decide.2 ⟨fun q => ⟨by assumption, q, by assumption, by assumption, by assumption⟩, fun q => q.2.1⟩)) | (exfalso; omega)))

end Go.Proofs.YtjllngcefoohpaaGreat


/-! The reference's algebra of an order; upset algebras of both programs. -/
namespace Go.Proofs.YtjllngcefoohpaaGreat
open Go.RowKit Go.Abs

theorem ordT_zero {U : List Int} : List.replicate U.length 0 = rowT (fun x => mkB (subU U x) U.length) U.length 0 := rowT_zero
/-- Row x under way. -/
def ordW (U : List Int) (x y : Nat) : List Int := (rowT (fun x => mkB (subU U x) U.length) U.length x).set x (mkB (subU U x) y)
theorem ordW_len (U : List Int) (x y : Nat) : (ordW U x y).length = U.length := by simp [ordW, rowT_len]
theorem ordW_get {U : List Int} {x y : Nat} (h : x < U.length) : (ordW U x y).getD x 0 = mkB (subU U x) y := by rw [ordW, getD_set_if _ _ _ _ _ (by rw [rowT_len]; exact h), if_pos rfl]
theorem ordW_zero {U : List Int} {x : Nat} (h : x < U.length) : rowT (fun x => mkB (subU U x) U.length) U.length x = ordW U x 0 := by
  refine rowN_ext (rowT_len _ _ _) (ordW_len _ _ _) fun j hj => ?_
  rw [ordW, getD_set_if _ _ _ _ _ (by rw [rowT_len]; exact h)]
  by_cases e : x = j
  · subst e; rw [if_pos rfl, rowT_get hj, if_neg (by omega)]; rfl
  · rw [if_neg e]
theorem ordW_yes {U : List Int} {x y : Nat} (hx : x < U.length) (h : bnot (U.getD x 0) (U.getD y 0) = 0) : (ordW U x y).set x (bor ((ordW U x y).getD x 0) (shl64 1 (y : Int))) = ordW U x (y + 1) := by
  rw [ordW_get hx, ordW, List.set_set, ordW, mkB_yes (P := subU U x) (decide_eq_true h)]
theorem ordW_no {U : List Int} {x y : Nat} (h : ¬ bnot (U.getD x 0) (U.getD y 0) = 0) : ordW U x y = ordW U x (y + 1) := by
  rw [ordW, ordW, mkB_no (P := subU U x) (k := y) (decide_eq_false h)]
theorem ordW_end {U : List Int} {x y : Nat} (hx : x < U.length) (hy : y = U.length) : ordW U x y = rowT (fun x => mkB (subU U x) U.length) U.length (x + 1) := by
  subst hy; exact rowT_set hx rfl
theorem ordU_row {U : List Int} {x : Nat} (h : x = U.length) : rowT (fun x => mkB (subU U x) U.length) U.length x = ordU U := rowT_end h
theorem ordU_rowR {U : List Int} {x : Nat} (h : x = U.length) : rowR (fun x => mkB (subU U x) U.length) x = ordU U := by rw [h]; rfl
theorem heytingOfU_c (U R : List Int) (hR : R = ordU U) (hH : HyOK (ordU U)) : CallE Tryz.prog 134 [LI R] (fun (b : Nat) (r : AV) => ∃ LA : List (Value × List Int), ∃ LO : List (Value × List Int), ∃ LJ : List (Value × List Int), r = .tup [.agg [ownA (eV eI 2 1) 30 1 LA, ownA (eV eI 2 1) 30 1 LO, ownA (eV eI 2 1) 30 1 LJ, AI (lowF (ordU U) (fullM (ordU U).length)), AI (lowF (invA (ordU U) (ordU U).length) (fullM (ordU U).length))], .bool true] ∧ (NL b LA) ∧ (NL b LO) ∧ (NL b LJ) ∧ (NX LA LO) ∧ (NX LA LJ) ∧ (NX LO LJ) ∧ (LA.map Prod.snd = tabR (hyM (ordU U)) (ordU U).length (ordU U).length) ∧ (LO.map Prod.snd = tabR (hyJ (ordU U)) (ordU U).length (ordU U).length) ∧ (LJ.map Prod.snd = tabR (hyI (ordU U)) (ordU U).length (ordU U).length)) := by subst hR; exact heytingOf_c _ hH

theorem heytingOfU_c_cl (U R : List Int) : ∀ (b : Nat) (r : AV), (fun (b : Nat) (r : AV) => ∃ LA : List (Value × List Int), ∃ LO : List (Value × List Int), ∃ LJ : List (Value × List Int), r = .tup [.agg [ownA (eV eI 2 1) 30 1 LA, ownA (eV eI 2 1) 30 1 LO, ownA (eV eI 2 1) 30 1 LJ, AI (lowF (ordU U) (fullM (ordU U).length)), AI (lowF (invA (ordU U) (ordU U).length) (fullM (ordU U).length))], .bool true] ∧ (NL b LA) ∧ (NL b LO) ∧ (NL b LJ) ∧ (NX LA LO) ∧ (NX LA LJ) ∧ (NX LO LJ) ∧ (LA.map Prod.snd = tabR (hyM (ordU U)) (ordU U).length (ordU U).length) ∧ (LO.map Prod.snd = tabR (hyJ (ordU U)) (ordU U).length (ordU U).length) ∧ (LJ.map Prod.snd = tabR (hyI (ordU U)) (ordU U).length (ordU U).length)) b r → ClosedN b r := heytingOf_c_cl (ordU U)

theorem upsetAlgebra_c (n : Int) (xs : List Int) (hP : okPo n xs = true) (h30 : (upL n xs).length ≤ 30) : CallE Tryz.prog 71 [.agg [AI n, LI xs]] (fun (b : Nat) (r : AV) => ∃ LA : List (Value × List Int), ∃ LO : List (Value × List Int), ∃ LJ : List (Value × List Int), r = .agg [ownA (eV eI 2 1) 30 1 LA, ownA (eV eI 2 1) 30 1 LO, ownA (eV eI 2 1) 30 1 LJ, AI (lowF (ordU (upL n xs)) (fullM (ordU (upL n xs)).length)), AI (lowF (invA (ordU (upL n xs)) (ordU (upL n xs)).length) (fullM (ordU (upL n xs)).length))] ∧ (NL b LA) ∧ (NL b LO) ∧ (NL b LJ) ∧ (NX LA LO) ∧ (NX LA LJ) ∧ (NX LO LJ) ∧ (LA.map Prod.snd = tabR (hyM (ordU (upL n xs))) (ordU (upL n xs)).length (ordU (upL n xs)).length) ∧ (LO.map Prod.snd = tabR (hyJ (ordU (upL n xs))) (ordU (upL n xs)).length (ordU (upL n xs)).length) ∧ (LJ.map Prod.snd = tabR (hyI (ordU (upL n xs))) (ordU (upL n xs)).length (ordU (upL n xs)).length)) := by
 have hH : HyOK (ordU (upL n xs)) := up_hy hP h30
 have hol := ordU_len (upL n xs)
 refine CallE.of Tryz.func71 rfl (by kernel_rfl) (fun b => ?_)
 refine R.go 8 (k14 true (upsets_c n xs hP) rfl ?_)
 refine R.go 6 (k13 eI 0 2 8 ((upL n xs).length) ((upL n xs).length) rfl ?_)
 refine R.go 10 (k15 ((fun | (x, R) => (⟨(frm 49 [(2, .ptr 1 0), (3, .ref 2), (4, .ref 3), (16, .ref 2), (17, AI ((upL n xs).length)), (18, AI (x : Int))]), [.inert (.base b), .box 26 [.nil, .nil, .nil, AI 0, AI 0], rowA eI 2 1 (upL n xs), rowA eI 2 1 R]⟩ : St) : Nat × (List Int) → St)) (fun | (x, R) => (x ≤ (upL n xs).length) ∧ (R = rowT (fun x => mkB (subU (upL n xs) x) (upL n xs).length) (upL n xs).length x)) (fun | (x, R) => (upL n xs).length - x) (0, (List.replicate ((upL n xs).length) 0)) [2, 3, 4, 16, 17, 18] (some [0, 2, 3, 4]) ⟨(by omega), (by exact ordT_zero)⟩ ?_)
 rintro ⟨x, R⟩ ⟨h4_1, rfl⟩ R1 N2
 have hrl := rowT_len (fun x => mkB (subU (upL n xs) x) (upL n xs).length) (upL n xs).length x
 refine R.go 5 (k3 ((x : Int) < ((upL n xs).length : Int)) (fun c5 => ?_) (fun c5 => ?_))
 ·refine R.go 6 (k9 2 1 (upL n xs).length x (x : Int) ?_ (hji := rfl))
  refine k10 (upL n xs) x ?_
  refine R.go 10 (k15 ((fun | (y, W) => (⟨(frm 49 [(2, .ptr 1 0), (3, .ref 2), (4, .ref 3), (5, AI (x : Int)), (6, AI ((upL n xs).getD x 0)), (16, .ref 2), (17, AI ((upL n xs).length)), (18, AI (x : Int)), (23, .ref 2), (24, AI ((upL n xs).length)), (25, AI (y : Int))]), [.inert (.base b), .box 26 [.nil, .nil, .nil, AI 0, AI 0], rowA eI 2 1 (upL n xs), rowA eI 2 1 W]⟩ : St) : Nat × (List Int) → St)) (fun | (y, W) => (y ≤ (upL n xs).length) ∧ (W = ordW (upL n xs) x y)) (fun | (y, W) => (upL n xs).length - y) (0, (rowT (fun x => mkB (subU (upL n xs) x) (upL n xs).length) (upL n xs).length x)) [2, 3, 4, 5, 6, 16, 17, 18, 23, 24, 25] none ⟨(by omega), (by exact ordW_zero (by omega))⟩ ?_)
  rintro ⟨y, W⟩ ⟨h9_1, rfl⟩ R6 N7
  have hwl := ordW_len (upL n xs) x y
  refine R.go 5 (k3 ((y : Int) < ((upL n xs).length : Int)) (fun c10 => ?_) (fun c10 => ?_))
  ·refine R.go 6 (k9 2 1 (upL n xs).length y (y : Int) ?_ (hji := rfl))
   refine k10 (upL n xs) y ?_
   refine R.go 7 (k14 true (within_c ((upL n xs).getD x 0) ((upL n xs).getD y 0)) rfl ?_)
   refine R.go 1 (k3 (bnot ((upL n xs).getD x 0) ((upL n xs).getD y 0) = 0) (fun c11 => ?_) (fun c11 => ?_))
   ·refine R.meet (⟨(frm 49 [(2, .ptr 1 0), (3, .ref 2), (4, .ref 3), (5, AI (x : Int)), (6, AI ((upL n xs).getD x 0)), (7, AI (y : Int)), (8, AI ((upL n xs).getD y 0)), (16, .ref 2), (17, AI ((upL n xs).length)), (18, AI (x : Int)), (23, .ref 2), (24, AI ((upL n xs).length)), (25, AI (y : Int)), (26, .bool (decide ((y : Int) < ((upL n xs).length : Int)))), (27, AI (y : Int)), (28, .ptr 2 (y * 1)), (29, AI ((upL n xs).getD y 0)), (30, AI ((upL n xs).getD x 0)), (31, AI ((upL n xs).getD y 0)), (32, .bool (decide (bnot ((upL n xs).getD x 0) ((upL n xs).getD y 0) = 0))), (33, .ref 3), (34, AI (x : Int)), (35, .ptr 3 (x * 1)), (36, AI ((ordW (upL n xs) x y).getD x 0)), (37, AI (y : Int)), (38, AI (shl64 1 (y : Int))), (39, AI (bor ((ordW (upL n xs) x y).getD x 0) (shl64 1 (y : Int)))), (40, .ptr 3 (x * 1))]), [.inert (.base b), .box 26 [.nil, .nil, .nil, AI 0, AI 0], rowA eI 2 1 (upL n xs), rowA eI 2 1 ((ordW (upL n xs) x y).set x (bor ((ordW (upL n xs) x y).getD x 0) (shl64 1 (y : Int))))]⟩ : St) (by kernel_rfl) ?_ ?_
    ·refine R.any (by decide +kernel) (by kernel_rfl) ?_
     refine k24 0 (np_meet _) ?_
     refine k24 1 (np_meet _) ?_
     refine k24 4 (np_meet _) ?_
     refine k32 2 3 1 (ordW (upL n xs) x y).length x (x : Int) rfl (np_meet _) ?_
     refine R.anyS 5 1 (y : Int) (by kernel_rfl) (by omega) (np_meet _) ?_
     refine k21 3 ?_
     refine k10 (ordW (upL n xs) x y) x ?_
     refine R.go 1 (k21 6 ?_)
     refine R.go 2 (k32 7 3 1 (ordW (upL n xs) x y).length x (x : Int) rfl (np_meet _) ?_)
     refine k21 8 ?_
     refine k11 3 2 (ordW (upL n xs) x y) x (bor ((ordW (upL n xs) x y).getD x 0) (shl64 1 (y : Int))) ?_
     refine R.go 1 (k20 ?_)
     exact k25
    ·refine R.go 2 (k1 ((y : Int) + 1) ?_)
     exact R.go 2 (k16 R6 (N7 (y + 1, (ordW (upL n xs) x y).set x (bor ((ordW (upL n xs) x y).getD x 0) (shl64 1 (y : Int)))) [2, 3, 4, 5, 6, 16, 17, 18, 23, 24, 25] none _ (by kernel_rfl) (by kernel_rfl) ⟨(by omega), (by first | exact ordW_yes (by omega) (by assumption) | exact ordW_no (by assumption))⟩ (by show ((upL n xs).length - (y + 1)) < ((upL n xs).length - y); omega)))
   ·refine R.go 3 (k1 ((y : Int) + 1) ?_)
    exact R.go 2 (k16 R6 (N7 (y + 1, ordW (upL n xs) x y) [2, 3, 4, 5, 6, 16, 17, 18, 23, 24, 25] none _ (by kernel_rfl) (by kernel_rfl) ⟨(by omega), (by first | exact ordW_yes (by omega) (by assumption) | exact ordW_no (by assumption))⟩ (by show ((upL n xs).length - (y + 1)) < ((upL n xs).length - y); omega)))
  ·refine R.go 3 (k1 ((x : Int) + 1) ?_)
   exact R.go 2 (k16 R1 (N2 (x + 1, ordW (upL n xs) x y) [2, 3, 4, 16, 17, 18] none _ (by kernel_rfl) (by kernel_rfl) ⟨(by omega), (by exact ordW_end (by omega) (by omega))⟩ (by show ((upL n xs).length - (x + 1)) < ((upL n xs).length - x); omega)))
 ·refine R.go 4 (R.callE (avs0 := [.ref 3]) (heytingOfU_c (upL n xs) (rowT (fun x => mkB (subU (upL n xs) x) (upL n xs).length) (upL n xs).length x) (by first | exact ordU_rowR (by omega) | exact ordU_row (by omega)) hH) (by kernel_rfl) (.cons (.ref (e := 2) (s := 1) (n := (rowT (fun x => mkB (subU (upL n xs) x) (upL n xs).length) (upL n xs).length x).length) (cs := rows eI (rowT (fun x => mkB (subU (upL n xs) x) (upL n xs).length) (upL n xs).length x)) (by kernel_rfl)) (.nil)) (heytingOfU_c_cl (upL n xs) (rowT (fun x => mkB (subU (upL n xs) x) (upL n xs).length) (upL n xs).length x)) (by kernel_rfl) ?_)
  intro bE1 hbn12 hsn13 rn14 hrn15
  obtain ⟨LAE1, LOE1, LJE1, rfl, heE1_1, heE1_2, heE1_3, heE1_4, heE1_5, heE1_6, heE1_7, heE1_8, heE1_9⟩ := hrn15
  have hbb16 : b ≤ bE1 := hbn12 0 b (by kernel_rfl)
  clear hbn12 hsn13
  exact R.go 12 (k27 (.agg [ownA (eV eI 2 1) 30 1 LAE1, ownA (eV eI 2 1) 30 1 LOE1, ownA (eV eI 2 1) 30 1 LJE1, AI (lowF (ordU (upL n xs)) (fullM (ordU (upL n xs)).length)), AI (lowF (invA (ordU (upL n xs)) (ordU (upL n xs)).length) (fullM (ordU (upL n xs)).length))]) ⟨LAE1, LOE1, LJE1, rfl, by first | (exact NL.mono ‹NL bE1 LAE1› ‹b ≤ bE1›) | (exfalso; omega), by first | (exact NL.mono ‹NL bE1 LOE1› ‹b ≤ bE1›) | (exfalso; omega), by first | (exact NL.mono ‹NL bE1 LJE1› ‹b ≤ bE1›) | (exfalso; omega), by first | (assumption) | (exfalso; omega), by first | (assumption) | (exfalso; omega), by first | (assumption) | (exfalso; omega), by first | (assumption) | (exfalso; omega), by first | (assumption) | (exfalso; omega), by first | (assumption) | (exfalso; omega)⟩)
theorem upsetAlgebra_c_cl (n : Int) (xs : List Int) : ∀ (b : Nat) (r : AV), (fun (b : Nat) (r : AV) => ∃ LA : List (Value × List Int), ∃ LO : List (Value × List Int), ∃ LJ : List (Value × List Int), r = .agg [ownA (eV eI 2 1) 30 1 LA, ownA (eV eI 2 1) 30 1 LO, ownA (eV eI 2 1) 30 1 LJ, AI (lowF (ordU (upL n xs)) (fullM (ordU (upL n xs)).length)), AI (lowF (invA (ordU (upL n xs)) (ordU (upL n xs)).length) (fullM (ordU (upL n xs)).length))] ∧ (NL b LA) ∧ (NL b LO) ∧ (NL b LJ) ∧ (NX LA LO) ∧ (NX LA LJ) ∧ (NX LO LJ) ∧ (LA.map Prod.snd = tabR (hyM (ordU (upL n xs))) (ordU (upL n xs)).length (ordU (upL n xs)).length) ∧ (LO.map Prod.snd = tabR (hyJ (ordU (upL n xs))) (ordU (upL n xs)).length (ordU (upL n xs)).length) ∧ (LJ.map Prod.snd = tabR (hyI (ordU (upL n xs))) (ordU (upL n xs)).length (ordU (upL n xs)).length)) b r → ClosedN b r := by
 rintro b r ⟨LA, LO, LJ, rfl, e0, e1, e2, e3, e4, e5, e6, e7, e8⟩
 exact (closedN_agg (closedNL_cons (closedN_own _ e0 eI_closed) (closedNL_cons (closedN_own _ e1 eI_closed) (closedNL_cons (closedN_own _ e2 eI_closed) (closedNL_cons closedN_int (closedNL_cons closedN_int closedNL_nil))))))

end Go.Proofs.YtjllngcefoohpaaGreat


/-! Both packages tell a Heyting algebra. -/
namespace Go.Proofs.YtjllngcefoohpaaGreat
open Go.RowKit Go.Abs

theorem ntF {b : Bool} (h : b = false) : ¬ b = true := by rw [h]; decide
theorem ok_ordT {A : List (List Int)} (h30 : A.length ≤ 30) (hB : hyB (ordT A) = true) : HyOK (ordT A) := hyB_ok (by rw [ordT_len]; exact h30) (ordT_rel (by omega)) hB

theorem isHeytingYE (A : List (List Int)) (O : List (List Int)) (J : List (List Int)) (bo : Int) (t : Int) (la : A.length ≤ 1000000000 ∧ O.length ≤ 1000000000 ∧ J.length ≤ 1000000000) (mA : ∀ i0 : Nat, i0 < A.length → (A.getD i0 []).length ≤ 1000000000) (mO : ∀ i0 : Nat, i0 < O.length → (O.getD i0 []).length ≤ 1000000000) (mJ : ∀ i0 : Nat, i0 < J.length → (J.getD i0 []).length ≤ 1000000000) (hB : hyB (ordT A) = true) : CallE Tryz.prog 53 [.agg [LLI A, LLI O, LLI J, AI bo, AI t]] (fun (b : Nat) (r : AV) => r = .bool (hyIs A O J bo t)) := by
 refine CallE.of Tryz.func53 rfl (by kernel_rfl) (fun b => ?_)
 refine R.go 9 (k14 true (hsize_c A O J bo t) rfl ?_)
 refine k14 true (inRange_c A.length 1 30) rfl ?_
 refine R.go 2 ?_
 refine (Bool.eq_false_or_eq_true (inR A.length 1 30)).elim (fun c1 => ?_) (fun c1 => ?_)
 ·refine k5 (!(inR A.length 1 30)) false (bnF c1) ?_
  refine R.go 1 (k5 (!(inR A.length 1 30)) false (bnF c1) ?_)
  refine R.go 1 (k5 (!(inR A.length 1 30)) false (bnF c1) ?_)
  refine R.go 1 (k5 (!(inR A.length 1 30)) false (bnF c1) ?_)
  refine k14 true (isTable_c A O J bo t A (by first | omega | (simp <;> omega)) (by first | omega | (simp <;> omega)) mA) rfl ?_
  refine k5 (!(inR A.length 1 30)) false (bnF c1) ?_
  refine R.go 1 (k7 (!(inR A.length 1 30)) false (bnF c1) ?_)
  refine R.go 1 ?_
  refine (Bool.eq_false_or_eq_true (tabB A.length A)).elim (fun c2 => ?_) (fun c2 => ?_)
  ·refine k5 (!(tabB A.length A)) false (bnF c2) ?_
   refine R.go 1 (k5 (!(tabB A.length A)) false (bnF c2) ?_)
   refine R.go 1 (k5 (!(tabB A.length A)) false (bnF c2) ?_)
   refine R.go 1 (k5 (!(tabB A.length A)) false (bnF c2) ?_)
   refine k14 true (isTable_c A O J bo t O (by first | omega | (simp <;> omega)) (by first | omega | (simp <;> omega)) mO) rfl ?_
   refine k5 (!(tabB A.length A)) false (bnF c2) ?_
   refine R.go 1 (k7 (!(tabB A.length A)) false (bnF c2) ?_)
   refine R.go 1 ?_
   refine (Bool.eq_false_or_eq_true (tabB A.length O)).elim (fun c3 => ?_) (fun c3 => ?_)
   ·refine k5 (!(tabB A.length O)) false (bnF c3) ?_
    refine R.go 1 (k5 (!(tabB A.length O)) false (bnF c3) ?_)
    refine R.go 1 (k5 (!(tabB A.length O)) false (bnF c3) ?_)
    refine R.go 1 (k5 (!(tabB A.length O)) false (bnF c3) ?_)
    refine k14 true (isTable_c A O J bo t J (by first | omega | (simp <;> omega)) (by first | omega | (simp <;> omega)) mJ) rfl ?_
    refine k5 (!(tabB A.length O)) false (bnF c3) ?_
    refine R.go 1 (k7 (!(tabB A.length O)) false (bnF c3) ?_)
    refine R.go 1 (k19 (tabB A.length J) (fun c4 => ?_) (fun c4 => ?_))
    ·exact R.go 4 (k27 (.bool false) (by first | rfl | (apply congrArg AV.bool; first | exact hyIs_1 (by have h9 := (inR_not _ _ _).1 (by assumption : inR (A.length : Int) 1 30 = false); omega) | exact hyIs_2 (ntF (by assumption)) | exact hyIs_3 (ntF (by assumption)) | exact hyIs_4 (ntF (by assumption)) | (rw [heE1_7, heE1_8, heE1_9, ordT_len]; exact hyIs_6 (by omega) (by assumption) (by assumption) (by assumption) hB)) | (exfalso; omega)))
    ·have hr30 := (inR_iff _ _ _).1 (by assumption : inR (A.length : Int) 1 30 = true)
     have hol := ordT_len A
     have hO : HyOK (ordT A) := ok_ordT (by omega) hB
     refine R.go 4 (k14 true (order_c A O J bo t c2 (by first | omega | (simp <;> omega))) rfl ?_)
     refine R.callE (avs0 := [.ref 2]) (heytingOf_c (ordT A) hO) (by kernel_rfl) (.cons (.ref (e := 2) (s := 1) (n := (ordT A).length) (cs := rows eI (ordT A)) (by kernel_rfl)) (.nil)) (heytingOf_c_cl (ordT A)) (by kernel_rfl) ?_
     intro bE1 hbn5 hsn6 rn7 hrn8
     obtain ⟨LAE1, LOE1, LJE1, rfl, heE1_1, heE1_2, heE1_3, heE1_4, heE1_5, heE1_6, heE1_7, heE1_8, heE1_9⟩ := hrn8
     have hbb9 : b ≤ bE1 := hbn5 0 b (by kernel_rfl)
     clear hbn5 hsn6
     refine R.go 13 (R.callW (avs0 := [.agg [LLI A, LLI O, LLI J, AI bo, AI t], .agg [.ref 3, .ref 4, .ref 5, AI (lowF (ordT A) (fullM (ordT A).length)), AI (lowF (invA (ordT A) (ordT A).length) (fullM (ordT A).length))]]) (sameHey_c A O J (LAE1.map Prod.snd) (LOE1.map Prod.snd) (LJE1.map Prod.snd) bo t (lowF (ordT A) (fullM (ordT A).length)) (lowF (invA (ordT A) (ordT A).length) (fullM (ordT A).length)) la mA mO mJ) (by kernel_rfl) (.cons (.agg (.cons (.leaf rfl) (.cons (.leaf rfl) (.cons (.leaf rfl) (.cons (.leaf rfl) (.cons (.leaf rfl) (.nil))))))) (.cons (.agg (.cons (.wk (.ref (e := 30) (s := 1) (n := LAE1.length) (cs := rows (eV eI 2 1) LAE1) (by kernel_rfl)) (fgtV (fun _ => rfl) _)) (.cons (.wk (.ref (e := 30) (s := 1) (n := LOE1.length) (cs := rows (eV eI 2 1) LOE1) (by kernel_rfl)) (fgtV (fun _ => rfl) _)) (.cons (.wk (.ref (e := 30) (s := 1) (n := LJE1.length) (cs := rows (eV eI 2 1) LJE1) (by kernel_rfl)) (fgtV (fun _ => rfl) _)) (.cons (.leaf rfl) (.cons (.leaf rfl) (.nil))))))) (.nil))) rfl (by kernel_rfl) ?_)
     exact R.go 3 (k27 (.bool (decide (bo = (lowF (ordT A) (fullM (ordT A).length)) ∧ t = (lowF (invA (ordT A) (ordT A).length) (fullM (ordT A).length)) ∧ A = (LAE1.map Prod.snd) ∧ O = (LOE1.map Prod.snd) ∧ J = (LJE1.map Prod.snd)))) (by first | rfl | (apply congrArg AV.bool; first | exact hyIs_1 (by have h9 := (inR_not _ _ _).1 (by assumption : inR (A.length : Int) 1 30 = false); omega) | exact hyIs_2 (ntF (by assumption)) | exact hyIs_3 (ntF (by assumption)) | exact hyIs_4 (ntF (by assumption)) | (rw [heE1_7, heE1_8, heE1_9, ordT_len]; exact hyIs_6 (by omega) (by assumption) (by assumption) (by assumption) hB)) | (exfalso; omega)))
   ·refine k6 (!(tabB A.length O)) false (bnT c3) ?_
    refine k6 (!(tabB A.length O)) false (bnT c3) ?_
    refine k6 (!(tabB A.length O)) false (bnT c3) ?_
    refine k6 (!(tabB A.length O)) false (bnT c3) ?_
    refine k6 (!(tabB A.length O)) false (bnT c3) ?_
    refine k7 (!(tabB A.length O)) true (bnT c3) ?_
    exact R.go 6 (k27 (.bool false) (by first | rfl | (apply congrArg AV.bool; first | exact hyIs_1 (by have h9 := (inR_not _ _ _).1 (by assumption : inR (A.length : Int) 1 30 = false); omega) | exact hyIs_2 (ntF (by assumption)) | exact hyIs_3 (ntF (by assumption)) | exact hyIs_4 (ntF (by assumption)) | (rw [heE1_7, heE1_8, heE1_9, ordT_len]; exact hyIs_6 (by omega) (by assumption) (by assumption) (by assumption) hB)) | (exfalso; omega)))
  ·refine k6 (!(tabB A.length A)) false (bnT c2) ?_
   refine k6 (!(tabB A.length A)) false (bnT c2) ?_
   refine k6 (!(tabB A.length A)) false (bnT c2) ?_
   refine k6 (!(tabB A.length A)) false (bnT c2) ?_
   refine k6 (!(tabB A.length A)) false (bnT c2) ?_
   refine k7 (!(tabB A.length A)) true (bnT c2) ?_
   exact R.go 13 (k27 (.bool false) (by first | rfl | (apply congrArg AV.bool; first | exact hyIs_1 (by have h9 := (inR_not _ _ _).1 (by assumption : inR (A.length : Int) 1 30 = false); omega) | exact hyIs_2 (ntF (by assumption)) | exact hyIs_3 (ntF (by assumption)) | exact hyIs_4 (ntF (by assumption)) | (rw [heE1_7, heE1_8, heE1_9, ordT_len]; exact hyIs_6 (by omega) (by assumption) (by assumption) (by assumption) hB)) | (exfalso; omega)))
 ·refine k6 (!(inR A.length 1 30)) false (bnT c1) ?_
  refine k6 (!(inR A.length 1 30)) false (bnT c1) ?_
  refine k6 (!(inR A.length 1 30)) false (bnT c1) ?_
  refine k6 (!(inR A.length 1 30)) false (bnT c1) ?_
  refine k6 (!(inR A.length 1 30)) false (bnT c1) ?_
  refine k7 (!(inR A.length 1 30)) true (bnT c1) ?_
  exact R.go 20 (k27 (.bool false) (by first | rfl | (apply congrArg AV.bool; first | exact hyIs_1 (by have h9 := (inR_not _ _ _).1 (by assumption : inR (A.length : Int) 1 30 = false); omega) | exact hyIs_2 (ntF (by assumption)) | exact hyIs_3 (ntF (by assumption)) | exact hyIs_4 (ntF (by assumption)) | (rw [heE1_7, heE1_8, heE1_9, ordT_len]; exact hyIs_6 (by omega) (by assumption) (by assumption) (by assumption) hB)) | (exfalso; omega)))
end Go.Proofs.YtjllngcefoohpaaGreat


/-! Values in a Heyting algebra; the search for values that refute a formula: what the program computes. -/
namespace Go.Proofs.YtjllngcefoohpaaGreat
open Go.RowKit Go.Abs

/-- Tables and a plain formula. -/
structure HVH (A O J : List (List Int)) (bo : Int) (a : List (Int × Int)) : Prop where
  n0 : 0 < A.length
  n30 : A.length ≤ 30
  tA : tabB A.length A = true
  tO : tabB A.length O = true
  tJ : tabB A.length J = true
  b0 : bo = 0
  f : isF a = true
  pl : a.any modN = false
theorem inN_take {N : Nat} {S : List Int} (hN : 0 < N) (h : ∀ i, inN N (S.getD i 0)) (k i : Nat) : inN N ((S.take k).getD i 0) := by
  rw [List.getD_eq_getElem?_getD, List.getElem?_take]
  split
  · rw [← List.getD_eq_getElem?_getD]; exact h i
  · exact ⟨by simp, by simp; omega⟩
/-- Is a value in the valuations that begin with p another one than t? -/
def rngH (A O J : List (List Int)) (t : Int) (vs : List Int) (a : List (Int × Int)) : Nat → Nat → Bool
  | 0, p => badH A O J t vs a p
  | d + 1, p => (List.range A.length).any fun x => rngH A O J t vs a d (p * A.length + x)
theorem rngH_0 {A O J : List (List Int)} {t : Int} {vs X : List Int} {a : List (Int × Int)} {p : Nat} (h : X = vrU (rgU A.length) vs p) : (!decide (heyV A O J X a = t)) = rngH A O J t vs a 0 p := by rw [h]; rfl
theorem rngH_yes {A O J : List (List Int)} {t : Int} {vs : List Int} {a : List (Int × Int)} {d p i : Nat} (hi : i < A.length) (h : rngH A O J t vs a d (p * A.length + i) = true) : true = rngH A O J t vs a (d + 1) p := by
  rw [rngH]
  exact (List.any_eq_true.2 ⟨i, List.mem_range.2 hi, h⟩).symm
theorem rngH_no {A O J : List (List Int)} {t : Int} {vs : List Int} {a : List (Int × Int)} {d p : Nat} (h : ∀ i : Nat, i < A.length → rngH A O J t vs a d (p * A.length + i) = false) : false = rngH A O J t vs a (d + 1) p := by
  rw [rngH]
  refine (List.any_eq_false.2 fun x hx => ?_).symm
  rw [h x (List.mem_range.1 hx)]; decide
theorem rngH_iff {A O J : List (List Int)} {t : Int} {vs : List Int} {a : List (Int × Int)} : ∀ d p, rngH A O J t vs a d p = true ↔ ∃ M, p * A.length ^ d ≤ M ∧ M < (p + 1) * A.length ^ d ∧ badH A O J t vs a M = true
  | 0, p => by
    rw [rngH]
    constructor
    · intro h; exact ⟨p, by simp, by simp, h⟩
    · rintro ⟨M, h1, h2, h3⟩
      obtain rfl : M = p := by simp at h1 h2; omega
      exact h3
  | d + 1, p => by
    rw [rngH, List.any_eq_true]
    have e : ∀ q : Nat, q * A.length ^ (d + 1) = q * A.length * A.length ^ d := fun q => by rw [Nat.pow_succ, Nat.mul_comm (A.length ^ d), Nat.mul_assoc]
    constructor
    · rintro ⟨x, hx, h⟩
      rw [List.mem_range] at hx
      obtain ⟨M, h1, h2, h3⟩ := (rngH_iff d _).1 h
      refine ⟨M, ?_, ?_, h3⟩
      · rw [e]
        refine Nat.le_trans (Nat.mul_le_mul_right _ ?_) h1
        omega
      · rw [e]
        refine Nat.lt_of_lt_of_le h2 (Nat.mul_le_mul_right _ ?_)
        rw [Nat.add_mul]; omega
    · rintro ⟨M, h1, h2, h3⟩
      rw [e] at h1 h2
      have hN : 0 < A.length ^ d := by
        rcases Nat.eq_zero_or_pos (A.length ^ d) with h | h
        · rw [h] at h2; omega
        · exact h
      have k1 : p * A.length ≤ M / A.length ^ d := (Nat.le_div_iff_mul_le hN).2 h1
      have k2 : M / A.length ^ d < (p + 1) * A.length := (Nat.div_lt_iff_lt_mul hN).2 h2
      rw [Nat.add_mul] at k2
      refine ⟨M / A.length ^ d - p * A.length, List.mem_range.2 (by omega), (rngH_iff d _).2 ⟨M, ?_, ?_, h3⟩⟩
      · rw [show p * A.length + (M / A.length ^ d - p * A.length) = M / A.length ^ d by omega]; exact Nat.div_mul_le_self _ _
      · rw [show p * A.length + (M / A.length ^ d - p * A.length) = M / A.length ^ d by omega]
        exact Nat.lt_mul_of_div_lt (Nat.lt_succ_self _) hN
theorem rngH_all {A O J : List (List Int)} {t : Int} {vs : List Int} {a : List (Int × Int)} {d : Nat} : rngH A O J t vs a d 0 = !(fstN (badH A O J t vs a) (A.length ^ d)).isNone := by
  rw [Bool.eq_iff_iff, rngH_iff]
  cases e : fstN (badH A O J t vs a) (A.length ^ d) with
  | none =>
    refine ⟨?_, fun h => by cases h⟩
    rintro ⟨M, _, h2, h3⟩
    rw [fstN_none e M (by simpa using h2)] at h3; cases h3
  | some N =>
    refine ⟨fun _ => rfl, fun _ => ?_⟩
    obtain ⟨h1, h2, _⟩ := fstN_some e
    exact ⟨N, by simp, by simpa using h1, h2⟩
theorem pvH_step {N : Nat} {vs : List Int} {p k i : Nat} {X : List Int} (h : PVU (rgU N) vs p k X) (hv : VS vs) (hk : k < vs.length) (hi : i < N) : PVU (rgU N) vs (p * N + i) (k + 1) (X.set (vs.getD k 0).toNat (i : Int)) := by
  have := pvU_step (i := i) h hv hk (by rw [rgU_len]; exact hi)
  rwa [rgU_len, rgU_get hi] at this
theorem pvH_back {N : Nat} {vs : List Int} {p k i : Nat} {X : List Int} (h : PVU (rgU N) vs (p * N + i) (k + 1) X) (hv : VS vs) (hk : k < vs.length) (hi : i < N) : PVU (rgU N) vs p k X := by
  refine ⟨h.1, fun j hj => ⟨fun hjm => ?_, (h.2 j hj).2⟩⟩
  have hlt := idx_take hv (by omega) hjm
  have hm : (j : Int) ∈ vs.take (k + 1) := by
    rw [List.take_succ_eq_append_getElem hk, List.mem_append]; exact .inl hjm
  have h2 := (h.2 j hj).1 hm
  rw [rgU_len] at h2 ⊢
  rw [h2, show k + 1 - 1 - vs.idxOf (j : Int) = (k - 1 - vs.idxOf (j : Int)) + 1 by omega, Nat.pow_succ, Nat.mul_comm (N ^ _) N, ← Nat.div_div_eq_div_mul, Nat.mul_comm p, Nat.mul_add_div (by omega), Nat.div_eq_of_lt hi, Nat.add_zero]
theorem pvH_len {N : Nat} {vs : List Int} {p k : Nat} {X : List Int} (h : PVU (rgU N) vs p k X) : X.length = 6 := h.1
theorem hcode_ok {A O J : List (List Int)} {bo t : Int} {a : List (Int × Int)} (h : hcode A O J bo t a = 0) : hyIs A O J bo t = true ∧ isF a = true ∧ allPl [a] = true ∧ pwT (A.length : Int) (mem (vmT [a] [a].length)).length ≤ 4096 := by
  unfold hcode at h
  split at h
  · rename_i h1
    split at h
    · rename_i h2
      split at h
      · exact ⟨h1.1, h1.2, h2, by assumption⟩
      · cases h
    · cases h
  · cases h
theorem hvh_of {A O J : List (List Int)} {bo t : Int} {a : List (Int × Int)} (h : hyIs A O J bo t = true) (hF : isF a = true) (hp : a.any modN = false) (hb : bo = 0) : HVH A O J bo a := by
  obtain ⟨h1, h2, h3, h4, _⟩ := hyIs_parts.1 h
  exact ⟨by omega, h1.2, h2, h3, h4, hb, hF, hp⟩
theorem isF_one {a : List (Int × Int)} (h : isF a = true) : allF [a] = true := by simpa [allF] using h
theorem hcode_1 {A O J : List (List Int)} {bo t : Int} {a : List (Int × Int)} (h : hyIs A O J bo t = false) : 1 = hcode A O J bo t a := by rw [hcode, if_neg (by rw [h]; rintro ⟨h, _⟩; cases h)]

theorem valueH_c (A : List (List Int)) (O : List (List Int)) (J : List (List Int)) (bo : Int) (t : Int) (vs : List Int) (a : List (Int × Int)) (hok : OKM vs.length a) (hH : HVH A O J bo a) (hv : ∀ v : Nat, inN A.length (vs.getD v 0)) (hl : a.length ≤ 1000000000) : CallA Tryz.prog 81 [.agg [LLI A, LLI O, LLI J, AI bo, AI t], LI vs, LN a] (AI (heyV A O J vs a)) := by
 have hlen := okm_pos hok
 have hp := hH.pl
 have hb0 := hH.b0
 have hOl := (tabB_iff.1 hH.tO).1
 have hJl := (tabB_iff.1 hH.tJ).1
 refine CallA.of Tryz.func81 rfl (by kernel_rfl) ?_
 refine R.go 19 (R.arE ((a.length : Int) - 1) ((a.length - 1 : Nat) : Int) (by kernel_rfl) (by omega) (by omega) (by omega) (by kernel_rfl) ?_)
 refine R.go 3 (R.nilB 1 0 2 1 (by kernel_rfl) ?_)
 refine k15 ((fun | (i, S) => (⟨(frm 84 [(1, LI vs), (2, LN a), (3, .ptr 0 0), (7, .ptr 1 0), (8, .fn 175 [.ptr 1 0]), (9, AI i)]), [.box 26 [LLI A, LLI O, LLI J, AI bo, AI t], .box 30 [.ref 2], rowA eI 2 1 S]⟩ : St) : Int × (List Int) → St)) (fun | (i, S) => (-1 ≤ i) ∧ (i < a.length) ∧ (S.length ≤ a.length - i) ∧ (S = (stkG (hT A O J) pU vs (a.drop (i + 1).toNat)).reverse)) (fun | (i, S) => (i + 1).toNat) (((a.length - 1 : Nat) : Int), []) [1, 2, 3, 7, 8, 9] none ⟨(by omega), (by omega), (by simp <;> omega), (by rw [show (((a.length - 1 : Nat) : Int) + 1).toNat = a.length by omega, List.drop_length]; rfl)⟩ ?_
 rintro ⟨i, S⟩ ⟨h4_1, h4_2, h4_3, h4_4⟩ R1 N2
 have hk := fun h : 0 ≤ i => okm_get hok i.toNat (by omega)
 have hkp := fun h : 0 ≤ i => plain_get hp (j := i.toNat) (by omega)
 have hS2 := fun h : 0 ≤ i => stkg_room hok ‹S = _› h (by omega)
 have hP2 := fun h : ((a.getD i.toNat (0, 0)).1 = 2 ∨ (a.getD i.toNat (0, 0)).1 = 3 ∨ (a.getD i.toNat (0, 0)).1 = 4) => (partsN_two _).2 h
 have hS1 := fun h : i = -1 => congrArg List.length (stkg_fin hok ‹S = _› h)
 simp only [List.length_cons, List.length_nil] at hS1
 have hT : (S.take (S.length - 1)).length = S.length - 1 := by simp
 have hsi := stkH_get hH.n0 hH.tA hH.tO hH.tJ hv ‹S = _›
 refine R.go 6 (k3 (i ≥ 0) (fun c5 => ?_) (fun c5 => ?_))
 ·refine R.go 12 (k8 eN a (0, 0) ((i).toNat) i (by omega) eN_len ?_)
  refine R.go 9 (k3 (((a.getD ((i).toNat) (0, 0)).1) = 0) (fun c6 => ?_) (fun c6 => ?_))
  ·refine R.go 4 (k8 eN a (0, 0) ((i).toNat) i (by omega) eN_len ?_)
   refine R.go 2 (k8 eI vs 0 (((a.getD ((i).toNat) (0, 0)).2).toNat) ((a.getD ((i).toNat) (0, 0)).2) (by omega) eI_len ?_)
   refine R.go 8 (k12 eI S [(vs.getD (((a.getD ((i).toNat) (0, 0)).2).toNat) 0)] 2 2 1 8 eI_one ?_)
   refine R.go 5 (k1 (i - 1) ?_)
   exact R.go 2 (k16 R1 (N2 (i - 1, S ++ [(vs.getD (((a.getD ((i).toNat) (0, 0)).2).toNat) 0)]) [1, 2, 3, 7, 8, 9] (some [0, 1, 2]) _ (by kernel_rfl) (by kernel_rfl) ⟨(by omega), (by omega), (by simp <;> omega), (by first | exact stkg_push ‹S = _› (by omega) (by omega) (by omega) | (rw [hb0]; exact stkg_bot ‹S = _› (by omega) (by omega) (by omega)) | exact stkg_two hok ‹S = _› (by omega) (by omega) ‹(a.getD i.toNat (0, 0)).1 = _› (by omega) rfl rfl rfl rfl | exact stkg_two hok ‹S = _› (by omega) (by omega) h4 (by omega) rfl rfl rfl rfl)⟩ (by show (((i - 1) + 1).toNat) < ((i + 1).toNat); omega)))
  ·refine R.go 5 (k3 (((a.getD ((i).toNat) (0, 0)).1) = 1) (fun c7 => ?_) (fun c7 => ?_))
   ·refine R.go 10 (k12 eI S [bo] 2 2 1 8 eI_one ?_)
    refine R.go 5 (k1 (i - 1) ?_)
    exact R.go 2 (k16 R1 (N2 (i - 1, S ++ [bo]) [1, 2, 3, 7, 8, 9] (some [0, 1, 2]) _ (by kernel_rfl) (by kernel_rfl) ⟨(by omega), (by omega), (by simp <;> omega), (by first | exact stkg_push ‹S = _› (by omega) (by omega) (by omega) | (rw [hb0]; exact stkg_bot ‹S = _› (by omega) (by omega) (by omega)) | exact stkg_two hok ‹S = _› (by omega) (by omega) ‹(a.getD i.toNat (0, 0)).1 = _› (by omega) rfl rfl rfl rfl | exact stkg_two hok ‹S = _› (by omega) (by omega) h4 (by omega) rfl rfl rfl rfl)⟩ (by show (((i - 1) + 1).toNat) < ((i + 1).toNat); omega)))
   ·refine R.go 3 (R.enter (avs := [.ptr 1 0]) Tryz.func175 rfl (by kernel_rfl) (by kernel_rfl) (by kernel_rfl) ?_)
    intro us8
    refine R.go 9 (R.arE ((S.length : Int) - 1) ((S.length - 1 : Nat) : Int) (by kernel_rfl) (by omega) (by omega) (by omega) (by kernel_rfl) ?_)
    refine k9 2 1 S.length (S.length - 1) ((S.length - 1 : Nat) : Int) ?_
    refine k10 S (S.length - 1) ?_
    refine R.go 7 (R.arE ((S.length : Int) - 1) ((S.length - 1 : Nat) : Int) (by kernel_rfl) (by omega) (by omega) (by omega) (by kernel_rfl) ?_)
    refine R.cut eI S 2 2 (S.length - 1) ((S.length - 1 : Nat) : Int) (by kernel_rfl) (by omega) eI_len (by omega) (by kernel_rfl) ?_
    refine R.go 7 (R.back (AI (S.getD (S.length - 1) 0)) (frm 84 [(1, LI vs), (2, LN a), (3, .ptr 0 0), (7, .ptr 1 0), (8, .fn 175 [.ptr 1 0]), (9, AI i), (10, AI 0), (17, AI i), (18, .bool (decide (i ≥ 0))), (21, LN a), (22, AI i), (23, .rptr [AI ((a.getD ((i).toNat) (0, 0)).1), AI ((a.getD ((i).toNat) (0, 0)).2)]), (24, .rptr [AI ((a.getD ((i).toNat) (0, 0)).1), AI ((a.getD ((i).toNat) (0, 0)).2)]), (25, AI ((a.getD ((i).toNat) (0, 0)).1)), (26, .fn 175 [.ptr 1 0]), (63, .bool (decide (((a.getD ((i).toNat) (0, 0)).1) = 0))), (64, .bool (decide (((a.getD ((i).toNat) (0, 0)).1) = 0))), (73, .bool (decide (((a.getD ((i).toNat) (0, 0)).1) = 1))), (74, .bool (decide (((a.getD ((i).toNat) (0, 0)).1) = 1)))]) (by kernel_rfl) (by kernel_rfl) (by kernel_rfl) ?_)
    refine R.go 5 (R.enter (avs := [.ptr 1 0]) Tryz.func175 rfl (by kernel_rfl) (by kernel_rfl) (by kernel_rfl) ?_)
    intro us9
    refine R.go 9 (R.arE (((S.take (S.length - 1)).length : Int) - 1) ((((S.take (S.length - 1)).length) - 1 : Nat) : Int) (by kernel_rfl) (by omega) (by omega) (by omega) (by kernel_rfl) ?_)
    refine k9 2 1 (S.take (S.length - 1)).length (((S.take (S.length - 1)).length) - 1) ((((S.take (S.length - 1)).length) - 1 : Nat) : Int) ?_ (hj := by first | omega | (simp only [List.length_set]; omega) | (simp <;> omega))
    refine k10 (S.take (S.length - 1)) (((S.take (S.length - 1)).length) - 1) ?_ (hj := by first | omega | (simp only [List.length_set]; omega) | (simp <;> omega))
    refine R.go 7 (R.arE (((S.take (S.length - 1)).length : Int) - 1) ((((S.take (S.length - 1)).length) - 1 : Nat) : Int) (by kernel_rfl) (by omega) (by omega) (by omega) (by kernel_rfl) ?_)
    refine R.cut eI (S.take (S.length - 1)) 2 2 (((S.take (S.length - 1)).length) - 1) ((((S.take (S.length - 1)).length) - 1 : Nat) : Int) (by kernel_rfl) (by omega) eI_len (by first | omega | (simp only [List.length_set]; omega) | (simp <;> omega)) (by kernel_rfl) ?_
    refine R.go 7 (R.back (AI ((S.take (S.length - 1)).getD (((S.take (S.length - 1)).length) - 1) 0)) (frm 84 [(1, LI vs), (2, LN a), (3, .ptr 0 0), (7, .ptr 1 0), (8, .fn 175 [.ptr 1 0]), (9, AI i), (10, AI 0), (11, AI (S.getD (S.length - 1) 0)), (17, AI i), (18, .bool (decide (i ≥ 0))), (21, LN a), (22, AI i), (23, .rptr [AI ((a.getD ((i).toNat) (0, 0)).1), AI ((a.getD ((i).toNat) (0, 0)).2)]), (24, .rptr [AI ((a.getD ((i).toNat) (0, 0)).1), AI ((a.getD ((i).toNat) (0, 0)).2)]), (25, AI ((a.getD ((i).toNat) (0, 0)).1)), (26, .fn 175 [.ptr 1 0]), (27, AI (S.getD (S.length - 1) 0)), (28, .fn 175 [.ptr 1 0]), (63, .bool (decide (((a.getD ((i).toNat) (0, 0)).1) = 0))), (64, .bool (decide (((a.getD ((i).toNat) (0, 0)).1) = 0))), (73, .bool (decide (((a.getD ((i).toNat) (0, 0)).1) = 1))), (74, .bool (decide (((a.getD ((i).toNat) (0, 0)).1) = 1)))]) (by kernel_rfl) (by kernel_rfl) (by kernel_rfl) ?_)
    refine R.go 6 (k8 eN a (0, 0) ((i).toNat) i (by omega) eN_len ?_)
    refine R.go 9 (k3 (((a.getD ((i).toNat) (0, 0)).1) = 2) (fun c10 => ?_) (fun c10 => ?_))
    ·have hq1 : 0 ≤ (S.getD (S.length - 1) 0) ∧ (S.getD (S.length - 1) 0) < (A.length : Int) := hsi _
     have hq2 : 0 ≤ ((S.take (S.length - 1)).getD (((S.take (S.length - 1)).length) - 1) 0) ∧ ((S.take (S.length - 1)).getD (((S.take (S.length - 1)).length) - 1) 0) < (A.length : Int) := inN_take hH.n0 hsi _ _
     have hq3 := (tabB_at hH.tA (i := ((S.getD (S.length - 1) 0)).toNat) (by omega)).1
     refine R.go 4 (k8 eLI A [] ((S.getD (S.length - 1) 0).toNat) (S.getD (S.length - 1) 0) (by omega) eLI_len ?_)
     refine R.go 2 (k8 eI (A.getD ((S.getD (S.length - 1) 0).toNat) []) 0 (((S.take (S.length - 1)).getD (((S.take (S.length - 1)).length) - 1) 0).toNat) ((S.take (S.length - 1)).getD (((S.take (S.length - 1)).length) - 1) 0) (by omega) eI_len ?_ (hj := by first | omega | (simp only [List.length_set]; omega) | (simp <;> omega)))
     refine R.go 9 (k12 eI ((S.take (S.length - 1)).take (((S.take (S.length - 1)).length) - 1)) [((A.getD ((S.getD (S.length - 1) 0).toNat) []).getD (((S.take (S.length - 1)).getD (((S.take (S.length - 1)).length) - 1) 0).toNat) 0)] 2 2 1 8 eI_one ?_)
     refine R.go 5 (k1 (i - 1) ?_)
     exact R.go 2 (k16 R1 (N2 (i - 1, ((S.take (S.length - 1)).take (((S.take (S.length - 1)).length) - 1)) ++ [((A.getD ((S.getD (S.length - 1) 0).toNat) []).getD (((S.take (S.length - 1)).getD (((S.take (S.length - 1)).length) - 1) 0).toNat) 0)]) [1, 2, 3, 7, 8, 9] (some [0, 1, 2]) _ (by kernel_rfl) (by kernel_rfl) ⟨(by omega), (by omega), (by simp <;> omega), (by first | exact stkg_push ‹S = _› (by omega) (by omega) (by omega) | (rw [hb0]; exact stkg_bot ‹S = _› (by omega) (by omega) (by omega)) | exact stkg_two hok ‹S = _› (by omega) (by omega) ‹(a.getD i.toNat (0, 0)).1 = _› (by omega) rfl rfl rfl rfl | exact stkg_two hok ‹S = _› (by omega) (by omega) h4 (by omega) rfl rfl rfl rfl)⟩ (by show (((i - 1) + 1).toNat) < ((i + 1).toNat); omega)))
    ·refine R.go 5 (k3 (((a.getD ((i).toNat) (0, 0)).1) = 3) (fun c11 => ?_) (fun c11 => ?_))
     ·have hq1 : 0 ≤ (S.getD (S.length - 1) 0) ∧ (S.getD (S.length - 1) 0) < (A.length : Int) := hsi _
      have hq2 : 0 ≤ ((S.take (S.length - 1)).getD (((S.take (S.length - 1)).length) - 1) 0) ∧ ((S.take (S.length - 1)).getD (((S.take (S.length - 1)).length) - 1) 0) < (A.length : Int) := inN_take hH.n0 hsi _ _
      have hq3 := (tabB_at hH.tO (i := ((S.getD (S.length - 1) 0)).toNat) (by omega)).1
      refine R.go 4 (k8 eLI O [] ((S.getD (S.length - 1) 0).toNat) (S.getD (S.length - 1) 0) (by omega) eLI_len ?_)
      refine R.go 2 (k8 eI (O.getD ((S.getD (S.length - 1) 0).toNat) []) 0 (((S.take (S.length - 1)).getD (((S.take (S.length - 1)).length) - 1) 0).toNat) ((S.take (S.length - 1)).getD (((S.take (S.length - 1)).length) - 1) 0) (by omega) eI_len ?_ (hj := by first | omega | (simp only [List.length_set]; omega) | (simp <;> omega)))
      refine R.go 9 (k12 eI ((S.take (S.length - 1)).take (((S.take (S.length - 1)).length) - 1)) [((O.getD ((S.getD (S.length - 1) 0).toNat) []).getD (((S.take (S.length - 1)).getD (((S.take (S.length - 1)).length) - 1) 0).toNat) 0)] 2 2 1 8 eI_one ?_)
      refine R.go 5 (k1 (i - 1) ?_)
      exact R.go 2 (k16 R1 (N2 (i - 1, ((S.take (S.length - 1)).take (((S.take (S.length - 1)).length) - 1)) ++ [((O.getD ((S.getD (S.length - 1) 0).toNat) []).getD (((S.take (S.length - 1)).getD (((S.take (S.length - 1)).length) - 1) 0).toNat) 0)]) [1, 2, 3, 7, 8, 9] (some [0, 1, 2]) _ (by kernel_rfl) (by kernel_rfl) ⟨(by omega), (by omega), (by simp <;> omega), (by first | exact stkg_push ‹S = _› (by omega) (by omega) (by omega) | (rw [hb0]; exact stkg_bot ‹S = _› (by omega) (by omega) (by omega)) | exact stkg_two hok ‹S = _› (by omega) (by omega) ‹(a.getD i.toNat (0, 0)).1 = _› (by omega) rfl rfl rfl rfl | exact stkg_two hok ‹S = _› (by omega) (by omega) h4 (by omega) rfl rfl rfl rfl)⟩ (by show (((i - 1) + 1).toNat) < ((i + 1).toNat); omega)))
     ·have hq1 : 0 ≤ (S.getD (S.length - 1) 0) ∧ (S.getD (S.length - 1) 0) < (A.length : Int) := hsi _
      have hq2 : 0 ≤ ((S.take (S.length - 1)).getD (((S.take (S.length - 1)).length) - 1) 0) ∧ ((S.take (S.length - 1)).getD (((S.take (S.length - 1)).length) - 1) 0) < (A.length : Int) := inN_take hH.n0 hsi _ _
      have hq3 := (tabB_at hH.tJ (i := ((S.getD (S.length - 1) 0)).toNat) (by omega)).1
      have h4 : (a.getD i.toNat (0, 0)).1 = 4 := by have h8 := hk (by omega); have h9 := hkp (by omega); omega
      refine R.go 4 (k8 eLI J [] ((S.getD (S.length - 1) 0).toNat) (S.getD (S.length - 1) 0) (by omega) eLI_len ?_)
      refine R.go 2 (k8 eI (J.getD ((S.getD (S.length - 1) 0).toNat) []) 0 (((S.take (S.length - 1)).getD (((S.take (S.length - 1)).length) - 1) 0).toNat) ((S.take (S.length - 1)).getD (((S.take (S.length - 1)).length) - 1) 0) (by omega) eI_len ?_ (hj := by first | omega | (simp only [List.length_set]; omega) | (simp <;> omega)))
      refine R.go 9 (k12 eI ((S.take (S.length - 1)).take (((S.take (S.length - 1)).length) - 1)) [((J.getD ((S.getD (S.length - 1) 0).toNat) []).getD (((S.take (S.length - 1)).getD (((S.take (S.length - 1)).length) - 1) 0).toNat) 0)] 2 2 1 8 eI_one ?_)
      refine R.go 5 (k1 (i - 1) ?_)
      exact R.go 2 (k16 R1 (N2 (i - 1, ((S.take (S.length - 1)).take (((S.take (S.length - 1)).length) - 1)) ++ [((J.getD ((S.getD (S.length - 1) 0).toNat) []).getD (((S.take (S.length - 1)).getD (((S.take (S.length - 1)).length) - 1) 0).toNat) 0)]) [1, 2, 3, 7, 8, 9] (some [0, 1, 2]) _ (by kernel_rfl) (by kernel_rfl) ⟨(by omega), (by omega), (by simp <;> omega), (by first | exact stkg_push ‹S = _› (by omega) (by omega) (by omega) | (rw [hb0]; exact stkg_bot ‹S = _› (by omega) (by omega) (by omega)) | exact stkg_two hok ‹S = _› (by omega) (by omega) ‹(a.getD i.toNat (0, 0)).1 = _› (by omega) rfl rfl rfl rfl | exact stkg_two hok ‹S = _› (by omega) (by omega) h4 (by omega) rfl rfl rfl rfl)⟩ (by show (((i - 1) + 1).toNat) < ((i + 1).toNat); omega)))
 ·refine R.go 4 (k9 2 1 S.length 0 0 ?_ (hji := rfl))
  refine k10 S 0 ?_
  exact R.go 2 (k17 (AI (S.getD 0 0)) (by first | (apply congrArg AI; rw [heyV, stkg_fin hok ‹S = _› (by omega)]; rfl) | (exfalso; omega)))

theorem fillH_c : ∀ (d : Nat) (A : List (List Int)) (O : List (List Int)) (J : List (List Int)) (bo : Int) (t : Int) (a : List (Int × Int)) (vs : List Int) (X : List Int) (f : Int) (p : Nat) (k : Nat) (hd : k + d = vs.length) (hX : PVU (rgU A.length) vs p k X) (hVS : VS vs) (hH : HVH A O J bo a) (h6 : vs.length ≤ 62), CallX Tryz.prog 164 [AI (k : Int), .ptr 2 0, .ptr 0 0, .ptr 4 0, .ptr 1 0, .ptr 5 0, .ptr 6 0] [.box 26 [LLI A, LLI O, LLI J, AI bo, AI t], .box 39 [LN a], .box 30 [LI vs], rowA eI 2 1 X, .box 30 [.ref 3], .box 2 [AI f], .box 178 [.fn 164 [.ptr 2 0, .ptr 0 0, .ptr 4 0, .ptr 1 0, .ptr 5 0, .ptr 6 0]]] (fun (resX : AV) (objX : List AObj) => ∃ rb : Bool, ∃ X2 : List Int, ∃ f2 : Int, (rngH A O J t vs a d p = rb) ∧ (PVU (rgU A.length) vs p k X2) ∧ resX = .bool rb ∧ objX = [.box 26 [LLI A, LLI O, LLI J, AI bo, AI t], .box 39 [LN a], .box 30 [LI vs], rowA eI 2 1 X2, .box 30 [.ref 3], .box 2 [AI f2], .box 178 [.fn 164 [.ptr 2 0, .ptr 0 0, .ptr 4 0, .ptr 1 0, .ptr 5 0, .ptr 6 0]]]) := by
 intro d
 induction d using Nat.strongRecOn with
 | _ d ih =>
 intro A O J bo t a vs X f p k hd hX hVS hH h6
 have hxl := pvH_len hX
 have hA6 := isF_okm hH.f
 have hal := hA6.2
 have h30 := hH.n30
 refine CallX.dropE (CallX.ofF Tryz.func164 rfl (by kernel_rfl) ?_)
 intro usC frC hfC
 refine R.go 12 (k3 ((k : Int) = (vs.length : Int)) (fun c1 => ?_) (fun c1 => ?_))
 ·obtain rfl : d = 0 := by omega
  have hXe : X = vrU (rgU A.length) vs p := pvU_end hX (by omega)
  have hvX : ∀ v : Nat, inN A.length (X.getD v 0) := by rw [hXe]; exact vrG_in hH.n0 vs p
  have hokX : OKM X.length a := by rw [hxl]; exact hA6.1
  refine R.go 5 (k14 false (valueH_c A O J bo t X a hokX hH hvX (by first | omega | (simp <;> omega))) rfl ?_)
  exact R.go 10 (R.retX (res := .bool (!decide ((heyV A O J X a) = t))) (hp' := [.box 26 [LLI A, LLI O, LLI J, AI bo, AI t], .box 39 [LN a], .box 30 [LI vs], rowA eI 2 1 X, .box 30 [.ref 3], .box 2 [AI (heyV A O J X a)], .box 178 [.fn 164 [.ptr 2 0, .ptr 0 0, .ptr 4 0, .ptr 1 0, .ptr 5 0, .ptr 6 0]], .dead]) (by kernel_rfl) (by kernel_rfl) (by kernel_rfl) (by kernel_rfl) ⟨[0, 1, 2, 3, 4, 5, 6], by kernel_rfl, by decide, !decide ((heyV A O J X a) = t), X, heyV A O J X a, by first | assumption | exact pvH_back (by assumption) hVS (by omega) (by omega) | exact (rngH_0 hXe).symm | (rw [he]; exact (rngH_yes (i := i) (by omega) (by rw [‹rngH A O J t vs a e (p * A.length + i) = _›]; assumption)).symm) | (rw [he]; exact Eq.symm (rngH_no fun q hq => (‹∀ q : Nat, q < i → rngH A O J t vs a e (p * A.length + q) = false›) q (by omega))), by first | assumption | exact pvH_back (by assumption) hVS (by omega) (by omega) | exact (rngH_0 hXe).symm | (rw [he]; exact (rngH_yes (i := i) (by omega) (by rw [‹rngH A O J t vs a e (p * A.length + i) = _›]; assumption)).symm) | (rw [he]; exact Eq.symm (rngH_no fun q hq => (‹∀ q : Nat, q < i → rngH A O J t vs a e (p * A.length + q) = false›) q (by omega))), by kernel_rfl, by kernel_rfl⟩)
 ·obtain ⟨e, he⟩ : ∃ e, d = e + 1 := ⟨d - 1, by omega⟩
  have hvg := vs_get hVS (k := k) (by omega)
  have hvg2 := hvg.2.1
  have hvg3 := hvg.2.2.1
  refine R.go 5 (k14 true (hsize_c A O J bo t) rfl ?_)
  refine R.go 3 (k15 ((fun | (i, Z, ff) => (⟨(frm 39 [(0, AI (k : Int)), (1, .ptr 2 0), (3, .ptr 4 0), (6, .ptr 6 0), (23, AI A.length), (24, AI (i : Int))]), [.box 26 [LLI A, LLI O, LLI J, AI bo, AI t], .box 39 [LN a], .box 30 [LI vs], rowA eI 2 1 Z, .box 30 [.ref 3], .box 2 [AI ff], .box 178 [.fn 164 [.ptr 2 0, .ptr 0 0, .ptr 4 0, .ptr 1 0, .ptr 5 0, .ptr 6 0]], .frame usC frC]⟩ : St) : Nat × (List Int) × Int → St)) (fun | (i, Z, ff) => (i ≤ A.length) ∧ (PVU (rgU A.length) vs p k Z) ∧ (∀ q : Nat, q < i → rngH A O J t vs a e (p * A.length + q) = false)) (fun | (i, Z, ff) => A.length - i) (0, X, f) [0, 1, 3, 6, 23, 24] none ⟨(by omega), (by assumption), (by exact fun q hq => absurd hq (by omega))⟩ ?_)
  rintro ⟨i, Z, ff⟩ ⟨h5_1, h5_2, h5_3⟩ R2 N3
  refine R.go 5 (k3 ((i : Int) < (A.length : Int)) (fun c6 => ?_) (fun c6 => ?_))
  ·refine R.go 9 (R.any (by decide +kernel) (by kernel_rfl) ?_)
   refine k24 2 (np_retX _ _ _ _ _ _) ?_
   refine k24 5 (np_retX _ _ _ _ _ _) ?_
   refine k22 0 1 ?_ ?_
   ·have hzl := pvH_len (by assumption : PVU (rgU A.length) vs p k Z)
    refine R.go 2 (k21 1 ?_)
    refine R.go 2 (k21 3 ?_)
    refine k8 eI vs 0 k (k : Int) rfl eI_len ?_
    refine R.go 1 (k21 4 ?_)
    refine R.go 2 (k21 6 ?_)
    refine k9 3 1 Z.length (((vs.getD k 0)).toNat) (vs.getD k 0) ?_
    refine R.go 1 (k21 7 ?_)
    refine k11 3 2 Z (((vs.getD k 0)).toNat) (i : Int) ?_
    refine R.go 1 (k20 ?_)
    refine R.go 4 (k1 ((k : Int) + 1) ?_)
    refine k26 (k28e 7 usC frC (ih e (by omega) A O J bo t a vs (Z.set (((vs.getD k 0)).toNat) (i : Int)) ff (p * A.length + i) (k + 1) (by omega) (by first | assumption | exact pvU_start _ _ | exact pvH_step (by assumption) hVS (by omega) (by omega)) hVS hH h6)) ?_
    rintro _ _ ⟨_, _, ⟨rb_7, X2_8, f2_9, f10, f11, rfl, rfl⟩, rfl, rfl⟩
    refine R.go 1 (R.condB (rb_7) (by kernel_rfl) (fun c12 => ?_) (fun c12 => ?_))
    ·exact R.go 4 (R.retX (res := .bool true) (hp' := [.box 26 [LLI A, LLI O, LLI J, AI bo, AI t], .box 39 [LN a], .box 30 [LI vs], rowA eI 2 1 X2_8, .box 30 [.ref 3], .box 2 [AI f2_9], .box 178 [.fn 164 [.ptr 2 0, .ptr 0 0, .ptr 4 0, .ptr 1 0, .ptr 5 0, .ptr 6 0]], .dead]) (by kernel_rfl) (by kernel_rfl) (by kernel_rfl) (by kernel_rfl) ⟨[0, 1, 2, 3, 4, 5, 6], by kernel_rfl, by decide, true, X2_8, f2_9, by first | assumption | exact pvH_back (by assumption) hVS (by omega) (by omega) | exact (rngH_0 hXe).symm | (rw [he]; exact (rngH_yes (i := i) (by omega) (by rw [‹rngH A O J t vs a e (p * A.length + i) = _›]; assumption)).symm) | (rw [he]; exact Eq.symm (rngH_no fun q hq => (‹∀ q : Nat, q < i → rngH A O J t vs a e (p * A.length + q) = false›) q (by omega))), by first | assumption | exact pvH_back (by assumption) hVS (by omega) (by omega) | exact (rngH_0 hXe).symm | (rw [he]; exact (rngH_yes (i := i) (by omega) (by rw [‹rngH A O J t vs a e (p * A.length + i) = _›]; assumption)).symm) | (rw [he]; exact Eq.symm (rngH_no fun q hq => (‹∀ q : Nat, q < i → rngH A O J t vs a e (p * A.length + q) = false›) q (by omega))), by kernel_rfl, by kernel_rfl⟩)
    ·refine R.go 3 (k1 ((i : Int) + 1) ?_)
     exact R.go 2 (k16 R2 (N3 (i + 1, X2_8, f2_9) [0, 1, 3, 6, 23, 24] none _ (by kernel_rfl) (by kernel_rfl) ⟨(by omega), (by exact pvH_back (by assumption) hVS (by omega) (by omega)), (by exact below1 (by assumption) (by rw [‹rngH A O J t vs a e (p * A.length + i) = _›]; assumption))⟩ (by show (A.length - (i + 1)) < (A.length - i); omega)))
   ·refine R.go 2 (k22 0 3 ?_ ?_)
    ·have hzl := pvH_len (by assumption : PVU (rgU A.length) vs p k Z)
     refine R.go 2 (k21 3 ?_)
     refine k8 eI vs 0 k (k : Int) rfl eI_len ?_
     refine R.go 1 (k21 4 ?_)
     refine R.go 2 (k21 6 ?_)
     refine k9 3 1 Z.length (((vs.getD k 0)).toNat) (vs.getD k 0) ?_
     refine R.go 1 (k21 7 ?_)
     refine k11 3 2 Z (((vs.getD k 0)).toNat) (i : Int) ?_
     refine R.go 1 (k20 ?_)
     refine R.go 4 (k1 ((k : Int) + 1) ?_)
     refine k26 (k28e 7 usC frC (ih e (by omega) A O J bo t a vs (Z.set (((vs.getD k 0)).toNat) (i : Int)) ff (p * A.length + i) (k + 1) (by omega) (by first | assumption | exact pvU_start _ _ | exact pvH_step (by assumption) hVS (by omega) (by omega)) hVS hH h6)) ?_
     rintro _ _ ⟨_, _, ⟨rb_13, X2_14, f2_15, f16, f17, rfl, rfl⟩, rfl, rfl⟩
     refine R.go 1 (R.condB (rb_13) (by kernel_rfl) (fun c18 => ?_) (fun c18 => ?_))
     ·exact R.go 4 (R.retX (res := .bool true) (hp' := [.box 26 [LLI A, LLI O, LLI J, AI bo, AI t], .box 39 [LN a], .box 30 [LI vs], rowA eI 2 1 X2_14, .box 30 [.ref 3], .box 2 [AI f2_15], .box 178 [.fn 164 [.ptr 2 0, .ptr 0 0, .ptr 4 0, .ptr 1 0, .ptr 5 0, .ptr 6 0]], .dead]) (by kernel_rfl) (by kernel_rfl) (by kernel_rfl) (by kernel_rfl) ⟨[0, 1, 2, 3, 4, 5, 6], by kernel_rfl, by decide, true, X2_14, f2_15, by first | assumption | exact pvH_back (by assumption) hVS (by omega) (by omega) | exact (rngH_0 hXe).symm | (rw [he]; exact (rngH_yes (i := i) (by omega) (by rw [‹rngH A O J t vs a e (p * A.length + i) = _›]; assumption)).symm) | (rw [he]; exact Eq.symm (rngH_no fun q hq => (‹∀ q : Nat, q < i → rngH A O J t vs a e (p * A.length + q) = false›) q (by omega))), by first | assumption | exact pvH_back (by assumption) hVS (by omega) (by omega) | exact (rngH_0 hXe).symm | (rw [he]; exact (rngH_yes (i := i) (by omega) (by rw [‹rngH A O J t vs a e (p * A.length + i) = _›]; assumption)).symm) | (rw [he]; exact Eq.symm (rngH_no fun q hq => (‹∀ q : Nat, q < i → rngH A O J t vs a e (p * A.length + q) = false›) q (by omega))), by kernel_rfl, by kernel_rfl⟩)
     ·refine R.go 3 (k1 ((i : Int) + 1) ?_)
      exact R.go 2 (k16 R2 (N3 (i + 1, X2_14, f2_15) [0, 1, 3, 6, 23, 24] none _ (by kernel_rfl) (by kernel_rfl) ⟨(by omega), (by exact pvH_back (by assumption) hVS (by omega) (by omega)), (by exact below1 (by assumption) (by rw [‹rngH A O J t vs a e (p * A.length + i) = _›]; assumption))⟩ (by show (A.length - (i + 1)) < (A.length - i); omega)))
    ·refine k8 eI vs 0 k (k : Int) rfl eI_len ?_
     refine R.go 1 (k22 0 4 ?_ ?_)
     ·have hzl := pvH_len (by assumption : PVU (rgU A.length) vs p k Z)
      refine R.go 2 (k21 4 ?_)
      refine R.go 2 (k21 6 ?_)
      refine k9 3 1 Z.length (((vs.getD k 0)).toNat) (vs.getD k 0) ?_
      refine R.go 1 (k21 7 ?_)
      refine k11 3 2 Z (((vs.getD k 0)).toNat) (i : Int) ?_
      refine R.go 1 (k20 ?_)
      refine R.go 4 (k1 ((k : Int) + 1) ?_)
      refine k26 (k28e 7 usC frC (ih e (by omega) A O J bo t a vs (Z.set (((vs.getD k 0)).toNat) (i : Int)) ff (p * A.length + i) (k + 1) (by omega) (by first | assumption | exact pvU_start _ _ | exact pvH_step (by assumption) hVS (by omega) (by omega)) hVS hH h6)) ?_
      rintro _ _ ⟨_, _, ⟨rb_19, X2_20, f2_21, f22, f23, rfl, rfl⟩, rfl, rfl⟩
      refine R.go 1 (R.condB (rb_19) (by kernel_rfl) (fun c24 => ?_) (fun c24 => ?_))
      ·exact R.go 4 (R.retX (res := .bool true) (hp' := [.box 26 [LLI A, LLI O, LLI J, AI bo, AI t], .box 39 [LN a], .box 30 [LI vs], rowA eI 2 1 X2_20, .box 30 [.ref 3], .box 2 [AI f2_21], .box 178 [.fn 164 [.ptr 2 0, .ptr 0 0, .ptr 4 0, .ptr 1 0, .ptr 5 0, .ptr 6 0]], .dead]) (by kernel_rfl) (by kernel_rfl) (by kernel_rfl) (by kernel_rfl) ⟨[0, 1, 2, 3, 4, 5, 6], by kernel_rfl, by decide, true, X2_20, f2_21, by first | assumption | exact pvH_back (by assumption) hVS (by omega) (by omega) | exact (rngH_0 hXe).symm | (rw [he]; exact (rngH_yes (i := i) (by omega) (by rw [‹rngH A O J t vs a e (p * A.length + i) = _›]; assumption)).symm) | (rw [he]; exact Eq.symm (rngH_no fun q hq => (‹∀ q : Nat, q < i → rngH A O J t vs a e (p * A.length + q) = false›) q (by omega))), by first | assumption | exact pvH_back (by assumption) hVS (by omega) (by omega) | exact (rngH_0 hXe).symm | (rw [he]; exact (rngH_yes (i := i) (by omega) (by rw [‹rngH A O J t vs a e (p * A.length + i) = _›]; assumption)).symm) | (rw [he]; exact Eq.symm (rngH_no fun q hq => (‹∀ q : Nat, q < i → rngH A O J t vs a e (p * A.length + q) = false›) q (by omega))), by kernel_rfl, by kernel_rfl⟩)
      ·refine R.go 3 (k1 ((i : Int) + 1) ?_)
       exact R.go 2 (k16 R2 (N3 (i + 1, X2_20, f2_21) [0, 1, 3, 6, 23, 24] none _ (by kernel_rfl) (by kernel_rfl) ⟨(by omega), (by exact pvH_back (by assumption) hVS (by omega) (by omega)), (by exact below1 (by assumption) (by rw [‹rngH A O J t vs a e (p * A.length + i) = _›]; assumption))⟩ (by show (A.length - (i + 1)) < (A.length - i); omega)))
     ·refine R.go 2 (k21 0 ?_)
      have hzl := pvH_len (by assumption : PVU (rgU A.length) vs p k Z)
      refine R.go 2 (k21 6 ?_)
      refine k9 3 1 Z.length (((vs.getD k 0)).toNat) (vs.getD k 0) ?_
      refine R.go 1 (k21 7 ?_)
      refine k11 3 2 Z (((vs.getD k 0)).toNat) (i : Int) ?_
      refine R.go 1 (k20 ?_)
      refine R.go 4 (k1 ((k : Int) + 1) ?_)
      refine k26 (k28e 7 usC frC (ih e (by omega) A O J bo t a vs (Z.set (((vs.getD k 0)).toNat) (i : Int)) ff (p * A.length + i) (k + 1) (by omega) (by first | assumption | exact pvU_start _ _ | exact pvH_step (by assumption) hVS (by omega) (by omega)) hVS hH h6)) ?_
      rintro _ _ ⟨_, _, ⟨rb_25, X2_26, f2_27, f28, f29, rfl, rfl⟩, rfl, rfl⟩
      refine R.go 1 (R.condB (rb_25) (by kernel_rfl) (fun c30 => ?_) (fun c30 => ?_))
      ·exact R.go 4 (R.retX (res := .bool true) (hp' := [.box 26 [LLI A, LLI O, LLI J, AI bo, AI t], .box 39 [LN a], .box 30 [LI vs], rowA eI 2 1 X2_26, .box 30 [.ref 3], .box 2 [AI f2_27], .box 178 [.fn 164 [.ptr 2 0, .ptr 0 0, .ptr 4 0, .ptr 1 0, .ptr 5 0, .ptr 6 0]], .dead]) (by kernel_rfl) (by kernel_rfl) (by kernel_rfl) (by kernel_rfl) ⟨[0, 1, 2, 3, 4, 5, 6], by kernel_rfl, by decide, true, X2_26, f2_27, by first | assumption | exact pvH_back (by assumption) hVS (by omega) (by omega) | exact (rngH_0 hXe).symm | (rw [he]; exact (rngH_yes (i := i) (by omega) (by rw [‹rngH A O J t vs a e (p * A.length + i) = _›]; assumption)).symm) | (rw [he]; exact Eq.symm (rngH_no fun q hq => (‹∀ q : Nat, q < i → rngH A O J t vs a e (p * A.length + q) = false›) q (by omega))), by first | assumption | exact pvH_back (by assumption) hVS (by omega) (by omega) | exact (rngH_0 hXe).symm | (rw [he]; exact (rngH_yes (i := i) (by omega) (by rw [‹rngH A O J t vs a e (p * A.length + i) = _›]; assumption)).symm) | (rw [he]; exact Eq.symm (rngH_no fun q hq => (‹∀ q : Nat, q < i → rngH A O J t vs a e (p * A.length + q) = false›) q (by omega))), by kernel_rfl, by kernel_rfl⟩)
      ·refine R.go 3 (k1 ((i : Int) + 1) ?_)
       exact R.go 2 (k16 R2 (N3 (i + 1, X2_26, f2_27) [0, 1, 3, 6, 23, 24] none _ (by kernel_rfl) (by kernel_rfl) ⟨(by omega), (by exact pvH_back (by assumption) hVS (by omega) (by omega)), (by exact below1 (by assumption) (by rw [‹rngH A O J t vs a e (p * A.length + i) = _›]; assumption))⟩ (by show (A.length - (i + 1)) < (A.length - i); omega)))
  ·exact R.go 5 (R.retX (res := .bool false) (hp' := [.box 26 [LLI A, LLI O, LLI J, AI bo, AI t], .box 39 [LN a], .box 30 [LI vs], rowA eI 2 1 Z, .box 30 [.ref 3], .box 2 [AI ff], .box 178 [.fn 164 [.ptr 2 0, .ptr 0 0, .ptr 4 0, .ptr 1 0, .ptr 5 0, .ptr 6 0]], .dead]) (by kernel_rfl) (by kernel_rfl) (by kernel_rfl) (by kernel_rfl) ⟨[0, 1, 2, 3, 4, 5, 6], by kernel_rfl, by decide, false, Z, ff, by first | assumption | exact pvH_back (by assumption) hVS (by omega) (by omega) | exact (rngH_0 hXe).symm | (rw [he]; exact (rngH_yes (i := i) (by omega) (by rw [‹rngH A O J t vs a e (p * A.length + i) = _›]; assumption)).symm) | (rw [he]; exact Eq.symm (rngH_no fun q hq => (‹∀ q : Nat, q < i → rngH A O J t vs a e (p * A.length + q) = false›) q (by omega))), by first | assumption | exact pvH_back (by assumption) hVS (by omega) (by omega) | exact (rngH_0 hXe).symm | (rw [he]; exact (rngH_yes (i := i) (by omega) (by rw [‹rngH A O J t vs a e (p * A.length + i) = _›]; assumption)).symm) | (rw [he]; exact Eq.symm (rngH_no fun q hq => (‹∀ q : Nat, q < i → rngH A O J t vs a e (p * A.length + q) = false›) q (by omega))), by kernel_rfl, by kernel_rfl⟩)

end Go.Proofs.YtjllngcefoohpaaGreat
