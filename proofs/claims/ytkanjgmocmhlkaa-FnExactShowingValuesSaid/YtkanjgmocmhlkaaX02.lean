/- QuotientPoset of both packages and its law. -/
import Derived.Test.YtkanjgmocmhlkaaX01
import Derived.Test.YtkanjgmocmhlkaaW06
namespace Go.Proofs.Ytkanjgmocmhlkaa
open Go.RowKit Go.Abs

/-- The number of classes among the first i. -/
def nxt (L : List Int) : Nat → Int
  | 0 => 0
  | i + 1 => if L.getD i 0 = nxt L i then nxt L i + 1 else nxt L i
def clsB (L : List Int) : Bool := (List.range L.length).all fun i => inR (L.getD i 0) 0 (nxt L i)
def parB (n : Int) (L : List Int) : Bool := clsB L && decide ((L.length : Int) = n)
theorem nxt_yes {L : List Int} {i : Nat} (h : L.getD i 0 = nxt L i) : nxt L i + 1 = nxt L (i + 1) := by rw [nxt, if_pos h]
theorem nxt_no {L : List Int} {i : Nat} (h : ¬ L.getD i 0 = nxt L i) : nxt L i = nxt L (i + 1) := by rw [nxt, if_neg h]
theorem nxt_rng (L : List Int) : ∀ i : Nat, 0 ≤ nxt L i ∧ nxt L i ≤ (i : Int)
  | 0 => by simp [nxt]
  | i + 1 => by
    have := nxt_rng L i
    rw [nxt]
    split <;> omega
theorem nxt_mono {L : List Int} {i j : Nat} (h : i ≤ j) : nxt L i ≤ nxt L j := by
  induction j with
  | zero => rw [show i = 0 by omega]; exact Int.le_refl _
  | succ j ih =>
    by_cases e : i = j + 1
    · rw [e]; exact Int.le_refl _
    · have := ih (by omega)
      have h2 : nxt L j ≤ nxt L (j + 1) := by
        rw [nxt]
        split <;> omega
      omega
theorem clsB_iff {L : List Int} : clsB L = true ↔ ∀ i : Nat, i < L.length → 0 ≤ L.getD i 0 ∧ L.getD i 0 ≤ nxt L i := by
  simp only [clsB, List.all_eq_true, List.mem_range, inR_iff]
theorem clsB_no {L : List Int} {i : Nat} (hi : i < L.length) (h : inR (L.getD i 0) 0 (nxt L i) = false) : false = clsB L := by
  cases e : clsB L with
  | false => rfl
  | true =>
    have := (inR_iff _ _ _).2 (clsB_iff.1 e i hi)
    rw [h] at this
    cases this
theorem clsB_mk {L : List Int} (h : ∀ i : Nat, i < L.length → inR (L.getD i 0) 0 (nxt L i) = true) : clsB L = true := clsB_iff.2 fun i hi => (inR_iff _ _ _).1 (h i hi)
theorem cls_lt {L : List Int} (h : clsB L = true) {i : Nat} (hi : i < L.length) : 0 ≤ L.getD i 0 ∧ L.getD i 0 < nxt L (i + 1) := by
  have h1 := clsB_iff.1 h i hi
  refine ⟨h1.1, ?_⟩
  rw [nxt]
  split <;> omega
theorem cls_lt' {L : List Int} (h : clsB L = true) {i : Nat} (hi : i < L.length) : 0 ≤ L.getD i 0 ∧ L.getD i 0 < nxt L L.length := by
  have h1 := cls_lt h hi
  have h2 := nxt_mono (L := L) (show i + 1 ≤ L.length by omega)
  omega
def maxT (L : List Int) : Nat → Int
  | 0 => L.getD 0 0
  | i + 1 => if L.getD i 0 > maxT L i then L.getD i 0 else maxT L i
theorem maxT_one (L : List Int) : L.getD 0 0 = maxT L 1 := by rw [maxT, maxT, if_neg (by omega)]
theorem maxT_nxt {L : List Int} (h : clsB L = true) : ∀ i : Nat, 1 ≤ i → i ≤ L.length → maxT L i + 1 = nxt L i
  | 0, h1, _ => by omega
  | 1, _, h2 => by
    have h3 := clsB_iff.1 h 0 (by omega)
    rw [nxt] at h3
    have h4 : L.getD 0 0 = 0 := by omega
    rw [← maxT_one, h4, ← nxt_yes (by rw [nxt]; exact h4)]
    rfl
  | i + 2, _, h2 => by
    have ih := maxT_nxt h (i + 1) (by omega) (by omega)
    have h3 := clsB_iff.1 h (i + 1) (by omega)
    rw [maxT, nxt]
    split <;> split <;> omega
def quoI (xs L : List Int) : Nat → List Int
  | 0 => List.replicate (nxt L L.length).toNat 0
  | i + 1 => (quoI xs L i).set (L.getD i 0).toNat (bor ((quoI xs L i).getD (L.getD i 0).toNat 0) (mapM L (xs.getD i 0)))
theorem quoI_len (xs L : List Int) : ∀ i : Nat, (quoI xs L i).length = (nxt L L.length).toNat
  | 0 => by simp [quoI]
  | i + 1 => by rw [quoI, List.length_set, quoI_len xs L i]
def quoS (xs L : List Int) : Nat → List Int
  | 0 => []
  | i + 1 => if L.getD i 0 = ((quoS xs L i).length : Int) then quoS xs L i ++ [mapM L (xs.getD i 0)] else quoS xs L i
theorem quoS_len (xs L : List Int) : ∀ i : Nat, ((quoS xs L i).length : Int) = nxt L i
  | 0 => rfl
  | i + 1 => by
    have := quoS_len xs L i
    rw [quoS, nxt, this]
    split
    · simp; omega
    · exact this
theorem quoS_yes {xs L : List Int} {i : Nat} (h : L.getD i 0 = ((quoS xs L i).length : Int)) : quoS xs L i ++ [mapM L (xs.getD i 0)] = quoS xs L (i + 1) := by rw [quoS, if_pos h]
theorem quoS_no {xs L : List Int} {i : Nat} (h : ¬ L.getD i 0 = ((quoS xs L i).length : Int)) : quoS xs L i = quoS xs L (i + 1) := by rw [quoS, if_neg h]
def cngB (n : Int) (xs L : List Int) : Bool := (decide ((L.length : Int) = n) && clsB L) && morA n xs (quoI xs L L.length) L
def COR (xs L : List Int) (x y : Nat) : Prop := L.getD x 0 = L.getD y 0 → mapM L (xs.getD x 0) = mapM L (xs.getD y 0)
instance (xs L : List Int) (x y : Nat) : Decidable (COR xs L x y) := by unfold COR; infer_instance
def corB (xs L : List Int) : Bool := (List.range L.length).all fun x => (List.range L.length).all fun y => decide (COR xs L x y)
theorem corB_iff {xs L : List Int} : corB xs L = true ↔ ∀ x : Nat, x < L.length → ∀ y : Nat, y < L.length → COR xs L x y := by simp [corB]
theorem corB_no {xs L : List Int} {x y : Nat} (hx : x < L.length) (hy : y < L.length) (h : L.getD x 0 = L.getD y 0) (h2 : ¬ mapM L (xs.getD x 0) = mapM L (xs.getD y 0)) : false = corB xs L := by
  cases e : corB xs L with
  | false => rfl
  | true => exact absurd (corB_iff.1 e x hx y hy h) h2
def QH (xs L : List Int) : Prop := clsB L = true ∧ L.length ≤ 8 ∧ RelOK L.length xs
theorem qh_of {n : Int} {xs L : List Int} (hP : okPo n xs = true) (h : (L.length : Int) = n) (hc : clsB L = true) : QH xs L := by
  have a := okFr_rel (okPo_fr hP)
  have e : L.length = n.toNat := by omega
  exact ⟨hc, by omega, by rw [e]; exact a.2.2.2⟩
theorem qh_i {xs L : List Int} (h : QH xs L) : ImsH L := ⟨h.2.1, fun j hj => by
  have h1 := cls_lt' h.1 hj
  have h2 := nxt_rng L L.length
  have h3 := h.2.1
  omega⟩
theorem qh_m {xs L : List Int} (h : QH xs L) : MorH xs (quoI xs L L.length) L := by
  have h2 := nxt_rng L L.length
  have h3 := h.2.1
  refine ⟨h.2.1, by rw [quoI_len]; omega, h.2.2, fun j hj => ?_⟩
  have h1 := cls_lt' h.1 hj
  rw [quoI_len]
  omega
/-! The image of a mask, bit by bit. -/
theorem imgG_ok {ims : List Int} {K N : Nat} (hN : N ≤ 8) (hK : ims.length ≤ K) (hi : ∀ j : Nat, j < ims.length → 0 ≤ ims.getD j 0 ∧ ims.getD j 0 < (N : Int)) : ∀ (L : List Int) (o : Int), InM N o → (∀ j ∈ L, 0 ≤ j ∧ j < (ims.length : Int)) →
    InM N (L.foldl (fun o j => bor o (shl64 1 (ims.getD j.toNat 0))) o) ∧ ∀ k : Nat, tb (L.foldl (fun o j => bor o (shl64 1 (ims.getD j.toNat 0))) o) k = true ↔ tb o k = true ∨ ∃ j ∈ L, ims.getD j.toNat 0 = (k : Int)
  | [], o, h, _ => ⟨h, fun k => by simp⟩
  | v :: L, o, h, hL => by
    have hv := hL v (List.mem_cons_self ..)
    have hx := hi v.toNat (by omega)
    have h1 : ((ims.getD v.toNat 0).toNat : Int) = ims.getD v.toNat 0 := by omega
    have hI := inM_one (n := N) (i := (ims.getD v.toNat 0).toNat) (by omega) (by omega)
    have hT := tb_one (i := (ims.getD v.toNat 0).toNat) (by omega)
    rw [h1] at hI hT
    have hb := inM_bor (n := N) (by omega) h hI
    obtain ⟨i1, i2⟩ := imgG_ok hN hK hi L _ hb fun j hj => hL j (List.mem_cons_of_mem _ hj)
    refine ⟨i1, fun k => ?_⟩
    rw [List.foldl_cons, i2, tb_bor (n := N) (by omega) h hI, hT, Bool.or_eq_true, decide_eq_true_eq]
    constructor
    · rintro ((a | a) | ⟨j, hj, e⟩)
      · exact .inl a
      · exact .inr ⟨v, List.mem_cons_self .., by omega⟩
      · exact .inr ⟨j, List.mem_cons_of_mem _ hj, e⟩
    · rintro (a | ⟨j, hj, e⟩)
      · exact .inl (.inl a)
      · rcases List.mem_cons.1 hj with rfl | hj
        · exact .inl (.inr (by omega))
        · exact .inr ⟨j, hj, e⟩
theorem mapM_ok {ims : List Int} {m : Int} {N : Nat} (hl : ims.length ≤ 8) (hN : N ≤ 8) (hi : ∀ j : Nat, j < ims.length → 0 ≤ ims.getD j 0 ∧ ims.getD j 0 < (N : Int)) (hm : InM ims.length m) :
    InM N (mapM ims m) ∧ ∀ k : Nat, tb (mapM ims m) k = true ↔ ∃ j : Nat, tb m j = true ∧ ims.getD j 0 = (k : Int) := by
  obtain ⟨h1, h2⟩ := imgG_ok (K := 8) hN hl hi (mem m) 0 (inM_zero _) (mem_lt (by omega) hm)
  refine ⟨h1, fun k => ?_⟩
  rw [mapM, imgF, h2, tb_zero]
  constructor
  · rintro (a | ⟨j, hj, e⟩)
    · cases a
    · have h3 := mem_lt (N := ims.length) (by omega) hm j hj
      exact ⟨j.toNat, (mem_iff (by omega) hm).1 (by rw [show ((j.toNat : Nat) : Int) = j by omega]; exact hj), e⟩
  · rintro ⟨j, hj, e⟩
    exact .inr ⟨(j : Int), (mem_iff (by omega) hm).2 hj, by simpa using e⟩
theorem quoI_ok {xs L : List Int} (h : QH xs L) : ∀ i : Nat, i ≤ L.length → ∀ c : Nat, (c : Int) < nxt L L.length → InM (nxt L L.length).toNat ((quoI xs L i).getD c 0) ∧ ∀ k : Nat, tb ((quoI xs L i).getD c 0) k = true ↔ ∃ j : Nat, j < i ∧ L.getD j 0 = (c : Int) ∧ tb (mapM L (xs.getD j 0)) k = true
  | 0, _, c, hc => by
    have : (quoI xs L 0).getD c 0 = 0 := by
      simp only [quoI, List.getD_eq_getElem?_getD, List.getElem?_replicate]
      split <;> rfl
    rw [this]
    exact ⟨inM_zero _, fun k => by simp [tb_zero]⟩
  | i + 1, hi, c, hc => by
    have h2 := nxt_rng L L.length
    have h3 := h.2.1
    obtain ⟨a1, a2⟩ := quoI_ok h i (by omega) c hc
    have hci := cls_lt' h.1 (i := i) (by omega)
    have hm := mapM_ok (ims := L) (m := xs.getD i 0) (N := (nxt L L.length).toNat) h.2.1 (by omega) (fun j hj => by have := cls_lt' h.1 hj; omega) (h.2.2.2 i (by omega))
    rw [quoI, getD_set_if _ _ _ _ _ (by rw [quoI_len]; omega)]
    split
    · rename_i e
      rw [e]
      refine ⟨inM_bor (by omega) a1 hm.1, fun k => ?_⟩
      rw [tb_bor (n := (nxt L L.length).toNat) (by omega) a1 hm.1, Bool.or_eq_true, a2]
      constructor
      · rintro (⟨j, b1, b2, b3⟩ | b)
        · exact ⟨j, by omega, b2, b3⟩
        · exact ⟨i, by omega, by omega, b⟩
      · rintro ⟨j, b1, b2, b3⟩
        by_cases ej : j = i
        · subst ej; exact .inr b3
        · exact .inl ⟨j, by omega, b2, b3⟩
    · rename_i e
      refine ⟨a1, fun k => ?_⟩
      rw [a2]
      constructor
      · rintro ⟨j, b1, b2, b3⟩; exact ⟨j, by omega, b2, b3⟩
      · rintro ⟨j, b1, b2, b3⟩
        by_cases ej : j = i
        · subst ej; omega
        · exact ⟨j, by omega, b2, b3⟩
theorem quo_mor {n : Int} {xs L : List Int} (h : QH xs L) (hn : (L.length : Int) = n) : morA n xs (quoI xs L L.length) L = corB xs L := by
  have h2 := nxt_rng L L.length
  have h3 := h.2.1
  have hmm := fun (j : Nat) (hj : j < L.length) => mapM_ok (ims := L) (m := xs.getD j 0) (N := (nxt L L.length).toNat) h.2.1 (by omega) (fun j hj => by have := cls_lt' h.1 hj; omega) (h.2.2.2 j hj)
  rw [Bool.eq_iff_iff, morA_iff, corB_iff]
  constructor
  · intro a x hx y hy e
    have b1 := a x (by omega)
    have b2 := a y (by omega)
    unfold MOR at b1 b2
    rw [b1, b2, e]
  · intro a x hx
    have hxl : x < L.length := by omega
    have hc := cls_lt' h.1 hxl
    obtain ⟨q1, q2⟩ := quoI_ok h L.length (Nat.le_refl _) (L.getD x 0).toNat (by omega)
    unfold MOR
    refine tb_ext (hmm x hxl).1.1 q1.1 fun k => ?_
    rw [Bool.eq_iff_iff, q2]
    constructor
    · intro hk; exact ⟨x, hxl, by omega, hk⟩
    · rintro ⟨j, hj, e, hk⟩
      rw [a x hxl j hj (by omega)]
      exact hk
theorem quoS_get {xs L : List Int} : ∀ (i c : Nat), (c : Int) < nxt L i → ∃ j : Nat, j < i ∧ L.getD j 0 = (c : Int) ∧ (quoS xs L i).getD c 0 = mapM L (xs.getD j 0)
  | 0, c, hc => by rw [nxt] at hc; omega
  | i + 1, c, hc => by
    have hl := quoS_len xs L i
    by_cases e : L.getD i 0 = nxt L i
    · rw [← nxt_yes e] at hc
      rw [← quoS_yes (by rw [hl]; exact e)]
      by_cases ec : (c : Int) = nxt L i
      · refine ⟨i, by omega, by omega, ?_⟩
        rw [List.getD_eq_getElem?_getD, List.getElem?_append_right (by omega), show c - (quoS xs L i).length = 0 by omega]
        rfl
      · obtain ⟨j, b1, b2, b3⟩ := quoS_get (xs := xs) (L := L) i c (by omega)
        refine ⟨j, by omega, b2, ?_⟩
        rw [← b3, List.getD_eq_getElem?_getD, List.getElem?_append_left (by omega), List.getD_eq_getElem?_getD]
    · rw [← nxt_no e] at hc
      rw [← quoS_no (by rw [hl]; exact e)]
      obtain ⟨j, b1, b2, b3⟩ := quoS_get (xs := xs) (L := L) i c hc
      exact ⟨j, by omega, b2, b3⟩
theorem quo_eq {xs L : List Int} (h : QH xs L) (hc : corB xs L = true) : quoI xs L L.length = quoS xs L L.length := by
  have h2 := nxt_rng L L.length
  have h3 := h.2.1
  have hmm := fun (j : Nat) (hj : j < L.length) => mapM_ok (ims := L) (m := xs.getD j 0) (N := (nxt L L.length).toNat) h.2.1 (by omega) (fun j hj => by have := cls_lt' h.1 hj; omega) (h.2.2.2 j hj)
  have hl := quoS_len xs L L.length
  refine rowN_ext (quoI_len xs L L.length) (by omega) fun c hcl => ?_
  obtain ⟨q1, q2⟩ := quoI_ok h L.length (Nat.le_refl _) c (by omega)
  obtain ⟨j, j1, j2, j3⟩ := quoS_get (xs := xs) (L := L) L.length c (by omega)
  rw [j3]
  refine tb_ext q1.1 (hmm j j1).1.1 fun k => ?_
  rw [Bool.eq_iff_iff, q2]
  constructor
  · rintro ⟨j', j1', e, hk⟩
    rw [corB_iff.1 hc j j1 j' j1' (by omega)]
    exact hk
  · intro hk; exact ⟨j, j1, j2, hk⟩
def quC (n : Int) (xs L : List Int) : Int := if okPo n xs = true then (if (parB n L && corB xs L) = true then 0 else 5) else 1
def quR (n : Int) (xs L : List Int) : List Int := if quC n xs L = 0 then quoS xs L L.length else []
def quN (n : Int) (xs L : List Int) : Int := if quC n xs L = 0 then nxt L L.length else 0
theorem cng_eq {n : Int} {xs L : List Int} (hP : okPo n xs = true) : cngB n xs L = (parB n L && corB xs L) := by
  cases hp : parB n L with
  | false =>
    have : (decide ((L.length : Int) = n) && clsB L) = false := by rw [Bool.and_comm]; exact hp
    rw [cngB, this]; rfl
  | true =>
    have : (decide ((L.length : Int) = n) && clsB L) = true := by rw [Bool.and_comm]; exact hp
    simp only [parB, Bool.and_eq_true, decide_eq_true_eq] at hp
    rw [cngB, this, Bool.true_and, Bool.true_and]
    exact quo_mor (qh_of hP hp.2 hp.1) hp.2
theorem par_ok {n : Int} {L : List Int} (h : parB n L = true) : (L.length : Int) = n ∧ clsB L = true := by
  simp only [parB, Bool.and_eq_true, decide_eq_true_eq] at h
  exact ⟨h.2, h.1⟩
theorem qu_1 {n : Int} {xs L : List Int} (h : okPo n xs = false) : quC n xs L = 1 := by simp [quC, h]
theorem qu_5 {n : Int} {xs L : List Int} (h : okPo n xs = true) (h2 : (parB n L && corB xs L) = false) : quC n xs L = 5 := by simp only [quC, h, h2]; decide
theorem qu_0 {n : Int} {xs L : List Int} (h : okPo n xs = true) (h2 : (parB n L && corB xs L) = true) : quC n xs L = 0 := by simp only [quC, h, h2]; decide
theorem qu_bad {s : Nat} {n c : Int} {xs L : List Int} (h : quC n xs L = c) (hc : ¬ c = 0) : AV.tup [.agg [AI 0, ownA eI s 1 []], AI c] = AV.tup [.agg [AI (quN n xs L), ownA eI s 1 (quR n xs L)], AI (quC n xs L)] := by
  rw [quN, quR, h, if_neg hc, if_neg hc]
theorem qu_ok {s : Nat} {n k : Int} {xs L R : List Int} (h : quC n xs L = 0) (hk : k = nxt L L.length) (hR : R = quoS xs L L.length) : AV.tup [.agg [AI k, ownA eI s 1 R], AI 0] = AV.tup [.agg [AI (quN n xs L), ownA eI s 1 (quR n xs L)], AI (quC n xs L)] := by
  rw [quN, quR, h, if_pos rfl, if_pos rfl, hk, hR]
theorem quR_len (n : Int) (xs L : List Int) : (quR n xs L).length ≤ 8 := by
  unfold quR
  split
  · rename_i h
    unfold quC at h
    split at h
    · rename_i h1
      split at h
      · rename_i h2
        rw [Bool.and_eq_true] at h2
        have h3 := par_ok h2.1
        have h4 := okFr_rel (okPo_fr h1)
        have h5 := nxt_rng L L.length
        have h6 := quoS_len xs L L.length
        omega
      · cases h
    · cases h
  · simp

theorem l21Partition_c (L : List Int) (n : Int) (ll : L.length ≤ 1000000000) : CallA Try.prog 56 [LI L, AI n] (.bool (parB n L)) := by
  refine CallA.of Try.func56 rfl (by kernel_rfl) ?_
  refine R.go 14 (R.loop ((fun | (x, nx) => (⟨(frm 32 [(0, LI L), (1, AI n), (5, AI nx), (6, AI (x : Int))]), []⟩ : St) : Nat × Int → St)) (fun | (x, nx) => (x ≤ L.length) ∧ (∀ i : Nat, i < x → inR (L.getD i 0) 0 (nxt L i) = true) ∧ (nx = nxt L x)) (fun | (x, nx) => L.length - x) (0, 0) [0, 1, 5, 6] none (by kernel_rfl) (by kernel_rfl) (by kernel_rfl) ⟨(by omega), (by exact fun i hi => absurd hi (by omega)), (by rfl)⟩ ?_)
  rintro ⟨x, nx⟩ ⟨h4_1, h4_2, rfl⟩ R1 N2
  have hnx := nxt_rng L x
  refine R.go 8 (R.cond ((x : Int) < (L.length : Int)) (by kernel_rfl) (fun c5 => ?_) (fun c5 => ?_))
  · refine R.go 8 (R.idx eI L 0 x (x : Int) (by kernel_rfl) rfl eI_len (by omega) (by kernel_rfl) ?_)
    refine R.go 2 (R.call true (l01In_c (L.getD x 0) 0 (nxt L x)) (by kernel_rfl) rfl (by kernel_rfl) ?_)
    refine R.go 2 (R.condM (inR (L.getD x 0) 0 (nxt L x)) (by kernel_rfl) (fun c6 => ?_) (fun c6 => ?_))
    · exact R.go 4 (R.retE (.bool false) (by kernel_rfl) (by kernel_rfl) (by first | (apply congrArg AV.bool; first | (rw [parB, ← clsB_no (i := x) (by omega) (by assumption)]; rfl) | (rw [parB, clsB_mk fun i hi => (‹∀ i : Nat, i < x → inR (L.getD i 0) 0 (nxt L i) = true›) i (by omega)]; rfl)) | (exfalso; omega)))
    · refine R.go 5 (R.idx eI L 0 x (x : Int) (by kernel_rfl) rfl eI_len (by omega) (by kernel_rfl) ?_)
      refine R.go 4 (R.cond ((L.getD x 0) = (nxt L x)) (by kernel_rfl) (fun c7 => ?_) (fun c7 => ?_))
      · refine R.go 2 (R.ar ((nxt L x) + 1) (by kernel_rfl) (by omega) (by omega) (by kernel_rfl) ?_)
        refine R.go 5 (R.ar ((x : Int) + 1) (by kernel_rfl) (by omega) (by omega) (by kernel_rfl) ?_)
        exact R.go 2 (R.stop R1 (by kernel_rfl) (N2 (x + 1, (nxt L x) + 1) [0, 1, 5, 6] none _ (by kernel_rfl) (by kernel_rfl) ⟨(by omega), (by exact below1 (by assumption) (by assumption)), (by first | exact nxt_yes (by assumption) | exact nxt_no (by assumption))⟩ (by show (L.length - (x + 1)) < (L.length - x); omega)))
      · refine R.go 4 (R.ar ((x : Int) + 1) (by kernel_rfl) (by omega) (by omega) (by kernel_rfl) ?_)
        exact R.go 2 (R.stop R1 (by kernel_rfl) (N2 (x + 1, nxt L x) [0, 1, 5, 6] none _ (by kernel_rfl) (by kernel_rfl) ⟨(by omega), (by exact below1 (by assumption) (by assumption)), (by first | exact nxt_yes (by assumption) | exact nxt_no (by assumption))⟩ (by show (L.length - (x + 1)) < (L.length - x); omega)))
  · exact R.go 9 (R.retE (.bool (decide ((L.length : Int) = n))) (by kernel_rfl) (by kernel_rfl) (by first | (apply congrArg AV.bool; first | (rw [parB, ← clsB_no (i := x) (by omega) (by assumption)]; rfl) | (rw [parB, clsB_mk fun i hi => (‹∀ i : Nat, i < x → inR (L.getD i 0) 0 (nxt L i) = true›) i (by omega)]; rfl)) | (exfalso; omega)))

theorem areClasses_c (L : List Int) (ll : L.length ≤ 1000000000) : CallA Try.prog 94 [LI L] (.bool (clsB L)) := by
  refine CallA.of Try.func94 rfl (by kernel_rfl) ?_
  refine R.go 16 (R.loop ((fun | (x, nx) => (⟨(frm 22 [(3, AI nx), (6, LI L), (7, AI L.length), (8, AI (x : Int))]), []⟩ : St) : Nat × Int → St)) (fun | (x, nx) => (x ≤ L.length) ∧ (∀ i : Nat, i < x → inR (L.getD i 0) 0 (nxt L i) = true) ∧ (nx = nxt L x)) (fun | (x, nx) => L.length - x) (0, 0) [3, 6, 7, 8] none (by kernel_rfl) (by kernel_rfl) (by kernel_rfl) ⟨(by omega), (by exact fun i hi => absurd hi (by omega)), (by rfl)⟩ ?_)
  rintro ⟨x, nx⟩ ⟨h4_1, h4_2, rfl⟩ R1 N2
  have hnx := nxt_rng L x
  refine R.go 5 (R.cond ((x : Int) < (L.length : Int)) (by kernel_rfl) (fun c5 => ?_) (fun c5 => ?_))
  · refine R.go 5 (R.idx eI L 0 x (x : Int) (by kernel_rfl) rfl eI_len (by omega) (by kernel_rfl) ?_)
    refine R.go 8 (R.call true (inRange_c (L.getD x 0) 0 (nxt L x)) (by kernel_rfl) rfl (by kernel_rfl) ?_)
    refine R.go 2 (R.condM (inR (L.getD x 0) 0 (nxt L x)) (by kernel_rfl) (fun c6 => ?_) (fun c6 => ?_))
    · exact R.go 4 (R.retE (.bool false) (by kernel_rfl) (by kernel_rfl) (by first | (apply congrArg AV.bool; first | exact clsB_no (i := x) (by omega) (by assumption) | exact (clsB_mk fun i hi => (‹∀ i : Nat, i < x → inR (L.getD i 0) 0 (nxt L i) = true›) i (by omega)).symm) | (exfalso; omega)))
    · refine R.go 7 (R.cond ((L.getD x 0) = (nxt L x)) (by kernel_rfl) (fun c7 => ?_) (fun c7 => ?_))
      · refine R.go 2 (R.ar ((nxt L x) + 1) (by kernel_rfl) (by omega) (by omega) (by kernel_rfl) ?_)
        refine R.go 4 (R.ar ((x : Int) + 1) (by kernel_rfl) (by omega) (by omega) (by kernel_rfl) ?_)
        exact R.go 2 (R.stop R1 (by kernel_rfl) (N2 (x + 1, (nxt L x) + 1) [3, 6, 7, 8] none _ (by kernel_rfl) (by kernel_rfl) ⟨(by omega), (by exact below1 (by assumption) (by assumption)), (by first | exact nxt_yes (by assumption) | exact nxt_no (by assumption))⟩ (by show (L.length - (x + 1)) < (L.length - x); omega)))
      · refine R.go 3 (R.ar ((x : Int) + 1) (by kernel_rfl) (by omega) (by omega) (by kernel_rfl) ?_)
        exact R.go 2 (R.stop R1 (by kernel_rfl) (N2 (x + 1, nxt L x) [3, 6, 7, 8] none _ (by kernel_rfl) (by kernel_rfl) ⟨(by omega), (by exact below1 (by assumption) (by assumption)), (by first | exact nxt_yes (by assumption) | exact nxt_no (by assumption))⟩ (by show (L.length - (x + 1)) < (L.length - x); omega)))
  · exact R.go 5 (R.retE (.bool true) (by kernel_rfl) (by kernel_rfl) (by first | (apply congrArg AV.bool; first | exact clsB_no (i := x) (by omega) (by assumption) | exact (clsB_mk fun i hi => (‹∀ i : Nat, i < x → inR (L.getD i 0) 0 (nxt L i) = true›) i (by omega)).symm) | (exfalso; omega)))

theorem maxI_c (L : List Int) (h1 : 1 ≤ L.length) (ll : L.length ≤ 1000000000) : CallA Try.prog 137 [LI L] (AI (maxT L L.length)) := by
  refine CallA.of Try.func137 rfl (by kernel_rfl) ?_
  refine R.go 11 (R.cond ((L.length : Int) < 1) (by kernel_rfl) (fun c1 => ?_) (fun c1 => ?_))
  · exfalso; omega -- op ('other', 'makeInterface')
  · refine R.go 4 (R.idx eI L 0 0 0 (by kernel_rfl) rfl eI_len (by omega) (by kernel_rfl) ?_)
    refine R.go 9 (R.loop ((fun | (i, r) => (⟨(frm 25 [(0, LI L), (3, AI r), (4, AI (i : Int))]), []⟩ : St) : Nat × Int → St)) (fun | (i, r) => (1 ≤ i) ∧ (i ≤ L.length) ∧ (r = maxT L i)) (fun | (i, r) => L.length - i) (1, (L.getD 0 0)) [0, 3, 4] none (by kernel_rfl) (by kernel_rfl) (by kernel_rfl) ⟨(by omega), (by omega), (by exact maxT_one L)⟩ ?_)
    rintro ⟨i, r⟩ ⟨h5_1, h5_2, rfl⟩ R2 N3
    refine R.go 8 (R.cond ((i : Int) < (L.length : Int)) (by kernel_rfl) (fun c6 => ?_) (fun c6 => ?_))
    · refine R.go 7 (R.idx eI L 0 i (i : Int) (by kernel_rfl) rfl eI_len (by omega) (by kernel_rfl) ?_)
      refine R.go 7 (R.ar ((i : Int) + 1) (by kernel_rfl) (by omega) (by omega) (by kernel_rfl) ?_)
      exact R.go 2 (R.stop R2 (by kernel_rfl) (N3 (i + 1, if (L.getD i 0) > (maxT L i) then (L.getD i 0) else (maxT L i)) [0, 3, 4] none _ (by kernel_rfl) (by kernel_rfl) ⟨(by omega), (by omega), (by rfl)⟩ (by show (L.length - (i + 1)) < (L.length - i); omega)))
    · exact R.go 6 (R.retE (AI (maxT L i)) (by kernel_rfl) (by kernel_rfl) (by first | (rw [show i = L.length by omega]) | (exfalso; omega)))

theorem classCount_c (L : List Int) (hc : clsB L = true) (ll : L.length ≤ 1000000000) : CallA Try.prog 97 [LI L] (AI (nxt L L.length)) := by
  have hmx := fun h : 1 ≤ L.length => maxT_nxt hc L.length h (Nat.le_refl _)
  have hnr := nxt_rng L L.length
  refine CallA.of Try.func97 rfl (by kernel_rfl) ?_
  refine R.go 11 (R.cond ((L.length : Int) = 0) (by kernel_rfl) (fun c1 => ?_) (fun c1 => ?_))
  · exact R.go 4 (R.retE (AI 0) (by kernel_rfl) (by kernel_rfl) (by first | (apply congrArg AI; first | (exact hmx (by omega)) | (rw [List.eq_nil_of_length_eq_zero (l := L) (by omega)]; rfl)) | (exfalso; omega)))
  · refine R.go 4 (R.call true (maxI_c L (by first | omega | (simp <;> omega)) ll) (by kernel_rfl) rfl (by kernel_rfl) ?_)
    refine R.ar ((maxT L L.length) + 1) (by kernel_rfl) (by omega) (by omega) (by kernel_rfl) ?_
    exact R.go 2 (R.retE (AI ((maxT L L.length) + 1)) (by kernel_rfl) (by kernel_rfl) (by first | (apply congrArg AI; first | (exact hmx (by omega)) | (rw [List.eq_nil_of_length_eq_zero (l := L) (by omega)]; rfl)) | (exfalso; omega)))

theorem quotientRelation_c (xs : List Int) (L : List Int) (hQ : QH xs L) : CallA Try.prog 62 [LI xs, LI L] (ownA eI 2 1 (quoI xs L L.length)) := by
  have hI := qh_i hQ
  have hq8 := hQ.2.1
  have hqx := hQ.2.2.1
  have hqn := nxt_rng L L.length
  have hcl := fun (j : Nat) (hj : j < L.length) => cls_lt' hQ.1 hj
  refine CallA.of Try.func62 rfl (by kernel_rfl) ?_
  refine R.go 7 (R.call true (classCount_c L (by first | assumption | exact hQ.1) (by first | omega | (simp <;> omega))) (by kernel_rfl) rfl (by kernel_rfl) ?_)
  refine R.mk eI 0 2 8 ((nxt L L.length).toNat) (nxt L L.length) (by kernel_rfl) (by omega) (by decide) (by omega) (by kernel_rfl) ?_
  refine R.go 10 (R.loop ((fun | (x, out) => (⟨(frm 32 [(1, LI L), (5, .ref 0), (11, LI xs), (12, AI xs.length), (13, AI (x : Int))]), [rowA eI 2 1 out]⟩ : St) : Nat × (List Int) → St)) (fun | (x, out) => (x ≤ xs.length) ∧ (out = quoI xs L x)) (fun | (x, out) => xs.length - x) (0, (List.replicate ((nxt L L.length).toNat) 0)) [1, 5, 11, 12, 13] none (by kernel_rfl) (by kernel_rfl) (by kernel_rfl) ⟨(by omega), (by rfl)⟩ ?_)
  rintro ⟨x, out⟩ ⟨h4_1, rfl⟩ R1 N2
  have hol := quoI_len xs L x
  have hclx := hcl x
  refine R.go 5 (R.cond ((x : Int) < (xs.length : Int)) (by kernel_rfl) (fun c5 => ?_) (fun c5 => ?_))
  · refine R.go 6 (R.idx eI xs 0 x (x : Int) (by kernel_rfl) rfl eI_len (by omega) (by kernel_rfl) ?_)
    refine R.go 4 (R.any (by decide +kernel) (by kernel_rfl) ?_)
    refine R.anyF 0 (by kernel_rfl) (np_ret _ _ _) ?_
    refine R.anyF 1 (by kernel_rfl) (np_ret _ _ _) ?_
    refine R.anyF 2 (by kernel_rfl) (np_ret _ _ _) ?_
    refine R.anyF 7 (by kernel_rfl) (np_ret _ _ _) ?_
    refine R.anyF 8 (by kernel_rfl) (np_ret _ _ _) ?_
    refine R.any2 3 9 (by kernel_rfl) (by kernel_rfl) ?_ ?_
    · refine R.idx eI L 0 x (x : Int) (by kernel_rfl) rfl eI_len (by omega) (by kernel_rfl) ?_
      refine R.go 1 (R.any2 4 9 (by kernel_rfl) (by kernel_rfl) ?_ ?_)
      · refine R.go 2 (R.any2 5 9 (by kernel_rfl) (by kernel_rfl) ?_ ?_)
        · refine R.idxO 0 1 (quoI xs L x).length (((L.getD x 0)).toNat) (L.getD x 0) (by kernel_rfl) (by omega) (by omega) (by kernel_rfl) ?_
          refine R.go 1 (R.any2 6 9 (by kernel_rfl) (by kernel_rfl) ?_ ?_)
          · refine R.ldI (quoI xs L x) (((L.getD x 0)).toNat) (by kernel_rfl) (by omega) (by kernel_rfl) ?_
            refine R.go 1 (R.any1 9 (by kernel_rfl) (by kernel_rfl) ?_)
            refine R.call true (mapMask_c L (xs.getD x 0) hI (hQ.2.2.2 x (by omega))) (by kernel_rfl) rfl (by kernel_rfl) ?_
            refine R.go 1 (R.any1 10 (by kernel_rfl) (by kernel_rfl) ?_)
            refine R.go 2 (R.any1 11 (by kernel_rfl) (by kernel_rfl) ?_)
            refine R.idxO 0 1 (quoI xs L x).length (((L.getD x 0)).toNat) (L.getD x 0) (by kernel_rfl) (by omega) (by omega) (by kernel_rfl) ?_
            refine R.go 1 (R.any1 12 (by kernel_rfl) (by kernel_rfl) ?_)
            refine R.stI 0 2 (quoI xs L x) (((L.getD x 0)).toNat) (bor ((quoI xs L x).getD (((L.getD x 0)).toNat) 0) (mapM L (xs.getD x 0))) (by kernel_rfl) (by omega) (by kernel_rfl) ?_
            refine R.go 1 (R.any0 (by kernel_rfl) ?_)
            refine R.go 2 (R.ar ((x : Int) + 1) (by kernel_rfl) (by omega) (by omega) (by kernel_rfl) ?_)
            exact R.go 2 (R.stop R1 (by kernel_rfl) (N2 (x + 1, (quoI xs L x).set (((L.getD x 0)).toNat) (bor ((quoI xs L x).getD (((L.getD x 0)).toNat) 0) (mapM L (xs.getD x 0)))) [1, 5, 11, 12, 13] none _ (by kernel_rfl) (by kernel_rfl) ⟨(by omega), (by rfl)⟩ (by show (xs.length - (x + 1)) < (xs.length - x); omega)))
          · refine R.call true (mapMask_c L (xs.getD x 0) hI (hQ.2.2.2 x (by omega))) (by kernel_rfl) rfl (by kernel_rfl) ?_
            refine R.go 1 (R.any1 6 (by kernel_rfl) (by kernel_rfl) ?_)
            refine R.ldI (quoI xs L x) (((L.getD x 0)).toNat) (by kernel_rfl) (by omega) (by kernel_rfl) ?_
            refine R.go 1 (R.any1 10 (by kernel_rfl) (by kernel_rfl) ?_)
            refine R.go 2 (R.any1 11 (by kernel_rfl) (by kernel_rfl) ?_)
            refine R.idxO 0 1 (quoI xs L x).length (((L.getD x 0)).toNat) (L.getD x 0) (by kernel_rfl) (by omega) (by omega) (by kernel_rfl) ?_
            refine R.go 1 (R.any1 12 (by kernel_rfl) (by kernel_rfl) ?_)
            refine R.stI 0 2 (quoI xs L x) (((L.getD x 0)).toNat) (bor ((quoI xs L x).getD (((L.getD x 0)).toNat) 0) (mapM L (xs.getD x 0))) (by kernel_rfl) (by omega) (by kernel_rfl) ?_
            refine R.go 1 (R.any0 (by kernel_rfl) ?_)
            refine R.go 2 (R.ar ((x : Int) + 1) (by kernel_rfl) (by omega) (by omega) (by kernel_rfl) ?_)
            exact R.go 2 (R.stop R1 (by kernel_rfl) (N2 (x + 1, (quoI xs L x).set (((L.getD x 0)).toNat) (bor ((quoI xs L x).getD (((L.getD x 0)).toNat) 0) (mapM L (xs.getD x 0)))) [1, 5, 11, 12, 13] none _ (by kernel_rfl) (by kernel_rfl) ⟨(by omega), (by rfl)⟩ (by show (xs.length - (x + 1)) < (xs.length - x); omega)))
        · refine R.call true (mapMask_c L (xs.getD x 0) hI (hQ.2.2.2 x (by omega))) (by kernel_rfl) rfl (by kernel_rfl) ?_
          refine R.go 1 (R.any1 5 (by kernel_rfl) (by kernel_rfl) ?_)
          refine R.idxO 0 1 (quoI xs L x).length (((L.getD x 0)).toNat) (L.getD x 0) (by kernel_rfl) (by omega) (by omega) (by kernel_rfl) ?_
          refine R.go 1 (R.any1 6 (by kernel_rfl) (by kernel_rfl) ?_)
          refine R.ldI (quoI xs L x) (((L.getD x 0)).toNat) (by kernel_rfl) (by omega) (by kernel_rfl) ?_
          refine R.go 1 (R.any1 10 (by kernel_rfl) (by kernel_rfl) ?_)
          refine R.go 2 (R.any1 11 (by kernel_rfl) (by kernel_rfl) ?_)
          refine R.idxO 0 1 (quoI xs L x).length (((L.getD x 0)).toNat) (L.getD x 0) (by kernel_rfl) (by omega) (by omega) (by kernel_rfl) ?_
          refine R.go 1 (R.any1 12 (by kernel_rfl) (by kernel_rfl) ?_)
          refine R.stI 0 2 (quoI xs L x) (((L.getD x 0)).toNat) (bor ((quoI xs L x).getD (((L.getD x 0)).toNat) 0) (mapM L (xs.getD x 0))) (by kernel_rfl) (by omega) (by kernel_rfl) ?_
          refine R.go 1 (R.any0 (by kernel_rfl) ?_)
          refine R.go 2 (R.ar ((x : Int) + 1) (by kernel_rfl) (by omega) (by omega) (by kernel_rfl) ?_)
          exact R.go 2 (R.stop R1 (by kernel_rfl) (N2 (x + 1, (quoI xs L x).set (((L.getD x 0)).toNat) (bor ((quoI xs L x).getD (((L.getD x 0)).toNat) 0) (mapM L (xs.getD x 0)))) [1, 5, 11, 12, 13] none _ (by kernel_rfl) (by kernel_rfl) ⟨(by omega), (by rfl)⟩ (by show (xs.length - (x + 1)) < (xs.length - x); omega)))
      · refine R.call true (mapMask_c L (xs.getD x 0) hI (hQ.2.2.2 x (by omega))) (by kernel_rfl) rfl (by kernel_rfl) ?_
        refine R.go 1 (R.any1 4 (by kernel_rfl) (by kernel_rfl) ?_)
        refine R.go 2 (R.any1 5 (by kernel_rfl) (by kernel_rfl) ?_)
        refine R.idxO 0 1 (quoI xs L x).length (((L.getD x 0)).toNat) (L.getD x 0) (by kernel_rfl) (by omega) (by omega) (by kernel_rfl) ?_
        refine R.go 1 (R.any1 6 (by kernel_rfl) (by kernel_rfl) ?_)
        refine R.ldI (quoI xs L x) (((L.getD x 0)).toNat) (by kernel_rfl) (by omega) (by kernel_rfl) ?_
        refine R.go 1 (R.any1 10 (by kernel_rfl) (by kernel_rfl) ?_)
        refine R.go 2 (R.any1 11 (by kernel_rfl) (by kernel_rfl) ?_)
        refine R.idxO 0 1 (quoI xs L x).length (((L.getD x 0)).toNat) (L.getD x 0) (by kernel_rfl) (by omega) (by omega) (by kernel_rfl) ?_
        refine R.go 1 (R.any1 12 (by kernel_rfl) (by kernel_rfl) ?_)
        refine R.stI 0 2 (quoI xs L x) (((L.getD x 0)).toNat) (bor ((quoI xs L x).getD (((L.getD x 0)).toNat) 0) (mapM L (xs.getD x 0))) (by kernel_rfl) (by omega) (by kernel_rfl) ?_
        refine R.go 1 (R.any0 (by kernel_rfl) ?_)
        refine R.go 2 (R.ar ((x : Int) + 1) (by kernel_rfl) (by omega) (by omega) (by kernel_rfl) ?_)
        exact R.go 2 (R.stop R1 (by kernel_rfl) (N2 (x + 1, (quoI xs L x).set (((L.getD x 0)).toNat) (bor ((quoI xs L x).getD (((L.getD x 0)).toNat) 0) (mapM L (xs.getD x 0)))) [1, 5, 11, 12, 13] none _ (by kernel_rfl) (by kernel_rfl) ⟨(by omega), (by rfl)⟩ (by show (xs.length - (x + 1)) < (xs.length - x); omega)))
    · refine R.call true (mapMask_c L (xs.getD x 0) hI (hQ.2.2.2 x (by omega))) (by kernel_rfl) rfl (by kernel_rfl) ?_
      refine R.go 1 (R.any1 3 (by kernel_rfl) (by kernel_rfl) ?_)
      refine R.idx eI L 0 x (x : Int) (by kernel_rfl) rfl eI_len (by omega) (by kernel_rfl) ?_
      refine R.go 1 (R.any1 4 (by kernel_rfl) (by kernel_rfl) ?_)
      refine R.go 2 (R.any1 5 (by kernel_rfl) (by kernel_rfl) ?_)
      refine R.idxO 0 1 (quoI xs L x).length (((L.getD x 0)).toNat) (L.getD x 0) (by kernel_rfl) (by omega) (by omega) (by kernel_rfl) ?_
      refine R.go 1 (R.any1 6 (by kernel_rfl) (by kernel_rfl) ?_)
      refine R.ldI (quoI xs L x) (((L.getD x 0)).toNat) (by kernel_rfl) (by omega) (by kernel_rfl) ?_
      refine R.go 1 (R.any1 10 (by kernel_rfl) (by kernel_rfl) ?_)
      refine R.go 2 (R.any1 11 (by kernel_rfl) (by kernel_rfl) ?_)
      refine R.idxO 0 1 (quoI xs L x).length (((L.getD x 0)).toNat) (L.getD x 0) (by kernel_rfl) (by omega) (by omega) (by kernel_rfl) ?_
      refine R.go 1 (R.any1 12 (by kernel_rfl) (by kernel_rfl) ?_)
      refine R.stI 0 2 (quoI xs L x) (((L.getD x 0)).toNat) (bor ((quoI xs L x).getD (((L.getD x 0)).toNat) 0) (mapM L (xs.getD x 0))) (by kernel_rfl) (by omega) (by kernel_rfl) ?_
      refine R.go 1 (R.any0 (by kernel_rfl) ?_)
      refine R.go 2 (R.ar ((x : Int) + 1) (by kernel_rfl) (by omega) (by omega) (by kernel_rfl) ?_)
      exact R.go 2 (R.stop R1 (by kernel_rfl) (N2 (x + 1, (quoI xs L x).set (((L.getD x 0)).toNat) (bor ((quoI xs L x).getD (((L.getD x 0)).toNat) 0) (mapM L (xs.getD x 0)))) [1, 5, 11, 12, 13] none _ (by kernel_rfl) (by kernel_rfl) ⟨(by omega), (by rfl)⟩ (by show (xs.length - (x + 1)) < (xs.length - x); omega)))
  · exact R.go 6 (R.retE (ownA eI 2 1 (quoI xs L x)) (by kernel_rfl) (by kernel_rfl) (by first | (rw [show x = L.length by omega]) | (exfalso; omega)))

theorem isCongruence_c (n : Int) (xs : List Int) (L : List Int) (hP : okPo n xs = true) (ll : L.length ≤ 1000000000) : CallA Try.prog 59 [.agg [AI n, LI xs], LI L] (.bool (cngB n xs L)) := by
  have hp1 := okFr_rel (okPo_fr hP)
  have hb : 0 ≤ n ∧ n ≤ 8 ∧ (xs.length : Int) = n := ⟨hp1.1, hp1.2.1, hp1.2.2.1⟩
  refine CallA.of Try.func59 rfl (by kernel_rfl) ?_
  refine R.go 9 (R.call true (size_c L) (by kernel_rfl) rfl (by kernel_rfl) ?_)
  refine R.go 4 ?_
  by_cases c1 : (L.length : Int) = n
  · refine R.want (!decide ((L.length : Int) = n)) false (by kernel_rfl) (nF c1) ?_
    refine R.go 1 (R.want (!decide ((L.length : Int) = n)) false (by kernel_rfl) (nF c1) ?_)
    refine R.call true (areClasses_c L ll) (by kernel_rfl) rfl (by kernel_rfl) ?_
    refine R.want (!decide ((L.length : Int) = n)) false (by kernel_rfl) (nF c1) ?_
    refine R.go 1 (R.pick (!decide ((L.length : Int) = n)) false (by kernel_rfl) (nF c1) (by kernel_rfl) ?_)
    refine R.go 1 (R.condM (clsB L) (by kernel_rfl) (fun c2 => ?_) (fun c2 => ?_))
    · exact R.go 4 (R.retE (.bool false) (by kernel_rfl) (by kernel_rfl) (by first | (apply congrArg AV.bool; simp [cngB, *]) | (exfalso; omega)))
    · have hc : clsB L = true := by assumption
      have hln : (L.length : Int) = n := by assumption
      have hQ : QH xs L := qh_of hP hln hc
      have hM : MorH xs (quoI xs L L.length) L := qh_m hQ
      refine R.go 7 (R.call true (quotientRelation_c xs L hQ).frz (by kernel_rfl) rfl (by kernel_rfl) ?_)
      refine R.call true (frameOf_c (quoI xs L L.length)) (by kernel_rfl) rfl (by kernel_rfl) ?_
      refine R.go 1 (R.call true (isMorphism_c n xs ((quoI xs L L.length).length) (quoI xs L L.length) L hM (by first | omega | (simp <;> omega))) (by kernel_rfl) rfl (by kernel_rfl) ?_)
      exact R.go 2 (R.retE (.bool (morA n xs (quoI xs L L.length) L)) (by kernel_rfl) (by kernel_rfl) (by first | (apply congrArg AV.bool; simp [cngB, *]) | (exfalso; omega)))
  · refine R.skp (!decide ((L.length : Int) = n)) false (by kernel_rfl) (nT c1) (by kernel_rfl) ?_
    refine R.skp (!decide ((L.length : Int) = n)) false (by kernel_rfl) (nT c1) (by kernel_rfl) ?_
    refine R.skp (!decide ((L.length : Int) = n)) false (by kernel_rfl) (nT c1) (by kernel_rfl) ?_
    refine R.pick (!decide ((L.length : Int) = n)) true (by kernel_rfl) (nT c1) (by kernel_rfl) ?_
    exact R.go 6 (R.retE (.bool false) (by kernel_rfl) (by kernel_rfl) (by first | (apply congrArg AV.bool; simp [cngB, *]) | (exfalso; omega)))

theorem l21Correct_c (n : Int) (xs : List Int) (L : List Int) (hQ : QH xs L) : CallA Try.prog 57 [.agg [AI n, LI xs], LI L] (.bool (corB xs L)) := by
  have hI := qh_i hQ
  have hq8 := hQ.2.1
  have hqx := hQ.2.2.1
  have hqn := nxt_rng L L.length
  have hcl := fun (j : Nat) (hj : j < L.length) => cls_lt' hQ.1 hj
  refine CallA.of Try.func57 rfl (by kernel_rfl) ?_
  refine R.go 11 (R.loop (fun (x : Nat) => (⟨(frm 45 [(1, LI L), (2, .ptr 0 0), (5, AI (x : Int))]), [.box 26 [AI n, LI xs]]⟩ : St)) (fun (x : Nat) => (x ≤ L.length) ∧ (∀ i : Nat, i < x → ∀ j : Nat, j < L.length → COR xs L i j)) (fun (x : Nat) => L.length - x) 0 [1, 2, 5] none (by kernel_rfl) (by kernel_rfl) (by kernel_rfl) ⟨(by omega), (by exact fun i hi => absurd hi (by omega))⟩ ?_)
  rintro x ⟨h3_1, h3_2⟩ R1 N2
  have hxx := hQ.2.2.2 x
  refine R.go 8 (R.cond ((x : Int) < (L.length : Int)) (by kernel_rfl) (fun c4 => ?_) (fun c4 => ?_))
  · refine R.go 8 (R.loop (fun (y : Nat) => (⟨(frm 45 [(1, LI L), (2, .ptr 0 0), (5, AI (x : Int)), (6, AI (y : Int))]), [.box 26 [AI n, LI xs]]⟩ : St)) (fun (y : Nat) => (y ≤ L.length) ∧ (∀ j : Nat, j < y → COR xs L x j)) (fun (y : Nat) => L.length - y) 0 [1, 2, 5, 6] none (by kernel_rfl) (by kernel_rfl) (by kernel_rfl) ⟨(by omega), (by exact fun j hj => absurd hj (by omega))⟩ ?_)
    rintro y ⟨h7_1, h7_2⟩ R5 N6
    have hxy := hQ.2.2.2 y
    refine R.go 8 (R.cond ((y : Int) < (L.length : Int)) (by kernel_rfl) (fun c8 => ?_) (fun c8 => ?_))
    · refine R.go 7 (R.idx eI L 0 x (x : Int) (by kernel_rfl) rfl eI_len (by omega) (by kernel_rfl) ?_)
      refine R.go 3 (R.idx eI L 0 y (y : Int) (by kernel_rfl) rfl eI_len (by omega) (by kernel_rfl) ?_)
      refine R.go 3 ?_
      by_cases c9 : (L.getD x 0) = (L.getD y 0)
      · refine R.want (decide ((L.getD x 0) = (L.getD y 0))) true (by kernel_rfl) (dT c9) ?_
        refine R.go 1 (R.want (decide ((L.getD x 0) = (L.getD y 0))) true (by kernel_rfl) (dT c9) ?_)
        refine R.go 1 (R.want (decide ((L.getD x 0) = (L.getD y 0))) true (by kernel_rfl) (dT c9) ?_)
        refine R.go 1 (R.want (decide ((L.getD x 0) = (L.getD y 0))) true (by kernel_rfl) (dT c9) ?_)
        refine R.idx eI xs 0 x (x : Int) (by kernel_rfl) rfl eI_len (by omega) (by kernel_rfl) ?_
        refine R.want (decide ((L.getD x 0) = (L.getD y 0))) true (by kernel_rfl) (dT c9) ?_
        refine R.go 1 (R.want (decide ((L.getD x 0) = (L.getD y 0))) true (by kernel_rfl) (dT c9) ?_)
        refine R.go 1 (R.want (decide ((L.getD x 0) = (L.getD y 0))) true (by kernel_rfl) (dT c9) ?_)
        refine R.call true (l21Images_c (xs.getD x 0) L hI (hxx (by omega))) (by kernel_rfl) rfl (by kernel_rfl) ?_
        refine R.want (decide ((L.getD x 0) = (L.getD y 0))) true (by kernel_rfl) (dT c9) ?_
        refine R.go 1 (R.want (decide ((L.getD x 0) = (L.getD y 0))) true (by kernel_rfl) (dT c9) ?_)
        refine R.go 1 (R.want (decide ((L.getD x 0) = (L.getD y 0))) true (by kernel_rfl) (dT c9) ?_)
        refine R.go 1 (R.want (decide ((L.getD x 0) = (L.getD y 0))) true (by kernel_rfl) (dT c9) ?_)
        refine R.idx eI xs 0 y (y : Int) (by kernel_rfl) rfl eI_len (by omega) (by kernel_rfl) ?_
        refine R.want (decide ((L.getD x 0) = (L.getD y 0))) true (by kernel_rfl) (dT c9) ?_
        refine R.go 1 (R.want (decide ((L.getD x 0) = (L.getD y 0))) true (by kernel_rfl) (dT c9) ?_)
        refine R.go 1 (R.want (decide ((L.getD x 0) = (L.getD y 0))) true (by kernel_rfl) (dT c9) ?_)
        refine R.call true (l21Images_c (xs.getD y 0) L hI (hxy (by omega))) (by kernel_rfl) rfl (by kernel_rfl) ?_
        refine R.want (decide ((L.getD x 0) = (L.getD y 0))) true (by kernel_rfl) (dT c9) ?_
        refine R.go 1 (R.pick (decide ((L.getD x 0) = (L.getD y 0))) true (by kernel_rfl) (dT c9) (by kernel_rfl) ?_)
        refine R.go 1 (R.condN ((mapM L (xs.getD x 0)) = (mapM L (xs.getD y 0))) (by kernel_rfl) (fun c10 => ?_) (fun c10 => ?_))
        · exact R.go 4 (R.retE (.bool false) (by kernel_rfl) (by kernel_rfl) (by first | (apply congrArg AV.bool; first | exact corB_no (x := x) (y := y) (by omega) (by omega) (by assumption) (by assumption) | exact (corB_iff.2 fun i hi => (‹∀ i : Nat, i < x → ∀ j : Nat, j < L.length → COR xs L i j›) i (by omega)).symm) | (exfalso; omega)))
        · refine R.go 4 (R.ar ((y : Int) + 1) (by kernel_rfl) (by omega) (by omega) (by kernel_rfl) ?_)
          exact R.go 2 (R.stop R5 (by kernel_rfl) (N6 (y + 1) [1, 2, 5, 6] none _ (by kernel_rfl) (by kernel_rfl) ⟨(by omega), (by exact below1 (P := COR xs L x) (by assumption) (by unfold COR; intro e; first | assumption | exact absurd e (by assumption)))⟩ (by show (L.length - (y + 1)) < (L.length - y); omega)))
      · refine R.skp (decide ((L.getD x 0) = (L.getD y 0))) true (by kernel_rfl) (dF c9) (by kernel_rfl) ?_
        refine R.skp (decide ((L.getD x 0) = (L.getD y 0))) true (by kernel_rfl) (dF c9) (by kernel_rfl) ?_
        refine R.skp (decide ((L.getD x 0) = (L.getD y 0))) true (by kernel_rfl) (dF c9) (by kernel_rfl) ?_
        refine R.skp (decide ((L.getD x 0) = (L.getD y 0))) true (by kernel_rfl) (dF c9) (by kernel_rfl) ?_
        refine R.skp (decide ((L.getD x 0) = (L.getD y 0))) true (by kernel_rfl) (dF c9) (by kernel_rfl) ?_
        refine R.skp (decide ((L.getD x 0) = (L.getD y 0))) true (by kernel_rfl) (dF c9) (by kernel_rfl) ?_
        refine R.skp (decide ((L.getD x 0) = (L.getD y 0))) true (by kernel_rfl) (dF c9) (by kernel_rfl) ?_
        refine R.skp (decide ((L.getD x 0) = (L.getD y 0))) true (by kernel_rfl) (dF c9) (by kernel_rfl) ?_
        refine R.skp (decide ((L.getD x 0) = (L.getD y 0))) true (by kernel_rfl) (dF c9) (by kernel_rfl) ?_
        refine R.skp (decide ((L.getD x 0) = (L.getD y 0))) true (by kernel_rfl) (dF c9) (by kernel_rfl) ?_
        refine R.skp (decide ((L.getD x 0) = (L.getD y 0))) true (by kernel_rfl) (dF c9) (by kernel_rfl) ?_
        refine R.skp (decide ((L.getD x 0) = (L.getD y 0))) true (by kernel_rfl) (dF c9) (by kernel_rfl) ?_
        refine R.skp (decide ((L.getD x 0) = (L.getD y 0))) true (by kernel_rfl) (dF c9) (by kernel_rfl) ?_
        refine R.skp (decide ((L.getD x 0) = (L.getD y 0))) true (by kernel_rfl) (dF c9) (by kernel_rfl) ?_
        refine R.skp (decide ((L.getD x 0) = (L.getD y 0))) true (by kernel_rfl) (dF c9) (by kernel_rfl) ?_
        refine R.pick (decide ((L.getD x 0) = (L.getD y 0))) false (by kernel_rfl) (dF c9) (by kernel_rfl) ?_
        refine R.go 6 (R.ar ((y : Int) + 1) (by kernel_rfl) (by omega) (by omega) (by kernel_rfl) ?_)
        exact R.go 2 (R.stop R5 (by kernel_rfl) (N6 (y + 1) [1, 2, 5, 6] none _ (by kernel_rfl) (by kernel_rfl) ⟨(by omega), (by exact below1 (P := COR xs L x) (by assumption) (by unfold COR; intro e; first | assumption | exact absurd e (by assumption)))⟩ (by show (L.length - (y + 1)) < (L.length - y); omega)))
    · refine R.go 4 (R.ar ((x : Int) + 1) (by kernel_rfl) (by omega) (by omega) (by kernel_rfl) ?_)
      exact R.go 2 (R.stop R1 (by kernel_rfl) (N2 (x + 1) [1, 2, 5] none _ (by kernel_rfl) (by kernel_rfl) ⟨(by omega), (by exact below1 (P := fun i => ∀ j : Nat, j < L.length → COR xs L i j) (by assumption) (fun j hj => (‹∀ j : Nat, j < y → COR xs L x j›) j (by omega)))⟩ (by show (L.length - (x + 1)) < (L.length - x); omega)))
  · exact R.go 5 (R.retE (.bool true) (by kernel_rfl) (by kernel_rfl) (by first | (apply congrArg AV.bool; first | exact corB_no (x := x) (y := y) (by omega) (by omega) (by assumption) (by assumption) | exact (corB_iff.2 fun i hi => (‹∀ i : Nat, i < x → ∀ j : Nat, j < L.length → COR xs L i j›) i (by omega)).symm) | (exfalso; omega)))

theorem l21Quotient_c (n : Int) (xs : List Int) (L : List Int) (hQ : QH xs L) : CallA Try.prog 58 [.agg [AI n, LI xs], LI L] (.agg [AI (nxt L L.length), ownA eI 2 1 (quoS xs L L.length)]) := by
  have hI := qh_i hQ
  have hq8 := hQ.2.1
  have hqx := hQ.2.2.1
  have hqn := nxt_rng L L.length
  have hcl := fun (j : Nat) (hj : j < L.length) => cls_lt' hQ.1 hj
  refine CallA.of Try.func58 rfl (by kernel_rfl) ?_
  refine R.go 16 (R.loop ((fun | (x, out) => (⟨(frm 33 [(1, LI L), (2, .ptr 0 0), (4, .ptr 1 0), (5, .ref 2), (6, AI (x : Int))]), [.box 26 [AI n, LI xs], .box 26 [AI 0, .nil], rowA eI 2 1 out]⟩ : St) : Nat × (List Int) → St)) (fun | (x, out) => (x ≤ L.length) ∧ (out = quoS xs L x)) (fun | (x, out) => L.length - x) (0, []) [1, 2, 4, 5, 6] none (by kernel_rfl) (by kernel_rfl) (by kernel_rfl) ⟨(by omega), (by rfl)⟩ ?_)
  rintro ⟨x, out⟩ ⟨h4_1, rfl⟩ R1 N2
  have hol := quoS_len xs L x
  have hnx := nxt_rng L x
  have hxx := hQ.2.2.2 x
  refine R.go 8 (R.cond ((x : Int) < (L.length : Int)) (by kernel_rfl) (fun c5 => ?_) (fun c5 => ?_))
  · refine R.go 7 (R.idx eI L 0 x (x : Int) (by kernel_rfl) rfl eI_len (by omega) (by kernel_rfl) ?_)
    refine R.go 5 (R.cond ((L.getD x 0) = ((quoS xs L x).length : Int)) (by kernel_rfl) (fun c6 => ?_) (fun c6 => ?_))
    · refine R.go 5 (R.idx eI xs 0 x (x : Int) (by kernel_rfl) rfl eI_len (by omega) (by kernel_rfl) ?_)
      refine R.go 2 (R.call true (l21Images_c (xs.getD x 0) L hI (hxx (by omega))) (by kernel_rfl) rfl (by kernel_rfl) ?_)
      refine R.go 1 (R.app eI (quoS xs L x) [mapM L (xs.getD x 0)] 2 2 1 8 (by kernel_rfl) eI_one (by decide) (by first | omega | (simp <;> omega)) (by kernel_rfl) ?_)
      refine R.go 5 (R.ar ((x : Int) + 1) (by kernel_rfl) (by omega) (by omega) (by kernel_rfl) ?_)
      exact R.go 2 (R.stop R1 (by kernel_rfl) (N2 (x + 1, (quoS xs L x) ++ [mapM L (xs.getD x 0)]) [1, 2, 4, 5, 6] (some [0, 1, 2]) _ (by kernel_rfl) (by kernel_rfl) ⟨(by omega), (by first | exact quoS_yes (by assumption) | exact quoS_no (by assumption))⟩ (by show (L.length - (x + 1)) < (L.length - x); omega)))
    · refine R.go 4 (R.ar ((x : Int) + 1) (by kernel_rfl) (by omega) (by omega) (by kernel_rfl) ?_)
      exact R.go 2 (R.stop R1 (by kernel_rfl) (N2 (x + 1, quoS xs L x) [1, 2, 4, 5, 6] none _ (by kernel_rfl) (by kernel_rfl) ⟨(by omega), (by first | exact quoS_yes (by assumption) | exact quoS_no (by assumption))⟩ (by show (L.length - (x + 1)) < (L.length - x); omega)))
  · refine R.go 4 (R.call false (l16Make_c (quoS xs L x) (by first | omega | (simp <;> omega))) (by kernel_rfl) (by simp [AV.closed, closedL, AI, ownA_closed eI_closed]) (by kernel_rfl) ?_)
    exact R.go 2 (R.retE (.agg [AI ((quoS xs L x).length), ownA eI 2 1 (quoS xs L x)]) (by kernel_rfl) (by kernel_rfl) (by first | (rw [hol, show x = L.length by omega]) | (exfalso; omega)))

theorem QU_spec (n : Int) (xs : List Int) (L : List Int) (lx : xs.length ≤ 1048576) (ll : L.length ≤ 1048576) : CallA Try.prog 27 [.agg [AI n, LI xs], LI L] (.tup [.agg [AI (quN n xs L), ownA eI 2 1 (quR n xs L)], AI (quC n xs L)]) := by
  refine CallA.of Try.func27 rfl (by kernel_rfl) ?_
  refine R.go 11 (R.call true (l16Is_c n xs (by first | omega | assumption | exact qh_of (by assumption) (par_ok (by assumption)).1 (par_ok (by assumption)).2)) (by kernel_rfl) rfl (by kernel_rfl) ?_)
  refine R.go 3 (R.condM (okPo n xs) (by kernel_rfl) (fun c1 => ?_) (fun c1 => ?_))
  · refine R.go 6 (R.nilB 1 1 2 1 (by kernel_rfl) ?_)
    exact R.retE (.tup [.agg [AI 0, ownA eI 2 1 []], AI 1]) (by kernel_rfl) (by kernel_rfl) (by first | (first | exact qu_bad (qu_1 (by assumption)) (by decide) | exact qu_bad (qu_5 (by assumption) (by first | assumption | (rw [← cng_eq (by assumption)]; assumption) | simp [*])) (by decide) | exact qu_ok (qu_0 hP hpc) (by omega) (by first | rfl | assumption)) | (exfalso; omega))
  · refine R.go 5 (R.call true (l21Partition_c L n (by first | omega | assumption | exact qh_of (by assumption) (par_ok (by assumption)).1 (par_ok (by assumption)).2)) (by kernel_rfl) rfl (by kernel_rfl) ?_)
    refine R.go 2 ?_
    refine (Bool.eq_false_or_eq_true (parB n L)).elim (fun c2 => ?_) (fun c2 => ?_)
    · refine R.want (!(parB n L)) false (by kernel_rfl) (bnF c2) ?_
      refine R.go 1 (R.want (!(parB n L)) false (by kernel_rfl) (bnF c2) ?_)
      refine R.go 1 (R.want (!(parB n L)) false (by kernel_rfl) (bnF c2) ?_)
      refine R.call true (l21Correct_c n xs L (by first | assumption | exact qh_of (by assumption) (par_ok (by assumption)).1 (par_ok (by assumption)).2)) (by kernel_rfl) rfl (by kernel_rfl) ?_
      refine R.want (!(parB n L)) false (by kernel_rfl) (bnF c2) ?_
      refine R.go 1 (R.pick (!(parB n L)) false (by kernel_rfl) (bnF c2) (by kernel_rfl) ?_)
      refine R.go 2 (R.condM (corB xs L) (by kernel_rfl) (fun c3 => ?_) (fun c3 => ?_))
      · refine R.go 6 (R.nilB 1 1 2 1 (by kernel_rfl) ?_)
        exact R.retE (.tup [.agg [AI 0, ownA eI 2 1 []], AI 5]) (by kernel_rfl) (by kernel_rfl) (by first | (first | exact qu_bad (qu_1 (by assumption)) (by decide) | exact qu_bad (qu_5 (by assumption) (by first | assumption | (rw [← cng_eq (by assumption)]; assumption) | simp [*])) (by decide) | exact qu_ok (qu_0 hP hpc) (by omega) (by first | rfl | assumption)) | (exfalso; omega))
      · have hP : okPo n xs = true := by assumption
        have hpc : (parB n L && corB xs L) = true := by simp [*]
        have hpl := par_ok (Bool.and_eq_true _ _ ▸ hpc).1
        have hcr : corB xs L = true := (Bool.and_eq_true _ _ ▸ hpc).2
        have hQ : QH xs L := qh_of hP hpl.1 hpl.2
        have hqn := nxt_rng L L.length
        have hq8 := hQ.2.1
        have hqe : quoI xs L L.length = quoS xs L L.length := quo_eq hQ hcr
        have hql := quoI_len xs L L.length
        have hsl := quoS_len xs L L.length
        refine R.go 6 (R.call true (l21Quotient_c n xs L hQ) (by kernel_rfl) rfl (by kernel_rfl) ?_)
        exact R.go 3 (R.retE (.tup [.agg [AI (nxt L L.length), ownA eI 2 1 (quoS xs L L.length)], AI 0]) (by kernel_rfl) (by kernel_rfl) (by first | (first | exact qu_bad (qu_1 (by assumption)) (by decide) | exact qu_bad (qu_5 (by assumption) (by first | assumption | (rw [← cng_eq (by assumption)]; assumption) | simp [*])) (by decide) | exact qu_ok (qu_0 hP hpc) (by omega) (by first | rfl | assumption)) | (exfalso; omega)))
    · refine R.skp (!(parB n L)) false (by kernel_rfl) (bnT c2) (by kernel_rfl) ?_
      refine R.skp (!(parB n L)) false (by kernel_rfl) (bnT c2) (by kernel_rfl) ?_
      refine R.skp (!(parB n L)) false (by kernel_rfl) (bnT c2) (by kernel_rfl) ?_
      refine R.skp (!(parB n L)) false (by kernel_rfl) (bnT c2) (by kernel_rfl) ?_
      refine R.pick (!(parB n L)) true (by kernel_rfl) (bnT c2) (by kernel_rfl) ?_
      refine R.go 9 (R.nilB 1 1 2 1 (by kernel_rfl) ?_)
      exact R.retE (.tup [.agg [AI 0, ownA eI 2 1 []], AI 5]) (by kernel_rfl) (by kernel_rfl) (by first | (first | exact qu_bad (qu_1 (by assumption)) (by decide) | exact qu_bad (qu_5 (by assumption) (by first | assumption | (rw [← cng_eq (by assumption)]; assumption) | simp [*])) (by decide) | exact qu_ok (qu_0 hP hpc) (by omega) (by first | rfl | assumption)) | (exfalso; omega))

theorem QU_impl (n : Int) (xs : List Int) (L : List Int) (lx : xs.length ≤ 1048576) (ll : L.length ≤ 1048576) : CallA Try.prog 29 [.agg [AI n, LI xs], LI L] (.tup [.agg [AI (quN n xs L), ownA eI 2 1 (quR n xs L)], AI (quC n xs L)]) := by
  have hp := fun h : okPo n xs = true => okFr_rel (okPo_fr h)
  refine CallA.of Try.func29 rfl (by kernel_rfl) ?_
  refine R.go 11 (R.call true (isPoset_c n xs (by first | omega | assumption | (have h2 := hp (by assumption); omega))) (by kernel_rfl) rfl (by kernel_rfl) ?_)
  refine R.go 3 (R.condM (okPo n xs) (by kernel_rfl) (fun c1 => ?_) (fun c1 => ?_))
  · refine R.go 6 (R.nilB 1 1 2 1 (by kernel_rfl) ?_)
    exact R.retE (.tup [.agg [AI 0, ownA eI 2 1 []], AI 1]) (by kernel_rfl) (by kernel_rfl) (by first | (first | exact qu_bad (qu_1 (by assumption)) (by decide) | exact qu_bad (qu_5 (by assumption) (by first | assumption | (rw [← cng_eq (by assumption)]; assumption) | simp [*])) (by decide) | exact qu_ok (qu_0 hP hpc) (by omega) (by first | rfl | assumption)) | (exfalso; omega))
  · refine R.go 3 (R.call true (pFrame_c n xs (by first | omega | assumption | (have h2 := hp (by assumption); omega))) (by kernel_rfl) rfl (by kernel_rfl) ?_)
    refine R.go 1 (R.call true (isCongruence_c n xs L c1 (by first | omega | assumption | (have h2 := hp (by assumption); omega))) (by kernel_rfl) rfl (by kernel_rfl) ?_)
    refine R.go 3 (R.condM (cngB n xs L) (by kernel_rfl) (fun c2 => ?_) (fun c2 => ?_))
    · refine R.go 6 (R.nilB 1 1 2 1 (by kernel_rfl) ?_)
      exact R.retE (.tup [.agg [AI 0, ownA eI 2 1 []], AI 5]) (by kernel_rfl) (by kernel_rfl) (by first | (first | exact qu_bad (qu_1 (by assumption)) (by decide) | exact qu_bad (qu_5 (by assumption) (by first | assumption | (rw [← cng_eq (by assumption)]; assumption) | simp [*])) (by decide) | exact qu_ok (qu_0 hP hpc) (by omega) (by first | rfl | assumption)) | (exfalso; omega))
    · have hP : okPo n xs = true := by assumption
      have hpc : (parB n L && corB xs L) = true := by rw [← cng_eq hP]; assumption
      have hpl := par_ok (Bool.and_eq_true _ _ ▸ hpc).1
      have hcr : corB xs L = true := (Bool.and_eq_true _ _ ▸ hpc).2
      have hQ : QH xs L := qh_of hP hpl.1 hpl.2
      have hqn := nxt_rng L L.length
      have hq8 := hQ.2.1
      have hqe : quoI xs L L.length = quoS xs L L.length := quo_eq hQ hcr
      have hql := quoI_len xs L L.length
      have hsl := quoS_len xs L L.length
      refine R.go 7 (R.call true (quotientRelation_c xs L hQ) (by kernel_rfl) rfl (by kernel_rfl) ?_)
      refine R.enter (avs := [.ref 2]) Try.func61 rfl (by kernel_rfl) (by kernel_rfl) (by kernel_rfl) ?_
      intro us3
      refine R.go 7 (R.call false (size_c (quoI xs L L.length)) (by kernel_rfl) rfl (by kernel_rfl) ?_)
      refine R.go 4 (R.back (.agg [AI ((quoI xs L L.length).length), .ref 2]) (frm 23 [(0, .agg [AI n, LI xs]), (1, LI L), (2, .ptr 0 0), (4, .ptr 1 0), (5, AI 0), (6, .bool (!(okPo n xs))), (7, .agg [AI n, LI xs]), (8, .bool (okPo n xs)), (9, .bool (!(okPo n xs))), (11, .bool (!(cngB n xs L))), (12, .agg [AI n, LI xs]), (13, .agg [AI n, LI xs]), (14, LI L), (15, .bool (cngB n xs L)), (16, .bool (!(cngB n xs L))), (18, .ptr 0 1), (19, LI xs), (20, LI L), (21, .ref 2)]) (by kernel_rfl) (by kernel_rfl) (by kernel_rfl) ?_)
      exact R.go 3 (R.retE (.tup [.agg [AI ((quoI xs L L.length).length), ownA eI 2 1 (quoI xs L L.length)], AI 0]) (by kernel_rfl) (by kernel_rfl) (by first | (first | exact qu_bad (qu_1 (by assumption)) (by decide) | exact qu_bad (qu_5 (by assumption) (by first | assumption | (rw [← cng_eq (by assumption)]; assumption) | simp [*])) (by decide) | exact qu_ok (qu_0 hP hpc) (by omega) (by first | rfl | assumption)) | (exfalso; omega)))

theorem heldPoset_c (n : Int) (xs : List Int) (k : Int) (lx : xs.length ≤ 1000000000) (hk : 0 ≤ k ∧ k ≤ 1000000) (hx : xs = markC xs.length k) : CallA Try.prog 16 [.agg [AI n, LI xs], AI k] (AI (k + (xs.length : Int))) := by
  refine CallA.of Try.func16 rfl (by kernel_rfl) ?_
  refine R.go 10 (R.call true (heldInt64S_c xs k lx hk hx) (by kernel_rfl) rfl (by kernel_rfl) ?_)
  refine R.go 8 (R.cond ((k + (xs.length : Int)) < 0) (by kernel_rfl) (fun c1 => ?_) (fun c1 => ?_))
  · exact R.go 4 (R.retE (AI (-1)) (by kernel_rfl) (by kernel_rfl) (by first | (rfl) | (exfalso; omega)))
  · exact R.go 6 (R.retE (AI (k + (xs.length : Int))) (by kernel_rfl) (by kernel_rfl) (by rfl))

end Go.Proofs.Ytkanjgmocmhlkaa
