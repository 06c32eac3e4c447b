/- Texts of the proof: W01, W02, HY1. -/
import Derived.Test.YtjllngcefoohpaaGreatPartE

/-! Posets: what both packages take for one. -/
namespace Go.Proofs.YtjllngcefoohpaaGreat
open Go.RowKit Go.Abs

theorem rowN_ext {N : Nat} {X Y : List Int} (hx : X.length = N) (hy : Y.length = N) (h : ∀ j : Nat, j < N → X.getD j 0 = Y.getD j 0) : X = Y := by
  apply List.ext_getElem (by omega)
  intro j h1 h2
  have := h j (by omega)
  simpa [List.getD_eq_getElem?_getD, List.getElem?_eq_getElem h1, List.getElem?_eq_getElem h2] using this
def rB (N : Nat) (xs : List Int) : Bool := (List.range N).all fun i => tb (xs.getD i 0) i
def tB (N : Nat) (xs : List Int) : Bool := (List.range N).all fun i => (List.range N).all fun j => (List.range N).all fun k => !(tb (xs.getD i 0) j && tb (xs.getD j 0) k) || tb (xs.getD i 0) k
def AC (xs : List Int) (i j : Nat) : Prop := tb (xs.getD i 0) j = true → tb (xs.getD j 0) i = true → i = j
def aB (N : Nat) (xs : List Int) : Bool := (List.range N).all fun i => (List.range N).all fun j => !(tb (xs.getD i 0) j && tb (xs.getD j 0) i) || decide (i = j)
def okPo (n : Int) (xs : List Int) : Bool := okFr n xs && (rB n.toNat xs && (tB n.toNat xs && aB n.toNat xs))
theorem rB_iff {N : Nat} {xs : List Int} : rB N xs = true ↔ ∀ i : Nat, i < N → tb (xs.getD i 0) i = true := by simp [rB]
theorem tB_iff {N : Nat} {xs : List Int} : tB N xs = true ↔ ∀ i : Nat, i < N → ∀ j : Nat, j < N → ∀ k : Nat, k < N → tb (xs.getD i 0) j = true → tb (xs.getD j 0) k = true → tb (xs.getD i 0) k = true := by
  simp only [tB, List.all_eq_true, List.mem_range]
  constructor
  · intro h i hi j hj k hk h1 h2
    have := h i hi j hj k hk
    rw [h1, h2] at this
    simpa using this
  · intro h i hi j hj k hk
    cases h1 : tb (xs.getD i 0) j <;> cases h2 : tb (xs.getD j 0) k <;> simp
    have := h i hi j hj k hk h1 h2
    simpa using this
theorem aB_iff {N : Nat} {xs : List Int} : aB N xs = true ↔ ∀ i : Nat, i < N → ∀ j : Nat, j < N → AC xs i j := by
  simp only [aB, List.all_eq_true, List.mem_range]
  constructor
  · intro h i hi j hj h1 h2
    have := h i hi j hj
    rw [h1, h2] at this
    simpa using this
  · intro h i hi j hj
    have := h i hi j hj
    unfold AC at this
    cases h1 : tb (xs.getD i 0) j <;> cases h2 : tb (xs.getD j 0) i <;> simp
    exact this h1 h2
theorem rB_no {N : Nat} {xs : List Int} {i : Nat} (hi : i < N) (h : ¬ tb (xs.getD i 0) i = true) : false = rB N xs := by
  cases e : rB N xs with
  | false => rfl
  | true => exact absurd (rB_iff.1 e i hi) h
theorem aB_no {N : Nat} {xs : List Int} {i j : Nat} (hi : i < N) (hj : j < N) (h1 : tb (xs.getD i 0) j = true) (h2 : tb (xs.getD j 0) i = true) (h : ¬ (i : Int) = (j : Int)) : false = aB N xs := by
  cases e : aB N xs with
  | false => rfl
  | true => exact absurd (aB_iff.1 e i hi j hj h1 h2) (by omega)
theorem bitT {N : Nat} {xs : List Int} (hR : RelOK N xs) (hN : N ≤ 30) {x j : Nat} (hx : x < N) (hj : j ≤ 61) (h : band (shr64 (xs.getD x 0) (j : Int)) 1 = 1) : tb (xs.getD x 0) j = true := (has_tb (n := N) (by omega) (hR.2 x hx) hj).1 h
theorem bitF {N : Nat} {xs : List Int} (hR : RelOK N xs) (hN : N ≤ 30) {x j : Nat} (hx : x < N) (hj : j ≤ 61) (h : ¬ band (shr64 (xs.getD x 0) (j : Int)) 1 = 1) : ¬ tb (xs.getD x 0) j = true := fun e => h ((has_tb (n := N) (by omega) (hR.2 x hx) hj).2 e)
theorem below1 {P : Nat → Prop} {x : Nat} (h : ∀ i : Nat, i < x → P i) (hx : P x) : ∀ i : Nat, i < x + 1 → P i := fun i hi => by
  by_cases e : i = x
  · rw [e]; exact hx
  · exact h i (by omega)
def TR (xs : List Int) (i : Nat) : Prop := bnot (img xs (xs.getD i 0) xs.length) (xs.getD i 0) = 0
theorem TR_iff {N : Nat} {xs : List Int} (hR : RelOK N xs) (hN : N ≤ 30) {i : Nat} (hi : i < N) : TR xs i ↔ ∀ j k : Nat, tb (xs.getD i 0) j = true → tb (xs.getD j 0) k = true → tb (xs.getD i 0) k = true := by
  have hl := hR.1
  have h1 := img_ok (n := N) (by omega) hR (hR.2 i hi) xs.length (by omega)
  rw [TR, bnot_sub (n := N) (by omega) h1.1 (hR.2 i hi)]
  constructor
  · intro h j k a b
    exact h k ((h1.2 k).2 ⟨j, by have := tb_lt (hR.2 i hi) a; omega, a, b⟩)
  · intro h k a
    obtain ⟨j, _, b, c⟩ := (h1.2 k).1 a
    exact h j k b c
theorem tB_of {N : Nat} {xs : List Int} (hR : RelOK N xs) (hN : N ≤ 30) (h : ∀ i : Nat, i < N → TR xs i) : true = tB N xs := (tB_iff.2 fun i hi j _ k _ a b => (TR_iff hR hN hi).1 (h i hi) j k a b).symm
theorem tB_no {N : Nat} {xs : List Int} (hR : RelOK N xs) (hN : N ≤ 30) {i : Nat} (hi : i < N) (h : ¬ bnot (img xs (xs.getD i 0) xs.length) (xs.getD i 0) = 0) : false = tB N xs := by
  cases e : tB N xs with
  | false => rfl
  | true => exact absurd ((TR_iff hR hN hi).2 fun j k a b => tB_iff.1 e i hi j (tb_lt (hR.2 i hi) a) k (tb_lt (hR.2 j (tb_lt (hR.2 i hi) a)) b) a b) h
/-! By the closure. -/
theorem trW {N : Nat} {xs : List Int} (hR : RelOK N xs) (hN : N ≤ 30) : decide (wout xs xs.length = xs) = tB N xs := by
  have hl := hR.1
  obtain ⟨w1, w2⟩ := wout_ok (n := N) (by omega) hR N (Nat.le_refl _)
  rw [Bool.eq_iff_iff, decide_eq_true_iff, tB_iff, hl]
  constructor
  · intro e i hi j hj k hk a b
    have h1 := (w2 i hi k).2 (.via (.edge ⟨by omega, a⟩) hj (.edge ⟨by omega, b⟩))
    rwa [e] at h1
  · intro h
    refine rowN_ext w1.1 hl fun p hp => tb_ext (w1.2 p hp).1 (hR.2 p hp).1 fun k => ?_
    rw [Bool.eq_iff_iff, w2 p hp]
    constructor
    · intro hpt
      induction hpt with
      | edge e => exact e.2
      | @via i m k _ hm _ i1 i2 =>
        have a := i1 hp
        have b := i2 hm
        exact h i hp m hm k (tb_lt (hR.2 m hm) b) a b
    · intro a
      exact .edge ⟨by omega, a⟩
/-! The inverse. -/
def invJ (ys : List Int) (i : Nat) (L : List Int) : List Int := L.foldl (fun o j => o.set j.toNat (bor (o.getD j.toNat 0) (shl64 1 (i : Int)))) ys
def invA (xs : List Int) : Nat → List Int
  | 0 => List.replicate xs.length 0
  | i + 1 => invJ (invA xs i) i (mem (xs.getD i 0))
theorem invJ_snoc {ys : List Int} {i : Nat} {L : List Int} {t : Nat} (h : t < L.length) : (invJ ys i (L.take t)).set (L.getD t 0).toNat (bor ((invJ ys i (L.take t)).getD (L.getD t 0).toNat 0) (shl64 1 (i : Int))) = invJ ys i (L.take (t + 1)) := by
  rw [List.take_succ_eq_append_getElem h, invJ, invJ, List.foldl_append, List.getD_eq_getElem?_getD (l := L), List.getElem?_eq_getElem h]
  rfl
theorem invJ_len (i : Nat) : ∀ (L : List Int) (ys : List Int), (invJ ys i L).length = ys.length
  | [], _ => rfl
  | j :: L, ys => by
    have := invJ_len i L (ys.set j.toNat (bor (ys.getD j.toNat 0) (shl64 1 (i : Int))))
    rw [List.length_set] at this
    exact this
theorem invA_len (xs : List Int) : ∀ i : Nat, (invA xs i).length = xs.length
  | 0 => by simp [invA]
  | i + 1 => by rw [invA, invJ_len, invA_len xs i]
theorem invJ_ok {N i : Nat} (hN : N ≤ 30) (hi : i < N) : ∀ (L : List Int) (ys : List Int), RelOK N ys → (∀ j ∈ L, 0 ≤ j ∧ j < (N : Int)) → RelOK N (invJ ys i L) ∧ ∀ j : Nat, j < N → ∀ k, tb ((invJ ys i L).getD j 0) k = true ↔ tb (ys.getD j 0) k = true ∨ (k = i ∧ (j : Int) ∈ L)
  | [], ys, h, _ => ⟨h, fun j hj k => by simp [invJ]⟩
  | v :: L, ys, h, hL => by
    have hv := hL v (List.mem_cons_self ..)
    have ho := inM_one (n := N) (by omega) hi
    have hvl : v.toNat < ys.length := by rw [h.1]; omega
    have hb := inM_bor (n := N) (by omega) (h.2 v.toNat (by omega)) ho
    have h2 : RelOK N (ys.set v.toNat (bor (ys.getD v.toNat 0) (shl64 1 (i : Int)))) := ⟨by rw [List.length_set, h.1], fun j hj => by
      rw [getD_set_if _ _ _ _ _ hvl]
      split
      · exact hb
      · exact h.2 j hj⟩
    obtain ⟨i1, i2⟩ := invJ_ok hN hi L _ h2 fun j hj => hL j (List.mem_cons_of_mem _ hj)
    refine ⟨i1, fun j hj k => ?_⟩
    have e0 : invJ ys i (v :: L) = invJ (ys.set v.toNat (bor (ys.getD v.toNat 0) (shl64 1 (i : Int)))) i L := rfl
    rw [e0, i2 j hj, getD_set_if _ _ _ _ _ hvl, List.mem_cons]
    split
    · rename_i e
      rw [tb_bor (n := N) (by omega) (h.2 v.toNat (by omega)) ho, tb_one (by omega), Bool.or_eq_true, decide_eq_true_eq, e]
      have hjv : (j : Int) = v := by omega
      constructor
      · rintro ((a | a) | ⟨a, b⟩)
        · exact .inl a
        · exact .inr ⟨a.symm, .inl hjv⟩
        · exact .inr ⟨a, .inr b⟩
      · rintro (a | ⟨a, b | b⟩)
        · exact .inl (.inl a)
        · exact .inl (.inr a.symm)
        · exact .inr ⟨a, b⟩
    · rename_i e
      have hjv : ¬ (j : Int) = v := by omega
      constructor
      · rintro (a | ⟨a, b⟩)
        · exact .inl a
        · exact .inr ⟨a, .inr b⟩
      · rintro (a | ⟨a, b | b⟩)
        · exact .inl a
        · exact absurd b hjv
        · exact .inr ⟨a, b⟩
theorem mem_iff {N : Nat} {m : Int} (hN : N ≤ 61) (h : InM N m) {j : Nat} : (j : Int) ∈ mem m ↔ tb m j = true := by
  rw [mem, memN_mem]
  constructor
  · rintro ⟨k, _, h2, h3⟩
    rw [show j = k by omega]; exact h2
  · intro hb
    exact ⟨j, by have := tb_lt h hb; omega, hb, rfl⟩
theorem mem_lt {N : Nat} {m : Int} (hN : N ≤ 61) (h : InM N m) : ∀ v ∈ mem m, 0 ≤ v ∧ v < (N : Int) := fun v hv => by
  rw [mem, memN_mem] at hv
  obtain ⟨k, _, h2, rfl⟩ := hv
  have := tb_lt h h2
  omega
theorem mem_lt' {N : Nat} {m : Int} (hN : N ≤ 61) (h : InM N m) {t : Nat} (ht : t < (mem m).length) : 0 ≤ (mem m).getD t 0 ∧ (mem m).getD t 0 < (N : Int) := by
  refine mem_lt hN h _ ?_
  rw [List.getD_eq_getElem?_getD, List.getElem?_eq_getElem ht]
  exact List.getElem_mem _
theorem invA_ok {N : Nat} {xs : List Int} (hR : RelOK N xs) (hN : N ≤ 30) : ∀ i : Nat, i ≤ N → RelOK N (invA xs i) ∧ ∀ j : Nat, j < N → ∀ k, tb ((invA xs i).getD j 0) k = true ↔ k < i ∧ tb (xs.getD k 0) j = true
  | 0, _ => ⟨⟨by simp [invA, hR.1], fun j hj => by
      have : (invA xs 0).getD j 0 = 0 := by
        simp only [invA, List.getD_eq_getElem?_getD, List.getElem?_replicate]
        split <;> rfl
      rw [this]; exact inM_zero _⟩, fun j hj k => by
      have : (invA xs 0).getD j 0 = 0 := by
        simp only [invA, List.getD_eq_getElem?_getD, List.getElem?_replicate]
        split <;> rfl
      rw [this]; simp [tb_zero]⟩
  | i + 1, hi => by
    obtain ⟨h1, h2⟩ := invA_ok hR hN i (by omega)
    have hm := hR.2 i (by omega)
    obtain ⟨g1, g2⟩ := invJ_ok hN (show i < N by omega) (mem (xs.getD i 0)) (invA xs i) h1 (mem_lt (by omega) hm)
    refine ⟨g1, fun j hj k => ?_⟩
    rw [invA, g2 j hj, h2 j hj, mem_iff (by omega) hm]
    constructor
    · rintro (⟨a, b⟩ | ⟨rfl, b⟩)
      · exact ⟨by omega, b⟩
      · exact ⟨by omega, b⟩
    · rintro ⟨a, b⟩
      by_cases e : k = i
      · subst e; exact .inr ⟨rfl, b⟩
      · exact .inl ⟨by omega, b⟩
def AN (xs zs : List Int) (x : Nat) : Prop := bnot (band (xs.getD x 0) (zs.getD x 0)) (shl64 1 (x : Int)) = 0
theorem AN_iff {N : Nat} {xs zs : List Int} (hR : RelOK N xs) (hN : N ≤ 30) (hz : zs = invA xs xs.length) {x : Nat} (hx : x < N) : AN xs zs x ↔ ∀ j : Nat, j < N → AC xs x j := by
  obtain ⟨z1, z2⟩ := invA_ok hR hN N (Nat.le_refl _)
  rw [hR.1] at hz
  subst hz
  have hb := inM_band (n := N) (by omega) (hR.2 x hx) (z1.2 x hx)
  rw [AN, bnot_sub (n := N) (by omega) hb (inM_one (by omega) hx)]
  constructor
  · intro h j hj a b
    have := h j (by rw [tb_band (n := N) (by omega) (hR.2 x hx) (z1.2 x hx), a, (z2 x hx j).2 ⟨hj, b⟩]; rfl)
    rw [tb_one (by omega)] at this
    exact of_decide_eq_true this
  · intro h k hk
    rw [tb_band (n := N) (by omega) (hR.2 x hx) (z1.2 x hx), Bool.and_eq_true, z2 x hx] at hk
    rw [tb_one (by omega)]
    exact decide_eq_true (h k hk.2.1 hk.1 hk.2.2)
theorem aB_of {N : Nat} {xs zs : List Int} (hR : RelOK N xs) (hN : N ≤ 30) (hz : zs = invA xs xs.length) (h : ∀ i : Nat, i < N → AN xs zs i) : true = aB N xs := (aB_iff.2 fun i hi j hj => (AN_iff hR hN hz hi).1 (h i hi) j hj).symm
theorem aB_noN {N : Nat} {xs zs : List Int} (hR : RelOK N xs) (hN : N ≤ 30) (hz : zs = invA xs xs.length) {x : Nat} (hx : x < N) (h : ¬ bnot (band (xs.getD x 0) (zs.getD x 0)) (shl64 1 (x : Int)) = 0) : false = aB N xs := by
  cases e : aB N xs with
  | false => rfl
  | true => exact absurd ((AN_iff hR hN hz hx).2 fun j hj => aB_iff.1 e x hx j hj) h
theorem okPo_fr {n : Int} {xs : List Int} (h : okPo n xs = true) : okFr n xs = true := by
  simp only [okPo, Bool.and_eq_true] at h
  exact h.1
theorem okPo_0 {n : Int} {xs : List Int} (h : okFr n xs = false) : false = okPo n xs := by simp [okPo, h]
theorem okPo_1 {n : Int} {xs : List Int} (h : okFr n xs = true) (h1 : rB n.toNat xs = false) : false = okPo n xs := by simp [okPo, h, h1]
theorem okPo_2 {n : Int} {xs : List Int} (h : okFr n xs = true) (h1 : rB n.toNat xs = true) (h2 : tB n.toNat xs = false) : false = okPo n xs := by simp [okPo, h, h1, h2]
theorem okPo_3 {n : Int} {xs : List Int} (h : okFr n xs = true) (h1 : rB n.toNat xs = true) (h2 : tB n.toNat xs = true) : aB n.toNat xs = okPo n xs := by simp [okPo, h, h1, h2]

theorem flagR_c (n : Int) (xs : List Int) (hR : okFr n xs = true) : CallA Tryz.prog 176 [.agg [AI n, LI xs], AI 0] (.bool (rB n.toNat xs)) := by
 have hF := okFr_rel hR
 have hRel : RelOK n.toNat xs := hF.2.2.2
 have hb0 : 0 ≤ n ∧ n ≤ 8 ∧ (xs.length : Int) = n := ⟨hF.1, hF.2.1, hF.2.2.1⟩
 have hN8 : n.toNat ≤ 30 := by omega
 refine CallA.of Tryz.func176 rfl (by kernel_rfl) ?_
 refine R.go 20 (k15 (fun (x : Nat) => (⟨(frm 175 [(1, AI 0), (5, AI n), (6, LI xs), (7, AI (x : Int))]), []⟩ : St)) (fun (x : Nat) => (x ≤ n.toNat) ∧ (∀ i : Nat, i < x → tb (xs.getD i 0) i = true)) (fun (x : Nat) => n.toNat - x) 0 [1, 5, 6, 7] (some []) ⟨(by omega), (by exact fun i hi => absurd hi (by omega))⟩ ?_)
 rintro x ⟨h3_1, h3_2⟩ R1 N2
 refine R.go 7 (k3 ((x : Int) < n) (fun c4 => ?_) (fun c4 => ?_))
 ·refine R.go 19 (k8 eI xs 0 x (x : Int) rfl eI_len ?_)
  refine R.go 2 (k14 true (l01Bit_c (xs.getD x 0) (x : Int) (by omega) (by omega)) rfl ?_)
  refine R.go 2 (k4 (band (shr64 (xs.getD x 0) (x : Int)) 1 = 1) (fun c5 => ?_) (fun c5 => ?_))
  ·exact R.go 4 (k17 (.bool false) (by first | (apply congrArg AV.bool; first | exact rB_no (i := x) (by omega) (bitF hRel hN8 (by omega) (by omega) (by assumption)) | exact (rB_iff.2 fun i hi => (‹∀ i : Nat, i < x → tb (xs.getD i 0) i = true›) i (by omega)).symm) | (exfalso; omega)))
  ·refine R.go 7 (k15 (fun (y : Nat) => (⟨(frm 175 [(1, AI 0), (5, AI n), (6, LI xs), (7, AI (x : Int)), (8, AI (y : Int))]), []⟩ : St)) (fun (y : Nat) => y ≤ n.toNat) (fun (y : Nat) => n.toNat - y) 0 [1, 5, 6, 7, 8] none (by omega) ?_)
   rintro y h8_1 R6 N7
   refine R.go 7 (k3 ((y : Int) < n) (fun c9 => ?_) (fun c9 => ?_))
   ·refine R.go 8 (k8 eI xs 0 x (x : Int) rfl eI_len ?_)
    refine R.go 2 (k14 true (l01Bit_c (xs.getD x 0) (y : Int) (by omega) (by omega)) rfl ?_)
    refine R.go 2 (k4 (band (shr64 (xs.getD x 0) (y : Int)) 1 = 1) (fun c10 => ?_) (fun c10 => ?_))
    ·refine R.go 3 (k1 ((y : Int) + 1) ?_)
     exact R.go 2 (k16 R6 (N7 (y + 1) [1, 5, 6, 7, 8] none _ (by kernel_rfl) (by kernel_rfl) (by omega) (by show (n.toNat - (y + 1)) < (n.toNat - y); omega)))
    ·refine R.go 38 (k15 (fun (z : Nat) => (⟨(frm 175 [(1, AI 0), (5, AI n), (6, LI xs), (7, AI (x : Int)), (8, AI (y : Int)), (9, AI (z : Int))]), []⟩ : St)) (fun (z : Nat) => z ≤ n.toNat) (fun (z : Nat) => n.toNat - z) 0 [1, 5, 6, 7, 8, 9] none (by omega) ?_)
     rintro z h13_1 R11 N12
     refine R.go 7 (k3 ((z : Int) < n) (fun c14 => ?_) (fun c14 => ?_))
     ·refine R.go 8 (k8 eI xs 0 x (x : Int) rfl eI_len ?_)
      refine R.go 2 (k14 true (l01Bit_c (xs.getD x 0) (z : Int) (by omega) (by omega)) rfl ?_)
      refine R.go 2 (k4 (band (shr64 (xs.getD x 0) (z : Int)) 1 = 1) (fun c15 => ?_) (fun c15 => ?_))
      ·refine R.go 3 (k1 ((z : Int) + 1) ?_)
       exact R.go 2 (k16 R11 (N12 (z + 1) [1, 5, 6, 7, 8, 9] none _ (by kernel_rfl) (by kernel_rfl) (by omega) (by show (n.toNat - (z + 1)) < (n.toNat - z); omega)))
      ·refine R.go 45 (k1 ((z : Int) + 1) ?_)
       exact R.go 2 (k16 R11 (N12 (z + 1) [1, 5, 6, 7, 8, 9] none _ (by kernel_rfl) (by kernel_rfl) (by omega) (by show (n.toNat - (z + 1)) < (n.toNat - z); omega)))
     ·refine R.go 4 (k1 ((y : Int) + 1) ?_)
      exact R.go 2 (k16 R6 (N7 (y + 1) [1, 5, 6, 7, 8] none _ (by kernel_rfl) (by kernel_rfl) (by omega) (by show (n.toNat - (y + 1)) < (n.toNat - y); omega)))
   ·refine R.go 4 (k1 ((x : Int) + 1) ?_)
    exact R.go 2 (k16 R1 (N2 (x + 1) [1, 5, 6, 7] none _ (by kernel_rfl) (by kernel_rfl) ⟨(by omega), (by exact below1 (by assumption) (bitT hRel hN8 (by omega) (by omega) (by assumption)))⟩ (by show (n.toNat - (x + 1)) < (n.toNat - x); omega)))
 ·exact R.go 5 (k17 (.bool true) (by first | (apply congrArg AV.bool; first | exact rB_no (i := x) (by omega) (bitF hRel hN8 (by omega) (by omega) (by assumption)) | exact (rB_iff.2 fun i hi => (‹∀ i : Nat, i < x → tb (xs.getD i 0) i = true›) i (by omega)).symm) | (exfalso; omega)))

theorem flagT_c (n : Int) (xs : List Int) (hR : okFr n xs = true) : CallA Tryz.prog 176 [.agg [AI n, LI xs], AI 2] (.bool (tB n.toNat xs)) := by
 have hF := okFr_rel hR
 have hRel : RelOK n.toNat xs := hF.2.2.2
 have hb0 : 0 ≤ n ∧ n ≤ 8 ∧ (xs.length : Int) = n := ⟨hF.1, hF.2.1, hF.2.2.1⟩
 have hN8 : n.toNat ≤ 30 := by omega
 refine CallA.of Tryz.func176 rfl (by kernel_rfl) ?_
 refine R.go 20 (k15 (fun (x : Nat) => (⟨(frm 175 [(1, AI 2), (5, AI n), (6, LI xs), (7, AI (x : Int))]), []⟩ : St)) (fun (x : Nat) => (x ≤ n.toNat) ∧ (∀ i : Nat, i < x → TR xs i)) (fun (x : Nat) => n.toNat - x) 0 [1, 5, 6, 7] (some []) ⟨(by omega), (by exact fun i hi => absurd hi (by omega))⟩ ?_)
 rintro x ⟨h3_1, h3_2⟩ R1 N2
 refine R.go 7 (k3 ((x : Int) < n) (fun c4 => ?_) (fun c4 => ?_))
 ·refine R.go 32 (k8 eI xs 0 x (x : Int) rfl eI_len ?_)
  refine R.go 1 (k14 true (l01Image_c xs (xs.getD x 0) (by first | omega | (simp <;> omega))) rfl ?_)
  refine R.go 2 (k8 eI xs 0 x (x : Int) rfl eI_len ?_)
  refine R.go 4 (k4 ((bnot (img xs (xs.getD x 0) xs.length) (xs.getD x 0)) = 0) (fun c5 => ?_) (fun c5 => ?_))
  ·exact R.go 4 (k17 (.bool false) (by first | (apply congrArg AV.bool; first | exact tB_no hRel hN8 (i := x) (by omega) (by assumption) | exact tB_of hRel hN8 fun i hi => (‹∀ i : Nat, i < x → TR xs i›) i (by omega)) | (exfalso; omega)))
  ·refine R.go 7 (k15 (fun (y : Nat) => (⟨(frm 175 [(1, AI 2), (5, AI n), (6, LI xs), (7, AI (x : Int)), (8, AI (y : Int))]), []⟩ : St)) (fun (y : Nat) => y ≤ n.toNat) (fun (y : Nat) => n.toNat - y) 0 [1, 5, 6, 7, 8] none (by omega) ?_)
   rintro y h8_1 R6 N7
   refine R.go 7 (k3 ((y : Int) < n) (fun c9 => ?_) (fun c9 => ?_))
   ·refine R.go 8 (k8 eI xs 0 x (x : Int) rfl eI_len ?_)
    refine R.go 2 (k14 true (l01Bit_c (xs.getD x 0) (y : Int) (by omega) (by omega)) rfl ?_)
    refine R.go 2 (k4 (band (shr64 (xs.getD x 0) (y : Int)) 1 = 1) (fun c10 => ?_) (fun c10 => ?_))
    ·refine R.go 3 (k1 ((y : Int) + 1) ?_)
     exact R.go 2 (k16 R6 (N7 (y + 1) [1, 5, 6, 7, 8] none _ (by kernel_rfl) (by kernel_rfl) (by omega) (by show (n.toNat - (y + 1)) < (n.toNat - y); omega)))
    ·refine R.go 38 (k15 (fun (z : Nat) => (⟨(frm 175 [(1, AI 2), (5, AI n), (6, LI xs), (7, AI (x : Int)), (8, AI (y : Int)), (9, AI (z : Int))]), []⟩ : St)) (fun (z : Nat) => z ≤ n.toNat) (fun (z : Nat) => n.toNat - z) 0 [1, 5, 6, 7, 8, 9] none (by omega) ?_)
     rintro z h13_1 R11 N12
     refine R.go 7 (k3 ((z : Int) < n) (fun c14 => ?_) (fun c14 => ?_))
     ·refine R.go 8 (k8 eI xs 0 x (x : Int) rfl eI_len ?_)
      refine R.go 2 (k14 true (l01Bit_c (xs.getD x 0) (z : Int) (by omega) (by omega)) rfl ?_)
      refine R.go 2 (k4 (band (shr64 (xs.getD x 0) (z : Int)) 1 = 1) (fun c15 => ?_) (fun c15 => ?_))
      ·refine R.go 3 (k1 ((z : Int) + 1) ?_)
       exact R.go 2 (k16 R11 (N12 (z + 1) [1, 5, 6, 7, 8, 9] none _ (by kernel_rfl) (by kernel_rfl) (by omega) (by show (n.toNat - (z + 1)) < (n.toNat - z); omega)))
      ·refine R.go 45 (k1 ((z : Int) + 1) ?_)
       exact R.go 2 (k16 R11 (N12 (z + 1) [1, 5, 6, 7, 8, 9] none _ (by kernel_rfl) (by kernel_rfl) (by omega) (by show (n.toNat - (z + 1)) < (n.toNat - z); omega)))
     ·refine R.go 4 (k1 ((y : Int) + 1) ?_)
      exact R.go 2 (k16 R6 (N7 (y + 1) [1, 5, 6, 7, 8] none _ (by kernel_rfl) (by kernel_rfl) (by omega) (by show (n.toNat - (y + 1)) < (n.toNat - y); omega)))
   ·refine R.go 4 (k1 ((x : Int) + 1) ?_)
    exact R.go 2 (k16 R1 (N2 (x + 1) [1, 5, 6, 7] none _ (by kernel_rfl) (by kernel_rfl) ⟨(by omega), (by exact below1 (by assumption) (show bnot (img xs (xs.getD x 0) xs.length) (xs.getD x 0) = 0 by assumption))⟩ (by show (n.toNat - (x + 1)) < (n.toNat - x); omega)))
 ·exact R.go 5 (k17 (.bool true) (by first | (apply congrArg AV.bool; first | exact tB_no hRel hN8 (i := x) (by omega) (by assumption) | exact tB_of hRel hN8 fun i hi => (‹∀ i : Nat, i < x → TR xs i›) i (by omega)) | (exfalso; omega)))

theorem flagA_c (n : Int) (xs : List Int) (hR : okFr n xs = true) : CallA Tryz.prog 176 [.agg [AI n, LI xs], AI 8] (.bool (aB n.toNat xs)) := by
 have hF := okFr_rel hR
 have hRel : RelOK n.toNat xs := hF.2.2.2
 have hb0 : 0 ≤ n ∧ n ≤ 8 ∧ (xs.length : Int) = n := ⟨hF.1, hF.2.1, hF.2.2.1⟩
 have hN8 : n.toNat ≤ 30 := by omega
 refine CallA.of Tryz.func176 rfl (by kernel_rfl) ?_
 refine R.go 20 (k15 (fun (x : Nat) => (⟨(frm 175 [(1, AI 8), (5, AI n), (6, LI xs), (7, AI (x : Int))]), []⟩ : St)) (fun (x : Nat) => (x ≤ n.toNat) ∧ (∀ i : Nat, i < x → ∀ j : Nat, j < n.toNat → AC xs i j)) (fun (x : Nat) => n.toNat - x) 0 [1, 5, 6, 7] (some []) ⟨(by omega), (by exact fun i hi => absurd hi (by omega))⟩ ?_)
 rintro x ⟨h3_1, h3_2⟩ R1 N2
 refine R.go 7 (k3 ((x : Int) < n) (fun c4 => ?_) (fun c4 => ?_))
 ·refine R.go 46 (k15 (fun (y : Nat) => (⟨(frm 175 [(1, AI 8), (5, AI n), (6, LI xs), (7, AI (x : Int)), (8, AI (y : Int))]), []⟩ : St)) (fun (y : Nat) => (y ≤ n.toNat) ∧ (∀ j : Nat, j < y → AC xs x j)) (fun (y : Nat) => n.toNat - y) 0 [1, 5, 6, 7, 8] none ⟨(by omega), (by exact fun j hj => absurd hj (by omega))⟩ ?_)
  rintro y ⟨h7_1, h7_2⟩ R5 N6
  refine R.go 7 (k3 ((y : Int) < n) (fun c8 => ?_) (fun c8 => ?_))
  ·refine R.go 8 (k8 eI xs 0 x (x : Int) rfl eI_len ?_)
   refine R.go 2 (k14 true (l01Bit_c (xs.getD x 0) (y : Int) (by omega) (by omega)) rfl ?_)
   refine R.go 2 (k4 (band (shr64 (xs.getD x 0) (y : Int)) 1 = 1) (fun c9 => ?_) (fun c9 => ?_))
   ·refine R.go 3 (k1 ((y : Int) + 1) ?_)
    exact R.go 2 (k16 R5 (N6 (y + 1) [1, 5, 6, 7, 8] none _ (by kernel_rfl) (by kernel_rfl) ⟨(by omega), (by exact below1 (by assumption) (by unfold AC; first | (refine fun a => absurd a (bitF hRel hN8 ?_ ?_ ?_) <;> first | omega | assumption) | (refine fun _ b => absurd b (bitF hRel hN8 ?_ ?_ ?_) <;> first | omega | assumption) | (intro _ _; omega)))⟩ (by show (n.toNat - (y + 1)) < (n.toNat - y); omega)))
   ·refine R.go 31 ?_
    by_cases c10 : (x : Int) = (y : Int)
    ·refine k6 (!decide ((x : Int) = (y : Int))) true (nF c10) ?_
     refine k6 (!decide ((x : Int) = (y : Int))) true (nF c10) ?_
     refine k6 (!decide ((x : Int) = (y : Int))) true (nF c10) ?_
     refine k6 (!decide ((x : Int) = (y : Int))) true (nF c10) ?_
     refine k6 (!decide ((x : Int) = (y : Int))) true (nF c10) ?_
     refine k6 (!decide ((x : Int) = (y : Int))) true (nF c10) ?_
     refine k7 (!decide ((x : Int) = (y : Int))) false (nF c10) ?_
     refine R.go 9 (k15 (fun (z : Nat) => (⟨(frm 175 [(1, AI 8), (5, AI n), (6, LI xs), (7, AI (x : Int)), (8, AI (y : Int)), (9, AI (z : Int))]), []⟩ : St)) (fun (z : Nat) => z ≤ n.toNat) (fun (z : Nat) => n.toNat - z) 0 [1, 5, 6, 7, 8, 9] none (by omega) ?_)
     rintro z h13_1 R11 N12
     refine R.go 7 (k3 ((z : Int) < n) (fun c14 => ?_) (fun c14 => ?_))
     ·refine R.go 8 (k8 eI xs 0 x (x : Int) rfl eI_len ?_)
      refine R.go 2 (k14 true (l01Bit_c (xs.getD x 0) (z : Int) (by omega) (by omega)) rfl ?_)
      refine R.go 2 (k4 (band (shr64 (xs.getD x 0) (z : Int)) 1 = 1) (fun c15 => ?_) (fun c15 => ?_))
      ·refine R.go 3 (k1 ((z : Int) + 1) ?_)
       exact R.go 2 (k16 R11 (N12 (z + 1) [1, 5, 6, 7, 8, 9] none _ (by kernel_rfl) (by kernel_rfl) (by omega) (by show (n.toNat - (z + 1)) < (n.toNat - z); omega)))
      ·refine R.go 45 (k1 ((z : Int) + 1) ?_)
       exact R.go 2 (k16 R11 (N12 (z + 1) [1, 5, 6, 7, 8, 9] none _ (by kernel_rfl) (by kernel_rfl) (by omega) (by show (n.toNat - (z + 1)) < (n.toNat - z); omega)))
     ·refine R.go 4 (k1 ((y : Int) + 1) ?_)
      exact R.go 2 (k16 R5 (N6 (y + 1) [1, 5, 6, 7, 8] none _ (by kernel_rfl) (by kernel_rfl) ⟨(by omega), (by exact below1 (by assumption) (by unfold AC; first | (refine fun a => absurd a (bitF hRel hN8 ?_ ?_ ?_) <;> first | omega | assumption) | (refine fun _ b => absurd b (bitF hRel hN8 ?_ ?_ ?_) <;> first | omega | assumption) | (intro _ _; omega)))⟩ (by show (n.toNat - (y + 1)) < (n.toNat - y); omega)))
    ·refine k5 (!decide ((x : Int) = (y : Int))) true (nT c10) ?_
     refine R.go 1 (k5 (!decide ((x : Int) = (y : Int))) true (nT c10) ?_)
     refine R.go 1 (k5 (!decide ((x : Int) = (y : Int))) true (nT c10) ?_)
     refine k8 eI xs 0 y (y : Int) rfl eI_len ?_
     refine k5 (!decide ((x : Int) = (y : Int))) true (nT c10) ?_
     refine R.go 1 (k5 (!decide ((x : Int) = (y : Int))) true (nT c10) ?_)
     refine R.go 1 (k5 (!decide ((x : Int) = (y : Int))) true (nT c10) ?_)
     refine k14 true (l01Bit_c (xs.getD y 0) (x : Int) (by omega) (by omega)) rfl ?_
     refine k7 (!decide ((x : Int) = (y : Int))) true (nT c10) ?_
     refine R.go 1 (k3 (band (shr64 (xs.getD y 0) (x : Int)) 1 = 1) (fun c16 => ?_) (fun c16 => ?_))
     ·exact R.go 4 (k17 (.bool false) (by first | (apply congrArg AV.bool; first | exact aB_no (i := x) (j := y) (by omega) (by omega) (bitT hRel hN8 (by omega) (by omega) (by assumption)) (bitT hRel hN8 (by omega) (by omega) (by assumption)) (by assumption) | exact (aB_iff.2 fun i hi => (‹∀ i : Nat, i < x → ∀ j : Nat, j < n.toNat → AC xs i j›) i (by omega)).symm) | (exfalso; omega)))
     ·refine R.go 7 (k15 (fun (z : Nat) => (⟨(frm 175 [(1, AI 8), (5, AI n), (6, LI xs), (7, AI (x : Int)), (8, AI (y : Int)), (9, AI (z : Int))]), []⟩ : St)) (fun (z : Nat) => z ≤ n.toNat) (fun (z : Nat) => n.toNat - z) 0 [1, 5, 6, 7, 8, 9] none (by omega) ?_)
      rintro z h19_1 R17 N18
      refine R.go 7 (k3 ((z : Int) < n) (fun c20 => ?_) (fun c20 => ?_))
      ·refine R.go 8 (k8 eI xs 0 x (x : Int) rfl eI_len ?_)
       refine R.go 2 (k14 true (l01Bit_c (xs.getD x 0) (z : Int) (by omega) (by omega)) rfl ?_)
       refine R.go 2 (k4 (band (shr64 (xs.getD x 0) (z : Int)) 1 = 1) (fun c21 => ?_) (fun c21 => ?_))
       ·refine R.go 3 (k1 ((z : Int) + 1) ?_)
        exact R.go 2 (k16 R17 (N18 (z + 1) [1, 5, 6, 7, 8, 9] none _ (by kernel_rfl) (by kernel_rfl) (by omega) (by show (n.toNat - (z + 1)) < (n.toNat - z); omega)))
       ·refine R.go 45 (k1 ((z : Int) + 1) ?_)
        exact R.go 2 (k16 R17 (N18 (z + 1) [1, 5, 6, 7, 8, 9] none _ (by kernel_rfl) (by kernel_rfl) (by omega) (by show (n.toNat - (z + 1)) < (n.toNat - z); omega)))
      ·refine R.go 4 (k1 ((y : Int) + 1) ?_)
       exact R.go 2 (k16 R5 (N6 (y + 1) [1, 5, 6, 7, 8] none _ (by kernel_rfl) (by kernel_rfl) ⟨(by omega), (by exact below1 (by assumption) (by unfold AC; first | (refine fun a => absurd a (bitF hRel hN8 ?_ ?_ ?_) <;> first | omega | assumption) | (refine fun _ b => absurd b (bitF hRel hN8 ?_ ?_ ?_) <;> first | omega | assumption) | (intro _ _; omega)))⟩ (by show (n.toNat - (y + 1)) < (n.toNat - y); omega)))
  ·refine R.go 4 (k1 ((x : Int) + 1) ?_)
   exact R.go 2 (k16 R1 (N2 (x + 1) [1, 5, 6, 7] none _ (by kernel_rfl) (by kernel_rfl) ⟨(by omega), (by exact below1 (by assumption) (fun j hj => (‹∀ j : Nat, j < y → AC xs x j›) j (by omega)))⟩ (by show (n.toNat - (x + 1)) < (n.toNat - x); omega)))
 ·exact R.go 5 (k17 (.bool true) (by first | (apply congrArg AV.bool; first | exact aB_no (i := x) (j := y) (by omega) (by omega) (bitT hRel hN8 (by omega) (by omega) (by assumption)) (bitT hRel hN8 (by omega) (by omega) (by assumption)) (by assumption) | exact (aB_iff.2 fun i hi => (‹∀ i : Nat, i < x → ∀ j : Nat, j < n.toNat → AC xs i j›) i (by omega)).symm) | (exfalso; omega)))

theorem sees_c (n : Int) (xs : List Int) (x : Nat) (y : Int) (hx : x < xs.length) (h0 : 0 ≤ y) : CallA Tryz.prog 259 [.agg [AI n, LI xs], AI (x : Int), AI y] (.bool (decide (band (shr64 (xs.getD x 0) y) 1 = 1))) := by
 refine CallA.of Tryz.func259 rfl (by kernel_rfl) ?_
 refine R.go 10 (k8 eI xs 0 x (x : Int) rfl eI_len ?_)
 refine R.go 2 (k14 true (has_c (xs.getD x 0) y h0) rfl ?_)
 exact R.go 2 (k17 (.bool (decide (band (shr64 (xs.getD x 0) y) 1 = 1))) (by rfl))

theorem hasFlag1_c (x : Nat) (n : Int) (xs : List Int) (hx : x < xs.length) : CallA Tryz.prog 258 [AI (x : Int), .rptr [AI n, LI xs]] (.bool (decide (band (shr64 (xs.getD x 0) (x : Int)) 1 = 1))) := by
 refine CallA.of Tryz.func258 rfl (by kernel_rfl) ?_
 refine R.go 9 (k14 true (sees_c n xs x (x : Int) hx (by omega)) rfl ?_)
 exact R.go 2 (k17 (.bool (decide (band (shr64 (xs.getD x 0) (x : Int)) 1 = 1))) (by rfl))

theorem hasFlag7_c (x : Nat) (n : Int) (xs : List Int) (zs : List Int) (hx : x < xs.length) (hz : x < zs.length) : CallA Tryz.prog 267 [AI (x : Int), .rptr [AI n, LI xs], .rptr [LI zs]] (.bool (decide (bnot (band (xs.getD x 0) (zs.getD x 0)) (shl64 1 (x : Int)) = 0))) := by
 refine CallA.of Tryz.func267 rfl (by kernel_rfl) ?_
 refine R.go 9 (k8 eI xs 0 x (x : Int) rfl eI_len ?_)
 refine R.go 3 (k8 eI zs 0 x (x : Int) rfl eI_len ?_)
 refine R.go 3 (R.shl 1 (x : Int) (by kernel_rfl) (by omega) (by kernel_rfl) ?_)
 refine k14 true (within_c (band (xs.getD x 0) (zs.getD x 0)) (shl64 1 (x : Int))) rfl ?_
 exact R.go 2 (k17 (.bool (decide (bnot (band (xs.getD x 0) (zs.getD x 0)) (shl64 1 (x : Int)) = 0))) (by rfl))

theorem everyR_c (n : Int) (xs : List Int) (hR : okFr n xs = true) : CallA Tryz.prog 257 [.agg [AI n, LI xs], .fn 258 [.rptr [AI n, LI xs]]] (.bool (rB n.toNat xs)) := by
 have hF := okFr_rel hR
 have hRel : RelOK n.toNat xs := hF.2.2.2
 have hb0 : 0 ≤ n ∧ n ≤ 8 ∧ (xs.length : Int) = n := ⟨hF.1, hF.2.1, hF.2.2.1⟩
 have hN8 : n.toNat ≤ 30 := by omega
 refine CallA.of Tryz.func257 rfl (by kernel_rfl) ?_
 refine R.go 13 (k15 (fun (x : Nat) => (⟨(frm 16 [(1, .fn 258 [.rptr [AI n, LI xs]]), (7, AI n), (8, AI (x : Int))]), []⟩ : St)) (fun (x : Nat) => (x ≤ n.toNat) ∧ (∀ i : Nat, i < x → tb (xs.getD i 0) i = true)) (fun (x : Nat) => n.toNat - x) 0 [1, 7, 8] (some []) ⟨(by omega), (by exact fun i hi => absurd hi (by omega))⟩ ?_)
 rintro x ⟨h3_1, h3_2⟩ R1 N2
 refine R.go 5 (k3 ((x : Int) < n) (fun c4 => ?_) (fun c4 => ?_))
 ·refine R.go 12 (k14 true (hasFlag1_c x n xs (by first | omega | (simp <;> omega))) rfl ?_)
  refine R.go 2 (k4 (band (shr64 (xs.getD x 0) (x : Int)) 1 = 1) (fun c5 => ?_) (fun c5 => ?_))
  ·exact R.go 4 (k17 (.bool false) (by first | (apply congrArg AV.bool; first | exact rB_no (i := x) (by omega) (bitF hRel hN8 (by omega) (by omega) (by assumption)) | exact (rB_iff.2 fun i hi => (‹∀ i : Nat, i < x → tb (xs.getD i 0) i = true›) i (by omega)).symm) | (exfalso; omega)))
  ·refine R.go 3 (k1 ((x : Int) + 1) ?_)
   exact R.go 2 (k16 R1 (N2 (x + 1) [1, 7, 8] none _ (by kernel_rfl) (by kernel_rfl) ⟨(by omega), (by exact below1 (by assumption) (bitT hRel hN8 (by omega) (by omega) (by assumption)))⟩ (by show (n.toNat - (x + 1)) < (n.toNat - x); omega)))
 ·exact R.go 5 (k17 (.bool true) (by first | (apply congrArg AV.bool; first | exact rB_no (i := x) (by omega) (bitF hRel hN8 (by omega) (by omega) (by assumption)) | exact (rB_iff.2 fun i hi => (‹∀ i : Nat, i < x → tb (xs.getD i 0) i = true›) i (by omega)).symm) | (exfalso; omega)))

theorem everyA_c (n : Int) (xs : List Int) (zs : List Int) (hR : okFr n xs = true) (hz : zs = invA xs xs.length) : CallA Tryz.prog 257 [.agg [AI n, LI xs], .fn 267 [.rptr [AI n, LI xs], .rptr [LI zs]]] (.bool (aB n.toNat xs)) := by
 have hF := okFr_rel hR
 have hRel : RelOK n.toNat xs := hF.2.2.2
 have hb0 : 0 ≤ n ∧ n ≤ 8 ∧ (xs.length : Int) = n := ⟨hF.1, hF.2.1, hF.2.2.1⟩
 have hN8 : n.toNat ≤ 30 := by omega
 have hzl : zs.length = xs.length := by rw [hz]; exact invA_len _ _
 refine CallA.of Tryz.func257 rfl (by kernel_rfl) ?_
 refine R.go 13 (k15 (fun (x : Nat) => (⟨(frm 16 [(1, .fn 267 [.rptr [AI n, LI xs], .rptr [LI zs]]), (7, AI n), (8, AI (x : Int))]), []⟩ : St)) (fun (x : Nat) => (x ≤ n.toNat) ∧ (∀ i : Nat, i < x → AN xs zs i)) (fun (x : Nat) => n.toNat - x) 0 [1, 7, 8] (some []) ⟨(by omega), (by exact fun i hi => absurd hi (by omega))⟩ ?_)
 rintro x ⟨h3_1, h3_2⟩ R1 N2
 refine R.go 5 (k3 ((x : Int) < n) (fun c4 => ?_) (fun c4 => ?_))
 ·refine R.go 12 (k14 true (hasFlag7_c x n xs zs (by first | omega | (simp <;> omega)) (by first | omega | (simp <;> omega))) rfl ?_)
  refine R.go 2 (k4 (bnot (band (xs.getD x 0) (zs.getD x 0)) (shl64 1 (x : Int)) = 0) (fun c5 => ?_) (fun c5 => ?_))
  ·exact R.go 4 (k17 (.bool false) (by first | (apply congrArg AV.bool; first | exact aB_noN hRel hN8 hz (x := x) (by omega) (by assumption) | exact aB_of hRel hN8 hz fun i hi => (‹∀ i : Nat, i < x → AN xs zs i›) i (by omega)) | (exfalso; omega)))
  ·refine R.go 3 (k1 ((x : Int) + 1) ?_)
   exact R.go 2 (k16 R1 (N2 (x + 1) [1, 7, 8] none _ (by kernel_rfl) (by kernel_rfl) ⟨(by omega), (by exact below1 (by assumption) (show bnot (band (xs.getD x 0) (zs.getD x 0)) (shl64 1 (x : Int)) = 0 by assumption))⟩ (by show (n.toNat - (x + 1)) < (n.toNat - x); omega)))
 ·exact R.go 5 (k17 (.bool true) (by first | (apply congrArg AV.bool; first | exact aB_noN hRel hN8 hz (x := x) (by omega) (by assumption) | exact aB_of hRel hN8 hz fun i hi => (‹∀ i : Nat, i < x → AN xs zs i›) i (by omega)) | (exfalso; omega)))

theorem inverse_c (n : Int) (xs : List Int) (hR : okFr n xs = true) : CallA Tryz.prog 56 [LI xs] (ownA eI 2 1 (invA xs xs.length)) := by
 have hF := okFr_rel hR
 have hRel : RelOK n.toNat xs := hF.2.2.2
 have hb0 : 0 ≤ n ∧ n ≤ 8 ∧ (xs.length : Int) = n := ⟨hF.1, hF.2.1, hF.2.2.1⟩
 have hN8 : n.toNat ≤ 30 := by omega
 refine CallA.of Tryz.func56 rfl (by kernel_rfl) ?_
 refine R.go 8 (k13 eI 0 2 8 xs.length xs.length rfl ?_)
 refine R.go 10 (k15 ((fun | (i, out) => (⟨(frm 36 [(3, .ref 0), (11, LI xs), (12, AI xs.length), (13, AI (i : Int))]), [rowA eI 2 1 out]⟩ : St) : Nat × (List Int) → St)) (fun | (i, out) => (i ≤ xs.length) ∧ (out = invA xs i)) (fun | (i, out) => xs.length - i) (0, (List.replicate xs.length 0)) [3, 11, 12, 13] none ⟨(by omega), (by rfl)⟩ ?_)
 rintro ⟨i, out⟩ ⟨h4_1, rfl⟩ R1 N2
 have hol := invA_len xs i
 have hmi := fun h : i < xs.length => hRel.2 i (by omega)
 have hml := mem_le (xs.getD i 0)
 refine R.go 5 (k3 ((i : Int) < (xs.length : Int)) (fun c5 => ?_) (fun c5 => ?_))
 ·refine R.go 6 (k8 eI xs 0 i (i : Int) rfl eI_len ?_)
  have hmm := inM_mono (n' := 61) (by omega) (hmi (by omega))
  refine R.go 7 (k14 true (membersOf_c (xs.getD i 0) (by first | assumption | exact inM61 (by omega) (by omega))).frz rfl ?_)
  refine R.go 4 (k15 ((fun | (t, o2) => (⟨(frm 36 [(3, .ref 0), (4, AI (i : Int)), (11, LI xs), (12, AI xs.length), (13, AI (i : Int)), (19, LI (mem (xs.getD i 0))), (20, AI ((mem (xs.getD i 0)).length)), (21, AI (t : Int))]), [rowA eI 2 1 o2]⟩ : St) : Nat × (List Int) → St)) (fun | (t, o2) => (t ≤ (mem (xs.getD i 0)).length) ∧ (o2 = invJ (invA xs i) i ((mem (xs.getD i 0)).take t))) (fun | (t, o2) => (mem (xs.getD i 0)).length - t) (0, (invA xs i)) [3, 4, 11, 12, 13, 19, 20, 21] none ⟨(by omega), (by rfl)⟩ ?_)
  rintro ⟨t, o2⟩ ⟨h9_1, rfl⟩ R6 N7
  have hol2 : (invJ (invA xs i) i ((mem (xs.getD i 0)).take t)).length = xs.length := by rw [invJ_len, hol]
  refine R.go 5 (k3 ((t : Int) < ((mem (xs.getD i 0)).length : Int)) (fun c10 => ?_) (fun c10 => ?_))
  ·refine R.go 5 (k8 eI (mem (xs.getD i 0)) 0 t (t : Int) rfl eI_len ?_)
   have hjr := mem_lt' (N := n.toNat) (by omega) (hmi (by omega)) (t := t) (by omega)
   refine R.go 6 (k9 0 1 (invJ (invA xs i) i ((mem (xs.getD i 0)).take t)).length ((((mem (xs.getD i 0)).getD t 0)).toNat) ((mem (xs.getD i 0)).getD t 0) ?_ (hj := by first | omega | (simp only [List.length_set]; omega) | (simp <;> omega)))
   refine k10 (invJ (invA xs i) i ((mem (xs.getD i 0)).take t)) ((((mem (xs.getD i 0)).getD t 0)).toNat) ?_ (hj := by first | omega | (simp only [List.length_set]; omega) | (simp <;> omega))
   refine R.go 1 (R.shl 1 (i : Int) (by kernel_rfl) (by omega) (by kernel_rfl) ?_)
   refine R.go 1 (k9 0 1 (invJ (invA xs i) i ((mem (xs.getD i 0)).take t)).length ((((mem (xs.getD i 0)).getD t 0)).toNat) ((mem (xs.getD i 0)).getD t 0) ?_ (hj := by first | omega | (simp only [List.length_set]; omega) | (simp <;> omega)))
   refine k11 0 2 (invJ (invA xs i) i ((mem (xs.getD i 0)).take t)) ((((mem (xs.getD i 0)).getD t 0)).toNat) (bor ((invJ (invA xs i) i ((mem (xs.getD i 0)).take t)).getD ((((mem (xs.getD i 0)).getD t 0)).toNat) 0) (shl64 1 (i : Int))) ?_ (hj := by first | omega | (simp only [List.length_set]; omega) | (simp <;> omega))
   refine R.go 3 (k1 ((t : Int) + 1) ?_)
   exact R.go 2 (k16 R6 (N7 (t + 1, (invJ (invA xs i) i ((mem (xs.getD i 0)).take t)).set ((((mem (xs.getD i 0)).getD t 0)).toNat) (bor ((invJ (invA xs i) i ((mem (xs.getD i 0)).take t)).getD ((((mem (xs.getD i 0)).getD t 0)).toNat) 0) (shl64 1 (i : Int)))) [3, 4, 11, 12, 13, 19, 20, 21] none _ (by kernel_rfl) (by kernel_rfl) ⟨(by omega), (by exact invJ_snoc (by omega))⟩ (by show ((mem (xs.getD i 0)).length - (t + 1)) < ((mem (xs.getD i 0)).length - t); omega)))
  ·refine R.go 3 (k1 ((i : Int) + 1) ?_)
   exact R.go 2 (k16 R1 (N2 (i + 1, invJ (invA xs i) i ((mem (xs.getD i 0)).take t)) [3, 11, 12, 13] none _ (by kernel_rfl) (by kernel_rfl) ⟨(by omega), (by rw [invA, List.take_of_length_le (by omega)])⟩ (by show (xs.length - (i + 1)) < (xs.length - i); omega)))
 ·exact R.go 6 (k17 (ownA eI 2 1 (invA xs i)) (by first | (rw [show i = xs.length by omega]) | (exfalso; omega)))

theorem equalI_c (a : List Int) (b : List Int) (la : a.length ≤ 1000000000) : CallA Tryz.prog 241 [LI a, LI b] (.bool (decide (a = b))) := by
 refine CallA.of Tryz.func241 rfl (by kernel_rfl) ?_
 refine R.go 13 (k4 ((a.length : Int) = (b.length : Int)) (fun c1 => ?_) (fun c1 => ?_))
 ·exact R.go 4 (k17 (.bool false) (by first | (first | (rw [dF (fun h => by subst h; omega)]) | (rw [dT (take_all (i := i) (by omega) (by omega) (by assumption))])) | (exfalso; omega)))
 ·refine R.go 9 (k15 (fun (i : Nat) => (⟨(frm 26 [(0, LI a), (1, LI b), (12, AI a.length), (13, AI (i : Int))]), []⟩ : St)) (fun (i : Nat) => (i ≤ a.length) ∧ (a.take i = b.take i)) (fun (i : Nat) => a.length - i) 0 [0, 1, 12, 13] none ⟨(by omega), (by rfl)⟩ ?_)
  rintro i ⟨h4_1, h4_2⟩ R2 N3
  refine R.go 5 (k3 ((i : Int) < (a.length : Int)) (fun c5 => ?_) (fun c5 => ?_))
  ·refine R.go 12 (k8 eI a 0 i (i : Int) rfl eI_len ?_)
   refine R.go 3 (k8 eI b 0 i (i : Int) rfl eI_len ?_)
   refine R.go 3 (k4 ((a.getD i 0) = (b.getD i 0)) (fun c6 => ?_) (fun c6 => ?_))
   ·exact R.go 4 (k17 (.bool false) (by first | (first | (rw [dF (fun h => by subst h; omega)]) | (rw [dT (take_all (i := i) (by omega) (by omega) (by assumption))])) | (exfalso; omega)))
   ·refine R.go 3 (k1 ((i : Int) + 1) ?_)
    exact R.go 2 (k16 R2 (N3 (i + 1) [0, 1, 12, 13] none _ (by kernel_rfl) (by kernel_rfl) ⟨(by omega), (by exact take_step a b 0 i (by omega) (by omega) (by assumption) (by assumption))⟩ (by show (a.length - (i + 1)) < (a.length - i); omega)))
  ·exact R.go 5 (k17 (.bool true) (by first | (first | (rw [dF (fun h => by subst h; omega)]) | (rw [dT (take_all (i := i) (by omega) (by omega) (by assumption))])) | (exfalso; omega)))

theorem inverseG_c (n : Int) (xs zs : List Int) (hR : okFr n xs = true) (hz : zs = invA xs xs.length) : CallA Tryz.prog 56 [LI xs] (ownA eI 2 1 zs) := by rw [hz]; exact inverse_c n xs hR

theorem hasFlagR_c (n : Int) (xs : List Int) (hR : okFr n xs = true) : CallA Tryz.prog 149 [.agg [AI n, LI xs], AI 0] (.bool (rB n.toNat xs)) := by
 have hF := okFr_rel hR
 have hRel : RelOK n.toNat xs := hF.2.2.2
 have hb0 : 0 ≤ n ∧ n ≤ 8 ∧ (xs.length : Int) = n := ⟨hF.1, hF.2.1, hF.2.2.1⟩
 have hN8 : n.toNat ≤ 30 := by omega
 obtain ⟨zs, hz⟩ : ∃ zs, zs = invA xs xs.length := ⟨_, rfl⟩
 have hwl := wout_len xs xs.length
 refine CallA.of Tryz.func149 rfl (by kernel_rfl) ?_
 refine R.go 9 (k14 true (inverseG_c n xs zs hR (by assumption)).frz rfl ?_)
 refine R.go 19 (k14 false (everyR_c n xs hR) rfl ?_)
 exact R.go 2 (k17 (.bool (rB n.toNat xs)) (by rfl))

theorem hasFlagT_c (n : Int) (xs : List Int) (hR : okFr n xs = true) : CallA Tryz.prog 149 [.agg [AI n, LI xs], AI 2] (.bool (tB n.toNat xs)) := by
 have hF := okFr_rel hR
 have hRel : RelOK n.toNat xs := hF.2.2.2
 have hb0 : 0 ≤ n ∧ n ≤ 8 ∧ (xs.length : Int) = n := ⟨hF.1, hF.2.1, hF.2.2.1⟩
 have hN8 : n.toNat ≤ 30 := by omega
 obtain ⟨zs, hz⟩ : ∃ zs, zs = invA xs xs.length := ⟨_, rfl⟩
 have hwl := wout_len xs xs.length
 refine CallA.of Tryz.func149 rfl (by kernel_rfl) ?_
 refine R.go 9 (k14 true (inverseG_c n xs zs hR (by assumption)).frz rfl ?_)
 refine R.go 31 (k14 true (transitive_c xs (by first | omega | (simp <;> omega))).frz rfl ?_)
 refine R.go 2 (k14 true (equalI_c (wout xs xs.length) xs (by first | omega | (simp <;> omega))) rfl ?_)
 exact R.go 2 (k17 (.bool (decide ((wout xs xs.length) = xs))) (by first | (apply congrArg AV.bool; exact trW hRel hN8) | (exfalso; omega)))

theorem hasFlagA_c (n : Int) (xs : List Int) (hR : okFr n xs = true) : CallA Tryz.prog 149 [.agg [AI n, LI xs], AI 8] (.bool (aB n.toNat xs)) := by
 have hF := okFr_rel hR
 have hRel : RelOK n.toNat xs := hF.2.2.2
 have hb0 : 0 ≤ n ∧ n ≤ 8 ∧ (xs.length : Int) = n := ⟨hF.1, hF.2.1, hF.2.2.1⟩
 have hN8 : n.toNat ≤ 30 := by omega
 obtain ⟨zs, hz⟩ : ∃ zs, zs = invA xs xs.length := ⟨_, rfl⟩
 have hwl := wout_len xs xs.length
 refine CallA.of Tryz.func149 rfl (by kernel_rfl) ?_
 refine R.go 9 (k14 true (inverseG_c n xs zs hR (by assumption)).frz rfl ?_)
 refine R.go 67 (k14 false (everyA_c n xs zs hR (by assumption)) rfl ?_)
 exact R.go 2 (k17 (.bool (aB n.toNat xs)) (by rfl))

theorem okFr_any {n : Int} {xs : List Int} (h : (xs.any fun m => !inR m 0 ((shl64 1 n) - 1)) = true) : okFr n xs = false := by simp [okFr, h]
theorem okFr_mk {n : Int} {xs : List Int} (h : inR n 0 8 = true) (h1 : (xs.length : Int) = n) (h2 : (xs.any fun m => !inR m 0 ((shl64 1 n) - 1)) = false) : okFr n xs = true := by rw [okFr_yes h h1, h2]; rfl
theorem okFr_rel1 {n : Int} {xs : List Int} (h : inR n 0 8 = true) (h1 : (xs.length : Int) = n) (h2 : xs.any (outR xs.length) = false) : okFr n xs = true := by rw [← okFr_out h h1, h2]; rfl
theorem okFr_rel0 {n : Int} {xs : List Int} (h : inR n 0 8 = true) (h1 : (xs.length : Int) = n) (h2 : xs.any (outR xs.length) = true) : okFr n xs = false := by rw [← okFr_out h h1, h2]; rfl

theorem frameOf_c (xs : List Int) : CallA Tryz.prog 91 [LI xs] (.agg [AI xs.length, LI xs]) := by
 refine CallA.of Tryz.func91 rfl (by kernel_rfl) ?_
 refine R.go 7 (k14 true (size_c xs) rfl ?_)
 exact R.go 4 (k17 (.agg [AI xs.length, LI xs]) (by rfl))

theorem pFrame_c (n : Int) (xs : List Int) (hn : (xs.length : Int) = n) : CallA Tryz.prog 88 [.agg [AI n, LI xs]] (.agg [AI n, LI xs]) := by
 refine CallA.of Tryz.func88 rfl (by kernel_rfl) ?_
 refine R.go 9 (k14 true (frameOf_c xs) rfl ?_)
 exact R.go 2 (k17 (.agg [AI xs.length, LI xs]) (by first | (rw [hn]) | (exfalso; omega)))

set_option maxHeartbeats 1000000 in
theorem isPoset_c (n : Int) (xs : List Int) (hl : xs.length ≤ 1000000000) : CallA Tryz.prog 63 [.agg [AI n, LI xs]] (.bool (okPo n xs)) := by
 have hn := fun h : inR n 0 8 = true => (inR_iff _ _ _).1 h
 refine CallA.of Tryz.func63 rfl (by kernel_rfl) ?_
 refine R.go 10 (k14 true (inRange_c n 0 8) rfl ?_)
 refine R.go 2 ?_
 refine (Bool.eq_false_or_eq_true (inR n 0 8)).elim (fun c1 => ?_) (fun c1 => ?_)
 ·refine k5 (!(inR n 0 8)) false (bnF c1) ?_
  refine R.go 1 (k5 (!(inR n 0 8)) false (bnF c1) ?_)
  refine R.go 1 (k5 (!(inR n 0 8)) false (bnF c1) ?_)
  refine k14 true (size_c xs) rfl ?_
  refine k5 (!(inR n 0 8)) false (bnF c1) ?_
  refine R.go 1 (k5 (!(inR n 0 8)) false (bnF c1) ?_)
  refine R.go 1 (k5 (!(inR n 0 8)) false (bnF c1) ?_)
  refine R.go 1 (k7 (!(inR n 0 8)) false (bnF c1) ?_)
  refine R.go 1 ?_
  by_cases c2 : (xs.length : Int) = n
  ·refine k5 (!decide ((xs.length : Int) = n)) false (nF c2) ?_
   refine R.go 1 (k5 (!decide ((xs.length : Int) = n)) false (nF c2) ?_)
   refine R.go 1 (k5 (!decide ((xs.length : Int) = n)) false (nF c2) ?_)
   refine k14 true (isRelation_c xs hl) rfl ?_
   refine k5 (!decide ((xs.length : Int) = n)) false (nF c2) ?_
   refine R.go 1 (k7 (!decide ((xs.length : Int) = n)) false (nF c2) ?_)
   refine R.go 1 (k19 (!(xs.any (outR xs.length))) (fun c3 => ?_) (fun c3 => ?_))
   ·exact R.go 4 (k17 (.bool false) (by first | (apply congrArg AV.bool; first | exact okPo_0 (okFr_no (by assumption)) | exact okPo_0 (okFr_ne (by assumption)) | exact okPo_0 (by assumption) | exact okPo_1 hfr (by assumption) | exact okPo_2 hfr (by assumption) (by assumption) | exact okPo_3 hfr (by assumption) (by assumption) | exact okPo_0 (okFr_rel0 (by assumption) (by assumption) (by first | assumption | simpa using (by assumption : (!xs.any (outR xs.length)) = false)))) | (exfalso; omega)))
   ·have hfr : okFr n xs = true := okFr_rel1 (by assumption) (by assumption) (by first | assumption | simpa using (by assumption : (!xs.any (outR xs.length)) = true))
    refine R.go 4 (k14 true (pFrame_c n xs c2) rfl ?_)
    refine R.go 6 (k14 true (hasFlagR_c n xs hfr) rfl ?_)
    refine R.go 1 ?_
    refine (Bool.eq_false_or_eq_true (rB n.toNat xs)).elim (fun c4 => ?_) (fun c4 => ?_)
    ·refine k5 (rB n.toNat xs) true c4 ?_
     refine R.go 1 (k5 (rB n.toNat xs) true c4 ?_)
     refine k14 true (hasFlagT_c n xs hfr) rfl ?_
     refine k7 (rB n.toNat xs) true c4 ?_
     refine R.go 1 ?_
     refine (Bool.eq_false_or_eq_true (tB n.toNat xs)).elim (fun c5 => ?_) (fun c5 => ?_)
     ·refine k5 (tB n.toNat xs) true c5 ?_
      refine R.go 1 (k5 (tB n.toNat xs) true c5 ?_)
      refine k14 true (hasFlagA_c n xs hfr) rfl ?_
      refine k7 (tB n.toNat xs) true c5 ?_
      exact R.go 2 (k17 (.bool (aB n.toNat xs)) (by first | (apply congrArg AV.bool; first | exact okPo_0 (okFr_no (by assumption)) | exact okPo_0 (okFr_ne (by assumption)) | exact okPo_0 (by assumption) | exact okPo_1 hfr (by assumption) | exact okPo_2 hfr (by assumption) (by assumption) | exact okPo_3 hfr (by assumption) (by assumption) | exact okPo_0 (okFr_rel0 (by assumption) (by assumption) (by first | assumption | simpa using (by assumption : (!xs.any (outR xs.length)) = false)))) | (exfalso; omega)))
     ·refine k6 (tB n.toNat xs) true c5 ?_
      refine k6 (tB n.toNat xs) true c5 ?_
      refine k7 (tB n.toNat xs) false c5 ?_
      exact R.go 2 (k17 (.bool false) (by first | (apply congrArg AV.bool; first | exact okPo_0 (okFr_no (by assumption)) | exact okPo_0 (okFr_ne (by assumption)) | exact okPo_0 (by assumption) | exact okPo_1 hfr (by assumption) | exact okPo_2 hfr (by assumption) (by assumption) | exact okPo_3 hfr (by assumption) (by assumption) | exact okPo_0 (okFr_rel0 (by assumption) (by assumption) (by first | assumption | simpa using (by assumption : (!xs.any (outR xs.length)) = false)))) | (exfalso; omega)))
    ·refine k6 (rB n.toNat xs) true c4 ?_
     refine k6 (rB n.toNat xs) true c4 ?_
     refine k7 (rB n.toNat xs) false c4 ?_
     exact R.go 6 (k17 (.bool false) (by first | (apply congrArg AV.bool; first | exact okPo_0 (okFr_no (by assumption)) | exact okPo_0 (okFr_ne (by assumption)) | exact okPo_0 (by assumption) | exact okPo_1 hfr (by assumption) | exact okPo_2 hfr (by assumption) (by assumption) | exact okPo_3 hfr (by assumption) (by assumption) | exact okPo_0 (okFr_rel0 (by assumption) (by assumption) (by first | assumption | simpa using (by assumption : (!xs.any (outR xs.length)) = false)))) | (exfalso; omega)))
  ·refine k6 (!decide ((xs.length : Int) = n)) false (nT c2) ?_
   refine k6 (!decide ((xs.length : Int) = n)) false (nT c2) ?_
   refine k6 (!decide ((xs.length : Int) = n)) false (nT c2) ?_
   refine k6 (!decide ((xs.length : Int) = n)) false (nT c2) ?_
   refine k7 (!decide ((xs.length : Int) = n)) true (nT c2) ?_
   exact R.go 6 (k17 (.bool false) (by first | (apply congrArg AV.bool; first | exact okPo_0 (okFr_no (by assumption)) | exact okPo_0 (okFr_ne (by assumption)) | exact okPo_0 (by assumption) | exact okPo_1 hfr (by assumption) | exact okPo_2 hfr (by assumption) (by assumption) | exact okPo_3 hfr (by assumption) (by assumption) | exact okPo_0 (okFr_rel0 (by assumption) (by assumption) (by first | assumption | simpa using (by assumption : (!xs.any (outR xs.length)) = false)))) | (exfalso; omega)))
 ·refine k6 (!(inR n 0 8)) false (bnT c1) ?_
  refine k6 (!(inR n 0 8)) false (bnT c1) ?_
  refine k6 (!(inR n 0 8)) false (bnT c1) ?_
  refine k6 (!(inR n 0 8)) false (bnT c1) ?_
  refine k6 (!(inR n 0 8)) false (bnT c1) ?_
  refine k6 (!(inR n 0 8)) false (bnT c1) ?_
  refine k7 (!(inR n 0 8)) true (bnT c1) ?_
  exact R.go 12 (k17 (.bool false) (by first | (apply congrArg AV.bool; first | exact okPo_0 (okFr_no (by assumption)) | exact okPo_0 (okFr_ne (by assumption)) | exact okPo_0 (by assumption) | exact okPo_1 hfr (by assumption) | exact okPo_2 hfr (by assumption) (by assumption) | exact okPo_3 hfr (by assumption) (by assumption) | exact okPo_0 (okFr_rel0 (by assumption) (by assumption) (by first | assumption | simpa using (by assumption : (!xs.any (outR xs.length)) = false)))) | (exfalso; omega)))

set_option maxHeartbeats 1000000 in
theorem l16Is_c (n : Int) (xs : List Int) (hl : xs.length ≤ 1000000000) : CallA Tryz.prog 83 [.agg [AI n, LI xs]] (.bool (okPo n xs)) := by
 have hn := fun h : inR n 0 8 = true => (inR_iff _ _ _).1 h
 refine CallA.of Tryz.func83 rfl (by kernel_rfl) ?_
 refine R.go 10 (k14 true (l01In_c n 0 8) rfl ?_)
 refine R.go 2 ?_
 refine (Bool.eq_false_or_eq_true (inR n 0 8)).elim (fun c1 => ?_) (fun c1 => ?_)
 ·refine k5 (!(inR n 0 8)) false (bnF c1) ?_
  refine R.go 1 (k5 (!(inR n 0 8)) false (bnF c1) ?_)
  refine R.go 1 (k5 (!(inR n 0 8)) false (bnF c1) ?_)
  refine R.go 1 (k5 (!(inR n 0 8)) false (bnF c1) ?_)
  refine R.go 1 (k5 (!(inR n 0 8)) false (bnF c1) ?_)
  refine R.go 1 (k5 (!(inR n 0 8)) false (bnF c1) ?_)
  refine R.go 1 (k7 (!(inR n 0 8)) false (bnF c1) ?_)
  refine R.go 1 ?_
  by_cases c2 : (xs.length : Int) = n
  ·refine k5 (!decide ((xs.length : Int) = n)) false (nF c2) ?_
   refine R.go 1 (k5 (!decide ((xs.length : Int) = n)) false (nF c2) ?_)
   refine R.go 1 (k5 (!decide ((xs.length : Int) = n)) false (nF c2) ?_)
   refine R.go 1 (k5 (!decide ((xs.length : Int) = n)) false (nF c2) ?_)
   refine R.go 1 (k5 (!decide ((xs.length : Int) = n)) false (nF c2) ?_)
   refine k14 true (l01Masks_c n xs hl (by first | omega | (simp only [inR_iff, inR_not] at *; omega)) (by first | omega | (simp only [inR_iff, inR_not] at *; omega))) rfl ?_
   refine k5 (!decide ((xs.length : Int) = n)) false (nF c2) ?_
   refine R.go 1 (k7 (!decide ((xs.length : Int) = n)) false (nF c2) ?_)
   refine R.go 1 (k19 (!(xs.any fun m => !inR m 0 ((shl64 1 n) - 1))) (fun c3 => ?_) (fun c3 => ?_))
   ·exact R.go 4 (k17 (.bool false) (by first | (apply congrArg AV.bool; first | exact okPo_0 (okFr_no (by assumption)) | exact okPo_0 (okFr_ne (by assumption)) | exact okPo_0 (by assumption) | exact okPo_1 hfr (by assumption) | exact okPo_2 hfr (by assumption) (by assumption) | exact okPo_3 hfr (by assumption) (by assumption) | exact okPo_0 (okFr_any (by first | assumption | simpa using (by assumption : (!xs.any fun m => !inR m 0 ((shl64 1 n) - 1)) = false)))) | (exfalso; omega)))
   ·have hfr : okFr n xs = true := okFr_mk (by assumption) (by assumption) (by first | assumption | simpa using (by assumption : (!xs.any fun m => !inR m 0 ((shl64 1 n) - 1)) = true))
    refine R.go 14 (k14 true (flagR_c n xs hfr) rfl ?_)
    refine R.go 1 ?_
    refine (Bool.eq_false_or_eq_true (rB n.toNat xs)).elim (fun c4 => ?_) (fun c4 => ?_)
    ·refine k5 (rB n.toNat xs) true c4 ?_
     refine R.go 1 (k5 (rB n.toNat xs) true c4 ?_)
     refine k14 true (flagT_c n xs hfr) rfl ?_
     refine k7 (rB n.toNat xs) true c4 ?_
     refine R.go 1 ?_
     refine (Bool.eq_false_or_eq_true (tB n.toNat xs)).elim (fun c5 => ?_) (fun c5 => ?_)
     ·refine k5 (tB n.toNat xs) true c5 ?_
      refine R.go 1 (k5 (tB n.toNat xs) true c5 ?_)
      refine k14 true (flagA_c n xs hfr) rfl ?_
      refine k7 (tB n.toNat xs) true c5 ?_
      exact R.go 2 (k17 (.bool (aB n.toNat xs)) (by first | (apply congrArg AV.bool; first | exact okPo_0 (okFr_no (by assumption)) | exact okPo_0 (okFr_ne (by assumption)) | exact okPo_0 (by assumption) | exact okPo_1 hfr (by assumption) | exact okPo_2 hfr (by assumption) (by assumption) | exact okPo_3 hfr (by assumption) (by assumption) | exact okPo_0 (okFr_any (by first | assumption | simpa using (by assumption : (!xs.any fun m => !inR m 0 ((shl64 1 n) - 1)) = false)))) | (exfalso; omega)))
     ·refine k6 (tB n.toNat xs) true c5 ?_
      refine k6 (tB n.toNat xs) true c5 ?_
      refine k7 (tB n.toNat xs) false c5 ?_
      exact R.go 2 (k17 (.bool false) (by first | (apply congrArg AV.bool; first | exact okPo_0 (okFr_no (by assumption)) | exact okPo_0 (okFr_ne (by assumption)) | exact okPo_0 (by assumption) | exact okPo_1 hfr (by assumption) | exact okPo_2 hfr (by assumption) (by assumption) | exact okPo_3 hfr (by assumption) (by assumption) | exact okPo_0 (okFr_any (by first | assumption | simpa using (by assumption : (!xs.any fun m => !inR m 0 ((shl64 1 n) - 1)) = false)))) | (exfalso; omega)))
    ·refine k6 (rB n.toNat xs) true c4 ?_
     refine k6 (rB n.toNat xs) true c4 ?_
     refine k7 (rB n.toNat xs) false c4 ?_
     exact R.go 6 (k17 (.bool false) (by first | (apply congrArg AV.bool; first | exact okPo_0 (okFr_no (by assumption)) | exact okPo_0 (okFr_ne (by assumption)) | exact okPo_0 (by assumption) | exact okPo_1 hfr (by assumption) | exact okPo_2 hfr (by assumption) (by assumption) | exact okPo_3 hfr (by assumption) (by assumption) | exact okPo_0 (okFr_any (by first | assumption | simpa using (by assumption : (!xs.any fun m => !inR m 0 ((shl64 1 n) - 1)) = false)))) | (exfalso; omega)))
  ·refine k6 (!decide ((xs.length : Int) = n)) false (nT c2) ?_
   refine k6 (!decide ((xs.length : Int) = n)) false (nT c2) ?_
   refine k6 (!decide ((xs.length : Int) = n)) false (nT c2) ?_
   refine k6 (!decide ((xs.length : Int) = n)) false (nT c2) ?_
   refine k6 (!decide ((xs.length : Int) = n)) false (nT c2) ?_
   refine k6 (!decide ((xs.length : Int) = n)) false (nT c2) ?_
   refine k7 (!decide ((xs.length : Int) = n)) true (nT c2) ?_
   exact R.go 6 (k17 (.bool false) (by first | (apply congrArg AV.bool; first | exact okPo_0 (okFr_no (by assumption)) | exact okPo_0 (okFr_ne (by assumption)) | exact okPo_0 (by assumption) | exact okPo_1 hfr (by assumption) | exact okPo_2 hfr (by assumption) (by assumption) | exact okPo_3 hfr (by assumption) (by assumption) | exact okPo_0 (okFr_any (by first | assumption | simpa using (by assumption : (!xs.any fun m => !inR m 0 ((shl64 1 n) - 1)) = false)))) | (exfalso; omega)))
 ·refine k6 (!(inR n 0 8)) false (bnT c1) ?_
  refine k6 (!(inR n 0 8)) false (bnT c1) ?_
  refine k6 (!(inR n 0 8)) false (bnT c1) ?_
  refine k6 (!(inR n 0 8)) false (bnT c1) ?_
  refine k6 (!(inR n 0 8)) false (bnT c1) ?_
  refine k6 (!(inR n 0 8)) false (bnT c1) ?_
  refine k7 (!(inR n 0 8)) true (bnT c1) ?_
  exact R.go 14 (k17 (.bool false) (by first | (apply congrArg AV.bool; first | exact okPo_0 (okFr_no (by assumption)) | exact okPo_0 (okFr_ne (by assumption)) | exact okPo_0 (by assumption) | exact okPo_1 hfr (by assumption) | exact okPo_2 hfr (by assumption) (by assumption) | exact okPo_3 hfr (by assumption) (by assumption) | exact okPo_0 (okFr_any (by first | assumption | simpa using (by assumption : (!xs.any fun m => !inR m 0 ((shl64 1 n) - 1)) = false)))) | (exfalso; omega)))

end Go.Proofs.YtjllngcefoohpaaGreat


/-! Posets: roots and upsets of both packages. -/
namespace Go.Proofs.YtjllngcefoohpaaGreat
open Go.RowKit Go.Abs

theorem shl8N : ∀ n : Fin 9, 1 ≤ shl64 1 (n.val : Int) ∧ shl64 1 (n.val : Int) ≤ 256 := by decide +kernel
theorem shl_8 {n : Int} (h0 : 0 ≤ n) (h8 : n ≤ 8) : 1 ≤ shl64 1 n ∧ shl64 1 n ≤ 256 := by
  obtain ⟨k, rfl⟩ := Int.eq_ofNat_of_zero_le h0
  exact shl8N ⟨k, by omega⟩
def poC (n : Int) (xs : List Int) : Int := if okPo n xs = true then 0 else 1
/-- The upsets below k. -/
def upTo (xs : List Int) : Nat → List Int
  | 0 => []
  | k + 1 => if img xs (k : Int) xs.length = (k : Int) then upTo xs k ++ [(k : Int)] else upTo xs k
theorem upTo_len (xs : List Int) : ∀ k : Nat, (upTo xs k).length ≤ k
  | 0 => Nat.le_refl _
  | k + 1 => by
    have := upTo_len xs k
    rw [upTo]
    split
    · simp; omega
    · omega
theorem upTo_yes {xs : List Int} {k : Nat} (h : img xs (k : Int) xs.length = (k : Int)) : upTo xs k ++ [(k : Int)] = upTo xs (k + 1) := by rw [upTo, if_pos h]
theorem upTo_no {xs : List Int} {k : Nat} (h : ¬ img xs (k : Int) xs.length = (k : Int)) : upTo xs k = upTo xs (k + 1) := by rw [upTo, if_neg h]
def upL (n : Int) (xs : List Int) : List Int := upTo xs (shl64 1 n).toNat
def upR (n : Int) (xs : List Int) : List Int := if okPo n xs = true then upL n xs else []
theorem up_bad {s : Nat} {n : Int} {xs : List Int} (h : okPo n xs = false) : AV.tup [ownA eI s 1 [], AI 1] = AV.tup [ownA eI s 1 (upR n xs), AI (poC n xs)] := by simp [upR, poC, h]
theorem up_ok {s : Nat} {n : Int} {xs : List Int} (h : okPo n xs = true) : AV.tup [ownA eI s 1 (upL n xs), AI 0] = AV.tup [ownA eI s 1 (upR n xs), AI (poC n xs)] := by rw [upR, poC, if_pos h, if_pos h]
theorem upR_len (n : Int) (xs : List Int) : (upR n xs).length ≤ 256 := by
  unfold upR
  split
  · rename_i h
    have hF := okFr_rel (okPo_fr h)
    have := upTo_len xs (shl64 1 n).toNat
    have := shl_8 hF.1 hF.2.1
    unfold upL
    omega
  · simp
/-! The image, by the members of the mask. -/
def imgL (xs : List Int) (L : List Int) : Int := L.foldl (fun o j => bor o (xs.getD j.toNat 0)) 0
theorem imgL_snoc {xs L : List Int} {t : Nat} (h : t < L.length) : bor (imgL xs (L.take t)) (xs.getD (L.getD t 0).toNat 0) = imgL xs (L.take (t + 1)) := by
  rw [List.take_succ_eq_append_getElem h, imgL, imgL, List.foldl_append, List.getD_eq_getElem?_getD (l := L), List.getElem?_eq_getElem h]
  rfl
theorem imgF_ok {N : Nat} {xs : List Int} (hR : RelOK N xs) (hN : N ≤ 30) : ∀ (L : List Int) (o : Int), InM N o → (∀ j ∈ L, 0 ≤ j ∧ j < (N : Int)) → InM N (L.foldl (fun o j => bor o (xs.getD j.toNat 0)) o) ∧ ∀ k, tb (L.foldl (fun o j => bor o (xs.getD j.toNat 0)) o) k = true ↔ tb o k = true ∨ ∃ j ∈ L, tb (xs.getD j.toNat 0) k = true
  | [], o, h, _ => ⟨h, fun k => by simp⟩
  | v :: L, o, h, hL => by
    have hv := hL v (List.mem_cons_self ..)
    have hx := hR.2 v.toNat (by omega)
    have hb := inM_bor (n := N) (by omega) h hx
    obtain ⟨i1, i2⟩ := imgF_ok hR hN L _ hb fun j hj => hL j (List.mem_cons_of_mem _ hj)
    refine ⟨i1, fun k => ?_⟩
    rw [List.foldl_cons, i2, tb_bor (n := N) (by omega) h hx, Bool.or_eq_true]
    simp [or_assoc]
theorem img_eq {N : Nat} {xs : List Int} {m : Int} (hR : RelOK N xs) (hN : N ≤ 30) (hm : InM N m) : imgL xs (mem m) = img xs m xs.length := by
  have hl := hR.1
  obtain ⟨a1, a2⟩ := imgF_ok hR hN (mem m) 0 (inM_zero _) (mem_lt (by omega) hm)
  obtain ⟨b1, b2⟩ := img_ok (n := N) (by omega) hR hm xs.length (by omega)
  refine tb_ext a1.1 b1.1 fun k => ?_
  rw [Bool.eq_iff_iff, imgL, a2, b2]
  constructor
  · rintro (a | ⟨j, hj, h⟩)
    · rw [tb_zero] at a; cases a
    · have h1 := mem_lt (by omega) hm j hj
      refine ⟨j.toNat, by omega, (mem_iff (by omega) hm).1 (by rw [show ((j.toNat : Nat) : Int) = j by omega]; exact hj), h⟩
  · rintro ⟨j, _, h1, h2⟩
    exact .inr ⟨(j : Int), (mem_iff (by omega) hm).2 h1, by simpa using h2⟩
theorem nat_inM {n : Int} {k : Nat} (h0 : 0 ≤ n) (h8 : n ≤ 8) (hk : (k : Int) < shl64 1 n) : InM n.toNat (k : Int) := by
  have := shl_nat (i := n.toNat) (by omega)
  rw [show ((n.toNat : Nat) : Int) = n by omega] at this
  exact ⟨by omega, by omega⟩
theorem outR_no {n m : Int} (h0 : 0 ≤ n) (h8 : n ≤ 8) (h : 0 ≤ m ∧ m < shl64 1 n) : outR n m = false := by
  rw [outR, (inR_iff n 0 30).2 (by omega), (inR_iff m 0 _).2 (by omega)]; rfl

theorem pAll_c (n : Int) (xs : List Int) (h0 : 0 ≤ n) (h1 : n ≤ 62) : CallA Tryz.prog 151 [.agg [AI n, LI xs]] (AI ((shl64 1 n) - 1)) := by
 have hb : 1 ≤ shl64 1 n ∧ shl64 1 n ≤ 4611686018427387904 := shl_rng n h0 h1
 refine CallA.of Tryz.func151 rfl (by kernel_rfl) ?_
 refine R.go 9 (R.shl 1 n (by kernel_rfl) (by omega) (by kernel_rfl) ?_)
 refine k1 ((shl64 1 n) - 1) ?_
 exact R.go 2 (k17 (AI ((shl64 1 n) - 1)) (by rfl))

theorem imageI_c (n : Int) (xs : List Int) (m : Int) (hR : okFr n xs = true) (hm : InM n.toNat m) : CallA Tryz.prog 279 [LI xs, AI m] (AI (img xs m xs.length)) := by
 have hF := okFr_rel hR
 have hRel : RelOK n.toNat xs := hF.2.2.2
 have hb0 : 0 ≤ n ∧ n ≤ 8 ∧ (xs.length : Int) = n := ⟨hF.1, hF.2.1, hF.2.2.1⟩
 have hN8 : n.toNat ≤ 30 := by omega
 have hm61 := inM_mono (n' := 61) (by omega) hm
 refine CallA.of Tryz.func279 rfl (by kernel_rfl) ?_
 refine R.go 12 (k14 true (membersOf_c m (by first | assumption | exact inM61 (by omega) (by omega))).frz rfl ?_)
 refine R.go 4 (k15 ((fun | (t, r) => (⟨(frm 23 [(0, LI xs), (5, AI r), (9, LI (mem m)), (10, AI ((mem m).length)), (11, AI (t : Int))]), []⟩ : St) : Nat × Int → St)) (fun | (t, r) => (t ≤ (mem m).length) ∧ (r = imgL xs ((mem m).take t))) (fun | (t, r) => (mem m).length - t) (0, 0) [0, 5, 9, 10, 11] none ⟨(by omega), (by rfl)⟩ ?_)
 rintro ⟨t, r⟩ ⟨h4_1, rfl⟩ R1 N2
 have hml := mem_le m
 have hjr := fun h : t < (mem m).length => mem_lt' (N := n.toNat) (by omega) hm h
 refine R.go 5 (k3 ((t : Int) < ((mem m).length : Int)) (fun c5 => ?_) (fun c5 => ?_))
 ·refine R.go 5 (k8 eI (mem m) 0 t (t : Int) rfl eI_len ?_)
  have hj2 := hjr (by omega)
  refine R.go 7 (k8 eI xs 0 ((((mem m).getD t 0)).toNat) ((mem m).getD t 0) (by omega) eI_len ?_)
  refine R.go 6 (k1 ((t : Int) + 1) ?_)
  exact R.go 2 (k16 R1 (N2 (t + 1, bor (imgL xs ((mem m).take t)) (xs.getD ((((mem m).getD t 0)).toNat) 0)) [0, 5, 9, 10, 11] none _ (by kernel_rfl) (by kernel_rfl) ⟨(by omega), (by exact imgL_snoc (by omega))⟩ (by show ((mem m).length - (t + 1)) < ((mem m).length - t); omega)))
 ·exact R.go 6 (k17 (AI (imgL xs ((mem m).take t))) (by first | (rw [← img_eq hRel hN8 hm, List.take_of_length_le (by omega)]) | (exfalso; omega)))

theorem isUpset_c (n : Int) (xs : List Int) (m : Int) (hR : okFr n xs = true) (hm : InM n.toNat m) (ho : outR n m = false) : CallA Tryz.prog 163 [.agg [AI n, LI xs], AI m] (.bool (decide (img xs m xs.length = m))) := by
 refine CallA.of Tryz.func163 rfl (by kernel_rfl) ?_
 refine R.go 10 (k14 true (isMask_c n m) rfl ?_)
 refine R.go 1 (k5 (!(outR n m)) true (bnT ho) ?_)
 refine R.go 1 (k5 (!(outR n m)) true (bnT ho) ?_)
 refine R.go 1 (k5 (!(outR n m)) true (bnT ho) ?_)
 refine R.go 1 (k5 (!(outR n m)) true (bnT ho) ?_)
 refine k14 true (imageI_c n xs m hR hm) rfl ?_
 refine k5 (!(outR n m)) true (bnT ho) ?_
 refine R.go 1 (k5 (!(outR n m)) true (bnT ho) ?_)
 refine R.go 1 (k7 (!(outR n m)) true (bnT ho) ?_)
 exact R.go 2 (k17 (.bool (decide ((img xs m xs.length) = m))) (by first | (rfl) | (exfalso; omega)))

theorem l16Upsets_c (n : Int) (xs : List Int) (hP : okPo n xs = true) : CallA Tryz.prog 160 [.agg [AI n, LI xs]] (ownA eI 2 1 (upL n xs)) := by
 have hR := okPo_fr hP
 have hF := okFr_rel hR
 have hRel : RelOK n.toNat xs := hF.2.2.2
 have hb0 : 0 ≤ n ∧ n ≤ 8 ∧ (xs.length : Int) = n := ⟨hF.1, hF.2.1, hF.2.2.1⟩
 have hN8 : n.toNat ≤ 30 := by omega
 have hs8 := shl_8 hF.1 hF.2.1
 refine CallA.of Tryz.func160 rfl (by kernel_rfl) ?_
 refine R.go 16 (k15 ((fun | (k, out) => (⟨(frm 24 [(1, .ptr 0 0), (3, .ref 1), (4, AI (k : Int))]), [.box 35 [AI n, LI xs], rowA eI 2 1 out]⟩ : St) : Nat × (List Int) → St)) (fun | (k, out) => ((k : Int) ≤ shl64 1 n) ∧ (out = upTo xs k)) (fun | (k, out) => (shl64 1 n).toNat - k) (0, []) [1, 3, 4] none ⟨(by omega), (by rfl)⟩ ?_)
 rintro ⟨k, out⟩ ⟨h4_1, rfl⟩ R1 N2
 have hul := upTo_len xs k
 refine R.go 6 (k14 true (l01Full_c n (by omega) (by omega)) rfl ?_)
 refine R.go 2 (k3 ((k : Int) ≤ ((shl64 1 n) - 1)) (fun c5 => ?_) (fun c5 => ?_))
 ·refine R.go 8 (k14 true (l01Image_c xs (k : Int) (by first | omega | (simp <;> omega))) rfl ?_)
  refine R.go 3 (k3 ((img xs (k : Int) xs.length) = (k : Int)) (fun c6 => ?_) (fun c6 => ?_))
  ·refine R.go 4 (k12 eI (upTo xs k) [(k : Int)] 1 2 1 8 eI_one ?_)
   refine R.go 5 (k1 ((k : Int) + 1) ?_)
   exact R.go 2 (k16 R1 (N2 (k + 1, (upTo xs k) ++ [(k : Int)]) [1, 3, 4] (some [0, 1]) _ (by kernel_rfl) (by kernel_rfl) ⟨(by omega), (by first | exact upTo_yes (by assumption) | exact upTo_no (by assumption))⟩ (by show ((shl64 1 n).toNat - (k + 1)) < ((shl64 1 n).toNat - k); omega)))
  ·refine R.go 4 (k1 ((k : Int) + 1) ?_)
   exact R.go 2 (k16 R1 (N2 (k + 1, upTo xs k) [1, 3, 4] none _ (by kernel_rfl) (by kernel_rfl) ⟨(by omega), (by first | exact upTo_yes (by assumption) | exact upTo_no (by assumption))⟩ (by show ((shl64 1 n).toNat - (k + 1)) < ((shl64 1 n).toNat - k); omega)))
 ·exact R.go 6 (k17 (ownA eI 2 1 (upTo xs k)) (by first | (show ownA eI _ 1 (upTo xs k) = ownA eI _ 1 (upL n xs); rw [upL, show k = (shl64 1 n).toNat by omega]) | (exfalso; omega)))

theorem upsets_c (n : Int) (xs : List Int) (hP : okPo n xs = true) : CallA Tryz.prog 70 [.agg [AI n, LI xs]] (ownA eI 2 1 (upL n xs)) := by
 have hR := okPo_fr hP
 have hF := okFr_rel hR
 have hRel : RelOK n.toNat xs := hF.2.2.2
 have hb0 : 0 ≤ n ∧ n ≤ 8 ∧ (xs.length : Int) = n := ⟨hF.1, hF.2.1, hF.2.2.1⟩
 have hN8 : n.toNat ≤ 30 := by omega
 have hs8 := shl_8 hF.1 hF.2.1
 refine CallA.of Tryz.func70 rfl (by kernel_rfl) ?_
 refine R.go 13 (k14 true (pAll_c n xs (by omega) (by omega)) rfl ?_)
 refine k1 (((shl64 1 n) - 1) + 1) ?_
 refine R.go 3 (R.nil 3 2 1 (by kernel_rfl) ?_)
 refine k15 ((fun | (k, out) => (⟨(frm 20 [(1, .ptr 0 0), (3, .ref 1), (7, AI (((shl64 1 n) - 1) + 1)), (8, AI (k : Int))]), [.box 35 [AI n, LI xs], rowA eI 2 1 out]⟩ : St) : Nat × (List Int) → St)) (fun | (k, out) => ((k : Int) ≤ shl64 1 n) ∧ (out = upTo xs k)) (fun | (k, out) => (shl64 1 n).toNat - k) (0, []) [1, 3, 7, 8] none ⟨(by omega), (by rfl)⟩ ?_
 rintro ⟨k, out⟩ ⟨h4_1, rfl⟩ R1 N2
 have hul := upTo_len xs k
 refine R.go 5 (k3 ((k : Int) < (((shl64 1 n) - 1) + 1)) (fun c5 => ?_) (fun c5 => ?_))
 ·have hkm := nat_inM (k := k) hb0.1 hb0.2.1 (by omega)
  have hko := outR_no (m := (k : Int)) hb0.1 hb0.2.1 (by omega)
  refine R.go 12 (k14 true (isUpset_c n xs (k : Int) (by assumption) (by assumption) (by assumption)) rfl ?_)
  refine R.go 1 (k3 (img xs (k : Int) xs.length = (k : Int)) (fun c6 => ?_) (fun c6 => ?_))
  ·refine R.go 4 (k12 eI (upTo xs k) [(k : Int)] 1 2 1 8 eI_one ?_)
   refine R.go 4 (k1 ((k : Int) + 1) ?_)
   exact R.go 2 (k16 R1 (N2 (k + 1, (upTo xs k) ++ [(k : Int)]) [1, 3, 7, 8] (some [0, 1]) _ (by kernel_rfl) (by kernel_rfl) ⟨(by omega), (by first | exact upTo_yes (by assumption) | exact upTo_no (by assumption))⟩ (by show ((shl64 1 n).toNat - (k + 1)) < ((shl64 1 n).toNat - k); omega)))
  ·refine R.go 3 (k1 ((k : Int) + 1) ?_)
   exact R.go 2 (k16 R1 (N2 (k + 1, upTo xs k) [1, 3, 7, 8] none _ (by kernel_rfl) (by kernel_rfl) ⟨(by omega), (by first | exact upTo_yes (by assumption) | exact upTo_no (by assumption))⟩ (by show ((shl64 1 n).toNat - (k + 1)) < ((shl64 1 n).toNat - k); omega)))
 ·exact R.go 6 (k17 (ownA eI 2 1 (upTo xs k)) (by first | (show ownA eI _ 1 (upTo xs k) = ownA eI _ 1 (upL n xs); rw [upL, show k = (shl64 1 n).toNat by omega]) | (exfalso; omega)))

theorem UP_impl (n : Int) (xs : List Int) (lx : xs.length ≤ 1048576) : CallA Tryz.prog 20 [.agg [AI n, LI xs]] (.tup [ownA eI 2 1 (upR n xs), AI (poC n xs)]) := by
 refine CallA.of Tryz.func20 rfl (by kernel_rfl) ?_
 refine R.go 10 (k14 true (isPoset_c n xs (by first | omega | (simp <;> omega))) rfl ?_)
 refine R.go 2 (k19 (okPo n xs) (fun c1 => ?_) (fun c1 => ?_))
 ·refine R.go 5 (R.nil 2 2 1 (by kernel_rfl) ?_)
  exact k17 (.tup [ownA eI 2 1 [], AI 1]) (by first | (first | exact up_bad (by assumption) | exact up_ok (by assumption)) | (exfalso; omega))
 ·refine R.go 4 (k14 true (upsets_c n xs c1) rfl ?_)
  exact R.go 3 (k17 (.tup [ownA eI 2 1 (upL n xs), AI 0]) (by first | (first | exact up_bad (by assumption) | exact up_ok (by assumption)) | (exfalso; omega)))

end Go.Proofs.YtjllngcefoohpaaGreat


/-! Orders of up to thirty elements: flags, inverses, least members. -/
namespace Go.Proofs.YtjllngcefoohpaaGreat
open Go.RowKit Go.Abs

def okRl (n : Int) (xs : List Int) : Prop := 0 ≤ n ∧ n ≤ 30 ∧ (xs.length : Int) = n ∧ RelOK n.toNat xs
theorem okRl_of {xs : List Int} (hN : xs.length ≤ 30) (h : RelOK xs.length xs) : okRl (xs.length : Int) xs := ⟨by omega, by omega, rfl, by simpa using h⟩
/-- Is x the greatest member of m, for the elements below each one? -/
def lowP (bl : List Int) (m : Int) (x : Nat) : Bool := tb m x && decide (bnot m (bl.getD x 0) = 0)
/-- The first such among the first i; or -1. -/
def lowTo (bl : List Int) (m : Int) : Nat → Int
  | 0 => -1
  | i + 1 => if lowTo bl m i = -1 then (if lowP bl m i = true then (i : Int) else -1) else lowTo bl m i
def lowF (bl : List Int) (m : Int) : Int := lowTo bl m bl.length
theorem lowTo_no {bl : List Int} {m : Int} : ∀ {i : Nat}, (∀ x : Nat, x < i → lowP bl m x = false) → lowTo bl m i = -1
  | 0, _ => rfl
  | i + 1, h => by rw [lowTo, if_pos (lowTo_no fun x hx => h x (by omega)), if_neg (by rw [h i (by omega)]; decide)]
theorem lowTo_yes {bl : List Int} {m : Int} {i : Nat} (h : ∀ x : Nat, x < i → lowP bl m x = false) (hi : lowP bl m i = true) : ∀ {k : Nat}, i < k → lowTo bl m k = (i : Int)
  | 0, hk => absurd hk (by omega)
  | k + 1, hk => by
    by_cases e : i = k
    · subst e; rw [lowTo, if_pos (lowTo_no h), if_pos hi]
    · have := lowTo_yes h hi (k := k) (by omega)
      rw [lowTo, this, if_neg (by omega)]
theorem lowF_at {bl : List Int} {m : Int} {x : Nat} (h : ∀ i : Nat, i < x → lowP bl m i = false) (hx : lowP bl m x = true) (hl : x < bl.length) : lowF bl m = (x : Int) := lowTo_yes h hx hl
theorem lowF_none {bl : List Int} {m : Int} (h : ∀ x : Nat, x < bl.length → lowP bl m x = false) : lowF bl m = -1 := lowTo_no h
theorem lowTo_some {bl : List Int} {m : Int} : ∀ {i : Nat}, 0 ≤ lowTo bl m i → ∃ x : Nat, x < i ∧ lowTo bl m i = (x : Int) ∧ lowP bl m x = true
  | 0, h => by simp [lowTo] at h
  | i + 1, h => by
    rw [lowTo] at h ⊢
    by_cases e : lowTo bl m i = -1
    · rw [if_pos e] at h ⊢
      by_cases e2 : lowP bl m i = true
      · rw [if_pos e2]; exact ⟨i, by omega, rfl, e2⟩
      · rw [if_neg e2] at h; omega
    · rw [if_neg e] at h ⊢
      obtain ⟨x, h1, h2, h3⟩ := lowTo_some h
      exact ⟨x, by omega, h2, h3⟩
theorem lowTo_ge {bl : List Int} {m : Int} : ∀ i : Nat, -1 ≤ lowTo bl m i
  | 0 => by simp [lowTo]
  | i + 1 => by
    have := lowTo_ge (bl := bl) (m := m) i
    rw [lowTo]
    repeat (first | split | omega)
theorem lowF_some {bl : List Int} {m : Int} (h : 0 ≤ lowF bl m) : ∃ x : Nat, x < bl.length ∧ lowF bl m = (x : Int) ∧ lowP bl m x = true := lowTo_some h
theorem lowF_rng (bl : List Int) (m : Int) : -1 ≤ lowF bl m ∧ lowF bl m < (bl.length : Int) := by
  refine ⟨lowTo_ge _, ?_⟩
  by_cases h : 0 ≤ lowF bl m
  · obtain ⟨x, h1, h2, _⟩ := lowF_some h
    omega
  · omega
def lowB (bl : List Int) (m : Int) : Bool := decide (0 ≤ lowF bl m)
def lowV (bl : List Int) (m : Int) : Int := if 0 ≤ lowF bl m then lowF bl m else 0
theorem gr_no {bl : List Int} {m : Int} (hN : bl.length ≤ 61) (hm : InM bl.length m) {t : Nat} {x : Nat} (hno : ∀ i : Nat, i < t → ¬ bnot m (bl.getD ((mem m).getD i 0).toNat 0) = 0) (hx : ∀ i : Nat, i < (mem m).length → (mem m).getD i 0 = (x : Int) → i < t) : lowP bl m x = false := by
  cases e : lowP bl m x with
  | false => rfl
  | true =>
    simp only [lowP, Bool.and_eq_true, decide_eq_true_eq] at e
    have h1 := (mem_iff hN hm).2 e.1
    obtain ⟨i, hi, h2⟩ := List.getElem_of_mem h1
    have h3 : (mem m).getD i 0 = (x : Int) := by rw [List.getD_eq_getElem?_getD, List.getElem?_eq_getElem hi]; exact h2
    exact absurd (by rw [h3]; simpa using e.2) (hno i (hx i hi h3))
theorem gr_yes {bl : List Int} {m : Int} (hN : bl.length ≤ 61) (hm : InM bl.length m) {t : Nat} (ht : t < (mem m).length) (hno : ∀ i : Nat, i < t → ¬ bnot m (bl.getD ((mem m).getD i 0).toNat 0) = 0) (hy : bnot m (bl.getD ((mem m).getD t 0).toNat 0) = 0) : lowF bl m = (mem m).getD t 0 := by
  have h1 := mem_lt' hN hm ht
  have h2 : ((((mem m).getD t 0).toNat : Nat) : Int) = (mem m).getD t 0 := by omega
  rw [← h2]
  refine lowF_at (fun i hi => gr_no hN hm hno fun k hk hki => ?_) ?_ (by omega)
  · rcases Nat.lt_or_ge k t with h | h
    · exact h
    · exfalso
      have h3 : (mem m).getD t 0 ≤ (mem m).getD k 0 := by
        rcases Nat.eq_or_lt_of_le h with rfl | h
        · exact Int.le_refl _
        · have := List.pairwise_iff_getElem.1 (memN_asc m 62) t k ht hk h
          have e1 : (mem m).getD t 0 = (memN m 62)[t] := by rw [List.getD_eq_getElem?_getD, List.getElem?_eq_getElem ht]; rfl
          have e2 : (mem m).getD k 0 = (memN m 62)[k] := by rw [List.getD_eq_getElem?_getD, List.getElem?_eq_getElem hk]; rfl
          omega
      omega
  · have h4 : ((((mem m).getD t 0).toNat : Nat) : Int) ∈ mem m := by
      rw [h2, List.getD_eq_getElem?_getD, List.getElem?_eq_getElem ht]
      exact List.getElem_mem _
    rw [lowP, (mem_iff hN hm).1 h4, decide_eq_true hy]; rfl
theorem gr_end {bl : List Int} {m : Int} (hN : bl.length ≤ 61) (hm : InM bl.length m) {t : Nat} (ht : (mem m).length ≤ t) (hno : ∀ i : Nat, i < t → ¬ bnot m (bl.getD ((mem m).getD i 0).toNat 0) = 0) : lowF bl m = -1 := lowF_none fun x _ => gr_no hN hm hno fun i hi _ => by omega
theorem gr_tup {bl : List Int} {m v : Int} (h : lowF bl m = v) (h0 : 0 ≤ v) : AV.tup [AI v, .bool true] = AV.tup [AI (lowV bl m), .bool (lowB bl m)] := by
  rw [lowV, lowB, h, if_pos h0, decide_eq_true h0]
theorem gr_tup0 {bl : List Int} {m : Int} (h : lowF bl m = -1) : AV.tup [AI 0, .bool false] = AV.tup [AI (lowV bl m), .bool (lowB bl m)] := by
  rw [lowV, lowB, h]; rfl
/-- The bits at which P holds, below k. -/
def mkB (P : Nat → Bool) : Nat → Int
  | 0 => 0
  | k + 1 => if P k = true then bor (mkB P k) (shl64 1 (k : Int)) else mkB P k
theorem mkB_ok (P : Nat → Bool) {N : Nat} (hN : N ≤ 61) : ∀ k : Nat, k ≤ N → InM N (mkB P k) ∧ ∀ j, tb (mkB P k) j = (decide (j < k) && P j)
  | 0, _ => ⟨inM_zero N, fun j => by simp [mkB, tb_zero]⟩
  | k + 1, hk => by
    obtain ⟨h1, h2⟩ := mkB_ok P hN k (by omega)
    have h3 := inM_one hN (show k < N by omega)
    rw [mkB]
    by_cases hp : P k = true
    · rw [if_pos hp]
      refine ⟨inM_bor hN h1 h3, fun j => ?_⟩
      rw [tb_bor hN h1 h3, h2, tb_one (by omega)]
      by_cases hj : k = j
      · subst hj; simp [hp]
      · by_cases hjk : j < k
        · simp [hjk, hj, show j < k + 1 by omega]
        · simp [hjk, hj, show ¬ j < k + 1 by omega]
    · rw [if_neg hp]
      refine ⟨h1, fun j => ?_⟩
      rw [h2]
      by_cases hj : k = j
      · subst hj; simp [hp]
      · by_cases hjk : j < k
        · simp [hjk, show j < k + 1 by omega]
        · simp [hjk, show ¬ j < k + 1 by omega]
theorem mkB_yes {P : Nat → Bool} {k : Nat} (h : P k = true) : bor (mkB P k) (shl64 1 (k : Int)) = mkB P (k + 1) := by rw [mkB, if_pos h]
theorem mkB_no {P : Nat → Bool} {k : Nat} (h : P k = false) : mkB P k = mkB P (k + 1) := by rw [mkB, if_neg (by rw [h]; decide)]
/-- Is it a partial order? -/
def paB (N : Nat) (xs : List Int) : Bool := rB N xs && (tB N xs && aB N xs)
theorem everyR2_c (n : Int) (xs : List Int) (hR : okRl n xs) : CallA Tryz.prog 257 [.agg [AI n, LI xs], .fn 258 [.rptr [AI n, LI xs]]] (.bool (rB n.toNat xs)) := by
 have hRel : RelOK n.toNat xs := hR.2.2.2
 have hb0 : 0 ≤ n ∧ n ≤ 30 ∧ (xs.length : Int) = n := ⟨hR.1, hR.2.1, hR.2.2.1⟩
 have hN8 : n.toNat ≤ 30 := by omega
 refine CallA.of Tryz.func257 rfl (by kernel_rfl) ?_
 refine R.go 13 (k15 (fun (x : Nat) => (⟨(frm 16 [(1, .fn 258 [.rptr [AI n, LI xs]]), (7, AI n), (8, AI (x : Int))]), []⟩ : St)) (fun (x : Nat) => (x ≤ n.toNat) ∧ (∀ i : Nat, i < x → tb (xs.getD i 0) i = true)) (fun (x : Nat) => n.toNat - x) 0 [1, 7, 8] (some []) ⟨(by omega), (by exact fun i hi => absurd hi (by omega))⟩ ?_)
 rintro x ⟨h3_1, h3_2⟩ R1 N2
 refine R.go 5 (k3 ((x : Int) < n) (fun c4 => ?_) (fun c4 => ?_))
 ·refine R.go 12 (k14 true (hasFlag1_c x n xs (by first | omega | (simp <;> omega))) rfl ?_)
  refine R.go 2 (k4 (band (shr64 (xs.getD x 0) (x : Int)) 1 = 1) (fun c5 => ?_) (fun c5 => ?_))
  ·exact R.go 4 (k17 (.bool false) (by first | (apply congrArg AV.bool; first | exact rB_no (i := x) (by omega) (bitF hRel hN8 (by omega) (by omega) (by assumption)) | exact (rB_iff.2 fun i hi => (‹∀ i : Nat, i < x → tb (xs.getD i 0) i = true›) i (by omega)).symm) | (exfalso; omega)))
  ·refine R.go 3 (k1 ((x : Int) + 1) ?_)
   exact R.go 2 (k16 R1 (N2 (x + 1) [1, 7, 8] none _ (by kernel_rfl) (by kernel_rfl) ⟨(by omega), (by exact below1 (by assumption) (bitT hRel hN8 (by omega) (by omega) (by assumption)))⟩ (by show (n.toNat - (x + 1)) < (n.toNat - x); omega)))
 ·exact R.go 5 (k17 (.bool true) (by first | (apply congrArg AV.bool; first | exact rB_no (i := x) (by omega) (bitF hRel hN8 (by omega) (by omega) (by assumption)) | exact (rB_iff.2 fun i hi => (‹∀ i : Nat, i < x → tb (xs.getD i 0) i = true›) i (by omega)).symm) | (exfalso; omega)))

theorem everyA2_c (n : Int) (xs : List Int) (zs : List Int) (hR : okRl n xs) (hz : zs = invA xs xs.length) : CallA Tryz.prog 257 [.agg [AI n, LI xs], .fn 267 [.rptr [AI n, LI xs], .rptr [LI zs]]] (.bool (aB n.toNat xs)) := by
 have hRel : RelOK n.toNat xs := hR.2.2.2
 have hb0 : 0 ≤ n ∧ n ≤ 30 ∧ (xs.length : Int) = n := ⟨hR.1, hR.2.1, hR.2.2.1⟩
 have hN8 : n.toNat ≤ 30 := by omega
 have hzl : zs.length = xs.length := by rw [hz]; exact invA_len _ _
 refine CallA.of Tryz.func257 rfl (by kernel_rfl) ?_
 refine R.go 13 (k15 (fun (x : Nat) => (⟨(frm 16 [(1, .fn 267 [.rptr [AI n, LI xs], .rptr [LI zs]]), (7, AI n), (8, AI (x : Int))]), []⟩ : St)) (fun (x : Nat) => (x ≤ n.toNat) ∧ (∀ i : Nat, i < x → AN xs zs i)) (fun (x : Nat) => n.toNat - x) 0 [1, 7, 8] (some []) ⟨(by omega), (by exact fun i hi => absurd hi (by omega))⟩ ?_)
 rintro x ⟨h3_1, h3_2⟩ R1 N2
 refine R.go 5 (k3 ((x : Int) < n) (fun c4 => ?_) (fun c4 => ?_))
 ·refine R.go 12 (k14 true (hasFlag7_c x n xs zs (by first | omega | (simp <;> omega)) (by first | omega | (simp <;> omega))) rfl ?_)
  refine R.go 2 (k4 (bnot (band (xs.getD x 0) (zs.getD x 0)) (shl64 1 (x : Int)) = 0) (fun c5 => ?_) (fun c5 => ?_))
  ·exact R.go 4 (k17 (.bool false) (by first | (apply congrArg AV.bool; first | exact aB_noN hRel hN8 hz (x := x) (by omega) (by assumption) | exact aB_of hRel hN8 hz fun i hi => (‹∀ i : Nat, i < x → AN xs zs i›) i (by omega)) | (exfalso; omega)))
  ·refine R.go 3 (k1 ((x : Int) + 1) ?_)
   exact R.go 2 (k16 R1 (N2 (x + 1) [1, 7, 8] none _ (by kernel_rfl) (by kernel_rfl) ⟨(by omega), (by exact below1 (by assumption) (show bnot (band (xs.getD x 0) (zs.getD x 0)) (shl64 1 (x : Int)) = 0 by assumption))⟩ (by show (n.toNat - (x + 1)) < (n.toNat - x); omega)))
 ·exact R.go 5 (k17 (.bool true) (by first | (apply congrArg AV.bool; first | exact aB_noN hRel hN8 hz (x := x) (by omega) (by assumption) | exact aB_of hRel hN8 hz fun i hi => (‹∀ i : Nat, i < x → AN xs zs i›) i (by omega)) | (exfalso; omega)))

theorem inverse2_c (n : Int) (xs : List Int) (hR : okRl n xs) : CallA Tryz.prog 56 [LI xs] (ownA eI 2 1 (invA xs xs.length)) := by
 have hRel : RelOK n.toNat xs := hR.2.2.2
 have hb0 : 0 ≤ n ∧ n ≤ 30 ∧ (xs.length : Int) = n := ⟨hR.1, hR.2.1, hR.2.2.1⟩
 have hN8 : n.toNat ≤ 30 := by omega
 refine CallA.of Tryz.func56 rfl (by kernel_rfl) ?_
 refine R.go 8 (k13 eI 0 2 8 xs.length xs.length rfl ?_)
 refine R.go 10 (k15 ((fun | (i, out) => (⟨(frm 36 [(3, .ref 0), (11, LI xs), (12, AI xs.length), (13, AI (i : Int))]), [rowA eI 2 1 out]⟩ : St) : Nat × (List Int) → St)) (fun | (i, out) => (i ≤ xs.length) ∧ (out = invA xs i)) (fun | (i, out) => xs.length - i) (0, (List.replicate xs.length 0)) [3, 11, 12, 13] none ⟨(by omega), (by rfl)⟩ ?_)
 rintro ⟨i, out⟩ ⟨h4_1, rfl⟩ R1 N2
 have hol := invA_len xs i
 have hmi := fun h : i < xs.length => hRel.2 i (by omega)
 have hml := mem_le (xs.getD i 0)
 refine R.go 5 (k3 ((i : Int) < (xs.length : Int)) (fun c5 => ?_) (fun c5 => ?_))
 ·refine R.go 6 (k8 eI xs 0 i (i : Int) rfl eI_len ?_)
  have hmm := inM_mono (n' := 61) (by omega) (hmi (by omega))
  refine R.go 7 (k14 true (membersOf_c (xs.getD i 0) (by first | assumption | exact inM61 (by omega) (by omega))).frz rfl ?_)
  refine R.go 4 (k15 ((fun | (t, o2) => (⟨(frm 36 [(3, .ref 0), (4, AI (i : Int)), (11, LI xs), (12, AI xs.length), (13, AI (i : Int)), (19, LI (mem (xs.getD i 0))), (20, AI ((mem (xs.getD i 0)).length)), (21, AI (t : Int))]), [rowA eI 2 1 o2]⟩ : St) : Nat × (List Int) → St)) (fun | (t, o2) => (t ≤ (mem (xs.getD i 0)).length) ∧ (o2 = invJ (invA xs i) i ((mem (xs.getD i 0)).take t))) (fun | (t, o2) => (mem (xs.getD i 0)).length - t) (0, (invA xs i)) [3, 4, 11, 12, 13, 19, 20, 21] none ⟨(by omega), (by rfl)⟩ ?_)
  rintro ⟨t, o2⟩ ⟨h9_1, rfl⟩ R6 N7
  have hol2 : (invJ (invA xs i) i ((mem (xs.getD i 0)).take t)).length = xs.length := by rw [invJ_len, hol]
  refine R.go 5 (k3 ((t : Int) < ((mem (xs.getD i 0)).length : Int)) (fun c10 => ?_) (fun c10 => ?_))
  ·refine R.go 5 (k8 eI (mem (xs.getD i 0)) 0 t (t : Int) rfl eI_len ?_)
   have hjr := mem_lt' (N := n.toNat) (by omega) (hmi (by omega)) (t := t) (by omega)
   refine R.go 6 (k9 0 1 (invJ (invA xs i) i ((mem (xs.getD i 0)).take t)).length ((((mem (xs.getD i 0)).getD t 0)).toNat) ((mem (xs.getD i 0)).getD t 0) ?_ (hj := by first | omega | (simp only [List.length_set]; omega) | (simp <;> omega)))
   refine k10 (invJ (invA xs i) i ((mem (xs.getD i 0)).take t)) ((((mem (xs.getD i 0)).getD t 0)).toNat) ?_ (hj := by first | omega | (simp only [List.length_set]; omega) | (simp <;> omega))
   refine R.go 1 (R.shl 1 (i : Int) (by kernel_rfl) (by omega) (by kernel_rfl) ?_)
   refine R.go 1 (k9 0 1 (invJ (invA xs i) i ((mem (xs.getD i 0)).take t)).length ((((mem (xs.getD i 0)).getD t 0)).toNat) ((mem (xs.getD i 0)).getD t 0) ?_ (hj := by first | omega | (simp only [List.length_set]; omega) | (simp <;> omega)))
   refine k11 0 2 (invJ (invA xs i) i ((mem (xs.getD i 0)).take t)) ((((mem (xs.getD i 0)).getD t 0)).toNat) (bor ((invJ (invA xs i) i ((mem (xs.getD i 0)).take t)).getD ((((mem (xs.getD i 0)).getD t 0)).toNat) 0) (shl64 1 (i : Int))) ?_ (hj := by first | omega | (simp only [List.length_set]; omega) | (simp <;> omega))
   refine R.go 3 (k1 ((t : Int) + 1) ?_)
   exact R.go 2 (k16 R6 (N7 (t + 1, (invJ (invA xs i) i ((mem (xs.getD i 0)).take t)).set ((((mem (xs.getD i 0)).getD t 0)).toNat) (bor ((invJ (invA xs i) i ((mem (xs.getD i 0)).take t)).getD ((((mem (xs.getD i 0)).getD t 0)).toNat) 0) (shl64 1 (i : Int)))) [3, 4, 11, 12, 13, 19, 20, 21] none _ (by kernel_rfl) (by kernel_rfl) ⟨(by omega), (by exact invJ_snoc (by omega))⟩ (by show ((mem (xs.getD i 0)).length - (t + 1)) < ((mem (xs.getD i 0)).length - t); omega)))
  ·refine R.go 3 (k1 ((i : Int) + 1) ?_)
   exact R.go 2 (k16 R1 (N2 (i + 1, invJ (invA xs i) i ((mem (xs.getD i 0)).take t)) [3, 11, 12, 13] none _ (by kernel_rfl) (by kernel_rfl) ⟨(by omega), (by rw [invA, List.take_of_length_le (by omega)])⟩ (by show (xs.length - (i + 1)) < (xs.length - i); omega)))
 ·exact R.go 6 (k17 (ownA eI 2 1 (invA xs i)) (by first | (rw [show i = xs.length by omega]) | (exfalso; omega)))

theorem inverse2G_c (n : Int) (xs zs : List Int) (hR : okRl n xs) (hz : zs = invA xs xs.length) : CallA Tryz.prog 56 [LI xs] (ownA eI 2 1 zs) := by rw [hz]; exact inverse2_c n xs hR

theorem hasFlagR2_c (n : Int) (xs : List Int) (hR : okRl n xs) : CallA Tryz.prog 149 [.agg [AI n, LI xs], AI 0] (.bool (rB n.toNat xs)) := by
 have hRel : RelOK n.toNat xs := hR.2.2.2
 have hb0 : 0 ≤ n ∧ n ≤ 30 ∧ (xs.length : Int) = n := ⟨hR.1, hR.2.1, hR.2.2.1⟩
 have hN8 : n.toNat ≤ 30 := by omega
 obtain ⟨zs, hz⟩ : ∃ zs, zs = invA xs xs.length := ⟨_, rfl⟩
 have hwl := wout_len xs xs.length
 refine CallA.of Tryz.func149 rfl (by kernel_rfl) ?_
 refine R.go 9 (k14 true (inverse2G_c n xs zs hR (by first | rfl | assumption)).frz rfl ?_)
 refine R.go 19 (k14 false (everyR2_c n xs hR) rfl ?_)
 exact R.go 2 (k17 (.bool (rB n.toNat xs)) (by rfl))

theorem hasFlagT2_c (n : Int) (xs : List Int) (hR : okRl n xs) : CallA Tryz.prog 149 [.agg [AI n, LI xs], AI 2] (.bool (tB n.toNat xs)) := by
 have hRel : RelOK n.toNat xs := hR.2.2.2
 have hb0 : 0 ≤ n ∧ n ≤ 30 ∧ (xs.length : Int) = n := ⟨hR.1, hR.2.1, hR.2.2.1⟩
 have hN8 : n.toNat ≤ 30 := by omega
 obtain ⟨zs, hz⟩ : ∃ zs, zs = invA xs xs.length := ⟨_, rfl⟩
 have hwl := wout_len xs xs.length
 refine CallA.of Tryz.func149 rfl (by kernel_rfl) ?_
 refine R.go 9 (k14 true (inverse2G_c n xs zs hR (by first | rfl | assumption)).frz rfl ?_)
 refine R.go 31 (k14 true (transitive_c xs (by first | omega | (simp <;> omega))).frz rfl ?_)
 refine R.go 2 (k14 true (equalI_c (wout xs xs.length) xs (by first | omega | (simp <;> omega))) rfl ?_)
 exact R.go 2 (k17 (.bool (decide ((wout xs xs.length) = xs))) (by first | (apply congrArg AV.bool; exact trW hRel hN8) | (exfalso; omega)))

theorem hasFlagA2_c (n : Int) (xs : List Int) (hR : okRl n xs) : CallA Tryz.prog 149 [.agg [AI n, LI xs], AI 8] (.bool (aB n.toNat xs)) := by
 have hRel : RelOK n.toNat xs := hR.2.2.2
 have hb0 : 0 ≤ n ∧ n ≤ 30 ∧ (xs.length : Int) = n := ⟨hR.1, hR.2.1, hR.2.2.1⟩
 have hN8 : n.toNat ≤ 30 := by omega
 obtain ⟨zs, hz⟩ : ∃ zs, zs = invA xs xs.length := ⟨_, rfl⟩
 have hwl := wout_len xs xs.length
 refine CallA.of Tryz.func149 rfl (by kernel_rfl) ?_
 refine R.go 9 (k14 true (inverse2G_c n xs zs hR (by first | rfl | assumption)).frz rfl ?_)
 refine R.go 67 (k14 false (everyA2_c n xs zs hR (by first | rfl | assumption)) rfl ?_)
 exact R.go 2 (k17 (.bool (aB n.toNat xs)) (by rfl))

theorem frameOf2_c (xs : List Int) : CallA Tryz.prog 91 [LI xs] (.agg [AI (xs.length : Int), LI xs]) := by
 refine CallA.of Tryz.func91 rfl (by kernel_rfl) ?_
 refine R.go 7 (k14 true (size_c xs) rfl ?_)
 exact R.go 4 (k17 (.agg [AI xs.length, LI xs]) (by first | (rfl) | (exfalso; omega)))

theorem greatest_c (m : Int) (bl : List Int) (hl : bl.length ≤ 30) (hm : InM bl.length m) : CallA Tryz.prog 54 [AI m, LI bl] (.tup [AI (lowV bl m), .bool (lowB bl m)]) := by
 have hml := mem_le m
 have hm61 := inM_mono (n' := 61) (by omega) hm
 have hmt := fun (t : Nat) (ht : t < (mem m).length) => mem_lt' (N := bl.length) (by omega) hm ht
 refine CallA.of Tryz.func54 rfl (by kernel_rfl) ?_
 refine R.go 9 (k14 true (membersOf_c m (by first | assumption | exact inM61 (by omega) (by omega))).frz rfl ?_)
 refine R.go 4 (k15 (fun (t : Nat) => (⟨(frm 23 [(0, AI m), (1, LI bl), (9, LI (mem m)), (10, AI ((mem m).length)), (11, AI (t : Int))]), []⟩ : St)) (fun (t : Nat) => (t ≤ (mem m).length) ∧ (∀ i : Nat, i < t → ¬ bnot m (bl.getD ((mem m).getD i 0).toNat 0) = 0)) (fun (t : Nat) => (mem m).length - t) 0 [0, 1, 9, 10, 11] none ⟨(by omega), (by exact fun i hi => absurd hi (by omega))⟩ ?_)
 rintro t ⟨h3_1, h3_2⟩ R1 N2
 refine R.go 5 (k3 ((t : Int) < ((mem m).length : Int)) (fun c4 => ?_) (fun c4 => ?_))
 ·have hmt1 := hmt t (by omega)
  refine R.go 5 (k8 eI (mem m) 0 t (t : Int) rfl eI_len ?_)
  refine R.go 8 (k8 eI bl 0 ((((mem m).getD t 0)).toNat) ((mem m).getD t 0) (by omega) eI_len ?_)
  refine R.go 1 (k14 true (within_c m (bl.getD ((((mem m).getD t 0)).toNat) 0)) rfl ?_)
  refine R.go 1 (k3 (bnot m (bl.getD ((((mem m).getD t 0)).toNat) 0) = 0) (fun c5 => ?_) (fun c5 => ?_))
  ·exact R.go 6 (k17 (.tup [AI ((mem m).getD t 0), .bool true]) (by first | (first | exact gr_tup (gr_yes (t := t) (by omega) hm (by omega) (by assumption) (by assumption)) (by omega) | exact gr_tup0 (gr_end (t := t) (by omega) hm (by omega) (by assumption))) | (exfalso; omega)))
  ·refine R.go 3 (k1 ((t : Int) + 1) ?_)
   exact R.go 2 (k16 R1 (N2 (t + 1) [0, 1, 9, 10, 11] none _ (by kernel_rfl) (by kernel_rfl) ⟨(by omega), (by exact below1 (by assumption) (by assumption))⟩ (by show ((mem m).length - (t + 1)) < ((mem m).length - t); omega)))
 ·exact R.go 6 (k17 (.tup [AI 0, .bool false]) (by first | (first | exact gr_tup (gr_yes (t := t) (by omega) hm (by omega) (by assumption) (by assumption)) (by omega) | exact gr_tup0 (gr_end (t := t) (by omega) hm (by omega) (by assumption))) | (exfalso; omega)))

end Go.Proofs.YtjllngcefoohpaaGreat
