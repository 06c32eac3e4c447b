/- Texts of the proof: W01, W02, SymX, SymZ, Sym1. -/
import Derived.RangeFuncNested
import Derived.Test.YtjllngcefoohpaaPartE

/-! Posets: what both packages take for one. -/
namespace Go.Proofs.Ytjllngcefoohpaa
open Go.RowKit Go.Abs

theorem rowN_ext {N : Nat} {X Y : List Int} (hx : X.length = N) (hy : Y.length = N) (h : ∀ j : Nat, j < N → X.getD j 0 = Y.getD j 0) : X = Y := by
  apply List.ext_getElem (by omega)
  intro j h1 h2
  have := h j (by omega)
  simpa [List.getD_eq_getElem?_getD, List.getElem?_eq_getElem h1, List.getElem?_eq_getElem h2] using this
def rB (N : Nat) (xs : List Int) : Bool := (List.range N).all fun i => tb (xs.getD i 0) i
def tB (N : Nat) (xs : List Int) : Bool := (List.range N).all fun i => (List.range N).all fun j => (List.range N).all fun k => !(tb (xs.getD i 0) j && tb (xs.getD j 0) k) || tb (xs.getD i 0) k
def AC (xs : List Int) (i j : Nat) : Prop := tb (xs.getD i 0) j = true → tb (xs.getD j 0) i = true → i = j
def aB (N : Nat) (xs : List Int) : Bool := (List.range N).all fun i => (List.range N).all fun j => !(tb (xs.getD i 0) j && tb (xs.getD j 0) i) || decide (i = j)
def okPo (n : Int) (xs : List Int) : Bool := okFr n xs && (rB n.toNat xs && (tB n.toNat xs && aB n.toNat xs))
theorem rB_iff {N : Nat} {xs : List Int} : rB N xs = true ↔ ∀ i : Nat, i < N → tb (xs.getD i 0) i = true := by simp [rB]
theorem tB_iff {N : Nat} {xs : List Int} : tB N xs = true ↔ ∀ i : Nat, i < N → ∀ j : Nat, j < N → ∀ k : Nat, k < N → tb (xs.getD i 0) j = true → tb (xs.getD j 0) k = true → tb (xs.getD i 0) k = true := by
  simp only [tB, List.all_eq_true, List.mem_range]
  constructor
  · intro h i hi j hj k hk h1 h2
    have := h i hi j hj k hk
    rw [h1, h2] at this
    simpa using this
  · intro h i hi j hj k hk
    cases h1 : tb (xs.getD i 0) j <;> cases h2 : tb (xs.getD j 0) k <;> simp
    have := h i hi j hj k hk h1 h2
    simpa using this
theorem aB_iff {N : Nat} {xs : List Int} : aB N xs = true ↔ ∀ i : Nat, i < N → ∀ j : Nat, j < N → AC xs i j := by
  simp only [aB, List.all_eq_true, List.mem_range]
  constructor
  · intro h i hi j hj h1 h2
    have := h i hi j hj
    rw [h1, h2] at this
    simpa using this
  · intro h i hi j hj
    have := h i hi j hj
    unfold AC at this
    cases h1 : tb (xs.getD i 0) j <;> cases h2 : tb (xs.getD j 0) i <;> simp
    exact this h1 h2
theorem rB_no {N : Nat} {xs : List Int} {i : Nat} (hi : i < N) (h : ¬ tb (xs.getD i 0) i = true) : false = rB N xs := by
  cases e : rB N xs with
  | false => rfl
  | true => exact absurd (rB_iff.1 e i hi) h
theorem aB_no {N : Nat} {xs : List Int} {i j : Nat} (hi : i < N) (hj : j < N) (h1 : tb (xs.getD i 0) j = true) (h2 : tb (xs.getD j 0) i = true) (h : ¬ (i : Int) = (j : Int)) : false = aB N xs := by
  cases e : aB N xs with
  | false => rfl
  | true => exact absurd (aB_iff.1 e i hi j hj h1 h2) (by omega)
theorem bitT {N : Nat} {xs : List Int} (hR : RelOK N xs) (hN : N ≤ 30) {x j : Nat} (hx : x < N) (hj : j ≤ 61) (h : band (shr64 (xs.getD x 0) (j : Int)) 1 = 1) : tb (xs.getD x 0) j = true := (has_tb (n := N) (by omega) (hR.2 x hx) hj).1 h
theorem bitF {N : Nat} {xs : List Int} (hR : RelOK N xs) (hN : N ≤ 30) {x j : Nat} (hx : x < N) (hj : j ≤ 61) (h : ¬ band (shr64 (xs.getD x 0) (j : Int)) 1 = 1) : ¬ tb (xs.getD x 0) j = true := fun e => h ((has_tb (n := N) (by omega) (hR.2 x hx) hj).2 e)
theorem below1 {P : Nat → Prop} {x : Nat} (h : ∀ i : Nat, i < x → P i) (hx : P x) : ∀ i : Nat, i < x + 1 → P i := fun i hi => by
  by_cases e : i = x
  · rw [e]; exact hx
  · exact h i (by omega)
def TR (xs : List Int) (i : Nat) : Prop := bnot (img xs (xs.getD i 0) xs.length) (xs.getD i 0) = 0
theorem TR_iff {N : Nat} {xs : List Int} (hR : RelOK N xs) (hN : N ≤ 30) {i : Nat} (hi : i < N) : TR xs i ↔ ∀ j k : Nat, tb (xs.getD i 0) j = true → tb (xs.getD j 0) k = true → tb (xs.getD i 0) k = true := by
  have hl := hR.1
  have h1 := img_ok (n := N) (by omega) hR (hR.2 i hi) xs.length (by omega)
  rw [TR, bnot_sub (n := N) (by omega) h1.1 (hR.2 i hi)]
  constructor
  · intro h j k a b
    exact h k ((h1.2 k).2 ⟨j, by have := tb_lt (hR.2 i hi) a; omega, a, b⟩)
  · intro h k a
    obtain ⟨j, _, b, c⟩ := (h1.2 k).1 a
    exact h j k b c
theorem tB_of {N : Nat} {xs : List Int} (hR : RelOK N xs) (hN : N ≤ 30) (h : ∀ i : Nat, i < N → TR xs i) : true = tB N xs := (tB_iff.2 fun i hi j _ k _ a b => (TR_iff hR hN hi).1 (h i hi) j k a b).symm
theorem tB_no {N : Nat} {xs : List Int} (hR : RelOK N xs) (hN : N ≤ 30) {i : Nat} (hi : i < N) (h : ¬ bnot (img xs (xs.getD i 0) xs.length) (xs.getD i 0) = 0) : false = tB N xs := by
  cases e : tB N xs with
  | false => rfl
  | true => exact absurd ((TR_iff hR hN hi).2 fun j k a b => tB_iff.1 e i hi j (tb_lt (hR.2 i hi) a) k (tb_lt (hR.2 j (tb_lt (hR.2 i hi) a)) b) a b) h
/-! By the closure. -/
theorem trW {N : Nat} {xs : List Int} (hR : RelOK N xs) (hN : N ≤ 30) : decide (wout xs xs.length = xs) = tB N xs := by
  have hl := hR.1
  obtain ⟨w1, w2⟩ := wout_ok (n := N) (by omega) hR N (Nat.le_refl _)
  rw [Bool.eq_iff_iff, decide_eq_true_iff, tB_iff, hl]
  constructor
  · intro e i hi j hj k hk a b
    have h1 := (w2 i hi k).2 (.via (.edge ⟨by omega, a⟩) hj (.edge ⟨by omega, b⟩))
    rwa [e] at h1
  · intro h
    refine rowN_ext w1.1 hl fun p hp => tb_ext (w1.2 p hp).1 (hR.2 p hp).1 fun k => ?_
    rw [Bool.eq_iff_iff, w2 p hp]
    constructor
    · intro hpt
      induction hpt with
      | edge e => exact e.2
      | @via i m k _ hm _ i1 i2 =>
        have a := i1 hp
        have b := i2 hm
        exact h i hp m hm k (tb_lt (hR.2 m hm) b) a b
    · intro a
      exact .edge ⟨by omega, a⟩
/-! The inverse. -/
def invJ (ys : List Int) (i : Nat) (L : List Int) : List Int := L.foldl (fun o j => o.set j.toNat (bor (o.getD j.toNat 0) (shl64 1 (i : Int)))) ys
def invA (xs : List Int) : Nat → List Int
  | 0 => List.replicate xs.length 0
  | i + 1 => invJ (invA xs i) i (mem (xs.getD i 0))
theorem invJ_snoc {ys : List Int} {i : Nat} {L : List Int} {t : Nat} (h : t < L.length) : (invJ ys i (L.take t)).set (L.getD t 0).toNat (bor ((invJ ys i (L.take t)).getD (L.getD t 0).toNat 0) (shl64 1 (i : Int))) = invJ ys i (L.take (t + 1)) := by
  rw [List.take_succ_eq_append_getElem h, invJ, invJ, List.foldl_append, List.getD_eq_getElem?_getD (l := L), List.getElem?_eq_getElem h]
  rfl
theorem invJ_len (i : Nat) : ∀ (L : List Int) (ys : List Int), (invJ ys i L).length = ys.length
  | [], _ => rfl
  | j :: L, ys => by
    have := invJ_len i L (ys.set j.toNat (bor (ys.getD j.toNat 0) (shl64 1 (i : Int))))
    rw [List.length_set] at this
    exact this
theorem invA_len (xs : List Int) : ∀ i : Nat, (invA xs i).length = xs.length
  | 0 => by simp [invA]
  | i + 1 => by rw [invA, invJ_len, invA_len xs i]
theorem invJ_ok {N i : Nat} (hN : N ≤ 30) (hi : i < N) : ∀ (L : List Int) (ys : List Int), RelOK N ys → (∀ j ∈ L, 0 ≤ j ∧ j < (N : Int)) → RelOK N (invJ ys i L) ∧ ∀ j : Nat, j < N → ∀ k, tb ((invJ ys i L).getD j 0) k = true ↔ tb (ys.getD j 0) k = true ∨ (k = i ∧ (j : Int) ∈ L)
  | [], ys, h, _ => ⟨h, fun j hj k => by simp [invJ]⟩
  | v :: L, ys, h, hL => by
    have hv := hL v (List.mem_cons_self ..)
    have ho := inM_one (n := N) (by omega) hi
    have hvl : v.toNat < ys.length := by rw [h.1]; omega
    have hb := inM_bor (n := N) (by omega) (h.2 v.toNat (by omega)) ho
    have h2 : RelOK N (ys.set v.toNat (bor (ys.getD v.toNat 0) (shl64 1 (i : Int)))) := ⟨by rw [List.length_set, h.1], fun j hj => by
      rw [getD_set_if _ _ _ _ _ hvl]
      split
      · exact hb
      · exact h.2 j hj⟩
    obtain ⟨i1, i2⟩ := invJ_ok hN hi L _ h2 fun j hj => hL j (List.mem_cons_of_mem _ hj)
    refine ⟨i1, fun j hj k => ?_⟩
    have e0 : invJ ys i (v :: L) = invJ (ys.set v.toNat (bor (ys.getD v.toNat 0) (shl64 1 (i : Int)))) i L := rfl
    rw [e0, i2 j hj, getD_set_if _ _ _ _ _ hvl, List.mem_cons]
    split
    · rename_i e
      rw [tb_bor (n := N) (by omega) (h.2 v.toNat (by omega)) ho, tb_one (by omega), Bool.or_eq_true, decide_eq_true_eq, e]
      have hjv : (j : Int) = v := by omega
      constructor
      · rintro ((a | a) | ⟨a, b⟩)
        · exact .inl a
        · exact .inr ⟨a.symm, .inl hjv⟩
        · exact .inr ⟨a, .inr b⟩
      · rintro (a | ⟨a, b | b⟩)
        · exact .inl (.inl a)
        · exact .inl (.inr a.symm)
        · exact .inr ⟨a, b⟩
    · rename_i e
      have hjv : ¬ (j : Int) = v := by omega
      constructor
      · rintro (a | ⟨a, b⟩)
        · exact .inl a
        · exact .inr ⟨a, .inr b⟩
      · rintro (a | ⟨a, b | b⟩)
        · exact .inl a
        · exact absurd b hjv
        · exact .inr ⟨a, b⟩
theorem mem_iff {N : Nat} {m : Int} (hN : N ≤ 61) (h : InM N m) {j : Nat} : (j : Int) ∈ mem m ↔ tb m j = true := by
  rw [mem, memN_mem]
  constructor
  · rintro ⟨k, _, h2, h3⟩
    rw [show j = k by omega]; exact h2
  · intro hb
    exact ⟨j, by have := tb_lt h hb; omega, hb, rfl⟩
theorem mem_lt {N : Nat} {m : Int} (hN : N ≤ 61) (h : InM N m) : ∀ v ∈ mem m, 0 ≤ v ∧ v < (N : Int) := fun v hv => by
  rw [mem, memN_mem] at hv
  obtain ⟨k, _, h2, rfl⟩ := hv
  have := tb_lt h h2
  omega
theorem mem_lt' {N : Nat} {m : Int} (hN : N ≤ 61) (h : InM N m) {t : Nat} (ht : t < (mem m).length) : 0 ≤ (mem m).getD t 0 ∧ (mem m).getD t 0 < (N : Int) := by
  refine mem_lt hN h _ ?_
  rw [List.getD_eq_getElem?_getD, List.getElem?_eq_getElem ht]
  exact List.getElem_mem _
theorem invA_ok {N : Nat} {xs : List Int} (hR : RelOK N xs) (hN : N ≤ 30) : ∀ i : Nat, i ≤ N → RelOK N (invA xs i) ∧ ∀ j : Nat, j < N → ∀ k, tb ((invA xs i).getD j 0) k = true ↔ k < i ∧ tb (xs.getD k 0) j = true
  | 0, _ => ⟨⟨by simp [invA, hR.1], fun j hj => by
      have : (invA xs 0).getD j 0 = 0 := by
        simp only [invA, List.getD_eq_getElem?_getD, List.getElem?_replicate]
        split <;> rfl
      rw [this]; exact inM_zero _⟩, fun j hj k => by
      have : (invA xs 0).getD j 0 = 0 := by
        simp only [invA, List.getD_eq_getElem?_getD, List.getElem?_replicate]
        split <;> rfl
      rw [this]; simp [tb_zero]⟩
  | i + 1, hi => by
    obtain ⟨h1, h2⟩ := invA_ok hR hN i (by omega)
    have hm := hR.2 i (by omega)
    obtain ⟨g1, g2⟩ := invJ_ok hN (show i < N by omega) (mem (xs.getD i 0)) (invA xs i) h1 (mem_lt (by omega) hm)
    refine ⟨g1, fun j hj k => ?_⟩
    rw [invA, g2 j hj, h2 j hj, mem_iff (by omega) hm]
    constructor
    · rintro (⟨a, b⟩ | ⟨rfl, b⟩)
      · exact ⟨by omega, b⟩
      · exact ⟨by omega, b⟩
    · rintro ⟨a, b⟩
      by_cases e : k = i
      · subst e; exact .inr ⟨rfl, b⟩
      · exact .inl ⟨by omega, b⟩
def AN (xs zs : List Int) (x : Nat) : Prop := bnot (band (xs.getD x 0) (zs.getD x 0)) (shl64 1 (x : Int)) = 0
theorem AN_iff {N : Nat} {xs zs : List Int} (hR : RelOK N xs) (hN : N ≤ 30) (hz : zs = invA xs xs.length) {x : Nat} (hx : x < N) : AN xs zs x ↔ ∀ j : Nat, j < N → AC xs x j := by
  obtain ⟨z1, z2⟩ := invA_ok hR hN N (Nat.le_refl _)
  rw [hR.1] at hz
  subst hz
  have hb := inM_band (n := N) (by omega) (hR.2 x hx) (z1.2 x hx)
  rw [AN, bnot_sub (n := N) (by omega) hb (inM_one (by omega) hx)]
  constructor
  · intro h j hj a b
    have := h j (by rw [tb_band (n := N) (by omega) (hR.2 x hx) (z1.2 x hx), a, (z2 x hx j).2 ⟨hj, b⟩]; rfl)
    rw [tb_one (by omega)] at this
    exact of_decide_eq_true this
  · intro h k hk
    rw [tb_band (n := N) (by omega) (hR.2 x hx) (z1.2 x hx), Bool.and_eq_true, z2 x hx] at hk
    rw [tb_one (by omega)]
    exact decide_eq_true (h k hk.2.1 hk.1 hk.2.2)
theorem aB_of {N : Nat} {xs zs : List Int} (hR : RelOK N xs) (hN : N ≤ 30) (hz : zs = invA xs xs.length) (h : ∀ i : Nat, i < N → AN xs zs i) : true = aB N xs := (aB_iff.2 fun i hi j hj => (AN_iff hR hN hz hi).1 (h i hi) j hj).symm
theorem aB_noN {N : Nat} {xs zs : List Int} (hR : RelOK N xs) (hN : N ≤ 30) (hz : zs = invA xs xs.length) {x : Nat} (hx : x < N) (h : ¬ bnot (band (xs.getD x 0) (zs.getD x 0)) (shl64 1 (x : Int)) = 0) : false = aB N xs := by
  cases e : aB N xs with
  | false => rfl
  | true => exact absurd ((AN_iff hR hN hz hx).2 fun j hj => aB_iff.1 e x hx j hj) h
theorem okPo_fr {n : Int} {xs : List Int} (h : okPo n xs = true) : okFr n xs = true := by
  simp only [okPo, Bool.and_eq_true] at h
  exact h.1
theorem okPo_0 {n : Int} {xs : List Int} (h : okFr n xs = false) : false = okPo n xs := by simp [okPo, h]
theorem okPo_1 {n : Int} {xs : List Int} (h : okFr n xs = true) (h1 : rB n.toNat xs = false) : false = okPo n xs := by simp [okPo, h, h1]
theorem okPo_2 {n : Int} {xs : List Int} (h : okFr n xs = true) (h1 : rB n.toNat xs = true) (h2 : tB n.toNat xs = false) : false = okPo n xs := by simp [okPo, h, h1, h2]
theorem okPo_3 {n : Int} {xs : List Int} (h : okFr n xs = true) (h1 : rB n.toNat xs = true) (h2 : tB n.toNat xs = true) : aB n.toNat xs = okPo n xs := by simp [okPo, h, h1, h2]

theorem flagR_c (n : Int) (xs : List Int) (hR : okFr n xs = true) : CallA Try.prog 36 [.agg [AI n, LI xs], AI 0] (.bool (rB n.toNat xs)) := by
  have hF := okFr_rel hR
  have hRel : RelOK n.toNat xs := hF.2.2.2
  have hb0 : 0 ≤ n ∧ n ≤ 8 ∧ (xs.length : Int) = n := ⟨hF.1, hF.2.1, hF.2.2.1⟩
  have hN8 : n.toNat ≤ 30 := by omega
  refine CallA.of Try.func36 rfl (by kernel_rfl) ?_
  refine R.go 20 (R.loop (fun (x : Nat) => (⟨(frm 175 [(1, AI 0), (5, AI n), (6, LI xs), (7, AI (x : Int))]), []⟩ : St)) (fun (x : Nat) => (x ≤ n.toNat) ∧ (∀ i : Nat, i < x → tb (xs.getD i 0) i = true)) (fun (x : Nat) => n.toNat - x) 0 [1, 5, 6, 7] (some []) (by kernel_rfl) (by kernel_rfl) (by kernel_rfl) ⟨(by omega), (by exact fun i hi => absurd hi (by omega))⟩ ?_)
  rintro x ⟨h3_1, h3_2⟩ R1 N2
  refine R.go 7 (R.cond ((x : Int) < n) (by kernel_rfl) (fun c4 => ?_) (fun c4 => ?_))
  · refine R.go 19 (R.idx eI xs 0 x (x : Int) (by kernel_rfl) rfl eI_len (by omega) (by kernel_rfl) ?_)
    refine R.go 2 (R.call true (l01Bit_c (xs.getD x 0) (x : Int) (by omega) (by omega)) (by kernel_rfl) rfl (by kernel_rfl) ?_)
    refine R.go 2 (R.condN (band (shr64 (xs.getD x 0) (x : Int)) 1 = 1) (by kernel_rfl) (fun c5 => ?_) (fun c5 => ?_))
    · exact R.go 4 (R.retE (.bool false) (by kernel_rfl) (by kernel_rfl) (by first | (apply congrArg AV.bool; first | exact rB_no (i := x) (by omega) (bitF hRel hN8 (by omega) (by omega) (by assumption)) | exact (rB_iff.2 fun i hi => (‹∀ i : Nat, i < x → tb (xs.getD i 0) i = true›) i (by omega)).symm) | (exfalso; omega)))
    · refine R.go 7 (R.loop (fun (y : Nat) => (⟨(frm 175 [(1, AI 0), (5, AI n), (6, LI xs), (7, AI (x : Int)), (8, AI (y : Int))]), []⟩ : St)) (fun (y : Nat) => y ≤ n.toNat) (fun (y : Nat) => n.toNat - y) 0 [1, 5, 6, 7, 8] none (by kernel_rfl) (by kernel_rfl) (by kernel_rfl) (by omega) ?_)
      rintro y h8_1 R6 N7
      refine R.go 7 (R.cond ((y : Int) < n) (by kernel_rfl) (fun c9 => ?_) (fun c9 => ?_))
      · refine R.go 8 (R.idx eI xs 0 x (x : Int) (by kernel_rfl) rfl eI_len (by omega) (by kernel_rfl) ?_)
        refine R.go 2 (R.call true (l01Bit_c (xs.getD x 0) (y : Int) (by omega) (by omega)) (by kernel_rfl) rfl (by kernel_rfl) ?_)
        refine R.go 2 (R.condN (band (shr64 (xs.getD x 0) (y : Int)) 1 = 1) (by kernel_rfl) (fun c10 => ?_) (fun c10 => ?_))
        · refine R.go 3 (R.ar ((y : Int) + 1) (by kernel_rfl) (by omega) (by omega) (by kernel_rfl) ?_)
          exact R.go 2 (R.stop R6 (by kernel_rfl) (N7 (y + 1) [1, 5, 6, 7, 8] none _ (by kernel_rfl) (by kernel_rfl) (by omega) (by show (n.toNat - (y + 1)) < (n.toNat - y); omega)))
        · refine R.go 38 (R.loop (fun (z : Nat) => (⟨(frm 175 [(1, AI 0), (5, AI n), (6, LI xs), (7, AI (x : Int)), (8, AI (y : Int)), (9, AI (z : Int))]), []⟩ : St)) (fun (z : Nat) => z ≤ n.toNat) (fun (z : Nat) => n.toNat - z) 0 [1, 5, 6, 7, 8, 9] none (by kernel_rfl) (by kernel_rfl) (by kernel_rfl) (by omega) ?_)
          rintro z h13_1 R11 N12
          refine R.go 7 (R.cond ((z : Int) < n) (by kernel_rfl) (fun c14 => ?_) (fun c14 => ?_))
          · refine R.go 8 (R.idx eI xs 0 x (x : Int) (by kernel_rfl) rfl eI_len (by omega) (by kernel_rfl) ?_)
            refine R.go 2 (R.call true (l01Bit_c (xs.getD x 0) (z : Int) (by omega) (by omega)) (by kernel_rfl) rfl (by kernel_rfl) ?_)
            refine R.go 2 (R.condN (band (shr64 (xs.getD x 0) (z : Int)) 1 = 1) (by kernel_rfl) (fun c15 => ?_) (fun c15 => ?_))
            · refine R.go 3 (R.ar ((z : Int) + 1) (by kernel_rfl) (by omega) (by omega) (by kernel_rfl) ?_)
              exact R.go 2 (R.stop R11 (by kernel_rfl) (N12 (z + 1) [1, 5, 6, 7, 8, 9] none _ (by kernel_rfl) (by kernel_rfl) (by omega) (by show (n.toNat - (z + 1)) < (n.toNat - z); omega)))
            · refine R.go 45 (R.ar ((z : Int) + 1) (by kernel_rfl) (by omega) (by omega) (by kernel_rfl) ?_)
              exact R.go 2 (R.stop R11 (by kernel_rfl) (N12 (z + 1) [1, 5, 6, 7, 8, 9] none _ (by kernel_rfl) (by kernel_rfl) (by omega) (by show (n.toNat - (z + 1)) < (n.toNat - z); omega)))
          · refine R.go 4 (R.ar ((y : Int) + 1) (by kernel_rfl) (by omega) (by omega) (by kernel_rfl) ?_)
            exact R.go 2 (R.stop R6 (by kernel_rfl) (N7 (y + 1) [1, 5, 6, 7, 8] none _ (by kernel_rfl) (by kernel_rfl) (by omega) (by show (n.toNat - (y + 1)) < (n.toNat - y); omega)))
      · refine R.go 4 (R.ar ((x : Int) + 1) (by kernel_rfl) (by omega) (by omega) (by kernel_rfl) ?_)
        exact R.go 2 (R.stop R1 (by kernel_rfl) (N2 (x + 1) [1, 5, 6, 7] none _ (by kernel_rfl) (by kernel_rfl) ⟨(by omega), (by exact below1 (by assumption) (bitT hRel hN8 (by omega) (by omega) (by assumption)))⟩ (by show (n.toNat - (x + 1)) < (n.toNat - x); omega)))
  · exact R.go 5 (R.retE (.bool true) (by kernel_rfl) (by kernel_rfl) (by first | (apply congrArg AV.bool; first | exact rB_no (i := x) (by omega) (bitF hRel hN8 (by omega) (by omega) (by assumption)) | exact (rB_iff.2 fun i hi => (‹∀ i : Nat, i < x → tb (xs.getD i 0) i = true›) i (by omega)).symm) | (exfalso; omega)))

theorem flagT_c (n : Int) (xs : List Int) (hR : okFr n xs = true) : CallA Try.prog 36 [.agg [AI n, LI xs], AI 2] (.bool (tB n.toNat xs)) := by
  have hF := okFr_rel hR
  have hRel : RelOK n.toNat xs := hF.2.2.2
  have hb0 : 0 ≤ n ∧ n ≤ 8 ∧ (xs.length : Int) = n := ⟨hF.1, hF.2.1, hF.2.2.1⟩
  have hN8 : n.toNat ≤ 30 := by omega
  refine CallA.of Try.func36 rfl (by kernel_rfl) ?_
  refine R.go 20 (R.loop (fun (x : Nat) => (⟨(frm 175 [(1, AI 2), (5, AI n), (6, LI xs), (7, AI (x : Int))]), []⟩ : St)) (fun (x : Nat) => (x ≤ n.toNat) ∧ (∀ i : Nat, i < x → TR xs i)) (fun (x : Nat) => n.toNat - x) 0 [1, 5, 6, 7] (some []) (by kernel_rfl) (by kernel_rfl) (by kernel_rfl) ⟨(by omega), (by exact fun i hi => absurd hi (by omega))⟩ ?_)
  rintro x ⟨h3_1, h3_2⟩ R1 N2
  refine R.go 7 (R.cond ((x : Int) < n) (by kernel_rfl) (fun c4 => ?_) (fun c4 => ?_))
  · refine R.go 32 (R.idx eI xs 0 x (x : Int) (by kernel_rfl) rfl eI_len (by omega) (by kernel_rfl) ?_)
    refine R.go 1 (R.call true (l01Image_c xs (xs.getD x 0) (by first | omega | (simp <;> omega))) (by kernel_rfl) rfl (by kernel_rfl) ?_)
    refine R.go 2 (R.idx eI xs 0 x (x : Int) (by kernel_rfl) rfl eI_len (by omega) (by kernel_rfl) ?_)
    refine R.go 4 (R.condN ((bnot (img xs (xs.getD x 0) xs.length) (xs.getD x 0)) = 0) (by kernel_rfl) (fun c5 => ?_) (fun c5 => ?_))
    · exact R.go 4 (R.retE (.bool false) (by kernel_rfl) (by kernel_rfl) (by first | (apply congrArg AV.bool; first | exact tB_no hRel hN8 (i := x) (by omega) (by assumption) | exact tB_of hRel hN8 fun i hi => (‹∀ i : Nat, i < x → TR xs i›) i (by omega)) | (exfalso; omega)))
    · refine R.go 7 (R.loop (fun (y : Nat) => (⟨(frm 175 [(1, AI 2), (5, AI n), (6, LI xs), (7, AI (x : Int)), (8, AI (y : Int))]), []⟩ : St)) (fun (y : Nat) => y ≤ n.toNat) (fun (y : Nat) => n.toNat - y) 0 [1, 5, 6, 7, 8] none (by kernel_rfl) (by kernel_rfl) (by kernel_rfl) (by omega) ?_)
      rintro y h8_1 R6 N7
      refine R.go 7 (R.cond ((y : Int) < n) (by kernel_rfl) (fun c9 => ?_) (fun c9 => ?_))
      · refine R.go 8 (R.idx eI xs 0 x (x : Int) (by kernel_rfl) rfl eI_len (by omega) (by kernel_rfl) ?_)
        refine R.go 2 (R.call true (l01Bit_c (xs.getD x 0) (y : Int) (by omega) (by omega)) (by kernel_rfl) rfl (by kernel_rfl) ?_)
        refine R.go 2 (R.condN (band (shr64 (xs.getD x 0) (y : Int)) 1 = 1) (by kernel_rfl) (fun c10 => ?_) (fun c10 => ?_))
        · refine R.go 3 (R.ar ((y : Int) + 1) (by kernel_rfl) (by omega) (by omega) (by kernel_rfl) ?_)
          exact R.go 2 (R.stop R6 (by kernel_rfl) (N7 (y + 1) [1, 5, 6, 7, 8] none _ (by kernel_rfl) (by kernel_rfl) (by omega) (by show (n.toNat - (y + 1)) < (n.toNat - y); omega)))
        · refine R.go 38 (R.loop (fun (z : Nat) => (⟨(frm 175 [(1, AI 2), (5, AI n), (6, LI xs), (7, AI (x : Int)), (8, AI (y : Int)), (9, AI (z : Int))]), []⟩ : St)) (fun (z : Nat) => z ≤ n.toNat) (fun (z : Nat) => n.toNat - z) 0 [1, 5, 6, 7, 8, 9] none (by kernel_rfl) (by kernel_rfl) (by kernel_rfl) (by omega) ?_)
          rintro z h13_1 R11 N12
          refine R.go 7 (R.cond ((z : Int) < n) (by kernel_rfl) (fun c14 => ?_) (fun c14 => ?_))
          · refine R.go 8 (R.idx eI xs 0 x (x : Int) (by kernel_rfl) rfl eI_len (by omega) (by kernel_rfl) ?_)
            refine R.go 2 (R.call true (l01Bit_c (xs.getD x 0) (z : Int) (by omega) (by omega)) (by kernel_rfl) rfl (by kernel_rfl) ?_)
            refine R.go 2 (R.condN (band (shr64 (xs.getD x 0) (z : Int)) 1 = 1) (by kernel_rfl) (fun c15 => ?_) (fun c15 => ?_))
            · refine R.go 3 (R.ar ((z : Int) + 1) (by kernel_rfl) (by omega) (by omega) (by kernel_rfl) ?_)
              exact R.go 2 (R.stop R11 (by kernel_rfl) (N12 (z + 1) [1, 5, 6, 7, 8, 9] none _ (by kernel_rfl) (by kernel_rfl) (by omega) (by show (n.toNat - (z + 1)) < (n.toNat - z); omega)))
            · refine R.go 45 (R.ar ((z : Int) + 1) (by kernel_rfl) (by omega) (by omega) (by kernel_rfl) ?_)
              exact R.go 2 (R.stop R11 (by kernel_rfl) (N12 (z + 1) [1, 5, 6, 7, 8, 9] none _ (by kernel_rfl) (by kernel_rfl) (by omega) (by show (n.toNat - (z + 1)) < (n.toNat - z); omega)))
          · refine R.go 4 (R.ar ((y : Int) + 1) (by kernel_rfl) (by omega) (by omega) (by kernel_rfl) ?_)
            exact R.go 2 (R.stop R6 (by kernel_rfl) (N7 (y + 1) [1, 5, 6, 7, 8] none _ (by kernel_rfl) (by kernel_rfl) (by omega) (by show (n.toNat - (y + 1)) < (n.toNat - y); omega)))
      · refine R.go 4 (R.ar ((x : Int) + 1) (by kernel_rfl) (by omega) (by omega) (by kernel_rfl) ?_)
        exact R.go 2 (R.stop R1 (by kernel_rfl) (N2 (x + 1) [1, 5, 6, 7] none _ (by kernel_rfl) (by kernel_rfl) ⟨(by omega), (by exact below1 (by assumption) (show bnot (img xs (xs.getD x 0) xs.length) (xs.getD x 0) = 0 by assumption))⟩ (by show (n.toNat - (x + 1)) < (n.toNat - x); omega)))
  · exact R.go 5 (R.retE (.bool true) (by kernel_rfl) (by kernel_rfl) (by first | (apply congrArg AV.bool; first | exact tB_no hRel hN8 (i := x) (by omega) (by assumption) | exact tB_of hRel hN8 fun i hi => (‹∀ i : Nat, i < x → TR xs i›) i (by omega)) | (exfalso; omega)))

theorem flagA_c (n : Int) (xs : List Int) (hR : okFr n xs = true) : CallA Try.prog 36 [.agg [AI n, LI xs], AI 8] (.bool (aB n.toNat xs)) := by
  have hF := okFr_rel hR
  have hRel : RelOK n.toNat xs := hF.2.2.2
  have hb0 : 0 ≤ n ∧ n ≤ 8 ∧ (xs.length : Int) = n := ⟨hF.1, hF.2.1, hF.2.2.1⟩
  have hN8 : n.toNat ≤ 30 := by omega
  refine CallA.of Try.func36 rfl (by kernel_rfl) ?_
  refine R.go 20 (R.loop (fun (x : Nat) => (⟨(frm 175 [(1, AI 8), (5, AI n), (6, LI xs), (7, AI (x : Int))]), []⟩ : St)) (fun (x : Nat) => (x ≤ n.toNat) ∧ (∀ i : Nat, i < x → ∀ j : Nat, j < n.toNat → AC xs i j)) (fun (x : Nat) => n.toNat - x) 0 [1, 5, 6, 7] (some []) (by kernel_rfl) (by kernel_rfl) (by kernel_rfl) ⟨(by omega), (by exact fun i hi => absurd hi (by omega))⟩ ?_)
  rintro x ⟨h3_1, h3_2⟩ R1 N2
  refine R.go 7 (R.cond ((x : Int) < n) (by kernel_rfl) (fun c4 => ?_) (fun c4 => ?_))
  · refine R.go 46 (R.loop (fun (y : Nat) => (⟨(frm 175 [(1, AI 8), (5, AI n), (6, LI xs), (7, AI (x : Int)), (8, AI (y : Int))]), []⟩ : St)) (fun (y : Nat) => (y ≤ n.toNat) ∧ (∀ j : Nat, j < y → AC xs x j)) (fun (y : Nat) => n.toNat - y) 0 [1, 5, 6, 7, 8] none (by kernel_rfl) (by kernel_rfl) (by kernel_rfl) ⟨(by omega), (by exact fun j hj => absurd hj (by omega))⟩ ?_)
    rintro y ⟨h7_1, h7_2⟩ R5 N6
    refine R.go 7 (R.cond ((y : Int) < n) (by kernel_rfl) (fun c8 => ?_) (fun c8 => ?_))
    · refine R.go 8 (R.idx eI xs 0 x (x : Int) (by kernel_rfl) rfl eI_len (by omega) (by kernel_rfl) ?_)
      refine R.go 2 (R.call true (l01Bit_c (xs.getD x 0) (y : Int) (by omega) (by omega)) (by kernel_rfl) rfl (by kernel_rfl) ?_)
      refine R.go 2 (R.condN (band (shr64 (xs.getD x 0) (y : Int)) 1 = 1) (by kernel_rfl) (fun c9 => ?_) (fun c9 => ?_))
      · refine R.go 3 (R.ar ((y : Int) + 1) (by kernel_rfl) (by omega) (by omega) (by kernel_rfl) ?_)
        exact R.go 2 (R.stop R5 (by kernel_rfl) (N6 (y + 1) [1, 5, 6, 7, 8] none _ (by kernel_rfl) (by kernel_rfl) ⟨(by omega), (by exact below1 (by assumption) (by unfold AC; first | (refine fun a => absurd a (bitF hRel hN8 ?_ ?_ ?_) <;> first | omega | assumption) | (refine fun _ b => absurd b (bitF hRel hN8 ?_ ?_ ?_) <;> first | omega | assumption) | (intro _ _; omega)))⟩ (by show (n.toNat - (y + 1)) < (n.toNat - y); omega)))
      · refine R.go 31 ?_
        by_cases c10 : (x : Int) = (y : Int)
        · refine R.skp (!decide ((x : Int) = (y : Int))) true (by kernel_rfl) (nF c10) (by kernel_rfl) ?_
          refine R.skp (!decide ((x : Int) = (y : Int))) true (by kernel_rfl) (nF c10) (by kernel_rfl) ?_
          refine R.skp (!decide ((x : Int) = (y : Int))) true (by kernel_rfl) (nF c10) (by kernel_rfl) ?_
          refine R.skp (!decide ((x : Int) = (y : Int))) true (by kernel_rfl) (nF c10) (by kernel_rfl) ?_
          refine R.skp (!decide ((x : Int) = (y : Int))) true (by kernel_rfl) (nF c10) (by kernel_rfl) ?_
          refine R.skp (!decide ((x : Int) = (y : Int))) true (by kernel_rfl) (nF c10) (by kernel_rfl) ?_
          refine R.pick (!decide ((x : Int) = (y : Int))) false (by kernel_rfl) (nF c10) (by kernel_rfl) ?_
          refine R.go 9 (R.loop (fun (z : Nat) => (⟨(frm 175 [(1, AI 8), (5, AI n), (6, LI xs), (7, AI (x : Int)), (8, AI (y : Int)), (9, AI (z : Int))]), []⟩ : St)) (fun (z : Nat) => z ≤ n.toNat) (fun (z : Nat) => n.toNat - z) 0 [1, 5, 6, 7, 8, 9] none (by kernel_rfl) (by kernel_rfl) (by kernel_rfl) (by omega) ?_)
          rintro z h13_1 R11 N12
          refine R.go 7 (R.cond ((z : Int) < n) (by kernel_rfl) (fun c14 => ?_) (fun c14 => ?_))
          · refine R.go 8 (R.idx eI xs 0 x (x : Int) (by kernel_rfl) rfl eI_len (by omega) (by kernel_rfl) ?_)
            refine R.go 2 (R.call true (l01Bit_c (xs.getD x 0) (z : Int) (by omega) (by omega)) (by kernel_rfl) rfl (by kernel_rfl) ?_)
            refine R.go 2 (R.condN (band (shr64 (xs.getD x 0) (z : Int)) 1 = 1) (by kernel_rfl) (fun c15 => ?_) (fun c15 => ?_))
            · refine R.go 3 (R.ar ((z : Int) + 1) (by kernel_rfl) (by omega) (by omega) (by kernel_rfl) ?_)
              exact R.go 2 (R.stop R11 (by kernel_rfl) (N12 (z + 1) [1, 5, 6, 7, 8, 9] none _ (by kernel_rfl) (by kernel_rfl) (by omega) (by show (n.toNat - (z + 1)) < (n.toNat - z); omega)))
            · refine R.go 45 (R.ar ((z : Int) + 1) (by kernel_rfl) (by omega) (by omega) (by kernel_rfl) ?_)
              exact R.go 2 (R.stop R11 (by kernel_rfl) (N12 (z + 1) [1, 5, 6, 7, 8, 9] none _ (by kernel_rfl) (by kernel_rfl) (by omega) (by show (n.toNat - (z + 1)) < (n.toNat - z); omega)))
          · refine R.go 4 (R.ar ((y : Int) + 1) (by kernel_rfl) (by omega) (by omega) (by kernel_rfl) ?_)
            exact R.go 2 (R.stop R5 (by kernel_rfl) (N6 (y + 1) [1, 5, 6, 7, 8] none _ (by kernel_rfl) (by kernel_rfl) ⟨(by omega), (by exact below1 (by assumption) (by unfold AC; first | (refine fun a => absurd a (bitF hRel hN8 ?_ ?_ ?_) <;> first | omega | assumption) | (refine fun _ b => absurd b (bitF hRel hN8 ?_ ?_ ?_) <;> first | omega | assumption) | (intro _ _; omega)))⟩ (by show (n.toNat - (y + 1)) < (n.toNat - y); omega)))
        · refine R.want (!decide ((x : Int) = (y : Int))) true (by kernel_rfl) (nT c10) ?_
          refine R.go 1 (R.want (!decide ((x : Int) = (y : Int))) true (by kernel_rfl) (nT c10) ?_)
          refine R.go 1 (R.want (!decide ((x : Int) = (y : Int))) true (by kernel_rfl) (nT c10) ?_)
          refine R.idx eI xs 0 y (y : Int) (by kernel_rfl) rfl eI_len (by omega) (by kernel_rfl) ?_
          refine R.want (!decide ((x : Int) = (y : Int))) true (by kernel_rfl) (nT c10) ?_
          refine R.go 1 (R.want (!decide ((x : Int) = (y : Int))) true (by kernel_rfl) (nT c10) ?_)
          refine R.go 1 (R.want (!decide ((x : Int) = (y : Int))) true (by kernel_rfl) (nT c10) ?_)
          refine R.call true (l01Bit_c (xs.getD y 0) (x : Int) (by omega) (by omega)) (by kernel_rfl) rfl (by kernel_rfl) ?_
          refine R.pick (!decide ((x : Int) = (y : Int))) true (by kernel_rfl) (nT c10) (by kernel_rfl) ?_
          refine R.go 1 (R.cond (band (shr64 (xs.getD y 0) (x : Int)) 1 = 1) (by kernel_rfl) (fun c16 => ?_) (fun c16 => ?_))
          · exact R.go 4 (R.retE (.bool false) (by kernel_rfl) (by kernel_rfl) (by first | (apply congrArg AV.bool; first | exact aB_no (i := x) (j := y) (by omega) (by omega) (bitT hRel hN8 (by omega) (by omega) (by assumption)) (bitT hRel hN8 (by omega) (by omega) (by assumption)) (by assumption) | exact (aB_iff.2 fun i hi => (‹∀ i : Nat, i < x → ∀ j : Nat, j < n.toNat → AC xs i j›) i (by omega)).symm) | (exfalso; omega)))
          · refine R.go 7 (R.loop (fun (z : Nat) => (⟨(frm 175 [(1, AI 8), (5, AI n), (6, LI xs), (7, AI (x : Int)), (8, AI (y : Int)), (9, AI (z : Int))]), []⟩ : St)) (fun (z : Nat) => z ≤ n.toNat) (fun (z : Nat) => n.toNat - z) 0 [1, 5, 6, 7, 8, 9] none (by kernel_rfl) (by kernel_rfl) (by kernel_rfl) (by omega) ?_)
            rintro z h19_1 R17 N18
            refine R.go 7 (R.cond ((z : Int) < n) (by kernel_rfl) (fun c20 => ?_) (fun c20 => ?_))
            · refine R.go 8 (R.idx eI xs 0 x (x : Int) (by kernel_rfl) rfl eI_len (by omega) (by kernel_rfl) ?_)
              refine R.go 2 (R.call true (l01Bit_c (xs.getD x 0) (z : Int) (by omega) (by omega)) (by kernel_rfl) rfl (by kernel_rfl) ?_)
              refine R.go 2 (R.condN (band (shr64 (xs.getD x 0) (z : Int)) 1 = 1) (by kernel_rfl) (fun c21 => ?_) (fun c21 => ?_))
              · refine R.go 3 (R.ar ((z : Int) + 1) (by kernel_rfl) (by omega) (by omega) (by kernel_rfl) ?_)
                exact R.go 2 (R.stop R17 (by kernel_rfl) (N18 (z + 1) [1, 5, 6, 7, 8, 9] none _ (by kernel_rfl) (by kernel_rfl) (by omega) (by show (n.toNat - (z + 1)) < (n.toNat - z); omega)))
              · refine R.go 45 (R.ar ((z : Int) + 1) (by kernel_rfl) (by omega) (by omega) (by kernel_rfl) ?_)
                exact R.go 2 (R.stop R17 (by kernel_rfl) (N18 (z + 1) [1, 5, 6, 7, 8, 9] none _ (by kernel_rfl) (by kernel_rfl) (by omega) (by show (n.toNat - (z + 1)) < (n.toNat - z); omega)))
            · refine R.go 4 (R.ar ((y : Int) + 1) (by kernel_rfl) (by omega) (by omega) (by kernel_rfl) ?_)
              exact R.go 2 (R.stop R5 (by kernel_rfl) (N6 (y + 1) [1, 5, 6, 7, 8] none _ (by kernel_rfl) (by kernel_rfl) ⟨(by omega), (by exact below1 (by assumption) (by unfold AC; first | (refine fun a => absurd a (bitF hRel hN8 ?_ ?_ ?_) <;> first | omega | assumption) | (refine fun _ b => absurd b (bitF hRel hN8 ?_ ?_ ?_) <;> first | omega | assumption) | (intro _ _; omega)))⟩ (by show (n.toNat - (y + 1)) < (n.toNat - y); omega)))
    · refine R.go 4 (R.ar ((x : Int) + 1) (by kernel_rfl) (by omega) (by omega) (by kernel_rfl) ?_)
      exact R.go 2 (R.stop R1 (by kernel_rfl) (N2 (x + 1) [1, 5, 6, 7] none _ (by kernel_rfl) (by kernel_rfl) ⟨(by omega), (by exact below1 (by assumption) (fun j hj => (‹∀ j : Nat, j < y → AC xs x j›) j (by omega)))⟩ (by show (n.toNat - (x + 1)) < (n.toNat - x); omega)))
  · exact R.go 5 (R.retE (.bool true) (by kernel_rfl) (by kernel_rfl) (by first | (apply congrArg AV.bool; first | exact aB_no (i := x) (j := y) (by omega) (by omega) (bitT hRel hN8 (by omega) (by omega) (by assumption)) (bitT hRel hN8 (by omega) (by omega) (by assumption)) (by assumption) | exact (aB_iff.2 fun i hi => (‹∀ i : Nat, i < x → ∀ j : Nat, j < n.toNat → AC xs i j›) i (by omega)).symm) | (exfalso; omega)))

theorem sees_c (n : Int) (xs : List Int) (x : Nat) (y : Int) (hx : x < xs.length) (h0 : 0 ≤ y) : CallA Try.prog 67 [.agg [AI n, LI xs], AI (x : Int), AI y] (.bool (decide (band (shr64 (xs.getD x 0) y) 1 = 1))) := by
  refine CallA.of Try.func67 rfl (by kernel_rfl) ?_
  refine R.go 10 (R.idx eI xs 0 x (x : Int) (by kernel_rfl) rfl eI_len (by omega) (by kernel_rfl) ?_)
  refine R.go 2 (R.call true (has_c (xs.getD x 0) y h0) (by kernel_rfl) rfl (by kernel_rfl) ?_)
  exact R.go 2 (R.retE (.bool (decide (band (shr64 (xs.getD x 0) y) 1 = 1))) (by kernel_rfl) (by kernel_rfl) (by rfl))

theorem hasFlag1_c (x : Nat) (n : Int) (xs : List Int) (hx : x < xs.length) : CallA Try.prog 66 [AI (x : Int), .rptr [AI n, LI xs]] (.bool (decide (band (shr64 (xs.getD x 0) (x : Int)) 1 = 1))) := by
  refine CallA.of Try.func66 rfl (by kernel_rfl) ?_
  refine R.go 9 (R.call true (sees_c n xs x (x : Int) hx (by omega)) (by kernel_rfl) rfl (by kernel_rfl) ?_)
  exact R.go 2 (R.retE (.bool (decide (band (shr64 (xs.getD x 0) (x : Int)) 1 = 1))) (by kernel_rfl) (by kernel_rfl) (by rfl))

theorem hasFlag7_c (x : Nat) (n : Int) (xs : List Int) (zs : List Int) (hx : x < xs.length) (hz : x < zs.length) : CallA Try.prog 77 [AI (x : Int), .rptr [AI n, LI xs], .rptr [LI zs]] (.bool (decide (bnot (band (xs.getD x 0) (zs.getD x 0)) (shl64 1 (x : Int)) = 0))) := by
  refine CallA.of Try.func77 rfl (by kernel_rfl) ?_
  refine R.go 9 (R.idx eI xs 0 x (x : Int) (by kernel_rfl) rfl eI_len (by omega) (by kernel_rfl) ?_)
  refine R.go 3 (R.idx eI zs 0 x (x : Int) (by kernel_rfl) rfl eI_len (by omega) (by kernel_rfl) ?_)
  refine R.go 3 (R.shl 1 (x : Int) (by kernel_rfl) (by omega) (by kernel_rfl) ?_)
  refine R.call true (within_c (band (xs.getD x 0) (zs.getD x 0)) (shl64 1 (x : Int))) (by kernel_rfl) rfl (by kernel_rfl) ?_
  exact R.go 2 (R.retE (.bool (decide (bnot (band (xs.getD x 0) (zs.getD x 0)) (shl64 1 (x : Int)) = 0))) (by kernel_rfl) (by kernel_rfl) (by rfl))

theorem everyR_c (n : Int) (xs : List Int) (hR : okFr n xs = true) : CallA Try.prog 65 [.agg [AI n, LI xs], .fn 66 [.rptr [AI n, LI xs]]] (.bool (rB n.toNat xs)) := by
  have hF := okFr_rel hR
  have hRel : RelOK n.toNat xs := hF.2.2.2
  have hb0 : 0 ≤ n ∧ n ≤ 8 ∧ (xs.length : Int) = n := ⟨hF.1, hF.2.1, hF.2.2.1⟩
  have hN8 : n.toNat ≤ 30 := by omega
  refine CallA.of Try.func65 rfl (by kernel_rfl) ?_
  refine R.go 13 (R.loop (fun (x : Nat) => (⟨(frm 16 [(1, .fn 66 [.rptr [AI n, LI xs]]), (7, AI n), (8, AI (x : Int))]), []⟩ : St)) (fun (x : Nat) => (x ≤ n.toNat) ∧ (∀ i : Nat, i < x → tb (xs.getD i 0) i = true)) (fun (x : Nat) => n.toNat - x) 0 [1, 7, 8] (some []) (by kernel_rfl) (by kernel_rfl) (by kernel_rfl) ⟨(by omega), (by exact fun i hi => absurd hi (by omega))⟩ ?_)
  rintro x ⟨h3_1, h3_2⟩ R1 N2
  refine R.go 5 (R.cond ((x : Int) < n) (by kernel_rfl) (fun c4 => ?_) (fun c4 => ?_))
  · refine R.go 12 (R.call true (hasFlag1_c x n xs (by first | omega | (simp <;> omega))) (by kernel_rfl) rfl (by kernel_rfl) ?_)
    refine R.go 2 (R.condN (band (shr64 (xs.getD x 0) (x : Int)) 1 = 1) (by kernel_rfl) (fun c5 => ?_) (fun c5 => ?_))
    · exact R.go 4 (R.retE (.bool false) (by kernel_rfl) (by kernel_rfl) (by first | (apply congrArg AV.bool; first | exact rB_no (i := x) (by omega) (bitF hRel hN8 (by omega) (by omega) (by assumption)) | exact (rB_iff.2 fun i hi => (‹∀ i : Nat, i < x → tb (xs.getD i 0) i = true›) i (by omega)).symm) | (exfalso; omega)))
    · refine R.go 3 (R.ar ((x : Int) + 1) (by kernel_rfl) (by omega) (by omega) (by kernel_rfl) ?_)
      exact R.go 2 (R.stop R1 (by kernel_rfl) (N2 (x + 1) [1, 7, 8] none _ (by kernel_rfl) (by kernel_rfl) ⟨(by omega), (by exact below1 (by assumption) (bitT hRel hN8 (by omega) (by omega) (by assumption)))⟩ (by show (n.toNat - (x + 1)) < (n.toNat - x); omega)))
  · exact R.go 5 (R.retE (.bool true) (by kernel_rfl) (by kernel_rfl) (by first | (apply congrArg AV.bool; first | exact rB_no (i := x) (by omega) (bitF hRel hN8 (by omega) (by omega) (by assumption)) | exact (rB_iff.2 fun i hi => (‹∀ i : Nat, i < x → tb (xs.getD i 0) i = true›) i (by omega)).symm) | (exfalso; omega)))

theorem everyA_c (n : Int) (xs : List Int) (zs : List Int) (hR : okFr n xs = true) (hz : zs = invA xs xs.length) : CallA Try.prog 65 [.agg [AI n, LI xs], .fn 77 [.rptr [AI n, LI xs], .rptr [LI zs]]] (.bool (aB n.toNat xs)) := by
  have hF := okFr_rel hR
  have hRel : RelOK n.toNat xs := hF.2.2.2
  have hb0 : 0 ≤ n ∧ n ≤ 8 ∧ (xs.length : Int) = n := ⟨hF.1, hF.2.1, hF.2.2.1⟩
  have hN8 : n.toNat ≤ 30 := by omega
  have hzl : zs.length = xs.length := by rw [hz]; exact invA_len _ _
  refine CallA.of Try.func65 rfl (by kernel_rfl) ?_
  refine R.go 13 (R.loop (fun (x : Nat) => (⟨(frm 16 [(1, .fn 77 [.rptr [AI n, LI xs], .rptr [LI zs]]), (7, AI n), (8, AI (x : Int))]), []⟩ : St)) (fun (x : Nat) => (x ≤ n.toNat) ∧ (∀ i : Nat, i < x → AN xs zs i)) (fun (x : Nat) => n.toNat - x) 0 [1, 7, 8] (some []) (by kernel_rfl) (by kernel_rfl) (by kernel_rfl) ⟨(by omega), (by exact fun i hi => absurd hi (by omega))⟩ ?_)
  rintro x ⟨h3_1, h3_2⟩ R1 N2
  refine R.go 5 (R.cond ((x : Int) < n) (by kernel_rfl) (fun c4 => ?_) (fun c4 => ?_))
  · refine R.go 12 (R.call true (hasFlag7_c x n xs zs (by first | omega | (simp <;> omega)) (by first | omega | (simp <;> omega))) (by kernel_rfl) rfl (by kernel_rfl) ?_)
    refine R.go 2 (R.condN (bnot (band (xs.getD x 0) (zs.getD x 0)) (shl64 1 (x : Int)) = 0) (by kernel_rfl) (fun c5 => ?_) (fun c5 => ?_))
    · exact R.go 4 (R.retE (.bool false) (by kernel_rfl) (by kernel_rfl) (by first | (apply congrArg AV.bool; first | exact aB_noN hRel hN8 hz (x := x) (by omega) (by assumption) | exact aB_of hRel hN8 hz fun i hi => (‹∀ i : Nat, i < x → AN xs zs i›) i (by omega)) | (exfalso; omega)))
    · refine R.go 3 (R.ar ((x : Int) + 1) (by kernel_rfl) (by omega) (by omega) (by kernel_rfl) ?_)
      exact R.go 2 (R.stop R1 (by kernel_rfl) (N2 (x + 1) [1, 7, 8] none _ (by kernel_rfl) (by kernel_rfl) ⟨(by omega), (by exact below1 (by assumption) (show bnot (band (xs.getD x 0) (zs.getD x 0)) (shl64 1 (x : Int)) = 0 by assumption))⟩ (by show (n.toNat - (x + 1)) < (n.toNat - x); omega)))
  · exact R.go 5 (R.retE (.bool true) (by kernel_rfl) (by kernel_rfl) (by first | (apply congrArg AV.bool; first | exact aB_noN hRel hN8 hz (x := x) (by omega) (by assumption) | exact aB_of hRel hN8 hz fun i hi => (‹∀ i : Nat, i < x → AN xs zs i›) i (by omega)) | (exfalso; omega)))

theorem inverse_c (n : Int) (xs : List Int) (hR : okFr n xs = true) : CallA Try.prog 64 [LI xs] (ownA eI 2 1 (invA xs xs.length)) := by
  have hF := okFr_rel hR
  have hRel : RelOK n.toNat xs := hF.2.2.2
  have hb0 : 0 ≤ n ∧ n ≤ 8 ∧ (xs.length : Int) = n := ⟨hF.1, hF.2.1, hF.2.2.1⟩
  have hN8 : n.toNat ≤ 30 := by omega
  refine CallA.of Try.func64 rfl (by kernel_rfl) ?_
  refine R.go 8 (R.mk eI 0 2 8 xs.length xs.length (by kernel_rfl) rfl (by decide) (by omega) (by kernel_rfl) ?_)
  refine R.go 10 (R.loop ((fun | (i, out) => (⟨(frm 36 [(3, .ref 0), (11, LI xs), (12, AI xs.length), (13, AI (i : Int))]), [rowA eI 2 1 out]⟩ : St) : Nat × (List Int) → St)) (fun | (i, out) => (i ≤ xs.length) ∧ (out = invA xs i)) (fun | (i, out) => xs.length - i) (0, (List.replicate xs.length 0)) [3, 11, 12, 13] none (by kernel_rfl) (by kernel_rfl) (by kernel_rfl) ⟨(by omega), (by rfl)⟩ ?_)
  rintro ⟨i, out⟩ ⟨h4_1, rfl⟩ R1 N2
  have hol := invA_len xs i
  have hmi := fun h : i < xs.length => hRel.2 i (by omega)
  have hml := mem_le (xs.getD i 0)
  refine R.go 5 (R.cond ((i : Int) < (xs.length : Int)) (by kernel_rfl) (fun c5 => ?_) (fun c5 => ?_))
  · refine R.go 6 (R.idx eI xs 0 i (i : Int) (by kernel_rfl) rfl eI_len (by omega) (by kernel_rfl) ?_)
    have hmm := inM_mono (n' := 61) (by omega) (hmi (by omega))
    refine R.go 7 (R.call true (membersOf_c (xs.getD i 0) (by first | assumption | exact inM61 (by omega) (by omega))).frz (by kernel_rfl) rfl (by kernel_rfl) ?_)
    refine R.go 4 (R.loop ((fun | (t, o2) => (⟨(frm 36 [(3, .ref 0), (4, AI (i : Int)), (11, LI xs), (12, AI xs.length), (13, AI (i : Int)), (19, LI (mem (xs.getD i 0))), (20, AI ((mem (xs.getD i 0)).length)), (21, AI (t : Int))]), [rowA eI 2 1 o2]⟩ : St) : Nat × (List Int) → St)) (fun | (t, o2) => (t ≤ (mem (xs.getD i 0)).length) ∧ (o2 = invJ (invA xs i) i ((mem (xs.getD i 0)).take t))) (fun | (t, o2) => (mem (xs.getD i 0)).length - t) (0, (invA xs i)) [3, 4, 11, 12, 13, 19, 20, 21] none (by kernel_rfl) (by kernel_rfl) (by kernel_rfl) ⟨(by omega), (by rfl)⟩ ?_)
    rintro ⟨t, o2⟩ ⟨h9_1, rfl⟩ R6 N7
    have hol2 : (invJ (invA xs i) i ((mem (xs.getD i 0)).take t)).length = xs.length := by rw [invJ_len, hol]
    refine R.go 5 (R.cond ((t : Int) < ((mem (xs.getD i 0)).length : Int)) (by kernel_rfl) (fun c10 => ?_) (fun c10 => ?_))
    · refine R.go 5 (R.idx eI (mem (xs.getD i 0)) 0 t (t : Int) (by kernel_rfl) rfl eI_len (by omega) (by kernel_rfl) ?_)
      have hjr := mem_lt' (N := n.toNat) (by omega) (hmi (by omega)) (t := t) (by omega)
      refine R.go 6 (R.idxO 0 1 (invJ (invA xs i) i ((mem (xs.getD i 0)).take t)).length ((((mem (xs.getD i 0)).getD t 0)).toNat) ((mem (xs.getD i 0)).getD t 0) (by kernel_rfl) (by omega) (by first | omega | (simp only [List.length_set]; omega) | (simp <;> omega)) (by kernel_rfl) ?_)
      refine R.ldI (invJ (invA xs i) i ((mem (xs.getD i 0)).take t)) ((((mem (xs.getD i 0)).getD t 0)).toNat) (by kernel_rfl) (by first | omega | (simp only [List.length_set]; omega) | (simp <;> omega)) (by kernel_rfl) ?_
      refine R.go 1 (R.shl 1 (i : Int) (by kernel_rfl) (by omega) (by kernel_rfl) ?_)
      refine R.go 1 (R.idxO 0 1 (invJ (invA xs i) i ((mem (xs.getD i 0)).take t)).length ((((mem (xs.getD i 0)).getD t 0)).toNat) ((mem (xs.getD i 0)).getD t 0) (by kernel_rfl) (by omega) (by first | omega | (simp only [List.length_set]; omega) | (simp <;> omega)) (by kernel_rfl) ?_)
      refine R.stI 0 2 (invJ (invA xs i) i ((mem (xs.getD i 0)).take t)) ((((mem (xs.getD i 0)).getD t 0)).toNat) (bor ((invJ (invA xs i) i ((mem (xs.getD i 0)).take t)).getD ((((mem (xs.getD i 0)).getD t 0)).toNat) 0) (shl64 1 (i : Int))) (by kernel_rfl) (by first | omega | (simp only [List.length_set]; omega) | (simp <;> omega)) (by kernel_rfl) ?_
      refine R.go 3 (R.ar ((t : Int) + 1) (by kernel_rfl) (by omega) (by omega) (by kernel_rfl) ?_)
      exact R.go 2 (R.stop R6 (by kernel_rfl) (N7 (t + 1, (invJ (invA xs i) i ((mem (xs.getD i 0)).take t)).set ((((mem (xs.getD i 0)).getD t 0)).toNat) (bor ((invJ (invA xs i) i ((mem (xs.getD i 0)).take t)).getD ((((mem (xs.getD i 0)).getD t 0)).toNat) 0) (shl64 1 (i : Int)))) [3, 4, 11, 12, 13, 19, 20, 21] none _ (by kernel_rfl) (by kernel_rfl) ⟨(by omega), (by exact invJ_snoc (by omega))⟩ (by show ((mem (xs.getD i 0)).length - (t + 1)) < ((mem (xs.getD i 0)).length - t); omega)))
    · refine R.go 3 (R.ar ((i : Int) + 1) (by kernel_rfl) (by omega) (by omega) (by kernel_rfl) ?_)
      exact R.go 2 (R.stop R1 (by kernel_rfl) (N2 (i + 1, invJ (invA xs i) i ((mem (xs.getD i 0)).take t)) [3, 11, 12, 13] none _ (by kernel_rfl) (by kernel_rfl) ⟨(by omega), (by rw [invA, List.take_of_length_le (by omega)])⟩ (by show (xs.length - (i + 1)) < (xs.length - i); omega)))
  · exact R.go 6 (R.retE (ownA eI 2 1 (invA xs i)) (by kernel_rfl) (by kernel_rfl) (by first | (rw [show i = xs.length by omega]) | (exfalso; omega)))

theorem equalI_c (a : List Int) (b : List Int) (la : a.length ≤ 1000000000) : CallA Try.prog 69 [LI a, LI b] (.bool (decide (a = b))) := by
  refine CallA.of Try.func69 rfl (by kernel_rfl) ?_
  refine R.go 13 (R.condN ((a.length : Int) = (b.length : Int)) (by kernel_rfl) (fun c1 => ?_) (fun c1 => ?_))
  · exact R.go 4 (R.retE (.bool false) (by kernel_rfl) (by kernel_rfl) (by first | (first | (rw [dF (fun h => by subst h; omega)]) | (rw [dT (take_all (i := i) (by omega) (by omega) (by assumption))])) | (exfalso; omega)))
  · refine R.go 9 (R.loop (fun (i : Nat) => (⟨(frm 26 [(0, LI a), (1, LI b), (12, AI a.length), (13, AI (i : Int))]), []⟩ : St)) (fun (i : Nat) => (i ≤ a.length) ∧ (a.take i = b.take i)) (fun (i : Nat) => a.length - i) 0 [0, 1, 12, 13] none (by kernel_rfl) (by kernel_rfl) (by kernel_rfl) ⟨(by omega), (by rfl)⟩ ?_)
    rintro i ⟨h4_1, h4_2⟩ R2 N3
    refine R.go 5 (R.cond ((i : Int) < (a.length : Int)) (by kernel_rfl) (fun c5 => ?_) (fun c5 => ?_))
    · refine R.go 12 (R.idx eI a 0 i (i : Int) (by kernel_rfl) rfl eI_len (by omega) (by kernel_rfl) ?_)
      refine R.go 3 (R.idx eI b 0 i (i : Int) (by kernel_rfl) rfl eI_len (by omega) (by kernel_rfl) ?_)
      refine R.go 3 (R.condN ((a.getD i 0) = (b.getD i 0)) (by kernel_rfl) (fun c6 => ?_) (fun c6 => ?_))
      · exact R.go 4 (R.retE (.bool false) (by kernel_rfl) (by kernel_rfl) (by first | (first | (rw [dF (fun h => by subst h; omega)]) | (rw [dT (take_all (i := i) (by omega) (by omega) (by assumption))])) | (exfalso; omega)))
      · refine R.go 3 (R.ar ((i : Int) + 1) (by kernel_rfl) (by omega) (by omega) (by kernel_rfl) ?_)
        exact R.go 2 (R.stop R2 (by kernel_rfl) (N3 (i + 1) [0, 1, 12, 13] none _ (by kernel_rfl) (by kernel_rfl) ⟨(by omega), (by exact take_step a b 0 i (by omega) (by omega) (by assumption) (by assumption))⟩ (by show (a.length - (i + 1)) < (a.length - i); omega)))
    · exact R.go 5 (R.retE (.bool true) (by kernel_rfl) (by kernel_rfl) (by first | (first | (rw [dF (fun h => by subst h; omega)]) | (rw [dT (take_all (i := i) (by omega) (by omega) (by assumption))])) | (exfalso; omega)))

theorem inverseG_c (n : Int) (xs zs : List Int) (hR : okFr n xs = true) (hz : zs = invA xs xs.length) : CallA Try.prog 64 [LI xs] (ownA eI 2 1 zs) := by rw [hz]; exact inverse_c n xs hR

theorem hasFlagR_c (n : Int) (xs : List Int) (hR : okFr n xs = true) : CallA Try.prog 42 [.agg [AI n, LI xs], AI 0] (.bool (rB n.toNat xs)) := by
  have hF := okFr_rel hR
  have hRel : RelOK n.toNat xs := hF.2.2.2
  have hb0 : 0 ≤ n ∧ n ≤ 8 ∧ (xs.length : Int) = n := ⟨hF.1, hF.2.1, hF.2.2.1⟩
  have hN8 : n.toNat ≤ 30 := by omega
  obtain ⟨zs, hz⟩ : ∃ zs, zs = invA xs xs.length := ⟨_, rfl⟩
  have hwl := wout_len xs xs.length
  refine CallA.of Try.func42 rfl (by kernel_rfl) ?_
  refine R.go 9 (R.call true (inverseG_c n xs zs hR (by assumption)).frz (by kernel_rfl) rfl (by kernel_rfl) ?_)
  refine R.go 19 (R.call false (everyR_c n xs hR) (by kernel_rfl) rfl (by kernel_rfl) ?_)
  exact R.go 2 (R.retE (.bool (rB n.toNat xs)) (by kernel_rfl) (by kernel_rfl) (by rfl))

theorem hasFlagT_c (n : Int) (xs : List Int) (hR : okFr n xs = true) : CallA Try.prog 42 [.agg [AI n, LI xs], AI 2] (.bool (tB n.toNat xs)) := by
  have hF := okFr_rel hR
  have hRel : RelOK n.toNat xs := hF.2.2.2
  have hb0 : 0 ≤ n ∧ n ≤ 8 ∧ (xs.length : Int) = n := ⟨hF.1, hF.2.1, hF.2.2.1⟩
  have hN8 : n.toNat ≤ 30 := by omega
  obtain ⟨zs, hz⟩ : ∃ zs, zs = invA xs xs.length := ⟨_, rfl⟩
  have hwl := wout_len xs xs.length
  refine CallA.of Try.func42 rfl (by kernel_rfl) ?_
  refine R.go 9 (R.call true (inverseG_c n xs zs hR (by assumption)).frz (by kernel_rfl) rfl (by kernel_rfl) ?_)
  refine R.go 31 (R.call true (transitive_c xs (by first | omega | (simp <;> omega))).frz (by kernel_rfl) rfl (by kernel_rfl) ?_)
  refine R.go 2 (R.call true (equalI_c (wout xs xs.length) xs (by first | omega | (simp <;> omega))) (by kernel_rfl) rfl (by kernel_rfl) ?_)
  exact R.go 2 (R.retE (.bool (decide ((wout xs xs.length) = xs))) (by kernel_rfl) (by kernel_rfl) (by first | (apply congrArg AV.bool; exact trW hRel hN8) | (exfalso; omega)))

theorem hasFlagA_c (n : Int) (xs : List Int) (hR : okFr n xs = true) : CallA Try.prog 42 [.agg [AI n, LI xs], AI 8] (.bool (aB n.toNat xs)) := by
  have hF := okFr_rel hR
  have hRel : RelOK n.toNat xs := hF.2.2.2
  have hb0 : 0 ≤ n ∧ n ≤ 8 ∧ (xs.length : Int) = n := ⟨hF.1, hF.2.1, hF.2.2.1⟩
  have hN8 : n.toNat ≤ 30 := by omega
  obtain ⟨zs, hz⟩ : ∃ zs, zs = invA xs xs.length := ⟨_, rfl⟩
  have hwl := wout_len xs xs.length
  refine CallA.of Try.func42 rfl (by kernel_rfl) ?_
  refine R.go 9 (R.call true (inverseG_c n xs zs hR (by assumption)).frz (by kernel_rfl) rfl (by kernel_rfl) ?_)
  refine R.go 67 (R.call false (everyA_c n xs zs hR (by assumption)) (by kernel_rfl) rfl (by kernel_rfl) ?_)
  exact R.go 2 (R.retE (.bool (aB n.toNat xs)) (by kernel_rfl) (by kernel_rfl) (by rfl))

theorem okFr_any {n : Int} {xs : List Int} (h : (xs.any fun m => !inR m 0 ((shl64 1 n) - 1)) = true) : okFr n xs = false := by simp [okFr, h]
theorem okFr_mk {n : Int} {xs : List Int} (h : inR n 0 8 = true) (h1 : (xs.length : Int) = n) (h2 : (xs.any fun m => !inR m 0 ((shl64 1 n) - 1)) = false) : okFr n xs = true := by rw [okFr_yes h h1, h2]; rfl
theorem okFr_rel1 {n : Int} {xs : List Int} (h : inR n 0 8 = true) (h1 : (xs.length : Int) = n) (h2 : xs.any (outR xs.length) = false) : okFr n xs = true := by rw [← okFr_out h h1, h2]; rfl
theorem okFr_rel0 {n : Int} {xs : List Int} (h : inR n 0 8 = true) (h1 : (xs.length : Int) = n) (h2 : xs.any (outR xs.length) = true) : okFr n xs = false := by rw [← okFr_out h h1, h2]; rfl

theorem frameOf_c (xs : List Int) : CallA Try.prog 63 [LI xs] (.agg [AI xs.length, LI xs]) := by
  refine CallA.of Try.func63 rfl (by kernel_rfl) ?_
  refine R.go 7 (R.call true (size_c xs) (by kernel_rfl) rfl (by kernel_rfl) ?_)
  exact R.go 4 (R.retE (.agg [AI xs.length, LI xs]) (by kernel_rfl) (by kernel_rfl) (by rfl))

theorem pFrame_c (n : Int) (xs : List Int) (hn : (xs.length : Int) = n) : CallA Try.prog 41 [.agg [AI n, LI xs]] (.agg [AI n, LI xs]) := by
  refine CallA.of Try.func41 rfl (by kernel_rfl) ?_
  refine R.go 9 (R.call true (frameOf_c xs) (by kernel_rfl) rfl (by kernel_rfl) ?_)
  exact R.go 2 (R.retE (.agg [AI xs.length, LI xs]) (by kernel_rfl) (by kernel_rfl) (by first | (rw [hn]) | (exfalso; omega)))

set_option maxHeartbeats 1000000 in
theorem isPoset_c (n : Int) (xs : List Int) (hl : xs.length ≤ 1000000000) : CallA Try.prog 26 [.agg [AI n, LI xs]] (.bool (okPo n xs)) := by
  have hn := fun h : inR n 0 8 = true => (inR_iff _ _ _).1 h
  refine CallA.of Try.func26 rfl (by kernel_rfl) ?_
  refine R.go 10 (R.call true (inRange_c n 0 8) (by kernel_rfl) rfl (by kernel_rfl) ?_)
  refine R.go 2 ?_
  refine (Bool.eq_false_or_eq_true (inR n 0 8)).elim (fun c1 => ?_) (fun c1 => ?_)
  · refine R.want (!(inR n 0 8)) false (by kernel_rfl) (bnF c1) ?_
    refine R.go 1 (R.want (!(inR n 0 8)) false (by kernel_rfl) (bnF c1) ?_)
    refine R.go 1 (R.want (!(inR n 0 8)) false (by kernel_rfl) (bnF c1) ?_)
    refine R.call true (size_c xs) (by kernel_rfl) rfl (by kernel_rfl) ?_
    refine R.want (!(inR n 0 8)) false (by kernel_rfl) (bnF c1) ?_
    refine R.go 1 (R.want (!(inR n 0 8)) false (by kernel_rfl) (bnF c1) ?_)
    refine R.go 1 (R.want (!(inR n 0 8)) false (by kernel_rfl) (bnF c1) ?_)
    refine R.go 1 (R.pick (!(inR n 0 8)) false (by kernel_rfl) (bnF c1) (by kernel_rfl) ?_)
    refine R.go 1 ?_
    by_cases c2 : (xs.length : Int) = n
    · refine R.want (!decide ((xs.length : Int) = n)) false (by kernel_rfl) (nF c2) ?_
      refine R.go 1 (R.want (!decide ((xs.length : Int) = n)) false (by kernel_rfl) (nF c2) ?_)
      refine R.go 1 (R.want (!decide ((xs.length : Int) = n)) false (by kernel_rfl) (nF c2) ?_)
      refine R.call true (isRelation_c xs hl) (by kernel_rfl) rfl (by kernel_rfl) ?_
      refine R.want (!decide ((xs.length : Int) = n)) false (by kernel_rfl) (nF c2) ?_
      refine R.go 1 (R.pick (!decide ((xs.length : Int) = n)) false (by kernel_rfl) (nF c2) (by kernel_rfl) ?_)
      refine R.go 1 (R.condM (!(xs.any (outR xs.length))) (by kernel_rfl) (fun c3 => ?_) (fun c3 => ?_))
      · exact R.go 4 (R.retE (.bool false) (by kernel_rfl) (by kernel_rfl) (by first | (apply congrArg AV.bool; first | exact okPo_0 (okFr_no (by assumption)) | exact okPo_0 (okFr_ne (by assumption)) | exact okPo_0 (by assumption) | exact okPo_1 hfr (by assumption) | exact okPo_2 hfr (by assumption) (by assumption) | exact okPo_3 hfr (by assumption) (by assumption) | exact okPo_0 (okFr_rel0 (by assumption) (by assumption) (by first | assumption | simpa using (by assumption : (!xs.any (outR xs.length)) = false)))) | (exfalso; omega)))
      · have hfr : okFr n xs = true := okFr_rel1 (by assumption) (by assumption) (by first | assumption | simpa using (by assumption : (!xs.any (outR xs.length)) = true))
        refine R.go 4 (R.call true (pFrame_c n xs c2) (by kernel_rfl) rfl (by kernel_rfl) ?_)
        refine R.go 6 (R.call true (hasFlagR_c n xs hfr) (by kernel_rfl) rfl (by kernel_rfl) ?_)
        refine R.go 1 ?_
        refine (Bool.eq_false_or_eq_true (rB n.toNat xs)).elim (fun c4 => ?_) (fun c4 => ?_)
        · refine R.want (rB n.toNat xs) true (by kernel_rfl) c4 ?_
          refine R.go 1 (R.want (rB n.toNat xs) true (by kernel_rfl) c4 ?_)
          refine R.call true (hasFlagT_c n xs hfr) (by kernel_rfl) rfl (by kernel_rfl) ?_
          refine R.pick (rB n.toNat xs) true (by kernel_rfl) c4 (by kernel_rfl) ?_
          refine R.go 1 ?_
          refine (Bool.eq_false_or_eq_true (tB n.toNat xs)).elim (fun c5 => ?_) (fun c5 => ?_)
          · refine R.want (tB n.toNat xs) true (by kernel_rfl) c5 ?_
            refine R.go 1 (R.want (tB n.toNat xs) true (by kernel_rfl) c5 ?_)
            refine R.call true (hasFlagA_c n xs hfr) (by kernel_rfl) rfl (by kernel_rfl) ?_
            refine R.pick (tB n.toNat xs) true (by kernel_rfl) c5 (by kernel_rfl) ?_
            exact R.go 2 (R.retE (.bool (aB n.toNat xs)) (by kernel_rfl) (by kernel_rfl) (by first | (apply congrArg AV.bool; first | exact okPo_0 (okFr_no (by assumption)) | exact okPo_0 (okFr_ne (by assumption)) | exact okPo_0 (by assumption) | exact okPo_1 hfr (by assumption) | exact okPo_2 hfr (by assumption) (by assumption) | exact okPo_3 hfr (by assumption) (by assumption) | exact okPo_0 (okFr_rel0 (by assumption) (by assumption) (by first | assumption | simpa using (by assumption : (!xs.any (outR xs.length)) = false)))) | (exfalso; omega)))
          · refine R.skp (tB n.toNat xs) true (by kernel_rfl) c5 (by kernel_rfl) ?_
            refine R.skp (tB n.toNat xs) true (by kernel_rfl) c5 (by kernel_rfl) ?_
            refine R.pick (tB n.toNat xs) false (by kernel_rfl) c5 (by kernel_rfl) ?_
            exact R.go 2 (R.retE (.bool false) (by kernel_rfl) (by kernel_rfl) (by first | (apply congrArg AV.bool; first | exact okPo_0 (okFr_no (by assumption)) | exact okPo_0 (okFr_ne (by assumption)) | exact okPo_0 (by assumption) | exact okPo_1 hfr (by assumption) | exact okPo_2 hfr (by assumption) (by assumption) | exact okPo_3 hfr (by assumption) (by assumption) | exact okPo_0 (okFr_rel0 (by assumption) (by assumption) (by first | assumption | simpa using (by assumption : (!xs.any (outR xs.length)) = false)))) | (exfalso; omega)))
        · refine R.skp (rB n.toNat xs) true (by kernel_rfl) c4 (by kernel_rfl) ?_
          refine R.skp (rB n.toNat xs) true (by kernel_rfl) c4 (by kernel_rfl) ?_
          refine R.pick (rB n.toNat xs) false (by kernel_rfl) c4 (by kernel_rfl) ?_
          exact R.go 6 (R.retE (.bool false) (by kernel_rfl) (by kernel_rfl) (by first | (apply congrArg AV.bool; first | exact okPo_0 (okFr_no (by assumption)) | exact okPo_0 (okFr_ne (by assumption)) | exact okPo_0 (by assumption) | exact okPo_1 hfr (by assumption) | exact okPo_2 hfr (by assumption) (by assumption) | exact okPo_3 hfr (by assumption) (by assumption) | exact okPo_0 (okFr_rel0 (by assumption) (by assumption) (by first | assumption | simpa using (by assumption : (!xs.any (outR xs.length)) = false)))) | (exfalso; omega)))
    · refine R.skp (!decide ((xs.length : Int) = n)) false (by kernel_rfl) (nT c2) (by kernel_rfl) ?_
      refine R.skp (!decide ((xs.length : Int) = n)) false (by kernel_rfl) (nT c2) (by kernel_rfl) ?_
      refine R.skp (!decide ((xs.length : Int) = n)) false (by kernel_rfl) (nT c2) (by kernel_rfl) ?_
      refine R.skp (!decide ((xs.length : Int) = n)) false (by kernel_rfl) (nT c2) (by kernel_rfl) ?_
      refine R.pick (!decide ((xs.length : Int) = n)) true (by kernel_rfl) (nT c2) (by kernel_rfl) ?_
      exact R.go 6 (R.retE (.bool false) (by kernel_rfl) (by kernel_rfl) (by first | (apply congrArg AV.bool; first | exact okPo_0 (okFr_no (by assumption)) | exact okPo_0 (okFr_ne (by assumption)) | exact okPo_0 (by assumption) | exact okPo_1 hfr (by assumption) | exact okPo_2 hfr (by assumption) (by assumption) | exact okPo_3 hfr (by assumption) (by assumption) | exact okPo_0 (okFr_rel0 (by assumption) (by assumption) (by first | assumption | simpa using (by assumption : (!xs.any (outR xs.length)) = false)))) | (exfalso; omega)))
  · refine R.skp (!(inR n 0 8)) false (by kernel_rfl) (bnT c1) (by kernel_rfl) ?_
    refine R.skp (!(inR n 0 8)) false (by kernel_rfl) (bnT c1) (by kernel_rfl) ?_
    refine R.skp (!(inR n 0 8)) false (by kernel_rfl) (bnT c1) (by kernel_rfl) ?_
    refine R.skp (!(inR n 0 8)) false (by kernel_rfl) (bnT c1) (by kernel_rfl) ?_
    refine R.skp (!(inR n 0 8)) false (by kernel_rfl) (bnT c1) (by kernel_rfl) ?_
    refine R.skp (!(inR n 0 8)) false (by kernel_rfl) (bnT c1) (by kernel_rfl) ?_
    refine R.pick (!(inR n 0 8)) true (by kernel_rfl) (bnT c1) (by kernel_rfl) ?_
    exact R.go 12 (R.retE (.bool false) (by kernel_rfl) (by kernel_rfl) (by first | (apply congrArg AV.bool; first | exact okPo_0 (okFr_no (by assumption)) | exact okPo_0 (okFr_ne (by assumption)) | exact okPo_0 (by assumption) | exact okPo_1 hfr (by assumption) | exact okPo_2 hfr (by assumption) (by assumption) | exact okPo_3 hfr (by assumption) (by assumption) | exact okPo_0 (okFr_rel0 (by assumption) (by assumption) (by first | assumption | simpa using (by assumption : (!xs.any (outR xs.length)) = false)))) | (exfalso; omega)))

set_option maxHeartbeats 1000000 in
theorem l16Is_c (n : Int) (xs : List Int) (hl : xs.length ≤ 1000000000) : CallA Try.prog 22 [.agg [AI n, LI xs]] (.bool (okPo n xs)) := by
  have hn := fun h : inR n 0 8 = true => (inR_iff _ _ _).1 h
  refine CallA.of Try.func22 rfl (by kernel_rfl) ?_
  refine R.go 10 (R.call true (l01In_c n 0 8) (by kernel_rfl) rfl (by kernel_rfl) ?_)
  refine R.go 2 ?_
  refine (Bool.eq_false_or_eq_true (inR n 0 8)).elim (fun c1 => ?_) (fun c1 => ?_)
  · refine R.want (!(inR n 0 8)) false (by kernel_rfl) (bnF c1) ?_
    refine R.go 1 (R.want (!(inR n 0 8)) false (by kernel_rfl) (bnF c1) ?_)
    refine R.go 1 (R.want (!(inR n 0 8)) false (by kernel_rfl) (bnF c1) ?_)
    refine R.go 1 (R.want (!(inR n 0 8)) false (by kernel_rfl) (bnF c1) ?_)
    refine R.go 1 (R.want (!(inR n 0 8)) false (by kernel_rfl) (bnF c1) ?_)
    refine R.go 1 (R.want (!(inR n 0 8)) false (by kernel_rfl) (bnF c1) ?_)
    refine R.go 1 (R.pick (!(inR n 0 8)) false (by kernel_rfl) (bnF c1) (by kernel_rfl) ?_)
    refine R.go 1 ?_
    by_cases c2 : (xs.length : Int) = n
    · refine R.want (!decide ((xs.length : Int) = n)) false (by kernel_rfl) (nF c2) ?_
      refine R.go 1 (R.want (!decide ((xs.length : Int) = n)) false (by kernel_rfl) (nF c2) ?_)
      refine R.go 1 (R.want (!decide ((xs.length : Int) = n)) false (by kernel_rfl) (nF c2) ?_)
      refine R.go 1 (R.want (!decide ((xs.length : Int) = n)) false (by kernel_rfl) (nF c2) ?_)
      refine R.go 1 (R.want (!decide ((xs.length : Int) = n)) false (by kernel_rfl) (nF c2) ?_)
      refine R.call true (l01Masks_c n xs hl (by first | omega | (simp only [inR_iff, inR_not] at *; omega)) (by first | omega | (simp only [inR_iff, inR_not] at *; omega))) (by kernel_rfl) rfl (by kernel_rfl) ?_
      refine R.want (!decide ((xs.length : Int) = n)) false (by kernel_rfl) (nF c2) ?_
      refine R.go 1 (R.pick (!decide ((xs.length : Int) = n)) false (by kernel_rfl) (nF c2) (by kernel_rfl) ?_)
      refine R.go 1 (R.condM (!(xs.any fun m => !inR m 0 ((shl64 1 n) - 1))) (by kernel_rfl) (fun c3 => ?_) (fun c3 => ?_))
      · exact R.go 4 (R.retE (.bool false) (by kernel_rfl) (by kernel_rfl) (by first | (apply congrArg AV.bool; first | exact okPo_0 (okFr_no (by assumption)) | exact okPo_0 (okFr_ne (by assumption)) | exact okPo_0 (by assumption) | exact okPo_1 hfr (by assumption) | exact okPo_2 hfr (by assumption) (by assumption) | exact okPo_3 hfr (by assumption) (by assumption) | exact okPo_0 (okFr_any (by first | assumption | simpa using (by assumption : (!xs.any fun m => !inR m 0 ((shl64 1 n) - 1)) = false)))) | (exfalso; omega)))
      · have hfr : okFr n xs = true := okFr_mk (by assumption) (by assumption) (by first | assumption | simpa using (by assumption : (!xs.any fun m => !inR m 0 ((shl64 1 n) - 1)) = true))
        refine R.go 14 (R.call true (flagR_c n xs hfr) (by kernel_rfl) rfl (by kernel_rfl) ?_)
        refine R.go 1 ?_
        refine (Bool.eq_false_or_eq_true (rB n.toNat xs)).elim (fun c4 => ?_) (fun c4 => ?_)
        · refine R.want (rB n.toNat xs) true (by kernel_rfl) c4 ?_
          refine R.go 1 (R.want (rB n.toNat xs) true (by kernel_rfl) c4 ?_)
          refine R.call true (flagT_c n xs hfr) (by kernel_rfl) rfl (by kernel_rfl) ?_
          refine R.pick (rB n.toNat xs) true (by kernel_rfl) c4 (by kernel_rfl) ?_
          refine R.go 1 ?_
          refine (Bool.eq_false_or_eq_true (tB n.toNat xs)).elim (fun c5 => ?_) (fun c5 => ?_)
          · refine R.want (tB n.toNat xs) true (by kernel_rfl) c5 ?_
            refine R.go 1 (R.want (tB n.toNat xs) true (by kernel_rfl) c5 ?_)
            refine R.call true (flagA_c n xs hfr) (by kernel_rfl) rfl (by kernel_rfl) ?_
            refine R.pick (tB n.toNat xs) true (by kernel_rfl) c5 (by kernel_rfl) ?_
            exact R.go 2 (R.retE (.bool (aB n.toNat xs)) (by kernel_rfl) (by kernel_rfl) (by first | (apply congrArg AV.bool; first | exact okPo_0 (okFr_no (by assumption)) | exact okPo_0 (okFr_ne (by assumption)) | exact okPo_0 (by assumption) | exact okPo_1 hfr (by assumption) | exact okPo_2 hfr (by assumption) (by assumption) | exact okPo_3 hfr (by assumption) (by assumption) | exact okPo_0 (okFr_any (by first | assumption | simpa using (by assumption : (!xs.any fun m => !inR m 0 ((shl64 1 n) - 1)) = false)))) | (exfalso; omega)))
          · refine R.skp (tB n.toNat xs) true (by kernel_rfl) c5 (by kernel_rfl) ?_
            refine R.skp (tB n.toNat xs) true (by kernel_rfl) c5 (by kernel_rfl) ?_
            refine R.pick (tB n.toNat xs) false (by kernel_rfl) c5 (by kernel_rfl) ?_
            exact R.go 2 (R.retE (.bool false) (by kernel_rfl) (by kernel_rfl) (by first | (apply congrArg AV.bool; first | exact okPo_0 (okFr_no (by assumption)) | exact okPo_0 (okFr_ne (by assumption)) | exact okPo_0 (by assumption) | exact okPo_1 hfr (by assumption) | exact okPo_2 hfr (by assumption) (by assumption) | exact okPo_3 hfr (by assumption) (by assumption) | exact okPo_0 (okFr_any (by first | assumption | simpa using (by assumption : (!xs.any fun m => !inR m 0 ((shl64 1 n) - 1)) = false)))) | (exfalso; omega)))
        · refine R.skp (rB n.toNat xs) true (by kernel_rfl) c4 (by kernel_rfl) ?_
          refine R.skp (rB n.toNat xs) true (by kernel_rfl) c4 (by kernel_rfl) ?_
          refine R.pick (rB n.toNat xs) false (by kernel_rfl) c4 (by kernel_rfl) ?_
          exact R.go 6 (R.retE (.bool false) (by kernel_rfl) (by kernel_rfl) (by first | (apply congrArg AV.bool; first | exact okPo_0 (okFr_no (by assumption)) | exact okPo_0 (okFr_ne (by assumption)) | exact okPo_0 (by assumption) | exact okPo_1 hfr (by assumption) | exact okPo_2 hfr (by assumption) (by assumption) | exact okPo_3 hfr (by assumption) (by assumption) | exact okPo_0 (okFr_any (by first | assumption | simpa using (by assumption : (!xs.any fun m => !inR m 0 ((shl64 1 n) - 1)) = false)))) | (exfalso; omega)))
    · refine R.skp (!decide ((xs.length : Int) = n)) false (by kernel_rfl) (nT c2) (by kernel_rfl) ?_
      refine R.skp (!decide ((xs.length : Int) = n)) false (by kernel_rfl) (nT c2) (by kernel_rfl) ?_
      refine R.skp (!decide ((xs.length : Int) = n)) false (by kernel_rfl) (nT c2) (by kernel_rfl) ?_
      refine R.skp (!decide ((xs.length : Int) = n)) false (by kernel_rfl) (nT c2) (by kernel_rfl) ?_
      refine R.skp (!decide ((xs.length : Int) = n)) false (by kernel_rfl) (nT c2) (by kernel_rfl) ?_
      refine R.skp (!decide ((xs.length : Int) = n)) false (by kernel_rfl) (nT c2) (by kernel_rfl) ?_
      refine R.pick (!decide ((xs.length : Int) = n)) true (by kernel_rfl) (nT c2) (by kernel_rfl) ?_
      exact R.go 6 (R.retE (.bool false) (by kernel_rfl) (by kernel_rfl) (by first | (apply congrArg AV.bool; first | exact okPo_0 (okFr_no (by assumption)) | exact okPo_0 (okFr_ne (by assumption)) | exact okPo_0 (by assumption) | exact okPo_1 hfr (by assumption) | exact okPo_2 hfr (by assumption) (by assumption) | exact okPo_3 hfr (by assumption) (by assumption) | exact okPo_0 (okFr_any (by first | assumption | simpa using (by assumption : (!xs.any fun m => !inR m 0 ((shl64 1 n) - 1)) = false)))) | (exfalso; omega)))
  · refine R.skp (!(inR n 0 8)) false (by kernel_rfl) (bnT c1) (by kernel_rfl) ?_
    refine R.skp (!(inR n 0 8)) false (by kernel_rfl) (bnT c1) (by kernel_rfl) ?_
    refine R.skp (!(inR n 0 8)) false (by kernel_rfl) (bnT c1) (by kernel_rfl) ?_
    refine R.skp (!(inR n 0 8)) false (by kernel_rfl) (bnT c1) (by kernel_rfl) ?_
    refine R.skp (!(inR n 0 8)) false (by kernel_rfl) (bnT c1) (by kernel_rfl) ?_
    refine R.skp (!(inR n 0 8)) false (by kernel_rfl) (bnT c1) (by kernel_rfl) ?_
    refine R.pick (!(inR n 0 8)) true (by kernel_rfl) (bnT c1) (by kernel_rfl) ?_
    exact R.go 14 (R.retE (.bool false) (by kernel_rfl) (by kernel_rfl) (by first | (apply congrArg AV.bool; first | exact okPo_0 (okFr_no (by assumption)) | exact okPo_0 (okFr_ne (by assumption)) | exact okPo_0 (by assumption) | exact okPo_1 hfr (by assumption) | exact okPo_2 hfr (by assumption) (by assumption) | exact okPo_3 hfr (by assumption) (by assumption) | exact okPo_0 (okFr_any (by first | assumption | simpa using (by assumption : (!xs.any fun m => !inR m 0 ((shl64 1 n) - 1)) = false)))) | (exfalso; omega)))

end Go.Proofs.Ytjllngcefoohpaa


/-! Posets: roots and upsets of both packages. -/
namespace Go.Proofs.Ytjllngcefoohpaa
open Go.RowKit Go.Abs

/-! The image, by the members of the mask. -/
def imgL (xs : List Int) (L : List Int) : Int := L.foldl (fun o j => bor o (xs.getD j.toNat 0)) 0
theorem imgL_snoc {xs L : List Int} {t : Nat} (h : t < L.length) : bor (imgL xs (L.take t)) (xs.getD (L.getD t 0).toNat 0) = imgL xs (L.take (t + 1)) := by
  rw [List.take_succ_eq_append_getElem h, imgL, imgL, List.foldl_append, List.getD_eq_getElem?_getD (l := L), List.getElem?_eq_getElem h]
  rfl
theorem imgF_ok {N : Nat} {xs : List Int} (hR : RelOK N xs) (hN : N ≤ 30) : ∀ (L : List Int) (o : Int), InM N o → (∀ j ∈ L, 0 ≤ j ∧ j < (N : Int)) → InM N (L.foldl (fun o j => bor o (xs.getD j.toNat 0)) o) ∧ ∀ k, tb (L.foldl (fun o j => bor o (xs.getD j.toNat 0)) o) k = true ↔ tb o k = true ∨ ∃ j ∈ L, tb (xs.getD j.toNat 0) k = true
  | [], o, h, _ => ⟨h, fun k => by simp⟩
  | v :: L, o, h, hL => by
    have hv := hL v (List.mem_cons_self ..)
    have hx := hR.2 v.toNat (by omega)
    have hb := inM_bor (n := N) (by omega) h hx
    obtain ⟨i1, i2⟩ := imgF_ok hR hN L _ hb fun j hj => hL j (List.mem_cons_of_mem _ hj)
    refine ⟨i1, fun k => ?_⟩
    rw [List.foldl_cons, i2, tb_bor (n := N) (by omega) h hx, Bool.or_eq_true]
    simp [or_assoc]
theorem img_eq {N : Nat} {xs : List Int} {m : Int} (hR : RelOK N xs) (hN : N ≤ 30) (hm : InM N m) : imgL xs (mem m) = img xs m xs.length := by
  have hl := hR.1
  obtain ⟨a1, a2⟩ := imgF_ok hR hN (mem m) 0 (inM_zero _) (mem_lt (by omega) hm)
  obtain ⟨b1, b2⟩ := img_ok (n := N) (by omega) hR hm xs.length (by omega)
  refine tb_ext a1.1 b1.1 fun k => ?_
  rw [Bool.eq_iff_iff, imgL, a2, b2]
  constructor
  · rintro (a | ⟨j, hj, h⟩)
    · rw [tb_zero] at a; cases a
    · have h1 := mem_lt (by omega) hm j hj
      refine ⟨j.toNat, by omega, (mem_iff (by omega) hm).1 (by rw [show ((j.toNat : Nat) : Int) = j by omega]; exact hj), h⟩
  · rintro ⟨j, _, h1, h2⟩
    exact .inr ⟨(j : Int), (mem_iff (by omega) hm).2 h1, by simpa using h2⟩
theorem pAll_c (n : Int) (xs : List Int) (h0 : 0 ≤ n) (h1 : n ≤ 62) : CallA Try.prog 31 [.agg [AI n, LI xs]] (AI ((shl64 1 n) - 1)) := by
  have hb : 1 ≤ shl64 1 n ∧ shl64 1 n ≤ 4611686018427387904 := shl_rng n h0 h1
  refine CallA.of Try.func31 rfl (by kernel_rfl) ?_
  refine R.go 9 (R.shl 1 n (by kernel_rfl) (by omega) (by kernel_rfl) ?_)
  refine R.ar ((shl64 1 n) - 1) (by kernel_rfl) (by omega) (by omega) (by kernel_rfl) ?_
  exact R.go 2 (R.retE (AI ((shl64 1 n) - 1)) (by kernel_rfl) (by kernel_rfl) (by rfl))

theorem imageI_c (n : Int) (xs : List Int) (m : Int) (hR : okFr n xs = true) (hm : InM n.toNat m) : CallA Try.prog 45 [LI xs, AI m] (AI (img xs m xs.length)) := by
  have hF := okFr_rel hR
  have hRel : RelOK n.toNat xs := hF.2.2.2
  have hb0 : 0 ≤ n ∧ n ≤ 8 ∧ (xs.length : Int) = n := ⟨hF.1, hF.2.1, hF.2.2.1⟩
  have hN8 : n.toNat ≤ 30 := by omega
  have hm61 := inM_mono (n' := 61) (by omega) hm
  refine CallA.of Try.func45 rfl (by kernel_rfl) ?_
  refine R.go 12 (R.call true (membersOf_c m (by first | assumption | exact inM61 (by omega) (by omega))).frz (by kernel_rfl) rfl (by kernel_rfl) ?_)
  refine R.go 4 (R.loop ((fun | (t, r) => (⟨(frm 23 [(0, LI xs), (5, AI r), (9, LI (mem m)), (10, AI ((mem m).length)), (11, AI (t : Int))]), []⟩ : St) : Nat × Int → St)) (fun | (t, r) => (t ≤ (mem m).length) ∧ (r = imgL xs ((mem m).take t))) (fun | (t, r) => (mem m).length - t) (0, 0) [0, 5, 9, 10, 11] none (by kernel_rfl) (by kernel_rfl) (by kernel_rfl) ⟨(by omega), (by rfl)⟩ ?_)
  rintro ⟨t, r⟩ ⟨h4_1, rfl⟩ R1 N2
  have hml := mem_le m
  have hjr := fun h : t < (mem m).length => mem_lt' (N := n.toNat) (by omega) hm h
  refine R.go 5 (R.cond ((t : Int) < ((mem m).length : Int)) (by kernel_rfl) (fun c5 => ?_) (fun c5 => ?_))
  · refine R.go 5 (R.idx eI (mem m) 0 t (t : Int) (by kernel_rfl) rfl eI_len (by omega) (by kernel_rfl) ?_)
    have hj2 := hjr (by omega)
    refine R.go 7 (R.idx eI xs 0 ((((mem m).getD t 0)).toNat) ((mem m).getD t 0) (by kernel_rfl) (by omega) eI_len (by omega) (by kernel_rfl) ?_)
    refine R.go 6 (R.ar ((t : Int) + 1) (by kernel_rfl) (by omega) (by omega) (by kernel_rfl) ?_)
    exact R.go 2 (R.stop R1 (by kernel_rfl) (N2 (t + 1, bor (imgL xs ((mem m).take t)) (xs.getD ((((mem m).getD t 0)).toNat) 0)) [0, 5, 9, 10, 11] none _ (by kernel_rfl) (by kernel_rfl) ⟨(by omega), (by exact imgL_snoc (by omega))⟩ (by show ((mem m).length - (t + 1)) < ((mem m).length - t); omega)))
  · exact R.go 6 (R.retE (AI (imgL xs ((mem m).take t))) (by kernel_rfl) (by kernel_rfl) (by first | (rw [← img_eq hRel hN8 hm, List.take_of_length_le (by omega)]) | (exfalso; omega)))

theorem szPoset_c (n : Int) (xs : List Int) (k : Int) (hk : (k : Int) ≤ 1048576) (hx : (xs.length : Int) ≤ k) : CallA Try.prog 4 [.agg [AI n, LI xs], AI k] (AI ((k : Int) - xs.length)) := by
  refine CallA.of Try.func4 rfl (by kernel_rfl) ?_
  refine R.go 10 (R.call true (szInt64S_c xs k hk hx) (by kernel_rfl) rfl (by kernel_rfl) ?_)
  refine R.go 8 (R.cond (((k : Int) - xs.length) < 0) (by kernel_rfl) (fun c1 => ?_) (fun c1 => ?_))
  · exact R.go 4 (R.retE (AI (-1)) (by kernel_rfl) (by kernel_rfl) (by first | (rfl) | (exfalso; omega)))
  · exact R.go 6 (R.retE (AI ((k : Int) - xs.length)) (by kernel_rfl) (by kernel_rfl) (by rfl))

theorem szPoset_no (n : Int) (xs : List Int) (k : Int) (hk : (0 : Int) ≤ k ∧ (k : Int) ≤ 1048576) (hx : (k : Int) < xs.length) (hl : xs.length ≤ 9223372036854775807) : CallA Try.prog 4 [.agg [AI n, LI xs], AI k] (AI (-1)) := by
  refine CallA.of Try.func4 rfl (by kernel_rfl) ?_
  refine R.go 10 (R.call true (szInt64S_no xs k hk hx hl) (by kernel_rfl) rfl (by kernel_rfl) ?_)
  exact R.go 13 (R.retE (AI (-1)) (by kernel_rfl) (by kernel_rfl) (by rfl))

theorem toPoset_c (n : Int) (xs : List Int) (hl : xs.length ≤ 1048576) : CallA Try.prog 6 [.agg [AI n, LI xs]] (.agg [AI n, ownA eI 2 1 xs]) := by
  refine CallA.of Try.func6 rfl (by kernel_rfl) ?_
  refine R.go 20 (R.call true (toInt64S_c xs hl) (by kernel_rfl) rfl (by kernel_rfl) ?_)
  exact R.go 8 (R.retE (.agg [AI n, ownA eI 2 1 xs]) (by kernel_rfl) (by kernel_rfl) (by rfl))

theorem eqPoset_c (n : Int) (xs : List Int) (la : xs.length ≤ 1000000000) : CallA Try.prog 10 [.agg [AI n, LI xs], .agg [AI n, LI xs]] (.bool true) := by
  refine CallA.of Try.func10 rfl (by kernel_rfl) ?_
  refine R.go 15 (R.els (!decide (n = n)) (by kernel_rfl) (nF rfl) ?_)
  refine R.go 8 (R.call true (eqInt64S_c xs xs la) (by kernel_rfl) rfl (by kernel_rfl) ?_)
  refine R.go 2 (R.els (!decide (xs = xs)) (by kernel_rfl) (nF rfl) ?_)
  exact R.go 5 (R.retE (.bool true) (by kernel_rfl) (by kernel_rfl) (by rfl))

end Go.Proofs.Ytjllngcefoohpaa


/-! The machine's rules: loops over functions. -/
namespace Go.Abs
open Go.RowKit

/-- A new object that names no block. -/
theorem HRel.extend0 {w w' : World} {Z : Nat → Prop} {B : Nat} {μ : List Value} {hp : List AObj} {u : Value} {o : AObj} (h : HRel w Z B μ hp)
    (hb : Below w.heap.size w w') (hnew : ObjRel w' Z (μ ++ [u]) B u o) (hbl : blk u = none) (hone : u.oneCell' = true) : HRel w' Z B (μ ++ [u]) (hp ++ [o]) := by
  have hold : ∀ (i : Nat) (x : Value), μ[i]? = some x → (μ ++ [u])[i]? = some x := fun i x hx => by
    rw [List.getElem?_append_left (List.getElem?_eq_some_iff.1 hx).1]; exact hx
  have hbk : ∀ (i : Nat) oi ui g, hp[i]? = some oi → oi.alive = true → μ[i]? = some ui → blk ui = some g → g < w.heap.size := fun i oi ui g h1 h2 h3 h4 => ((h.obj i oi ui h1 h3).blk_ge h2 h4).2
  have split : ∀ (i : Nat) oi ui, (hp ++ [o])[i]? = some oi → (μ ++ [u])[i]? = some ui → (hp[i]? = some oi ∧ μ[i]? = some ui) ∨ (i = hp.length ∧ oi = o ∧ ui = u) := by
    intro i oi ui h1 h2
    rcases Nat.lt_trichotomy i hp.length with hi | hi | hi
    · rw [List.getElem?_append_left hi] at h1
      rw [List.getElem?_append_left (by rw [h.len]; exact hi)] at h2
      exact .inl ⟨h1, h2⟩
    · subst hi
      rw [List.getElem?_append_right (Nat.le_refl _)] at h1
      rw [List.getElem?_append_right (by rw [h.len]; exact Nat.le_refl _), h.len] at h2
      simp at h1 h2
      exact .inr ⟨rfl, h1.symm, h2.symm⟩
    · rw [List.getElem?_eq_none (by simp; omega)] at h1
      cases h1
  refine ⟨by simp [h.len], fun i oi ui g h1 ha h2 hg => ?_, fun i x hx => ?_, fun i oi ui h1 h2 => ?_, fun i j oi oj ui uj g hne h1 h2 a1 a2 m1 m2 b1 b2 => ?_⟩
  · rcases split i oi ui h1 h2 with ⟨e1, e2⟩ | ⟨_, rfl, rfl⟩
    · exact h.zone i oi ui g e1 ha e2 hg
    · rw [hbl] at hg; cases hg
  · rcases Nat.lt_or_ge i μ.length with hi | hi
    · rw [List.getElem?_append_left hi] at hx
      exact h.one i x hx
    · rw [List.getElem?_append_right hi] at hx
      have : x = u := by
        rcases Nat.eq_zero_or_pos (i - μ.length) with h0 | h0
        · rw [h0] at hx; simpa using hx.symm
        · rw [List.getElem?_eq_none (by simp; omega)] at hx; cases hx
      subst this
      exact hone
  · rcases split i oi ui h1 h2 with ⟨e1, e2⟩ | ⟨_, rfl, rfl⟩
    · cases ho : oi.alive with
      | true => exact (h.obj i oi ui e1 e2).keep (fun b hb1 _ => hb.block b hb1) hold (fun g hg => hb.block g (hbk i oi ui g e1 ho e2 hg))
      | false => exact (h.obj i oi ui e1 e2).keep_dead (fun b hb1 _ => hb.block b hb1) hold ho
    · exact hnew
  · rcases split i oi ui h1 m1 with ⟨e1, e2⟩ | ⟨_, rfl, rfl⟩ <;> rcases split j oj uj h2 m2 with ⟨e3, e4⟩ | ⟨_, rfl, rfl⟩
    · exact h.sep i j oi oj ui uj g hne e1 e3 a1 a2 e2 e4 b1 b2
    · rw [hbl] at b2; cases b2
    · rw [hbl] at b1; cases b1
    · rw [hbl] at b1; cases b1

/-- The block r, which holds no cells, is turned; the one object that holds no cells is turned with it. -/
theorem HRel.turn {w : World} {Z : Nat → Prop} {B : Nat} {μ : List Value} {hp : List AObj} {i r : Nat} {o o' : Obj} {x' : Inert} (h : HRel w Z B μ hp) (hr : w.heap[r]? = some o) (hn : o.isCells = false)
    (hi : ∀ j x, hp[j]? = some (.inert x) → j = i) (hnew : ∀ u, μ[i]? = some u → InertRel (w.putObj r o') Z B u x') : HRel (w.putObj r o') Z B μ (hp.set i (.inert x')) := by
  have get : ∀ (j : Nat) oj, (hp.set i (.inert x'))[j]? = some oj → (j = i ∧ oj = .inert x') ∨ (hp[j]? = some oj ∧ ∀ x, oj ≠ .inert x) := by
    intro j oj hj
    by_cases hji : j = i
    · subst hji
      rcases Nat.lt_or_ge j hp.length with hlt | hge
      · rw [List.getElem?_set_self hlt] at hj; simp at hj; exact .inl ⟨rfl, hj.symm⟩
      · rw [List.getElem?_eq_none (by simpa using hge)] at hj; cases hj
    · rw [List.getElem?_set_ne (Ne.symm hji)] at hj
      exact .inr ⟨hj, fun x e => hji (hi j x (by rw [hj, e]))⟩
  refine ⟨by simpa using h.len, fun j o u g h1 ha h2 hg => ?_, h.one, fun j oj u h1 h2 => ?_, fun j k oj ok uj uk g hne h1 h2 a1 a2 m1 m2 b1 b2 => ?_⟩
  · rcases get j o h1 with ⟨rfl, rfl⟩ | ⟨h1, _⟩
    · have := (hnew u h2).blk
      rw [this] at hg; cases hg
    · exact h.zone j o u g h1 ha h2 hg
  · rcases get j oj h1 with ⟨rfl, rfl⟩ | ⟨h1, hx⟩
    · exact hnew u h2
    · exact (h.obj j oj u h1 h2).turn hr hn hx
  · rcases get j oj h1 with ⟨rfl, rfl⟩ | ⟨h1, _⟩
    · rw [(hnew uj m1).blk] at b1; cases b1
    · rcases get k ok h2 with ⟨rfl, rfl⟩ | ⟨h2, _⟩
      · rw [(hnew uk m2).blk] at b2; cases b2
      · exact h.sep j k oj ok uj uk g hne h1 h2 a1 a2 m1 m2 b1 b2

theorem oneInert_at {hp : List AObj} (h : oneInert hp = true) {i : Nat} {y : Inert} (hi : hp[i]? = some (.inert y)) : ∀ j x, hp[j]? = some (.inert x) → j = i := fun j x hj => oneInert_sound h j i x y hj hi

/-- How far the loop has come that object i stands for. -/
def lstAt (i : Nat) (hp : List AObj) : Option (Nat × LSt) :=
  match hp[i]? with
  | some (.inert (.lrec D s _ _ _ _)) => if oneInert hp then some (D, s) else none
  | _ => none

theorem lstAt_parts {i D : Nat} {s : LSt} {hp : List AObj} (h : lstAt i hp = some (D, s)) : (∃ us ps asg bd, hp[i]? = some (.inert (.lrec D s us ps asg bd))) ∧ oneInert hp = true := by
  unfold lstAt at h
  split at h
  · rename_i D' s' us ps asg bd hi
    split at h
    · cases h
      exact ⟨⟨us, ps, asg, bd, hi⟩, by assumption⟩
    · cases h
  · cases h

def Inert.to (s : LSt) : Inert → Inert
  | .lrec D _ us ps asg bd => .lrec D s us ps asg bd
  | x => x

def setL (i : Nat) (s : LSt) (hp : List AObj) : List AObj :=
  match hp[i]? with
  | some (.inert x) => hp.set i (.inert (x.to s))
  | _ => hp

def Inert.over : Inert → Inert
  | .lrec D _ _ _ _ _ => .mark D
  | x => x
def setM (i : Nat) (hp : List AObj) : List AObj :=
  match hp[i]? with
  | some (.inert x) => hp.set i (.inert x.over)
  | _ => hp

/-- The record's block is turned, and its object with it. -/
theorem HRel.turnL {w : World} {Z : Nat → Prop} {B D i : Nat} {μ : List Value} {hp : List AObj} {s : LSt} {us : List Value} {ps : Array Tmp} {asg bd : Code} (h : HRel w Z B μ hp) (h1 : oneInert hp = true)
    (hi : hp[i]? = some (.inert (.lrec D s us ps asg bd))) :
    ∃ r : Loop, w.heap[D + 1]? = some (.loop r) ∧ r.state = s.state ∧ r.pending = s.pend ∧ r.tmps = us.toArray ∧ r.params = ps ∧ r.assign = asg ∧ r.body = bd ∧ B ≤ D ∧ w.heap[D]? = some (.deferred (some [])) ∧ μ[i]? = some (.func (.yield (D + 1)) #[] #[]) ∧
      (∀ s' : LSt, HRel (w.putObj (D + 1) (.loop { r with state := s'.state, pending := s'.pend })) Z B μ (setL i s' hp)) ∧
      (∀ o', HRel (w.putObj (D + 1) o') Z B μ (setM i hp)) := by
  have hil : i < μ.length := by rw [h.len]; exact (List.getElem?_eq_some_iff.1 hi).1
  obtain ⟨u, hu⟩ : ∃ u, μ[i]? = some u := ⟨_, List.getElem?_eq_getElem hil⟩
  obtain ⟨fn, rfl, ⟨⟨hB, hz⟩, hD⟩, hz2, hl⟩ := h.obj i _ u hi hu
  refine ⟨_, hl, rfl, rfl, rfl, rfl, rfl, rfl, hB, hD, hu, fun s' => ?_, fun o' => ?_⟩
  · unfold setL
    rw [hi]
    refine h.turn hl rfl (oneInert_at h1 hi) fun u' hu' => ?_
    rw [hu] at hu'
    cases hu'
    exact ⟨fn, rfl, ⟨⟨hB, hz⟩, (World.putObj_heap_other (by omega)).trans hD⟩, hz2, World.putObj_heap_same (Array.getElem?_eq_some_iff.1 hl).1⟩
  · unfold setM
    rw [hi]
    refine h.turn hl rfl (oneInert_at h1 hi) fun u' hu' => ?_
    rw [hu] at hu'
    cases hu'
    exact ⟨rfl, ⟨hB, hz⟩, (World.putObj_heap_other (by omega)).trans hD⟩

/-- The temporaries ps become avs. -/
def setPs : List Tmp → List AV → List AV → List AV
  | p :: ps, v :: vs, fr => setPs ps vs (fr.set p v)
  | _, _, fr => fr

theorem setPs_rel {w : World} {Z : Nat → Prop} {μ : List Value} : ∀ {ps : List Tmp} {avs : List AV} {vs : List Value} {fr : List AV} {tmps : Array Value}, RelL w Z μ avs vs → RelL w Z μ fr tmps.toList → ps.length = avs.length →
    RelL w Z μ (setPs ps avs fr) ((ps.zip vs).foldl (fun t (x : Tmp × Value) => t.setIfInBounds x.1 x.2) tmps).toList
  | [], [], vs, fr, tmps, _, h, _ => by simpa [setPs] using h
  | p :: ps, c :: cs, vs, fr, tmps, hv, h, hl => by
    rw [RelL] at hv
    obtain ⟨x, xs, rfl, h1, h2⟩ := hv
    simp only [setPs, List.zip_cons_cons, List.foldl_cons]
    refine setPs_rel h2 ?_ (by simpa using hl)
    rw [Array.toList_setIfInBounds]
    exact h.set p h1
  | [], _ :: _, _, _, _, _, _, hl => by simp at hl
  | _ :: _, [], _, _, _, _, _, hl => by simp at hl

/-! ### The loop -/
def rfAt (m : M) : Option (FuncId × List AV) :=
  match m.ks with
  | .code (.rangeFunc g _ _ _) :: _ => match ev m.st.fr g with
    | .fn f caps => if noMark m.st.hp then some (f, caps) else none
    | _ => none
  | _ => none

def recM (D : Nat) (us : List Value) (m : M) : AObj :=
  match m.ks with
  | .code (.rangeFunc _ ps asg bd) :: _ => .inert (.lrec D .ready us ps asg bd)
  | _ => .dead

def afterM (j : Option Code) (m : M) (fr : List AV) (hp : List AObj) : M :=
  match m.ks with
  | .code (.rangeFunc _ _ _ _) :: ks => match j with
    | none => ⟨ks, ⟨fr, hp⟩⟩
    | some c => ⟨.code c :: ks, ⟨fr, hp⟩⟩
  | _ => m

/-- Behind the function that was ranged over: its caller goes on, or leaves by the jump of a round. -/
def rangeQ (P : Program) (fn : Func) (m : M) (n D : Nat) (us : List Value) (Q : Exit → St → Prop) : Exit → St → Prop := fun e st' =>
  (e = .normal ∨ e = .ret) ∧ ∃ res fr' s, resIn P fn st' = some res ∧ frameAt n st' = some (us, fr') ∧ lstAt (n + 1) st'.hp = some (D, s) ∧
    (match s with
     | .busy => False
     | s => Runs none P (afterM s.pend m fr' (setM (n + 1) (st'.hp.set n .dead))) Q)

section
variable {P : Program} {m : M} {Q : Exit → St → Prop}

theorem oneInert_dead : ∀ {hp : List AObj} (n : Nat), oneInert hp = true → oneInert (hp.set n .dead) = true
  | [], n, h => by simpa using h
  | o :: hp, 0, h => by
    unfold oneInert at h
    simp only [List.set_cons_zero, oneInert, isInert, Bool.false_eq_true, if_false]
    split at h
    · rename_i ho
      clear ho
      induction hp with
      | nil => rfl
      | cons o hp ih =>
        simp only [List.all_cons, Bool.and_eq_true] at h
        simp only [oneInert]
        rw [if_neg (by simpa using h.1)]
        exact ih h.2
    · exact h
  | o :: hp, n + 1, h => by
    unfold oneInert at h
    simp only [List.set_cons_succ, oneInert]
    split at h
    · rename_i ho
      rw [if_pos ho, List.all_eq_true]
      intro o' ho'
      rcases List.mem_or_eq_of_mem_set ho' with h1 | rfl
      · exact List.all_eq_true.1 h o' h1
      · rfl
    · rename_i ho
      rw [if_neg ho]
      exact oneInert_dead n h

theorem R.range {f : FuncId} {fn : Func} {c : Code} {caps : List AV} (hf : P.funcs[f]? = some fn) (hb : fn.body = some c) (hnm : (fn.name == "runtime.NumGoroutine") = false) (h : rfAt m = some (f, caps))
    (h' : ∀ (D : Nat) (us : List Value), Runs none P ⟨[.code c], ⟨frameOf fn.ntmps (.ref (m.st.hp.length + 1) :: caps), m.st.hp ++ [.frame us m.st.fr] ++ [recM D us m]⟩⟩ (rangeQ P fn m m.st.hp.length D us Q)) : Runs none P m Q := by
  have hen := enters_of hf hnm (by rw [hb]; rfl)
  obtain ⟨ks, ⟨fr, hp⟩⟩ := m
  unfold rfAt at h
  simp only at h
  rw [runs_iff]
  split at h
  · rename_i g ps asg bd ks'
    split at h
    · rename_i f' caps' hg
      split at h
      · rename_i hnmk
        cases h
        simp only [recM] at h'
        simp only [RunsK]
        intro Z0 w0 a w hS
        obtain ⟨μ, F, hFb, hH, hF, hd, hbel⟩ := hS
        have hd0 := hd.none hnmk
        refine wpIn_rangeFunc ?_
        intro fnid _
        have hgv := hg ▸ ev_rel hF g
        simp only [Rel] at hgv
        obtain ⟨cv, hgv, hcr⟩ := hgv
        obtain ⟨rec, hrec⟩ : ∃ rec : Loop, rec = { state := .ready, pending := none, fn := fnid, tmps := a.tmps, params := ps, assign := asg, body := bd, defers := w.heap.size } := ⟨_, rfl⟩
        obtain ⟨W1, hW1⟩ : ∃ W1, (w.alloc (.deferred (some []))).alloc (.loop rec) = W1 := ⟨_, rfl⟩
        have hL1 : W1.heap[w.heap.size + 1]? = some (.loop rec) := by
          rw [← hW1]; have := World.alloc_heap_new (w.alloc (.deferred (some []))) (.loop rec); rwa [World.size_alloc] at this
        have hK1 : W1.heap[w.heap.size]? = some (.deferred (some [])) := by
          rw [← hW1]; exact (Below.heap_alloc _ _ _ (by simp)).trans (World.alloc_heap_new w _)
        have hsz : W1.heap.size = w.heap.size + 2 := by rw [← hW1]; simp
        have hb1 : Below w.heap.size w W1 := by
          rw [← hW1]; exact ((Below.refl _ w).alloc (Nat.le_refl _) _).alloc (by simp) _
        refine ⟨w.heap.size + 1, [{ target := .collected w.heap.size, args := #[] }], W1, { target := .fn (.func f) cv.toArray, args := #[.func (.yield (w.heap.size + 1)) #[] #[]] }, W1, f,
          #[.func (.yield (w.heap.size + 1)) #[] #[]] ++ cv.toArray, W1, ?_, ?_, fun _ _ => trivial, ?_, fun hd => absurd hd (by simp [Fc, Fence.wide]), ?_⟩
        · rw [← hW1, hrec]; exact run_enterLoop_outer _ _ _ _ _
        · simp only [resolve, hgv]
          simp [go_sem]
        · simp [invoke, go_sem, hen _ W1]
        · -- the function that is ranged over
          have hrun := h' w.heap.size a.tmps.toList
          simp only [runs_iff, RunsK] at hrun
          have hFb2 : ∀ b, (F b ∨ b = w.heap.size ∨ b = w.heap.size + 1) → w0.heap.size ≤ b ∧ b < W1.heap.size := fun b hb => by
            have hB := hbel.size
            rcases hb with hb | rfl | rfl
            · have := hFb b hb; omega
            · omega
            · omega
          have hz : ∀ b, b < w.heap.size → ¬ Zone Z0 F w0.heap.size b → ¬ Zone Z0 (fun b => F b ∨ b = w.heap.size ∨ b = w.heap.size + 1) w0.heap.size b := fun b _ hb => zone_more (F' := fun b => b = w.heap.size ∨ b = w.heap.size + 1) b hb
          have hzz : ∀ b, b < w.heap.size → Zone Z0 F w0.heap.size b → Zone Z0 (fun b => F b ∨ b = w.heap.size ∨ b = w.heap.size + 1) w0.heap.size b := fun b hb h => h.elim .inl fun h2 => .inr ⟨h2.1, fun hf => hf.elim h2.2 (fun h3 => by omega)⟩
          have hnz : ∀ b, w.heap.size ≤ b → b ≤ w.heap.size + 1 → ¬ Zone Z0 (fun b => F b ∨ b = w.heap.size ∨ b = w.heap.size + 1) w0.heap.size b := fun b h1 h2 h => by
            have hB := hbel.size
            rcases h with h | h
            · omega
            · exact h.2 (.inr (by omega))
          have hH1 := (hH.weak hz hzz).extend0 (u := .bool false) (o := .frame a.tmps.toList fr) (Below.refl _ _) (RelL.keep (w := w) (fun _ _ _ => rfl) (fun i u hu => append_old i u hu) (hF.weak hz)) rfl rfl
          have hH2 := hH1.extend0 (u := .func (.yield (w.heap.size + 1)) #[] #[]) (o := .inert (.lrec w.heap.size .ready a.tmps.toList ps asg bd)) hb1
            ⟨fnid, rfl, ⟨⟨hbel.size, hnz _ (Nat.le_refl _) (by omega)⟩, hK1⟩, hnz _ (by omega) (Nat.le_refl _), by rw [hL1, hrec]; rfl⟩ rfl rfl
          have hlen := hcr.length
          have hkeep : ∀ {cs : List AV} {vs : List Value}, RelL w (Zone Z0 F w0.heap.size) μ cs vs → RelL W1 (Zone Z0 (fun b => F b ∨ b = w.heap.size ∨ b = w.heap.size + 1) w0.heap.size) (μ ++ [.bool false] ++ [.func (.yield (w.heap.size + 1)) #[] #[]]) cs vs := fun h =>
            RelL.keep (w := w) (fun b hb _ => hb1.block b hb) (fun i u hu => append_old i u (append_old i u hu)) (h.weak hz)
          have hS2 : Sim Z0 w0 ⟨frameOf fn.ntmps (.ref (hp.length + 1) :: caps), hp ++ [.frame a.tmps.toList fr] ++ [.inert (.lrec w.heap.size .ready a.tmps.toList ps asg bd)]⟩
              { tmps := (#[Value.func (.yield (w.heap.size + 1)) #[] #[]] ++ cv.toArray) ++ Array.replicate (fn.ntmps - (#[Value.func (.yield (w.heap.size + 1)) #[] #[]] ++ cv.toArray).size) undef, defers := [] } W1 := by
            refine ⟨_, _, hFb2, hH2, ?_, .inl rfl, hbel.trans (hb1.mono hbel.size)⟩
            have hall : RelL W1 (Zone Z0 (fun b => F b ∨ b = w.heap.size ∨ b = w.heap.size + 1) w0.heap.size) (μ ++ [.bool false] ++ [.func (.yield (w.heap.size + 1)) #[] #[]]) (.ref (hp.length + 1) :: caps) (.func (.yield (w.heap.size + 1)) #[] #[] :: cv) := by
              refine RelL.cons ?_ (hkeep hcr)
              simp only [Rel]
              rw [← hH.len]
              simp
            have e1 : (#[Value.func (.yield (w.heap.size + 1)) #[] #[]] ++ cv.toArray) = (Value.func (.yield (w.heap.size + 1)) #[] #[] :: cv).toArray := by simp
            rw [e1]
            have hl2 := hall.length
            simp only [Array.toList_append, Array.toList_replicate, List.size_toArray, hl2, frameOf]
            refine RelL.append hall ?_
            generalize fn.ntmps - (AV.ref (hp.length + 1) :: caps).length = n
            induction n with
            | zero => exact RelL.nil
            | succ n ih => exact RelL.cons (by simp [Rel]) ih
          refine callsIn_of_wp (F := Fc none) (n := 0 - 1) hf hb trivial (wpIn_mono (hrun Z0 w0 _ W1 hS2) ?_)
          have fin : ∀ (e : Exit) (st' : St) (a' : Act) (w' : World), rangeQ P fn ⟨.code (.rangeFunc g ps asg bd) :: ks', ⟨fr, hp⟩⟩ hp.length w.heap.size a.tmps.toList Q e st' → Sim Z0 w0 st' a' w' → a'.defers = [] ∧ ∃ v, (results fn a'.tmps).run P w' = .ok v w' ∧
              rangePost (Fc none) 0 P (w.heap.size + 1) (fun e a' w' => ∃ st', RunsK none P Q ks' e st' ∧ Sim Z0 w0 st' a' w') { a with defers := [{ target := .collected w.heap.size, args := #[] }] ++ a.defers } (.returned v) w' := by
            rintro e st' a' w' ⟨_, res, fr', s, hres, hfr, hls, hgo⟩ ⟨μ', F', hFb', hH', hF', hd', hbel'⟩
            obtain ⟨x, h1, h2⟩ := resIn_run hH' hF' hres
            obtain ⟨⟨us', ps', asg', bd', hi⟩, hone⟩ := lstAt_parts hls
            refine ⟨hd'.none (resIn_mark hres), x, h1, ?_⟩
            unfold frameAt at hfr
            split at hfr
            · rename_i us2 fr2 hi2
              cases hfr
              have hil : hp.length < μ'.length := by rw [hH'.len]; exact (List.getElem?_eq_some_iff.1 hi2).1
              have hfrr : RelL w' (Zone Z0 F' w0.heap.size) μ' fr' a.tmps.toList := hH'.obj _ _ _ hi2 (List.getElem?_eq_getElem hil)
              have hi3 : (st'.hp.set hp.length .dead)[hp.length + 1]? = some (.inert (.lrec w.heap.size s us' ps' asg' bd')) := by
                rw [List.getElem?_set_ne (by omega)]; exact hi
              obtain ⟨r, hr1, hr2, hr3, _, _, _, _, hBD, hD, hμ, _, hM⟩ := (hH'.bury hp.length).turnL (oneInert_dead _ hone) hi3
              have hend := run_endLoop (P := P) hr1
              have hsim : Sim Z0 w0 ⟨fr', setM (hp.length + 1) (st'.hp.set hp.length .dead)⟩ { a with defers := [{ target := .collected w.heap.size, args := #[] }] ++ a.defers } (w'.putObj (w.heap.size + 1) (.loop { r with state := .exhausted })) := by
                refine ⟨μ', F', fun b hb => by rw [World.putObj_size]; exact hFb' b hb, hM _, hfrr.cells (putObj_cells hr1 rfl), .inr ⟨hp.length + 1, w.heap.size, _, ?_, hμ, by rw [hd0]; rfl⟩, ?_⟩
                · unfold setM
                  rw [hi3]
                  simp only [Inert.over]
                  rw [List.getElem?_set_self]
                  have := (List.getElem?_eq_some_iff.1 hi3).1
                  exact this
                · exact hbel'.grown (grownBy_putObj' w' _ _) hbel'.size (fun k e => by cases e; omega)
              cases s with
              | ready =>
                refine ⟨none, w'.putObj (w.heap.size + 1) (.loop { r with state := .exhausted }), (hend (by rw [hr2]; simp [LSt.state])).trans (congrArg (fun x => Result.ok x _) hr3), ?_⟩
                simp only [runs_iff, afterM, LSt.pend] at hgo
                exact ⟨_, hgo, hsim⟩
              | busy => exact hgo.elim
              | done c =>
                refine ⟨some c, w'.putObj (w.heap.size + 1) (.loop { r with state := .exhausted }), (hend (by rw [hr2]; simp [LSt.state])).trans (congrArg (fun x => Result.ok x _) hr3), ?_⟩
                simp only [runs_iff, afterM, LSt.pend, RunsK] at hgo
                exact hgo Z0 w0 _ _ hsim
            · cases hfr
          rintro e a' w' ⟨st', hq, hS'⟩
          cases e with
          | normal => exact fin _ st' a' w' hq hS'
          | ret => exact fin _ st' a' w' hq hS'
          | exit id => exact absurd hq.1 (by simp)
          | goto l => exact absurd hq.1 (by simp)
          | panic ch => exact absurd hq.1 (by simp)
          | outgrown => exact absurd hq.1 (by simp)
      · cases h
    · cases h
  · cases h

/-! ### Rounds -/
/-- The head calls yield: the record's object, its D, the values us of the caller's frame (by the record, by the frame), the caller's frame with the loop's variables set. -/
def ylAt (m : M) : Option (Nat × Nat × List Value × List Value) :=
  match opM m with
  | some (.call c) => match c.callee with
    | .value f => match ev m.st.fr f with
      | .ref i => match m.st.hp[i]?, m.st.hp[i - 1]? with
        | some (.inert (.lrec D .ready us ps _ _)), some (.frame us' _) => if noMark m.st.hp && oneInert m.st.hp && decide (ps.size = c.args.size) then some (i, D, us, us') else none
        | _, _ => none
      | _ => none
    | _ => none
  | _ => none

def ylF (m : M) : List AV :=
  match opM m with
  | some (.call c) => match c.callee with
    | .value f => match ev m.st.fr f with
      | .ref i => match m.st.hp[i]?, m.st.hp[i - 1]? with
        | some (.inert (.lrec _ _ _ ps _ _)), some (.frame _ fr) => setPs ps.toList (c.args.toList.map (ev m.st.fr)) fr
        | _, _ => []
      | _ => []
    | _ => []
  | _ => []

def ylC (m : M) : Code × Code :=
  match opM m with
  | some (.call c) => match c.callee with
    | .value f => match ev m.st.fr f with
      | .ref i => match m.st.hp[i]? with
        | some (.inert (.lrec _ _ _ _ asg bd)) => (asg, bd)
        | _ => (.skip, .skip)
      | _ => (.skip, .skip)
    | _ => (.skip, .skip)
  | _ => (.skip, .skip)

/-- Behind the assignments to the loop's variables the record is busy and the body runs. -/
def beginQ (l : Nat) (P : Program) (i D : Nat) (bd : Code) (Q : Exit → St → Prop) : Exit → St → Prop := fun e st' =>
  e = .normal ∧ lstAt i st'.hp = some (D, .ready) ∧ Runs (some l) P ⟨[.code bd], ⟨st'.fr, setL i .busy st'.hp⟩⟩ Q

/-- Behind a round yield's caller goes on. -/
def roundQ (P : Program) (m : M) (i D n : Nat) (us : List Value) (Q : Exit → St → Prop) : Exit → St → Prop := fun e st' =>
  ∃ fr', frameAt n st' = some (us, fr') ∧ lstAt i st'.hp = some (D, .busy) ∧
    match e with
    | .normal => Runs none P (backM m fr' (.bool true) (setL i .ready (st'.hp.set n .dead))) Q
    | .ret => Runs none P (backM m fr' (.bool false) (setL i (.done .ret) (st'.hp.set n .dead))) Q
    | .exit id => Runs none P (backM m fr' (.bool false) (setL i (.done (.exit id)) (st'.hp.set n .dead))) Q
    | _ => False

theorem R.yield (i D : Nat) (us : List Value) (h : ylAt m = some (i, D, us, us)) (ho : opsAt m = true)
    (h' : ∀ (l : Nat) (us' : List Value), Runs (some l) P ⟨[.code (ylC m).1], ⟨ylF m, m.st.hp ++ [.frame us' m.st.fr]⟩⟩ (beginQ l P i D (ylC m).2 (roundQ P m i D m.st.hp.length us' Q))) : Runs none P m Q := by
  obtain ⟨ks, ⟨fr, hp⟩⟩ := m
  unfold ylAt at h
  unfold ylF ylC at h'
  unfold opM headOf at h h'
  unfold opsAt at ho
  simp only at h ho h'
  rw [runs_iff]
  split at ho
  · rename_i all o lst fl ks'
    simp only at h h'
    split at h
    · rename_i c hop
      split at hop
      · rename_i hw
        simp only [Option.some.injEq] at hop
        simp only [hw, if_true, hop] at h'
        split at h
        · rename_i fo hcal
          simp only [hcal] at h'
          split at h
          · rename_i i0 hev
            simp only [hev] at h'
            split at h
            · rename_i D0 us0 ps asg bd us1 cfr hi0 hi1
              simp only [hi0, hi1] at h'
              split at h
              · rename_i hc
                simp only [Bool.and_eq_true, decide_eq_true_eq] at hc
                obtain ⟨⟨hnmk, hone⟩, hps⟩ := hc
                simp only [Option.some.injEq, Prod.mk.injEq] at h
                obtain ⟨rfl, rfl, rfl, rfl⟩ := h
                simp only [RunsK]
                intro hW
                have hwant := wantH_true hw hW
                intro Z0 w0 a w hS
                obtain ⟨μ, F, hFb, hH, hF, hd, hbel⟩ := hS
                have hd0 := hd.none hnmk
                refine wpListIn_step fun K hK => ?_
                rw [wanted_rel hF hwant, if_pos rfl]
                have hE : ∀ y, Rel w (Zone Z0 F w0.heap.size) μ (ev fr y) (a.eval y) := fun y => ev_rel hF y
                have hcv := hev ▸ hE fo
                simp only [Rel] at hcv
                obtain ⟨r, hr1, hr2, hr3, hr4, hr5, hr6, hr7, hBD, hD, hμ, hL, _⟩ := hH.turnL hone hi0
                rw [hμ] at hcv
                have hcv : a.eval fo = .func (.yield (D0 + 1)) #[] #[] := (Option.some.inj hcv).symm
                have hargs' : RelL w (Zone Z0 F w0.heap.size) μ (c.args.toList.map (ev fr)) (c.args.toList.map a.eval) := by
                  generalize c.args.toList = l
                  induction l with
                  | nil => exact RelL.nil
                  | cons x l ih => exact RelL.cons (hE x) ih
                have hrun : (execOp a.eval o).run P w = .ok (.round (D0 + 1) r.fn ((ps.zip (c.args.map a.eval)).foldl (fun tmps (x : Tmp × Value) => tmps.setIfInBounds x.1 x.2) us1.toArray) asg bd) w := by
                  have hy := run_yield (P := P) (args := c.args.map a.eval) hr1 (by rw [hr5, Array.size_map]; exact hps.symm)
                  rw [hr4, hr5, hr6, hr7] at hy
                  obtain ⟨callee, cargs, tys⟩ := c
                  simp only at hcal hy
                  subst hcal
                  simp only [execOp, hop, resolve, Deferred.ofValue, hcv, Sem.run_bind, Sem.run_pure, Result.andThen_ok, invoke, Array.empty_append, Array.append_empty]
                  exact hy
                refine wpIn_of_run (fun c' => by rw [hop]; simp) ?_
                rw [hrun, Oper.uponIn_round]
                refine ⟨fun hd => absurd hd (by simp [Fc, Fence.wide]), ?_⟩
                refine roundIn_of_wpIn (F := Fc none) trivial ?_
                have hrun2 := h' (D0 + 1) a.tmps.toList
                simp only [runs_iff, RunsK] at hrun2
                have hil : i0 - 1 < μ.length := by rw [hH.len]; exact (List.getElem?_eq_some_iff.1 hi1).1
                have hcfr : RelL w (Zone Z0 F w0.heap.size) μ cfr us1 := hH.obj _ _ _ hi1 (List.getElem?_eq_getElem hil)
                have hS2 : Sim Z0 w0 ⟨setPs ps.toList (c.args.toList.map (ev fr)) cfr, hp ++ [.frame a.tmps.toList fr]⟩ { tmps := (ps.zip (c.args.map a.eval)).foldl (fun tmps (x : Tmp × Value) => tmps.setIfInBounds x.1 x.2) us1.toArray, defers := [] } w := by
                  refine ⟨μ ++ [.bool false], F, hFb, hH.extend0 (Below.refl _ _) (RelL.keep (w := w) (fun _ _ _ => rfl) (fun i u hu => append_old i u hu) hF) rfl rfl, ?_, .inl rfl, hbel⟩
                  have := setPs_rel (ps := ps.toList) (tmps := us1.toArray) hargs' hcfr (by simpa using hps)
                  refine RelL.keep (w := w) (fun _ _ _ => rfl) (fun i u hu => append_old i u hu) ?_
                  rw [← Array.foldl_toList, Array.toList_zip, Array.toList_map]
                  exact this
                refine wpIn_mono (hrun2 Z0 w0 _ w hS2) ?_
                rintro e a1 w1 ⟨st1, ⟨rfl, hls, hgo⟩, hS1⟩
                obtain ⟨⟨us2, ps2, as2, bd2, hj⟩, hone1⟩ := lstAt_parts hls
                obtain ⟨μ1, F1, hFb1, hH1, hF1, hd1, hbel1⟩ := hS1
                obtain ⟨r1, k1, k2, k3, k4, k5, k6, k7, kB, kD, kμ, kL, _⟩ := hH1.turnL hone1 hj
                refine ⟨_, run_beginRound k1 (by rw [k2]; rfl), ?_⟩
                have hbusy : ({ r1 with state := .busy } : Loop) = { r1 with state := LSt.busy.state, pending := LSt.busy.pend } := by
                  rw [show LSt.busy.pend = r1.pending from k3.symm]; rfl
                have keepD : ∀ {hp' : List AObj} {μ' : List Value} {ds : List Deferred} (s : LSt), Defs μ' hp' ds → noMark hp' = true → Defs μ' (setL i0 s hp') ds := fun s h hn => .inl (h.none hn)
                have hS3 : Sim Z0 w0 ⟨st1.fr, setL i0 .busy st1.hp⟩ a1 (w1.putObj (D0 + 1) (.loop { r1 with state := .busy })) := by
                  refine ⟨μ1, F1, fun b hb => by rw [World.putObj_size]; exact hFb1 b hb, by rw [hbusy]; exact kL .busy, hF1.cells (putObj_cells k1 rfl), ?_, hbel1.grown (grownBy_putObj' w1 _ _) hbel1.size (fun k e => by cases e; omega)⟩
                  rcases hd1 with hd1 | ⟨i', D', u', e1, _, _⟩
                  · exact .inl hd1
                  · exfalso
                    have := oneInert_at hone1 hj _ _ e1
                    subst this
                    rw [hj] at e1
                    cases e1
                simp only [runs_iff, RunsK] at hgo
                refine wpIn_mono (hgo Z0 w0 _ _ hS3) ?_
                have fin : ∀ (s : LSt) (j : Option Code) (b : Bool) (st2 : St) (a2 : Act) (w2 : World) (fr2 : List AV), s.pend = j → s.state = (if j.isNone then LoopState.ready else LoopState.done) → b = j.isNone → frameAt hp.length st2 = some (a.tmps.toList, fr2) → lstAt i0 st2.hp = some (D0, .busy) → Sim Z0 w0 st2 a2 w2 →
                    Runs none P (backM ⟨.ops all (o :: lst) fl :: ks', ⟨fr, hp⟩⟩ fr2 (.bool b) (setL i0 s (st2.hp.set hp.length .dead))) Q → ∃ v w3, (Instr.endRound (D0 + 1) j).run P w2 = .ok v w3 ∧ K (a.put o.dst v) w3 := by
                  rintro s j b st2 a2 w2 fr2 rfl hst rfl hfr hls2 ⟨μ2, F2, hFb2, hH2, hF2, hd2, hbel2⟩ hgo2
                  obtain ⟨⟨us3, ps3, as3, bd3, hj3⟩, hone2⟩ := lstAt_parts hls2
                  unfold frameAt at hfr
                  split at hfr
                  · rename_i us4 fr4 hi4
                    cases hfr
                    have hne : hp.length ≠ i0 := by
                      intro e
                      rw [e, hj3] at hi4
                      cases hi4
                    have hj4 : (st2.hp.set hp.length .dead)[i0]? = some (.inert (.lrec D0 .busy us3 ps3 as3 bd3)) := by
                      rw [List.getElem?_set_ne hne]; exact hj3
                    obtain ⟨r2, q1, q2, q3, _, _, _, _, qB, _, _, qL, _⟩ := (hH2.bury hp.length).turnL (oneInert_dead _ hone2) hj4
                    refine ⟨_, _, run_endRound _ q1, hK _ _ ?_⟩
                    have hil2 : hp.length < μ2.length := by rw [hH2.len]; exact (List.getElem?_eq_some_iff.1 hi4).1
                    have hfrr : RelL w2 (Zone Z0 F2 w0.heap.size) μ2 fr2 a.tmps.toList := hH2.obj _ _ _ hi4 (List.getElem?_eq_getElem hil2)
                    simp only [runs_iff, backM, RunsK] at hgo2
                    refine hgo2 headW_false Z0 w0 _ _ ⟨μ2, F2, fun b hb => by rw [World.putObj_size]; exact hFb2 b hb, ?_, put_rel (hfrr.cells (putObj_cells q1 rfl)) _ (by simp [Rel]), by rw [put_defers']; exact .inl hd0, hbel2.grown (grownBy_putObj' w2 _ _) hbel2.size (fun k e => by cases e; omega)⟩
                    rw [← hst]
                    exact qL s
                  · cases hfr
                rintro e a2 w2 ⟨st2, ⟨fr2, hfr, hls2, hgo2⟩, hS4⟩
                cases e with
                | normal => exact fin .ready none true st2 a2 w2 fr2 rfl rfl rfl hfr hls2 hS4 hgo2
                | ret => exact fin (.done .ret) (some .ret) false st2 a2 w2 fr2 rfl rfl rfl hfr hls2 hS4 hgo2
                | exit id => exact fin (.done (.exit id)) (some (.exit id)) false st2 a2 w2 fr2 rfl rfl rfl hfr hls2 hS4 hgo2
                | goto l => exact hgo2.elim
                | panic ch => exact hgo2.elim
                | outgrown => exact hgo2.elim
              · cases h
            · cases h
          · cases h
        · cases h
      · cases hop
    · cases h
  · cases ho

theorem R.begin {l i D : Nat} {bd : Code} (h : m.ks = []) (hl : lstAt i m.st.hp = some (D, .ready)) (h' : Runs (some l) P ⟨[.code bd], ⟨m.st.fr, setL i .busy m.st.hp⟩⟩ Q) : Runs (some l) P m (beginQ l P i D bd Q) := by
  obtain ⟨ks, st⟩ := m
  simp only at h hl h'
  subst h
  rw [runs_iff]
  exact ⟨rfl, hl, h'⟩

/-- A round ends; the loop goes on. -/
theorem R.round {l i D n : Nat} {m0 : M} {us : List Value} (fr' : List AV) (h : m.ks = []) (hf : frameAt n m.st = some (us, fr')) (hl : lstAt i m.st.hp = some (D, .busy))
    (h' : Runs none P (backM m0 fr' (.bool true) (setL i .ready (m.st.hp.set n .dead))) Q) : Runs (some l) P m (roundQ P m0 i D n us Q) := by
  obtain ⟨ks, st⟩ := m
  simp only at h hl h' hf
  subst h
  rw [runs_iff]
  exact ⟨fr', hf, hl, h'⟩

/-- The function that was ranged over ends, all rounds having gone on. -/
theorem R.over {fn : Func} {n D : Nat} {us : List Value} {m0 : M} (res : AV) (fr' : List AV) (h : (edAt m).isSome = true) (hr : resIn P fn m.st = some res) (hf : frameAt n m.st = some (us, fr')) (hl : lstAt (n + 1) m.st.hp = some (D, .ready))
    (h' : Runs none P (afterM none m0 fr' (setM (n + 1) (m.st.hp.set n .dead))) Q) : Runs none P m (rangeQ P fn m0 n D us Q) :=
  R.fin h ⟨.inl rfl, res, fr', .ready, hr, hf, hl, h'⟩ ⟨.inr rfl, res, fr', .ready, hr, hf, hl, h'⟩

/-- .. a round having left by the jump c. -/
theorem R.left {fn : Func} {n D : Nat} {us : List Value} {m0 : M} (c : Code) (res : AV) (fr' : List AV) (h : (edAt m).isSome = true) (hr : resIn P fn m.st = some res) (hf : frameAt n m.st = some (us, fr')) (hl : lstAt (n + 1) m.st.hp = some (D, .done c))
    (h' : Runs none P (afterM (some c) m0 fr' (setM (n + 1) (m.st.hp.set n .dead))) Q) : Runs none P m (rangeQ P fn m0 n D us Q) :=
  R.fin h ⟨.inl rfl, res, fr', .done c, hr, hf, hl, h'⟩ ⟨.inr rfl, res, fr', .done c, hr, hf, hl, h'⟩

end

end Go.Abs


/-! The machine's rules: slices without spare room; ways that meet again. -/
namespace Go.Abs
open Go.RowKit Go.ChangeShapes Go.WideShapes Go.Deep

section
variable {rd : Option Nat} {P : Program} {m : M} {Q : Exit → St → Prop} {α : Type}

/-! ### Rows of slices, all nil at first -/
/-! ### A part of a tuple that may come first -/
/-! ### Ways that meet again -/
def meetQ (S : St) : Exit → St → Prop := fun e st => e = .normal ∧ st = S
theorem np_meet (S : St) : NoPanic (meetQ S) := fun _ _ h => by simp [meetQ] at h

def mtAt (m : M) : Bool :=
  match m.ks with
  | .code _ :: _ => true
  | _ => false

theorem R.meet (S : St) (h : mtAt m = true) (h1 : Runs rd P ⟨m.ks.take 1, m.st⟩ (meetQ S)) (h2 : Runs rd P ⟨m.ks.tail, S⟩ Q) : Runs rd P m Q := by
  obtain ⟨ks, st⟩ := m
  unfold mtAt at h
  simp only [runs_iff] at h h1 h2 ⊢
  split at h
  · rename_i c ks'
    simp only [List.take_succ_cons, List.take_zero, List.tail_cons, RunsK] at h1 h2 ⊢
    refine h1.mono ?_
    rintro e st' ⟨rfl, rfl⟩
    exact h2
  · cases h

theorem R.met {S : St} (h : m.ks = []) (hs : m.st = S) : Runs rd P m (meetQ S) := by
  obtain ⟨ks, st⟩ := m
  simp only at h hs
  subst h hs
  rw [runs_iff]
  exact ⟨rfl, rfl⟩

end

/-! ### Rows of rows of pairs, handed to a law -/
section
variable {H : Type} {enc : TypeId × Value → H} {P : Program} {w : World} {base : Nat} {spare : Nat → Bool} {held : Bool}

end

end Go.Abs


/-! The machine's rules: the end of a row is cleared. -/
namespace Go.Abs
open Go.RowKit

theorem set_self {α : Type} {xs : List α} {i : Nat} {x : α} (h : xs[i]? = some x) : xs.set i x = xs := by
  apply List.ext_getElem?
  intro j
  by_cases e : i = j
  · subst e
    rw [List.getElem?_set_self (List.getElem?_eq_some_iff.1 h).1, h]
  · rw [List.getElem?_set_ne e]

section
variable {rd : Option Nat} {P : Program} {Q : Exit → St → Prop}

end
end Go.Abs
