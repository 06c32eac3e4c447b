/- Texts of the proof: W01, W02. -/
import Derived.Test.YtalfakdiinhdnaaPartE

/-! Posets: what both packages take for one. -/
namespace Go.Proofs.Ytalfakdiinhdnaa
open Go.RowKit Go.Abs

theorem rowN_ext {N : Nat} {X Y : List Int} (hx : X.length = N) (hy : Y.length = N) (h : ∀ j : Nat, j < N → X.getD j 0 = Y.getD j 0) : X = Y := by
  apply List.ext_getElem (by omega)
  intro j h1 h2
  have := h j (by omega)
  simpa [List.getD_eq_getElem?_getD, List.getElem?_eq_getElem h1, List.getElem?_eq_getElem h2] using this
def rB (N : Nat) (xs : List Int) : Bool := (List.range N).all fun i => tb (xs.getD i 0) i
def tB (N : Nat) (xs : List Int) : Bool := (List.range N).all fun i => (List.range N).all fun j => (List.range N).all fun k => !(tb (xs.getD i 0) j && tb (xs.getD j 0) k) || tb (xs.getD i 0) k
def AC (xs : List Int) (i j : Nat) : Prop := tb (xs.getD i 0) j = true → tb (xs.getD j 0) i = true → i = j
def aB (N : Nat) (xs : List Int) : Bool := (List.range N).all fun i => (List.range N).all fun j => !(tb (xs.getD i 0) j && tb (xs.getD j 0) i) || decide (i = j)
def okPo (n : Int) (xs : List Int) : Bool := okFr n xs && (rB n.toNat xs && (tB n.toNat xs && aB n.toNat xs))
theorem rB_iff {N : Nat} {xs : List Int} : rB N xs = true ↔ ∀ i : Nat, i < N → tb (xs.getD i 0) i = true := by simp [rB]
theorem tB_iff {N : Nat} {xs : List Int} : tB N xs = true ↔ ∀ i : Nat, i < N → ∀ j : Nat, j < N → ∀ k : Nat, k < N → tb (xs.getD i 0) j = true → tb (xs.getD j 0) k = true → tb (xs.getD i 0) k = true := by
  simp only [tB, List.all_eq_true, List.mem_range]
  constructor
  · intro h i hi j hj k hk h1 h2
    have := h i hi j hj k hk
    rw [h1, h2] at this
    simpa using this
  · intro h i hi j hj k hk
    cases h1 : tb (xs.getD i 0) j <;> cases h2 : tb (xs.getD j 0) k <;> simp
    have := h i hi j hj k hk h1 h2
    simpa using this
theorem aB_iff {N : Nat} {xs : List Int} : aB N xs = true ↔ ∀ i : Nat, i < N → ∀ j : Nat, j < N → AC xs i j := by
  simp only [aB, List.all_eq_true, List.mem_range]
  constructor
  · intro h i hi j hj h1 h2
    have := h i hi j hj
    rw [h1, h2] at this
    simpa using this
  · intro h i hi j hj
    have := h i hi j hj
    unfold AC at this
    cases h1 : tb (xs.getD i 0) j <;> cases h2 : tb (xs.getD j 0) i <;> simp
    exact this h1 h2
theorem rB_no {N : Nat} {xs : List Int} {i : Nat} (hi : i < N) (h : ¬ tb (xs.getD i 0) i = true) : false = rB N xs := by
  cases e : rB N xs with
  | false => rfl
  | true => exact absurd (rB_iff.1 e i hi) h
theorem aB_no {N : Nat} {xs : List Int} {i j : Nat} (hi : i < N) (hj : j < N) (h1 : tb (xs.getD i 0) j = true) (h2 : tb (xs.getD j 0) i = true) (h : ¬ (i : Int) = (j : Int)) : false = aB N xs := by
  cases e : aB N xs with
  | false => rfl
  | true => exact absurd (aB_iff.1 e i hi j hj h1 h2) (by omega)
theorem bitT {N : Nat} {xs : List Int} (hR : RelOK N xs) (hN : N ≤ 30) {x j : Nat} (hx : x < N) (hj : j ≤ 61) (h : band (shr64 (xs.getD x 0) (j : Int)) 1 = 1) : tb (xs.getD x 0) j = true := (has_tb (n := N) (by omega) (hR.2 x hx) hj).1 h
theorem bitF {N : Nat} {xs : List Int} (hR : RelOK N xs) (hN : N ≤ 30) {x j : Nat} (hx : x < N) (hj : j ≤ 61) (h : ¬ band (shr64 (xs.getD x 0) (j : Int)) 1 = 1) : ¬ tb (xs.getD x 0) j = true := fun e => h ((has_tb (n := N) (by omega) (hR.2 x hx) hj).2 e)
theorem below1 {P : Nat → Prop} {x : Nat} (h : ∀ i : Nat, i < x → P i) (hx : P x) : ∀ i : Nat, i < x + 1 → P i := fun i hi => by
  by_cases e : i = x
  · rw [e]; exact hx
  · exact h i (by omega)
def TR (xs : List Int) (i : Nat) : Prop := bnot (img xs (xs.getD i 0) xs.length) (xs.getD i 0) = 0
theorem TR_iff {N : Nat} {xs : List Int} (hR : RelOK N xs) (hN : N ≤ 30) {i : Nat} (hi : i < N) : TR xs i ↔ ∀ j k : Nat, tb (xs.getD i 0) j = true → tb (xs.getD j 0) k = true → tb (xs.getD i 0) k = true := by
  have hl := hR.1
  have h1 := img_ok (n := N) (by omega) hR (hR.2 i hi) xs.length (by omega)
  rw [TR, bnot_sub (n := N) (by omega) h1.1 (hR.2 i hi)]
  constructor
  · intro h j k a b
    exact h k ((h1.2 k).2 ⟨j, by have := tb_lt (hR.2 i hi) a; omega, a, b⟩)
  · intro h k a
    obtain ⟨j, _, b, c⟩ := (h1.2 k).1 a
    exact h j k b c
theorem tB_of {N : Nat} {xs : List Int} (hR : RelOK N xs) (hN : N ≤ 30) (h : ∀ i : Nat, i < N → TR xs i) : true = tB N xs := (tB_iff.2 fun i hi j _ k _ a b => (TR_iff hR hN hi).1 (h i hi) j k a b).symm
theorem tB_no {N : Nat} {xs : List Int} (hR : RelOK N xs) (hN : N ≤ 30) {i : Nat} (hi : i < N) (h : ¬ bnot (img xs (xs.getD i 0) xs.length) (xs.getD i 0) = 0) : false = tB N xs := by
  cases e : tB N xs with
  | false => rfl
  | true => exact absurd ((TR_iff hR hN hi).2 fun j k a b => tB_iff.1 e i hi j (tb_lt (hR.2 i hi) a) k (tb_lt (hR.2 j (tb_lt (hR.2 i hi) a)) b) a b) h
/-! By the closure. -/
theorem trW {N : Nat} {xs : List Int} (hR : RelOK N xs) (hN : N ≤ 30) : decide (wout xs xs.length = xs) = tB N xs := by
  have hl := hR.1
  obtain ⟨w1, w2⟩ := wout_ok (n := N) (by omega) hR N (Nat.le_refl _)
  rw [Bool.eq_iff_iff, decide_eq_true_iff, tB_iff, hl]
  constructor
  · intro e i hi j hj k hk a b
    have h1 := (w2 i hi k).2 (.via (.edge ⟨by omega, a⟩) hj (.edge ⟨by omega, b⟩))
    rwa [e] at h1
  · intro h
    refine rowN_ext w1.1 hl fun p hp => tb_ext (w1.2 p hp).1 (hR.2 p hp).1 fun k => ?_
    rw [Bool.eq_iff_iff, w2 p hp]
    constructor
    · intro hpt
      induction hpt with
      | edge e => exact e.2
      | @via i m k _ hm _ i1 i2 =>
        have a := i1 hp
        have b := i2 hm
        exact h i hp m hm k (tb_lt (hR.2 m hm) b) a b
    · intro a
      exact .edge ⟨by omega, a⟩
/-! The inverse. -/
def invJ (ys : List Int) (i : Nat) (L : List Int) : List Int := L.foldl (fun o j => o.set j.toNat (bor (o.getD j.toNat 0) (shl64 1 (i : Int)))) ys
def invA (xs : List Int) : Nat → List Int
  | 0 => List.replicate xs.length 0
  | i + 1 => invJ (invA xs i) i (mem (xs.getD i 0))
theorem invJ_snoc {ys : List Int} {i : Nat} {L : List Int} {t : Nat} (h : t < L.length) : (invJ ys i (L.take t)).set (L.getD t 0).toNat (bor ((invJ ys i (L.take t)).getD (L.getD t 0).toNat 0) (shl64 1 (i : Int))) = invJ ys i (L.take (t + 1)) := by
  rw [List.take_succ_eq_append_getElem h, invJ, invJ, List.foldl_append, List.getD_eq_getElem?_getD (l := L), List.getElem?_eq_getElem h]
  rfl
theorem invJ_len (i : Nat) : ∀ (L : List Int) (ys : List Int), (invJ ys i L).length = ys.length
  | [], _ => rfl
  | j :: L, ys => by
    have := invJ_len i L (ys.set j.toNat (bor (ys.getD j.toNat 0) (shl64 1 (i : Int))))
    rw [List.length_set] at this
    exact this
theorem invA_len (xs : List Int) : ∀ i : Nat, (invA xs i).length = xs.length
  | 0 => by simp [invA]
  | i + 1 => by rw [invA, invJ_len, invA_len xs i]
theorem invJ_ok {N i : Nat} (hN : N ≤ 30) (hi : i < N) : ∀ (L : List Int) (ys : List Int), RelOK N ys → (∀ j ∈ L, 0 ≤ j ∧ j < (N : Int)) → RelOK N (invJ ys i L) ∧ ∀ j : Nat, j < N → ∀ k, tb ((invJ ys i L).getD j 0) k = true ↔ tb (ys.getD j 0) k = true ∨ (k = i ∧ (j : Int) ∈ L)
  | [], ys, h, _ => ⟨h, fun j hj k => by simp [invJ]⟩
  | v :: L, ys, h, hL => by
    have hv := hL v (List.mem_cons_self ..)
    have ho := inM_one (n := N) (by omega) hi
    have hvl : v.toNat < ys.length := by rw [h.1]; omega
    have hb := inM_bor (n := N) (by omega) (h.2 v.toNat (by omega)) ho
    have h2 : RelOK N (ys.set v.toNat (bor (ys.getD v.toNat 0) (shl64 1 (i : Int)))) := ⟨by rw [List.length_set, h.1], fun j hj => by
      rw [getD_set_if _ _ _ _ _ hvl]
      split
      · exact hb
      · exact h.2 j hj⟩
    obtain ⟨i1, i2⟩ := invJ_ok hN hi L _ h2 fun j hj => hL j (List.mem_cons_of_mem _ hj)
    refine ⟨i1, fun j hj k => ?_⟩
    have e0 : invJ ys i (v :: L) = invJ (ys.set v.toNat (bor (ys.getD v.toNat 0) (shl64 1 (i : Int)))) i L := rfl
    rw [e0, i2 j hj, getD_set_if _ _ _ _ _ hvl, List.mem_cons]
    split
    · rename_i e
      rw [tb_bor (n := N) (by omega) (h.2 v.toNat (by omega)) ho, tb_one (by omega), Bool.or_eq_true, decide_eq_true_eq, e]
      have hjv : (j : Int) = v := by omega
      constructor
      · rintro ((a | a) | ⟨a, b⟩)
        · exact .inl a
        · exact .inr ⟨a.symm, .inl hjv⟩
        · exact .inr ⟨a, .inr b⟩
      · rintro (a | ⟨a, b | b⟩)
        · exact .inl (.inl a)
        · exact .inl (.inr a.symm)
        · exact .inr ⟨a, b⟩
    · rename_i e
      have hjv : ¬ (j : Int) = v := by omega
      constructor
      · rintro (a | ⟨a, b⟩)
        · exact .inl a
        · exact .inr ⟨a, .inr b⟩
      · rintro (a | ⟨a, b | b⟩)
        · exact .inl a
        · exact absurd b hjv
        · exact .inr ⟨a, b⟩
theorem mem_iff {N : Nat} {m : Int} (hN : N ≤ 61) (h : InM N m) {j : Nat} : (j : Int) ∈ mem m ↔ tb m j = true := by
  rw [mem, memN_mem]
  constructor
  · rintro ⟨k, _, h2, h3⟩
    rw [show j = k by omega]; exact h2
  · intro hb
    exact ⟨j, by have := tb_lt h hb; omega, hb, rfl⟩
theorem mem_lt {N : Nat} {m : Int} (hN : N ≤ 61) (h : InM N m) : ∀ v ∈ mem m, 0 ≤ v ∧ v < (N : Int) := fun v hv => by
  rw [mem, memN_mem] at hv
  obtain ⟨k, _, h2, rfl⟩ := hv
  have := tb_lt h h2
  omega
theorem mem_lt' {N : Nat} {m : Int} (hN : N ≤ 61) (h : InM N m) {t : Nat} (ht : t < (mem m).length) : 0 ≤ (mem m).getD t 0 ∧ (mem m).getD t 0 < (N : Int) := by
  refine mem_lt hN h _ ?_
  rw [List.getD_eq_getElem?_getD, List.getElem?_eq_getElem ht]
  exact List.getElem_mem _
theorem invA_ok {N : Nat} {xs : List Int} (hR : RelOK N xs) (hN : N ≤ 30) : ∀ i : Nat, i ≤ N → RelOK N (invA xs i) ∧ ∀ j : Nat, j < N → ∀ k, tb ((invA xs i).getD j 0) k = true ↔ k < i ∧ tb (xs.getD k 0) j = true
  | 0, _ => ⟨⟨by simp [invA, hR.1], fun j hj => by
      have : (invA xs 0).getD j 0 = 0 := by
        simp only [invA, List.getD_eq_getElem?_getD, List.getElem?_replicate]
        split <;> rfl
      rw [this]; exact inM_zero _⟩, fun j hj k => by
      have : (invA xs 0).getD j 0 = 0 := by
        simp only [invA, List.getD_eq_getElem?_getD, List.getElem?_replicate]
        split <;> rfl
      rw [this]; simp [tb_zero]⟩
  | i + 1, hi => by
    obtain ⟨h1, h2⟩ := invA_ok hR hN i (by omega)
    have hm := hR.2 i (by omega)
    obtain ⟨g1, g2⟩ := invJ_ok hN (show i < N by omega) (mem (xs.getD i 0)) (invA xs i) h1 (mem_lt (by omega) hm)
    refine ⟨g1, fun j hj k => ?_⟩
    rw [invA, g2 j hj, h2 j hj, mem_iff (by omega) hm]
    constructor
    · rintro (⟨a, b⟩ | ⟨rfl, b⟩)
      · exact ⟨by omega, b⟩
      · exact ⟨by omega, b⟩
    · rintro ⟨a, b⟩
      by_cases e : k = i
      · subst e; exact .inr ⟨rfl, b⟩
      · exact .inl ⟨by omega, b⟩
def AN (xs zs : List Int) (x : Nat) : Prop := bnot (band (xs.getD x 0) (zs.getD x 0)) (shl64 1 (x : Int)) = 0
theorem AN_iff {N : Nat} {xs zs : List Int} (hR : RelOK N xs) (hN : N ≤ 30) (hz : zs = invA xs xs.length) {x : Nat} (hx : x < N) : AN xs zs x ↔ ∀ j : Nat, j < N → AC xs x j := by
  obtain ⟨z1, z2⟩ := invA_ok hR hN N (Nat.le_refl _)
  rw [hR.1] at hz
  subst hz
  have hb := inM_band (n := N) (by omega) (hR.2 x hx) (z1.2 x hx)
  rw [AN, bnot_sub (n := N) (by omega) hb (inM_one (by omega) hx)]
  constructor
  · intro h j hj a b
    have := h j (by rw [tb_band (n := N) (by omega) (hR.2 x hx) (z1.2 x hx), a, (z2 x hx j).2 ⟨hj, b⟩]; rfl)
    rw [tb_one (by omega)] at this
    exact of_decide_eq_true this
  · intro h k hk
    rw [tb_band (n := N) (by omega) (hR.2 x hx) (z1.2 x hx), Bool.and_eq_true, z2 x hx] at hk
    rw [tb_one (by omega)]
    exact decide_eq_true (h k hk.2.1 hk.1 hk.2.2)
theorem aB_of {N : Nat} {xs zs : List Int} (hR : RelOK N xs) (hN : N ≤ 30) (hz : zs = invA xs xs.length) (h : ∀ i : Nat, i < N → AN xs zs i) : true = aB N xs := (aB_iff.2 fun i hi j hj => (AN_iff hR hN hz hi).1 (h i hi) j hj).symm
theorem aB_noN {N : Nat} {xs zs : List Int} (hR : RelOK N xs) (hN : N ≤ 30) (hz : zs = invA xs xs.length) {x : Nat} (hx : x < N) (h : ¬ bnot (band (xs.getD x 0) (zs.getD x 0)) (shl64 1 (x : Int)) = 0) : false = aB N xs := by
  cases e : aB N xs with
  | false => rfl
  | true => exact absurd ((AN_iff hR hN hz hx).2 fun j hj => aB_iff.1 e x hx j hj) h
theorem okPo_fr {n : Int} {xs : List Int} (h : okPo n xs = true) : okFr n xs = true := by
  simp only [okPo, Bool.and_eq_true] at h
  exact h.1
theorem okPo_0 {n : Int} {xs : List Int} (h : okFr n xs = false) : false = okPo n xs := by simp [okPo, h]
theorem okPo_1 {n : Int} {xs : List Int} (h : okFr n xs = true) (h1 : rB n.toNat xs = false) : false = okPo n xs := by simp [okPo, h, h1]
theorem okPo_2 {n : Int} {xs : List Int} (h : okFr n xs = true) (h1 : rB n.toNat xs = true) (h2 : tB n.toNat xs = false) : false = okPo n xs := by simp [okPo, h, h1, h2]
theorem okPo_3 {n : Int} {xs : List Int} (h : okFr n xs = true) (h1 : rB n.toNat xs = true) (h2 : tB n.toNat xs = true) : aB n.toNat xs = okPo n xs := by simp [okPo, h, h1, h2]

theorem flagR_c (n : Int) (xs : List Int) (hR : okFr n xs = true) : CallA Try.prog 45 [.agg [AI n, LI xs], AI 0] (.bool (rB n.toNat xs)) := by
  have hF := okFr_rel hR
  have hRel : RelOK n.toNat xs := hF.2.2.2
  have hb0 : 0 ≤ n ∧ n ≤ 8 ∧ (xs.length : Int) = n := ⟨hF.1, hF.2.1, hF.2.2.1⟩
  have hN8 : n.toNat ≤ 30 := by omega
  refine CallA.of Try.func45 rfl (by kernel_rfl) ?_
  refine R.go 20 (R.loop (fun (x : Nat) => (⟨(frm 175 [(1, AI 0), (5, AI n), (6, LI xs), (7, AI (x : Int))]), []⟩ : St)) (fun (x : Nat) => (x ≤ n.toNat) ∧ (∀ i : Nat, i < x → tb (xs.getD i 0) i = true)) (fun (x : Nat) => n.toNat - x) 0 [1, 5, 6, 7] (some []) (by kernel_rfl) (by kernel_rfl) (by kernel_rfl) ⟨(by omega), (by exact fun i hi => absurd hi (by omega))⟩ ?_)
  rintro x ⟨h3_1, h3_2⟩ R1 N2
  refine R.go 7 (R.cond ((x : Int) < n) (by kernel_rfl) (fun c4 => ?_) (fun c4 => ?_))
  · refine R.go 19 (R.idx eI xs 0 x (x : Int) (by kernel_rfl) rfl eI_len (by omega) (by kernel_rfl) ?_)
    refine R.go 2 (R.call true (l01Bit_c (xs.getD x 0) (x : Int) (by omega) (by omega)) (by kernel_rfl) rfl (by kernel_rfl) ?_)
    refine R.go 2 (R.condN (band (shr64 (xs.getD x 0) (x : Int)) 1 = 1) (by kernel_rfl) (fun c5 => ?_) (fun c5 => ?_))
    · exact R.go 4 (R.retE (.bool false) (by kernel_rfl) (by kernel_rfl) (by first | (apply congrArg AV.bool; first | exact rB_no (i := x) (by omega) (bitF hRel hN8 (by omega) (by omega) (by assumption)) | exact (rB_iff.2 fun i hi => (‹∀ i : Nat, i < x → tb (xs.getD i 0) i = true›) i (by omega)).symm) | (exfalso; omega)))
    · refine R.go 7 (R.loop (fun (y : Nat) => (⟨(frm 175 [(1, AI 0), (5, AI n), (6, LI xs), (7, AI (x : Int)), (8, AI (y : Int))]), []⟩ : St)) (fun (y : Nat) => y ≤ n.toNat) (fun (y : Nat) => n.toNat - y) 0 [1, 5, 6, 7, 8] none (by kernel_rfl) (by kernel_rfl) (by kernel_rfl) (by omega) ?_)
      rintro y h8_1 R6 N7
      refine R.go 7 (R.cond ((y : Int) < n) (by kernel_rfl) (fun c9 => ?_) (fun c9 => ?_))
      · refine R.go 8 (R.idx eI xs 0 x (x : Int) (by kernel_rfl) rfl eI_len (by omega) (by kernel_rfl) ?_)
        refine R.go 2 (R.call true (l01Bit_c (xs.getD x 0) (y : Int) (by omega) (by omega)) (by kernel_rfl) rfl (by kernel_rfl) ?_)
        refine R.go 2 (R.condN (band (shr64 (xs.getD x 0) (y : Int)) 1 = 1) (by kernel_rfl) (fun c10 => ?_) (fun c10 => ?_))
        · refine R.go 3 (R.ar ((y : Int) + 1) (by kernel_rfl) (by omega) (by omega) (by kernel_rfl) ?_)
          exact R.go 2 (R.stop R6 (by kernel_rfl) (N7 (y + 1) [1, 5, 6, 7, 8] none _ (by kernel_rfl) (by kernel_rfl) (by omega) (by show (n.toNat - (y + 1)) < (n.toNat - y); omega)))
        · refine R.go 38 (R.loop (fun (z : Nat) => (⟨(frm 175 [(1, AI 0), (5, AI n), (6, LI xs), (7, AI (x : Int)), (8, AI (y : Int)), (9, AI (z : Int))]), []⟩ : St)) (fun (z : Nat) => z ≤ n.toNat) (fun (z : Nat) => n.toNat - z) 0 [1, 5, 6, 7, 8, 9] none (by kernel_rfl) (by kernel_rfl) (by kernel_rfl) (by omega) ?_)
          rintro z h13_1 R11 N12
          refine R.go 7 (R.cond ((z : Int) < n) (by kernel_rfl) (fun c14 => ?_) (fun c14 => ?_))
          · refine R.go 8 (R.idx eI xs 0 x (x : Int) (by kernel_rfl) rfl eI_len (by omega) (by kernel_rfl) ?_)
            refine R.go 2 (R.call true (l01Bit_c (xs.getD x 0) (z : Int) (by omega) (by omega)) (by kernel_rfl) rfl (by kernel_rfl) ?_)
            refine R.go 2 (R.condN (band (shr64 (xs.getD x 0) (z : Int)) 1 = 1) (by kernel_rfl) (fun c15 => ?_) (fun c15 => ?_))
            · refine R.go 3 (R.ar ((z : Int) + 1) (by kernel_rfl) (by omega) (by omega) (by kernel_rfl) ?_)
              exact R.go 2 (R.stop R11 (by kernel_rfl) (N12 (z + 1) [1, 5, 6, 7, 8, 9] none _ (by kernel_rfl) (by kernel_rfl) (by omega) (by show (n.toNat - (z + 1)) < (n.toNat - z); omega)))
            · refine R.go 45 (R.ar ((z : Int) + 1) (by kernel_rfl) (by omega) (by omega) (by kernel_rfl) ?_)
              exact R.go 2 (R.stop R11 (by kernel_rfl) (N12 (z + 1) [1, 5, 6, 7, 8, 9] none _ (by kernel_rfl) (by kernel_rfl) (by omega) (by show (n.toNat - (z + 1)) < (n.toNat - z); omega)))
          · refine R.go 4 (R.ar ((y : Int) + 1) (by kernel_rfl) (by omega) (by omega) (by kernel_rfl) ?_)
            exact R.go 2 (R.stop R6 (by kernel_rfl) (N7 (y + 1) [1, 5, 6, 7, 8] none _ (by kernel_rfl) (by kernel_rfl) (by omega) (by show (n.toNat - (y + 1)) < (n.toNat - y); omega)))
      · refine R.go 4 (R.ar ((x : Int) + 1) (by kernel_rfl) (by omega) (by omega) (by kernel_rfl) ?_)
        exact R.go 2 (R.stop R1 (by kernel_rfl) (N2 (x + 1) [1, 5, 6, 7] none _ (by kernel_rfl) (by kernel_rfl) ⟨(by omega), (by exact below1 (by assumption) (bitT hRel hN8 (by omega) (by omega) (by assumption)))⟩ (by show (n.toNat - (x + 1)) < (n.toNat - x); omega)))
  · exact R.go 5 (R.retE (.bool true) (by kernel_rfl) (by kernel_rfl) (by first | (apply congrArg AV.bool; first | exact rB_no (i := x) (by omega) (bitF hRel hN8 (by omega) (by omega) (by assumption)) | exact (rB_iff.2 fun i hi => (‹∀ i : Nat, i < x → tb (xs.getD i 0) i = true›) i (by omega)).symm) | (exfalso; omega)))

theorem flagT_c (n : Int) (xs : List Int) (hR : okFr n xs = true) : CallA Try.prog 45 [.agg [AI n, LI xs], AI 2] (.bool (tB n.toNat xs)) := by
  have hF := okFr_rel hR
  have hRel : RelOK n.toNat xs := hF.2.2.2
  have hb0 : 0 ≤ n ∧ n ≤ 8 ∧ (xs.length : Int) = n := ⟨hF.1, hF.2.1, hF.2.2.1⟩
  have hN8 : n.toNat ≤ 30 := by omega
  refine CallA.of Try.func45 rfl (by kernel_rfl) ?_
  refine R.go 20 (R.loop (fun (x : Nat) => (⟨(frm 175 [(1, AI 2), (5, AI n), (6, LI xs), (7, AI (x : Int))]), []⟩ : St)) (fun (x : Nat) => (x ≤ n.toNat) ∧ (∀ i : Nat, i < x → TR xs i)) (fun (x : Nat) => n.toNat - x) 0 [1, 5, 6, 7] (some []) (by kernel_rfl) (by kernel_rfl) (by kernel_rfl) ⟨(by omega), (by exact fun i hi => absurd hi (by omega))⟩ ?_)
  rintro x ⟨h3_1, h3_2⟩ R1 N2
  refine R.go 7 (R.cond ((x : Int) < n) (by kernel_rfl) (fun c4 => ?_) (fun c4 => ?_))
  · refine R.go 32 (R.idx eI xs 0 x (x : Int) (by kernel_rfl) rfl eI_len (by omega) (by kernel_rfl) ?_)
    refine R.go 1 (R.call true (l01Image_c xs (xs.getD x 0) (by first | omega | (simp <;> omega))) (by kernel_rfl) rfl (by kernel_rfl) ?_)
    refine R.go 2 (R.idx eI xs 0 x (x : Int) (by kernel_rfl) rfl eI_len (by omega) (by kernel_rfl) ?_)
    refine R.go 4 (R.condN ((bnot (img xs (xs.getD x 0) xs.length) (xs.getD x 0)) = 0) (by kernel_rfl) (fun c5 => ?_) (fun c5 => ?_))
    · exact R.go 4 (R.retE (.bool false) (by kernel_rfl) (by kernel_rfl) (by first | (apply congrArg AV.bool; first | exact tB_no hRel hN8 (i := x) (by omega) (by assumption) | exact tB_of hRel hN8 fun i hi => (‹∀ i : Nat, i < x → TR xs i›) i (by omega)) | (exfalso; omega)))
    · refine R.go 7 (R.loop (fun (y : Nat) => (⟨(frm 175 [(1, AI 2), (5, AI n), (6, LI xs), (7, AI (x : Int)), (8, AI (y : Int))]), []⟩ : St)) (fun (y : Nat) => y ≤ n.toNat) (fun (y : Nat) => n.toNat - y) 0 [1, 5, 6, 7, 8] none (by kernel_rfl) (by kernel_rfl) (by kernel_rfl) (by omega) ?_)
      rintro y h8_1 R6 N7
      refine R.go 7 (R.cond ((y : Int) < n) (by kernel_rfl) (fun c9 => ?_) (fun c9 => ?_))
      · refine R.go 8 (R.idx eI xs 0 x (x : Int) (by kernel_rfl) rfl eI_len (by omega) (by kernel_rfl) ?_)
        refine R.go 2 (R.call true (l01Bit_c (xs.getD x 0) (y : Int) (by omega) (by omega)) (by kernel_rfl) rfl (by kernel_rfl) ?_)
        refine R.go 2 (R.condN (band (shr64 (xs.getD x 0) (y : Int)) 1 = 1) (by kernel_rfl) (fun c10 => ?_) (fun c10 => ?_))
        · refine R.go 3 (R.ar ((y : Int) + 1) (by kernel_rfl) (by omega) (by omega) (by kernel_rfl) ?_)
          exact R.go 2 (R.stop R6 (by kernel_rfl) (N7 (y + 1) [1, 5, 6, 7, 8] none _ (by kernel_rfl) (by kernel_rfl) (by omega) (by show (n.toNat - (y + 1)) < (n.toNat - y); omega)))
        · refine R.go 38 (R.loop (fun (z : Nat) => (⟨(frm 175 [(1, AI 2), (5, AI n), (6, LI xs), (7, AI (x : Int)), (8, AI (y : Int)), (9, AI (z : Int))]), []⟩ : St)) (fun (z : Nat) => z ≤ n.toNat) (fun (z : Nat) => n.toNat - z) 0 [1, 5, 6, 7, 8, 9] none (by kernel_rfl) (by kernel_rfl) (by kernel_rfl) (by omega) ?_)
          rintro z h13_1 R11 N12
          refine R.go 7 (R.cond ((z : Int) < n) (by kernel_rfl) (fun c14 => ?_) (fun c14 => ?_))
          · refine R.go 8 (R.idx eI xs 0 x (x : Int) (by kernel_rfl) rfl eI_len (by omega) (by kernel_rfl) ?_)
            refine R.go 2 (R.call true (l01Bit_c (xs.getD x 0) (z : Int) (by omega) (by omega)) (by kernel_rfl) rfl (by kernel_rfl) ?_)
            refine R.go 2 (R.condN (band (shr64 (xs.getD x 0) (z : Int)) 1 = 1) (by kernel_rfl) (fun c15 => ?_) (fun c15 => ?_))
            · refine R.go 3 (R.ar ((z : Int) + 1) (by kernel_rfl) (by omega) (by omega) (by kernel_rfl) ?_)
              exact R.go 2 (R.stop R11 (by kernel_rfl) (N12 (z + 1) [1, 5, 6, 7, 8, 9] none _ (by kernel_rfl) (by kernel_rfl) (by omega) (by show (n.toNat - (z + 1)) < (n.toNat - z); omega)))
            · refine R.go 45 (R.ar ((z : Int) + 1) (by kernel_rfl) (by omega) (by omega) (by kernel_rfl) ?_)
              exact R.go 2 (R.stop R11 (by kernel_rfl) (N12 (z + 1) [1, 5, 6, 7, 8, 9] none _ (by kernel_rfl) (by kernel_rfl) (by omega) (by show (n.toNat - (z + 1)) < (n.toNat - z); omega)))
          · refine R.go 4 (R.ar ((y : Int) + 1) (by kernel_rfl) (by omega) (by omega) (by kernel_rfl) ?_)
            exact R.go 2 (R.stop R6 (by kernel_rfl) (N7 (y + 1) [1, 5, 6, 7, 8] none _ (by kernel_rfl) (by kernel_rfl) (by omega) (by show (n.toNat - (y + 1)) < (n.toNat - y); omega)))
      · refine R.go 4 (R.ar ((x : Int) + 1) (by kernel_rfl) (by omega) (by omega) (by kernel_rfl) ?_)
        exact R.go 2 (R.stop R1 (by kernel_rfl) (N2 (x + 1) [1, 5, 6, 7] none _ (by kernel_rfl) (by kernel_rfl) ⟨(by omega), (by exact below1 (by assumption) (show bnot (img xs (xs.getD x 0) xs.length) (xs.getD x 0) = 0 by assumption))⟩ (by show (n.toNat - (x + 1)) < (n.toNat - x); omega)))
  · exact R.go 5 (R.retE (.bool true) (by kernel_rfl) (by kernel_rfl) (by first | (apply congrArg AV.bool; first | exact tB_no hRel hN8 (i := x) (by omega) (by assumption) | exact tB_of hRel hN8 fun i hi => (‹∀ i : Nat, i < x → TR xs i›) i (by omega)) | (exfalso; omega)))

theorem flagA_c (n : Int) (xs : List Int) (hR : okFr n xs = true) : CallA Try.prog 45 [.agg [AI n, LI xs], AI 8] (.bool (aB n.toNat xs)) := by
  have hF := okFr_rel hR
  have hRel : RelOK n.toNat xs := hF.2.2.2
  have hb0 : 0 ≤ n ∧ n ≤ 8 ∧ (xs.length : Int) = n := ⟨hF.1, hF.2.1, hF.2.2.1⟩
  have hN8 : n.toNat ≤ 30 := by omega
  refine CallA.of Try.func45 rfl (by kernel_rfl) ?_
  refine R.go 20 (R.loop (fun (x : Nat) => (⟨(frm 175 [(1, AI 8), (5, AI n), (6, LI xs), (7, AI (x : Int))]), []⟩ : St)) (fun (x : Nat) => (x ≤ n.toNat) ∧ (∀ i : Nat, i < x → ∀ j : Nat, j < n.toNat → AC xs i j)) (fun (x : Nat) => n.toNat - x) 0 [1, 5, 6, 7] (some []) (by kernel_rfl) (by kernel_rfl) (by kernel_rfl) ⟨(by omega), (by exact fun i hi => absurd hi (by omega))⟩ ?_)
  rintro x ⟨h3_1, h3_2⟩ R1 N2
  refine R.go 7 (R.cond ((x : Int) < n) (by kernel_rfl) (fun c4 => ?_) (fun c4 => ?_))
  · refine R.go 46 (R.loop (fun (y : Nat) => (⟨(frm 175 [(1, AI 8), (5, AI n), (6, LI xs), (7, AI (x : Int)), (8, AI (y : Int))]), []⟩ : St)) (fun (y : Nat) => (y ≤ n.toNat) ∧ (∀ j : Nat, j < y → AC xs x j)) (fun (y : Nat) => n.toNat - y) 0 [1, 5, 6, 7, 8] none (by kernel_rfl) (by kernel_rfl) (by kernel_rfl) ⟨(by omega), (by exact fun j hj => absurd hj (by omega))⟩ ?_)
    rintro y ⟨h7_1, h7_2⟩ R5 N6
    refine R.go 7 (R.cond ((y : Int) < n) (by kernel_rfl) (fun c8 => ?_) (fun c8 => ?_))
    · refine R.go 8 (R.idx eI xs 0 x (x : Int) (by kernel_rfl) rfl eI_len (by omega) (by kernel_rfl) ?_)
      refine R.go 2 (R.call true (l01Bit_c (xs.getD x 0) (y : Int) (by omega) (by omega)) (by kernel_rfl) rfl (by kernel_rfl) ?_)
      refine R.go 2 (R.condN (band (shr64 (xs.getD x 0) (y : Int)) 1 = 1) (by kernel_rfl) (fun c9 => ?_) (fun c9 => ?_))
      · refine R.go 3 (R.ar ((y : Int) + 1) (by kernel_rfl) (by omega) (by omega) (by kernel_rfl) ?_)
        exact R.go 2 (R.stop R5 (by kernel_rfl) (N6 (y + 1) [1, 5, 6, 7, 8] none _ (by kernel_rfl) (by kernel_rfl) ⟨(by omega), (by exact below1 (by assumption) (by unfold AC; first | (refine fun a => absurd a (bitF hRel hN8 ?_ ?_ ?_) <;> first | omega | assumption) | (refine fun _ b => absurd b (bitF hRel hN8 ?_ ?_ ?_) <;> first | omega | assumption) | (intro _ _; omega)))⟩ (by show (n.toNat - (y + 1)) < (n.toNat - y); omega)))
      · refine R.go 31 ?_
        by_cases c10 : (x : Int) = (y : Int)
        · refine R.skp (!decide ((x : Int) = (y : Int))) true (by kernel_rfl) (nF c10) (by kernel_rfl) ?_
          refine R.skp (!decide ((x : Int) = (y : Int))) true (by kernel_rfl) (nF c10) (by kernel_rfl) ?_
          refine R.skp (!decide ((x : Int) = (y : Int))) true (by kernel_rfl) (nF c10) (by kernel_rfl) ?_
          refine R.skp (!decide ((x : Int) = (y : Int))) true (by kernel_rfl) (nF c10) (by kernel_rfl) ?_
          refine R.skp (!decide ((x : Int) = (y : Int))) true (by kernel_rfl) (nF c10) (by kernel_rfl) ?_
          refine R.skp (!decide ((x : Int) = (y : Int))) true (by kernel_rfl) (nF c10) (by kernel_rfl) ?_
          refine R.pick (!decide ((x : Int) = (y : Int))) false (by kernel_rfl) (nF c10) (by kernel_rfl) ?_
          refine R.go 9 (R.loop (fun (z : Nat) => (⟨(frm 175 [(1, AI 8), (5, AI n), (6, LI xs), (7, AI (x : Int)), (8, AI (y : Int)), (9, AI (z : Int))]), []⟩ : St)) (fun (z : Nat) => z ≤ n.toNat) (fun (z : Nat) => n.toNat - z) 0 [1, 5, 6, 7, 8, 9] none (by kernel_rfl) (by kernel_rfl) (by kernel_rfl) (by omega) ?_)
          rintro z h13_1 R11 N12
          refine R.go 7 (R.cond ((z : Int) < n) (by kernel_rfl) (fun c14 => ?_) (fun c14 => ?_))
          · refine R.go 8 (R.idx eI xs 0 x (x : Int) (by kernel_rfl) rfl eI_len (by omega) (by kernel_rfl) ?_)
            refine R.go 2 (R.call true (l01Bit_c (xs.getD x 0) (z : Int) (by omega) (by omega)) (by kernel_rfl) rfl (by kernel_rfl) ?_)
            refine R.go 2 (R.condN (band (shr64 (xs.getD x 0) (z : Int)) 1 = 1) (by kernel_rfl) (fun c15 => ?_) (fun c15 => ?_))
            · refine R.go 3 (R.ar ((z : Int) + 1) (by kernel_rfl) (by omega) (by omega) (by kernel_rfl) ?_)
              exact R.go 2 (R.stop R11 (by kernel_rfl) (N12 (z + 1) [1, 5, 6, 7, 8, 9] none _ (by kernel_rfl) (by kernel_rfl) (by omega) (by show (n.toNat - (z + 1)) < (n.toNat - z); omega)))
            · refine R.go 45 (R.ar ((z : Int) + 1) (by kernel_rfl) (by omega) (by omega) (by kernel_rfl) ?_)
              exact R.go 2 (R.stop R11 (by kernel_rfl) (N12 (z + 1) [1, 5, 6, 7, 8, 9] none _ (by kernel_rfl) (by kernel_rfl) (by omega) (by show (n.toNat - (z + 1)) < (n.toNat - z); omega)))
          · refine R.go 4 (R.ar ((y : Int) + 1) (by kernel_rfl) (by omega) (by omega) (by kernel_rfl) ?_)
            exact R.go 2 (R.stop R5 (by kernel_rfl) (N6 (y + 1) [1, 5, 6, 7, 8] none _ (by kernel_rfl) (by kernel_rfl) ⟨(by omega), (by exact below1 (by assumption) (by unfold AC; first | (refine fun a => absurd a (bitF hRel hN8 ?_ ?_ ?_) <;> first | omega | assumption) | (refine fun _ b => absurd b (bitF hRel hN8 ?_ ?_ ?_) <;> first | omega | assumption) | (intro _ _; omega)))⟩ (by show (n.toNat - (y + 1)) < (n.toNat - y); omega)))
        · refine R.want (!decide ((x : Int) = (y : Int))) true (by kernel_rfl) (nT c10) ?_
          refine R.go 1 (R.want (!decide ((x : Int) = (y : Int))) true (by kernel_rfl) (nT c10) ?_)
          refine R.go 1 (R.want (!decide ((x : Int) = (y : Int))) true (by kernel_rfl) (nT c10) ?_)
          refine R.idx eI xs 0 y (y : Int) (by kernel_rfl) rfl eI_len (by omega) (by kernel_rfl) ?_
          refine R.want (!decide ((x : Int) = (y : Int))) true (by kernel_rfl) (nT c10) ?_
          refine R.go 1 (R.want (!decide ((x : Int) = (y : Int))) true (by kernel_rfl) (nT c10) ?_)
          refine R.go 1 (R.want (!decide ((x : Int) = (y : Int))) true (by kernel_rfl) (nT c10) ?_)
          refine R.call true (l01Bit_c (xs.getD y 0) (x : Int) (by omega) (by omega)) (by kernel_rfl) rfl (by kernel_rfl) ?_
          refine R.pick (!decide ((x : Int) = (y : Int))) true (by kernel_rfl) (nT c10) (by kernel_rfl) ?_
          refine R.go 1 (R.cond (band (shr64 (xs.getD y 0) (x : Int)) 1 = 1) (by kernel_rfl) (fun c16 => ?_) (fun c16 => ?_))
          · exact R.go 4 (R.retE (.bool false) (by kernel_rfl) (by kernel_rfl) (by first | (apply congrArg AV.bool; first | exact aB_no (i := x) (j := y) (by omega) (by omega) (bitT hRel hN8 (by omega) (by omega) (by assumption)) (bitT hRel hN8 (by omega) (by omega) (by assumption)) (by assumption) | exact (aB_iff.2 fun i hi => (‹∀ i : Nat, i < x → ∀ j : Nat, j < n.toNat → AC xs i j›) i (by omega)).symm) | (exfalso; omega)))
          · refine R.go 7 (R.loop (fun (z : Nat) => (⟨(frm 175 [(1, AI 8), (5, AI n), (6, LI xs), (7, AI (x : Int)), (8, AI (y : Int)), (9, AI (z : Int))]), []⟩ : St)) (fun (z : Nat) => z ≤ n.toNat) (fun (z : Nat) => n.toNat - z) 0 [1, 5, 6, 7, 8, 9] none (by kernel_rfl) (by kernel_rfl) (by kernel_rfl) (by omega) ?_)
            rintro z h19_1 R17 N18
            refine R.go 7 (R.cond ((z : Int) < n) (by kernel_rfl) (fun c20 => ?_) (fun c20 => ?_))
            · refine R.go 8 (R.idx eI xs 0 x (x : Int) (by kernel_rfl) rfl eI_len (by omega) (by kernel_rfl) ?_)
              refine R.go 2 (R.call true (l01Bit_c (xs.getD x 0) (z : Int) (by omega) (by omega)) (by kernel_rfl) rfl (by kernel_rfl) ?_)
              refine R.go 2 (R.condN (band (shr64 (xs.getD x 0) (z : Int)) 1 = 1) (by kernel_rfl) (fun c21 => ?_) (fun c21 => ?_))
              · refine R.go 3 (R.ar ((z : Int) + 1) (by kernel_rfl) (by omega) (by omega) (by kernel_rfl) ?_)
                exact R.go 2 (R.stop R17 (by kernel_rfl) (N18 (z + 1) [1, 5, 6, 7, 8, 9] none _ (by kernel_rfl) (by kernel_rfl) (by omega) (by show (n.toNat - (z + 1)) < (n.toNat - z); omega)))
              · refine R.go 45 (R.ar ((z : Int) + 1) (by kernel_rfl) (by omega) (by omega) (by kernel_rfl) ?_)
                exact R.go 2 (R.stop R17 (by kernel_rfl) (N18 (z + 1) [1, 5, 6, 7, 8, 9] none _ (by kernel_rfl) (by kernel_rfl) (by omega) (by show (n.toNat - (z + 1)) < (n.toNat - z); omega)))
            · refine R.go 4 (R.ar ((y : Int) + 1) (by kernel_rfl) (by omega) (by omega) (by kernel_rfl) ?_)
              exact R.go 2 (R.stop R5 (by kernel_rfl) (N6 (y + 1) [1, 5, 6, 7, 8] none _ (by kernel_rfl) (by kernel_rfl) ⟨(by omega), (by exact below1 (by assumption) (by unfold AC; first | (refine fun a => absurd a (bitF hRel hN8 ?_ ?_ ?_) <;> first | omega | assumption) | (refine fun _ b => absurd b (bitF hRel hN8 ?_ ?_ ?_) <;> first | omega | assumption) | (intro _ _; omega)))⟩ (by show (n.toNat - (y + 1)) < (n.toNat - y); omega)))
    · refine R.go 4 (R.ar ((x : Int) + 1) (by kernel_rfl) (by omega) (by omega) (by kernel_rfl) ?_)
      exact R.go 2 (R.stop R1 (by kernel_rfl) (N2 (x + 1) [1, 5, 6, 7] none _ (by kernel_rfl) (by kernel_rfl) ⟨(by omega), (by exact below1 (by assumption) (fun j hj => (‹∀ j : Nat, j < y → AC xs x j›) j (by omega)))⟩ (by show (n.toNat - (x + 1)) < (n.toNat - x); omega)))
  · exact R.go 5 (R.retE (.bool true) (by kernel_rfl) (by kernel_rfl) (by first | (apply congrArg AV.bool; first | exact aB_no (i := x) (j := y) (by omega) (by omega) (bitT hRel hN8 (by omega) (by omega) (by assumption)) (bitT hRel hN8 (by omega) (by omega) (by assumption)) (by assumption) | exact (aB_iff.2 fun i hi => (‹∀ i : Nat, i < x → ∀ j : Nat, j < n.toNat → AC xs i j›) i (by omega)).symm) | (exfalso; omega)))

theorem sees_c (n : Int) (xs : List Int) (x : Nat) (y : Int) (hx : x < xs.length) (h0 : 0 ≤ y) : CallA Try.prog 82 [.agg [AI n, LI xs], AI (x : Int), AI y] (.bool (decide (band (shr64 (xs.getD x 0) y) 1 = 1))) := by
  refine CallA.of Try.func82 rfl (by kernel_rfl) ?_
  refine R.go 10 (R.idx eI xs 0 x (x : Int) (by kernel_rfl) rfl eI_len (by omega) (by kernel_rfl) ?_)
  refine R.go 2 (R.call true (has_c (xs.getD x 0) y h0) (by kernel_rfl) rfl (by kernel_rfl) ?_)
  exact R.go 2 (R.retE (.bool (decide (band (shr64 (xs.getD x 0) y) 1 = 1))) (by kernel_rfl) (by kernel_rfl) (by rfl))

theorem hasFlag1_c (x : Nat) (n : Int) (xs : List Int) (hx : x < xs.length) : CallA Try.prog 81 [AI (x : Int), .rptr [AI n, LI xs]] (.bool (decide (band (shr64 (xs.getD x 0) (x : Int)) 1 = 1))) := by
  refine CallA.of Try.func81 rfl (by kernel_rfl) ?_
  refine R.go 9 (R.call true (sees_c n xs x (x : Int) hx (by omega)) (by kernel_rfl) rfl (by kernel_rfl) ?_)
  exact R.go 2 (R.retE (.bool (decide (band (shr64 (xs.getD x 0) (x : Int)) 1 = 1))) (by kernel_rfl) (by kernel_rfl) (by rfl))

theorem hasFlag7_c (x : Nat) (n : Int) (xs : List Int) (zs : List Int) (hx : x < xs.length) (hz : x < zs.length) : CallA Try.prog 92 [AI (x : Int), .rptr [AI n, LI xs], .rptr [LI zs]] (.bool (decide (bnot (band (xs.getD x 0) (zs.getD x 0)) (shl64 1 (x : Int)) = 0))) := by
  refine CallA.of Try.func92 rfl (by kernel_rfl) ?_
  refine R.go 9 (R.idx eI xs 0 x (x : Int) (by kernel_rfl) rfl eI_len (by omega) (by kernel_rfl) ?_)
  refine R.go 3 (R.idx eI zs 0 x (x : Int) (by kernel_rfl) rfl eI_len (by omega) (by kernel_rfl) ?_)
  refine R.go 3 (R.shl 1 (x : Int) (by kernel_rfl) (by omega) (by kernel_rfl) ?_)
  refine R.call true (within_c (band (xs.getD x 0) (zs.getD x 0)) (shl64 1 (x : Int))) (by kernel_rfl) rfl (by kernel_rfl) ?_
  exact R.go 2 (R.retE (.bool (decide (bnot (band (xs.getD x 0) (zs.getD x 0)) (shl64 1 (x : Int)) = 0))) (by kernel_rfl) (by kernel_rfl) (by rfl))

theorem everyR_c (n : Int) (xs : List Int) (hR : okFr n xs = true) : CallA Try.prog 80 [.agg [AI n, LI xs], .fn 81 [.rptr [AI n, LI xs]]] (.bool (rB n.toNat xs)) := by
  have hF := okFr_rel hR
  have hRel : RelOK n.toNat xs := hF.2.2.2
  have hb0 : 0 ≤ n ∧ n ≤ 8 ∧ (xs.length : Int) = n := ⟨hF.1, hF.2.1, hF.2.2.1⟩
  have hN8 : n.toNat ≤ 30 := by omega
  refine CallA.of Try.func80 rfl (by kernel_rfl) ?_
  refine R.go 13 (R.loop (fun (x : Nat) => (⟨(frm 16 [(1, .fn 81 [.rptr [AI n, LI xs]]), (7, AI n), (8, AI (x : Int))]), []⟩ : St)) (fun (x : Nat) => (x ≤ n.toNat) ∧ (∀ i : Nat, i < x → tb (xs.getD i 0) i = true)) (fun (x : Nat) => n.toNat - x) 0 [1, 7, 8] (some []) (by kernel_rfl) (by kernel_rfl) (by kernel_rfl) ⟨(by omega), (by exact fun i hi => absurd hi (by omega))⟩ ?_)
  rintro x ⟨h3_1, h3_2⟩ R1 N2
  refine R.go 5 (R.cond ((x : Int) < n) (by kernel_rfl) (fun c4 => ?_) (fun c4 => ?_))
  · refine R.go 12 (R.call true (hasFlag1_c x n xs (by first | omega | (simp <;> omega))) (by kernel_rfl) rfl (by kernel_rfl) ?_)
    refine R.go 2 (R.condN (band (shr64 (xs.getD x 0) (x : Int)) 1 = 1) (by kernel_rfl) (fun c5 => ?_) (fun c5 => ?_))
    · exact R.go 4 (R.retE (.bool false) (by kernel_rfl) (by kernel_rfl) (by first | (apply congrArg AV.bool; first | exact rB_no (i := x) (by omega) (bitF hRel hN8 (by omega) (by omega) (by assumption)) | exact (rB_iff.2 fun i hi => (‹∀ i : Nat, i < x → tb (xs.getD i 0) i = true›) i (by omega)).symm) | (exfalso; omega)))
    · refine R.go 3 (R.ar ((x : Int) + 1) (by kernel_rfl) (by omega) (by omega) (by kernel_rfl) ?_)
      exact R.go 2 (R.stop R1 (by kernel_rfl) (N2 (x + 1) [1, 7, 8] none _ (by kernel_rfl) (by kernel_rfl) ⟨(by omega), (by exact below1 (by assumption) (bitT hRel hN8 (by omega) (by omega) (by assumption)))⟩ (by show (n.toNat - (x + 1)) < (n.toNat - x); omega)))
  · exact R.go 5 (R.retE (.bool true) (by kernel_rfl) (by kernel_rfl) (by first | (apply congrArg AV.bool; first | exact rB_no (i := x) (by omega) (bitF hRel hN8 (by omega) (by omega) (by assumption)) | exact (rB_iff.2 fun i hi => (‹∀ i : Nat, i < x → tb (xs.getD i 0) i = true›) i (by omega)).symm) | (exfalso; omega)))

theorem everyA_c (n : Int) (xs : List Int) (zs : List Int) (hR : okFr n xs = true) (hz : zs = invA xs xs.length) : CallA Try.prog 80 [.agg [AI n, LI xs], .fn 92 [.rptr [AI n, LI xs], .rptr [LI zs]]] (.bool (aB n.toNat xs)) := by
  have hF := okFr_rel hR
  have hRel : RelOK n.toNat xs := hF.2.2.2
  have hb0 : 0 ≤ n ∧ n ≤ 8 ∧ (xs.length : Int) = n := ⟨hF.1, hF.2.1, hF.2.2.1⟩
  have hN8 : n.toNat ≤ 30 := by omega
  have hzl : zs.length = xs.length := by rw [hz]; exact invA_len _ _
  refine CallA.of Try.func80 rfl (by kernel_rfl) ?_
  refine R.go 13 (R.loop (fun (x : Nat) => (⟨(frm 16 [(1, .fn 92 [.rptr [AI n, LI xs], .rptr [LI zs]]), (7, AI n), (8, AI (x : Int))]), []⟩ : St)) (fun (x : Nat) => (x ≤ n.toNat) ∧ (∀ i : Nat, i < x → AN xs zs i)) (fun (x : Nat) => n.toNat - x) 0 [1, 7, 8] (some []) (by kernel_rfl) (by kernel_rfl) (by kernel_rfl) ⟨(by omega), (by exact fun i hi => absurd hi (by omega))⟩ ?_)
  rintro x ⟨h3_1, h3_2⟩ R1 N2
  refine R.go 5 (R.cond ((x : Int) < n) (by kernel_rfl) (fun c4 => ?_) (fun c4 => ?_))
  · refine R.go 12 (R.call true (hasFlag7_c x n xs zs (by first | omega | (simp <;> omega)) (by first | omega | (simp <;> omega))) (by kernel_rfl) rfl (by kernel_rfl) ?_)
    refine R.go 2 (R.condN (bnot (band (xs.getD x 0) (zs.getD x 0)) (shl64 1 (x : Int)) = 0) (by kernel_rfl) (fun c5 => ?_) (fun c5 => ?_))
    · exact R.go 4 (R.retE (.bool false) (by kernel_rfl) (by kernel_rfl) (by first | (apply congrArg AV.bool; first | exact aB_noN hRel hN8 hz (x := x) (by omega) (by assumption) | exact aB_of hRel hN8 hz fun i hi => (‹∀ i : Nat, i < x → AN xs zs i›) i (by omega)) | (exfalso; omega)))
    · refine R.go 3 (R.ar ((x : Int) + 1) (by kernel_rfl) (by omega) (by omega) (by kernel_rfl) ?_)
      exact R.go 2 (R.stop R1 (by kernel_rfl) (N2 (x + 1) [1, 7, 8] none _ (by kernel_rfl) (by kernel_rfl) ⟨(by omega), (by exact below1 (by assumption) (show bnot (band (xs.getD x 0) (zs.getD x 0)) (shl64 1 (x : Int)) = 0 by assumption))⟩ (by show (n.toNat - (x + 1)) < (n.toNat - x); omega)))
  · exact R.go 5 (R.retE (.bool true) (by kernel_rfl) (by kernel_rfl) (by first | (apply congrArg AV.bool; first | exact aB_noN hRel hN8 hz (x := x) (by omega) (by assumption) | exact aB_of hRel hN8 hz fun i hi => (‹∀ i : Nat, i < x → AN xs zs i›) i (by omega)) | (exfalso; omega)))

theorem inverse_c (n : Int) (xs : List Int) (hR : okFr n xs = true) : CallA Try.prog 79 [LI xs] (ownA eI 2 1 (invA xs xs.length)) := by
  have hF := okFr_rel hR
  have hRel : RelOK n.toNat xs := hF.2.2.2
  have hb0 : 0 ≤ n ∧ n ≤ 8 ∧ (xs.length : Int) = n := ⟨hF.1, hF.2.1, hF.2.2.1⟩
  have hN8 : n.toNat ≤ 30 := by omega
  refine CallA.of Try.func79 rfl (by kernel_rfl) ?_
  refine R.go 8 (R.mk eI 0 2 8 xs.length xs.length (by kernel_rfl) rfl (by decide) (by omega) (by kernel_rfl) ?_)
  refine R.go 10 (R.loop ((fun | (i, out) => (⟨(frm 36 [(3, .ref 0), (11, LI xs), (12, AI xs.length), (13, AI (i : Int))]), [rowA eI 2 1 out]⟩ : St) : Nat × (List Int) → St)) (fun | (i, out) => (i ≤ xs.length) ∧ (out = invA xs i)) (fun | (i, out) => xs.length - i) (0, (List.replicate xs.length 0)) [3, 11, 12, 13] none (by kernel_rfl) (by kernel_rfl) (by kernel_rfl) ⟨(by omega), (by rfl)⟩ ?_)
  rintro ⟨i, out⟩ ⟨h4_1, rfl⟩ R1 N2
  have hol := invA_len xs i
  have hmi := fun h : i < xs.length => hRel.2 i (by omega)
  have hml := mem_le (xs.getD i 0)
  refine R.go 5 (R.cond ((i : Int) < (xs.length : Int)) (by kernel_rfl) (fun c5 => ?_) (fun c5 => ?_))
  · refine R.go 6 (R.idx eI xs 0 i (i : Int) (by kernel_rfl) rfl eI_len (by omega) (by kernel_rfl) ?_)
    have hmm := inM_mono (n' := 61) (by omega) (hmi (by omega))
    refine R.go 7 (R.call true (membersOf_c (xs.getD i 0) (by first | assumption | exact inM61 (by omega) (by omega))).frz (by kernel_rfl) rfl (by kernel_rfl) ?_)
    refine R.go 4 (R.loop ((fun | (t, o2) => (⟨(frm 36 [(3, .ref 0), (4, AI (i : Int)), (11, LI xs), (12, AI xs.length), (13, AI (i : Int)), (19, LI (mem (xs.getD i 0))), (20, AI ((mem (xs.getD i 0)).length)), (21, AI (t : Int))]), [rowA eI 2 1 o2]⟩ : St) : Nat × (List Int) → St)) (fun | (t, o2) => (t ≤ (mem (xs.getD i 0)).length) ∧ (o2 = invJ (invA xs i) i ((mem (xs.getD i 0)).take t))) (fun | (t, o2) => (mem (xs.getD i 0)).length - t) (0, (invA xs i)) [3, 4, 11, 12, 13, 19, 20, 21] none (by kernel_rfl) (by kernel_rfl) (by kernel_rfl) ⟨(by omega), (by rfl)⟩ ?_)
    rintro ⟨t, o2⟩ ⟨h9_1, rfl⟩ R6 N7
    have hol2 : (invJ (invA xs i) i ((mem (xs.getD i 0)).take t)).length = xs.length := by rw [invJ_len, hol]
    refine R.go 5 (R.cond ((t : Int) < ((mem (xs.getD i 0)).length : Int)) (by kernel_rfl) (fun c10 => ?_) (fun c10 => ?_))
    · refine R.go 5 (R.idx eI (mem (xs.getD i 0)) 0 t (t : Int) (by kernel_rfl) rfl eI_len (by omega) (by kernel_rfl) ?_)
      have hjr := mem_lt' (N := n.toNat) (by omega) (hmi (by omega)) (t := t) (by omega)
      refine R.go 6 (R.idxO 0 1 (invJ (invA xs i) i ((mem (xs.getD i 0)).take t)).length ((((mem (xs.getD i 0)).getD t 0)).toNat) ((mem (xs.getD i 0)).getD t 0) (by kernel_rfl) (by omega) (by first | omega | (simp only [List.length_set]; omega) | (simp <;> omega)) (by kernel_rfl) ?_)
      refine R.ldI (invJ (invA xs i) i ((mem (xs.getD i 0)).take t)) ((((mem (xs.getD i 0)).getD t 0)).toNat) (by kernel_rfl) (by first | omega | (simp only [List.length_set]; omega) | (simp <;> omega)) (by kernel_rfl) ?_
      refine R.go 1 (R.shl 1 (i : Int) (by kernel_rfl) (by omega) (by kernel_rfl) ?_)
      refine R.go 1 (R.idxO 0 1 (invJ (invA xs i) i ((mem (xs.getD i 0)).take t)).length ((((mem (xs.getD i 0)).getD t 0)).toNat) ((mem (xs.getD i 0)).getD t 0) (by kernel_rfl) (by omega) (by first | omega | (simp only [List.length_set]; omega) | (simp <;> omega)) (by kernel_rfl) ?_)
      refine R.stI 0 2 (invJ (invA xs i) i ((mem (xs.getD i 0)).take t)) ((((mem (xs.getD i 0)).getD t 0)).toNat) (bor ((invJ (invA xs i) i ((mem (xs.getD i 0)).take t)).getD ((((mem (xs.getD i 0)).getD t 0)).toNat) 0) (shl64 1 (i : Int))) (by kernel_rfl) (by first | omega | (simp only [List.length_set]; omega) | (simp <;> omega)) (by kernel_rfl) ?_
      refine R.go 3 (R.ar ((t : Int) + 1) (by kernel_rfl) (by omega) (by omega) (by kernel_rfl) ?_)
      exact R.go 2 (R.stop R6 (by kernel_rfl) (N7 (t + 1, (invJ (invA xs i) i ((mem (xs.getD i 0)).take t)).set ((((mem (xs.getD i 0)).getD t 0)).toNat) (bor ((invJ (invA xs i) i ((mem (xs.getD i 0)).take t)).getD ((((mem (xs.getD i 0)).getD t 0)).toNat) 0) (shl64 1 (i : Int)))) [3, 4, 11, 12, 13, 19, 20, 21] none _ (by kernel_rfl) (by kernel_rfl) ⟨(by omega), (by exact invJ_snoc (by omega))⟩ (by show ((mem (xs.getD i 0)).length - (t + 1)) < ((mem (xs.getD i 0)).length - t); omega)))
    · refine R.go 3 (R.ar ((i : Int) + 1) (by kernel_rfl) (by omega) (by omega) (by kernel_rfl) ?_)
      exact R.go 2 (R.stop R1 (by kernel_rfl) (N2 (i + 1, invJ (invA xs i) i ((mem (xs.getD i 0)).take t)) [3, 11, 12, 13] none _ (by kernel_rfl) (by kernel_rfl) ⟨(by omega), (by rw [invA, List.take_of_length_le (by omega)])⟩ (by show (xs.length - (i + 1)) < (xs.length - i); omega)))
  · exact R.go 6 (R.retE (ownA eI 2 1 (invA xs i)) (by kernel_rfl) (by kernel_rfl) (by first | (rw [show i = xs.length by omega]) | (exfalso; omega)))

theorem equalI_c (a : List Int) (b : List Int) (la : a.length ≤ 1000000000) : CallA Try.prog 84 [LI a, LI b] (.bool (decide (a = b))) := by
  refine CallA.of Try.func84 rfl (by kernel_rfl) ?_
  refine R.go 13 (R.condN ((a.length : Int) = (b.length : Int)) (by kernel_rfl) (fun c1 => ?_) (fun c1 => ?_))
  · exact R.go 4 (R.retE (.bool false) (by kernel_rfl) (by kernel_rfl) (by first | (first | (rw [dF (fun h => by subst h; omega)]) | (rw [dT (take_all (i := i) (by omega) (by omega) (by assumption))])) | (exfalso; omega)))
  · refine R.go 9 (R.loop (fun (i : Nat) => (⟨(frm 26 [(0, LI a), (1, LI b), (12, AI a.length), (13, AI (i : Int))]), []⟩ : St)) (fun (i : Nat) => (i ≤ a.length) ∧ (a.take i = b.take i)) (fun (i : Nat) => a.length - i) 0 [0, 1, 12, 13] none (by kernel_rfl) (by kernel_rfl) (by kernel_rfl) ⟨(by omega), (by rfl)⟩ ?_)
    rintro i ⟨h4_1, h4_2⟩ R2 N3
    refine R.go 5 (R.cond ((i : Int) < (a.length : Int)) (by kernel_rfl) (fun c5 => ?_) (fun c5 => ?_))
    · refine R.go 12 (R.idx eI a 0 i (i : Int) (by kernel_rfl) rfl eI_len (by omega) (by kernel_rfl) ?_)
      refine R.go 3 (R.idx eI b 0 i (i : Int) (by kernel_rfl) rfl eI_len (by omega) (by kernel_rfl) ?_)
      refine R.go 3 (R.condN ((a.getD i 0) = (b.getD i 0)) (by kernel_rfl) (fun c6 => ?_) (fun c6 => ?_))
      · exact R.go 4 (R.retE (.bool false) (by kernel_rfl) (by kernel_rfl) (by first | (first | (rw [dF (fun h => by subst h; omega)]) | (rw [dT (take_all (i := i) (by omega) (by omega) (by assumption))])) | (exfalso; omega)))
      · refine R.go 3 (R.ar ((i : Int) + 1) (by kernel_rfl) (by omega) (by omega) (by kernel_rfl) ?_)
        exact R.go 2 (R.stop R2 (by kernel_rfl) (N3 (i + 1) [0, 1, 12, 13] none _ (by kernel_rfl) (by kernel_rfl) ⟨(by omega), (by exact take_step a b 0 i (by omega) (by omega) (by assumption) (by assumption))⟩ (by show (a.length - (i + 1)) < (a.length - i); omega)))
    · exact R.go 5 (R.retE (.bool true) (by kernel_rfl) (by kernel_rfl) (by first | (first | (rw [dF (fun h => by subst h; omega)]) | (rw [dT (take_all (i := i) (by omega) (by omega) (by assumption))])) | (exfalso; omega)))

theorem inverseG_c (n : Int) (xs zs : List Int) (hR : okFr n xs = true) (hz : zs = invA xs xs.length) : CallA Try.prog 79 [LI xs] (ownA eI 2 1 zs) := by rw [hz]; exact inverse_c n xs hR

theorem hasFlagR_c (n : Int) (xs : List Int) (hR : okFr n xs = true) : CallA Try.prog 52 [.agg [AI n, LI xs], AI 0] (.bool (rB n.toNat xs)) := by
  have hF := okFr_rel hR
  have hRel : RelOK n.toNat xs := hF.2.2.2
  have hb0 : 0 ≤ n ∧ n ≤ 8 ∧ (xs.length : Int) = n := ⟨hF.1, hF.2.1, hF.2.2.1⟩
  have hN8 : n.toNat ≤ 30 := by omega
  obtain ⟨zs, hz⟩ : ∃ zs, zs = invA xs xs.length := ⟨_, rfl⟩
  have hwl := wout_len xs xs.length
  refine CallA.of Try.func52 rfl (by kernel_rfl) ?_
  refine R.go 9 (R.call true (inverseG_c n xs zs hR (by assumption)).frz (by kernel_rfl) rfl (by kernel_rfl) ?_)
  refine R.go 19 (R.call false (everyR_c n xs hR) (by kernel_rfl) rfl (by kernel_rfl) ?_)
  exact R.go 2 (R.retE (.bool (rB n.toNat xs)) (by kernel_rfl) (by kernel_rfl) (by rfl))

theorem hasFlagT_c (n : Int) (xs : List Int) (hR : okFr n xs = true) : CallA Try.prog 52 [.agg [AI n, LI xs], AI 2] (.bool (tB n.toNat xs)) := by
  have hF := okFr_rel hR
  have hRel : RelOK n.toNat xs := hF.2.2.2
  have hb0 : 0 ≤ n ∧ n ≤ 8 ∧ (xs.length : Int) = n := ⟨hF.1, hF.2.1, hF.2.2.1⟩
  have hN8 : n.toNat ≤ 30 := by omega
  obtain ⟨zs, hz⟩ : ∃ zs, zs = invA xs xs.length := ⟨_, rfl⟩
  have hwl := wout_len xs xs.length
  refine CallA.of Try.func52 rfl (by kernel_rfl) ?_
  refine R.go 9 (R.call true (inverseG_c n xs zs hR (by assumption)).frz (by kernel_rfl) rfl (by kernel_rfl) ?_)
  refine R.go 31 (R.call true (transitive_c xs (by first | omega | (simp <;> omega))).frz (by kernel_rfl) rfl (by kernel_rfl) ?_)
  refine R.go 2 (R.call true (equalI_c (wout xs xs.length) xs (by first | omega | (simp <;> omega))) (by kernel_rfl) rfl (by kernel_rfl) ?_)
  exact R.go 2 (R.retE (.bool (decide ((wout xs xs.length) = xs))) (by kernel_rfl) (by kernel_rfl) (by first | (apply congrArg AV.bool; exact trW hRel hN8) | (exfalso; omega)))

theorem hasFlagA_c (n : Int) (xs : List Int) (hR : okFr n xs = true) : CallA Try.prog 52 [.agg [AI n, LI xs], AI 8] (.bool (aB n.toNat xs)) := by
  have hF := okFr_rel hR
  have hRel : RelOK n.toNat xs := hF.2.2.2
  have hb0 : 0 ≤ n ∧ n ≤ 8 ∧ (xs.length : Int) = n := ⟨hF.1, hF.2.1, hF.2.2.1⟩
  have hN8 : n.toNat ≤ 30 := by omega
  obtain ⟨zs, hz⟩ : ∃ zs, zs = invA xs xs.length := ⟨_, rfl⟩
  have hwl := wout_len xs xs.length
  refine CallA.of Try.func52 rfl (by kernel_rfl) ?_
  refine R.go 9 (R.call true (inverseG_c n xs zs hR (by assumption)).frz (by kernel_rfl) rfl (by kernel_rfl) ?_)
  refine R.go 67 (R.call false (everyA_c n xs zs hR (by assumption)) (by kernel_rfl) rfl (by kernel_rfl) ?_)
  exact R.go 2 (R.retE (.bool (aB n.toNat xs)) (by kernel_rfl) (by kernel_rfl) (by rfl))

theorem okFr_any {n : Int} {xs : List Int} (h : (xs.any fun m => !inR m 0 ((shl64 1 n) - 1)) = true) : okFr n xs = false := by simp [okFr, h]
theorem okFr_mk {n : Int} {xs : List Int} (h : inR n 0 8 = true) (h1 : (xs.length : Int) = n) (h2 : (xs.any fun m => !inR m 0 ((shl64 1 n) - 1)) = false) : okFr n xs = true := by rw [okFr_yes h h1, h2]; rfl
theorem okFr_rel1 {n : Int} {xs : List Int} (h : inR n 0 8 = true) (h1 : (xs.length : Int) = n) (h2 : xs.any (outR xs.length) = false) : okFr n xs = true := by rw [← okFr_out h h1, h2]; rfl
theorem okFr_rel0 {n : Int} {xs : List Int} (h : inR n 0 8 = true) (h1 : (xs.length : Int) = n) (h2 : xs.any (outR xs.length) = true) : okFr n xs = false := by rw [← okFr_out h h1, h2]; rfl

theorem frameOf_c (xs : List Int) : CallA Try.prog 63 [LI xs] (.agg [AI xs.length, LI xs]) := by
  refine CallA.of Try.func63 rfl (by kernel_rfl) ?_
  refine R.go 7 (R.call true (size_c xs) (by kernel_rfl) rfl (by kernel_rfl) ?_)
  exact R.go 4 (R.retE (.agg [AI xs.length, LI xs]) (by kernel_rfl) (by kernel_rfl) (by rfl))

theorem pFrame_c (n : Int) (xs : List Int) (hn : (xs.length : Int) = n) : CallA Try.prog 35 [.agg [AI n, LI xs]] (.agg [AI n, LI xs]) := by
  refine CallA.of Try.func35 rfl (by kernel_rfl) ?_
  refine R.go 9 (R.call true (frameOf_c xs) (by kernel_rfl) rfl (by kernel_rfl) ?_)
  exact R.go 2 (R.retE (.agg [AI xs.length, LI xs]) (by kernel_rfl) (by kernel_rfl) (by first | (rw [hn]) | (exfalso; omega)))

set_option maxHeartbeats 1000000 in
theorem isPoset_c (n : Int) (xs : List Int) (hl : xs.length ≤ 1000000000) : CallA Try.prog 30 [.agg [AI n, LI xs]] (.bool (okPo n xs)) := by
  have hn := fun h : inR n 0 8 = true => (inR_iff _ _ _).1 h
  refine CallA.of Try.func30 rfl (by kernel_rfl) ?_
  refine R.go 10 (R.call true (inRange_c n 0 8) (by kernel_rfl) rfl (by kernel_rfl) ?_)
  refine R.go 2 ?_
  refine (Bool.eq_false_or_eq_true (inR n 0 8)).elim (fun c1 => ?_) (fun c1 => ?_)
  · refine R.want (!(inR n 0 8)) false (by kernel_rfl) (bnF c1) ?_
    refine R.go 1 (R.want (!(inR n 0 8)) false (by kernel_rfl) (bnF c1) ?_)
    refine R.go 1 (R.want (!(inR n 0 8)) false (by kernel_rfl) (bnF c1) ?_)
    refine R.call true (size_c xs) (by kernel_rfl) rfl (by kernel_rfl) ?_
    refine R.want (!(inR n 0 8)) false (by kernel_rfl) (bnF c1) ?_
    refine R.go 1 (R.want (!(inR n 0 8)) false (by kernel_rfl) (bnF c1) ?_)
    refine R.go 1 (R.want (!(inR n 0 8)) false (by kernel_rfl) (bnF c1) ?_)
    refine R.go 1 (R.pick (!(inR n 0 8)) false (by kernel_rfl) (bnF c1) (by kernel_rfl) ?_)
    refine R.go 1 ?_
    by_cases c2 : (xs.length : Int) = n
    · refine R.want (!decide ((xs.length : Int) = n)) false (by kernel_rfl) (nF c2) ?_
      refine R.go 1 (R.want (!decide ((xs.length : Int) = n)) false (by kernel_rfl) (nF c2) ?_)
      refine R.go 1 (R.want (!decide ((xs.length : Int) = n)) false (by kernel_rfl) (nF c2) ?_)
      refine R.call true (isRelation_c xs hl) (by kernel_rfl) rfl (by kernel_rfl) ?_
      refine R.want (!decide ((xs.length : Int) = n)) false (by kernel_rfl) (nF c2) ?_
      refine R.go 1 (R.pick (!decide ((xs.length : Int) = n)) false (by kernel_rfl) (nF c2) (by kernel_rfl) ?_)
      refine R.go 1 (R.condM (!(xs.any (outR xs.length))) (by kernel_rfl) (fun c3 => ?_) (fun c3 => ?_))
      · exact R.go 4 (R.retE (.bool false) (by kernel_rfl) (by kernel_rfl) (by first | (apply congrArg AV.bool; first | exact okPo_0 (okFr_no (by assumption)) | exact okPo_0 (okFr_ne (by assumption)) | exact okPo_0 (by assumption) | exact okPo_1 hfr (by assumption) | exact okPo_2 hfr (by assumption) (by assumption) | exact okPo_3 hfr (by assumption) (by assumption) | exact okPo_0 (okFr_rel0 (by assumption) (by assumption) (by first | assumption | simpa using (by assumption : (!xs.any (outR xs.length)) = false)))) | (exfalso; omega)))
      · have hfr : okFr n xs = true := okFr_rel1 (by assumption) (by assumption) (by first | assumption | simpa using (by assumption : (!xs.any (outR xs.length)) = true))
        refine R.go 4 (R.call true (pFrame_c n xs c2) (by kernel_rfl) rfl (by kernel_rfl) ?_)
        refine R.go 6 (R.call true (hasFlagR_c n xs hfr) (by kernel_rfl) rfl (by kernel_rfl) ?_)
        refine R.go 1 ?_
        refine (Bool.eq_false_or_eq_true (rB n.toNat xs)).elim (fun c4 => ?_) (fun c4 => ?_)
        · refine R.want (rB n.toNat xs) true (by kernel_rfl) c4 ?_
          refine R.go 1 (R.want (rB n.toNat xs) true (by kernel_rfl) c4 ?_)
          refine R.call true (hasFlagT_c n xs hfr) (by kernel_rfl) rfl (by kernel_rfl) ?_
          refine R.pick (rB n.toNat xs) true (by kernel_rfl) c4 (by kernel_rfl) ?_
          refine R.go 1 ?_
          refine (Bool.eq_false_or_eq_true (tB n.toNat xs)).elim (fun c5 => ?_) (fun c5 => ?_)
          · refine R.want (tB n.toNat xs) true (by kernel_rfl) c5 ?_
            refine R.go 1 (R.want (tB n.toNat xs) true (by kernel_rfl) c5 ?_)
            refine R.call true (hasFlagA_c n xs hfr) (by kernel_rfl) rfl (by kernel_rfl) ?_
            refine R.pick (tB n.toNat xs) true (by kernel_rfl) c5 (by kernel_rfl) ?_
            exact R.go 2 (R.retE (.bool (aB n.toNat xs)) (by kernel_rfl) (by kernel_rfl) (by first | (apply congrArg AV.bool; first | exact okPo_0 (okFr_no (by assumption)) | exact okPo_0 (okFr_ne (by assumption)) | exact okPo_0 (by assumption) | exact okPo_1 hfr (by assumption) | exact okPo_2 hfr (by assumption) (by assumption) | exact okPo_3 hfr (by assumption) (by assumption) | exact okPo_0 (okFr_rel0 (by assumption) (by assumption) (by first | assumption | simpa using (by assumption : (!xs.any (outR xs.length)) = false)))) | (exfalso; omega)))
          · refine R.skp (tB n.toNat xs) true (by kernel_rfl) c5 (by kernel_rfl) ?_
            refine R.skp (tB n.toNat xs) true (by kernel_rfl) c5 (by kernel_rfl) ?_
            refine R.pick (tB n.toNat xs) false (by kernel_rfl) c5 (by kernel_rfl) ?_
            exact R.go 2 (R.retE (.bool false) (by kernel_rfl) (by kernel_rfl) (by first | (apply congrArg AV.bool; first | exact okPo_0 (okFr_no (by assumption)) | exact okPo_0 (okFr_ne (by assumption)) | exact okPo_0 (by assumption) | exact okPo_1 hfr (by assumption) | exact okPo_2 hfr (by assumption) (by assumption) | exact okPo_3 hfr (by assumption) (by assumption) | exact okPo_0 (okFr_rel0 (by assumption) (by assumption) (by first | assumption | simpa using (by assumption : (!xs.any (outR xs.length)) = false)))) | (exfalso; omega)))
        · refine R.skp (rB n.toNat xs) true (by kernel_rfl) c4 (by kernel_rfl) ?_
          refine R.skp (rB n.toNat xs) true (by kernel_rfl) c4 (by kernel_rfl) ?_
          refine R.pick (rB n.toNat xs) false (by kernel_rfl) c4 (by kernel_rfl) ?_
          exact R.go 6 (R.retE (.bool false) (by kernel_rfl) (by kernel_rfl) (by first | (apply congrArg AV.bool; first | exact okPo_0 (okFr_no (by assumption)) | exact okPo_0 (okFr_ne (by assumption)) | exact okPo_0 (by assumption) | exact okPo_1 hfr (by assumption) | exact okPo_2 hfr (by assumption) (by assumption) | exact okPo_3 hfr (by assumption) (by assumption) | exact okPo_0 (okFr_rel0 (by assumption) (by assumption) (by first | assumption | simpa using (by assumption : (!xs.any (outR xs.length)) = false)))) | (exfalso; omega)))
    · refine R.skp (!decide ((xs.length : Int) = n)) false (by kernel_rfl) (nT c2) (by kernel_rfl) ?_
      refine R.skp (!decide ((xs.length : Int) = n)) false (by kernel_rfl) (nT c2) (by kernel_rfl) ?_
      refine R.skp (!decide ((xs.length : Int) = n)) false (by kernel_rfl) (nT c2) (by kernel_rfl) ?_
      refine R.skp (!decide ((xs.length : Int) = n)) false (by kernel_rfl) (nT c2) (by kernel_rfl) ?_
      refine R.pick (!decide ((xs.length : Int) = n)) true (by kernel_rfl) (nT c2) (by kernel_rfl) ?_
      exact R.go 6 (R.retE (.bool false) (by kernel_rfl) (by kernel_rfl) (by first | (apply congrArg AV.bool; first | exact okPo_0 (okFr_no (by assumption)) | exact okPo_0 (okFr_ne (by assumption)) | exact okPo_0 (by assumption) | exact okPo_1 hfr (by assumption) | exact okPo_2 hfr (by assumption) (by assumption) | exact okPo_3 hfr (by assumption) (by assumption) | exact okPo_0 (okFr_rel0 (by assumption) (by assumption) (by first | assumption | simpa using (by assumption : (!xs.any (outR xs.length)) = false)))) | (exfalso; omega)))
  · refine R.skp (!(inR n 0 8)) false (by kernel_rfl) (bnT c1) (by kernel_rfl) ?_
    refine R.skp (!(inR n 0 8)) false (by kernel_rfl) (bnT c1) (by kernel_rfl) ?_
    refine R.skp (!(inR n 0 8)) false (by kernel_rfl) (bnT c1) (by kernel_rfl) ?_
    refine R.skp (!(inR n 0 8)) false (by kernel_rfl) (bnT c1) (by kernel_rfl) ?_
    refine R.skp (!(inR n 0 8)) false (by kernel_rfl) (bnT c1) (by kernel_rfl) ?_
    refine R.skp (!(inR n 0 8)) false (by kernel_rfl) (bnT c1) (by kernel_rfl) ?_
    refine R.pick (!(inR n 0 8)) true (by kernel_rfl) (bnT c1) (by kernel_rfl) ?_
    exact R.go 12 (R.retE (.bool false) (by kernel_rfl) (by kernel_rfl) (by first | (apply congrArg AV.bool; first | exact okPo_0 (okFr_no (by assumption)) | exact okPo_0 (okFr_ne (by assumption)) | exact okPo_0 (by assumption) | exact okPo_1 hfr (by assumption) | exact okPo_2 hfr (by assumption) (by assumption) | exact okPo_3 hfr (by assumption) (by assumption) | exact okPo_0 (okFr_rel0 (by assumption) (by assumption) (by first | assumption | simpa using (by assumption : (!xs.any (outR xs.length)) = false)))) | (exfalso; omega)))

set_option maxHeartbeats 1000000 in
theorem l16Is_c (n : Int) (xs : List Int) (hl : xs.length ≤ 1000000000) : CallA Try.prog 27 [.agg [AI n, LI xs]] (.bool (okPo n xs)) := by
  have hn := fun h : inR n 0 8 = true => (inR_iff _ _ _).1 h
  refine CallA.of Try.func27 rfl (by kernel_rfl) ?_
  refine R.go 10 (R.call true (l01In_c n 0 8) (by kernel_rfl) rfl (by kernel_rfl) ?_)
  refine R.go 2 ?_
  refine (Bool.eq_false_or_eq_true (inR n 0 8)).elim (fun c1 => ?_) (fun c1 => ?_)
  · refine R.want (!(inR n 0 8)) false (by kernel_rfl) (bnF c1) ?_
    refine R.go 1 (R.want (!(inR n 0 8)) false (by kernel_rfl) (bnF c1) ?_)
    refine R.go 1 (R.want (!(inR n 0 8)) false (by kernel_rfl) (bnF c1) ?_)
    refine R.go 1 (R.want (!(inR n 0 8)) false (by kernel_rfl) (bnF c1) ?_)
    refine R.go 1 (R.want (!(inR n 0 8)) false (by kernel_rfl) (bnF c1) ?_)
    refine R.go 1 (R.want (!(inR n 0 8)) false (by kernel_rfl) (bnF c1) ?_)
    refine R.go 1 (R.pick (!(inR n 0 8)) false (by kernel_rfl) (bnF c1) (by kernel_rfl) ?_)
    refine R.go 1 ?_
    by_cases c2 : (xs.length : Int) = n
    · refine R.want (!decide ((xs.length : Int) = n)) false (by kernel_rfl) (nF c2) ?_
      refine R.go 1 (R.want (!decide ((xs.length : Int) = n)) false (by kernel_rfl) (nF c2) ?_)
      refine R.go 1 (R.want (!decide ((xs.length : Int) = n)) false (by kernel_rfl) (nF c2) ?_)
      refine R.go 1 (R.want (!decide ((xs.length : Int) = n)) false (by kernel_rfl) (nF c2) ?_)
      refine R.go 1 (R.want (!decide ((xs.length : Int) = n)) false (by kernel_rfl) (nF c2) ?_)
      refine R.call true (l01Masks_c n xs hl (by first | omega | (simp only [inR_iff, inR_not] at *; omega)) (by first | omega | (simp only [inR_iff, inR_not] at *; omega))) (by kernel_rfl) rfl (by kernel_rfl) ?_
      refine R.want (!decide ((xs.length : Int) = n)) false (by kernel_rfl) (nF c2) ?_
      refine R.go 1 (R.pick (!decide ((xs.length : Int) = n)) false (by kernel_rfl) (nF c2) (by kernel_rfl) ?_)
      refine R.go 1 (R.condM (!(xs.any fun m => !inR m 0 ((shl64 1 n) - 1))) (by kernel_rfl) (fun c3 => ?_) (fun c3 => ?_))
      · exact R.go 4 (R.retE (.bool false) (by kernel_rfl) (by kernel_rfl) (by first | (apply congrArg AV.bool; first | exact okPo_0 (okFr_no (by assumption)) | exact okPo_0 (okFr_ne (by assumption)) | exact okPo_0 (by assumption) | exact okPo_1 hfr (by assumption) | exact okPo_2 hfr (by assumption) (by assumption) | exact okPo_3 hfr (by assumption) (by assumption) | exact okPo_0 (okFr_any (by first | assumption | simpa using (by assumption : (!xs.any fun m => !inR m 0 ((shl64 1 n) - 1)) = false)))) | (exfalso; omega)))
      · have hfr : okFr n xs = true := okFr_mk (by assumption) (by assumption) (by first | assumption | simpa using (by assumption : (!xs.any fun m => !inR m 0 ((shl64 1 n) - 1)) = true))
        refine R.go 14 (R.call true (flagR_c n xs hfr) (by kernel_rfl) rfl (by kernel_rfl) ?_)
        refine R.go 1 ?_
        refine (Bool.eq_false_or_eq_true (rB n.toNat xs)).elim (fun c4 => ?_) (fun c4 => ?_)
        · refine R.want (rB n.toNat xs) true (by kernel_rfl) c4 ?_
          refine R.go 1 (R.want (rB n.toNat xs) true (by kernel_rfl) c4 ?_)
          refine R.call true (flagT_c n xs hfr) (by kernel_rfl) rfl (by kernel_rfl) ?_
          refine R.pick (rB n.toNat xs) true (by kernel_rfl) c4 (by kernel_rfl) ?_
          refine R.go 1 ?_
          refine (Bool.eq_false_or_eq_true (tB n.toNat xs)).elim (fun c5 => ?_) (fun c5 => ?_)
          · refine R.want (tB n.toNat xs) true (by kernel_rfl) c5 ?_
            refine R.go 1 (R.want (tB n.toNat xs) true (by kernel_rfl) c5 ?_)
            refine R.call true (flagA_c n xs hfr) (by kernel_rfl) rfl (by kernel_rfl) ?_
            refine R.pick (tB n.toNat xs) true (by kernel_rfl) c5 (by kernel_rfl) ?_
            exact R.go 2 (R.retE (.bool (aB n.toNat xs)) (by kernel_rfl) (by kernel_rfl) (by first | (apply congrArg AV.bool; first | exact okPo_0 (okFr_no (by assumption)) | exact okPo_0 (okFr_ne (by assumption)) | exact okPo_0 (by assumption) | exact okPo_1 hfr (by assumption) | exact okPo_2 hfr (by assumption) (by assumption) | exact okPo_3 hfr (by assumption) (by assumption) | exact okPo_0 (okFr_any (by first | assumption | simpa using (by assumption : (!xs.any fun m => !inR m 0 ((shl64 1 n) - 1)) = false)))) | (exfalso; omega)))
          · refine R.skp (tB n.toNat xs) true (by kernel_rfl) c5 (by kernel_rfl) ?_
            refine R.skp (tB n.toNat xs) true (by kernel_rfl) c5 (by kernel_rfl) ?_
            refine R.pick (tB n.toNat xs) false (by kernel_rfl) c5 (by kernel_rfl) ?_
            exact R.go 2 (R.retE (.bool false) (by kernel_rfl) (by kernel_rfl) (by first | (apply congrArg AV.bool; first | exact okPo_0 (okFr_no (by assumption)) | exact okPo_0 (okFr_ne (by assumption)) | exact okPo_0 (by assumption) | exact okPo_1 hfr (by assumption) | exact okPo_2 hfr (by assumption) (by assumption) | exact okPo_3 hfr (by assumption) (by assumption) | exact okPo_0 (okFr_any (by first | assumption | simpa using (by assumption : (!xs.any fun m => !inR m 0 ((shl64 1 n) - 1)) = false)))) | (exfalso; omega)))
        · refine R.skp (rB n.toNat xs) true (by kernel_rfl) c4 (by kernel_rfl) ?_
          refine R.skp (rB n.toNat xs) true (by kernel_rfl) c4 (by kernel_rfl) ?_
          refine R.pick (rB n.toNat xs) false (by kernel_rfl) c4 (by kernel_rfl) ?_
          exact R.go 6 (R.retE (.bool false) (by kernel_rfl) (by kernel_rfl) (by first | (apply congrArg AV.bool; first | exact okPo_0 (okFr_no (by assumption)) | exact okPo_0 (okFr_ne (by assumption)) | exact okPo_0 (by assumption) | exact okPo_1 hfr (by assumption) | exact okPo_2 hfr (by assumption) (by assumption) | exact okPo_3 hfr (by assumption) (by assumption) | exact okPo_0 (okFr_any (by first | assumption | simpa using (by assumption : (!xs.any fun m => !inR m 0 ((shl64 1 n) - 1)) = false)))) | (exfalso; omega)))
    · refine R.skp (!decide ((xs.length : Int) = n)) false (by kernel_rfl) (nT c2) (by kernel_rfl) ?_
      refine R.skp (!decide ((xs.length : Int) = n)) false (by kernel_rfl) (nT c2) (by kernel_rfl) ?_
      refine R.skp (!decide ((xs.length : Int) = n)) false (by kernel_rfl) (nT c2) (by kernel_rfl) ?_
      refine R.skp (!decide ((xs.length : Int) = n)) false (by kernel_rfl) (nT c2) (by kernel_rfl) ?_
      refine R.skp (!decide ((xs.length : Int) = n)) false (by kernel_rfl) (nT c2) (by kernel_rfl) ?_
      refine R.skp (!decide ((xs.length : Int) = n)) false (by kernel_rfl) (nT c2) (by kernel_rfl) ?_
      refine R.pick (!decide ((xs.length : Int) = n)) true (by kernel_rfl) (nT c2) (by kernel_rfl) ?_
      exact R.go 6 (R.retE (.bool false) (by kernel_rfl) (by kernel_rfl) (by first | (apply congrArg AV.bool; first | exact okPo_0 (okFr_no (by assumption)) | exact okPo_0 (okFr_ne (by assumption)) | exact okPo_0 (by assumption) | exact okPo_1 hfr (by assumption) | exact okPo_2 hfr (by assumption) (by assumption) | exact okPo_3 hfr (by assumption) (by assumption) | exact okPo_0 (okFr_any (by first | assumption | simpa using (by assumption : (!xs.any fun m => !inR m 0 ((shl64 1 n) - 1)) = false)))) | (exfalso; omega)))
  · refine R.skp (!(inR n 0 8)) false (by kernel_rfl) (bnT c1) (by kernel_rfl) ?_
    refine R.skp (!(inR n 0 8)) false (by kernel_rfl) (bnT c1) (by kernel_rfl) ?_
    refine R.skp (!(inR n 0 8)) false (by kernel_rfl) (bnT c1) (by kernel_rfl) ?_
    refine R.skp (!(inR n 0 8)) false (by kernel_rfl) (bnT c1) (by kernel_rfl) ?_
    refine R.skp (!(inR n 0 8)) false (by kernel_rfl) (bnT c1) (by kernel_rfl) ?_
    refine R.skp (!(inR n 0 8)) false (by kernel_rfl) (bnT c1) (by kernel_rfl) ?_
    refine R.pick (!(inR n 0 8)) true (by kernel_rfl) (bnT c1) (by kernel_rfl) ?_
    exact R.go 14 (R.retE (.bool false) (by kernel_rfl) (by kernel_rfl) (by first | (apply congrArg AV.bool; first | exact okPo_0 (okFr_no (by assumption)) | exact okPo_0 (okFr_ne (by assumption)) | exact okPo_0 (by assumption) | exact okPo_1 hfr (by assumption) | exact okPo_2 hfr (by assumption) (by assumption) | exact okPo_3 hfr (by assumption) (by assumption) | exact okPo_0 (okFr_any (by first | assumption | simpa using (by assumption : (!xs.any fun m => !inR m 0 ((shl64 1 n) - 1)) = false)))) | (exfalso; omega)))

end Go.Proofs.Ytalfakdiinhdnaa


/-! Posets: roots and upsets of both packages. -/
namespace Go.Proofs.Ytalfakdiinhdnaa
open Go.RowKit Go.Abs

theorem shl8N : ∀ n : Fin 9, 1 ≤ shl64 1 (n.val : Int) ∧ shl64 1 (n.val : Int) ≤ 256 := by decide +kernel
theorem shl_8 {n : Int} (h0 : 0 ≤ n) (h8 : n ≤ 8) : 1 ≤ shl64 1 n ∧ shl64 1 n ≤ 256 := by
  obtain ⟨k, rfl⟩ := Int.eq_ofNat_of_zero_le h0
  exact shl8N ⟨k, by omega⟩
/-- The upsets below k. -/
def upTo (xs : List Int) : Nat → List Int
  | 0 => []
  | k + 1 => if img xs (k : Int) xs.length = (k : Int) then upTo xs k ++ [(k : Int)] else upTo xs k
theorem upTo_len (xs : List Int) : ∀ k : Nat, (upTo xs k).length ≤ k
  | 0 => Nat.le_refl _
  | k + 1 => by
    have := upTo_len xs k
    rw [upTo]
    split
    · simp; omega
    · omega
theorem upTo_yes {xs : List Int} {k : Nat} (h : img xs (k : Int) xs.length = (k : Int)) : upTo xs k ++ [(k : Int)] = upTo xs (k + 1) := by rw [upTo, if_pos h]
theorem upTo_no {xs : List Int} {k : Nat} (h : ¬ img xs (k : Int) xs.length = (k : Int)) : upTo xs k = upTo xs (k + 1) := by rw [upTo, if_neg h]
def upL (n : Int) (xs : List Int) : List Int := upTo xs (shl64 1 n).toNat
def upR (n : Int) (xs : List Int) : List Int := if okPo n xs = true then upL n xs else []
/-! The image, by the members of the mask. -/
def imgL (xs : List Int) (L : List Int) : Int := L.foldl (fun o j => bor o (xs.getD j.toNat 0)) 0
theorem imgL_snoc {xs L : List Int} {t : Nat} (h : t < L.length) : bor (imgL xs (L.take t)) (xs.getD (L.getD t 0).toNat 0) = imgL xs (L.take (t + 1)) := by
  rw [List.take_succ_eq_append_getElem h, imgL, imgL, List.foldl_append, List.getD_eq_getElem?_getD (l := L), List.getElem?_eq_getElem h]
  rfl
theorem imgF_ok {N : Nat} {xs : List Int} (hR : RelOK N xs) (hN : N ≤ 30) : ∀ (L : List Int) (o : Int), InM N o → (∀ j ∈ L, 0 ≤ j ∧ j < (N : Int)) → InM N (L.foldl (fun o j => bor o (xs.getD j.toNat 0)) o) ∧ ∀ k, tb (L.foldl (fun o j => bor o (xs.getD j.toNat 0)) o) k = true ↔ tb o k = true ∨ ∃ j ∈ L, tb (xs.getD j.toNat 0) k = true
  | [], o, h, _ => ⟨h, fun k => by simp⟩
  | v :: L, o, h, hL => by
    have hv := hL v (List.mem_cons_self ..)
    have hx := hR.2 v.toNat (by omega)
    have hb := inM_bor (n := N) (by omega) h hx
    obtain ⟨i1, i2⟩ := imgF_ok hR hN L _ hb fun j hj => hL j (List.mem_cons_of_mem _ hj)
    refine ⟨i1, fun k => ?_⟩
    rw [List.foldl_cons, i2, tb_bor (n := N) (by omega) h hx, Bool.or_eq_true]
    simp [or_assoc]
theorem img_eq {N : Nat} {xs : List Int} {m : Int} (hR : RelOK N xs) (hN : N ≤ 30) (hm : InM N m) : imgL xs (mem m) = img xs m xs.length := by
  have hl := hR.1
  obtain ⟨a1, a2⟩ := imgF_ok hR hN (mem m) 0 (inM_zero _) (mem_lt (by omega) hm)
  obtain ⟨b1, b2⟩ := img_ok (n := N) (by omega) hR hm xs.length (by omega)
  refine tb_ext a1.1 b1.1 fun k => ?_
  rw [Bool.eq_iff_iff, imgL, a2, b2]
  constructor
  · rintro (a | ⟨j, hj, h⟩)
    · rw [tb_zero] at a; cases a
    · have h1 := mem_lt (by omega) hm j hj
      refine ⟨j.toNat, by omega, (mem_iff (by omega) hm).1 (by rw [show ((j.toNat : Nat) : Int) = j by omega]; exact hj), h⟩
  · rintro ⟨j, _, h1, h2⟩
    exact .inr ⟨(j : Int), (mem_iff (by omega) hm).2 h1, by simpa using h2⟩
theorem nat_inM {n : Int} {k : Nat} (h0 : 0 ≤ n) (h8 : n ≤ 8) (hk : (k : Int) < shl64 1 n) : InM n.toNat (k : Int) := by
  have := shl_nat (i := n.toNat) (by omega)
  rw [show ((n.toNat : Nat) : Int) = n by omega] at this
  exact ⟨by omega, by omega⟩
theorem outR_no {n m : Int} (h0 : 0 ≤ n) (h8 : n ≤ 8) (h : 0 ≤ m ∧ m < shl64 1 n) : outR n m = false := by
  rw [outR, (inR_iff n 0 30).2 (by omega), (inR_iff m 0 _).2 (by omega)]; rfl

theorem pAll_c (n : Int) (xs : List Int) (h0 : 0 ≤ n) (h1 : n ≤ 62) : CallA Try.prog 53 [.agg [AI n, LI xs]] (AI ((shl64 1 n) - 1)) := by
  have hb : 1 ≤ shl64 1 n ∧ shl64 1 n ≤ 4611686018427387904 := shl_rng n h0 h1
  refine CallA.of Try.func53 rfl (by kernel_rfl) ?_
  refine R.go 9 (R.shl 1 n (by kernel_rfl) (by omega) (by kernel_rfl) ?_)
  refine R.ar ((shl64 1 n) - 1) (by kernel_rfl) (by omega) (by omega) (by kernel_rfl) ?_
  exact R.go 2 (R.retE (AI ((shl64 1 n) - 1)) (by kernel_rfl) (by kernel_rfl) (by rfl))

theorem imageI_c (n : Int) (xs : List Int) (m : Int) (hR : okFr n xs = true) (hm : InM n.toNat m) : CallA Try.prog 96 [LI xs, AI m] (AI (img xs m xs.length)) := by
  have hF := okFr_rel hR
  have hRel : RelOK n.toNat xs := hF.2.2.2
  have hb0 : 0 ≤ n ∧ n ≤ 8 ∧ (xs.length : Int) = n := ⟨hF.1, hF.2.1, hF.2.2.1⟩
  have hN8 : n.toNat ≤ 30 := by omega
  have hm61 := inM_mono (n' := 61) (by omega) hm
  refine CallA.of Try.func96 rfl (by kernel_rfl) ?_
  refine R.go 12 (R.call true (membersOf_c m (by first | assumption | exact inM61 (by omega) (by omega))).frz (by kernel_rfl) rfl (by kernel_rfl) ?_)
  refine R.go 4 (R.loop ((fun | (t, r) => (⟨(frm 23 [(0, LI xs), (5, AI r), (9, LI (mem m)), (10, AI ((mem m).length)), (11, AI (t : Int))]), []⟩ : St) : Nat × Int → St)) (fun | (t, r) => (t ≤ (mem m).length) ∧ (r = imgL xs ((mem m).take t))) (fun | (t, r) => (mem m).length - t) (0, 0) [0, 5, 9, 10, 11] none (by kernel_rfl) (by kernel_rfl) (by kernel_rfl) ⟨(by omega), (by rfl)⟩ ?_)
  rintro ⟨t, r⟩ ⟨h4_1, rfl⟩ R1 N2
  have hml := mem_le m
  have hjr := fun h : t < (mem m).length => mem_lt' (N := n.toNat) (by omega) hm h
  refine R.go 5 (R.cond ((t : Int) < ((mem m).length : Int)) (by kernel_rfl) (fun c5 => ?_) (fun c5 => ?_))
  · refine R.go 5 (R.idx eI (mem m) 0 t (t : Int) (by kernel_rfl) rfl eI_len (by omega) (by kernel_rfl) ?_)
    have hj2 := hjr (by omega)
    refine R.go 7 (R.idx eI xs 0 ((((mem m).getD t 0)).toNat) ((mem m).getD t 0) (by kernel_rfl) (by omega) eI_len (by omega) (by kernel_rfl) ?_)
    refine R.go 6 (R.ar ((t : Int) + 1) (by kernel_rfl) (by omega) (by omega) (by kernel_rfl) ?_)
    exact R.go 2 (R.stop R1 (by kernel_rfl) (N2 (t + 1, bor (imgL xs ((mem m).take t)) (xs.getD ((((mem m).getD t 0)).toNat) 0)) [0, 5, 9, 10, 11] none _ (by kernel_rfl) (by kernel_rfl) ⟨(by omega), (by exact imgL_snoc (by omega))⟩ (by show ((mem m).length - (t + 1)) < ((mem m).length - t); omega)))
  · exact R.go 6 (R.retE (AI (imgL xs ((mem m).take t))) (by kernel_rfl) (by kernel_rfl) (by first | (rw [← img_eq hRel hN8 hm, List.take_of_length_le (by omega)]) | (exfalso; omega)))

theorem isUpset_c (n : Int) (xs : List Int) (m : Int) (hR : okFr n xs = true) (hm : InM n.toNat m) (ho : outR n m = false) : CallA Try.prog 54 [.agg [AI n, LI xs], AI m] (.bool (decide (img xs m xs.length = m))) := by
  refine CallA.of Try.func54 rfl (by kernel_rfl) ?_
  refine R.go 10 (R.call true (isMask_c n m) (by kernel_rfl) rfl (by kernel_rfl) ?_)
  refine R.go 1 (R.want (!(outR n m)) true (by kernel_rfl) (bnT ho) ?_)
  refine R.go 1 (R.want (!(outR n m)) true (by kernel_rfl) (bnT ho) ?_)
  refine R.go 1 (R.want (!(outR n m)) true (by kernel_rfl) (bnT ho) ?_)
  refine R.go 1 (R.want (!(outR n m)) true (by kernel_rfl) (bnT ho) ?_)
  refine R.call true (imageI_c n xs m hR hm) (by kernel_rfl) rfl (by kernel_rfl) ?_
  refine R.want (!(outR n m)) true (by kernel_rfl) (bnT ho) ?_
  refine R.go 1 (R.want (!(outR n m)) true (by kernel_rfl) (bnT ho) ?_)
  refine R.go 1 (R.pick (!(outR n m)) true (by kernel_rfl) (bnT ho) (by kernel_rfl) ?_)
  exact R.go 2 (R.retE (.bool (decide ((img xs m xs.length) = m))) (by kernel_rfl) (by kernel_rfl) (by first | (rfl) | (exfalso; omega)))

theorem l16Upsets_c (n : Int) (xs : List Int) (hP : okPo n xs = true) : CallA Try.prog 28 [.agg [AI n, LI xs]] (ownA eI 2 1 (upL n xs)) := by
  have hR := okPo_fr hP
  have hF := okFr_rel hR
  have hRel : RelOK n.toNat xs := hF.2.2.2
  have hb0 : 0 ≤ n ∧ n ≤ 8 ∧ (xs.length : Int) = n := ⟨hF.1, hF.2.1, hF.2.2.1⟩
  have hN8 : n.toNat ≤ 30 := by omega
  have hs8 := shl_8 hF.1 hF.2.1
  refine CallA.of Try.func28 rfl (by kernel_rfl) ?_
  refine R.go 16 (R.loop ((fun | (k, out) => (⟨(frm 24 [(1, .ptr 0 0), (3, .ref 1), (4, AI (k : Int))]), [.box 31 [AI n, LI xs], rowA eI 2 1 out]⟩ : St) : Nat × (List Int) → St)) (fun | (k, out) => ((k : Int) ≤ shl64 1 n) ∧ (out = upTo xs k)) (fun | (k, out) => (shl64 1 n).toNat - k) (0, []) [1, 3, 4] none (by kernel_rfl) (by kernel_rfl) (by kernel_rfl) ⟨(by omega), (by rfl)⟩ ?_)
  rintro ⟨k, out⟩ ⟨h4_1, rfl⟩ R1 N2
  have hul := upTo_len xs k
  refine R.go 6 (R.call true (l01Full_c n (by omega) (by omega)) (by kernel_rfl) rfl (by kernel_rfl) ?_)
  refine R.go 2 (R.cond ((k : Int) ≤ ((shl64 1 n) - 1)) (by kernel_rfl) (fun c5 => ?_) (fun c5 => ?_))
  · refine R.go 8 (R.call true (l01Image_c xs (k : Int) (by first | omega | (simp <;> omega))) (by kernel_rfl) rfl (by kernel_rfl) ?_)
    refine R.go 3 (R.cond ((img xs (k : Int) xs.length) = (k : Int)) (by kernel_rfl) (fun c6 => ?_) (fun c6 => ?_))
    · refine R.go 4 (R.app eI (upTo xs k) [(k : Int)] 1 2 1 8 (by kernel_rfl) eI_one (by decide) (by first | omega | (simp <;> omega)) (by kernel_rfl) ?_)
      refine R.go 5 (R.ar ((k : Int) + 1) (by kernel_rfl) (by omega) (by omega) (by kernel_rfl) ?_)
      exact R.go 2 (R.stop R1 (by kernel_rfl) (N2 (k + 1, (upTo xs k) ++ [(k : Int)]) [1, 3, 4] (some [0, 1]) _ (by kernel_rfl) (by kernel_rfl) ⟨(by omega), (by first | exact upTo_yes (by assumption) | exact upTo_no (by assumption))⟩ (by show ((shl64 1 n).toNat - (k + 1)) < ((shl64 1 n).toNat - k); omega)))
    · refine R.go 4 (R.ar ((k : Int) + 1) (by kernel_rfl) (by omega) (by omega) (by kernel_rfl) ?_)
      exact R.go 2 (R.stop R1 (by kernel_rfl) (N2 (k + 1, upTo xs k) [1, 3, 4] none _ (by kernel_rfl) (by kernel_rfl) ⟨(by omega), (by first | exact upTo_yes (by assumption) | exact upTo_no (by assumption))⟩ (by show ((shl64 1 n).toNat - (k + 1)) < ((shl64 1 n).toNat - k); omega)))
  · exact R.go 6 (R.retE (ownA eI 2 1 (upTo xs k)) (by kernel_rfl) (by kernel_rfl) (by first | (show ownA eI _ 1 (upTo xs k) = ownA eI _ 1 (upL n xs); rw [upL, show k = (shl64 1 n).toNat by omega]) | (exfalso; omega)))

theorem upsets_c (n : Int) (xs : List Int) (hP : okPo n xs = true) : CallA Try.prog 31 [.agg [AI n, LI xs]] (ownA eI 2 1 (upL n xs)) := by
  have hR := okPo_fr hP
  have hF := okFr_rel hR
  have hRel : RelOK n.toNat xs := hF.2.2.2
  have hb0 : 0 ≤ n ∧ n ≤ 8 ∧ (xs.length : Int) = n := ⟨hF.1, hF.2.1, hF.2.2.1⟩
  have hN8 : n.toNat ≤ 30 := by omega
  have hs8 := shl_8 hF.1 hF.2.1
  refine CallA.of Try.func31 rfl (by kernel_rfl) ?_
  refine R.go 13 (R.call true (pAll_c n xs (by omega) (by omega)) (by kernel_rfl) rfl (by kernel_rfl) ?_)
  refine R.ar (((shl64 1 n) - 1) + 1) (by kernel_rfl) (by omega) (by omega) (by kernel_rfl) ?_
  refine R.go 3 (R.nil 3 2 1 (by kernel_rfl) ?_)
  refine R.loop ((fun | (k, out) => (⟨(frm 20 [(1, .ptr 0 0), (3, .ref 1), (7, AI (((shl64 1 n) - 1) + 1)), (8, AI (k : Int))]), [.box 31 [AI n, LI xs], rowA eI 2 1 out]⟩ : St) : Nat × (List Int) → St)) (fun | (k, out) => ((k : Int) ≤ shl64 1 n) ∧ (out = upTo xs k)) (fun | (k, out) => (shl64 1 n).toNat - k) (0, []) [1, 3, 7, 8] none (by kernel_rfl) (by kernel_rfl) (by kernel_rfl) ⟨(by omega), (by rfl)⟩ ?_
  rintro ⟨k, out⟩ ⟨h4_1, rfl⟩ R1 N2
  have hul := upTo_len xs k
  refine R.go 5 (R.cond ((k : Int) < (((shl64 1 n) - 1) + 1)) (by kernel_rfl) (fun c5 => ?_) (fun c5 => ?_))
  · have hkm := nat_inM (k := k) hb0.1 hb0.2.1 (by omega)
    have hko := outR_no (m := (k : Int)) hb0.1 hb0.2.1 (by omega)
    refine R.go 12 (R.call true (isUpset_c n xs (k : Int) (by assumption) (by assumption) (by assumption)) (by kernel_rfl) rfl (by kernel_rfl) ?_)
    refine R.go 1 (R.cond (img xs (k : Int) xs.length = (k : Int)) (by kernel_rfl) (fun c6 => ?_) (fun c6 => ?_))
    · refine R.go 4 (R.app eI (upTo xs k) [(k : Int)] 1 2 1 8 (by kernel_rfl) eI_one (by decide) (by first | omega | (simp <;> omega)) (by kernel_rfl) ?_)
      refine R.go 4 (R.ar ((k : Int) + 1) (by kernel_rfl) (by omega) (by omega) (by kernel_rfl) ?_)
      exact R.go 2 (R.stop R1 (by kernel_rfl) (N2 (k + 1, (upTo xs k) ++ [(k : Int)]) [1, 3, 7, 8] (some [0, 1]) _ (by kernel_rfl) (by kernel_rfl) ⟨(by omega), (by first | exact upTo_yes (by assumption) | exact upTo_no (by assumption))⟩ (by show ((shl64 1 n).toNat - (k + 1)) < ((shl64 1 n).toNat - k); omega)))
    · refine R.go 3 (R.ar ((k : Int) + 1) (by kernel_rfl) (by omega) (by omega) (by kernel_rfl) ?_)
      exact R.go 2 (R.stop R1 (by kernel_rfl) (N2 (k + 1, upTo xs k) [1, 3, 7, 8] none _ (by kernel_rfl) (by kernel_rfl) ⟨(by omega), (by first | exact upTo_yes (by assumption) | exact upTo_no (by assumption))⟩ (by show ((shl64 1 n).toNat - (k + 1)) < ((shl64 1 n).toNat - k); omega)))
  · exact R.go 6 (R.retE (ownA eI 2 1 (upTo xs k)) (by kernel_rfl) (by kernel_rfl) (by first | (show ownA eI _ 1 (upTo xs k) = ownA eI _ 1 (upL n xs); rw [upL, show k = (shl64 1 n).toNat by omega]) | (exfalso; omega)))

theorem szPoset_c (n : Int) (xs : List Int) (k : Int) (hk : (k : Int) ≤ 1048576) (hx : (xs.length : Int) ≤ k) : CallA Try.prog 6 [.agg [AI n, LI xs], AI k] (AI ((k : Int) - xs.length)) := by
  refine CallA.of Try.func6 rfl (by kernel_rfl) ?_
  refine R.go 10 (R.call true (szInt64S_c xs k hk hx) (by kernel_rfl) rfl (by kernel_rfl) ?_)
  refine R.go 8 (R.cond (((k : Int) - xs.length) < 0) (by kernel_rfl) (fun c1 => ?_) (fun c1 => ?_))
  · exact R.go 4 (R.retE (AI (-1)) (by kernel_rfl) (by kernel_rfl) (by first | (rfl) | (exfalso; omega)))
  · exact R.go 6 (R.retE (AI ((k : Int) - xs.length)) (by kernel_rfl) (by kernel_rfl) (by rfl))

theorem szPoset_no (n : Int) (xs : List Int) (k : Int) (hk : (0 : Int) ≤ k ∧ (k : Int) ≤ 1048576) (hx : (k : Int) < xs.length) (hl : xs.length ≤ 9223372036854775807) : CallA Try.prog 6 [.agg [AI n, LI xs], AI k] (AI (-1)) := by
  refine CallA.of Try.func6 rfl (by kernel_rfl) ?_
  refine R.go 10 (R.call true (szInt64S_no xs k hk hx hl) (by kernel_rfl) rfl (by kernel_rfl) ?_)
  exact R.go 13 (R.retE (AI (-1)) (by kernel_rfl) (by kernel_rfl) (by rfl))

theorem toPoset_c (n : Int) (xs : List Int) (hl : xs.length ≤ 1048576) : CallA Try.prog 8 [.agg [AI n, LI xs]] (.agg [AI n, ownA eI 2 1 xs]) := by
  refine CallA.of Try.func8 rfl (by kernel_rfl) ?_
  refine R.go 20 (R.call true (toInt64S_c xs hl) (by kernel_rfl) rfl (by kernel_rfl) ?_)
  exact R.go 8 (R.retE (.agg [AI n, ownA eI 2 1 xs]) (by kernel_rfl) (by kernel_rfl) (by rfl))

theorem eqPoset_c (n : Int) (xs : List Int) (la : xs.length ≤ 1000000000) : CallA Try.prog 11 [.agg [AI n, LI xs], .agg [AI n, LI xs]] (.bool true) := by
  refine CallA.of Try.func11 rfl (by kernel_rfl) ?_
  refine R.go 15 (R.els (!decide (n = n)) (by kernel_rfl) (nF rfl) ?_)
  refine R.go 8 (R.call true (eqInt64S_c xs xs la) (by kernel_rfl) rfl (by kernel_rfl) ?_)
  refine R.go 2 (R.els (!decide (xs = xs)) (by kernel_rfl) (nF rfl) ?_)
  exact R.go 5 (R.retE (.bool true) (by kernel_rfl) (by kernel_rfl) (by rfl))

end Go.Proofs.Ytalfakdiinhdnaa
