/- Texts of the proof: SB2, SBM, SB3, SB4, E01, E03. -/
import Derived.Test.YtogehjciaamcfaaPartG

/-! Clusters and depths of worlds, of both packages. -/
namespace Go.Proofs.Ytogehjciaamcfaa
open Go.RowKit Go.Abs

def mutB (ys : List Int) (i j : Nat) : Bool := decide (band (shr64 (ys.getD i 0) (j : Int)) 1 = 1) && decide (band (shr64 (ys.getD j 0) (i : Int)) 1 = 1)
theorem mutB_yes {ys : List Int} {i j : Nat} (h1 : band (shr64 (ys.getD i 0) (j : Int)) 1 = 1) (h2 : band (shr64 (ys.getD j 0) (i : Int)) 1 = 1) : mutB ys i j = true := by rw [mutB, decide_eq_true h1, decide_eq_true h2]; rfl
theorem mutB_no1 {ys : List Int} {i j : Nat} (h1 : ¬ band (shr64 (ys.getD i 0) (j : Int)) 1 = 1) : mutB ys i j = false := by rw [mutB, decide_eq_false h1]; rfl
theorem mutB_no2 {ys : List Int} {i j : Nat} (h1 : ¬ band (shr64 (ys.getD j 0) (i : Int)) 1 = 1) : mutB ys i j = false := by rw [mutB, decide_eq_false h1, Bool.and_false]
/-- The number of the first cluster below j that i belongs to, or -1. -/
def clW (ys : List Int) (i : Nat) (L : List Int) : Nat → Int
  | 0 => -1
  | j + 1 => if clW ys i L j < 0 ∧ mutB ys i j = true then L.getD j 0 else clW ys i L j
def clS (ys : List Int) : Nat → List Int × Int
  | 0 => ([], 0)
  | i + 1 => ((clS ys i).1 ++ [if clW ys i (clS ys i).1 i < 0 then (clS ys i).2 else clW ys i (clS ys i).1 i], if clW ys i (clS ys i).1 i < 0 then (clS ys i).2 + 1 else (clS ys i).2)
theorem clS_len (ys : List Int) : ∀ i, (clS ys i).1.length = i
  | 0 => rfl
  | i + 1 => by simp [clS, clS_len ys i]
theorem clW_none {ys : List Int} {i : Nat} {L : List Int} : ∀ {j : Nat}, (∀ v, v < j → mutB ys i v = false) → clW ys i L j = -1
  | 0, _ => rfl
  | j + 1, h => by rw [clW, if_neg (by rw [h j (by omega)]; simp), clW_none fun v hv => h v (by omega)]
theorem clW_hit {ys : List Int} {i j : Nat} {L : List Int} (h : ∀ v, v < j → mutB ys i v = false) (hj : mutB ys i j = true) (h0 : 0 ≤ L.getD j 0) : ∀ d, clW ys i L (j + 1 + d) = L.getD j 0
  | 0 => by rw [Nat.add_zero, clW, if_pos ⟨by rw [clW_none h]; decide, hj⟩]
  | d + 1 => by rw [← Nat.add_assoc, clW, if_neg (by rw [clW_hit h hj h0 d]; omega), clW_hit h hj h0 d]
theorem clS_nn (ys : List Int) : ∀ i, (∀ v, 0 ≤ (clS ys i).1.getD v 0) ∧ 0 ≤ (clS ys i).2 ∧ (clS ys i).2 ≤ i
  | 0 => by simp [clS]
  | i + 1 => by
    obtain ⟨h1, h2, h3⟩ := clS_nn ys i
    refine ⟨fun v => ?_, ?_, ?_⟩
    · simp only [clS]
      rw [List.getD_eq_getElem?_getD, List.getElem?_append]
      split
      · have := h1 v
        rwa [List.getD_eq_getElem?_getD] at this
      · generalize v - _ = q
        cases q with
        | zero =>
          simp only [List.getElem?_cons_zero, Option.getD_some]
          split <;> omega
        | succ q => simp
    · simp only [clS]; split <;> omega
    · simp only [clS]; split <;> omega
theorem getD_take {X L : List Int} {i j : Nat} (h : X.take i = L) (hj : j < i) : X.getD j 0 = L.getD j 0 := by
  rw [← h, List.getD_eq_getElem?_getD, List.getD_eq_getElem?_getD, List.getElem?_take, if_pos hj]
theorem getDs_eq {X : List Int} {i : Nat} {a : Int} (h : i < X.length) : (X.set i a).getD i 0 = a := by
  rw [List.getD_eq_getElem?_getD, List.getElem?_set_self h]; rfl
theorem getDs_ne {X : List Int} {i j : Nat} {a : Int} (h : ¬ j = i) : (X.set i a).getD j 0 = X.getD j 0 := by
  rw [List.getD_eq_getElem?_getD, List.getElem?_set_ne (Ne.symm h), ← List.getD_eq_getElem?_getD]
theorem take_set_succ {X : List Int} {i : Nat} {a b : Int} (h : i < X.length) : ((X.set i a).set i b).take (i + 1) = X.take i ++ [b] := by
  rw [List.set_set, List.take_succ_eq_append_getElem (by simpa using h)]
  simp only [List.getElem_set_self]
  congr 1
  apply List.ext_getElem?
  intro q
  rw [List.getElem?_take, List.getElem?_take]
  split
  · rw [List.getElem?_set_ne (by omega)]
  · rfl
theorem clA_g {ys X : List Int} {i j : Nat} (ht : X.take i = (clS ys i).1) (hi : i < X.length) (hj : j < i) : 0 ≤ ((X.set i (-1)).set i ((X.set i (-1)).getD j 0)).getD i 0 := by
  rw [getDs_eq (by simpa using hi), getDs_ne (by omega), getD_take ht hj]
  exact (clS_nn ys i).1 j
theorem clB_g {X : List Int} {i : Nat} (hi : i < X.length) : (X.set i (-1)).getD i 0 = -1 := getDs_eq hi
theorem clA_o {ys X : List Int} {i j : Nat} (ht : X.take i = (clS ys i).1) (hj : j < i) (hn : ∀ v, v < j → mutB ys i v = false) (hm : mutB ys i j = true) : clW ys i (clS ys i).1 i = (clS ys i).1.getD j 0 := by
  have := clW_hit hn hm ((clS_nn ys i).1 j) (i - (j + 1))
  rwa [show j + 1 + (i - (j + 1)) = i by omega] at this
theorem clA_t {ys X : List Int} {i j : Nat} (ht : X.take i = (clS ys i).1) (hi : i < X.length) (hj : j < i) (hn : ∀ v, v < j → mutB ys i v = false) (hm : mutB ys i j = true) : ((X.set i (-1)).set i ((X.set i (-1)).getD j 0)).take (i + 1) = (clS ys (i + 1)).1 := by
  have h0 := (clS_nn ys i).1 j
  rw [take_set_succ hi, ht, getDs_ne (by omega), getD_take ht hj]
  simp only [clS]
  rw [clA_o ht hj hn hm, if_neg (by omega)]
theorem clA_c {ys X : List Int} {i j : Nat} {k : Int} (ht : X.take i = (clS ys i).1) (hk : k = (clS ys i).2) (hj : j < i) (hn : ∀ v, v < j → mutB ys i v = false) (hm : mutB ys i j = true) : k = (clS ys (i + 1)).2 := by
  have h0 := (clS_nn ys i).1 j
  rw [hk]
  simp only [clS]
  rw [clA_o ht hj hn hm, if_neg (by omega)]
theorem clB_t {ys X : List Int} {i j : Nat} {k : Int} (ht : X.take i = (clS ys i).1) (hk : k = (clS ys i).2) (hi : i < X.length) (hj : j = i) (hn : ∀ v, v < j → mutB ys i v = false) : ((X.set i (-1)).set i k).take (i + 1) = (clS ys (i + 1)).1 := by
  subst hj
  rw [take_set_succ hi, ht, hk]
  simp only [clS]
  rw [clW_none hn, if_pos (by decide)]
theorem clB_c {ys : List Int} {i j : Nat} {k : Int} (hk : k = (clS ys i).2) (hj : j = i) (hn : ∀ v, v < j → mutB ys i v = false) : k + 1 = (clS ys (i + 1)).2 := by
  subst hj
  rw [hk]
  simp only [clS]
  rw [clW_none hn, if_pos (by decide)]
theorem below_m {ys : List Int} {i j : Nat} (hn : ∀ v, v < j → mutB ys i v = false) (hj : mutB ys i j = false) : ∀ v, v < j + 1 → mutB ys i v = false := fun v hv => by
  by_cases e : v = j
  · rw [e]; exact hj
  · exact hn v (by omega)
theorem cl_end {ys X : List Int} {i n : Nat} (ht : X.take i = (clS ys i).1) (hi : i = n) (hl : X.length = n) : X = (clS ys n).1 := by
  subst hi
  rw [← ht, ← hl, List.take_length]
theorem clusters_c (n : Int) (xs : List Int) (hP : okFr n xs = true) : CallA Try.prog 106 [.agg [AI n, LI xs]] (ownA eI 2 1 ((clS (clo xs) n.toNat).1)) := by
  have hF := okFr_rel hP
  have hR : RelOK n.toNat xs := hF.2.2.2
  have h0 : 0 ≤ n ∧ n ≤ 8 ∧ (xs.length : Int) = n := ⟨hF.1, hF.2.1, hF.2.2.1⟩
  have hcl := clo_len xs
  refine CallA.of Try.func106 rfl (by kernel_rfl) ?_
  refine R.go 8 (R.call true (reachable_c n xs (by first | omega | (simp <;> omega))) (by kernel_rfl) rfl (by kernel_rfl) ?_)
  refine R.go 6 (R.mk eI 0 2 8 ((n).toNat) n (by kernel_rfl) (by omega) (by decide) (by omega) (by kernel_rfl) ?_)
  refine R.go 14 (R.loop ((fun | (i, X, k) => (⟨(frm 60 [(3, .ref 0), (4, .ref 1), (5, AI k), (14, AI n), (15, AI (i : Int))]), [rowA eI 2 1 (clo xs), rowA eI 2 1 X]⟩ : St) : Nat × (List Int) × Int → St)) (fun | (i, X, k) => (i ≤ n.toNat) ∧ (X.length = n.toNat) ∧ (X.take i = (clS (clo xs) i).1) ∧ (k = (clS (clo xs) i).2)) (fun | (i, X, k) => n.toNat - i) (0, (List.replicate ((n).toNat) 0), 0) [3, 4, 5, 14, 15] (some [1, 2]) (by kernel_rfl) (by kernel_rfl) (by kernel_rfl) ⟨(by omega), (by (simp <;> omega)), (by simp [clS]), (by rfl)⟩ ?_)
  rintro ⟨i, X, k⟩ ⟨h4_1, h4_2, h4_3, h4_4⟩ R1 N2
  have hk0 := (clS_nn (clo xs) i).2
  refine R.go 5 (R.cond ((i : Int) < n) (by kernel_rfl) (fun c5 => ?_) (fun c5 => ?_))
  · refine R.go 12 (R.idxO 1 1 X.length i (i : Int) (by kernel_rfl) rfl (by omega) (by kernel_rfl) ?_)
    refine R.stI 1 2 X i (-1) (by kernel_rfl) (by omega) (by kernel_rfl) ?_
    refine R.go 8 (R.loop (fun (j : Nat) => (⟨(frm 60 [(3, .ref 0), (4, .ref 1), (5, AI k), (6, AI (i : Int)), (14, AI n), (15, AI (i : Int)), (21, AI (i : Int)), (22, AI (j : Int))]), [rowA eI 2 1 (clo xs), rowA eI 2 1 (X.set i (-1))]⟩ : St)) (fun (j : Nat) => (j ≤ i) ∧ (∀ v, v < j → mutB (clo xs) i v = false)) (fun (j : Nat) => i - j) 0 [3, 4, 5, 6, 14, 15, 21, 22] none (by kernel_rfl) (by kernel_rfl) (by kernel_rfl) ⟨(by omega), (by intro v hv; omega)⟩ ?_)
    rintro j ⟨h8_1, h8_2⟩ R6 N7
    have hyn := mutB_yes (ys := clo xs) (i := i) (j := j)
    have hno1 := mutB_no1 (ys := clo xs) (i := i) (j := j)
    have hno2 := mutB_no2 (ys := clo xs) (i := i) (j := j)
    refine R.go 5 (R.cond ((j : Int) < (i : Int)) (by kernel_rfl) (fun c9 => ?_) (fun c9 => ?_))
    · refine R.go 12 (R.idxO 0 1 (clo xs).length i (i : Int) (by kernel_rfl) rfl (by omega) (by kernel_rfl) ?_)
      refine R.ldI (clo xs) i (by kernel_rfl) (by omega) (by kernel_rfl) ?_
      refine R.go 1 (R.call true (has_c ((clo xs).getD i 0) (j : Int) (by omega)) (by kernel_rfl) rfl (by kernel_rfl) ?_)
      refine R.go 1 ?_
      by_cases c10 : band (shr64 ((clo xs).getD i 0) (j : Int)) 1 = 1
      · refine R.want (decide (band (shr64 ((clo xs).getD i 0) (j : Int)) 1 = 1)) true (by kernel_rfl) (dT c10) ?_
        refine R.go 1 (R.want (decide (band (shr64 ((clo xs).getD i 0) (j : Int)) 1 = 1)) true (by kernel_rfl) (dT c10) ?_)
        refine R.go 1 (R.want (decide (band (shr64 ((clo xs).getD i 0) (j : Int)) 1 = 1)) true (by kernel_rfl) (dT c10) ?_)
        refine R.idxO 0 1 (clo xs).length j (j : Int) (by kernel_rfl) rfl (by omega) (by kernel_rfl) ?_
        refine R.want (decide (band (shr64 ((clo xs).getD i 0) (j : Int)) 1 = 1)) true (by kernel_rfl) (dT c10) ?_
        refine R.ldI (clo xs) j (by kernel_rfl) (by omega) (by kernel_rfl) ?_
        refine R.want (decide (band (shr64 ((clo xs).getD i 0) (j : Int)) 1 = 1)) true (by kernel_rfl) (dT c10) ?_
        refine R.go 1 (R.want (decide (band (shr64 ((clo xs).getD i 0) (j : Int)) 1 = 1)) true (by kernel_rfl) (dT c10) ?_)
        refine R.call true (has_c ((clo xs).getD j 0) (i : Int) (by omega)) (by kernel_rfl) rfl (by kernel_rfl) ?_
        refine R.pick (decide (band (shr64 ((clo xs).getD i 0) (j : Int)) 1 = 1)) true (by kernel_rfl) (dT c10) (by kernel_rfl) ?_
        refine R.go 1 (R.cond (band (shr64 ((clo xs).getD j 0) (i : Int)) 1 = 1) (by kernel_rfl) (fun c11 => ?_) (fun c11 => ?_))
        · refine R.go 6 (R.idxO 1 1 (X.set i (-1)).length j (j : Int) (by kernel_rfl) rfl (by first | omega | (simp <;> omega)) (by kernel_rfl) ?_)
          refine R.ldI (X.set i (-1)) j (by kernel_rfl) (by first | omega | (simp <;> omega)) (by kernel_rfl) ?_
          refine R.idxO 1 1 (X.set i (-1)).length i (i : Int) (by kernel_rfl) rfl (by first | omega | (simp <;> omega)) (by kernel_rfl) ?_
          refine R.stI 1 2 (X.set i (-1)) i ((X.set i (-1)).getD j 0) (by kernel_rfl) (by first | omega | (simp <;> omega)) (by kernel_rfl) ?_
          first | (have hg := clA_g (j := j) ‹X.take i = (clS (clo xs) i).1› (by omega) (by omega)) | skip
          have hg2 := clB_g (X := X) (i := i) (by omega)
          refine R.go 6 (R.idxO 1 1 ((X.set i (-1)).set i ((X.set i (-1)).getD j 0)).length i (i : Int) (by kernel_rfl) rfl (by first | omega | (simp <;> omega)) (by kernel_rfl) ?_)
          refine R.ldI ((X.set i (-1)).set i ((X.set i (-1)).getD j 0)) i (by kernel_rfl) (by first | omega | (simp <;> omega)) (by kernel_rfl) ?_
          refine R.go 2 (R.cond ((((X.set i (-1)).set i ((X.set i (-1)).getD j 0)).getD i 0) < 0) (by kernel_rfl) (fun c12 => ?_) (fun c12 => ?_))
          · refine R.go 5 (R.idxO 1 1 ((X.set i (-1)).set i ((X.set i (-1)).getD j 0)).length i (i : Int) (by kernel_rfl) rfl (by first | omega | (simp <;> omega)) (by kernel_rfl) ?_)
            refine R.stI 1 2 ((X.set i (-1)).set i ((X.set i (-1)).getD j 0)) i k (by kernel_rfl) (by first | omega | (simp <;> omega)) (by kernel_rfl) ?_
            refine R.go 3 (R.ar (k + 1) (by kernel_rfl) (by omega) (by omega) (by kernel_rfl) ?_)
            refine R.go 4 (R.ar ((i : Int) + 1) (by kernel_rfl) (by omega) (by omega) (by kernel_rfl) ?_)
            exact R.go 2 (R.stop R1 (by kernel_rfl) (N2 (i + 1, ((X.set i (-1)).set i ((X.set i (-1)).getD j 0)).set i k, k + 1) [3, 4, 5, 14, 15] none _ (by kernel_rfl) (by kernel_rfl) ⟨(by omega), (by (simp <;> omega)), (by first | exact clA_t ‹X.take i = (clS (clo xs) i).1› (by omega) (by omega) (by assumption) (hyn (by assumption) (by assumption)) | exact clB_t ‹X.take i = (clS (clo xs) i).1› (by assumption) (by omega) (show j = i by omega) (by assumption) | (exfalso; omega)), (by first | exact clA_c ‹X.take i = (clS (clo xs) i).1› (by assumption) (by omega) (by assumption) (hyn (by assumption) (by assumption)) | exact clB_c (by assumption) (show j = i by omega) (by assumption) | (exfalso; omega))⟩ (by show (n.toNat - (i + 1)) < (n.toNat - i); omega)))
          · refine R.go 3 (R.ar ((i : Int) + 1) (by kernel_rfl) (by omega) (by omega) (by kernel_rfl) ?_)
            exact R.go 2 (R.stop R1 (by kernel_rfl) (N2 (i + 1, (X.set i (-1)).set i ((X.set i (-1)).getD j 0), k) [3, 4, 5, 14, 15] none _ (by kernel_rfl) (by kernel_rfl) ⟨(by omega), (by (simp <;> omega)), (by first | exact clA_t ‹X.take i = (clS (clo xs) i).1› (by omega) (by omega) (by assumption) (hyn (by assumption) (by assumption)) | exact clB_t ‹X.take i = (clS (clo xs) i).1› (by assumption) (by omega) (show j = i by omega) (by assumption) | (exfalso; omega)), (by first | exact clA_c ‹X.take i = (clS (clo xs) i).1› (by assumption) (by omega) (by assumption) (hyn (by assumption) (by assumption)) | exact clB_c (by assumption) (show j = i by omega) (by assumption) | (exfalso; omega))⟩ (by show (n.toNat - (i + 1)) < (n.toNat - i); omega)))
        · refine R.go 3 (R.ar ((j : Int) + 1) (by kernel_rfl) (by omega) (by omega) (by kernel_rfl) ?_)
          exact R.go 2 (R.stop R6 (by kernel_rfl) (N7 (j + 1) [3, 4, 5, 6, 14, 15, 21, 22] none _ (by kernel_rfl) (by kernel_rfl) ⟨(by omega), (by first | exact below_m (by assumption) (hno1 (by assumption)) | exact below_m (by assumption) (hno2 (by assumption)))⟩ (by show (i - (j + 1)) < (i - j); omega)))
      · refine R.skp (decide (band (shr64 ((clo xs).getD i 0) (j : Int)) 1 = 1)) true (by kernel_rfl) (dF c10) (by kernel_rfl) ?_
        refine R.skp (decide (band (shr64 ((clo xs).getD i 0) (j : Int)) 1 = 1)) true (by kernel_rfl) (dF c10) (by kernel_rfl) ?_
        refine R.skp (decide (band (shr64 ((clo xs).getD i 0) (j : Int)) 1 = 1)) true (by kernel_rfl) (dF c10) (by kernel_rfl) ?_
        refine R.skp (decide (band (shr64 ((clo xs).getD i 0) (j : Int)) 1 = 1)) true (by kernel_rfl) (dF c10) (by kernel_rfl) ?_
        refine R.skp (decide (band (shr64 ((clo xs).getD i 0) (j : Int)) 1 = 1)) true (by kernel_rfl) (dF c10) (by kernel_rfl) ?_
        refine R.skp (decide (band (shr64 ((clo xs).getD i 0) (j : Int)) 1 = 1)) true (by kernel_rfl) (dF c10) (by kernel_rfl) ?_
        refine R.pick (decide (band (shr64 ((clo xs).getD i 0) (j : Int)) 1 = 1)) false (by kernel_rfl) (dF c10) (by kernel_rfl) ?_
        refine R.go 5 (R.ar ((j : Int) + 1) (by kernel_rfl) (by omega) (by omega) (by kernel_rfl) ?_)
        exact R.go 2 (R.stop R6 (by kernel_rfl) (N7 (j + 1) [3, 4, 5, 6, 14, 15, 21, 22] none _ (by kernel_rfl) (by kernel_rfl) ⟨(by omega), (by first | exact below_m (by assumption) (hno1 (by assumption)) | exact below_m (by assumption) (hno2 (by assumption)))⟩ (by show (i - (j + 1)) < (i - j); omega)))
    · first | (have hg := clA_g (j := j) ‹X.take i = (clS (clo xs) i).1› (by omega) (by omega)) | skip
      have hg2 := clB_g (X := X) (i := i) (by omega)
      refine R.go 5 (R.idxO 1 1 (X.set i (-1)).length i (i : Int) (by kernel_rfl) rfl (by first | omega | (simp <;> omega)) (by kernel_rfl) ?_)
      refine R.ldI (X.set i (-1)) i (by kernel_rfl) (by first | omega | (simp <;> omega)) (by kernel_rfl) ?_
      refine R.go 2 (R.cond (((X.set i (-1)).getD i 0) < 0) (by kernel_rfl) (fun c13 => ?_) (fun c13 => ?_))
      · refine R.go 5 (R.idxO 1 1 (X.set i (-1)).length i (i : Int) (by kernel_rfl) rfl (by first | omega | (simp <;> omega)) (by kernel_rfl) ?_)
        refine R.stI 1 2 (X.set i (-1)) i k (by kernel_rfl) (by first | omega | (simp <;> omega)) (by kernel_rfl) ?_
        refine R.go 3 (R.ar (k + 1) (by kernel_rfl) (by omega) (by omega) (by kernel_rfl) ?_)
        refine R.go 4 (R.ar ((i : Int) + 1) (by kernel_rfl) (by omega) (by omega) (by kernel_rfl) ?_)
        exact R.go 2 (R.stop R1 (by kernel_rfl) (N2 (i + 1, (X.set i (-1)).set i k, k + 1) [3, 4, 5, 14, 15] none _ (by kernel_rfl) (by kernel_rfl) ⟨(by omega), (by (simp <;> omega)), (by first | exact clA_t ‹X.take i = (clS (clo xs) i).1› (by omega) (by omega) (by assumption) (hyn (by assumption) (by assumption)) | exact clB_t ‹X.take i = (clS (clo xs) i).1› (by assumption) (by omega) (show j = i by omega) (by assumption) | (exfalso; omega)), (by first | exact clA_c ‹X.take i = (clS (clo xs) i).1› (by assumption) (by omega) (by assumption) (hyn (by assumption) (by assumption)) | exact clB_c (by assumption) (show j = i by omega) (by assumption) | (exfalso; omega))⟩ (by show (n.toNat - (i + 1)) < (n.toNat - i); omega)))
      · refine R.go 3 (R.ar ((i : Int) + 1) (by kernel_rfl) (by omega) (by omega) (by kernel_rfl) ?_)
        exact R.go 2 (R.stop R1 (by kernel_rfl) (N2 (i + 1, X.set i (-1), k) [3, 4, 5, 14, 15] none _ (by kernel_rfl) (by kernel_rfl) ⟨(by omega), (by (simp <;> omega)), (by first | exact clA_t ‹X.take i = (clS (clo xs) i).1› (by omega) (by omega) (by assumption) (hyn (by assumption) (by assumption)) | exact clB_t ‹X.take i = (clS (clo xs) i).1› (by assumption) (by omega) (show j = i by omega) (by assumption) | (exfalso; omega)), (by first | exact clA_c ‹X.take i = (clS (clo xs) i).1› (by assumption) (by omega) (by assumption) (hyn (by assumption) (by assumption)) | exact clB_c (by assumption) (show j = i by omega) (by assumption) | (exfalso; omega))⟩ (by show (n.toNat - (i + 1)) < (n.toNat - i); omega)))
  · exact R.go 6 (R.retE (ownA eI 2 1 X) (by kernel_rfl) (by kernel_rfl) (by first | (rw [cl_end ‹X.take i = (clS (clo xs) i).1› (show i = n.toNat by omega) (by assumption)]) | (exfalso; omega)))

end Go.Proofs.Ytogehjciaamcfaa


/-! Members of a mask. -/
namespace Go.Proofs.Ytogehjciaamcfaa
open Go.RowKit Go.Abs

theorem mem_in {N : Nat} {C : Int} (hN : N ≤ 61) (hC : InM N C) {k : Nat} (hk : k < (mem C).length) : (mem C).getD k 0 = (((mem C).getD k 0).toNat : Int) ∧ ((mem C).getD k 0).toNat < N ∧ tb C ((mem C).getD k 0).toNat = true := by
  have hg : (mem C).getD k 0 ∈ mem C := by
    rw [List.getD_eq_getElem?_getD, List.getElem?_eq_getElem hk]
    exact List.getElem_mem _
  obtain ⟨j, _, h2, h3⟩ := memN_mem.1 hg
  have := tb_lt hC h2
  rw [h3]
  exact ⟨by omega, by omega, h2⟩

end Go.Proofs.Ytogehjciaamcfaa


/-! Depths of worlds. -/
namespace Go.Proofs.Ytogehjciaamcfaa
open Go.RowKit Go.Abs

def dpI (ys cl : List Int) (x : Nat) (X : List Int) : Nat → List Int
  | 0 => X
  | k + 1 => if cl.getD x 0 = cl.getD ((mem (ys.getD x 0)).getD k 0).toNat 0 then dpI ys cl x X k else (dpI ys cl x X k).set x (if (dpI ys cl x X k).getD ((mem (ys.getD x 0)).getD k 0).toNat 0 + 1 > (dpI ys cl x X k).getD x 0 then (dpI ys cl x X k).getD ((mem (ys.getD x 0)).getD k 0).toNat 0 + 1 else (dpI ys cl x X k).getD x 0)
def dpX (ys cl : List Int) (X : List Int) : Nat → List Int
  | 0 => X
  | x + 1 => dpI ys cl x (dpX ys cl X x) (mem (ys.getD x 0)).length
def dpR (ys cl : List Int) (n : Nat) : Nat → List Int
  | 0 => List.replicate n 1
  | r + 1 => dpX ys cl (dpR ys cl n r) n
theorem dpI_len (ys cl : List Int) (x : Nat) (X : List Int) : ∀ k, (dpI ys cl x X k).length = X.length
  | 0 => rfl
  | k + 1 => by
    rw [dpI]
    split
    · exact dpI_len ys cl x X k
    · rw [List.length_set]; exact dpI_len ys cl x X k
theorem dpX_len (ys cl X : List Int) : ∀ x, (dpX ys cl X x).length = X.length
  | 0 => rfl
  | x + 1 => by rw [dpX, dpI_len, dpX_len ys cl X x]
theorem dpR_len (ys cl : List Int) (n : Nat) : ∀ r, (dpR ys cl n r).length = n
  | 0 => by simp [dpR]
  | r + 1 => by rw [dpR, dpX_len, dpR_len ys cl n r]
def bnd (X : List Int) (b : Int) : Prop := ∀ v, 0 ≤ X.getD v 0 ∧ X.getD v 0 ≤ b
theorem bnd_set {X : List Int} {b a : Int} {x : Nat} (h : bnd X b) (ha : 0 ≤ a ∧ a ≤ b) : bnd (X.set x a) b := fun v => by
  by_cases e : v = x
  · subst e
    by_cases hl : v < X.length
    · rw [getDs_eq hl]; exact ha
    · rw [List.set_eq_of_length_le (by omega)]; exact h v
  · rw [getDs_ne e]; exact h v
theorem dpI_b (ys cl : List Int) (x : Nat) {X : List Int} {b : Int} (h : bnd X b) : ∀ k : Nat, bnd (dpI ys cl x X k) (b + k)
  | 0 => by simpa [dpI] using h
  | k + 1 => by
    have ih := dpI_b ys cl x h k
    have ih2 : bnd (dpI ys cl x X k) (b + ((k + 1 : Nat) : Int)) := fun v => by have := ih v; omega
    rw [dpI]
    split
    · exact ih2
    · refine bnd_set ih2 ?_
      have h1 := ih x
      have h2 := ih ((mem (ys.getD x 0)).getD k 0).toNat
      omega
theorem dpX_b (ys cl : List Int) {X : List Int} {b : Int} (h : bnd X b) : ∀ x : Nat, bnd (dpX ys cl X x) (b + 62 * x)
  | 0 => by simpa [dpX] using h
  | x + 1 => by
    have ih := dpI_b ys cl x (dpX_b ys cl h x) (mem (ys.getD x 0)).length
    have := mem_le (ys.getD x 0)
    rw [dpX]
    exact fun v => by have := ih v; omega
theorem dpR_b (ys cl : List Int) {n : Nat} (hn : n ≤ 8) : ∀ r : Nat, bnd (dpR ys cl n r) (1 + 496 * r)
  | 0 => fun v => by
    rw [dpR, List.getD_eq_getElem?_getD, List.getElem?_replicate]
    split <;> simp
  | r + 1 => by
    have ih := dpX_b ys cl (dpR_b ys cl hn r) n
    rw [dpR]
    exact fun v => by have := ih v; omega
theorem dp_b (ys cl : List Int) {n r x k : Nat} (hn : n ≤ 8) (hr : r ≤ n) (hx : x ≤ n) (hk : k ≤ 62) : bnd (dpI ys cl x (dpX ys cl (dpR ys cl n r) x) k) 5000 := fun v => by
  have := dpI_b ys cl x (dpX_b ys cl (dpR_b ys cl hn r) x) k v
  omega
theorem dpI_y {ys cl X Y : List Int} {x k : Nat} (h : Y = dpI ys cl x X k) (hc : cl.getD x 0 = cl.getD ((mem (ys.getD x 0)).getD k 0).toNat 0) : Y = dpI ys cl x X (k + 1) := by rw [dpI, if_pos hc, h]
theorem dpI_n {ys cl X Y : List Int} {x k : Nat} (h : Y = dpI ys cl x X k) (hc : ¬ cl.getD x 0 = cl.getD ((mem (ys.getD x 0)).getD k 0).toNat 0) : Y.set x (if Y.getD ((mem (ys.getD x 0)).getD k 0).toNat 0 + 1 > Y.getD x 0 then Y.getD ((mem (ys.getD x 0)).getD k 0).toNat 0 + 1 else Y.getD x 0) = dpI ys cl x X (k + 1) := by rw [dpI, if_neg hc, h]
theorem dpX_e {ys cl X Y : List Int} {x k : Nat} (h : Y = dpI ys cl x (dpX ys cl X x) k) (hk : k = (mem (ys.getD x 0)).length) : Y = dpX ys cl X (x + 1) := by rw [dpX, h, hk]
theorem dpX_e2 {ys cl X Y Z : List Int} {x k : Nat} (h : Z = dpI ys cl x Y k) (hY : Y = dpX ys cl X x) (hk : k = (mem (ys.getD x 0)).length) : Z = dpX ys cl X (x + 1) := dpX_e (by rw [← hY]; exact h) hk
theorem dpR_e {ys cl Y : List Int} {n r x : Nat} (h : Y = dpX ys cl (dpR ys cl n r) x) (hx : x = n) : Y = dpR ys cl n (r + 1) := by rw [dpR, h, hx]
def depI (n : Int) (xs : List Int) : List Int := dpR (clo xs) (clS (clo xs) n.toNat).1 n.toNat n.toNat
theorem memAt8 {N : Nat} {ys : List Int} (hN : N ≤ 8) (hR : RelOK N ys) {x k : Nat} (hx : x < N) (hk : k < (mem (ys.getD x 0)).length) : 0 ≤ (mem (ys.getD x 0)).getD k 0 ∧ (mem (ys.getD x 0)).getD k 0 < N := by
  obtain ⟨h1, h2, _⟩ := mem_in (by omega) (hR.2 x hx) hk
  omega

theorem worldD_c (n : Int) (xs : List Int) (hP : okFr n xs = true) : CallA Try.prog 71 [.agg [AI n, LI xs]] (ownA eI 2 1 (depI n xs)) := by
  have hF := okFr_rel hP
  have hR : RelOK n.toNat xs := hF.2.2.2
  have h0 : 0 ≤ n ∧ n ≤ 8 ∧ (xs.length : Int) = n := ⟨hF.1, hF.2.1, hF.2.2.1⟩
  have hcl := clo_len xs
  have hRc := (clo_ok (n := n.toNat) (by omega) hR).1
  have hcs := clS_len (clo xs) n.toNat
  refine CallA.of Try.func71 rfl (by kernel_rfl) ?_
  refine R.go 6 (R.any (by decide +kernel) (by kernel_rfl) ?_)
  refine R.any2 0 2 (by kernel_rfl) (by kernel_rfl) ?_ ?_
  · refine R.go 2 (R.any2 1 2 (by kernel_rfl) (by kernel_rfl) ?_ ?_)
    · refine R.call true (reachable_c n xs (by first | omega | (simp <;> omega))) (by kernel_rfl) rfl (by kernel_rfl) ?_
      refine R.go 1 (R.any1 2 (by kernel_rfl) (by kernel_rfl) ?_)
      refine R.go 2 (R.any1 3 (by kernel_rfl) (by kernel_rfl) ?_)
      refine R.call true (clusters_c n xs hP) (by kernel_rfl) rfl (by kernel_rfl) ?_
      refine R.go 1 (R.any1 4 (by kernel_rfl) (by kernel_rfl) ?_)
      refine R.go 2 (R.any1 5 (by kernel_rfl) (by kernel_rfl) ?_)
      refine R.go 2 (R.any0 (by kernel_rfl) ?_)
      refine R.go 2 (R.lit (s := 1) (n := 1) (cs := rows eI [1]) (by kernel_rfl) (by kernel_rfl) ?_)
      refine R.go 2 (R.call true (repeat_c n (by omega) (by omega)) (by kernel_rfl) rfl (by kernel_rfl) ?_)
      refine R.go 10 (R.loop ((fun | (r, X) => (⟨(frm 62 [(1, .ptr 0 0), (3, .ref 1), (4, .ref 2), (5, .ref 3), (18, AI n), (19, AI (r : Int))]), [.box 75 [AI n, LI xs], rowA eI 2 1 (clo xs), rowA eI 2 1 ((clS (clo xs) n.toNat).1), rowA eI 2 1 X]⟩ : St) : Nat × (List Int) → St)) (fun | (r, X) => (r ≤ n.toNat) ∧ (X.length = n.toNat) ∧ (X = dpR (clo xs) (clS (clo xs) n.toNat).1 n.toNat r)) (fun | (r, X) => n.toNat - r) (0, (List.replicate n.toNat 1)) [1, 3, 4, 5, 18, 19] none (by kernel_rfl) (by kernel_rfl) (by kernel_rfl) ⟨(by omega), (by (simp <;> omega)), (by rfl)⟩ ?_)
      rintro ⟨r, X⟩ ⟨h4_1, h4_2, h4_3⟩ R1 N2
      refine R.go 5 (R.cond ((r : Int) < n) (by kernel_rfl) (fun c5 => ?_) (fun c5 => ?_))
      · refine R.go 10 (R.loop ((fun | (x, Y) => (⟨(frm 62 [(1, .ptr 0 0), (3, .ref 1), (4, .ref 2), (5, .ref 3), (18, AI n), (19, AI (r : Int)), (22, AI n), (23, AI (x : Int))]), [.box 75 [AI n, LI xs], rowA eI 2 1 (clo xs), rowA eI 2 1 ((clS (clo xs) n.toNat).1), rowA eI 2 1 Y]⟩ : St) : Nat × (List Int) → St)) (fun | (x, Y) => (x ≤ n.toNat) ∧ (Y.length = n.toNat) ∧ (Y = dpX (clo xs) (clS (clo xs) n.toNat).1 (dpR (clo xs) (clS (clo xs) n.toNat).1 n.toNat r) x)) (fun | (x, Y) => n.toNat - x) (0, X) [1, 3, 4, 5, 18, 19, 22, 23] none (by kernel_rfl) (by kernel_rfl) (by kernel_rfl) ⟨(by omega), (by omega), (by assumption)⟩ ?_)
        rintro ⟨x, Y⟩ ⟨h9_1, h9_2, h9_3⟩ R6 N7
        have hmk : x < n.toNat → InM 61 ((clo xs).getD x 0) := fun hx => inM_mono (by omega) (hRc.2 x hx)
        refine R.go 5 (R.cond ((x : Int) < n) (by kernel_rfl) (fun c10 => ?_) (fun c10 => ?_))
        · have hmx := hmk (by omega)
          refine R.go 12 (R.idxO 1 1 (clo xs).length x (x : Int) (by kernel_rfl) rfl (by omega) (by kernel_rfl) ?_)
          refine R.ldI (clo xs) x (by kernel_rfl) (by omega) (by kernel_rfl) ?_
          refine R.call true (membersOf_c ((clo xs).getD x 0) (by first | assumption | exact inM61 (by omega) (by omega))) (by kernel_rfl) rfl (by kernel_rfl) ?_
          refine R.go 4 (R.loop ((fun | (k, Z) => (⟨(frm 62 [(1, .ptr 0 0), (3, .ref 1), (4, .ref 2), (5, .ref 3), (6, AI (x : Int)), (18, AI n), (19, AI (r : Int)), (22, AI n), (23, AI (x : Int)), (30, .ref 4), (31, AI ((mem ((clo xs).getD x 0)).length)), (32, AI (k : Int))]), [.box 75 [AI n, LI xs], rowA eI 2 1 (clo xs), rowA eI 2 1 ((clS (clo xs) n.toNat).1), rowA eI 2 1 Z, rowA eI 2 1 (mem ((clo xs).getD x 0))]⟩ : St) : Nat × (List Int) → St)) (fun | (k, Z) => (k ≤ (mem ((clo xs).getD x 0)).length) ∧ (Z.length = n.toNat) ∧ (Z = dpI (clo xs) (clS (clo xs) n.toNat).1 x Y k)) (fun | (k, Z) => (mem ((clo xs).getD x 0)).length - k) (0, Y) [1, 3, 4, 5, 6, 18, 19, 22, 23, 30, 31, 32] none (by kernel_rfl) (by kernel_rfl) (by kernel_rfl) ⟨(by omega), (by omega), (by rfl)⟩ ?_)
          rintro ⟨k, Z⟩ ⟨h14_1, h14_2, h14_3⟩ R11 N12
          have hat := fun hx hk => memAt8 (N := n.toNat) (by omega) hRc (x := x) (k := k) hx hk
          have hml := mem_le ((clo xs).getD x 0)
          refine R.go 5 (R.cond ((k : Int) < ((mem ((clo xs).getD x 0)).length : Int)) (by kernel_rfl) (fun c15 => ?_) (fun c15 => ?_))
          · refine R.go 5 (R.idxO 4 1 (mem ((clo xs).getD x 0)).length k (k : Int) (by kernel_rfl) rfl (by omega) (by kernel_rfl) ?_)
            refine R.ldI (mem ((clo xs).getD x 0)) k (by kernel_rfl) (by omega) (by kernel_rfl) ?_
            have hat1 := hat (by omega) (by omega)
            refine R.go 6 (R.idxO 2 1 ((clS (clo xs) n.toNat).1).length x (x : Int) (by kernel_rfl) rfl (by omega) (by kernel_rfl) ?_)
            refine R.ldI ((clS (clo xs) n.toNat).1) x (by kernel_rfl) (by omega) (by kernel_rfl) ?_
            refine R.go 2 (R.idxO 2 1 ((clS (clo xs) n.toNat).1).length (((mem ((clo xs).getD x 0)).getD k 0).toNat) ((mem ((clo xs).getD x 0)).getD k 0) (by kernel_rfl) (by omega) (by omega) (by kernel_rfl) ?_)
            refine R.ldI ((clS (clo xs) n.toNat).1) (((mem ((clo xs).getD x 0)).getD k 0).toNat) (by kernel_rfl) (by omega) (by kernel_rfl) ?_
            refine R.go 2 (R.condN ((((clS (clo xs) n.toNat).1).getD x 0) = (((clS (clo xs) n.toNat).1).getD (((mem ((clo xs).getD x 0)).getD k 0).toNat) 0)) (by kernel_rfl) (fun c16 => ?_) (fun c16 => ?_))
            · have hbz := dp_b (clo xs) (clS (clo xs) n.toNat).1 (n := n.toNat) (r := r) (x := x) (k := k) (by omega) (by omega) (by omega) (by omega)
              rw [← ‹Y = dpX (clo xs) (clS (clo xs) n.toNat).1 (dpR (clo xs) (clS (clo xs) n.toNat).1 n.toNat r) x›, ← ‹Z = dpI (clo xs) (clS (clo xs) n.toNat).1 x Y k›] at hbz
              have hb1 := hbz x
              have hb2 := hbz ((mem ((clo xs).getD x 0)).getD k 0).toNat
              refine R.go 5 (R.idxO 3 1 Z.length x (x : Int) (by kernel_rfl) rfl (by omega) (by kernel_rfl) ?_)
              refine R.ldI Z x (by kernel_rfl) (by omega) (by kernel_rfl) ?_
              refine R.go 2 (R.idxO 3 1 Z.length (((mem ((clo xs).getD x 0)).getD k 0).toNat) ((mem ((clo xs).getD x 0)).getD k 0) (by kernel_rfl) (by omega) (by omega) (by kernel_rfl) ?_)
              refine R.ldI Z (((mem ((clo xs).getD x 0)).getD k 0).toNat) (by kernel_rfl) (by omega) (by kernel_rfl) ?_
              refine R.ar ((Z.getD (((mem ((clo xs).getD x 0)).getD k 0).toNat) 0) + 1) (by kernel_rfl) (by omega) (by omega) (by kernel_rfl) ?_
              refine R.go 1 (R.idxO 3 1 Z.length x (x : Int) (by kernel_rfl) rfl (by omega) (by kernel_rfl) ?_)
              refine R.stI 3 2 Z x (if ((Z.getD (((mem ((clo xs).getD x 0)).getD k 0).toNat) 0) + 1) > (Z.getD x 0) then ((Z.getD (((mem ((clo xs).getD x 0)).getD k 0).toNat) 0) + 1) else (Z.getD x 0)) (by kernel_rfl) (by omega) (by kernel_rfl) ?_
              refine R.go 3 (R.ar ((k : Int) + 1) (by kernel_rfl) (by omega) (by omega) (by kernel_rfl) ?_)
              exact R.go 2 (R.stop R11 (by kernel_rfl) (N12 (k + 1, Z.set x (if ((Z.getD (((mem ((clo xs).getD x 0)).getD k 0).toNat) 0) + 1) > (Z.getD x 0) then ((Z.getD (((mem ((clo xs).getD x 0)).getD k 0).toNat) 0) + 1) else (Z.getD x 0))) [1, 3, 4, 5, 6, 18, 19, 22, 23, 30, 31, 32] none _ (by kernel_rfl) (by kernel_rfl) ⟨(by omega), (by first | omega | (simp <;> omega)), (by first | exact dpI_y (by assumption) (by assumption) | exact dpI_n (by assumption) (by assumption))⟩ (by show ((mem ((clo xs).getD x 0)).length - (k + 1)) < ((mem ((clo xs).getD x 0)).length - k); omega)))
            · refine R.go 3 (R.ar ((k : Int) + 1) (by kernel_rfl) (by omega) (by omega) (by kernel_rfl) ?_)
              exact R.go 2 (R.stop R11 (by kernel_rfl) (N12 (k + 1, Z) [1, 3, 4, 5, 6, 18, 19, 22, 23, 30, 31, 32] none _ (by kernel_rfl) (by kernel_rfl) ⟨(by omega), (by first | omega | (simp <;> omega)), (by first | exact dpI_y (by assumption) (by assumption) | exact dpI_n (by assumption) (by assumption))⟩ (by show ((mem ((clo xs).getD x 0)).length - (k + 1)) < ((mem ((clo xs).getD x 0)).length - k); omega)))
          · refine R.go 3 (R.ar ((x : Int) + 1) (by kernel_rfl) (by omega) (by omega) (by kernel_rfl) ?_)
            exact R.go 2 (R.stop R6 (by kernel_rfl) (N7 (x + 1, Z) [1, 3, 4, 5, 18, 19, 22, 23] (some [0, 1, 2, 3]) _ (by kernel_rfl) (by kernel_rfl) ⟨(by omega), (by first | omega | (simp <;> omega)), (by exact dpX_e2 (by assumption) (by assumption) (show k = (mem ((clo xs).getD x 0)).length by omega))⟩ (by show (n.toNat - (x + 1)) < (n.toNat - x); omega)))
        · refine R.go 3 (R.ar ((r : Int) + 1) (by kernel_rfl) (by omega) (by omega) (by kernel_rfl) ?_)
          exact R.go 2 (R.stop R1 (by kernel_rfl) (N2 (r + 1, Y) [1, 3, 4, 5, 18, 19] none _ (by kernel_rfl) (by kernel_rfl) ⟨(by omega), (by omega), (by exact dpR_e (by assumption) (show x = n.toNat by omega))⟩ (by show (n.toNat - (r + 1)) < (n.toNat - r); omega)))
      · exact R.go 6 (R.retE (ownA eI 2 1 X) (by kernel_rfl) (by kernel_rfl) (by first | (rw [‹X = dpR (clo xs) (clS (clo xs) n.toNat).1 n.toNat r›, show r = n.toNat by omega]; rfl) | (exfalso; omega)))
    · refine R.go 2 (R.any1 1 (by kernel_rfl) (by kernel_rfl) ?_)
      refine R.call true (reachable_c n xs (by first | omega | (simp <;> omega))) (by kernel_rfl) rfl (by kernel_rfl) ?_
      refine R.go 1 (R.any1 3 (by kernel_rfl) (by kernel_rfl) ?_)
      refine R.call true (clusters_c n xs hP) (by kernel_rfl) rfl (by kernel_rfl) ?_
      refine R.go 1 (R.any1 4 (by kernel_rfl) (by kernel_rfl) ?_)
      refine R.go 2 (R.any1 5 (by kernel_rfl) (by kernel_rfl) ?_)
      refine R.go 2 (R.any0 (by kernel_rfl) ?_)
      refine R.go 2 (R.lit (s := 1) (n := 1) (cs := rows eI [1]) (by kernel_rfl) (by kernel_rfl) ?_)
      refine R.go 2 (R.call true (repeat_c n (by omega) (by omega)) (by kernel_rfl) rfl (by kernel_rfl) ?_)
      refine R.go 10 (R.loop ((fun | (r, X) => (⟨(frm 62 [(1, .ptr 0 0), (3, .ref 1), (4, .ref 2), (5, .ref 3), (18, AI n), (19, AI (r : Int))]), [.box 75 [AI n, LI xs], rowA eI 2 1 (clo xs), rowA eI 2 1 ((clS (clo xs) n.toNat).1), rowA eI 2 1 X]⟩ : St) : Nat × (List Int) → St)) (fun | (r, X) => (r ≤ n.toNat) ∧ (X.length = n.toNat) ∧ (X = dpR (clo xs) (clS (clo xs) n.toNat).1 n.toNat r)) (fun | (r, X) => n.toNat - r) (0, (List.replicate n.toNat 1)) [1, 3, 4, 5, 18, 19] none (by kernel_rfl) (by kernel_rfl) (by kernel_rfl) ⟨(by omega), (by (simp <;> omega)), (by rfl)⟩ ?_)
      rintro ⟨r, X⟩ ⟨h20_1, h20_2, h20_3⟩ R17 N18
      refine R.go 5 (R.cond ((r : Int) < n) (by kernel_rfl) (fun c21 => ?_) (fun c21 => ?_))
      · refine R.go 10 (R.loop ((fun | (x, Y) => (⟨(frm 62 [(1, .ptr 0 0), (3, .ref 1), (4, .ref 2), (5, .ref 3), (18, AI n), (19, AI (r : Int)), (22, AI n), (23, AI (x : Int))]), [.box 75 [AI n, LI xs], rowA eI 2 1 (clo xs), rowA eI 2 1 ((clS (clo xs) n.toNat).1), rowA eI 2 1 Y]⟩ : St) : Nat × (List Int) → St)) (fun | (x, Y) => (x ≤ n.toNat) ∧ (Y.length = n.toNat) ∧ (Y = dpX (clo xs) (clS (clo xs) n.toNat).1 (dpR (clo xs) (clS (clo xs) n.toNat).1 n.toNat r) x)) (fun | (x, Y) => n.toNat - x) (0, X) [1, 3, 4, 5, 18, 19, 22, 23] none (by kernel_rfl) (by kernel_rfl) (by kernel_rfl) ⟨(by omega), (by omega), (by assumption)⟩ ?_)
        rintro ⟨x, Y⟩ ⟨h25_1, h25_2, h25_3⟩ R22 N23
        have hmk : x < n.toNat → InM 61 ((clo xs).getD x 0) := fun hx => inM_mono (by omega) (hRc.2 x hx)
        refine R.go 5 (R.cond ((x : Int) < n) (by kernel_rfl) (fun c26 => ?_) (fun c26 => ?_))
        · have hmx := hmk (by omega)
          refine R.go 12 (R.idxO 1 1 (clo xs).length x (x : Int) (by kernel_rfl) rfl (by omega) (by kernel_rfl) ?_)
          refine R.ldI (clo xs) x (by kernel_rfl) (by omega) (by kernel_rfl) ?_
          refine R.call true (membersOf_c ((clo xs).getD x 0) (by first | assumption | exact inM61 (by omega) (by omega))) (by kernel_rfl) rfl (by kernel_rfl) ?_
          refine R.go 4 (R.loop ((fun | (k, Z) => (⟨(frm 62 [(1, .ptr 0 0), (3, .ref 1), (4, .ref 2), (5, .ref 3), (6, AI (x : Int)), (18, AI n), (19, AI (r : Int)), (22, AI n), (23, AI (x : Int)), (30, .ref 4), (31, AI ((mem ((clo xs).getD x 0)).length)), (32, AI (k : Int))]), [.box 75 [AI n, LI xs], rowA eI 2 1 (clo xs), rowA eI 2 1 ((clS (clo xs) n.toNat).1), rowA eI 2 1 Z, rowA eI 2 1 (mem ((clo xs).getD x 0))]⟩ : St) : Nat × (List Int) → St)) (fun | (k, Z) => (k ≤ (mem ((clo xs).getD x 0)).length) ∧ (Z.length = n.toNat) ∧ (Z = dpI (clo xs) (clS (clo xs) n.toNat).1 x Y k)) (fun | (k, Z) => (mem ((clo xs).getD x 0)).length - k) (0, Y) [1, 3, 4, 5, 6, 18, 19, 22, 23, 30, 31, 32] none (by kernel_rfl) (by kernel_rfl) (by kernel_rfl) ⟨(by omega), (by omega), (by rfl)⟩ ?_)
          rintro ⟨k, Z⟩ ⟨h30_1, h30_2, h30_3⟩ R27 N28
          have hat := fun hx hk => memAt8 (N := n.toNat) (by omega) hRc (x := x) (k := k) hx hk
          have hml := mem_le ((clo xs).getD x 0)
          refine R.go 5 (R.cond ((k : Int) < ((mem ((clo xs).getD x 0)).length : Int)) (by kernel_rfl) (fun c31 => ?_) (fun c31 => ?_))
          · refine R.go 5 (R.idxO 4 1 (mem ((clo xs).getD x 0)).length k (k : Int) (by kernel_rfl) rfl (by omega) (by kernel_rfl) ?_)
            refine R.ldI (mem ((clo xs).getD x 0)) k (by kernel_rfl) (by omega) (by kernel_rfl) ?_
            have hat1 := hat (by omega) (by omega)
            refine R.go 6 (R.idxO 2 1 ((clS (clo xs) n.toNat).1).length x (x : Int) (by kernel_rfl) rfl (by omega) (by kernel_rfl) ?_)
            refine R.ldI ((clS (clo xs) n.toNat).1) x (by kernel_rfl) (by omega) (by kernel_rfl) ?_
            refine R.go 2 (R.idxO 2 1 ((clS (clo xs) n.toNat).1).length (((mem ((clo xs).getD x 0)).getD k 0).toNat) ((mem ((clo xs).getD x 0)).getD k 0) (by kernel_rfl) (by omega) (by omega) (by kernel_rfl) ?_)
            refine R.ldI ((clS (clo xs) n.toNat).1) (((mem ((clo xs).getD x 0)).getD k 0).toNat) (by kernel_rfl) (by omega) (by kernel_rfl) ?_
            refine R.go 2 (R.condN ((((clS (clo xs) n.toNat).1).getD x 0) = (((clS (clo xs) n.toNat).1).getD (((mem ((clo xs).getD x 0)).getD k 0).toNat) 0)) (by kernel_rfl) (fun c32 => ?_) (fun c32 => ?_))
            · have hbz := dp_b (clo xs) (clS (clo xs) n.toNat).1 (n := n.toNat) (r := r) (x := x) (k := k) (by omega) (by omega) (by omega) (by omega)
              rw [← ‹Y = dpX (clo xs) (clS (clo xs) n.toNat).1 (dpR (clo xs) (clS (clo xs) n.toNat).1 n.toNat r) x›, ← ‹Z = dpI (clo xs) (clS (clo xs) n.toNat).1 x Y k›] at hbz
              have hb1 := hbz x
              have hb2 := hbz ((mem ((clo xs).getD x 0)).getD k 0).toNat
              refine R.go 5 (R.idxO 3 1 Z.length x (x : Int) (by kernel_rfl) rfl (by omega) (by kernel_rfl) ?_)
              refine R.ldI Z x (by kernel_rfl) (by omega) (by kernel_rfl) ?_
              refine R.go 2 (R.idxO 3 1 Z.length (((mem ((clo xs).getD x 0)).getD k 0).toNat) ((mem ((clo xs).getD x 0)).getD k 0) (by kernel_rfl) (by omega) (by omega) (by kernel_rfl) ?_)
              refine R.ldI Z (((mem ((clo xs).getD x 0)).getD k 0).toNat) (by kernel_rfl) (by omega) (by kernel_rfl) ?_
              refine R.ar ((Z.getD (((mem ((clo xs).getD x 0)).getD k 0).toNat) 0) + 1) (by kernel_rfl) (by omega) (by omega) (by kernel_rfl) ?_
              refine R.go 1 (R.idxO 3 1 Z.length x (x : Int) (by kernel_rfl) rfl (by omega) (by kernel_rfl) ?_)
              refine R.stI 3 2 Z x (if ((Z.getD (((mem ((clo xs).getD x 0)).getD k 0).toNat) 0) + 1) > (Z.getD x 0) then ((Z.getD (((mem ((clo xs).getD x 0)).getD k 0).toNat) 0) + 1) else (Z.getD x 0)) (by kernel_rfl) (by omega) (by kernel_rfl) ?_
              refine R.go 3 (R.ar ((k : Int) + 1) (by kernel_rfl) (by omega) (by omega) (by kernel_rfl) ?_)
              exact R.go 2 (R.stop R27 (by kernel_rfl) (N28 (k + 1, Z.set x (if ((Z.getD (((mem ((clo xs).getD x 0)).getD k 0).toNat) 0) + 1) > (Z.getD x 0) then ((Z.getD (((mem ((clo xs).getD x 0)).getD k 0).toNat) 0) + 1) else (Z.getD x 0))) [1, 3, 4, 5, 6, 18, 19, 22, 23, 30, 31, 32] none _ (by kernel_rfl) (by kernel_rfl) ⟨(by omega), (by first | omega | (simp <;> omega)), (by first | exact dpI_y (by assumption) (by assumption) | exact dpI_n (by assumption) (by assumption))⟩ (by show ((mem ((clo xs).getD x 0)).length - (k + 1)) < ((mem ((clo xs).getD x 0)).length - k); omega)))
            · refine R.go 3 (R.ar ((k : Int) + 1) (by kernel_rfl) (by omega) (by omega) (by kernel_rfl) ?_)
              exact R.go 2 (R.stop R27 (by kernel_rfl) (N28 (k + 1, Z) [1, 3, 4, 5, 6, 18, 19, 22, 23, 30, 31, 32] none _ (by kernel_rfl) (by kernel_rfl) ⟨(by omega), (by first | omega | (simp <;> omega)), (by first | exact dpI_y (by assumption) (by assumption) | exact dpI_n (by assumption) (by assumption))⟩ (by show ((mem ((clo xs).getD x 0)).length - (k + 1)) < ((mem ((clo xs).getD x 0)).length - k); omega)))
          · refine R.go 3 (R.ar ((x : Int) + 1) (by kernel_rfl) (by omega) (by omega) (by kernel_rfl) ?_)
            exact R.go 2 (R.stop R22 (by kernel_rfl) (N23 (x + 1, Z) [1, 3, 4, 5, 18, 19, 22, 23] (some [0, 1, 2, 3]) _ (by kernel_rfl) (by kernel_rfl) ⟨(by omega), (by first | omega | (simp <;> omega)), (by exact dpX_e2 (by assumption) (by assumption) (show k = (mem ((clo xs).getD x 0)).length by omega))⟩ (by show (n.toNat - (x + 1)) < (n.toNat - x); omega)))
        · refine R.go 3 (R.ar ((r : Int) + 1) (by kernel_rfl) (by omega) (by omega) (by kernel_rfl) ?_)
          exact R.go 2 (R.stop R17 (by kernel_rfl) (N18 (r + 1, Y) [1, 3, 4, 5, 18, 19] none _ (by kernel_rfl) (by kernel_rfl) ⟨(by omega), (by omega), (by exact dpR_e (by assumption) (show x = n.toNat by omega))⟩ (by show (n.toNat - (r + 1)) < (n.toNat - r); omega)))
      · exact R.go 6 (R.retE (ownA eI 2 1 X) (by kernel_rfl) (by kernel_rfl) (by first | (rw [‹X = dpR (clo xs) (clS (clo xs) n.toNat).1 n.toNat r›, show r = n.toNat by omega]; rfl) | (exfalso; omega)))
  · refine R.go 2 (R.any1 0 (by kernel_rfl) (by kernel_rfl) ?_)
    refine R.go 2 (R.any1 1 (by kernel_rfl) (by kernel_rfl) ?_)
    refine R.call true (reachable_c n xs (by first | omega | (simp <;> omega))) (by kernel_rfl) rfl (by kernel_rfl) ?_
    refine R.go 1 (R.any1 3 (by kernel_rfl) (by kernel_rfl) ?_)
    refine R.call true (clusters_c n xs hP) (by kernel_rfl) rfl (by kernel_rfl) ?_
    refine R.go 1 (R.any1 4 (by kernel_rfl) (by kernel_rfl) ?_)
    refine R.go 2 (R.any1 5 (by kernel_rfl) (by kernel_rfl) ?_)
    refine R.go 2 (R.any0 (by kernel_rfl) ?_)
    refine R.go 2 (R.lit (s := 1) (n := 1) (cs := rows eI [1]) (by kernel_rfl) (by kernel_rfl) ?_)
    refine R.go 2 (R.call true (repeat_c n (by omega) (by omega)) (by kernel_rfl) rfl (by kernel_rfl) ?_)
    refine R.go 10 (R.loop ((fun | (r, X) => (⟨(frm 62 [(1, .ptr 0 0), (3, .ref 1), (4, .ref 2), (5, .ref 3), (18, AI n), (19, AI (r : Int))]), [.box 75 [AI n, LI xs], rowA eI 2 1 (clo xs), rowA eI 2 1 ((clS (clo xs) n.toNat).1), rowA eI 2 1 X]⟩ : St) : Nat × (List Int) → St)) (fun | (r, X) => (r ≤ n.toNat) ∧ (X.length = n.toNat) ∧ (X = dpR (clo xs) (clS (clo xs) n.toNat).1 n.toNat r)) (fun | (r, X) => n.toNat - r) (0, (List.replicate n.toNat 1)) [1, 3, 4, 5, 18, 19] none (by kernel_rfl) (by kernel_rfl) (by kernel_rfl) ⟨(by omega), (by (simp <;> omega)), (by rfl)⟩ ?_)
    rintro ⟨r, X⟩ ⟨h36_1, h36_2, h36_3⟩ R33 N34
    refine R.go 5 (R.cond ((r : Int) < n) (by kernel_rfl) (fun c37 => ?_) (fun c37 => ?_))
    · refine R.go 10 (R.loop ((fun | (x, Y) => (⟨(frm 62 [(1, .ptr 0 0), (3, .ref 1), (4, .ref 2), (5, .ref 3), (18, AI n), (19, AI (r : Int)), (22, AI n), (23, AI (x : Int))]), [.box 75 [AI n, LI xs], rowA eI 2 1 (clo xs), rowA eI 2 1 ((clS (clo xs) n.toNat).1), rowA eI 2 1 Y]⟩ : St) : Nat × (List Int) → St)) (fun | (x, Y) => (x ≤ n.toNat) ∧ (Y.length = n.toNat) ∧ (Y = dpX (clo xs) (clS (clo xs) n.toNat).1 (dpR (clo xs) (clS (clo xs) n.toNat).1 n.toNat r) x)) (fun | (x, Y) => n.toNat - x) (0, X) [1, 3, 4, 5, 18, 19, 22, 23] none (by kernel_rfl) (by kernel_rfl) (by kernel_rfl) ⟨(by omega), (by omega), (by assumption)⟩ ?_)
      rintro ⟨x, Y⟩ ⟨h41_1, h41_2, h41_3⟩ R38 N39
      have hmk : x < n.toNat → InM 61 ((clo xs).getD x 0) := fun hx => inM_mono (by omega) (hRc.2 x hx)
      refine R.go 5 (R.cond ((x : Int) < n) (by kernel_rfl) (fun c42 => ?_) (fun c42 => ?_))
      · have hmx := hmk (by omega)
        refine R.go 12 (R.idxO 1 1 (clo xs).length x (x : Int) (by kernel_rfl) rfl (by omega) (by kernel_rfl) ?_)
        refine R.ldI (clo xs) x (by kernel_rfl) (by omega) (by kernel_rfl) ?_
        refine R.call true (membersOf_c ((clo xs).getD x 0) (by first | assumption | exact inM61 (by omega) (by omega))) (by kernel_rfl) rfl (by kernel_rfl) ?_
        refine R.go 4 (R.loop ((fun | (k, Z) => (⟨(frm 62 [(1, .ptr 0 0), (3, .ref 1), (4, .ref 2), (5, .ref 3), (6, AI (x : Int)), (18, AI n), (19, AI (r : Int)), (22, AI n), (23, AI (x : Int)), (30, .ref 4), (31, AI ((mem ((clo xs).getD x 0)).length)), (32, AI (k : Int))]), [.box 75 [AI n, LI xs], rowA eI 2 1 (clo xs), rowA eI 2 1 ((clS (clo xs) n.toNat).1), rowA eI 2 1 Z, rowA eI 2 1 (mem ((clo xs).getD x 0))]⟩ : St) : Nat × (List Int) → St)) (fun | (k, Z) => (k ≤ (mem ((clo xs).getD x 0)).length) ∧ (Z.length = n.toNat) ∧ (Z = dpI (clo xs) (clS (clo xs) n.toNat).1 x Y k)) (fun | (k, Z) => (mem ((clo xs).getD x 0)).length - k) (0, Y) [1, 3, 4, 5, 6, 18, 19, 22, 23, 30, 31, 32] none (by kernel_rfl) (by kernel_rfl) (by kernel_rfl) ⟨(by omega), (by omega), (by rfl)⟩ ?_)
        rintro ⟨k, Z⟩ ⟨h46_1, h46_2, h46_3⟩ R43 N44
        have hat := fun hx hk => memAt8 (N := n.toNat) (by omega) hRc (x := x) (k := k) hx hk
        have hml := mem_le ((clo xs).getD x 0)
        refine R.go 5 (R.cond ((k : Int) < ((mem ((clo xs).getD x 0)).length : Int)) (by kernel_rfl) (fun c47 => ?_) (fun c47 => ?_))
        · refine R.go 5 (R.idxO 4 1 (mem ((clo xs).getD x 0)).length k (k : Int) (by kernel_rfl) rfl (by omega) (by kernel_rfl) ?_)
          refine R.ldI (mem ((clo xs).getD x 0)) k (by kernel_rfl) (by omega) (by kernel_rfl) ?_
          have hat1 := hat (by omega) (by omega)
          refine R.go 6 (R.idxO 2 1 ((clS (clo xs) n.toNat).1).length x (x : Int) (by kernel_rfl) rfl (by omega) (by kernel_rfl) ?_)
          refine R.ldI ((clS (clo xs) n.toNat).1) x (by kernel_rfl) (by omega) (by kernel_rfl) ?_
          refine R.go 2 (R.idxO 2 1 ((clS (clo xs) n.toNat).1).length (((mem ((clo xs).getD x 0)).getD k 0).toNat) ((mem ((clo xs).getD x 0)).getD k 0) (by kernel_rfl) (by omega) (by omega) (by kernel_rfl) ?_)
          refine R.ldI ((clS (clo xs) n.toNat).1) (((mem ((clo xs).getD x 0)).getD k 0).toNat) (by kernel_rfl) (by omega) (by kernel_rfl) ?_
          refine R.go 2 (R.condN ((((clS (clo xs) n.toNat).1).getD x 0) = (((clS (clo xs) n.toNat).1).getD (((mem ((clo xs).getD x 0)).getD k 0).toNat) 0)) (by kernel_rfl) (fun c48 => ?_) (fun c48 => ?_))
          · have hbz := dp_b (clo xs) (clS (clo xs) n.toNat).1 (n := n.toNat) (r := r) (x := x) (k := k) (by omega) (by omega) (by omega) (by omega)
            rw [← ‹Y = dpX (clo xs) (clS (clo xs) n.toNat).1 (dpR (clo xs) (clS (clo xs) n.toNat).1 n.toNat r) x›, ← ‹Z = dpI (clo xs) (clS (clo xs) n.toNat).1 x Y k›] at hbz
            have hb1 := hbz x
            have hb2 := hbz ((mem ((clo xs).getD x 0)).getD k 0).toNat
            refine R.go 5 (R.idxO 3 1 Z.length x (x : Int) (by kernel_rfl) rfl (by omega) (by kernel_rfl) ?_)
            refine R.ldI Z x (by kernel_rfl) (by omega) (by kernel_rfl) ?_
            refine R.go 2 (R.idxO 3 1 Z.length (((mem ((clo xs).getD x 0)).getD k 0).toNat) ((mem ((clo xs).getD x 0)).getD k 0) (by kernel_rfl) (by omega) (by omega) (by kernel_rfl) ?_)
            refine R.ldI Z (((mem ((clo xs).getD x 0)).getD k 0).toNat) (by kernel_rfl) (by omega) (by kernel_rfl) ?_
            refine R.ar ((Z.getD (((mem ((clo xs).getD x 0)).getD k 0).toNat) 0) + 1) (by kernel_rfl) (by omega) (by omega) (by kernel_rfl) ?_
            refine R.go 1 (R.idxO 3 1 Z.length x (x : Int) (by kernel_rfl) rfl (by omega) (by kernel_rfl) ?_)
            refine R.stI 3 2 Z x (if ((Z.getD (((mem ((clo xs).getD x 0)).getD k 0).toNat) 0) + 1) > (Z.getD x 0) then ((Z.getD (((mem ((clo xs).getD x 0)).getD k 0).toNat) 0) + 1) else (Z.getD x 0)) (by kernel_rfl) (by omega) (by kernel_rfl) ?_
            refine R.go 3 (R.ar ((k : Int) + 1) (by kernel_rfl) (by omega) (by omega) (by kernel_rfl) ?_)
            exact R.go 2 (R.stop R43 (by kernel_rfl) (N44 (k + 1, Z.set x (if ((Z.getD (((mem ((clo xs).getD x 0)).getD k 0).toNat) 0) + 1) > (Z.getD x 0) then ((Z.getD (((mem ((clo xs).getD x 0)).getD k 0).toNat) 0) + 1) else (Z.getD x 0))) [1, 3, 4, 5, 6, 18, 19, 22, 23, 30, 31, 32] none _ (by kernel_rfl) (by kernel_rfl) ⟨(by omega), (by first | omega | (simp <;> omega)), (by first | exact dpI_y (by assumption) (by assumption) | exact dpI_n (by assumption) (by assumption))⟩ (by show ((mem ((clo xs).getD x 0)).length - (k + 1)) < ((mem ((clo xs).getD x 0)).length - k); omega)))
          · refine R.go 3 (R.ar ((k : Int) + 1) (by kernel_rfl) (by omega) (by omega) (by kernel_rfl) ?_)
            exact R.go 2 (R.stop R43 (by kernel_rfl) (N44 (k + 1, Z) [1, 3, 4, 5, 6, 18, 19, 22, 23, 30, 31, 32] none _ (by kernel_rfl) (by kernel_rfl) ⟨(by omega), (by first | omega | (simp <;> omega)), (by first | exact dpI_y (by assumption) (by assumption) | exact dpI_n (by assumption) (by assumption))⟩ (by show ((mem ((clo xs).getD x 0)).length - (k + 1)) < ((mem ((clo xs).getD x 0)).length - k); omega)))
        · refine R.go 3 (R.ar ((x : Int) + 1) (by kernel_rfl) (by omega) (by omega) (by kernel_rfl) ?_)
          exact R.go 2 (R.stop R38 (by kernel_rfl) (N39 (x + 1, Z) [1, 3, 4, 5, 18, 19, 22, 23] (some [0, 1, 2, 3]) _ (by kernel_rfl) (by kernel_rfl) ⟨(by omega), (by first | omega | (simp <;> omega)), (by exact dpX_e2 (by assumption) (by assumption) (show k = (mem ((clo xs).getD x 0)).length by omega))⟩ (by show (n.toNat - (x + 1)) < (n.toNat - x); omega)))
      · refine R.go 3 (R.ar ((r : Int) + 1) (by kernel_rfl) (by omega) (by omega) (by kernel_rfl) ?_)
        exact R.go 2 (R.stop R33 (by kernel_rfl) (N34 (r + 1, Y) [1, 3, 4, 5, 18, 19] none _ (by kernel_rfl) (by kernel_rfl) ⟨(by omega), (by omega), (by exact dpR_e (by assumption) (show x = n.toNat by omega))⟩ (by show (n.toNat - (r + 1)) < (n.toNat - r); omega)))
    · exact R.go 6 (R.retE (ownA eI 2 1 X) (by kernel_rfl) (by kernel_rfl) (by first | (rw [‹X = dpR (clo xs) (clS (clo xs) n.toNat).1 n.toNat r›, show r = n.toNat by omega]; rfl) | (exfalso; omega)))

end Go.Proofs.Ytogehjciaamcfaa


/-! Clusters are classes; depths are lengths of chains. -/
namespace Go.Proofs.Ytogehjciaamcfaa
open Go.RowKit Go.Abs

section
variable {n : Int} {xs : List Int}
theorem fr_ys (hP : okFr n xs = true) : n.toNat ≤ 8 ∧ RelOK n.toNat (clo xs) ∧ (∀ p, p < n.toNat → ∀ k, tb ((clo xs).getD p 0) k = true ↔ Star (Edge xs) p k) := by
  have h := okFr_rel hP
  have hc := clo_ok (n := n.toNat) (by omega) h.2.2.2
  exact ⟨by omega, hc.1, hc.2⟩
theorem mut_iff (hP : okFr n xs = true) {i j : Nat} (hi : i < n.toNat) (hj : j < n.toNat) : mutB (clo xs) i j = true ↔ Star (Edge xs) i j ∧ Star (Edge xs) j i := by
  obtain ⟨h8, hR, hS⟩ := fr_ys hP
  rw [mutB, Bool.and_eq_true, decide_eq_true_iff, decide_eq_true_iff, has_tb (n := n.toNat) (by omega) (hR.2 i hi) (by omega), has_tb (n := n.toNat) (by omega) (hR.2 j hj) (by omega), hS i hi, hS j hj]
theorem mut_refl (hP : okFr n xs = true) {i : Nat} (hi : i < n.toNat) : mutB (clo xs) i i = true := (mut_iff hP hi hi).2 ⟨.refl i, .refl i⟩
theorem mut_symm (hP : okFr n xs = true) {i j : Nat} (hi : i < n.toNat) (hj : j < n.toNat) (h : mutB (clo xs) i j = true) : mutB (clo xs) j i = true := (mut_iff hP hj hi).2 ((mut_iff hP hi hj).1 h).symm
theorem mut_trans (hP : okFr n xs = true) {i j k : Nat} (hi : i < n.toNat) (hj : j < n.toNat) (hk : k < n.toNat) (h : mutB (clo xs) i j = true) (h' : mutB (clo xs) j k = true) : mutB (clo xs) i k = true := by
  have a := (mut_iff hP hi hj).1 h
  have b := (mut_iff hP hj hk).1 h'
  exact (mut_iff hP hi hk).2 ⟨a.1.trans b.1, b.2.trans a.2⟩
theorem clW_cases {ys : List Int} {i : Nat} {L : List Int} (h0 : ∀ v, 0 ≤ L.getD v 0) : ∀ j, (clW ys i L j = -1 ∧ ∀ v, v < j → mutB ys i v = false) ∨ ∃ v, v < j ∧ mutB ys i v = true ∧ clW ys i L j = L.getD v 0
  | 0 => .inl ⟨rfl, fun v hv => by omega⟩
  | j + 1 => by
    rcases clW_cases (ys := ys) (i := i) h0 j with ⟨h1, h2⟩ | ⟨v, h1, h2, h3⟩
    · rw [clW, h1]
      cases hm : mutB ys i j with
      | true => exact .inr ⟨j, by omega, hm, by rw [if_pos ⟨by decide, rfl⟩]⟩
      | false => exact .inl ⟨by rw [if_neg (by simp)], below_m h2 hm⟩
    · refine .inr ⟨v, by omega, h2, ?_⟩
      have := h0 v
      rw [clW, if_neg (by rw [h3]; omega), h3]
theorem getD_snoc {L : List Int} {v : Int} {a : Nat} : (L ++ [v]).getD a 0 = if a < L.length then L.getD a 0 else if a = L.length then v else 0 := by
  rw [List.getD_eq_getElem?_getD, List.getElem?_append]
  split
  · rw [List.getD_eq_getElem?_getD]
  · split
    · rename_i e; rw [e]; simp
    · rw [List.getElem?_eq_none (by simp; omega)]; rfl
/-- Two worlds lie in one cluster if each reaches the other. -/
theorem cls_ok (hP : okFr n xs = true) : ∀ i, i ≤ n.toNat → (∀ a b, a < i → b < i → ((clS (clo xs) i).1.getD a 0 = (clS (clo xs) i).1.getD b 0 ↔ mutB (clo xs) a b = true)) ∧ ∀ a, a < i → (clS (clo xs) i).1.getD a 0 < (clS (clo xs) i).2
  | 0, _ => ⟨fun a b ha => by omega, fun a ha => by omega⟩
  | i + 1, hi => by
    obtain ⟨h1, h2⟩ := cls_ok hP i (by omega)
    have hnn := (clS_nn (clo xs) i).1
    have hl := clS_len (clo xs) i
    have hv : ∀ v c, (∀ a, a < i → ((clS (clo xs) i).1.getD a 0 = v ↔ mutB (clo xs) a i = true)) → v < c → (clS (clo xs) i).2 ≤ c → (∀ a b, a < i + 1 → b < i + 1 → (((clS (clo xs) i).1 ++ [v]).getD a 0 = ((clS (clo xs) i).1 ++ [v]).getD b 0 ↔ mutB (clo xs) a b = true)) ∧ ∀ a, a < i + 1 → ((clS (clo xs) i).1 ++ [v]).getD a 0 < c := fun v c hvm hvc hc => by
      refine ⟨fun a b ha hb => ?_, fun a ha => ?_⟩
      · rw [getD_snoc, getD_snoc, hl]
        by_cases ea : a < i
        · rw [if_pos ea]
          by_cases eb : b < i
          · rw [if_pos eb]; exact h1 a b ea eb
          · rw [if_neg eb, if_pos (by omega), show b = i by omega]; exact hvm a ea
        · rw [if_neg ea, if_pos (by omega), show a = i by omega]
          by_cases eb : b < i
          · rw [if_pos eb, eq_comm, hvm b eb]
            exact ⟨mut_symm hP (by omega) (by omega), mut_symm hP (by omega) (by omega)⟩
          · rw [if_neg eb, if_pos (by omega), show b = i by omega]
            simp [mut_refl hP (show i < n.toNat by omega)]
      · rw [getD_snoc, hl]
        split
        · rename_i ea
          have := h2 a ea
          omega
        · rw [if_pos (by omega)]; exact hvc
    rcases clW_cases (ys := clo xs) (i := i) hnn i with ⟨e1, e2⟩ | ⟨v, e1, e2, e3⟩
    · simp only [clS]
      rw [e1, if_pos (by decide), if_pos (by decide)]
      refine hv _ _ (fun a ha => ?_) (by omega) (by omega)
      have := h2 a ha
      constructor
      · intro h; omega
      · intro h
        have := mut_symm hP (by omega) (by omega) h
        rw [e2 a ha] at this
        cases this
    · have h0 := hnn v
      simp only [clS]
      rw [e3, if_neg (by omega), if_neg (by omega)]
      refine hv _ _ (fun a ha => ?_) (h2 v e1) (Int.le_refl _)
      rw [h1 a v ha e1]
      exact ⟨fun h => mut_trans hP (by omega) (by omega) (by omega) h (mut_symm hP (by omega) (by omega) e2), fun h => mut_trans hP (by omega) (by omega) (by omega) h e2⟩
theorem cls_mut (hP : okFr n xs = true) {i j : Nat} (hi : i < n.toNat) (hj : j < n.toNat) : (clS (clo xs) n.toNat).1.getD i 0 = (clS (clo xs) n.toNat).1.getD j 0 ↔ mutB (clo xs) i j = true := (cls_ok hP _ (Nat.le_refl _)).1 i j hi hj

/-! Depths. -/
def mxs (st : Nat → Bool) (f : Nat → Int) : Nat → Int
  | 0 => 1
  | y + 1 => if st y = true then max (mxs st f y) (f y + 1) else mxs st f y
theorem mxs_ge1 (st : Nat → Bool) (f : Nat → Int) : ∀ N, 1 ≤ mxs st f N
  | 0 => by simp [mxs]
  | y + 1 => by have := mxs_ge1 st f y; rw [mxs]; split <;> omega
theorem mxs_ge {st : Nat → Bool} {f : Nat → Int} {y : Nat} (hs : st y = true) : ∀ {N}, y < N → f y + 1 ≤ mxs st f N
  | N + 1, h => by
    rw [mxs]
    by_cases e : y = N
    · subst e; rw [if_pos hs]; omega
    · have := mxs_ge hs (f := f) (show y < N by omega)
      split <;> omega
theorem mxs_att (st : Nat → Bool) (f : Nat → Int) : ∀ N, mxs st f N = 1 ∨ ∃ y, y < N ∧ st y = true ∧ mxs st f N = f y + 1
  | 0 => .inl rfl
  | N + 1 => by
    rw [mxs]
    have ih := mxs_att st f N
    split
    · rename_i hs
      by_cases h : f N + 1 ≤ mxs st f N
      · rw [Int.max_eq_left h]
        rcases ih with h | ⟨y, h1, h2, h3⟩
        · exact .inl h
        · exact .inr ⟨y, by omega, h2, h3⟩
      · exact .inr ⟨N, by omega, hs, by omega⟩
    · rcases ih with h | ⟨y, h1, h2, h3⟩
      · exact .inl h
      · exact .inr ⟨y, by omega, h2, h3⟩
theorem mxs_congr {st st' : Nat → Bool} {f g : Nat → Int} : ∀ {N}, (∀ y, y < N → st y = st' y) → (∀ y, y < N → st y = true → f y = g y) → mxs st f N = mxs st' g N
  | 0, _, _ => rfl
  | N + 1, h1, h2 => by
    have ih := mxs_congr (fun y hy => h1 y (Nat.lt_succ_of_lt hy)) (fun y hy => h2 y (Nat.lt_succ_of_lt hy))
    rw [mxs, mxs, ← h1 N (by omega), ih]
    split
    · rename_i hs; rw [h2 N (by omega) hs]
    · rfl
def stB (ys : List Int) (x y : Nat) : Bool := tb (ys.getD x 0) y && !mutB ys x y
def DD (ys : List Int) (N : Nat) : Nat → Nat → Int
  | 0, _ => 1
  | k + 1, x => mxs (stB ys x) (DD ys N k) N
def cntB (ys : List Int) (N x : Nat) : Nat := ((List.range N).filter (stB ys x)).length
theorem filter_lt {p q : Nat → Bool} {y : Nat} (hpq : ∀ z, p z = true → q z = true) (hy : q y = true) (hn : p y = false) : ∀ {l : List Nat}, y ∈ l → (l.filter p).length < (l.filter q).length
  | z :: l, h => by
    have hle : (l.filter p).length ≤ (l.filter q).length := by
      clear h
      induction l with
      | nil => simp
      | cons z l ih =>
        rw [List.filter_cons, List.filter_cons]
        cases e : p z with
        | true => rw [hpq z e]; simpa using ih
        | false =>
          cases q z
          · simpa using ih
          · simp only [if_true, List.length_cons]; exact Nat.le_succ_of_le (by simpa using ih)
    rw [List.filter_cons, List.filter_cons]
    rcases List.mem_cons.1 h with rfl | h
    · rw [hy, hn]
      simpa using Nat.lt_succ_of_le hle
    · have ih := filter_lt hpq hy hn h
      cases e : p z with
      | true => rw [hpq z e]; simpa using ih
      | false =>
        cases q z
        · simpa using ih
        · simp only [if_true, List.length_cons]
          have : (if False then z :: List.filter p l else List.filter p l).length = (List.filter p l).length := by simp
          simp only [Bool.false_eq_true, if_false]
          omega
theorem st_iff (hP : okFr n xs = true) {x y : Nat} (hx : x < n.toNat) (hy : y < n.toNat) : stB (clo xs) x y = true ↔ Star (Edge xs) x y ∧ ¬ Star (Edge xs) y x := by
  obtain ⟨h8, hR, hS⟩ := fr_ys hP
  rw [stB, Bool.and_eq_true, hS x hx, Bool.not_eq_true', ← Bool.not_eq_true, mut_iff hP hx hy]
  constructor
  · rintro ⟨h1, h2⟩; exact ⟨h1, fun h => h2 ⟨h1, h⟩⟩
  · rintro ⟨h1, h2⟩; exact ⟨h1, fun h => h2 h.2⟩
theorem st_lt (hP : okFr n xs = true) {x y : Nat} (hx : x < n.toNat) (h : stB (clo xs) x y = true) : y < n.toNat := by
  obtain ⟨h8, hR, hS⟩ := fr_ys hP
  rw [stB, Bool.and_eq_true] at h
  exact tb_lt (hR.2 x hx) h.1
theorem cnt_lt (hP : okFr n xs = true) {x y : Nat} (hx : x < n.toNat) (h : stB (clo xs) x y = true) : cntB (clo xs) n.toNat y < cntB (clo xs) n.toNat x := by
  have hy := st_lt hP hx h
  have h1 := (st_iff hP hx hy).1 h
  refine filter_lt (y := y) (fun z hz => ?_) h ?_ (List.mem_range.2 hy)
  · have hzl := st_lt hP hy hz
    have h2 := (st_iff hP hy hzl).1 hz
    exact (st_iff hP hx hzl).2 ⟨h1.1.trans h2.1, fun h => h2.2 (h.trans h1.1)⟩
  · rw [← Bool.not_eq_true, st_iff hP hy hy]
    exact fun h => h.2 (.refl y)
theorem DD_stab (hP : okFr n xs = true) : ∀ k x, x < n.toNat → cntB (clo xs) n.toNat x ≤ k → DD (clo xs) n.toNat (k + 1) x = DD (clo xs) n.toNat k x
  | 0, x, hx, hc => by
    rw [DD, DD]
    rcases mxs_att (stB (clo xs) x) (DD (clo xs) n.toNat 0) n.toNat with h | ⟨y, _, h2, _⟩
    · exact h
    · have := cnt_lt hP hx h2
      omega
  | k + 1, x, hx, hc => by
    rw [DD, DD]
    refine mxs_congr (fun _ _ => rfl) fun y hy hs => ?_
    have := cnt_lt hP hx hs
    exact DD_stab hP k y hy (by omega)
theorem DD_le (ys : List Int) (N : Nat) : ∀ k x, DD ys N k x ≤ (k : Int) + 1
  | 0, x => by simp [DD]
  | k + 1, x => by
    rw [DD]
    rcases mxs_att (stB ys x) (DD ys N k) N with h | ⟨y, _, _, h⟩
    · rw [h]; omega
    · have := DD_le ys N k y
      rw [h]; omega
def hgt (n : Int) (xs : List Int) (x : Nat) : Int := DD (clo xs) n.toNat n.toNat x
theorem hgt_eq (hP : okFr n xs = true) {x : Nat} (hx : x < n.toNat) : hgt n xs x = mxs (stB (clo xs) x) (hgt n xs) n.toNat := by
  have hc : cntB (clo xs) n.toNat x ≤ n.toNat := by
    have := List.length_filter_le (stB (clo xs) x) (List.range n.toNat)
    rw [List.length_range] at this
    exact this
  rw [hgt, ← DD_stab hP _ x hx hc, DD]
  rfl
theorem hgt_ge (hP : okFr n xs = true) {x y : Nat} (hx : x < n.toNat) (hs : stB (clo xs) x y = true) : hgt n xs y + 1 ≤ hgt n xs x := by
  rw [hgt_eq hP hx]
  exact mxs_ge hs (st_lt hP hx hs)
theorem hgt_ge1 (hP : okFr n xs = true) {x : Nat} (hx : x < n.toNat) : 1 ≤ hgt n xs x := by rw [hgt_eq hP hx]; exact mxs_ge1 _ _ _
theorem hgt_att (hP : okFr n xs = true) {x : Nat} (hx : x < n.toNat) : hgt n xs x = 1 ∨ ∃ y, y < n.toNat ∧ stB (clo xs) x y = true ∧ hgt n xs x = hgt n xs y + 1 := by
  rw [hgt_eq hP hx]
  exact mxs_att _ _ _
/-! What the rounds compute. -/
theorem dpI_mono (ys cl : List Int) (x : Nat) (X : List Int) (v : Nat) : ∀ k, (dpI ys cl x X k).getD v 0 ≤ (dpI ys cl x X (k + 1)).getD v 0 := fun k => by
  rw [dpI]
  split
  · exact Int.le_refl _
  · by_cases e : v = x
    · subst e
      by_cases hl : v < (dpI ys cl v X k).length
      · rw [getDs_eq hl]; split <;> omega
      · rw [List.set_eq_of_length_le (by omega)]; exact Int.le_refl _
    · rw [getDs_ne e]; exact Int.le_refl _
theorem dpI_mono2 (ys cl : List Int) (x : Nat) (X : List Int) (v k : Nat) : ∀ d, (dpI ys cl x X k).getD v 0 ≤ (dpI ys cl x X (k + d)).getD v 0
  | 0 => Int.le_refl _
  | d + 1 => Int.le_trans (dpI_mono2 ys cl x X v k d) (dpI_mono ys cl x X v (k + d))
theorem dpI_up (hP : okFr n xs = true) {x : Nat} {X : List Int} (hx : x < n.toNat) (hX : ∀ v, v < n.toNat → X.getD v 0 ≤ hgt n xs v) : ∀ k, k ≤ (mem ((clo xs).getD x 0)).length → ∀ v, v < n.toNat → (dpI (clo xs) (clS (clo xs) n.toNat).1 x X k).getD v 0 ≤ hgt n xs v
  | 0, _, v, hv => hX v hv
  | k + 1, hk, v, hv => by
    have ih := dpI_up hP hx hX k (by omega)
    obtain ⟨h8, hR, hS⟩ := fr_ys hP
    obtain ⟨e1, e2, e3⟩ := mem_in (N := n.toNat) (by omega) (hR.2 x hx) (show k < (mem ((clo xs).getD x 0)).length by omega)
    rw [dpI]
    split
    · exact ih v hv
    · rename_i hc
      rw [cls_mut hP hx e2] at hc
      have hs : stB (clo xs) x ((mem ((clo xs).getD x 0)).getD k 0).toNat = true := by rw [stB, e3]; simpa using hc
      by_cases e : v = x
      · subst e
        have := hgt_ge hP hx hs
        have i1 := ih v hv
        have i2 := ih _ e2
        by_cases hl : v < (dpI (clo xs) (clS (clo xs) n.toNat).1 v X k).length
        · rw [getDs_eq hl]; split <;> omega
        · rw [List.set_eq_of_length_le (by omega)]; exact i1
      · rw [getDs_ne e]; exact ih v hv
theorem dpI_low (hP : okFr n xs = true) {x y : Nat} {X : List Int} (hl : X.length = n.toNat) (hx : x < n.toNat) (hs : stB (clo xs) x y = true) : X.getD y 0 + 1 ≤ (dpI (clo xs) (clS (clo xs) n.toNat).1 x X (mem ((clo xs).getD x 0)).length).getD x 0 := by
  obtain ⟨h8, hR, hS⟩ := fr_ys hP
  have hy := st_lt hP hx hs
  have hs2 := hs
  rw [stB, Bool.and_eq_true, Bool.not_eq_true'] at hs2
  have hm : ((y : Nat) : Int) ∈ mem ((clo xs).getD x 0) := memN_mem.2 ⟨y, by omega, hs2.1, rfl⟩
  obtain ⟨k, hk, e⟩ := List.getElem_of_mem hm
  have hg : (mem ((clo xs).getD x 0)).getD k 0 = (y : Int) := by rw [List.getD_eq_getElem?_getD, List.getElem?_eq_getElem hk, e]; rfl
  have h1 := dpI_mono2 (clo xs) (clS (clo xs) n.toNat).1 x X y 0 k
  rw [Nat.zero_add] at h1
  have h2 : (dpI (clo xs) (clS (clo xs) n.toNat).1 x X k).getD y 0 + 1 ≤ (dpI (clo xs) (clS (clo xs) n.toNat).1 x X (k + 1)).getD x 0 := by
    rw [dpI, hg, Int.toNat_natCast, if_neg (fun h => by rw [(cls_mut hP hx hy).1 h] at hs2; cases hs2.2), getDs_eq (by rw [dpI_len]; omega)]
    split <;> omega
  have h3 := dpI_mono2 (clo xs) (clS (clo xs) n.toNat).1 x X x (k + 1) ((mem ((clo xs).getD x 0)).length - (k + 1))
  rw [show k + 1 + ((mem ((clo xs).getD x 0)).length - (k + 1)) = (mem ((clo xs).getD x 0)).length by omega] at h3
  have h4 : X.getD y 0 = (dpI (clo xs) (clS (clo xs) n.toNat).1 x X 0).getD y 0 := rfl
  omega
theorem dpX_ok (hP : okFr n xs = true) {X : List Int} {r : Nat} (hl : X.length = n.toNat) (hu : ∀ v, v < n.toNat → X.getD v 0 ≤ hgt n xs v) (hw : ∀ v, v < n.toNat → hgt n xs v ≤ (r : Int) + 1 → hgt n xs v ≤ X.getD v 0) : ∀ x, x ≤ n.toNat →
    (∀ v, v < n.toNat → (dpX (clo xs) (clS (clo xs) n.toNat).1 X x).getD v 0 ≤ hgt n xs v) ∧ (∀ v, v < n.toNat → hgt n xs v ≤ (r : Int) + 1 → hgt n xs v ≤ (dpX (clo xs) (clS (clo xs) n.toNat).1 X x).getD v 0) ∧ (∀ v, v < x → hgt n xs v ≤ (r : Int) + 2 → hgt n xs v ≤ (dpX (clo xs) (clS (clo xs) n.toNat).1 X x).getD v 0)
  | 0, _ => ⟨hu, hw, fun v hv => by omega⟩
  | x + 1, hx => by
    obtain ⟨i1, i2, i3⟩ := dpX_ok hP hl hu hw x (by omega)
    have hml := fun v => dpI_mono2 (clo xs) (clS (clo xs) n.toNat).1 x (dpX (clo xs) (clS (clo xs) n.toNat).1 X x) v 0 (mem ((clo xs).getD x 0)).length
    simp only [Nat.zero_add] at hml
    have h00 : ∀ v, (dpI (clo xs) (clS (clo xs) n.toNat).1 x (dpX (clo xs) (clS (clo xs) n.toNat).1 X x) 0).getD v 0 = (dpX (clo xs) (clS (clo xs) n.toNat).1 X x).getD v 0 := fun v => rfl
    rw [dpX]
    refine ⟨dpI_up hP (by omega) i1 _ (Nat.le_refl _), fun v hv hr => ?_, fun v hv hr => ?_⟩
    · have := i2 v hv hr
      have := hml v
      rw [h00] at this
      omega
    · by_cases e : v = x
      · subst e
        rcases hgt_att hP (show v < n.toNat by omega) with h | ⟨y, hy, hs, h⟩
        · have := i2 v (by omega) (by omega)
          have := hml v
          rw [h00] at this
          omega
        · have := dpI_low hP (X := dpX (clo xs) (clS (clo xs) n.toNat).1 X v) (by rw [dpX_len]; exact hl) (show v < n.toNat by omega) hs
          have := i2 y hy (by omega)
          omega
      · have := i3 v (by omega) hr
        have := hml v
        rw [h00] at this
        omega
theorem dpR_ok (hP : okFr n xs = true) : ∀ r, (∀ v, v < n.toNat → (dpR (clo xs) (clS (clo xs) n.toNat).1 n.toNat r).getD v 0 ≤ hgt n xs v) ∧ ∀ v, v < n.toNat → hgt n xs v ≤ (r : Int) + 1 → hgt n xs v ≤ (dpR (clo xs) (clS (clo xs) n.toNat).1 n.toNat r).getD v 0
  | 0 => by
    have h1 : ∀ v, v < n.toNat → (dpR (clo xs) (clS (clo xs) n.toNat).1 n.toNat 0).getD v 0 = 1 := fun v hv => by
      rw [dpR, List.getD_eq_getElem?_getD, List.getElem?_replicate, if_pos hv]; rfl
    refine ⟨fun v hv => ?_, fun v hv h => ?_⟩
    · rw [h1 v hv]; exact hgt_ge1 hP hv
    · rw [h1 v hv]; omega
  | r + 1 => by
    obtain ⟨i1, i2⟩ := dpR_ok hP r
    obtain ⟨j1, j2, j3⟩ := dpX_ok hP (dpR_len _ _ _ _) i1 i2 n.toNat (Nat.le_refl _)
    rw [dpR]
    exact ⟨j1, fun v hv h => j3 v hv (by omega)⟩
theorem dep_hgt (hP : okFr n xs = true) {v : Nat} (hv : v < n.toNat) : (depI n xs).getD v 0 = hgt n xs v := by
  obtain ⟨h1, h2⟩ := dpR_ok hP n.toNat
  have := h1 v hv
  have := h2 v hv (DD_le _ _ _ _)
  unfold depI
  omega
end

end Go.Proofs.Ytogehjciaamcfaa


/-! Draws, existential: numbers. -/
namespace Go.Proofs.Ytogehjciaamcfaa
open Go.RowKit Go.Abs

theorem u64and (a : Int) : 0 ≤ bits .and .u64 a 16777215 ∧ bits .and .u64 a 16777215 ≤ 16777215 := by
  show 0 ≤ IntKind.u64.wrap _ ∧ IntKind.u64.wrap _ ≤ 16777215
  rw [IntKind.wrap_u64]
  have h : (BitVec.ofInt 64 a &&& BitVec.ofInt 64 16777215).toNat ≤ 16777215 := by
    rw [BitVec.toNat_and]
    exact Nat.le_trans Nat.and_le_right (by decide)
  have e : ∀ k : Nat, k ≤ 16777215 → 0 ≤ ((k : Int) % 18446744073709551616) ∧ ((k : Int) % 18446744073709551616) ≤ 16777215 := fun k hk => by omega
  exact e _ h
def BY (c : List Int) : Prop := c.length ≤ 4096 ∧ ∀ j : Nat, j < c.length → 0 ≤ c.getD j 0 ∧ c.getD j 0 ≤ 255
theorem mod_rng {x n : Int} (h : ¬ n < 1) : (n < 1 → x % n = 0) ∧ (1 ≤ n → 0 ≤ x % n ∧ x % n < n) := ⟨fun h1 => absurd h1 h, fun h1 => ⟨Int.emod_nonneg _ (by omega), Int.emod_lt_of_pos _ (by omega)⟩⟩

theorem nextX_c_r3 (c : List Int) (p : Nat) (h : Int) (n : Int) (eo1 : Nat) (so1 : Nat) (no1 : Nat) (co1 : List AV) (eo2 : Nat) (so2 : Nat) (no2 : Nat) (co2 : List AV) (eo3 : Nat) (so3 : Nat) (no3 : Nat) (co3 : List AV) (hc : BY c) : CallX Try.prog 43 [.ptr 0 0, AI n] [.box 70 [LB c, AI (p : Int), .int .u64 h], .list eo1 so1 no1 co1, .list eo2 so2 no2 co2, .list eo3 so3 no3 co3] (fun (resX : AV) (objX : List AObj) => ∃ v : Int, ∃ p1 : Nat, ∃ h1 : Int, ((n < 1 → v = 0) ∧ (1 ≤ n → 0 ≤ v ∧ v < n)) ∧ resX = AI v ∧ objX = [.box 70 [LB c, AI (p1 : Int), .int .u64 h1], .list eo1 so1 no1 co1, .list eo2 so2 no2 co2, .list eo3 so3 no3 co3]) := by
  have hcl : c.length ≤ 4096 := hc.1
  have hcb := hc.2
  have hxr := fun h => u64and (shr64 (IntKind.u64.wrap (IntKind.u64.wrap (h * 6364136223846793005) + 1442695040888963407)) 33)
  have hxh := hxr h
  refine CallX.dropE (CallX.ofF Try.func43 rfl (by kernel_rfl) ?_)
  intro usC frC hfC
  refine R.go 10 (R.cond (n < 1) (by kernel_rfl) (fun c1 => ?_) (fun c1 => ?_))
  · exact R.go 4 (R.retX (res := AI 0) (hp' := [.box 70 [LB c, AI (p : Int), .int .u64 h], .list eo1 so1 no1 co1, .list eo2 so2 no2 co2, .list eo3 so3 no3 co3, .dead]) (by kernel_rfl) (by kernel_rfl) (by kernel_rfl) (by kernel_rfl) ⟨[0, 1, 2, 3], by kernel_rfl, by decide, 0, p, h, by first | exact mod_rng (by assumption) | exact ⟨fun _ => rfl, fun h1 => by omega⟩, by kernel_rfl, by kernel_rfl⟩)
  · refine R.go 22 (R.cv .i64 (bits .and .u64 (shr64 (IntKind.u64.wrap ((IntKind.u64.wrap (h * 6364136223846793005)) + 1442695040888963407)) 33) 16777215) (by kernel_rfl) (wrap_id (by omega) (by omega)) (by kernel_rfl) ?_)
    refine R.go 16 (R.cond ((p : Int) < (c.length : Int)) (by kernel_rfl) (fun c2 => ?_) (fun c2 => ?_))
    · have hbp := hcb p (by omega)
      refine R.go 11 (R.idx eB c 0 p (p : Int) (by kernel_rfl) rfl eB_len (by omega) (by kernel_rfl) ?_)
      refine R.go 1 (R.cv .i64 (c.getD p 0) (by kernel_rfl) (wrap_id (by omega) (by omega)) (by kernel_rfl) ?_)
      refine R.ar ((bits .and .u64 (shr64 (IntKind.u64.wrap ((IntKind.u64.wrap (h * 6364136223846793005)) + 1442695040888963407)) 33) 16777215) + (c.getD p 0)) (by kernel_rfl) (by omega) (by omega) (by kernel_rfl) ?_
      refine R.go 8 (R.ar ((p : Int) + 1) (by kernel_rfl) (by omega) (by omega) (by kernel_rfl) ?_)
      refine R.go 8 (R.rem ((bits .and .u64 (shr64 (IntKind.u64.wrap ((IntKind.u64.wrap (h * 6364136223846793005)) + 1442695040888963407)) 33) 16777215) + (c.getD p 0)) n (by kernel_rfl) (by omega) (by omega) (by kernel_rfl) ?_)
      exact R.go 2 (R.retX (res := AI (((bits .and .u64 (shr64 (IntKind.u64.wrap ((IntKind.u64.wrap (h * 6364136223846793005)) + 1442695040888963407)) 33) 16777215) + (c.getD p 0)) % n)) (hp' := [.box 70 [LB c, AI ((p : Int) + 1), .int .u64 (IntKind.u64.wrap ((IntKind.u64.wrap (h * 6364136223846793005)) + 1442695040888963407))], .list eo1 so1 no1 co1, .list eo2 so2 no2 co2, .list eo3 so3 no3 co3, .dead]) (by kernel_rfl) (by kernel_rfl) (by kernel_rfl) (by kernel_rfl) ⟨[0, 1, 2, 3], by kernel_rfl, by decide, ((bits .and .u64 (shr64 (IntKind.u64.wrap ((IntKind.u64.wrap (h * 6364136223846793005)) + 1442695040888963407)) 33) 16777215) + (c.getD p 0)) % n, p + 1, IntKind.u64.wrap ((IntKind.u64.wrap (h * 6364136223846793005)) + 1442695040888963407), by first | exact mod_rng (by assumption) | exact ⟨fun _ => rfl, fun h1 => by omega⟩, by kernel_rfl, by kernel_rfl⟩)
    · refine R.go 5 (R.rem (bits .and .u64 (shr64 (IntKind.u64.wrap ((IntKind.u64.wrap (h * 6364136223846793005)) + 1442695040888963407)) 33) 16777215) n (by kernel_rfl) (by omega) (by omega) (by kernel_rfl) ?_)
      exact R.go 2 (R.retX (res := AI ((bits .and .u64 (shr64 (IntKind.u64.wrap ((IntKind.u64.wrap (h * 6364136223846793005)) + 1442695040888963407)) 33) 16777215) % n)) (hp' := [.box 70 [LB c, AI (p : Int), .int .u64 (IntKind.u64.wrap ((IntKind.u64.wrap (h * 6364136223846793005)) + 1442695040888963407))], .list eo1 so1 no1 co1, .list eo2 so2 no2 co2, .list eo3 so3 no3 co3, .dead]) (by kernel_rfl) (by kernel_rfl) (by kernel_rfl) (by kernel_rfl) ⟨[0, 1, 2, 3], by kernel_rfl, by decide, (bits .and .u64 (shr64 (IntKind.u64.wrap ((IntKind.u64.wrap (h * 6364136223846793005)) + 1442695040888963407)) 33) 16777215) % n, p, IntKind.u64.wrap ((IntKind.u64.wrap (h * 6364136223846793005)) + 1442695040888963407), by first | exact mod_rng (by assumption) | exact ⟨fun _ => rfl, fun h1 => by omega⟩, by kernel_rfl, by kernel_rfl⟩)

theorem nextX_c_r4 (c : List Int) (p : Nat) (h : Int) (n : Int) (eo1 : Nat) (so1 : Nat) (no1 : Nat) (co1 : List AV) (eo2 : Nat) (so2 : Nat) (no2 : Nat) (co2 : List AV) (eo3 : Nat) (so3 : Nat) (no3 : Nat) (co3 : List AV) (eo4 : Nat) (so4 : Nat) (no4 : Nat) (co4 : List AV) (hc : BY c) : CallX Try.prog 43 [.ptr 0 0, AI n] [.box 70 [LB c, AI (p : Int), .int .u64 h], .list eo1 so1 no1 co1, .list eo2 so2 no2 co2, .list eo3 so3 no3 co3, .list eo4 so4 no4 co4] (fun (resX : AV) (objX : List AObj) => ∃ v : Int, ∃ p1 : Nat, ∃ h1 : Int, ((n < 1 → v = 0) ∧ (1 ≤ n → 0 ≤ v ∧ v < n)) ∧ resX = AI v ∧ objX = [.box 70 [LB c, AI (p1 : Int), .int .u64 h1], .list eo1 so1 no1 co1, .list eo2 so2 no2 co2, .list eo3 so3 no3 co3, .list eo4 so4 no4 co4]) := by
  have hcl : c.length ≤ 4096 := hc.1
  have hcb := hc.2
  have hxr := fun h => u64and (shr64 (IntKind.u64.wrap (IntKind.u64.wrap (h * 6364136223846793005) + 1442695040888963407)) 33)
  have hxh := hxr h
  refine CallX.dropE (CallX.ofF Try.func43 rfl (by kernel_rfl) ?_)
  intro usC frC hfC
  refine R.go 10 (R.cond (n < 1) (by kernel_rfl) (fun c1 => ?_) (fun c1 => ?_))
  · exact R.go 4 (R.retX (res := AI 0) (hp' := [.box 70 [LB c, AI (p : Int), .int .u64 h], .list eo1 so1 no1 co1, .list eo2 so2 no2 co2, .list eo3 so3 no3 co3, .list eo4 so4 no4 co4, .dead]) (by kernel_rfl) (by kernel_rfl) (by kernel_rfl) (by kernel_rfl) ⟨[0, 1, 2, 3, 4], by kernel_rfl, by decide, 0, p, h, by first | exact mod_rng (by assumption) | exact ⟨fun _ => rfl, fun h1 => by omega⟩, by kernel_rfl, by kernel_rfl⟩)
  · refine R.go 22 (R.cv .i64 (bits .and .u64 (shr64 (IntKind.u64.wrap ((IntKind.u64.wrap (h * 6364136223846793005)) + 1442695040888963407)) 33) 16777215) (by kernel_rfl) (wrap_id (by omega) (by omega)) (by kernel_rfl) ?_)
    refine R.go 16 (R.cond ((p : Int) < (c.length : Int)) (by kernel_rfl) (fun c2 => ?_) (fun c2 => ?_))
    · have hbp := hcb p (by omega)
      refine R.go 11 (R.idx eB c 0 p (p : Int) (by kernel_rfl) rfl eB_len (by omega) (by kernel_rfl) ?_)
      refine R.go 1 (R.cv .i64 (c.getD p 0) (by kernel_rfl) (wrap_id (by omega) (by omega)) (by kernel_rfl) ?_)
      refine R.ar ((bits .and .u64 (shr64 (IntKind.u64.wrap ((IntKind.u64.wrap (h * 6364136223846793005)) + 1442695040888963407)) 33) 16777215) + (c.getD p 0)) (by kernel_rfl) (by omega) (by omega) (by kernel_rfl) ?_
      refine R.go 8 (R.ar ((p : Int) + 1) (by kernel_rfl) (by omega) (by omega) (by kernel_rfl) ?_)
      refine R.go 8 (R.rem ((bits .and .u64 (shr64 (IntKind.u64.wrap ((IntKind.u64.wrap (h * 6364136223846793005)) + 1442695040888963407)) 33) 16777215) + (c.getD p 0)) n (by kernel_rfl) (by omega) (by omega) (by kernel_rfl) ?_)
      exact R.go 2 (R.retX (res := AI (((bits .and .u64 (shr64 (IntKind.u64.wrap ((IntKind.u64.wrap (h * 6364136223846793005)) + 1442695040888963407)) 33) 16777215) + (c.getD p 0)) % n)) (hp' := [.box 70 [LB c, AI ((p : Int) + 1), .int .u64 (IntKind.u64.wrap ((IntKind.u64.wrap (h * 6364136223846793005)) + 1442695040888963407))], .list eo1 so1 no1 co1, .list eo2 so2 no2 co2, .list eo3 so3 no3 co3, .list eo4 so4 no4 co4, .dead]) (by kernel_rfl) (by kernel_rfl) (by kernel_rfl) (by kernel_rfl) ⟨[0, 1, 2, 3, 4], by kernel_rfl, by decide, ((bits .and .u64 (shr64 (IntKind.u64.wrap ((IntKind.u64.wrap (h * 6364136223846793005)) + 1442695040888963407)) 33) 16777215) + (c.getD p 0)) % n, p + 1, IntKind.u64.wrap ((IntKind.u64.wrap (h * 6364136223846793005)) + 1442695040888963407), by first | exact mod_rng (by assumption) | exact ⟨fun _ => rfl, fun h1 => by omega⟩, by kernel_rfl, by kernel_rfl⟩)
    · refine R.go 5 (R.rem (bits .and .u64 (shr64 (IntKind.u64.wrap ((IntKind.u64.wrap (h * 6364136223846793005)) + 1442695040888963407)) 33) 16777215) n (by kernel_rfl) (by omega) (by omega) (by kernel_rfl) ?_)
      exact R.go 2 (R.retX (res := AI ((bits .and .u64 (shr64 (IntKind.u64.wrap ((IntKind.u64.wrap (h * 6364136223846793005)) + 1442695040888963407)) 33) 16777215) % n)) (hp' := [.box 70 [LB c, AI (p : Int), .int .u64 (IntKind.u64.wrap ((IntKind.u64.wrap (h * 6364136223846793005)) + 1442695040888963407))], .list eo1 so1 no1 co1, .list eo2 so2 no2 co2, .list eo3 so3 no3 co3, .list eo4 so4 no4 co4, .dead]) (by kernel_rfl) (by kernel_rfl) (by kernel_rfl) (by kernel_rfl) ⟨[0, 1, 2, 3, 4], by kernel_rfl, by decide, (bits .and .u64 (shr64 (IntKind.u64.wrap ((IntKind.u64.wrap (h * 6364136223846793005)) + 1442695040888963407)) 33) 16777215) % n, p, IntKind.u64.wrap ((IntKind.u64.wrap (h * 6364136223846793005)) + 1442695040888963407), by first | exact mod_rng (by assumption) | exact ⟨fun _ => rfl, fun h1 => by omega⟩, by kernel_rfl, by kernel_rfl⟩)

theorem nextX_c_r5 (c : List Int) (p : Nat) (h : Int) (n : Int) (eo1 : Nat) (so1 : Nat) (no1 : Nat) (co1 : List AV) (eo2 : Nat) (so2 : Nat) (no2 : Nat) (co2 : List AV) (eo3 : Nat) (so3 : Nat) (no3 : Nat) (co3 : List AV) (eo4 : Nat) (so4 : Nat) (no4 : Nat) (co4 : List AV) (eo5 : Nat) (so5 : Nat) (no5 : Nat) (co5 : List AV) (hc : BY c) : CallX Try.prog 43 [.ptr 0 0, AI n] [.box 70 [LB c, AI (p : Int), .int .u64 h], .list eo1 so1 no1 co1, .list eo2 so2 no2 co2, .list eo3 so3 no3 co3, .list eo4 so4 no4 co4, .list eo5 so5 no5 co5] (fun (resX : AV) (objX : List AObj) => ∃ v : Int, ∃ p1 : Nat, ∃ h1 : Int, ((n < 1 → v = 0) ∧ (1 ≤ n → 0 ≤ v ∧ v < n)) ∧ resX = AI v ∧ objX = [.box 70 [LB c, AI (p1 : Int), .int .u64 h1], .list eo1 so1 no1 co1, .list eo2 so2 no2 co2, .list eo3 so3 no3 co3, .list eo4 so4 no4 co4, .list eo5 so5 no5 co5]) := by
  have hcl : c.length ≤ 4096 := hc.1
  have hcb := hc.2
  have hxr := fun h => u64and (shr64 (IntKind.u64.wrap (IntKind.u64.wrap (h * 6364136223846793005) + 1442695040888963407)) 33)
  have hxh := hxr h
  refine CallX.dropE (CallX.ofF Try.func43 rfl (by kernel_rfl) ?_)
  intro usC frC hfC
  refine R.go 10 (R.cond (n < 1) (by kernel_rfl) (fun c1 => ?_) (fun c1 => ?_))
  · exact R.go 4 (R.retX (res := AI 0) (hp' := [.box 70 [LB c, AI (p : Int), .int .u64 h], .list eo1 so1 no1 co1, .list eo2 so2 no2 co2, .list eo3 so3 no3 co3, .list eo4 so4 no4 co4, .list eo5 so5 no5 co5, .dead]) (by kernel_rfl) (by kernel_rfl) (by kernel_rfl) (by kernel_rfl) ⟨[0, 1, 2, 3, 4, 5], by kernel_rfl, by decide, 0, p, h, by first | exact mod_rng (by assumption) | exact ⟨fun _ => rfl, fun h1 => by omega⟩, by kernel_rfl, by kernel_rfl⟩)
  · refine R.go 22 (R.cv .i64 (bits .and .u64 (shr64 (IntKind.u64.wrap ((IntKind.u64.wrap (h * 6364136223846793005)) + 1442695040888963407)) 33) 16777215) (by kernel_rfl) (wrap_id (by omega) (by omega)) (by kernel_rfl) ?_)
    refine R.go 16 (R.cond ((p : Int) < (c.length : Int)) (by kernel_rfl) (fun c2 => ?_) (fun c2 => ?_))
    · have hbp := hcb p (by omega)
      refine R.go 11 (R.idx eB c 0 p (p : Int) (by kernel_rfl) rfl eB_len (by omega) (by kernel_rfl) ?_)
      refine R.go 1 (R.cv .i64 (c.getD p 0) (by kernel_rfl) (wrap_id (by omega) (by omega)) (by kernel_rfl) ?_)
      refine R.ar ((bits .and .u64 (shr64 (IntKind.u64.wrap ((IntKind.u64.wrap (h * 6364136223846793005)) + 1442695040888963407)) 33) 16777215) + (c.getD p 0)) (by kernel_rfl) (by omega) (by omega) (by kernel_rfl) ?_
      refine R.go 8 (R.ar ((p : Int) + 1) (by kernel_rfl) (by omega) (by omega) (by kernel_rfl) ?_)
      refine R.go 8 (R.rem ((bits .and .u64 (shr64 (IntKind.u64.wrap ((IntKind.u64.wrap (h * 6364136223846793005)) + 1442695040888963407)) 33) 16777215) + (c.getD p 0)) n (by kernel_rfl) (by omega) (by omega) (by kernel_rfl) ?_)
      exact R.go 2 (R.retX (res := AI (((bits .and .u64 (shr64 (IntKind.u64.wrap ((IntKind.u64.wrap (h * 6364136223846793005)) + 1442695040888963407)) 33) 16777215) + (c.getD p 0)) % n)) (hp' := [.box 70 [LB c, AI ((p : Int) + 1), .int .u64 (IntKind.u64.wrap ((IntKind.u64.wrap (h * 6364136223846793005)) + 1442695040888963407))], .list eo1 so1 no1 co1, .list eo2 so2 no2 co2, .list eo3 so3 no3 co3, .list eo4 so4 no4 co4, .list eo5 so5 no5 co5, .dead]) (by kernel_rfl) (by kernel_rfl) (by kernel_rfl) (by kernel_rfl) ⟨[0, 1, 2, 3, 4, 5], by kernel_rfl, by decide, ((bits .and .u64 (shr64 (IntKind.u64.wrap ((IntKind.u64.wrap (h * 6364136223846793005)) + 1442695040888963407)) 33) 16777215) + (c.getD p 0)) % n, p + 1, IntKind.u64.wrap ((IntKind.u64.wrap (h * 6364136223846793005)) + 1442695040888963407), by first | exact mod_rng (by assumption) | exact ⟨fun _ => rfl, fun h1 => by omega⟩, by kernel_rfl, by kernel_rfl⟩)
    · refine R.go 5 (R.rem (bits .and .u64 (shr64 (IntKind.u64.wrap ((IntKind.u64.wrap (h * 6364136223846793005)) + 1442695040888963407)) 33) 16777215) n (by kernel_rfl) (by omega) (by omega) (by kernel_rfl) ?_)
      exact R.go 2 (R.retX (res := AI ((bits .and .u64 (shr64 (IntKind.u64.wrap ((IntKind.u64.wrap (h * 6364136223846793005)) + 1442695040888963407)) 33) 16777215) % n)) (hp' := [.box 70 [LB c, AI (p : Int), .int .u64 (IntKind.u64.wrap ((IntKind.u64.wrap (h * 6364136223846793005)) + 1442695040888963407))], .list eo1 so1 no1 co1, .list eo2 so2 no2 co2, .list eo3 so3 no3 co3, .list eo4 so4 no4 co4, .list eo5 so5 no5 co5, .dead]) (by kernel_rfl) (by kernel_rfl) (by kernel_rfl) (by kernel_rfl) ⟨[0, 1, 2, 3, 4, 5], by kernel_rfl, by decide, (bits .and .u64 (shr64 (IntKind.u64.wrap ((IntKind.u64.wrap (h * 6364136223846793005)) + 1442695040888963407)) 33) 16777215) % n, p, IntKind.u64.wrap ((IntKind.u64.wrap (h * 6364136223846793005)) + 1442695040888963407), by first | exact mod_rng (by assumption) | exact ⟨fun _ => rfl, fun h1 => by omega⟩, by kernel_rfl, by kernel_rfl⟩)

theorem nextX_c_r6 (c : List Int) (p : Nat) (h : Int) (n : Int) (eo1 : Nat) (so1 : Nat) (no1 : Nat) (co1 : List AV) (eo2 : Nat) (so2 : Nat) (no2 : Nat) (co2 : List AV) (eo3 : Nat) (so3 : Nat) (no3 : Nat) (co3 : List AV) (eo4 : Nat) (so4 : Nat) (no4 : Nat) (co4 : List AV) (eo5 : Nat) (so5 : Nat) (no5 : Nat) (co5 : List AV) (eo6 : Nat) (so6 : Nat) (no6 : Nat) (co6 : List AV) (hc : BY c) : CallX Try.prog 43 [.ptr 0 0, AI n] [.box 70 [LB c, AI (p : Int), .int .u64 h], .list eo1 so1 no1 co1, .list eo2 so2 no2 co2, .list eo3 so3 no3 co3, .list eo4 so4 no4 co4, .list eo5 so5 no5 co5, .list eo6 so6 no6 co6] (fun (resX : AV) (objX : List AObj) => ∃ v : Int, ∃ p1 : Nat, ∃ h1 : Int, ((n < 1 → v = 0) ∧ (1 ≤ n → 0 ≤ v ∧ v < n)) ∧ resX = AI v ∧ objX = [.box 70 [LB c, AI (p1 : Int), .int .u64 h1], .list eo1 so1 no1 co1, .list eo2 so2 no2 co2, .list eo3 so3 no3 co3, .list eo4 so4 no4 co4, .list eo5 so5 no5 co5, .list eo6 so6 no6 co6]) := by
  have hcl : c.length ≤ 4096 := hc.1
  have hcb := hc.2
  have hxr := fun h => u64and (shr64 (IntKind.u64.wrap (IntKind.u64.wrap (h * 6364136223846793005) + 1442695040888963407)) 33)
  have hxh := hxr h
  refine CallX.dropE (CallX.ofF Try.func43 rfl (by kernel_rfl) ?_)
  intro usC frC hfC
  refine R.go 10 (R.cond (n < 1) (by kernel_rfl) (fun c1 => ?_) (fun c1 => ?_))
  · exact R.go 4 (R.retX (res := AI 0) (hp' := [.box 70 [LB c, AI (p : Int), .int .u64 h], .list eo1 so1 no1 co1, .list eo2 so2 no2 co2, .list eo3 so3 no3 co3, .list eo4 so4 no4 co4, .list eo5 so5 no5 co5, .list eo6 so6 no6 co6, .dead]) (by kernel_rfl) (by kernel_rfl) (by kernel_rfl) (by kernel_rfl) ⟨[0, 1, 2, 3, 4, 5, 6], by kernel_rfl, by decide, 0, p, h, by first | exact mod_rng (by assumption) | exact ⟨fun _ => rfl, fun h1 => by omega⟩, by kernel_rfl, by kernel_rfl⟩)
  · refine R.go 22 (R.cv .i64 (bits .and .u64 (shr64 (IntKind.u64.wrap ((IntKind.u64.wrap (h * 6364136223846793005)) + 1442695040888963407)) 33) 16777215) (by kernel_rfl) (wrap_id (by omega) (by omega)) (by kernel_rfl) ?_)
    refine R.go 16 (R.cond ((p : Int) < (c.length : Int)) (by kernel_rfl) (fun c2 => ?_) (fun c2 => ?_))
    · have hbp := hcb p (by omega)
      refine R.go 11 (R.idx eB c 0 p (p : Int) (by kernel_rfl) rfl eB_len (by omega) (by kernel_rfl) ?_)
      refine R.go 1 (R.cv .i64 (c.getD p 0) (by kernel_rfl) (wrap_id (by omega) (by omega)) (by kernel_rfl) ?_)
      refine R.ar ((bits .and .u64 (shr64 (IntKind.u64.wrap ((IntKind.u64.wrap (h * 6364136223846793005)) + 1442695040888963407)) 33) 16777215) + (c.getD p 0)) (by kernel_rfl) (by omega) (by omega) (by kernel_rfl) ?_
      refine R.go 8 (R.ar ((p : Int) + 1) (by kernel_rfl) (by omega) (by omega) (by kernel_rfl) ?_)
      refine R.go 8 (R.rem ((bits .and .u64 (shr64 (IntKind.u64.wrap ((IntKind.u64.wrap (h * 6364136223846793005)) + 1442695040888963407)) 33) 16777215) + (c.getD p 0)) n (by kernel_rfl) (by omega) (by omega) (by kernel_rfl) ?_)
      exact R.go 2 (R.retX (res := AI (((bits .and .u64 (shr64 (IntKind.u64.wrap ((IntKind.u64.wrap (h * 6364136223846793005)) + 1442695040888963407)) 33) 16777215) + (c.getD p 0)) % n)) (hp' := [.box 70 [LB c, AI ((p : Int) + 1), .int .u64 (IntKind.u64.wrap ((IntKind.u64.wrap (h * 6364136223846793005)) + 1442695040888963407))], .list eo1 so1 no1 co1, .list eo2 so2 no2 co2, .list eo3 so3 no3 co3, .list eo4 so4 no4 co4, .list eo5 so5 no5 co5, .list eo6 so6 no6 co6, .dead]) (by kernel_rfl) (by kernel_rfl) (by kernel_rfl) (by kernel_rfl) ⟨[0, 1, 2, 3, 4, 5, 6], by kernel_rfl, by decide, ((bits .and .u64 (shr64 (IntKind.u64.wrap ((IntKind.u64.wrap (h * 6364136223846793005)) + 1442695040888963407)) 33) 16777215) + (c.getD p 0)) % n, p + 1, IntKind.u64.wrap ((IntKind.u64.wrap (h * 6364136223846793005)) + 1442695040888963407), by first | exact mod_rng (by assumption) | exact ⟨fun _ => rfl, fun h1 => by omega⟩, by kernel_rfl, by kernel_rfl⟩)
    · refine R.go 5 (R.rem (bits .and .u64 (shr64 (IntKind.u64.wrap ((IntKind.u64.wrap (h * 6364136223846793005)) + 1442695040888963407)) 33) 16777215) n (by kernel_rfl) (by omega) (by omega) (by kernel_rfl) ?_)
      exact R.go 2 (R.retX (res := AI ((bits .and .u64 (shr64 (IntKind.u64.wrap ((IntKind.u64.wrap (h * 6364136223846793005)) + 1442695040888963407)) 33) 16777215) % n)) (hp' := [.box 70 [LB c, AI (p : Int), .int .u64 (IntKind.u64.wrap ((IntKind.u64.wrap (h * 6364136223846793005)) + 1442695040888963407))], .list eo1 so1 no1 co1, .list eo2 so2 no2 co2, .list eo3 so3 no3 co3, .list eo4 so4 no4 co4, .list eo5 so5 no5 co5, .list eo6 so6 no6 co6, .dead]) (by kernel_rfl) (by kernel_rfl) (by kernel_rfl) (by kernel_rfl) ⟨[0, 1, 2, 3, 4, 5, 6], by kernel_rfl, by decide, (bits .and .u64 (shr64 (IntKind.u64.wrap ((IntKind.u64.wrap (h * 6364136223846793005)) + 1442695040888963407)) 33) 16777215) % n, p, IntKind.u64.wrap ((IntKind.u64.wrap (h * 6364136223846793005)) + 1442695040888963407), by first | exact mod_rng (by assumption) | exact ⟨fun _ => rfl, fun h1 => by omega⟩, by kernel_rfl, by kernel_rfl⟩)

theorem nextX_c_r4b (c : List Int) (p : Nat) (h : Int) (n : Int) (eo1 : Nat) (so1 : Nat) (no1 : Nat) (co1 : List AV) (eo2 : Nat) (so2 : Nat) (no2 : Nat) (co2 : List AV) (eo3 : Nat) (so3 : Nat) (no3 : Nat) (co3 : List AV) (eo4 : Nat) (so4 : Nat) (no4 : Nat) (co4 : List AV) (to5 : Nat) (a_x : Int) (hc : BY c) : CallX Try.prog 43 [.ptr 0 0, AI n] [.box 70 [LB c, AI (p : Int), .int .u64 h], .list eo1 so1 no1 co1, .list eo2 so2 no2 co2, .list eo3 so3 no3 co3, .list eo4 so4 no4 co4, .box to5 [AI a_x, .ref 4]] (fun (resX : AV) (objX : List AObj) => ∃ v : Int, ∃ p1 : Nat, ∃ h1 : Int, ((n < 1 → v = 0) ∧ (1 ≤ n → 0 ≤ v ∧ v < n)) ∧ resX = AI v ∧ objX = [.box 70 [LB c, AI (p1 : Int), .int .u64 h1], .list eo1 so1 no1 co1, .list eo2 so2 no2 co2, .list eo3 so3 no3 co3, .list eo4 so4 no4 co4, .box to5 [AI a_x, .ref 4]]) := by
  have hcl : c.length ≤ 4096 := hc.1
  have hcb := hc.2
  have hxr := fun h => u64and (shr64 (IntKind.u64.wrap (IntKind.u64.wrap (h * 6364136223846793005) + 1442695040888963407)) 33)
  have hxh := hxr h
  refine CallX.dropE (CallX.ofF Try.func43 rfl (by kernel_rfl) ?_)
  intro usC frC hfC
  refine R.go 10 (R.cond (n < 1) (by kernel_rfl) (fun c1 => ?_) (fun c1 => ?_))
  · exact R.go 4 (R.retX (res := AI 0) (hp' := [.box 70 [LB c, AI (p : Int), .int .u64 h], .list eo1 so1 no1 co1, .list eo2 so2 no2 co2, .list eo3 so3 no3 co3, .list eo4 so4 no4 co4, .box to5 [AI a_x, .ref 4], .dead]) (by kernel_rfl) (by kernel_rfl) (by kernel_rfl) (by kernel_rfl) ⟨[0, 1, 2, 3, 4, 5], by kernel_rfl, by decide, 0, p, h, by first | exact mod_rng (by assumption) | exact ⟨fun _ => rfl, fun h1 => by omega⟩, by kernel_rfl, by kernel_rfl⟩)
  · refine R.go 22 (R.cv .i64 (bits .and .u64 (shr64 (IntKind.u64.wrap ((IntKind.u64.wrap (h * 6364136223846793005)) + 1442695040888963407)) 33) 16777215) (by kernel_rfl) (wrap_id (by omega) (by omega)) (by kernel_rfl) ?_)
    refine R.go 16 (R.cond ((p : Int) < (c.length : Int)) (by kernel_rfl) (fun c2 => ?_) (fun c2 => ?_))
    · have hbp := hcb p (by omega)
      refine R.go 11 (R.idx eB c 0 p (p : Int) (by kernel_rfl) rfl eB_len (by omega) (by kernel_rfl) ?_)
      refine R.go 1 (R.cv .i64 (c.getD p 0) (by kernel_rfl) (wrap_id (by omega) (by omega)) (by kernel_rfl) ?_)
      refine R.ar ((bits .and .u64 (shr64 (IntKind.u64.wrap ((IntKind.u64.wrap (h * 6364136223846793005)) + 1442695040888963407)) 33) 16777215) + (c.getD p 0)) (by kernel_rfl) (by omega) (by omega) (by kernel_rfl) ?_
      refine R.go 8 (R.ar ((p : Int) + 1) (by kernel_rfl) (by omega) (by omega) (by kernel_rfl) ?_)
      refine R.go 8 (R.rem ((bits .and .u64 (shr64 (IntKind.u64.wrap ((IntKind.u64.wrap (h * 6364136223846793005)) + 1442695040888963407)) 33) 16777215) + (c.getD p 0)) n (by kernel_rfl) (by omega) (by omega) (by kernel_rfl) ?_)
      exact R.go 2 (R.retX (res := AI (((bits .and .u64 (shr64 (IntKind.u64.wrap ((IntKind.u64.wrap (h * 6364136223846793005)) + 1442695040888963407)) 33) 16777215) + (c.getD p 0)) % n)) (hp' := [.box 70 [LB c, AI ((p : Int) + 1), .int .u64 (IntKind.u64.wrap ((IntKind.u64.wrap (h * 6364136223846793005)) + 1442695040888963407))], .list eo1 so1 no1 co1, .list eo2 so2 no2 co2, .list eo3 so3 no3 co3, .list eo4 so4 no4 co4, .box to5 [AI a_x, .ref 4], .dead]) (by kernel_rfl) (by kernel_rfl) (by kernel_rfl) (by kernel_rfl) ⟨[0, 1, 2, 3, 4, 5], by kernel_rfl, by decide, ((bits .and .u64 (shr64 (IntKind.u64.wrap ((IntKind.u64.wrap (h * 6364136223846793005)) + 1442695040888963407)) 33) 16777215) + (c.getD p 0)) % n, p + 1, IntKind.u64.wrap ((IntKind.u64.wrap (h * 6364136223846793005)) + 1442695040888963407), by first | exact mod_rng (by assumption) | exact ⟨fun _ => rfl, fun h1 => by omega⟩, by kernel_rfl, by kernel_rfl⟩)
    · refine R.go 5 (R.rem (bits .and .u64 (shr64 (IntKind.u64.wrap ((IntKind.u64.wrap (h * 6364136223846793005)) + 1442695040888963407)) 33) 16777215) n (by kernel_rfl) (by omega) (by omega) (by kernel_rfl) ?_)
      exact R.go 2 (R.retX (res := AI ((bits .and .u64 (shr64 (IntKind.u64.wrap ((IntKind.u64.wrap (h * 6364136223846793005)) + 1442695040888963407)) 33) 16777215) % n)) (hp' := [.box 70 [LB c, AI (p : Int), .int .u64 (IntKind.u64.wrap ((IntKind.u64.wrap (h * 6364136223846793005)) + 1442695040888963407))], .list eo1 so1 no1 co1, .list eo2 so2 no2 co2, .list eo3 so3 no3 co3, .list eo4 so4 no4 co4, .box to5 [AI a_x, .ref 4], .dead]) (by kernel_rfl) (by kernel_rfl) (by kernel_rfl) (by kernel_rfl) ⟨[0, 1, 2, 3, 4, 5], by kernel_rfl, by decide, (bits .and .u64 (shr64 (IntKind.u64.wrap ((IntKind.u64.wrap (h * 6364136223846793005)) + 1442695040888963407)) 33) 16777215) % n, p, IntKind.u64.wrap ((IntKind.u64.wrap (h * 6364136223846793005)) + 1442695040888963407), by first | exact mod_rng (by assumption) | exact ⟨fun _ => rfl, fun h1 => by omega⟩, by kernel_rfl, by kernel_rfl⟩)

theorem nextX_c_r5b (c : List Int) (p : Nat) (h : Int) (n : Int) (eo1 : Nat) (so1 : Nat) (no1 : Nat) (co1 : List AV) (eo2 : Nat) (so2 : Nat) (no2 : Nat) (co2 : List AV) (eo3 : Nat) (so3 : Nat) (no3 : Nat) (co3 : List AV) (eo4 : Nat) (so4 : Nat) (no4 : Nat) (co4 : List AV) (eo5 : Nat) (so5 : Nat) (no5 : Nat) (co5 : List AV) (to6 : Nat) (a_x : Int) (hc : BY c) : CallX Try.prog 43 [.ptr 0 0, AI n] [.box 70 [LB c, AI (p : Int), .int .u64 h], .list eo1 so1 no1 co1, .list eo2 so2 no2 co2, .list eo3 so3 no3 co3, .list eo4 so4 no4 co4, .list eo5 so5 no5 co5, .box to6 [AI a_x, .ref 5]] (fun (resX : AV) (objX : List AObj) => ∃ v : Int, ∃ p1 : Nat, ∃ h1 : Int, ((n < 1 → v = 0) ∧ (1 ≤ n → 0 ≤ v ∧ v < n)) ∧ resX = AI v ∧ objX = [.box 70 [LB c, AI (p1 : Int), .int .u64 h1], .list eo1 so1 no1 co1, .list eo2 so2 no2 co2, .list eo3 so3 no3 co3, .list eo4 so4 no4 co4, .list eo5 so5 no5 co5, .box to6 [AI a_x, .ref 5]]) := by
  have hcl : c.length ≤ 4096 := hc.1
  have hcb := hc.2
  have hxr := fun h => u64and (shr64 (IntKind.u64.wrap (IntKind.u64.wrap (h * 6364136223846793005) + 1442695040888963407)) 33)
  have hxh := hxr h
  refine CallX.dropE (CallX.ofF Try.func43 rfl (by kernel_rfl) ?_)
  intro usC frC hfC
  refine R.go 10 (R.cond (n < 1) (by kernel_rfl) (fun c1 => ?_) (fun c1 => ?_))
  · exact R.go 4 (R.retX (res := AI 0) (hp' := [.box 70 [LB c, AI (p : Int), .int .u64 h], .list eo1 so1 no1 co1, .list eo2 so2 no2 co2, .list eo3 so3 no3 co3, .list eo4 so4 no4 co4, .list eo5 so5 no5 co5, .box to6 [AI a_x, .ref 5], .dead]) (by kernel_rfl) (by kernel_rfl) (by kernel_rfl) (by kernel_rfl) ⟨[0, 1, 2, 3, 4, 5, 6], by kernel_rfl, by decide, 0, p, h, by first | exact mod_rng (by assumption) | exact ⟨fun _ => rfl, fun h1 => by omega⟩, by kernel_rfl, by kernel_rfl⟩)
  · refine R.go 22 (R.cv .i64 (bits .and .u64 (shr64 (IntKind.u64.wrap ((IntKind.u64.wrap (h * 6364136223846793005)) + 1442695040888963407)) 33) 16777215) (by kernel_rfl) (wrap_id (by omega) (by omega)) (by kernel_rfl) ?_)
    refine R.go 16 (R.cond ((p : Int) < (c.length : Int)) (by kernel_rfl) (fun c2 => ?_) (fun c2 => ?_))
    · have hbp := hcb p (by omega)
      refine R.go 11 (R.idx eB c 0 p (p : Int) (by kernel_rfl) rfl eB_len (by omega) (by kernel_rfl) ?_)
      refine R.go 1 (R.cv .i64 (c.getD p 0) (by kernel_rfl) (wrap_id (by omega) (by omega)) (by kernel_rfl) ?_)
      refine R.ar ((bits .and .u64 (shr64 (IntKind.u64.wrap ((IntKind.u64.wrap (h * 6364136223846793005)) + 1442695040888963407)) 33) 16777215) + (c.getD p 0)) (by kernel_rfl) (by omega) (by omega) (by kernel_rfl) ?_
      refine R.go 8 (R.ar ((p : Int) + 1) (by kernel_rfl) (by omega) (by omega) (by kernel_rfl) ?_)
      refine R.go 8 (R.rem ((bits .and .u64 (shr64 (IntKind.u64.wrap ((IntKind.u64.wrap (h * 6364136223846793005)) + 1442695040888963407)) 33) 16777215) + (c.getD p 0)) n (by kernel_rfl) (by omega) (by omega) (by kernel_rfl) ?_)
      exact R.go 2 (R.retX (res := AI (((bits .and .u64 (shr64 (IntKind.u64.wrap ((IntKind.u64.wrap (h * 6364136223846793005)) + 1442695040888963407)) 33) 16777215) + (c.getD p 0)) % n)) (hp' := [.box 70 [LB c, AI ((p : Int) + 1), .int .u64 (IntKind.u64.wrap ((IntKind.u64.wrap (h * 6364136223846793005)) + 1442695040888963407))], .list eo1 so1 no1 co1, .list eo2 so2 no2 co2, .list eo3 so3 no3 co3, .list eo4 so4 no4 co4, .list eo5 so5 no5 co5, .box to6 [AI a_x, .ref 5], .dead]) (by kernel_rfl) (by kernel_rfl) (by kernel_rfl) (by kernel_rfl) ⟨[0, 1, 2, 3, 4, 5, 6], by kernel_rfl, by decide, ((bits .and .u64 (shr64 (IntKind.u64.wrap ((IntKind.u64.wrap (h * 6364136223846793005)) + 1442695040888963407)) 33) 16777215) + (c.getD p 0)) % n, p + 1, IntKind.u64.wrap ((IntKind.u64.wrap (h * 6364136223846793005)) + 1442695040888963407), by first | exact mod_rng (by assumption) | exact ⟨fun _ => rfl, fun h1 => by omega⟩, by kernel_rfl, by kernel_rfl⟩)
    · refine R.go 5 (R.rem (bits .and .u64 (shr64 (IntKind.u64.wrap ((IntKind.u64.wrap (h * 6364136223846793005)) + 1442695040888963407)) 33) 16777215) n (by kernel_rfl) (by omega) (by omega) (by kernel_rfl) ?_)
      exact R.go 2 (R.retX (res := AI ((bits .and .u64 (shr64 (IntKind.u64.wrap ((IntKind.u64.wrap (h * 6364136223846793005)) + 1442695040888963407)) 33) 16777215) % n)) (hp' := [.box 70 [LB c, AI (p : Int), .int .u64 (IntKind.u64.wrap ((IntKind.u64.wrap (h * 6364136223846793005)) + 1442695040888963407))], .list eo1 so1 no1 co1, .list eo2 so2 no2 co2, .list eo3 so3 no3 co3, .list eo4 so4 no4 co4, .list eo5 so5 no5 co5, .box to6 [AI a_x, .ref 5], .dead]) (by kernel_rfl) (by kernel_rfl) (by kernel_rfl) (by kernel_rfl) ⟨[0, 1, 2, 3, 4, 5, 6], by kernel_rfl, by decide, (bits .and .u64 (shr64 (IntKind.u64.wrap ((IntKind.u64.wrap (h * 6364136223846793005)) + 1442695040888963407)) 33) 16777215) % n, p, IntKind.u64.wrap ((IntKind.u64.wrap (h * 6364136223846793005)) + 1442695040888963407), by first | exact mod_rng (by assumption) | exact ⟨fun _ => rfl, fun h1 => by omega⟩, by kernel_rfl, by kernel_rfl⟩)

theorem pickX_c_r4b (c : List Int) (p : Nat) (h : Int) (L : List Int) (eo1 : Nat) (so1 : Nat) (no1 : Nat) (co1 : List AV) (eo2 : Nat) (so2 : Nat) (no2 : Nat) (co2 : List AV) (eo3 : Nat) (so3 : Nat) (no3 : Nat) (co3 : List AV) (eo4 : Nat) (so4 : Nat) (no4 : Nat) (co4 : List AV) (to5 : Nat) (a_x : Int) (hc : BY c) (hL : 1 ≤ L.length ∧ L.length ≤ 100) : CallX Try.prog 53 [.ptr 0 0, LI L] [.box 70 [LB c, AI (p : Int), .int .u64 h], .list eo1 so1 no1 co1, .list eo2 so2 no2 co2, .list eo3 so3 no3 co3, .list eo4 so4 no4 co4, .box to5 [AI a_x, .ref 4]] (fun (resX : AV) (objX : List AObj) => ∃ v : Int, ∃ p1 : Nat, ∃ h1 : Int, resX = AI v ∧ objX = [.box 70 [LB c, AI (p1 : Int), .int .u64 h1], .list eo1 so1 no1 co1, .list eo2 so2 no2 co2, .list eo3 so3 no3 co3, .list eo4 so4 no4 co4, .box to5 [AI a_x, .ref 4]]) := by
  have hcl : c.length ≤ 4096 := hc.1
  have hcb := hc.2
  refine CallX.dropE (CallX.ofF Try.func53 rfl (by kernel_rfl) ?_)
  intro usC frC hfC
  refine R.go 10 (R.callX (CallX.inF 6 usC frC (nextX_c_r4b c p h L.length eo1 so1 no1 co1 eo2 so2 no2 co2 eo3 so3 no3 co3 eo4 so4 no4 co4 to5 a_x hc) (Nat.le_of_ble_eq_true (by kernel_rfl)) (by kernel_rfl) (by kernel_rfl) (by rintro _ _ ⟨_, _, _, _, rfl, rfl⟩; exact Nat.le_of_ble_eq_true (by kernel_rfl))) (by kernel_rfl) (by kernel_rfl) (by kernel_rfl) ?_)
  rintro _ _ ⟨_, _, ⟨v_1, p1_2, h1_3, f4, rfl, rfl⟩, rfl, rfl⟩
  refine R.idx eI L 0 ((v_1).toNat) v_1 (by kernel_rfl) (by omega) eI_len (by omega) (by kernel_rfl) ?_
  exact R.go 3 (R.retX (res := AI (L.getD ((v_1).toNat) 0)) (hp' := [.box 70 [LB c, AI (p1_2 : Int), .int .u64 h1_3], .list eo1 so1 no1 co1, .list eo2 so2 no2 co2, .list eo3 so3 no3 co3, .list eo4 so4 no4 co4, .box to5 [AI a_x, .ref 4], .dead]) (by kernel_rfl) (by kernel_rfl) (by kernel_rfl) (by kernel_rfl) ⟨[0, 1, 2, 3, 4, 5], by kernel_rfl, by decide, (L.getD ((v_1).toNat) 0), p1_2, h1_3, by kernel_rfl, by kernel_rfl⟩)

theorem pickX_c_r5b (c : List Int) (p : Nat) (h : Int) (L : List Int) (eo1 : Nat) (so1 : Nat) (no1 : Nat) (co1 : List AV) (eo2 : Nat) (so2 : Nat) (no2 : Nat) (co2 : List AV) (eo3 : Nat) (so3 : Nat) (no3 : Nat) (co3 : List AV) (eo4 : Nat) (so4 : Nat) (no4 : Nat) (co4 : List AV) (eo5 : Nat) (so5 : Nat) (no5 : Nat) (co5 : List AV) (to6 : Nat) (a_x : Int) (hc : BY c) (hL : 1 ≤ L.length ∧ L.length ≤ 100) : CallX Try.prog 53 [.ptr 0 0, LI L] [.box 70 [LB c, AI (p : Int), .int .u64 h], .list eo1 so1 no1 co1, .list eo2 so2 no2 co2, .list eo3 so3 no3 co3, .list eo4 so4 no4 co4, .list eo5 so5 no5 co5, .box to6 [AI a_x, .ref 5]] (fun (resX : AV) (objX : List AObj) => ∃ v : Int, ∃ p1 : Nat, ∃ h1 : Int, resX = AI v ∧ objX = [.box 70 [LB c, AI (p1 : Int), .int .u64 h1], .list eo1 so1 no1 co1, .list eo2 so2 no2 co2, .list eo3 so3 no3 co3, .list eo4 so4 no4 co4, .list eo5 so5 no5 co5, .box to6 [AI a_x, .ref 5]]) := by
  have hcl : c.length ≤ 4096 := hc.1
  have hcb := hc.2
  refine CallX.dropE (CallX.ofF Try.func53 rfl (by kernel_rfl) ?_)
  intro usC frC hfC
  refine R.go 10 (R.callX (CallX.inF 7 usC frC (nextX_c_r5b c p h L.length eo1 so1 no1 co1 eo2 so2 no2 co2 eo3 so3 no3 co3 eo4 so4 no4 co4 eo5 so5 no5 co5 to6 a_x hc) (Nat.le_of_ble_eq_true (by kernel_rfl)) (by kernel_rfl) (by kernel_rfl) (by rintro _ _ ⟨_, _, _, _, rfl, rfl⟩; exact Nat.le_of_ble_eq_true (by kernel_rfl))) (by kernel_rfl) (by kernel_rfl) (by kernel_rfl) ?_)
  rintro _ _ ⟨_, _, ⟨v_1, p1_2, h1_3, f4, rfl, rfl⟩, rfl, rfl⟩
  refine R.idx eI L 0 ((v_1).toNat) v_1 (by kernel_rfl) (by omega) eI_len (by omega) (by kernel_rfl) ?_
  exact R.go 3 (R.retX (res := AI (L.getD ((v_1).toNat) 0)) (hp' := [.box 70 [LB c, AI (p1_2 : Int), .int .u64 h1_3], .list eo1 so1 no1 co1, .list eo2 so2 no2 co2, .list eo3 so3 no3 co3, .list eo4 so4 no4 co4, .list eo5 so5 no5 co5, .box to6 [AI a_x, .ref 5], .dead]) (by kernel_rfl) (by kernel_rfl) (by kernel_rfl) (by kernel_rfl) ⟨[0, 1, 2, 3, 4, 5, 6], by kernel_rfl, by decide, (L.getD ((v_1).toNat) 0), p1_2, h1_3, by kernel_rfl, by kernel_rfl⟩)

end Go.Proofs.Ytogehjciaamcfaa


/-! Draws of frames. -/
namespace Go.Proofs.Ytogehjciaamcfaa
open Go.RowKit Go.Abs

def refI (xs : List Int) : Nat → List Int
  | 0 => []
  | i + 1 => refI xs i ++ [bor (xs.getD i 0) (shl64 1 (i : Int))]
theorem refI_len (xs : List Int) : ∀ i, (refI xs i).length = i
  | 0 => rfl
  | i + 1 => by simp [refI, refI_len xs i]

theorem l01Refl_c (xs : List Int) (hl : xs.length ≤ 60) : CallA Try.prog 80 [LI xs] (ownA eI 2 1 (refI xs xs.length)) := by
  refine CallA.of Try.func80 rfl (by kernel_rfl) ?_
  refine R.go 15 (R.loop ((fun | (i, ys) => (⟨(frm 23 [(0, LI xs), (3, .ref 0), (4, AI (i : Int))]), [rowA eI 2 1 ys]⟩ : St) : Nat × (List Int) → St)) (fun | (i, ys) => (i ≤ xs.length) ∧ (ys.length = i) ∧ (ys = refI xs i)) (fun | (i, ys) => xs.length - i) (0, []) [0, 3, 4] none (by kernel_rfl) (by kernel_rfl) (by kernel_rfl) ⟨(by omega), (by rfl), (by rfl)⟩ ?_)
  rintro ⟨i, ys⟩ ⟨h4_1, h4_2, h4_3⟩ R1 N2
  refine R.go 8 (R.cond ((i : Int) < (xs.length : Int)) (by kernel_rfl) (fun c5 => ?_) (fun c5 => ?_))
  · refine R.go 7 (R.idx eI xs 0 i (i : Int) (by kernel_rfl) rfl eI_len (by omega) (by kernel_rfl) ?_)
    refine R.go 2 (R.call true (l01One_c (i : Int) (by omega) (by omega)) (by kernel_rfl) rfl (by kernel_rfl) ?_)
    refine R.go 2 (R.app eI ys [bor (xs.getD i 0) (shl64 1 (i : Int))] 0 2 1 8 (by kernel_rfl) eI_one (by decide) (by first | omega | (simp <;> omega)) (by kernel_rfl) ?_)
    refine R.go 5 (R.ar ((i : Int) + 1) (by kernel_rfl) (by omega) (by omega) (by kernel_rfl) ?_)
    exact R.go 2 (R.stop R1 (by kernel_rfl) (N2 (i + 1, ys ++ [bor (xs.getD i 0) (shl64 1 (i : Int))]) [0, 3, 4] (some [0]) _ (by kernel_rfl) (by kernel_rfl) ⟨(by omega), (by (simp <;> omega)), (by rw [refI, ← ‹ys = refI xs i›])⟩ (by show (xs.length - (i + 1)) < (xs.length - i); omega)))
  · exact R.go 6 (R.retE (ownA eI 2 1 ys) (by kernel_rfl) (by kernel_rfl) (by first | (rw [‹ys = refI xs i›, show xs.length = i by omega]) | (exfalso; omega)))

theorem l01Clos_c (xs : List Int) (hl : xs.length ≤ 60) : CallA Try.prog 79 [LI xs] (ownA eI 2 1 (wout xs xs.length)) := by
  refine CallA.of Try.func79 rfl (by kernel_rfl) ?_
  refine R.go 7 (R.call true (l01Own_c xs (by first | omega | (simp <;> omega))) (by kernel_rfl) rfl (by kernel_rfl) ?_)
  refine R.go 8 (R.loop ((fun | (j, out) => (⟨(frm 39 [(3, .ref 0), (4, AI (j : Int))]), [rowA eI 2 1 out]⟩ : St) : Nat × (List Int) → St)) (fun | (j, out) => (j ≤ xs.length) ∧ (out = wout xs j)) (fun | (j, out) => xs.length - j) (0, xs) [3, 4] none (by kernel_rfl) (by kernel_rfl) (by kernel_rfl) ⟨(by omega), (by rfl)⟩ ?_)
  rintro ⟨j, out⟩ ⟨h4_1, h4_2⟩ R1 N2
  have hlen : out.length = xs.length := by rw [‹out = wout xs j›]; exact wout_len xs j
  refine R.go 8 (R.cond ((j : Int) < (out.length : Int)) (by kernel_rfl) (fun c5 => ?_) (fun c5 => ?_))
  · refine R.go 8 (R.loop ((fun | (i, o2) => (⟨(frm 39 [(3, .ref 0), (4, AI (j : Int)), (5, AI (i : Int))]), [rowA eI 2 1 o2]⟩ : St) : Nat × (List Int) → St)) (fun | (i, o2) => (i ≤ xs.length) ∧ (o2 = win out j i)) (fun | (i, o2) => xs.length - i) (0, out) [3, 4, 5] none (by kernel_rfl) (by kernel_rfl) (by kernel_rfl) ⟨(by omega), (by rfl)⟩ ?_)
    rintro ⟨i, o2⟩ ⟨h9_1, h9_2⟩ R6 N7
    have hlen2 : o2.length = xs.length := by rw [‹o2 = win out j i›, win_len]; exact hlen
    refine R.go 8 (R.cond ((i : Int) < (o2.length : Int)) (by kernel_rfl) (fun c10 => ?_) (fun c10 => ?_))
    · refine R.go 7 (R.idxO 0 1 o2.length i (i : Int) (by kernel_rfl) rfl (by omega) (by kernel_rfl) ?_)
      refine R.ldI o2 i (by kernel_rfl) (by omega) (by kernel_rfl) ?_
      refine R.go 1 (R.call true (l01Bit_c (o2.getD i 0) (j : Int) (by omega) (by omega)) (by kernel_rfl) rfl (by kernel_rfl) ?_)
      refine R.go 1 (R.cond (band (shr64 (o2.getD i 0) (j : Int)) 1 = 1) (by kernel_rfl) (fun c11 => ?_) (fun c11 => ?_))
      · refine R.go 5 (R.idxO 0 1 o2.length i (i : Int) (by kernel_rfl) rfl (by omega) (by kernel_rfl) ?_)
        refine R.ldI o2 i (by kernel_rfl) (by omega) (by kernel_rfl) ?_
        refine R.go 2 (R.idxO 0 1 o2.length j (j : Int) (by kernel_rfl) rfl (by omega) (by kernel_rfl) ?_)
        refine R.ldI o2 j (by kernel_rfl) (by omega) (by kernel_rfl) ?_
        refine R.go 1 (R.idxO 0 1 o2.length i (i : Int) (by kernel_rfl) rfl (by omega) (by kernel_rfl) ?_)
        refine R.stI 0 2 o2 i (bor (o2.getD i 0) (o2.getD j 0)) (by kernel_rfl) (by omega) (by kernel_rfl) ?_
        refine R.go 4 (R.ar ((i : Int) + 1) (by kernel_rfl) (by omega) (by omega) (by kernel_rfl) ?_)
        exact R.go 2 (R.stop R6 (by kernel_rfl) (N7 (i + 1, o2.set i (bor (o2.getD i 0) (o2.getD j 0))) [3, 4, 5] none _ (by kernel_rfl) (by kernel_rfl) ⟨(by omega), (by first | (rw [win, wrow, ← ‹o2 = win out j i›, if_pos ‹band (shr64 (o2.getD i 0) (j : Int)) 1 = 1›]) | (rw [win, wrow, ← ‹o2 = win out j i›, if_neg ‹¬ band (shr64 (o2.getD i 0) (j : Int)) 1 = 1›]))⟩ (by show (xs.length - (i + 1)) < (xs.length - i); omega)))
      · refine R.go 4 (R.ar ((i : Int) + 1) (by kernel_rfl) (by omega) (by omega) (by kernel_rfl) ?_)
        exact R.go 2 (R.stop R6 (by kernel_rfl) (N7 (i + 1, o2) [3, 4, 5] none _ (by kernel_rfl) (by kernel_rfl) ⟨(by omega), (by first | (rw [win, wrow, ← ‹o2 = win out j i›, if_pos ‹band (shr64 (o2.getD i 0) (j : Int)) 1 = 1›]) | (rw [win, wrow, ← ‹o2 = win out j i›, if_neg ‹¬ band (shr64 (o2.getD i 0) (j : Int)) 1 = 1›]))⟩ (by show (xs.length - (i + 1)) < (xs.length - i); omega)))
    · refine R.go 4 (R.ar ((j : Int) + 1) (by kernel_rfl) (by omega) (by omega) (by kernel_rfl) ?_)
      exact R.go 2 (R.stop R1 (by kernel_rfl) (N2 (j + 1, o2) [3, 4] none _ (by kernel_rfl) (by kernel_rfl) ⟨(by omega), (by rw [wout, ← ‹out = wout xs j›, ← show i = xs.length by omega]; assumption)⟩ (by show (xs.length - (j + 1)) < (xs.length - j); omega)))
  · exact R.go 6 (R.retE (ownA eI 2 1 out) (by kernel_rfl) (by kernel_rfl) (by first | (rw [‹out = wout xs j›, show j = xs.length by omega]) | (exfalso; omega)))

end Go.Proofs.Ytogehjciaamcfaa
