/- AntichainsOf of both packages and its law. -/
import Derived.Test.YtkanjgmocmhlkaaW02
import Derived.Test.YtkanjgmocmhlkaaSym1
namespace Go.Proofs.Ytkanjgmocmhlkaa
open Go.RowKit Go.Abs

def rangeL (k : Nat) : List Int := (List.range k).map fun i : Nat => (i : Int)
theorem rangeL_len (k : Nat) : (rangeL k).length = k := by simp [rangeL]
theorem rangeL_succ (k : Nat) : rangeL k ++ [(k : Int)] = rangeL (k + 1) := by simp [rangeL, List.range_succ]
theorem rangeL_get {k j : Nat} (h : j < k) : (rangeL k).getD j 0 = (j : Int) := by simp [rangeL, List.getD_eq_getElem?_getD, List.getElem?_range h]
theorem sub_tab : ∀ n : Fin 9, ∀ i : Fin 256, i.val + 1 < 2 ^ n.val → band ((i.val : Int) - (shl64 1 (n.val : Int) - 1)) (shl64 1 (n.val : Int) - 1) = (i.val : Int) + 1 := by decide +kernel
theorem sub_next {n : Int} {i : Nat} (h0 : 0 ≤ n) (h8 : n ≤ 8) (h : (i : Int) + 1 < shl64 1 n) : band ((i : Int) - (shl64 1 n - 1)) (shl64 1 n - 1) = (i : Int) + 1 := by
  have e : ((n.toNat : Nat) : Int) = n := by omega
  have h2 := shl_nat (i := n.toNat) (by omega)
  rw [e] at h2
  have h3 : 2 ^ n.toNat ≤ 2 ^ 8 := Nat.pow_le_pow_right (by decide) (by omega)
  have h4 : i + 1 < 2 ^ n.toNat := by
    rw [h2] at h
    generalize 2 ^ n.toNat = q at h h3
    omega
  have := sub_tab ⟨n.toNat, by omega⟩ ⟨i, by omega⟩ h4
  simpa only [e] using this
def ANT (xs : List Int) (m : Int) (i : Nat) : Prop := tb m i = true → band (xs.getD i 0) m = shl64 1 (i : Int)
instance (xs : List Int) (m : Int) (i : Nat) : Decidable (ANT xs m i) := by unfold ANT; infer_instance
def antB (n : Int) (xs : List Int) (m : Int) : Bool := (List.range n.toNat).all fun i => decide (ANT xs m i)
theorem antB_iff {n : Int} {xs : List Int} {m : Int} : antB n xs m = true ↔ ∀ i : Nat, i < n.toNat → ANT xs m i := by simp [antB]
theorem antB_no {n : Int} {xs : List Int} {m : Int} {i : Nat} (hi : i < n.toNat) (h : tb m i = true) (h2 : ¬ band (xs.getD i 0) m = shl64 1 (i : Int)) : false = antB n xs m := by
  cases e : antB n xs m with
  | false => rfl
  | true => exact absurd (antB_iff.1 e i hi h) h2
def ANM (xs : List Int) (m : Int) (t : Nat) : Prop := band (xs.getD ((mem m).getD t 0).toNat 0) m = shl64 1 ((mem m).getD t 0)
theorem antB_mem {n : Int} {xs : List Int} {m : Int} (h8 : n ≤ 8) (hm : InM n.toNat m) (h : ∀ t : Nat, t < (mem m).length → ANM xs m t) : true = antB n xs m := by
  refine (antB_iff.2 fun i hi hb => ?_).symm
  obtain ⟨t, ht, e⟩ := List.getElem_of_mem ((mem_iff (by omega) hm).2 hb)
  have h1 := h t ht
  unfold ANM at h1
  have e2 : (mem m).getD t 0 = (i : Int) := by rw [List.getD_eq_getElem?_getD, List.getElem?_eq_getElem ht, e]; rfl
  rw [e2] at h1
  exact h1
theorem antB_nom {n : Int} {xs : List Int} {m : Int} {t : Nat} (h8 : n ≤ 8) (hm : InM n.toNat m) (ht : t < (mem m).length) (h : ¬ band (xs.getD ((mem m).getD t 0).toNat 0) m = shl64 1 ((mem m).getD t 0)) : false = antB n xs m := by
  have h1 := mem_lt' (N := n.toNat) (by omega) hm ht
  have e : (((mem m).getD t 0).toNat : Int) = (mem m).getD t 0 := by omega
  refine antB_no (i := ((mem m).getD t 0).toNat) (by omega) ((mem_iff (N := n.toNat) (by omega) hm).1 ?_) (by rw [e]; exact h)
  rw [e, List.getD_eq_getElem?_getD, List.getElem?_eq_getElem ht]
  exact List.getElem_mem _
def antTo (n : Int) (xs : List Int) : Nat → List Int
  | 0 => []
  | k + 1 => if antB n xs (k : Int) = true then antTo n xs k ++ [(k : Int)] else antTo n xs k
theorem antTo_yes {n : Int} {xs : List Int} {k : Nat} (h : antB n xs (k : Int) = true) : antTo n xs k ++ [(k : Int)] = antTo n xs (k + 1) := by rw [antTo, if_pos h]
theorem antTo_no {n : Int} {xs : List Int} {k : Nat} (h : antB n xs (k : Int) = false) : antTo n xs k = antTo n xs (k + 1) := by rw [antTo, if_neg (by rw [h]; decide)]
theorem antTo_len (n : Int) (xs : List Int) : ∀ k : Nat, (antTo n xs k).length ≤ k
  | 0 => Nat.le_refl _
  | k + 1 => by
    have := antTo_len n xs k
    rw [antTo]
    split
    · simp; omega
    · omega
theorem antTo_filter (n : Int) (xs : List Int) : ∀ k : Nat, (rangeL k).filter (antB n xs) = antTo n xs k
  | 0 => rfl
  | k + 1 => by
    rw [← rangeL_succ, List.filter_append, antTo_filter n xs k, antTo]
    split
    · rename_i h; simp [h]
    · rename_i h; simp [h]
def QA (n : Int) (xs : List Int) (m : Int) : Bool := !antB n xs m
theorem fidx_none {p q : Int → Bool} (hq : ∀ x, p x = !q x) : ∀ {a : List Int} {i : Int}, 0 ≤ i → fidxI p a i = -1 → a.filter q = a
  | [], _, _, _ => rfl
  | x :: a, i, h0, h => by
    rw [fidxI] at h
    split at h
    · omega
    · rename_i hp
      have : q x = true := by have := hq x; cases e : q x <;> simp_all
      rw [List.filter_cons, if_pos this, fidx_none hq (by omega) h]
theorem fidx_some {p q : Int → Bool} (hq : ∀ x, p x = !q x) : ∀ {a : List Int} {i k : Int}, fidxI p a i = k → ¬ k = -1 → 0 ≤ i → i ≤ k ∧ (k - i).toNat < a.length ∧ (a.take (k - i + 1).toNat).filter q = a.take (k - i).toNat
  | [], i, k, h, hk, h0 => by rw [fidxI] at h; omega
  | x :: a, i, k, h, hk, h0 => by
    rw [fidxI] at h
    split at h
    · rename_i hp
      subst h
      have : q x = false := by have := hq x; cases e : q x <;> simp_all
      refine ⟨Int.le_refl _, by simp, ?_⟩
      rw [show (i - i + 1).toNat = 1 by omega, show (i - i).toNat = 0 by omega]
      simp [this]
    · rename_i hp
      have hqx : q x = true := by have := hq x; cases e : q x <;> simp_all
      obtain ⟨h1, h2, h3⟩ := fidx_some hq h hk (by omega)
      refine ⟨by omega, by simp; omega, ?_⟩
      rw [show (k - i + 1).toNat = (k - (i + 1) + 1).toNat + 1 by omega, show (k - i).toNat = (k - (i + 1)).toNat + 1 by omega, List.take_succ_cons, List.take_succ_cons, List.filter_cons, if_pos hqx, h3]
theorem fidx_start {p q : Int → Bool} (hq : ∀ x, p x = !q x) {a : List Int} (h : ¬ fidxI p a 0 = -1) : 0 ≤ fidxI p a 0 ∧ (fidxI p a 0).toNat < a.length ∧ a.take (fidxI p a 0).toNat = (a.take (fidxI p a 0 + 1).toNat).filter q := by
  obtain ⟨h1, h2, h3⟩ := fidx_some hq (k := fidxI p a 0) rfl h (Int.le_refl 0)
  refine ⟨h1, by simpa using h2, ?_⟩
  have h4 := h3.symm
  simpa using h4
theorem del_keep {q : Int → Bool} {a r : List Int} {i j : Nat} (hl : r.length = a.length) (hi : i ≤ j) (hj : j < a.length) (h1 : r.take i = (a.take j).filter q) (h2 : r.drop j = a.drop j) (hq : q (r.getD j 0) = true) :
    (r.set i (r.getD j 0)).take (i + 1) = (a.take (j + 1)).filter q ∧ (r.set i (r.getD j 0)).drop (j + 1) = a.drop (j + 1) ∧ (r.set i (r.getD j 0)).length = a.length := by
  have e : r.getD j 0 = a.getD j 0 := by
    have := congrArg (fun l : List Int => l.getD 0 0) h2
    simpa [List.getD_eq_getElem?_getD, List.getElem?_drop] using this
  refine ⟨?_, ?_, by rw [List.length_set, hl]⟩
  · rw [List.take_succ_eq_append_getElem (by rw [List.length_set]; omega), List.take_set_of_le (Nat.le_refl _), h1, List.getElem_set_self, List.take_succ_eq_append_getElem hj, List.filter_append]
    have e2 : a[j] = r.getD j 0 := by rw [e, List.getD_eq_getElem?_getD, List.getElem?_eq_getElem hj]; rfl
    have e3 : List.filter q [r.getD j 0] = [r.getD j 0] := by rw [List.filter_cons, if_pos hq]; rfl
    rw [e2, e3]
  · rw [List.drop_set_of_lt (by omega)]
    have := congrArg (fun l : List Int => l.drop 1) h2
    simpa [List.drop_drop] using this
theorem del_skip {q : Int → Bool} {a r : List Int} {i j : Nat} (hl : r.length = a.length) (hj : j < a.length) (h1 : r.take i = (a.take j).filter q) (h2 : r.drop j = a.drop j) (hq : q (r.getD j 0) = false) :
    r.take i = (a.take (j + 1)).filter q ∧ r.drop (j + 1) = a.drop (j + 1) := by
  have e : r.getD j 0 = a.getD j 0 := by
    have := congrArg (fun l : List Int => l.getD 0 0) h2
    simpa [List.getD_eq_getElem?_getD, List.getElem?_drop] using this
  refine ⟨?_, ?_⟩
  · rw [h1, List.take_succ_eq_append_getElem hj, List.filter_append]
    have e2 : a[j] = r.getD j 0 := by rw [e, List.getD_eq_getElem?_getD, List.getElem?_eq_getElem hj]; rfl
    have e3 : List.filter q [r.getD j 0] = [] := by rw [List.filter_cons, if_neg (by rw [hq]; decide)]; rfl
    rw [e2, e3, List.append_nil]
  · have := congrArg (fun l : List Int => l.drop 1) h2
    simpa [List.drop_drop] using this
def anL (n : Int) (xs : List Int) : List Int := antTo n xs (shl64 1 n).toNat
def anR (n : Int) (xs : List Int) : List Int := if okPo n xs = true then anL n xs else []
theorem an_bad {s : Nat} {n : Int} {xs : List Int} (h : okPo n xs = false) : AV.tup [ownA eI s 1 [], AI 1] = AV.tup [ownA eI s 1 (anR n xs), AI (poC n xs)] := by simp [anR, poC, h]
theorem an_ok {s : Nat} {n : Int} {xs L : List Int} (h : okPo n xs = true) (hL : L = anL n xs) : AV.tup [ownA eI s 1 L, AI 0] = AV.tup [ownA eI s 1 (anR n xs), AI (poC n xs)] := by rw [anR, poC, if_pos h, if_pos h, hL]
theorem anR_len (n : Int) (xs : List Int) : (anR n xs).length ≤ 256 := by
  unfold anR
  split
  · rename_i h
    have hF := okFr_rel (okPo_fr h)
    have := antTo_len n xs (shl64 1 n).toNat
    have := shl_8 hF.1 hF.2.1
    unfold anL
    omega
  · simp
theorem an_cut {a r : List Int} {n : Int} {xs : List Int} {ii jj : Int} (hl : r.length = a.length) (hi : 0 ≤ ii) (hij : ii < jj) (hj : jj ≤ a.length) (hjl : ¬ jj < (r.length : Int)) (h : r.take ii.toNat = (a.take jj.toNat).filter (antB n xs)) (ha : a = rangeL (shl64 1 n).toNat) :
    (r.take ii.toNat ++ List.replicate (r.length - ii.toNat) 0).take ii.toNat = anL n xs := by
  rw [List.take_append_of_le_length (by rw [List.length_take]; omega), List.take_take, Nat.min_self, h, List.take_of_length_le (by omega), ha, antTo_filter]
  rfl

theorem isAntichain_c (n : Int) (xs : List Int) (m : Int) (hR : okFr n xs = true) (hm : InM n.toNat m) : CallA Try.prog 51 [.agg [AI n, LI xs], AI m] (.bool (antB n xs m)) := by
  have hF := okFr_rel hR
  have hRel : RelOK n.toNat xs := hF.2.2.2
  have hb0 : 0 ≤ n ∧ n ≤ 8 ∧ (xs.length : Int) = n := ⟨hF.1, hF.2.1, hF.2.2.1⟩
  have hN8 : n.toNat ≤ 8 := by omega
  have hm61 := inM_mono (n' := 61) (by omega) hm
  have hml := mem_le m
  refine CallA.of Try.func51 rfl (by kernel_rfl) ?_
  refine R.go 9 (R.call true (membersOf_c m (by first | assumption | exact inM61 (by omega) (by omega))).frz (by kernel_rfl) rfl (by kernel_rfl) ?_)
  refine R.go 4 (R.loop (fun (t : Nat) => (⟨(frm 25 [(1, AI m), (2, .ptr 0 0), (8, LI (mem m)), (9, AI ((mem m).length)), (10, AI (t : Int))]), [.box 26 [AI n, LI xs]]⟩ : St)) (fun (t : Nat) => (t ≤ (mem m).length) ∧ (∀ s : Nat, s < t → ANM xs m s)) (fun (t : Nat) => (mem m).length - t) 0 [1, 2, 8, 9, 10] none (by kernel_rfl) (by kernel_rfl) (by kernel_rfl) ⟨(by omega), (by exact fun i hi => absurd hi (by omega))⟩ ?_)
  rintro t ⟨h3_1, h3_2⟩ R1 N2
  have hjr := fun h : t < (mem m).length => mem_lt' (N := n.toNat) (by omega) hm h
  refine R.go 5 (R.cond ((t : Int) < ((mem m).length : Int)) (by kernel_rfl) (fun c4 => ?_) (fun c4 => ?_))
  · have hj2 := hjr (by omega)
    refine R.go 5 (R.idx eI (mem m) 0 t (t : Int) (by kernel_rfl) rfl eI_len (by omega) (by kernel_rfl) ?_)
    refine R.go 8 (R.idx eI xs 0 ((((mem m).getD t 0)).toNat) ((mem m).getD t 0) (by kernel_rfl) (by omega) eI_len (by omega) (by kernel_rfl) ?_)
    refine R.go 4 (R.shl 1 ((mem m).getD t 0) (by kernel_rfl) (by omega) (by kernel_rfl) ?_)
    refine R.go 2 (R.condN ((band (xs.getD ((((mem m).getD t 0)).toNat) 0) m) = (shl64 1 ((mem m).getD t 0))) (by kernel_rfl) (fun c5 => ?_) (fun c5 => ?_))
    · exact R.go 4 (R.retE (.bool false) (by kernel_rfl) (by kernel_rfl) (by first | (apply congrArg AV.bool; first | exact antB_nom hb0.2.1 hm (t := t) (by omega) (by assumption) | exact antB_mem hb0.2.1 hm fun s hs => (‹∀ s : Nat, s < t → ANM xs m s›) s (by omega)) | (exfalso; omega)))
    · refine R.go 3 (R.ar ((t : Int) + 1) (by kernel_rfl) (by omega) (by omega) (by kernel_rfl) ?_)
      exact R.go 2 (R.stop R1 (by kernel_rfl) (N2 (t + 1) [1, 2, 8, 9, 10] none _ (by kernel_rfl) (by kernel_rfl) ⟨(by omega), (by exact below1 (P := ANM xs m) (by assumption) (show band _ _ = _ by assumption))⟩ (by show ((mem m).length - (t + 1)) < ((mem m).length - t); omega)))
  · exact R.go 5 (R.retE (.bool true) (by kernel_rfl) (by kernel_rfl) (by first | (apply congrArg AV.bool; first | exact antB_nom hb0.2.1 hm (t := t) (by omega) (by assumption) | exact antB_mem hb0.2.1 hm fun s hs => (‹∀ s : Nat, s < t → ANM xs m s›) s (by omega)) | (exfalso; omega)))

theorem l16Antichain_c (n : Int) (xs : List Int) (m : Int) (hR : okFr n xs = true) (hm : InM n.toNat m) : CallA Try.prog 47 [.agg [AI n, LI xs], AI m] (.bool (antB n xs m)) := by
  have hF := okFr_rel hR
  have hRel : RelOK n.toNat xs := hF.2.2.2
  have hb0 : 0 ≤ n ∧ n ≤ 8 ∧ (xs.length : Int) = n := ⟨hF.1, hF.2.1, hF.2.2.1⟩
  have hN8 : n.toNat ≤ 8 := by omega
  refine CallA.of Try.func47 rfl (by kernel_rfl) ?_
  refine R.go 11 (R.loop (fun (x : Nat) => (⟨(frm 27 [(1, AI m), (2, .ptr 0 0), (5, AI (x : Int))]), [.box 26 [AI n, LI xs]]⟩ : St)) (fun (x : Nat) => (x ≤ n.toNat) ∧ (∀ i : Nat, i < x → ANT xs m i)) (fun (x : Nat) => n.toNat - x) 0 [1, 2, 5] none (by kernel_rfl) (by kernel_rfl) (by kernel_rfl) ⟨(by omega), (by exact fun i hi => absurd hi (by omega))⟩ ?_)
  rintro x ⟨h3_1, h3_2⟩ R1 N2
  refine R.go 8 (R.cond ((x : Int) < n) (by kernel_rfl) (fun c4 => ?_) (fun c4 => ?_))
  · refine R.go 7 (R.call true (l01Bit_c m (x : Int) (by omega) (by omega)) (by kernel_rfl) rfl (by kernel_rfl) ?_)
    refine R.go 1 ?_
    by_cases c5 : band (shr64 m (x : Int)) 1 = 1
    · refine R.want (decide (band (shr64 m (x : Int)) 1 = 1)) true (by kernel_rfl) (dT c5) ?_
      refine R.go 1 (R.want (decide (band (shr64 m (x : Int)) 1 = 1)) true (by kernel_rfl) (dT c5) ?_)
      refine R.go 1 (R.want (decide (band (shr64 m (x : Int)) 1 = 1)) true (by kernel_rfl) (dT c5) ?_)
      refine R.go 1 (R.want (decide (band (shr64 m (x : Int)) 1 = 1)) true (by kernel_rfl) (dT c5) ?_)
      refine R.idx eI xs 0 x (x : Int) (by kernel_rfl) rfl eI_len (by omega) (by kernel_rfl) ?_
      refine R.want (decide (band (shr64 m (x : Int)) 1 = 1)) true (by kernel_rfl) (dT c5) ?_
      refine R.go 1 (R.want (decide (band (shr64 m (x : Int)) 1 = 1)) true (by kernel_rfl) (dT c5) ?_)
      refine R.go 1 (R.want (decide (band (shr64 m (x : Int)) 1 = 1)) true (by kernel_rfl) (dT c5) ?_)
      refine R.go 1 (R.want (decide (band (shr64 m (x : Int)) 1 = 1)) true (by kernel_rfl) (dT c5) ?_)
      refine R.go 1 (R.want (decide (band (shr64 m (x : Int)) 1 = 1)) true (by kernel_rfl) (dT c5) ?_)
      refine R.call true (l01One_c (x : Int) (by omega) (by omega)) (by kernel_rfl) rfl (by kernel_rfl) ?_
      refine R.want (decide (band (shr64 m (x : Int)) 1 = 1)) true (by kernel_rfl) (dT c5) ?_
      refine R.go 1 (R.pick (decide (band (shr64 m (x : Int)) 1 = 1)) true (by kernel_rfl) (dT c5) (by kernel_rfl) ?_)
      refine R.go 1 (R.condN ((band (xs.getD x 0) m) = (shl64 1 (x : Int))) (by kernel_rfl) (fun c6 => ?_) (fun c6 => ?_))
      · exact R.go 4 (R.retE (.bool false) (by kernel_rfl) (by kernel_rfl) (by first | (apply congrArg AV.bool; first | exact antB_no (i := x) (by omega) ((has_tb (n := n.toNat) (by omega) hm (by omega)).1 (by assumption)) (by assumption) | exact (antB_iff.2 fun i hi => (‹∀ i : Nat, i < x → ANT xs m i›) i (by omega)).symm) | (exfalso; omega)))
      · refine R.go 4 (R.ar ((x : Int) + 1) (by kernel_rfl) (by omega) (by omega) (by kernel_rfl) ?_)
        exact R.go 2 (R.stop R1 (by kernel_rfl) (N2 (x + 1) [1, 2, 5] none _ (by kernel_rfl) (by kernel_rfl) ⟨(by omega), (by exact below1 (P := ANT xs m) (by assumption) (by unfold ANT; intro e; first | assumption | exact absurd ((has_tb (n := n.toNat) (by omega) hm (by omega)).2 e) (by assumption)))⟩ (by show (n.toNat - (x + 1)) < (n.toNat - x); omega)))
    · refine R.skp (decide (band (shr64 m (x : Int)) 1 = 1)) true (by kernel_rfl) (dF c5) (by kernel_rfl) ?_
      refine R.skp (decide (band (shr64 m (x : Int)) 1 = 1)) true (by kernel_rfl) (dF c5) (by kernel_rfl) ?_
      refine R.skp (decide (band (shr64 m (x : Int)) 1 = 1)) true (by kernel_rfl) (dF c5) (by kernel_rfl) ?_
      refine R.skp (decide (band (shr64 m (x : Int)) 1 = 1)) true (by kernel_rfl) (dF c5) (by kernel_rfl) ?_
      refine R.skp (decide (band (shr64 m (x : Int)) 1 = 1)) true (by kernel_rfl) (dF c5) (by kernel_rfl) ?_
      refine R.skp (decide (band (shr64 m (x : Int)) 1 = 1)) true (by kernel_rfl) (dF c5) (by kernel_rfl) ?_
      refine R.skp (decide (band (shr64 m (x : Int)) 1 = 1)) true (by kernel_rfl) (dF c5) (by kernel_rfl) ?_
      refine R.skp (decide (band (shr64 m (x : Int)) 1 = 1)) true (by kernel_rfl) (dF c5) (by kernel_rfl) ?_
      refine R.skp (decide (band (shr64 m (x : Int)) 1 = 1)) true (by kernel_rfl) (dF c5) (by kernel_rfl) ?_
      refine R.skp (decide (band (shr64 m (x : Int)) 1 = 1)) true (by kernel_rfl) (dF c5) (by kernel_rfl) ?_
      refine R.pick (decide (band (shr64 m (x : Int)) 1 = 1)) false (by kernel_rfl) (dF c5) (by kernel_rfl) ?_
      refine R.go 6 (R.ar ((x : Int) + 1) (by kernel_rfl) (by omega) (by omega) (by kernel_rfl) ?_)
      exact R.go 2 (R.stop R1 (by kernel_rfl) (N2 (x + 1) [1, 2, 5] none _ (by kernel_rfl) (by kernel_rfl) ⟨(by omega), (by exact below1 (P := ANT xs m) (by assumption) (by unfold ANT; intro e; first | assumption | exact absurd ((has_tb (n := n.toNat) (by omega) hm (by omega)).2 e) (by assumption)))⟩ (by show (n.toNat - (x + 1)) < (n.toNat - x); omega)))
  · exact R.go 5 (R.retE (.bool true) (by kernel_rfl) (by kernel_rfl) (by first | (apply congrArg AV.bool; first | exact antB_no (i := x) (by omega) ((has_tb (n := n.toNat) (by omega) hm (by omega)).1 (by assumption)) (by assumption) | exact (antB_iff.2 fun i hi => (‹∀ i : Nat, i < x → ANT xs m i›) i (by omega)).symm) | (exfalso; omega)))

theorem subMasks_c (n : Int) (h0 : 0 ≤ n) (h8 : n ≤ 8) : CallA Try.prog 49 [AI ((shl64 1 n) - 1)] (ownA eI 2 1 (rangeL (shl64 1 n).toNat)) := by
  have hs8 := shl_8 h0 h8
  have hs1 := shl_rng n h0 (by omega)
  refine CallA.of Try.func49 rfl (by kernel_rfl) ?_
  refine R.go 15 (R.loop ((fun | (i, sb, out) => (⟨(frm 19 [(0, AI ((shl64 1 n) - 1)), (3, .ref 0), (4, AI sb)]), [rowA eI 2 1 out]⟩ : St) : Nat × Int × (List Int) → St)) (fun | (i, sb, out) => ((i : Int) + 1 ≤ shl64 1 n) ∧ (sb = (i : Int)) ∧ (out = rangeL (i + 1))) (fun | (i, sb, out) => (shl64 1 n).toNat - i) (0, 0, [0]) [0, 3, 4] none (by kernel_rfl) (by kernel_rfl) (by kernel_rfl) ⟨(by omega), (by rfl), (by rfl)⟩ ?_)
  rintro ⟨i, sb, out⟩ ⟨h4_1, rfl, rfl⟩ R1 N2
  have hol := rangeL_len (i + 1)
  have hnx := fun h : (i : Int) + 1 < shl64 1 n => sub_next h0 h8 h
  refine R.go 7 (R.condN ((i : Int) = ((shl64 1 n) - 1)) (by kernel_rfl) (fun c5 => ?_) (fun c5 => ?_))
  · refine R.go 6 (R.ar ((i : Int) - ((shl64 1 n) - 1)) (by kernel_rfl) (by omega) (by omega) (by kernel_rfl) ?_)
    refine R.go 8 (R.app eI (rangeL (i + 1)) [band ((i : Int) - ((shl64 1 n) - 1)) ((shl64 1 n) - 1)] 0 2 1 8 (by kernel_rfl) eI_one (by decide) (by first | omega | (simp <;> omega)) (by kernel_rfl) ?_)
    exact R.go 3 (R.stop R1 (by kernel_rfl) (N2 ((i + 1), band ((i : Int) - ((shl64 1 n) - 1)) ((shl64 1 n) - 1), (rangeL (i + 1)) ++ [band ((i : Int) - ((shl64 1 n) - 1)) ((shl64 1 n) - 1)]) [0, 3, 4] (some [0]) _ (by kernel_rfl) (by kernel_rfl) ⟨(by omega), (by rw [sub_next h0 h8 (by omega)]; rfl), (by rw [sub_next h0 h8 (by omega)]; exact rangeL_succ (i + 1))⟩ (by show ((shl64 1 n).toNat - (i + 1)) < ((shl64 1 n).toNat - i); omega)))
  · exact R.go 6 (R.retE (ownA eI 2 1 (rangeL (i + 1))) (by kernel_rfl) (by kernel_rfl) (by first | (rw [show i + 1 = (shl64 1 n).toNat by omega]) | (exfalso; omega)))

theorem anti1_c (m : Int) (n : Int) (xs : List Int) (hR : okFr n xs = true) (hm : InM n.toNat m) : CallA Try.prog 50 [AI m, .rptr [AI n, LI xs]] (.bool (QA n xs m)) := by
  refine CallA.of Try.func50 rfl (by kernel_rfl) ?_
  refine R.go 8 (R.call true (isAntichain_c n xs m hR hm) (by kernel_rfl) rfl (by kernel_rfl) ?_)
  exact R.go 3 (R.retE (.bool (!(antB n xs m))) (by kernel_rfl) (by kernel_rfl) (by first | (rfl) | (exfalso; omega)))

theorem indexA_c (a : List Int) (n : Int) (xs : List Int) (hl : a.length ≤ 1000000000) (hR : okFr n xs = true) (ha : ∀ j : Nat, j < a.length → InM n.toNat (a.getD j 0)) : CallA Try.prog 88 [LI a, .fn 50 [.rptr [AI n, LI xs]]] (AI (fidxI (QA n xs) a 0)) := by
  refine CallA.of Try.func88 rfl (by kernel_rfl) ?_
  refine R.go 12 (R.loop (fun (i : Nat) => (⟨(frm 19 [(0, LI a), (1, .fn 50 [.rptr [AI n, LI xs]]), (7, AI a.length), (8, AI (i : Int))]), []⟩ : St)) (fun (i : Nat) => (i ≤ a.length) ∧ (fidxI (QA n xs) a 0 = fidxI (QA n xs) (a.drop i) i)) (fun (i : Nat) => a.length - i) 0 [0, 1, 7, 8] none (by kernel_rfl) (by kernel_rfl) (by kernel_rfl) ⟨(by omega), (by rfl)⟩ ?_)
  rintro i ⟨h3_1, h3_2⟩ R1 N2
  have hai := ha i
  refine R.go 5 (R.cond ((i : Int) < (a.length : Int)) (by kernel_rfl) (fun c4 => ?_) (fun c4 => ?_))
  · have haj := hai (by omega)
    refine R.go 13 (R.idx eI a 0 i (i : Int) (by kernel_rfl) rfl eI_len (by omega) (by kernel_rfl) ?_)
    refine R.go 1 (R.call true (anti1_c (a.getD i 0) n xs hR (by assumption)) (by kernel_rfl) rfl (by kernel_rfl) ?_)
    refine R.go 1 (R.condB (QA n xs (a.getD i 0)) (by kernel_rfl) (fun c5 => ?_) (fun c5 => ?_))
    · exact R.go 5 (R.retE (AI (i : Int)) (by kernel_rfl) (by kernel_rfl) (by first | (apply congrArg AI; rw [‹fidxI _ a 0 = _›]; first | exact (fidxI_end (by omega)).symm | exact (fidxI_hit (by omega) (by assumption)).symm) | (exfalso; omega)))
    · refine R.go 3 (R.ar ((i : Int) + 1) (by kernel_rfl) (by omega) (by omega) (by kernel_rfl) ?_)
      exact R.go 2 (R.stop R1 (by kernel_rfl) (N2 (i + 1) [0, 1, 7, 8] none _ (by kernel_rfl) (by kernel_rfl) ⟨(by omega), (by rw [‹fidxI _ a 0 = _›]; exact fidxI_miss (by omega) (by assumption))⟩ (by show (a.length - (i + 1)) < (a.length - i); omega)))
  · exact R.go 5 (R.retE (AI (-1)) (by kernel_rfl) (by kernel_rfl) (by first | (apply congrArg AI; rw [‹fidxI _ a 0 = _›]; first | exact (fidxI_end (by omega)).symm | exact (fidxI_hit (by omega) (by assumption)).symm) | (exfalso; omega)))

theorem subMasksG_c (n : Int) (a : List Int) (h0 : 0 ≤ n) (h8 : n ≤ 8) (ha : a = rangeL (shl64 1 n).toNat) : CallA Try.prog 49 [AI ((shl64 1 n) - 1)] (ownA eI 2 1 a) := by rw [ha]; exact subMasks_c n h0 h8

theorem AN_impl (n : Int) (xs : List Int) (lx : xs.length ≤ 1048576) : CallA Try.prog 18 [.agg [AI n, LI xs]] (.tup [ownA eI 2 1 (anR n xs), AI (poC n xs)]) := by
  refine CallA.of Try.func18 rfl (by kernel_rfl) ?_
  refine R.go 10 (R.call true (isPoset_c n xs (by first | omega | (simp <;> omega))) (by kernel_rfl) rfl (by kernel_rfl) ?_)
  refine R.go 2 (R.condM (okPo n xs) (by kernel_rfl) (fun c1 => ?_) (fun c1 => ?_))
  · refine R.go 5 (R.nil 2 2 1 (by kernel_rfl) ?_)
    exact R.retE (.tup [ownA eI 2 1 [], AI 1]) (by kernel_rfl) (by kernel_rfl) (by first | (first | exact an_bad (by assumption) | exact an_ok (by assumption) (by rw [anL, ← antTo_filter, ← haE]; exact (fidx_none hqn (Int.le_refl 0) (by assumption)).symm) | exact an_ok (by assumption) (an_cut (jj := jj) (by assumption) (by omega) (by omega) (by omega) (by omega) (by assumption) haE)) | (exfalso; omega))
  · have hR : okFr n xs = true := okPo_fr (by assumption)
    have hF := okFr_rel hR
    have hRel : RelOK n.toNat xs := hF.2.2.2
    have hb0 : 0 ≤ n ∧ n ≤ 8 ∧ (xs.length : Int) = n := ⟨hF.1, hF.2.1, hF.2.2.1⟩
    have hN8 : n.toNat ≤ 8 := by omega
    have hs8 := shl_8 hb0.1 hb0.2.1
    have hs1 := shl_rng n hb0.1 (by omega)
    obtain ⟨a, haE⟩ : ∃ a, a = rangeL (shl64 1 n).toNat := ⟨_, rfl⟩
    have hal : a.length = (shl64 1 n).toNat := by rw [haE]; exact rangeL_len _
    have haM : ∀ j : Nat, j < a.length → InM n.toNat (a.getD j 0) := fun j hj => by rw [haE, rangeL_get (by omega)]; exact nat_inM hb0.1 hb0.2.1 (by omega)
    have hqn : ∀ x, QA n xs x = !antB n xs x := fun _ => rfl
    have hst := fun h : ¬ fidxI (QA n xs) a 0 = -1 => fidx_start hqn h
    refine R.go 4 (R.call true (pAll_c n xs (by omega) (by omega)) (by kernel_rfl) rfl (by kernel_rfl) ?_)
    refine R.call true (subMasksG_c n a (by omega) (by omega) (by assumption)) (by kernel_rfl) rfl (by kernel_rfl) ?_
    refine R.go 1 (R.enter (avs := [.ref 1, .fn 50 [.ptr 0 0]]) Try.func48 rfl (by kernel_rfl) (by kernel_rfl) (by kernel_rfl) ?_)
    intro us2
    refine R.go 8 (R.call false (indexA_c a n xs (by first | omega | (simp <;> omega)) hR haM) (by kernel_rfl) rfl (by kernel_rfl) ?_)
    refine R.go 8 (R.cond ((fidxI (QA n xs) a 0) = (-1)) (by kernel_rfl) (fun c3 => ?_) (fun c3 => ?_))
    · refine R.go 5 (R.back (.ref 1) (frm 12 [(0, .agg [AI n, LI xs]), (1, .ptr 0 0), (2, .nil), (3, AI 0), (4, .agg [AI n, LI xs]), (5, .bool (okPo n xs)), (6, .bool (!(okPo n xs))), (7, .agg [AI n, LI xs]), (8, AI ((shl64 1 n) - 1)), (9, .ref 1), (10, .fn 50 [.ptr 0 0])]) (by kernel_rfl) (by kernel_rfl) (by kernel_rfl) ?_)
      exact R.go 3 (R.retE (.tup [ownA eI 2 1 a, AI 0]) (by kernel_rfl) (by kernel_rfl) (by first | (first | exact an_bad (by assumption) | exact an_ok (by assumption) (by rw [anL, ← antTo_filter, ← haE]; exact (fidx_none hqn (Int.le_refl 0) (by assumption)).symm) | exact an_ok (by assumption) (an_cut (jj := jj) (by assumption) (by omega) (by omega) (by omega) (by omega) (by assumption) haE)) | (exfalso; omega)))
    · have hs2 := hst (by assumption)
      refine R.go 5 (R.ar ((fidxI (QA n xs) a 0) + 1) (by kernel_rfl) (by omega) (by omega) (by kernel_rfl) ?_)
      refine R.go 3 (R.loop ((fun | (jj, ii, r) => (⟨(frm 42 [(0, .ref 1), (1, .fn 50 [.ptr 0 0]), (5, AI ii), (6, AI jj)]), [.box 26 [AI n, LI xs], rowA eI 2 1 r, .frame us2 (frm 12 [(0, .agg [AI n, LI xs]), (1, .ptr 0 0), (2, .nil), (3, AI 0), (4, .agg [AI n, LI xs]), (5, .bool (okPo n xs)), (6, .bool (!(okPo n xs))), (7, .agg [AI n, LI xs]), (8, AI ((shl64 1 n) - 1)), (9, .ref 1), (10, .fn 50 [.ptr 0 0])])]⟩ : St) : Int × Int × (List Int) → St)) (fun | (jj, ii, r) => (0 ≤ ii) ∧ (ii < jj) ∧ (jj ≤ a.length) ∧ (r.length = a.length) ∧ (r.take ii.toNat = (a.take jj.toNat).filter (antB n xs)) ∧ (r.drop jj.toNat = a.drop jj.toNat)) (fun | (jj, ii, r) => (a.length - jj).toNat) (((fidxI (QA n xs) a 0) + 1), (fidxI (QA n xs) a 0), a) [0, 1, 5, 6] none (by kernel_rfl) (by kernel_rfl) (by kernel_rfl) ⟨(by omega), (by omega), (by omega), (by rfl), (by exact hs2.2.2), (by rfl)⟩ ?_)
      rintro ⟨jj, ii, r⟩ ⟨h7_1, h7_2, h7_3, h7_4, h7_5, h7_6⟩ R4 N5
      have hjm : jj < a.length → InM n.toNat (r.getD jj.toNat 0) := fun hj => by
        have h2 := congrArg (fun l : List Int => l.getD 0 0) (by assumption : r.drop jj.toNat = a.drop jj.toNat)
        have h3 : r.getD jj.toNat 0 = a.getD jj.toNat 0 := by simpa [List.getD_eq_getElem?_getD, List.getElem?_drop] using h2
        rw [h3]; exact haM _ (by omega)
      have hjk := fun (hj : jj < a.length) (hq : antB n xs (r.getD jj.toNat 0) = true) => del_keep (q := antB n xs) (by assumption : r.length = a.length) (i := ii.toNat) (j := jj.toNat) (by omega) (by omega) (by assumption) (by assumption) hq
      have hjs := fun (hj : jj < a.length) (hq : antB n xs (r.getD jj.toNat 0) = false) => del_skip (q := antB n xs) (by assumption : r.length = a.length) (i := ii.toNat) (j := jj.toNat) (by omega) (by assumption) (by assumption) hq
      refine R.go 8 (R.cond (jj < (r.length : Int)) (by kernel_rfl) (fun c8 => ?_) (fun c8 => ?_))
      · refine R.go 7 (R.idxO 1 1 r.length ((jj).toNat) jj (by kernel_rfl) (by omega) (by omega) (by kernel_rfl) ?_)
        refine R.ldI r ((jj).toNat) (by kernel_rfl) (by omega) (by kernel_rfl) ?_
        have hjM := hjm (by omega)
        refine R.go 6 (R.call false (anti1_c (r.getD ((jj).toNat) 0) n xs hR (by assumption)) (by kernel_rfl) rfl (by kernel_rfl) ?_)
        refine R.go 2 (R.condM (QA n xs (r.getD ((jj).toNat) 0)) (by kernel_rfl) (fun c9 => ?_) (fun c9 => ?_))
        · refine R.go 5 (R.idxO 1 1 r.length ((ii).toNat) ii (by kernel_rfl) (by omega) (by omega) (by kernel_rfl) ?_)
          refine R.stI 1 2 r ((ii).toNat) (r.getD ((jj).toNat) 0) (by kernel_rfl) (by omega) (by kernel_rfl) ?_
          refine R.go 3 (R.ar (ii + 1) (by kernel_rfl) (by omega) (by omega) (by kernel_rfl) ?_)
          refine R.go 5 (R.ar (jj + 1) (by kernel_rfl) (by omega) (by omega) (by kernel_rfl) ?_)
          exact R.go 2 (R.stop R4 (by kernel_rfl) (N5 (jj + 1, ii + 1, r.set ((ii).toNat) (r.getD ((jj).toNat) 0)) [0, 1, 5, 6] none _ (by kernel_rfl) (by kernel_rfl) ⟨(by omega), (by omega), (by omega), (by first | assumption | exact (hjk (by omega) (by simpa [QA] using (by assumption : QA n xs (r.getD jj.toNat 0) = false))).2.2), (by first | (rw [show (ii + 1).toNat = ii.toNat + 1 by omega, show (jj + 1).toNat = jj.toNat + 1 by omega]; exact (hjk (by omega) (by simpa [QA] using (by assumption : QA n xs (r.getD jj.toNat 0) = false))).1) | (rw [show (jj + 1).toNat = jj.toNat + 1 by omega]; exact (hjs (by omega) (by simpa [QA] using (by assumption : QA n xs (r.getD jj.toNat 0) = true))).1)), (by rw [show (jj + 1).toNat = jj.toNat + 1 by omega]; first | exact (hjk (by omega) (by simpa [QA] using (by assumption : QA n xs (r.getD jj.toNat 0) = false))).2.1 | exact (hjs (by omega) (by simpa [QA] using (by assumption : QA n xs (r.getD jj.toNat 0) = true))).2)⟩ (by show ((a.length - (jj + 1)).toNat) < ((a.length - jj).toNat); omega)))
        · refine R.go 4 (R.ar (jj + 1) (by kernel_rfl) (by omega) (by omega) (by kernel_rfl) ?_)
          exact R.go 2 (R.stop R4 (by kernel_rfl) (N5 (jj + 1, ii, r) [0, 1, 5, 6] none _ (by kernel_rfl) (by kernel_rfl) ⟨(by omega), (by omega), (by omega), (by first | assumption | exact (hjk (by omega) (by simpa [QA] using (by assumption : QA n xs (r.getD jj.toNat 0) = false))).2.2), (by first | (rw [show (ii + 1).toNat = ii.toNat + 1 by omega, show (jj + 1).toNat = jj.toNat + 1 by omega]; exact (hjk (by omega) (by simpa [QA] using (by assumption : QA n xs (r.getD jj.toNat 0) = false))).1) | (rw [show (jj + 1).toNat = jj.toNat + 1 by omega]; exact (hjs (by omega) (by simpa [QA] using (by assumption : QA n xs (r.getD jj.toNat 0) = true))).1)), (by rw [show (jj + 1).toNat = jj.toNat + 1 by omega]; first | exact (hjk (by omega) (by simpa [QA] using (by assumption : QA n xs (r.getD jj.toNat 0) = false))).2.1 | exact (hjs (by omega) (by simpa [QA] using (by assumption : QA n xs (r.getD jj.toNat 0) = true))).2)⟩ (by show ((a.length - (jj + 1)).toNat) < ((a.length - jj).toNat); omega)))
      · refine R.go 5 (R.clr eI 0 r 1 2 ((ii).toNat) ii (by kernel_rfl) (by omega) (fun _ => rfl) (fun _ => rfl) (fun _ => rfl) (by omega) ?_)
        refine R.go 5 (R.cut eI (r.take ((ii).toNat) ++ List.replicate (r.length - (ii).toNat) 0) 1 2 ((ii).toNat) ii (by kernel_rfl) (by omega) eI_len (by first | omega | (simp <;> omega)) (by kernel_rfl) ?_)
        refine R.go 2 (R.back (.ref 1) (frm 12 [(0, .agg [AI n, LI xs]), (1, .ptr 0 0), (2, .nil), (3, AI 0), (4, .agg [AI n, LI xs]), (5, .bool (okPo n xs)), (6, .bool (!(okPo n xs))), (7, .agg [AI n, LI xs]), (8, AI ((shl64 1 n) - 1)), (10, .fn 50 [.ptr 0 0])]) (by kernel_rfl) (by kernel_rfl) (by kernel_rfl) ?_)
        exact R.go 3 (R.retE (.tup [ownA eI 2 1 ((r.take ((ii).toNat) ++ List.replicate (r.length - (ii).toNat) 0).take ((ii).toNat)), AI 0]) (by kernel_rfl) (by kernel_rfl) (by first | (first | exact an_bad (by assumption) | exact an_ok (by assumption) (by rw [anL, ← antTo_filter, ← haE]; exact (fidx_none hqn (Int.le_refl 0) (by assumption)).symm) | exact an_ok (by assumption) (an_cut (jj := jj) (by assumption) (by omega) (by omega) (by omega) (by omega) (by assumption) haE)) | (exfalso; omega)))

theorem AN_spec (n : Int) (xs : List Int) (lx : xs.length ≤ 1048576) : CallA Try.prog 17 [.agg [AI n, LI xs]] (.tup [ownA eI 2 1 (anR n xs), AI (poC n xs)]) := by
  refine CallA.of Try.func17 rfl (by kernel_rfl) ?_
  refine R.go 10 (R.call true (l16Is_c n xs (by first | omega | (simp <;> omega))) (by kernel_rfl) rfl (by kernel_rfl) ?_)
  refine R.go 2 (R.condM (okPo n xs) (by kernel_rfl) (fun c1 => ?_) (fun c1 => ?_))
  · refine R.go 5 (R.nil 2 2 1 (by kernel_rfl) ?_)
    exact R.retE (.tup [ownA eI 2 1 [], AI 1]) (by kernel_rfl) (by kernel_rfl) (by first | (first | exact an_bad (by assumption) | exact an_ok (by assumption) (by rw [anL, show k = (shl64 1 n).toNat by omega])) | (exfalso; omega))
  · have hR : okFr n xs = true := okPo_fr (by assumption)
    have hF := okFr_rel hR
    have hRel : RelOK n.toNat xs := hF.2.2.2
    have hb0 : 0 ≤ n ∧ n ≤ 8 ∧ (xs.length : Int) = n := ⟨hF.1, hF.2.1, hF.2.2.1⟩
    have hN8 : n.toNat ≤ 8 := by omega
    have hs8 := shl_8 hb0.1 hb0.2.1
    have hs1 := shl_rng n hb0.1 (by omega)
    refine R.go 12 (R.loop ((fun | (k, out) => (⟨(frm 25 [(1, .ptr 0 0), (4, .ref 1), (5, AI (k : Int))]), [.box 26 [AI n, LI xs], rowA eI 2 1 out]⟩ : St) : Nat × (List Int) → St)) (fun | (k, out) => ((k : Int) ≤ shl64 1 n) ∧ (out = antTo n xs k)) (fun | (k, out) => (shl64 1 n).toNat - k) (0, []) [1, 4, 5] none (by kernel_rfl) (by kernel_rfl) (by kernel_rfl) ⟨(by omega), (by rfl)⟩ ?_)
    rintro ⟨k, out⟩ ⟨h5_1, rfl⟩ R2 N3
    have hul := antTo_len n xs k
    refine R.go 6 (R.call true (l01Full_c n (by omega) (by omega)) (by kernel_rfl) rfl (by kernel_rfl) ?_)
    refine R.go 2 (R.cond ((k : Int) ≤ ((shl64 1 n) - 1)) (by kernel_rfl) (fun c6 => ?_) (fun c6 => ?_))
    · have hkm := nat_inM (k := k) hb0.1 hb0.2.1 (by omega)
      refine R.go 7 (R.call true (l16Antichain_c n xs (k : Int) hR (by assumption)) (by kernel_rfl) rfl (by kernel_rfl) ?_)
      refine R.go 1 (R.condB (antB n xs (k : Int)) (by kernel_rfl) (fun c7 => ?_) (fun c7 => ?_))
      · refine R.go 4 (R.app eI (antTo n xs k) [(k : Int)] 1 2 1 8 (by kernel_rfl) eI_one (by decide) (by first | omega | (simp <;> omega)) (by kernel_rfl) ?_)
        refine R.go 5 (R.ar ((k : Int) + 1) (by kernel_rfl) (by omega) (by omega) (by kernel_rfl) ?_)
        exact R.go 2 (R.stop R2 (by kernel_rfl) (N3 (k + 1, (antTo n xs k) ++ [(k : Int)]) [1, 4, 5] (some [0, 1]) _ (by kernel_rfl) (by kernel_rfl) ⟨(by omega), (by first | exact antTo_yes (by assumption) | exact antTo_no (by assumption))⟩ (by show ((shl64 1 n).toNat - (k + 1)) < ((shl64 1 n).toNat - k); omega)))
      · refine R.go 4 (R.ar ((k : Int) + 1) (by kernel_rfl) (by omega) (by omega) (by kernel_rfl) ?_)
        exact R.go 2 (R.stop R2 (by kernel_rfl) (N3 (k + 1, antTo n xs k) [1, 4, 5] none _ (by kernel_rfl) (by kernel_rfl) ⟨(by omega), (by first | exact antTo_yes (by assumption) | exact antTo_no (by assumption))⟩ (by show ((shl64 1 n).toNat - (k + 1)) < ((shl64 1 n).toNat - k); omega)))
    · exact R.go 7 (R.retE (.tup [ownA eI 2 1 (antTo n xs k), AI 0]) (by kernel_rfl) (by kernel_rfl) (by first | (first | exact an_bad (by assumption) | exact an_ok (by assumption) (by rw [anL, show k = (shl64 1 n).toNat by omega])) | (exfalso; omega)))

end Go.Proofs.Ytkanjgmocmhlkaa
