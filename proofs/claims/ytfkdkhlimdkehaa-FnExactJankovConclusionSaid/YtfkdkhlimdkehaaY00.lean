/- Rows filtered in place; antichains. -/
import Derived.Test.YtfkdkhlimdkehaaW02
import Derived.Test.YtfkdkhlimdkehaaSym1
namespace Go.Proofs.Ytfkdkhlimdkehaa
open Go.RowKit Go.Abs

def rangeL (k : Nat) : List Int := (List.range k).map fun i : Nat => (i : Int)
theorem rangeL_len (k : Nat) : (rangeL k).length = k := by simp [rangeL]
theorem rangeL_succ (k : Nat) : rangeL k ++ [(k : Int)] = rangeL (k + 1) := by simp [rangeL, List.range_succ]
theorem rangeL_get {k j : Nat} (h : j < k) : (rangeL k).getD j 0 = (j : Int) := by simp [rangeL, List.getD_eq_getElem?_getD, List.getElem?_range h]
theorem sub_tab : ∀ n : Fin 9, ∀ i : Fin 256, i.val + 1 < 2 ^ n.val → band ((i.val : Int) - (shl64 1 (n.val : Int) - 1)) (shl64 1 (n.val : Int) - 1) = (i.val : Int) + 1 := by decide +kernel
theorem sub_next {n : Int} {i : Nat} (h0 : 0 ≤ n) (h8 : n ≤ 8) (h : (i : Int) + 1 < shl64 1 n) : band ((i : Int) - (shl64 1 n - 1)) (shl64 1 n - 1) = (i : Int) + 1 := by
  have e : ((n.toNat : Nat) : Int) = n := by omega
  have h2 := shl_nat (i := n.toNat) (by omega)
  rw [e] at h2
  have h3 : 2 ^ n.toNat ≤ 2 ^ 8 := Nat.pow_le_pow_right (by decide) (by omega)
  have h4 : i + 1 < 2 ^ n.toNat := by
    rw [h2] at h
    generalize 2 ^ n.toNat = q at h h3
    omega
  have := sub_tab ⟨n.toNat, by omega⟩ ⟨i, by omega⟩ h4
  simpa only [e] using this
def ANT (xs : List Int) (m : Int) (i : Nat) : Prop := tb m i = true → band (xs.getD i 0) m = shl64 1 (i : Int)
instance (xs : List Int) (m : Int) (i : Nat) : Decidable (ANT xs m i) := by unfold ANT; infer_instance
def antB (n : Int) (xs : List Int) (m : Int) : Bool := (List.range n.toNat).all fun i => decide (ANT xs m i)
theorem antB_iff {n : Int} {xs : List Int} {m : Int} : antB n xs m = true ↔ ∀ i : Nat, i < n.toNat → ANT xs m i := by simp [antB]
theorem antB_no {n : Int} {xs : List Int} {m : Int} {i : Nat} (hi : i < n.toNat) (h : tb m i = true) (h2 : ¬ band (xs.getD i 0) m = shl64 1 (i : Int)) : false = antB n xs m := by
  cases e : antB n xs m with
  | false => rfl
  | true => exact absurd (antB_iff.1 e i hi h) h2
def ANM (xs : List Int) (m : Int) (t : Nat) : Prop := band (xs.getD ((mem m).getD t 0).toNat 0) m = shl64 1 ((mem m).getD t 0)
theorem antB_mem {n : Int} {xs : List Int} {m : Int} (h8 : n ≤ 8) (hm : InM n.toNat m) (h : ∀ t : Nat, t < (mem m).length → ANM xs m t) : true = antB n xs m := by
  refine (antB_iff.2 fun i hi hb => ?_).symm
  obtain ⟨t, ht, e⟩ := List.getElem_of_mem ((mem_iff (by omega) hm).2 hb)
  have h1 := h t ht
  unfold ANM at h1
  have e2 : (mem m).getD t 0 = (i : Int) := by rw [List.getD_eq_getElem?_getD, List.getElem?_eq_getElem ht, e]; rfl
  rw [e2] at h1
  exact h1
theorem antB_nom {n : Int} {xs : List Int} {m : Int} {t : Nat} (h8 : n ≤ 8) (hm : InM n.toNat m) (ht : t < (mem m).length) (h : ¬ band (xs.getD ((mem m).getD t 0).toNat 0) m = shl64 1 ((mem m).getD t 0)) : false = antB n xs m := by
  have h1 := mem_lt' (N := n.toNat) (by omega) hm ht
  have e : (((mem m).getD t 0).toNat : Int) = (mem m).getD t 0 := by omega
  refine antB_no (i := ((mem m).getD t 0).toNat) (by omega) ((mem_iff (N := n.toNat) (by omega) hm).1 ?_) (by rw [e]; exact h)
  rw [e, List.getD_eq_getElem?_getD, List.getElem?_eq_getElem ht]
  exact List.getElem_mem _
def antTo (n : Int) (xs : List Int) : Nat → List Int
  | 0 => []
  | k + 1 => if antB n xs (k : Int) = true then antTo n xs k ++ [(k : Int)] else antTo n xs k
theorem antTo_yes {n : Int} {xs : List Int} {k : Nat} (h : antB n xs (k : Int) = true) : antTo n xs k ++ [(k : Int)] = antTo n xs (k + 1) := by rw [antTo, if_pos h]
theorem antTo_no {n : Int} {xs : List Int} {k : Nat} (h : antB n xs (k : Int) = false) : antTo n xs k = antTo n xs (k + 1) := by rw [antTo, if_neg (by rw [h]; decide)]
theorem antTo_len (n : Int) (xs : List Int) : ∀ k : Nat, (antTo n xs k).length ≤ k
  | 0 => Nat.le_refl _
  | k + 1 => by
    have := antTo_len n xs k
    rw [antTo]
    split
    · simp; omega
    · omega
theorem antTo_filter (n : Int) (xs : List Int) : ∀ k : Nat, (rangeL k).filter (antB n xs) = antTo n xs k
  | 0 => rfl
  | k + 1 => by
    rw [← rangeL_succ, List.filter_append, antTo_filter n xs k, antTo]
    split
    · rename_i h; simp [h]
    · rename_i h; simp [h]
def QA (n : Int) (xs : List Int) (m : Int) : Bool := !antB n xs m
theorem fidx_none {p q : Int → Bool} (hq : ∀ x, p x = !q x) : ∀ {a : List Int} {i : Int}, 0 ≤ i → fidxI p a i = -1 → a.filter q = a
  | [], _, _, _ => rfl
  | x :: a, i, h0, h => by
    rw [fidxI] at h
    split at h
    · omega
    · rename_i hp
      have : q x = true := by have := hq x; cases e : q x <;> simp_all
      rw [List.filter_cons, if_pos this, fidx_none hq (by omega) h]
theorem fidx_some {p q : Int → Bool} (hq : ∀ x, p x = !q x) : ∀ {a : List Int} {i k : Int}, fidxI p a i = k → ¬ k = -1 → 0 ≤ i → i ≤ k ∧ (k - i).toNat < a.length ∧ (a.take (k - i + 1).toNat).filter q = a.take (k - i).toNat
  | [], i, k, h, hk, h0 => by rw [fidxI] at h; omega
  | x :: a, i, k, h, hk, h0 => by
    rw [fidxI] at h
    split at h
    · rename_i hp
      subst h
      have : q x = false := by have := hq x; cases e : q x <;> simp_all
      refine ⟨Int.le_refl _, by simp, ?_⟩
      rw [show (i - i + 1).toNat = 1 by omega, show (i - i).toNat = 0 by omega]
      simp [this]
    · rename_i hp
      have hqx : q x = true := by have := hq x; cases e : q x <;> simp_all
      obtain ⟨h1, h2, h3⟩ := fidx_some hq h hk (by omega)
      refine ⟨by omega, by simp; omega, ?_⟩
      rw [show (k - i + 1).toNat = (k - (i + 1) + 1).toNat + 1 by omega, show (k - i).toNat = (k - (i + 1)).toNat + 1 by omega, List.take_succ_cons, List.take_succ_cons, List.filter_cons, if_pos hqx, h3]
theorem fidx_start {p q : Int → Bool} (hq : ∀ x, p x = !q x) {a : List Int} (h : ¬ fidxI p a 0 = -1) : 0 ≤ fidxI p a 0 ∧ (fidxI p a 0).toNat < a.length ∧ a.take (fidxI p a 0).toNat = (a.take (fidxI p a 0 + 1).toNat).filter q := by
  obtain ⟨h1, h2, h3⟩ := fidx_some hq (k := fidxI p a 0) rfl h (Int.le_refl 0)
  refine ⟨h1, by simpa using h2, ?_⟩
  have h4 := h3.symm
  simpa using h4
theorem del_keep {q : Int → Bool} {a r : List Int} {i j : Nat} (hl : r.length = a.length) (hi : i ≤ j) (hj : j < a.length) (h1 : r.take i = (a.take j).filter q) (h2 : r.drop j = a.drop j) (hq : q (r.getD j 0) = true) :
    (r.set i (r.getD j 0)).take (i + 1) = (a.take (j + 1)).filter q ∧ (r.set i (r.getD j 0)).drop (j + 1) = a.drop (j + 1) ∧ (r.set i (r.getD j 0)).length = a.length := by
  have e : r.getD j 0 = a.getD j 0 := by
    have := congrArg (fun l : List Int => l.getD 0 0) h2
    simpa [List.getD_eq_getElem?_getD, List.getElem?_drop] using this
  refine ⟨?_, ?_, by rw [List.length_set, hl]⟩
  · rw [List.take_succ_eq_append_getElem (by rw [List.length_set]; omega), List.take_set_of_le (Nat.le_refl _), h1, List.getElem_set_self, List.take_succ_eq_append_getElem hj, List.filter_append]
    have e2 : a[j] = r.getD j 0 := by rw [e, List.getD_eq_getElem?_getD, List.getElem?_eq_getElem hj]; rfl
    have e3 : List.filter q [r.getD j 0] = [r.getD j 0] := by rw [List.filter_cons, if_pos hq]; rfl
    rw [e2, e3]
  · rw [List.drop_set_of_lt (by omega)]
    have := congrArg (fun l : List Int => l.drop 1) h2
    simpa [List.drop_drop] using this
theorem del_skip {q : Int → Bool} {a r : List Int} {i j : Nat} (hl : r.length = a.length) (hj : j < a.length) (h1 : r.take i = (a.take j).filter q) (h2 : r.drop j = a.drop j) (hq : q (r.getD j 0) = false) :
    r.take i = (a.take (j + 1)).filter q ∧ r.drop (j + 1) = a.drop (j + 1) := by
  have e : r.getD j 0 = a.getD j 0 := by
    have := congrArg (fun l : List Int => l.getD 0 0) h2
    simpa [List.getD_eq_getElem?_getD, List.getElem?_drop] using this
  refine ⟨?_, ?_⟩
  · rw [h1, List.take_succ_eq_append_getElem hj, List.filter_append]
    have e2 : a[j] = r.getD j 0 := by rw [e, List.getD_eq_getElem?_getD, List.getElem?_eq_getElem hj]; rfl
    have e3 : List.filter q [r.getD j 0] = [] := by rw [List.filter_cons, if_neg (by rw [hq]; decide)]; rfl
    rw [e2, e3, List.append_nil]
  · have := congrArg (fun l : List Int => l.drop 1) h2
    simpa [List.drop_drop] using this
def anL (n : Int) (xs : List Int) : List Int := antTo n xs (shl64 1 n).toNat
def anR (n : Int) (xs : List Int) : List Int := if okPo n xs = true then anL n xs else []
theorem an_bad {s : Nat} {n : Int} {xs : List Int} (h : okPo n xs = false) : AV.tup [ownA eI s 1 [], AI 1] = AV.tup [ownA eI s 1 (anR n xs), AI (poC n xs)] := by simp [anR, poC, h]
theorem an_ok {s : Nat} {n : Int} {xs L : List Int} (h : okPo n xs = true) (hL : L = anL n xs) : AV.tup [ownA eI s 1 L, AI 0] = AV.tup [ownA eI s 1 (anR n xs), AI (poC n xs)] := by rw [anR, poC, if_pos h, if_pos h, hL]
theorem anR_len (n : Int) (xs : List Int) : (anR n xs).length ≤ 256 := by
  unfold anR
  split
  · rename_i h
    have hF := okFr_rel (okPo_fr h)
    have := antTo_len n xs (shl64 1 n).toNat
    have := shl_8 hF.1 hF.2.1
    unfold anL
    omega
  · simp
theorem an_cut {a r : List Int} {n : Int} {xs : List Int} {ii jj : Int} (hl : r.length = a.length) (hi : 0 ≤ ii) (hij : ii < jj) (hj : jj ≤ a.length) (hjl : ¬ jj < (r.length : Int)) (h : r.take ii.toNat = (a.take jj.toNat).filter (antB n xs)) (ha : a = rangeL (shl64 1 n).toNat) :
    (r.take ii.toNat ++ List.replicate (r.length - ii.toNat) 0).take ii.toNat = anL n xs := by
  rw [List.take_append_of_le_length (by rw [List.length_take]; omega), List.take_take, Nat.min_self, h, List.take_of_length_le (by omega), ha, antTo_filter]
  rfl

end Go.Proofs.Ytfkdkhlimdkehaa
