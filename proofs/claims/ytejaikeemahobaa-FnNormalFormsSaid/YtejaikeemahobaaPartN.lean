/- Texts of the proof: U04, U05. -/
import Derived.Test.YtejaikeemahobaaPartM

/-! Negation normal forms: the reference, the tops; models. -/
namespace Go.Proofs.Ytejaikeemahobaa
open Go.RowKit Go.Abs

section
variable {nv : Nat} {a : List (Int × Int)} {p : Bool}
theorem e_oneT (hok : OKM nv a) (h : partsN (a.getD 0 (0, 0)).1 = 1) (hp : p = true) : ((a.getD 0 (0, 0)).1, 0) :: nfA (a.drop 1) p = nfA a p := by rw [e_one hok h, if_pos hp]
theorem e_oneF (hok : OKM nv a) (h : partsN (a.getD 0 (0, 0)).1 = 1) (hp : p = false) : (11 - (a.getD 0 (0, 0)).1, 0) :: nfA (a.drop 1) p = nfA a p := by rw [e_one hok h, if_neg (by simp [hp])]
theorem e_twoT (hok : OKM nv a) (h : partsN (a.getD 0 (0, 0)).1 = 2) (h4 : ¬ (a.getD 0 (0, 0)).1 = 4) (hp : p = true) : ((a.getD 0 (0, 0)).1, 0) :: (nfA (lef a) p ++ nfA (rig a) p) = nfA a p := by rw [e_two hok h h4, if_pos hp]
theorem e_twoF (hok : OKM nv a) (h : partsN (a.getD 0 (0, 0)).1 = 2) (h4 : ¬ (a.getD 0 (0, 0)).1 = 4) (hp : p = false) : (5 - (a.getD 0 (0, 0)).1, 0) :: (nfA (lef a) p ++ nfA (rig a) p) = nfA a p := by rw [e_two hok h h4, if_neg (by simp [hp])]
end
theorem tupNI {s : Nat} {a c : List (Int × Int)} {b d : Int} (h : a = c) (h' : b = d) : AV.tup [ownA eN s 2 a, AI b] = AV.tup [ownA eN s 2 c, AI d] := by rw [h, h']
theorem nf_facts2 {nv : Nat} {a : List (Int × Int)} (hok : OKM nv a) (h : (a.getD 0 (0, 0)).1 = 2 ∨ (a.getD 0 (0, 0)).1 = 3 ∨ (a.getD 0 (0, 0)).1 = 4) (p : Bool) : 1 ≤ (lef a).length ∧ 1 ≤ (rig a).length ∧ (lef a).length < a.length ∧ (rig a).length < a.length ∧
    (nfA (lef a) p).length ≤ 3 * (lef a).length ∧ (nfA (rig a) p).length ≤ 3 * (rig a).length ∧ (nfA (lef a) true).length ≤ 3 * (lef a).length ∧ (nfA (rig a) true).length ≤ 3 * (rig a).length ∧ (nfA (lef a) false).length ≤ 3 * (lef a).length ∧ (nfA (rig a) false).length ≤ 3 * (rig a).length := by
  have hp := (partsN_two _).2 h
  have hl := okm_lef hok hp
  have hr := okm_rig hok hp
  have hm := lenm_lef hok hp
  exact ⟨okm_pos hl, okm_pos hr, hm.1, hm.2.1, (nfA_ok hl p).2.1, (nfA_ok hr p).2.1, (nfA_ok hl true).2.1, (nfA_ok hr true).2.1, (nfA_ok hl false).2.1, (nfA_ok hr false).2.1⟩
theorem nf_facts1 {nv : Nat} {a : List (Int × Int)} (hok : OKM nv a) (h : (a.getD 0 (0, 0)).1 = 5 ∨ (a.getD 0 (0, 0)).1 = 6) (p : Bool) : 1 ≤ (a.drop 1).length ∧ (a.drop 1).length < a.length ∧ (nfA (a.drop 1) p).length ≤ 3 * (a.drop 1).length := by
  have ht := okm_tail hok (partsN_1 h)
  have hp := okm_pos hok
  refine ⟨okm_pos ht, by simp; omega, (nfA_ok ht p).2.1⟩
theorem okMo_in {n : Int} {xs vs : List Int} (h : okMo n xs vs = true) : okFr n xs = true ∧ vs.length = 6 ∧ ∀ j : Nat, j < 6 → InM n.toNat (vs.getD j 0) := by
  obtain ⟨h1, h2⟩ := okMo_fr h
  obtain ⟨h0, h8, _, _⟩ := okFr_rel h1
  refine ⟨h1, h2, fun j hj => ?_⟩
  simp only [okMo, Bool.and_eq_true, Bool.not_eq_true'] at h
  have := h.2
  rw [List.any_eq_false] at this
  have hm : vs.getD j 0 ∈ vs := by
    rw [List.getD_eq_getElem?_getD, List.getElem?_eq_getElem (by omega)]
    exact List.getElem_mem _
  have := this _ hm
  simp only [Bool.not_eq_true', Bool.not_eq_false] at this
  refine (full_rng (n := n.toNat) (by omega)).2 ?_
  rw [nn_eq h0]
  exact this
theorem nn_parts {a : List (Int × Int)} {p : Bool} (h : nnC a p = 0) : isF a = true ∧ (nfA a p).length ≤ 40 ∧ nnR a p = nfA a p := by
  refine ⟨?_, ?_, if_pos h⟩ <;> unfold nnC at h <;> split at h <;> first | assumption | omega | (split at h <;> omega)
theorem nn_len {a : List (Int × Int)} (p : Bool) : (nnR a p).length ≤ 40 := by
  unfold nnR
  split
  · exact (nn_parts (by assumption)).2.1
  · simp
theorem nn_good {n : Int} {xs vs : List Int} {a : List (Int × Int)} {p : Bool} (hm : mcode n xs vs a = 0) (h : nnC a p = 0) : mcode n xs vs (nnR a p) = 0 := by
  obtain ⟨h1, h2⟩ := mcode_ok hm
  obtain ⟨k1, k2, k3⟩ := nn_parts h
  have := nfA_ok (isF_okm k1).1 p
  rw [k3]
  exact mcode_good h1 (isF_mk this.1 k2 (this.2.2 (okN_all k1)))
theorem nn_tset {n : Int} {xs vs : List Int} {a : List (Int × Int)} (hm : mcode n xs vs a = 0) : (nnC a true = 0 → tval n xs vs (nnR a true) = tval n xs vs a) ∧ (nnC a false = 0 → tval n xs vs (nnR a false) = bnot ((shl64 1 n) - 1) (tval n xs vs a)) := by
  obtain ⟨h1, h2⟩ := mcode_ok hm
  obtain ⟨hR, _, hX⟩ := okMo_in h1
  have hok := (isF_okm h2).1
  obtain ⟨h0, h8, _, _⟩ := okFr_rel hR
  have hf := inM_full (n := n.toNat) (by omega)
  have htf : ∀ j, tb ((shl64 1 n) - 1) j = decide (j < n.toNat) := fun j => by
    have ht := tb_full (n := n.toNat) (by omega) j
    rwa [nn_eq h0] at ht
  rw [nn_eq h0] at hf
  refine ⟨fun h => ?_, fun h => ?_⟩
  · have e := (nn_parts h).2.2
    unfold tval
    rw [if_pos (nn_good hm h), if_pos hm, e]
    exact tset_ext hR hX hX (nfA_ok hok true).1 hok fun w hw => (nfA_tr hR hX hok w hw).1
  · have e := (nn_parts h).2.2
    unfold tval
    rw [if_pos (nn_good hm h), if_pos hm, e]
    have i1 := tset_in hR (nfA_ok hok false).1 hX
    have i2 := tset_in hR hok hX
    refine tb_ext i1.1 (inM_bnot (n := n.toNat) (by omega) hf i2).1 fun w => ?_
    rw [tb_bnot (n := n.toNat) (by omega) hf i2, htf]
    by_cases hw : w < n.toNat
    · rw [decide_eq_true hw, Bool.true_and]
      exact (nfA_tr hR hX hok w hw).2
    · rw [decide_eq_false hw, Bool.false_and]
      cases e : tb (tset n xs vs (nfA a false)) w with
      | false => rfl
      | true => exact absurd (tb_lt i1 e) hw

set_option maxHeartbeats 1000000 in
theorem l03Normal_c : ∀ (k : Nat) (nv : Nat) (a : List (Int × Int)) (p : Bool) (hk : a.length = k) (hok : OKM nv a) (hl : a.length ≤ 300000), CallA Try.prog 68 [LN a, .bool p] (ownA eN 89 2 (nfA a p)) := by
  intro k
  induction k using Nat.strongRecOn with
  | _ k ih =>
  intro nv a p hk hok hl
  have hlen := okm_pos hok
  have hg := okm_get hok 0 (by omega)
  have hnl := fun p => (nfA_ok hok p).2.1
  refine CallA.of Try.func68 rfl (by kernel_rfl) ?_
  refine R.go 8 (R.idx eN a (0, 0) 0 0 (by kernel_rfl) rfl eN_len (by first | omega | (have hf := nf_facts2 hok (by omega) p; omega) | (have hf := nf_facts1 hok (by omega) p; omega) | (simp; omega)) (by kernel_rfl) ?_)
  refine R.go 9 (R.cond (((a.getD 0 (0, 0)).1) = 0) (by kernel_rfl) (fun c1 => ?_) (fun c1 => ?_))
  · refine R.go 5 (R.condB (p) (by kernel_rfl) (fun c2 => ?_) (fun c2 => ?_))
    · refine R.go 3 (R.call true (l02Own_c a (by first | omega | (have hf := nf_facts2 hok (by omega) p; omega) | (have hf := nf_facts1 hok (by omega) p; omega) | (simp; omega))) (by kernel_rfl) rfl (by kernel_rfl) ?_)
      exact R.go 2 (R.retE (ownA eN 89 2 a) (by kernel_rfl) (by kernel_rfl) (by first | (apply congrArg (ownA eN _ 2); first | exact e_varT hok (by assumption) (by assumption) | exact e_varF hok (by assumption) (by assumption) | exact (e_bot hok (by assumption)).1 (by assumption) | exact (e_bot hok (by assumption)).2 (by assumption) | exact e_oneT hok (partsN_1 (by omega)) (by assumption) | exact e_oneF hok (partsN_1 (by omega)) (by assumption) | exact e_twoT hok ((partsN_two _).2 (by omega)) (by omega) (by assumption) | exact e_twoF hok ((partsN_two _).2 (by omega)) (by omega) (by assumption) | exact (e_i1 hok (show (a.getD 0 (0, 0)).1 = 4 by omega) (decide_eq_true (by assumption)) (decide_eq_true (by assumption))).1 (by assumption) | exact (e_i1 hok (show (a.getD 0 (0, 0)).1 = 4 by omega) (decide_eq_true (by assumption)) (decide_eq_true (by assumption))).2 (by assumption) | exact e_i2 hok (show (a.getD 0 (0, 0)).1 = 4 by omega) (decide_eq_false (by assumption)) (decide_eq_true (by assumption)) | exact (e_i3 hok (show (a.getD 0 (0, 0)).1 = 4 by omega) (decide_eq_false (by assumption))).1 (by assumption) | exact (e_i3 hok (show (a.getD 0 (0, 0)).1 = 4 by omega) (decide_eq_false (by assumption))).2 (by assumption)) | (exfalso; omega)))
    · refine R.go 4 (R.call true (l02Not_c a (by first | omega | (have hf := nf_facts2 hok (by omega) p; omega) | (have hf := nf_facts1 hok (by omega) p; omega) | (simp; omega))) (by kernel_rfl) rfl (by kernel_rfl) ?_)
      exact R.go 2 (R.retE (ownA eN 89 2 ((4, 0) :: (a ++ [(1, 0)]))) (by kernel_rfl) (by kernel_rfl) (by first | (apply congrArg (ownA eN _ 2); first | exact e_varT hok (by assumption) (by assumption) | exact e_varF hok (by assumption) (by assumption) | exact (e_bot hok (by assumption)).1 (by assumption) | exact (e_bot hok (by assumption)).2 (by assumption) | exact e_oneT hok (partsN_1 (by omega)) (by assumption) | exact e_oneF hok (partsN_1 (by omega)) (by assumption) | exact e_twoT hok ((partsN_two _).2 (by omega)) (by omega) (by assumption) | exact e_twoF hok ((partsN_two _).2 (by omega)) (by omega) (by assumption) | exact (e_i1 hok (show (a.getD 0 (0, 0)).1 = 4 by omega) (decide_eq_true (by assumption)) (decide_eq_true (by assumption))).1 (by assumption) | exact (e_i1 hok (show (a.getD 0 (0, 0)).1 = 4 by omega) (decide_eq_true (by assumption)) (decide_eq_true (by assumption))).2 (by assumption) | exact e_i2 hok (show (a.getD 0 (0, 0)).1 = 4 by omega) (decide_eq_false (by assumption)) (decide_eq_true (by assumption)) | exact (e_i3 hok (show (a.getD 0 (0, 0)).1 = 4 by omega) (decide_eq_false (by assumption))).1 (by assumption) | exact (e_i3 hok (show (a.getD 0 (0, 0)).1 = 4 by omega) (decide_eq_false (by assumption))).2 (by assumption)) | (exfalso; omega)))
  · refine R.go 5 (R.cond (((a.getD 0 (0, 0)).1) = 1) (by kernel_rfl) (fun c3 => ?_) (fun c3 => ?_))
    · refine R.go 5 (R.condB (p) (by kernel_rfl) (fun c4 => ?_) (fun c4 => ?_))
      · refine R.go 2 (R.call true (l02False_c) (by kernel_rfl) rfl (by kernel_rfl) ?_)
        exact R.go 2 (R.retE (ownA eN 89 2 [(1, 0)]) (by kernel_rfl) (by kernel_rfl) (by first | (apply congrArg (ownA eN _ 2); first | exact e_varT hok (by assumption) (by assumption) | exact e_varF hok (by assumption) (by assumption) | exact (e_bot hok (by assumption)).1 (by assumption) | exact (e_bot hok (by assumption)).2 (by assumption) | exact e_oneT hok (partsN_1 (by omega)) (by assumption) | exact e_oneF hok (partsN_1 (by omega)) (by assumption) | exact e_twoT hok ((partsN_two _).2 (by omega)) (by omega) (by assumption) | exact e_twoF hok ((partsN_two _).2 (by omega)) (by omega) (by assumption) | exact (e_i1 hok (show (a.getD 0 (0, 0)).1 = 4 by omega) (decide_eq_true (by assumption)) (decide_eq_true (by assumption))).1 (by assumption) | exact (e_i1 hok (show (a.getD 0 (0, 0)).1 = 4 by omega) (decide_eq_true (by assumption)) (decide_eq_true (by assumption))).2 (by assumption) | exact e_i2 hok (show (a.getD 0 (0, 0)).1 = 4 by omega) (decide_eq_false (by assumption)) (decide_eq_true (by assumption)) | exact (e_i3 hok (show (a.getD 0 (0, 0)).1 = 4 by omega) (decide_eq_false (by assumption))).1 (by assumption) | exact (e_i3 hok (show (a.getD 0 (0, 0)).1 = 4 by omega) (decide_eq_false (by assumption))).2 (by assumption)) | (exfalso; omega)))
      · refine R.go 3 (R.call true (l02True_c) (by kernel_rfl) rfl (by kernel_rfl) ?_)
        exact R.go 2 (R.retE (ownA eN 89 2 [(4, 0), (1, 0), (1, 0)]) (by kernel_rfl) (by kernel_rfl) (by first | (apply congrArg (ownA eN _ 2); first | exact e_varT hok (by assumption) (by assumption) | exact e_varF hok (by assumption) (by assumption) | exact (e_bot hok (by assumption)).1 (by assumption) | exact (e_bot hok (by assumption)).2 (by assumption) | exact e_oneT hok (partsN_1 (by omega)) (by assumption) | exact e_oneF hok (partsN_1 (by omega)) (by assumption) | exact e_twoT hok ((partsN_two _).2 (by omega)) (by omega) (by assumption) | exact e_twoF hok ((partsN_two _).2 (by omega)) (by omega) (by assumption) | exact (e_i1 hok (show (a.getD 0 (0, 0)).1 = 4 by omega) (decide_eq_true (by assumption)) (decide_eq_true (by assumption))).1 (by assumption) | exact (e_i1 hok (show (a.getD 0 (0, 0)).1 = 4 by omega) (decide_eq_true (by assumption)) (decide_eq_true (by assumption))).2 (by assumption) | exact e_i2 hok (show (a.getD 0 (0, 0)).1 = 4 by omega) (decide_eq_false (by assumption)) (decide_eq_true (by assumption)) | exact (e_i3 hok (show (a.getD 0 (0, 0)).1 = 4 by omega) (decide_eq_false (by assumption))).1 (by assumption) | exact (e_i3 hok (show (a.getD 0 (0, 0)).1 = 4 by omega) (decide_eq_false (by assumption))).2 (by assumption)) | (exfalso; omega)))
    · refine R.go 6 (R.cond (((a.getD 0 (0, 0)).1) = 5) (by kernel_rfl) (fun c5 => ?_) (fun c5 => ?_))
      · refine R.go 1 (R.thn (decide (((a.getD 0 (0, 0)).1) = 5)) (by kernel_rfl) (dT c5) ?_)
        refine R.go 3 (R.idx eN a (0, 0) 0 0 (by kernel_rfl) rfl eN_len (by first | omega | (have hf := nf_facts2 hok (by omega) p; omega) | (have hf := nf_facts1 hok (by omega) p; omega) | (simp; omega)) (by kernel_rfl) ?_)
        refine R.go 10 (R.condM (p) (by kernel_rfl) (fun c6 => ?_) (fun c6 => ?_))
        · refine R.go 2 (R.ar (11 - ((a.getD 0 (0, 0)).1)) (by kernel_rfl) (by first | omega | (have hf := nf_facts2 hok (by omega) p; omega) | (have hf := nf_facts1 hok (by omega) p; omega) | (simp; omega)) (by first | omega | (have hf := nf_facts2 hok (by omega) p; omega) | (have hf := nf_facts1 hok (by omega) p; omega) | (simp; omega)) (by kernel_rfl) ?_)
          refine R.go 6 (R.slL eN a 1 1 (by kernel_rfl) rfl eN_len (by first | omega | (have hf := nf_facts2 hok (by omega) p; omega) | (have hf := nf_facts1 hok (by omega) p; omega) | (simp; omega)) (by kernel_rfl) ?_)
          refine R.go 1 (R.call true (ih ((a.drop 1).length) (by first | omega | (have hf := nf_facts2 hok (by omega) p; omega) | (have hf := nf_facts1 hok (by omega) p; omega) | (simp; omega)) nv (a.drop 1) p (by first | rfl | simp) (by first | assumption | exact okm_lef hok ((partsN_two _).2 (by omega)) | exact okm_rig hok ((partsN_two _).2 (by omega)) | exact okm_tail hok (partsN_1 (by omega)) | exact hq.1) (by first | omega | (have hf := nf_facts2 hok (by omega) p; omega) | (have hf := nf_facts1 hok (by omega) p; omega) | (simp; omega))) (by kernel_rfl) rfl (by kernel_rfl) ?_)
          refine R.call false (l02Pre_c (11 - ((a.getD 0 (0, 0)).1)) (nfA (a.drop 1) p) (by first | omega | (have hf := nf_facts2 hok (by omega) p; omega) | (have hf := nf_facts1 hok (by omega) p; omega) | (simp; omega))) (by kernel_rfl) (ownA_closed eN_closed 89 2 (((11 - ((a.getD 0 (0, 0)).1)), 0) :: (nfA (a.drop 1) p))) (by kernel_rfl) ?_
          exact R.go 2 (R.retE (ownA eN 89 2 (((11 - ((a.getD 0 (0, 0)).1)), 0) :: (nfA (a.drop 1) p))) (by kernel_rfl) (by kernel_rfl) (by first | (apply congrArg (ownA eN _ 2); first | exact e_varT hok (by assumption) (by assumption) | exact e_varF hok (by assumption) (by assumption) | exact (e_bot hok (by assumption)).1 (by assumption) | exact (e_bot hok (by assumption)).2 (by assumption) | exact e_oneT hok (partsN_1 (by omega)) (by assumption) | exact e_oneF hok (partsN_1 (by omega)) (by assumption) | exact e_twoT hok ((partsN_two _).2 (by omega)) (by omega) (by assumption) | exact e_twoF hok ((partsN_two _).2 (by omega)) (by omega) (by assumption) | exact (e_i1 hok (show (a.getD 0 (0, 0)).1 = 4 by omega) (decide_eq_true (by assumption)) (decide_eq_true (by assumption))).1 (by assumption) | exact (e_i1 hok (show (a.getD 0 (0, 0)).1 = 4 by omega) (decide_eq_true (by assumption)) (decide_eq_true (by assumption))).2 (by assumption) | exact e_i2 hok (show (a.getD 0 (0, 0)).1 = 4 by omega) (decide_eq_false (by assumption)) (decide_eq_true (by assumption)) | exact (e_i3 hok (show (a.getD 0 (0, 0)).1 = 4 by omega) (decide_eq_false (by assumption))).1 (by assumption) | exact (e_i3 hok (show (a.getD 0 (0, 0)).1 = 4 by omega) (decide_eq_false (by assumption))).2 (by assumption)) | (exfalso; omega)))
        · refine R.go 5 (R.slL eN a 1 1 (by kernel_rfl) rfl eN_len (by first | omega | (have hf := nf_facts2 hok (by omega) p; omega) | (have hf := nf_facts1 hok (by omega) p; omega) | (simp; omega)) (by kernel_rfl) ?_)
          refine R.go 1 (R.call true (ih ((a.drop 1).length) (by first | omega | (have hf := nf_facts2 hok (by omega) p; omega) | (have hf := nf_facts1 hok (by omega) p; omega) | (simp; omega)) nv (a.drop 1) p (by first | rfl | simp) (by first | assumption | exact okm_lef hok ((partsN_two _).2 (by omega)) | exact okm_rig hok ((partsN_two _).2 (by omega)) | exact okm_tail hok (partsN_1 (by omega)) | exact hq.1) (by first | omega | (have hf := nf_facts2 hok (by omega) p; omega) | (have hf := nf_facts1 hok (by omega) p; omega) | (simp; omega))) (by kernel_rfl) rfl (by kernel_rfl) ?_)
          refine R.call false (l02Pre_c ((a.getD 0 (0, 0)).1) (nfA (a.drop 1) p) (by first | omega | (have hf := nf_facts2 hok (by omega) p; omega) | (have hf := nf_facts1 hok (by omega) p; omega) | (simp; omega))) (by kernel_rfl) (ownA_closed eN_closed 89 2 ((((a.getD 0 (0, 0)).1), 0) :: (nfA (a.drop 1) p))) (by kernel_rfl) ?_
          exact R.go 2 (R.retE (ownA eN 89 2 ((((a.getD 0 (0, 0)).1), 0) :: (nfA (a.drop 1) p))) (by kernel_rfl) (by kernel_rfl) (by first | (apply congrArg (ownA eN _ 2); first | exact e_varT hok (by assumption) (by assumption) | exact e_varF hok (by assumption) (by assumption) | exact (e_bot hok (by assumption)).1 (by assumption) | exact (e_bot hok (by assumption)).2 (by assumption) | exact e_oneT hok (partsN_1 (by omega)) (by assumption) | exact e_oneF hok (partsN_1 (by omega)) (by assumption) | exact e_twoT hok ((partsN_two _).2 (by omega)) (by omega) (by assumption) | exact e_twoF hok ((partsN_two _).2 (by omega)) (by omega) (by assumption) | exact (e_i1 hok (show (a.getD 0 (0, 0)).1 = 4 by omega) (decide_eq_true (by assumption)) (decide_eq_true (by assumption))).1 (by assumption) | exact (e_i1 hok (show (a.getD 0 (0, 0)).1 = 4 by omega) (decide_eq_true (by assumption)) (decide_eq_true (by assumption))).2 (by assumption) | exact e_i2 hok (show (a.getD 0 (0, 0)).1 = 4 by omega) (decide_eq_false (by assumption)) (decide_eq_true (by assumption)) | exact (e_i3 hok (show (a.getD 0 (0, 0)).1 = 4 by omega) (decide_eq_false (by assumption))).1 (by assumption) | exact (e_i3 hok (show (a.getD 0 (0, 0)).1 = 4 by omega) (decide_eq_false (by assumption))).2 (by assumption)) | (exfalso; omega)))
      · refine R.go 4 (R.cond (((a.getD 0 (0, 0)).1) = 6) (by kernel_rfl) (fun c7 => ?_) (fun c7 => ?_))
        · refine R.go 3 (R.idx eN a (0, 0) 0 0 (by kernel_rfl) rfl eN_len (by first | omega | (have hf := nf_facts2 hok (by omega) p; omega) | (have hf := nf_facts1 hok (by omega) p; omega) | (simp; omega)) (by kernel_rfl) ?_)
          refine R.go 10 (R.condM (p) (by kernel_rfl) (fun c8 => ?_) (fun c8 => ?_))
          · refine R.go 2 (R.ar (11 - ((a.getD 0 (0, 0)).1)) (by kernel_rfl) (by first | omega | (have hf := nf_facts2 hok (by omega) p; omega) | (have hf := nf_facts1 hok (by omega) p; omega) | (simp; omega)) (by first | omega | (have hf := nf_facts2 hok (by omega) p; omega) | (have hf := nf_facts1 hok (by omega) p; omega) | (simp; omega)) (by kernel_rfl) ?_)
            refine R.go 6 (R.slL eN a 1 1 (by kernel_rfl) rfl eN_len (by first | omega | (have hf := nf_facts2 hok (by omega) p; omega) | (have hf := nf_facts1 hok (by omega) p; omega) | (simp; omega)) (by kernel_rfl) ?_)
            refine R.go 1 (R.call true (ih ((a.drop 1).length) (by first | omega | (have hf := nf_facts2 hok (by omega) p; omega) | (have hf := nf_facts1 hok (by omega) p; omega) | (simp; omega)) nv (a.drop 1) p (by first | rfl | simp) (by first | assumption | exact okm_lef hok ((partsN_two _).2 (by omega)) | exact okm_rig hok ((partsN_two _).2 (by omega)) | exact okm_tail hok (partsN_1 (by omega)) | exact hq.1) (by first | omega | (have hf := nf_facts2 hok (by omega) p; omega) | (have hf := nf_facts1 hok (by omega) p; omega) | (simp; omega))) (by kernel_rfl) rfl (by kernel_rfl) ?_)
            refine R.call false (l02Pre_c (11 - ((a.getD 0 (0, 0)).1)) (nfA (a.drop 1) p) (by first | omega | (have hf := nf_facts2 hok (by omega) p; omega) | (have hf := nf_facts1 hok (by omega) p; omega) | (simp; omega))) (by kernel_rfl) (ownA_closed eN_closed 89 2 (((11 - ((a.getD 0 (0, 0)).1)), 0) :: (nfA (a.drop 1) p))) (by kernel_rfl) ?_
            exact R.go 2 (R.retE (ownA eN 89 2 (((11 - ((a.getD 0 (0, 0)).1)), 0) :: (nfA (a.drop 1) p))) (by kernel_rfl) (by kernel_rfl) (by first | (apply congrArg (ownA eN _ 2); first | exact e_varT hok (by assumption) (by assumption) | exact e_varF hok (by assumption) (by assumption) | exact (e_bot hok (by assumption)).1 (by assumption) | exact (e_bot hok (by assumption)).2 (by assumption) | exact e_oneT hok (partsN_1 (by omega)) (by assumption) | exact e_oneF hok (partsN_1 (by omega)) (by assumption) | exact e_twoT hok ((partsN_two _).2 (by omega)) (by omega) (by assumption) | exact e_twoF hok ((partsN_two _).2 (by omega)) (by omega) (by assumption) | exact (e_i1 hok (show (a.getD 0 (0, 0)).1 = 4 by omega) (decide_eq_true (by assumption)) (decide_eq_true (by assumption))).1 (by assumption) | exact (e_i1 hok (show (a.getD 0 (0, 0)).1 = 4 by omega) (decide_eq_true (by assumption)) (decide_eq_true (by assumption))).2 (by assumption) | exact e_i2 hok (show (a.getD 0 (0, 0)).1 = 4 by omega) (decide_eq_false (by assumption)) (decide_eq_true (by assumption)) | exact (e_i3 hok (show (a.getD 0 (0, 0)).1 = 4 by omega) (decide_eq_false (by assumption))).1 (by assumption) | exact (e_i3 hok (show (a.getD 0 (0, 0)).1 = 4 by omega) (decide_eq_false (by assumption))).2 (by assumption)) | (exfalso; omega)))
          · refine R.go 5 (R.slL eN a 1 1 (by kernel_rfl) rfl eN_len (by first | omega | (have hf := nf_facts2 hok (by omega) p; omega) | (have hf := nf_facts1 hok (by omega) p; omega) | (simp; omega)) (by kernel_rfl) ?_)
            refine R.go 1 (R.call true (ih ((a.drop 1).length) (by first | omega | (have hf := nf_facts2 hok (by omega) p; omega) | (have hf := nf_facts1 hok (by omega) p; omega) | (simp; omega)) nv (a.drop 1) p (by first | rfl | simp) (by first | assumption | exact okm_lef hok ((partsN_two _).2 (by omega)) | exact okm_rig hok ((partsN_two _).2 (by omega)) | exact okm_tail hok (partsN_1 (by omega)) | exact hq.1) (by first | omega | (have hf := nf_facts2 hok (by omega) p; omega) | (have hf := nf_facts1 hok (by omega) p; omega) | (simp; omega))) (by kernel_rfl) rfl (by kernel_rfl) ?_)
            refine R.call false (l02Pre_c ((a.getD 0 (0, 0)).1) (nfA (a.drop 1) p) (by first | omega | (have hf := nf_facts2 hok (by omega) p; omega) | (have hf := nf_facts1 hok (by omega) p; omega) | (simp; omega))) (by kernel_rfl) (ownA_closed eN_closed 89 2 ((((a.getD 0 (0, 0)).1), 0) :: (nfA (a.drop 1) p))) (by kernel_rfl) ?_
            exact R.go 2 (R.retE (ownA eN 89 2 ((((a.getD 0 (0, 0)).1), 0) :: (nfA (a.drop 1) p))) (by kernel_rfl) (by kernel_rfl) (by first | (apply congrArg (ownA eN _ 2); first | exact e_varT hok (by assumption) (by assumption) | exact e_varF hok (by assumption) (by assumption) | exact (e_bot hok (by assumption)).1 (by assumption) | exact (e_bot hok (by assumption)).2 (by assumption) | exact e_oneT hok (partsN_1 (by omega)) (by assumption) | exact e_oneF hok (partsN_1 (by omega)) (by assumption) | exact e_twoT hok ((partsN_two _).2 (by omega)) (by omega) (by assumption) | exact e_twoF hok ((partsN_two _).2 (by omega)) (by omega) (by assumption) | exact (e_i1 hok (show (a.getD 0 (0, 0)).1 = 4 by omega) (decide_eq_true (by assumption)) (decide_eq_true (by assumption))).1 (by assumption) | exact (e_i1 hok (show (a.getD 0 (0, 0)).1 = 4 by omega) (decide_eq_true (by assumption)) (decide_eq_true (by assumption))).2 (by assumption) | exact e_i2 hok (show (a.getD 0 (0, 0)).1 = 4 by omega) (decide_eq_false (by assumption)) (decide_eq_true (by assumption)) | exact (e_i3 hok (show (a.getD 0 (0, 0)).1 = 4 by omega) (decide_eq_false (by assumption))).1 (by assumption) | exact (e_i3 hok (show (a.getD 0 (0, 0)).1 = 4 by omega) (decide_eq_false (by assumption))).2 (by assumption)) | (exfalso; omega)))
        · refine R.go 6 (R.cond (((a.getD 0 (0, 0)).1) = 2) (by kernel_rfl) (fun c9 => ?_) (fun c9 => ?_))
          · refine R.go 1 (R.thn (decide (((a.getD 0 (0, 0)).1) = 2)) (by kernel_rfl) (dT c9) ?_)
            refine R.go 3 (R.idx eN a (0, 0) 0 0 (by kernel_rfl) rfl eN_len (by first | omega | (have hf := nf_facts2 hok (by omega) p; omega) | (have hf := nf_facts1 hok (by omega) p; omega) | (simp; omega)) (by kernel_rfl) ?_)
            refine R.go 10 (R.condM (p) (by kernel_rfl) (fun c10 => ?_) (fun c10 => ?_))
            · refine R.go 2 (R.ar (5 - ((a.getD 0 (0, 0)).1)) (by kernel_rfl) (by first | omega | (have hf := nf_facts2 hok (by omega) p; omega) | (have hf := nf_facts1 hok (by omega) p; omega) | (simp; omega)) (by first | omega | (have hf := nf_facts2 hok (by omega) p; omega) | (have hf := nf_facts1 hok (by omega) p; omega) | (simp; omega)) (by kernel_rfl) ?_)
              refine R.go 6 (R.call true (l02Left_c nv a hok (by exact (partsN_two _).2 (by omega)) (by first | omega | (have hf := nf_facts2 hok (by omega) p; omega) | (have hf := nf_facts1 hok (by omega) p; omega) | (simp; omega))) (by kernel_rfl) rfl (by kernel_rfl) ?_)
              refine R.go 1 (R.call true (ih ((lef a).length) (by first | omega | (have hf := nf_facts2 hok (by omega) p; omega) | (have hf := nf_facts1 hok (by omega) p; omega) | (simp; omega)) nv (lef a) p (by first | rfl | simp) (by first | assumption | exact okm_lef hok ((partsN_two _).2 (by omega)) | exact okm_rig hok ((partsN_two _).2 (by omega)) | exact okm_tail hok (partsN_1 (by omega)) | exact hq.1) (by first | omega | (have hf := nf_facts2 hok (by omega) p; omega) | (have hf := nf_facts1 hok (by omega) p; omega) | (simp; omega))) (by kernel_rfl) rfl (by kernel_rfl) ?_)
              refine R.go 1 (R.call true (l02Right_c nv a hok (by exact (partsN_two _).2 (by omega)) (by first | omega | (have hf := nf_facts2 hok (by omega) p; omega) | (have hf := nf_facts1 hok (by omega) p; omega) | (simp; omega))) (by kernel_rfl) rfl (by kernel_rfl) ?_)
              refine R.go 1 (R.call true (ih ((rig a).length) (by first | omega | (have hf := nf_facts2 hok (by omega) p; omega) | (have hf := nf_facts1 hok (by omega) p; omega) | (simp; omega)) nv (rig a) p (by first | rfl | simp) (by first | assumption | exact okm_lef hok ((partsN_two _).2 (by omega)) | exact okm_rig hok ((partsN_two _).2 (by omega)) | exact okm_tail hok (partsN_1 (by omega)) | exact hq.1) (by first | omega | (have hf := nf_facts2 hok (by omega) p; omega) | (have hf := nf_facts1 hok (by omega) p; omega) | (simp; omega))) (by kernel_rfl) rfl (by kernel_rfl) ?_)
              refine R.call false (l02Pair_c (5 - ((a.getD 0 (0, 0)).1)) (nfA (lef a) p) (nfA (rig a) p) (by first | omega | (have hf := nf_facts2 hok (by omega) p; omega) | (have hf := nf_facts1 hok (by omega) p; omega) | (simp; omega)) (by first | omega | (have hf := nf_facts2 hok (by omega) p; omega) | (have hf := nf_facts1 hok (by omega) p; omega) | (simp; omega))) (by kernel_rfl) (ownA_closed eN_closed 89 2 (((5 - ((a.getD 0 (0, 0)).1)), 0) :: ((nfA (lef a) p) ++ (nfA (rig a) p)))) (by kernel_rfl) ?_
              exact R.go 2 (R.retE (ownA eN 89 2 (((5 - ((a.getD 0 (0, 0)).1)), 0) :: ((nfA (lef a) p) ++ (nfA (rig a) p)))) (by kernel_rfl) (by kernel_rfl) (by first | (apply congrArg (ownA eN _ 2); first | exact e_varT hok (by assumption) (by assumption) | exact e_varF hok (by assumption) (by assumption) | exact (e_bot hok (by assumption)).1 (by assumption) | exact (e_bot hok (by assumption)).2 (by assumption) | exact e_oneT hok (partsN_1 (by omega)) (by assumption) | exact e_oneF hok (partsN_1 (by omega)) (by assumption) | exact e_twoT hok ((partsN_two _).2 (by omega)) (by omega) (by assumption) | exact e_twoF hok ((partsN_two _).2 (by omega)) (by omega) (by assumption) | exact (e_i1 hok (show (a.getD 0 (0, 0)).1 = 4 by omega) (decide_eq_true (by assumption)) (decide_eq_true (by assumption))).1 (by assumption) | exact (e_i1 hok (show (a.getD 0 (0, 0)).1 = 4 by omega) (decide_eq_true (by assumption)) (decide_eq_true (by assumption))).2 (by assumption) | exact e_i2 hok (show (a.getD 0 (0, 0)).1 = 4 by omega) (decide_eq_false (by assumption)) (decide_eq_true (by assumption)) | exact (e_i3 hok (show (a.getD 0 (0, 0)).1 = 4 by omega) (decide_eq_false (by assumption))).1 (by assumption) | exact (e_i3 hok (show (a.getD 0 (0, 0)).1 = 4 by omega) (decide_eq_false (by assumption))).2 (by assumption)) | (exfalso; omega)))
            · refine R.go 5 (R.call true (l02Left_c nv a hok (by exact (partsN_two _).2 (by omega)) (by first | omega | (have hf := nf_facts2 hok (by omega) p; omega) | (have hf := nf_facts1 hok (by omega) p; omega) | (simp; omega))) (by kernel_rfl) rfl (by kernel_rfl) ?_)
              refine R.go 1 (R.call true (ih ((lef a).length) (by first | omega | (have hf := nf_facts2 hok (by omega) p; omega) | (have hf := nf_facts1 hok (by omega) p; omega) | (simp; omega)) nv (lef a) p (by first | rfl | simp) (by first | assumption | exact okm_lef hok ((partsN_two _).2 (by omega)) | exact okm_rig hok ((partsN_two _).2 (by omega)) | exact okm_tail hok (partsN_1 (by omega)) | exact hq.1) (by first | omega | (have hf := nf_facts2 hok (by omega) p; omega) | (have hf := nf_facts1 hok (by omega) p; omega) | (simp; omega))) (by kernel_rfl) rfl (by kernel_rfl) ?_)
              refine R.go 1 (R.call true (l02Right_c nv a hok (by exact (partsN_two _).2 (by omega)) (by first | omega | (have hf := nf_facts2 hok (by omega) p; omega) | (have hf := nf_facts1 hok (by omega) p; omega) | (simp; omega))) (by kernel_rfl) rfl (by kernel_rfl) ?_)
              refine R.go 1 (R.call true (ih ((rig a).length) (by first | omega | (have hf := nf_facts2 hok (by omega) p; omega) | (have hf := nf_facts1 hok (by omega) p; omega) | (simp; omega)) nv (rig a) p (by first | rfl | simp) (by first | assumption | exact okm_lef hok ((partsN_two _).2 (by omega)) | exact okm_rig hok ((partsN_two _).2 (by omega)) | exact okm_tail hok (partsN_1 (by omega)) | exact hq.1) (by first | omega | (have hf := nf_facts2 hok (by omega) p; omega) | (have hf := nf_facts1 hok (by omega) p; omega) | (simp; omega))) (by kernel_rfl) rfl (by kernel_rfl) ?_)
              refine R.call false (l02Pair_c ((a.getD 0 (0, 0)).1) (nfA (lef a) p) (nfA (rig a) p) (by first | omega | (have hf := nf_facts2 hok (by omega) p; omega) | (have hf := nf_facts1 hok (by omega) p; omega) | (simp; omega)) (by first | omega | (have hf := nf_facts2 hok (by omega) p; omega) | (have hf := nf_facts1 hok (by omega) p; omega) | (simp; omega))) (by kernel_rfl) (ownA_closed eN_closed 89 2 ((((a.getD 0 (0, 0)).1), 0) :: ((nfA (lef a) p) ++ (nfA (rig a) p)))) (by kernel_rfl) ?_
              exact R.go 2 (R.retE (ownA eN 89 2 ((((a.getD 0 (0, 0)).1), 0) :: ((nfA (lef a) p) ++ (nfA (rig a) p)))) (by kernel_rfl) (by kernel_rfl) (by first | (apply congrArg (ownA eN _ 2); first | exact e_varT hok (by assumption) (by assumption) | exact e_varF hok (by assumption) (by assumption) | exact (e_bot hok (by assumption)).1 (by assumption) | exact (e_bot hok (by assumption)).2 (by assumption) | exact e_oneT hok (partsN_1 (by omega)) (by assumption) | exact e_oneF hok (partsN_1 (by omega)) (by assumption) | exact e_twoT hok ((partsN_two _).2 (by omega)) (by omega) (by assumption) | exact e_twoF hok ((partsN_two _).2 (by omega)) (by omega) (by assumption) | exact (e_i1 hok (show (a.getD 0 (0, 0)).1 = 4 by omega) (decide_eq_true (by assumption)) (decide_eq_true (by assumption))).1 (by assumption) | exact (e_i1 hok (show (a.getD 0 (0, 0)).1 = 4 by omega) (decide_eq_true (by assumption)) (decide_eq_true (by assumption))).2 (by assumption) | exact e_i2 hok (show (a.getD 0 (0, 0)).1 = 4 by omega) (decide_eq_false (by assumption)) (decide_eq_true (by assumption)) | exact (e_i3 hok (show (a.getD 0 (0, 0)).1 = 4 by omega) (decide_eq_false (by assumption))).1 (by assumption) | exact (e_i3 hok (show (a.getD 0 (0, 0)).1 = 4 by omega) (decide_eq_false (by assumption))).2 (by assumption)) | (exfalso; omega)))
          · refine R.go 4 (R.cond (((a.getD 0 (0, 0)).1) = 3) (by kernel_rfl) (fun c11 => ?_) (fun c11 => ?_))
            · refine R.go 3 (R.idx eN a (0, 0) 0 0 (by kernel_rfl) rfl eN_len (by first | omega | (have hf := nf_facts2 hok (by omega) p; omega) | (have hf := nf_facts1 hok (by omega) p; omega) | (simp; omega)) (by kernel_rfl) ?_)
              refine R.go 10 (R.condM (p) (by kernel_rfl) (fun c12 => ?_) (fun c12 => ?_))
              · refine R.go 2 (R.ar (5 - ((a.getD 0 (0, 0)).1)) (by kernel_rfl) (by first | omega | (have hf := nf_facts2 hok (by omega) p; omega) | (have hf := nf_facts1 hok (by omega) p; omega) | (simp; omega)) (by first | omega | (have hf := nf_facts2 hok (by omega) p; omega) | (have hf := nf_facts1 hok (by omega) p; omega) | (simp; omega)) (by kernel_rfl) ?_)
                refine R.go 6 (R.call true (l02Left_c nv a hok (by exact (partsN_two _).2 (by omega)) (by first | omega | (have hf := nf_facts2 hok (by omega) p; omega) | (have hf := nf_facts1 hok (by omega) p; omega) | (simp; omega))) (by kernel_rfl) rfl (by kernel_rfl) ?_)
                refine R.go 1 (R.call true (ih ((lef a).length) (by first | omega | (have hf := nf_facts2 hok (by omega) p; omega) | (have hf := nf_facts1 hok (by omega) p; omega) | (simp; omega)) nv (lef a) p (by first | rfl | simp) (by first | assumption | exact okm_lef hok ((partsN_two _).2 (by omega)) | exact okm_rig hok ((partsN_two _).2 (by omega)) | exact okm_tail hok (partsN_1 (by omega)) | exact hq.1) (by first | omega | (have hf := nf_facts2 hok (by omega) p; omega) | (have hf := nf_facts1 hok (by omega) p; omega) | (simp; omega))) (by kernel_rfl) rfl (by kernel_rfl) ?_)
                refine R.go 1 (R.call true (l02Right_c nv a hok (by exact (partsN_two _).2 (by omega)) (by first | omega | (have hf := nf_facts2 hok (by omega) p; omega) | (have hf := nf_facts1 hok (by omega) p; omega) | (simp; omega))) (by kernel_rfl) rfl (by kernel_rfl) ?_)
                refine R.go 1 (R.call true (ih ((rig a).length) (by first | omega | (have hf := nf_facts2 hok (by omega) p; omega) | (have hf := nf_facts1 hok (by omega) p; omega) | (simp; omega)) nv (rig a) p (by first | rfl | simp) (by first | assumption | exact okm_lef hok ((partsN_two _).2 (by omega)) | exact okm_rig hok ((partsN_two _).2 (by omega)) | exact okm_tail hok (partsN_1 (by omega)) | exact hq.1) (by first | omega | (have hf := nf_facts2 hok (by omega) p; omega) | (have hf := nf_facts1 hok (by omega) p; omega) | (simp; omega))) (by kernel_rfl) rfl (by kernel_rfl) ?_)
                refine R.call false (l02Pair_c (5 - ((a.getD 0 (0, 0)).1)) (nfA (lef a) p) (nfA (rig a) p) (by first | omega | (have hf := nf_facts2 hok (by omega) p; omega) | (have hf := nf_facts1 hok (by omega) p; omega) | (simp; omega)) (by first | omega | (have hf := nf_facts2 hok (by omega) p; omega) | (have hf := nf_facts1 hok (by omega) p; omega) | (simp; omega))) (by kernel_rfl) (ownA_closed eN_closed 89 2 (((5 - ((a.getD 0 (0, 0)).1)), 0) :: ((nfA (lef a) p) ++ (nfA (rig a) p)))) (by kernel_rfl) ?_
                exact R.go 2 (R.retE (ownA eN 89 2 (((5 - ((a.getD 0 (0, 0)).1)), 0) :: ((nfA (lef a) p) ++ (nfA (rig a) p)))) (by kernel_rfl) (by kernel_rfl) (by first | (apply congrArg (ownA eN _ 2); first | exact e_varT hok (by assumption) (by assumption) | exact e_varF hok (by assumption) (by assumption) | exact (e_bot hok (by assumption)).1 (by assumption) | exact (e_bot hok (by assumption)).2 (by assumption) | exact e_oneT hok (partsN_1 (by omega)) (by assumption) | exact e_oneF hok (partsN_1 (by omega)) (by assumption) | exact e_twoT hok ((partsN_two _).2 (by omega)) (by omega) (by assumption) | exact e_twoF hok ((partsN_two _).2 (by omega)) (by omega) (by assumption) | exact (e_i1 hok (show (a.getD 0 (0, 0)).1 = 4 by omega) (decide_eq_true (by assumption)) (decide_eq_true (by assumption))).1 (by assumption) | exact (e_i1 hok (show (a.getD 0 (0, 0)).1 = 4 by omega) (decide_eq_true (by assumption)) (decide_eq_true (by assumption))).2 (by assumption) | exact e_i2 hok (show (a.getD 0 (0, 0)).1 = 4 by omega) (decide_eq_false (by assumption)) (decide_eq_true (by assumption)) | exact (e_i3 hok (show (a.getD 0 (0, 0)).1 = 4 by omega) (decide_eq_false (by assumption))).1 (by assumption) | exact (e_i3 hok (show (a.getD 0 (0, 0)).1 = 4 by omega) (decide_eq_false (by assumption))).2 (by assumption)) | (exfalso; omega)))
              · refine R.go 5 (R.call true (l02Left_c nv a hok (by exact (partsN_two _).2 (by omega)) (by first | omega | (have hf := nf_facts2 hok (by omega) p; omega) | (have hf := nf_facts1 hok (by omega) p; omega) | (simp; omega))) (by kernel_rfl) rfl (by kernel_rfl) ?_)
                refine R.go 1 (R.call true (ih ((lef a).length) (by first | omega | (have hf := nf_facts2 hok (by omega) p; omega) | (have hf := nf_facts1 hok (by omega) p; omega) | (simp; omega)) nv (lef a) p (by first | rfl | simp) (by first | assumption | exact okm_lef hok ((partsN_two _).2 (by omega)) | exact okm_rig hok ((partsN_two _).2 (by omega)) | exact okm_tail hok (partsN_1 (by omega)) | exact hq.1) (by first | omega | (have hf := nf_facts2 hok (by omega) p; omega) | (have hf := nf_facts1 hok (by omega) p; omega) | (simp; omega))) (by kernel_rfl) rfl (by kernel_rfl) ?_)
                refine R.go 1 (R.call true (l02Right_c nv a hok (by exact (partsN_two _).2 (by omega)) (by first | omega | (have hf := nf_facts2 hok (by omega) p; omega) | (have hf := nf_facts1 hok (by omega) p; omega) | (simp; omega))) (by kernel_rfl) rfl (by kernel_rfl) ?_)
                refine R.go 1 (R.call true (ih ((rig a).length) (by first | omega | (have hf := nf_facts2 hok (by omega) p; omega) | (have hf := nf_facts1 hok (by omega) p; omega) | (simp; omega)) nv (rig a) p (by first | rfl | simp) (by first | assumption | exact okm_lef hok ((partsN_two _).2 (by omega)) | exact okm_rig hok ((partsN_two _).2 (by omega)) | exact okm_tail hok (partsN_1 (by omega)) | exact hq.1) (by first | omega | (have hf := nf_facts2 hok (by omega) p; omega) | (have hf := nf_facts1 hok (by omega) p; omega) | (simp; omega))) (by kernel_rfl) rfl (by kernel_rfl) ?_)
                refine R.call false (l02Pair_c ((a.getD 0 (0, 0)).1) (nfA (lef a) p) (nfA (rig a) p) (by first | omega | (have hf := nf_facts2 hok (by omega) p; omega) | (have hf := nf_facts1 hok (by omega) p; omega) | (simp; omega)) (by first | omega | (have hf := nf_facts2 hok (by omega) p; omega) | (have hf := nf_facts1 hok (by omega) p; omega) | (simp; omega))) (by kernel_rfl) (ownA_closed eN_closed 89 2 ((((a.getD 0 (0, 0)).1), 0) :: ((nfA (lef a) p) ++ (nfA (rig a) p)))) (by kernel_rfl) ?_
                exact R.go 2 (R.retE (ownA eN 89 2 ((((a.getD 0 (0, 0)).1), 0) :: ((nfA (lef a) p) ++ (nfA (rig a) p)))) (by kernel_rfl) (by kernel_rfl) (by first | (apply congrArg (ownA eN _ 2); first | exact e_varT hok (by assumption) (by assumption) | exact e_varF hok (by assumption) (by assumption) | exact (e_bot hok (by assumption)).1 (by assumption) | exact (e_bot hok (by assumption)).2 (by assumption) | exact e_oneT hok (partsN_1 (by omega)) (by assumption) | exact e_oneF hok (partsN_1 (by omega)) (by assumption) | exact e_twoT hok ((partsN_two _).2 (by omega)) (by omega) (by assumption) | exact e_twoF hok ((partsN_two _).2 (by omega)) (by omega) (by assumption) | exact (e_i1 hok (show (a.getD 0 (0, 0)).1 = 4 by omega) (decide_eq_true (by assumption)) (decide_eq_true (by assumption))).1 (by assumption) | exact (e_i1 hok (show (a.getD 0 (0, 0)).1 = 4 by omega) (decide_eq_true (by assumption)) (decide_eq_true (by assumption))).2 (by assumption) | exact e_i2 hok (show (a.getD 0 (0, 0)).1 = 4 by omega) (decide_eq_false (by assumption)) (decide_eq_true (by assumption)) | exact (e_i3 hok (show (a.getD 0 (0, 0)).1 = 4 by omega) (decide_eq_false (by assumption))).1 (by assumption) | exact (e_i3 hok (show (a.getD 0 (0, 0)).1 = 4 by omega) (decide_eq_false (by assumption))).2 (by assumption)) | (exfalso; omega)))
            · refine R.go 5 (R.call true (l02Left_c nv a hok (by exact (partsN_two _).2 (by omega)) (by first | omega | (have hf := nf_facts2 hok (by omega) p; omega) | (have hf := nf_facts1 hok (by omega) p; omega) | (simp; omega))) (by kernel_rfl) rfl (by kernel_rfl) ?_)
              refine R.go 1 (R.call true (l02Right_c nv a hok (by exact (partsN_two _).2 (by omega)) (by first | omega | (have hf := nf_facts2 hok (by omega) p; omega) | (have hf := nf_facts1 hok (by omega) p; omega) | (simp; omega))) (by kernel_rfl) rfl (by kernel_rfl) ?_)
              refine R.go 8 (R.idx eN (lef a) (0, 0) 0 0 (by kernel_rfl) rfl eN_len (by first | omega | (have hf := nf_facts2 hok (by omega) p; omega) | (have hf := nf_facts1 hok (by omega) p; omega) | (simp; omega)) (by kernel_rfl) ?_)
              refine R.go 4 ?_
              by_cases c13 : (((lef a).getD 0 (0, 0)).1) = 1
              · refine R.want (decide ((((lef a).getD 0 (0, 0)).1) = 1)) true (by kernel_rfl) (dT c13) ?_
                refine R.go 1 (R.want (decide ((((lef a).getD 0 (0, 0)).1) = 1)) true (by kernel_rfl) (dT c13) ?_)
                refine R.idx eN (rig a) (0, 0) 0 0 (by kernel_rfl) rfl eN_len (by first | omega | (have hf := nf_facts2 hok (by omega) p; omega) | (have hf := nf_facts1 hok (by omega) p; omega) | (simp; omega)) (by kernel_rfl) ?_
                refine R.want (decide ((((lef a).getD 0 (0, 0)).1) = 1)) true (by kernel_rfl) (dT c13) ?_
                refine R.go 1 (R.want (decide ((((lef a).getD 0 (0, 0)).1) = 1)) true (by kernel_rfl) (dT c13) ?_)
                refine R.go 1 (R.want (decide ((((lef a).getD 0 (0, 0)).1) = 1)) true (by kernel_rfl) (dT c13) ?_)
                refine R.go 1 (R.pick (decide ((((lef a).getD 0 (0, 0)).1) = 1)) true (by kernel_rfl) (dT c13) (by kernel_rfl) ?_)
                refine R.go 1 ?_
                by_cases c14 : (((rig a).getD 0 (0, 0)).1) = 1
                · refine R.want (decide ((((rig a).getD 0 (0, 0)).1) = 1)) true (by kernel_rfl) (dT c14) ?_
                  refine R.go 1 (R.pick (decide ((((rig a).getD 0 (0, 0)).1) = 1)) true (by kernel_rfl) (dT c14) (by kernel_rfl) ?_)
                  refine R.go 2 (R.condB (p) (by kernel_rfl) (fun c15 => ?_) (fun c15 => ?_))
                  · refine R.go 2 (R.call true (l02True_c) (by kernel_rfl) rfl (by kernel_rfl) ?_)
                    exact R.go 2 (R.retE (ownA eN 89 2 [(4, 0), (1, 0), (1, 0)]) (by kernel_rfl) (by kernel_rfl) (by first | (apply congrArg (ownA eN _ 2); first | exact e_varT hok (by assumption) (by assumption) | exact e_varF hok (by assumption) (by assumption) | exact (e_bot hok (by assumption)).1 (by assumption) | exact (e_bot hok (by assumption)).2 (by assumption) | exact e_oneT hok (partsN_1 (by omega)) (by assumption) | exact e_oneF hok (partsN_1 (by omega)) (by assumption) | exact e_twoT hok ((partsN_two _).2 (by omega)) (by omega) (by assumption) | exact e_twoF hok ((partsN_two _).2 (by omega)) (by omega) (by assumption) | exact (e_i1 hok (show (a.getD 0 (0, 0)).1 = 4 by omega) (decide_eq_true (by assumption)) (decide_eq_true (by assumption))).1 (by assumption) | exact (e_i1 hok (show (a.getD 0 (0, 0)).1 = 4 by omega) (decide_eq_true (by assumption)) (decide_eq_true (by assumption))).2 (by assumption) | exact e_i2 hok (show (a.getD 0 (0, 0)).1 = 4 by omega) (decide_eq_false (by assumption)) (decide_eq_true (by assumption)) | exact (e_i3 hok (show (a.getD 0 (0, 0)).1 = 4 by omega) (decide_eq_false (by assumption))).1 (by assumption) | exact (e_i3 hok (show (a.getD 0 (0, 0)).1 = 4 by omega) (decide_eq_false (by assumption))).2 (by assumption)) | (exfalso; omega)))
                  · refine R.go 3 (R.idx eN (lef a) (0, 0) 0 0 (by kernel_rfl) rfl eN_len (by first | omega | (have hf := nf_facts2 hok (by omega) p; omega) | (have hf := nf_facts1 hok (by omega) p; omega) | (simp; omega)) (by kernel_rfl) ?_)
                    refine R.go 4 (R.want (decide ((((lef a).getD 0 (0, 0)).1) = 1)) true (by kernel_rfl) (dT c13) ?_)
                    refine R.go 1 (R.want (decide ((((lef a).getD 0 (0, 0)).1) = 1)) true (by kernel_rfl) (dT c13) ?_)
                    refine R.idx eN (rig a) (0, 0) 0 0 (by kernel_rfl) rfl eN_len (by first | omega | (have hf := nf_facts2 hok (by omega) p; omega) | (have hf := nf_facts1 hok (by omega) p; omega) | (simp; omega)) (by kernel_rfl) ?_
                    refine R.want (decide ((((lef a).getD 0 (0, 0)).1) = 1)) true (by kernel_rfl) (dT c13) ?_
                    refine R.go 1 (R.want (decide ((((lef a).getD 0 (0, 0)).1) = 1)) true (by kernel_rfl) (dT c13) ?_)
                    refine R.go 1 (R.want (decide ((((lef a).getD 0 (0, 0)).1) = 1)) true (by kernel_rfl) (dT c13) ?_)
                    refine R.go 1 (R.pick (decide ((((lef a).getD 0 (0, 0)).1) = 1)) true (by kernel_rfl) (dT c13) (by kernel_rfl) ?_)
                    refine R.go 2 (R.thn (decide ((((rig a).getD 0 (0, 0)).1) = 1)) (by kernel_rfl) (dT c14) ?_)
                    refine R.go 2 (R.call true (l02False_c) (by kernel_rfl) rfl (by kernel_rfl) ?_)
                    exact R.go 2 (R.retE (ownA eN 89 2 [(1, 0)]) (by kernel_rfl) (by kernel_rfl) (by first | (apply congrArg (ownA eN _ 2); first | exact e_varT hok (by assumption) (by assumption) | exact e_varF hok (by assumption) (by assumption) | exact (e_bot hok (by assumption)).1 (by assumption) | exact (e_bot hok (by assumption)).2 (by assumption) | exact e_oneT hok (partsN_1 (by omega)) (by assumption) | exact e_oneF hok (partsN_1 (by omega)) (by assumption) | exact e_twoT hok ((partsN_two _).2 (by omega)) (by omega) (by assumption) | exact e_twoF hok ((partsN_two _).2 (by omega)) (by omega) (by assumption) | exact (e_i1 hok (show (a.getD 0 (0, 0)).1 = 4 by omega) (decide_eq_true (by assumption)) (decide_eq_true (by assumption))).1 (by assumption) | exact (e_i1 hok (show (a.getD 0 (0, 0)).1 = 4 by omega) (decide_eq_true (by assumption)) (decide_eq_true (by assumption))).2 (by assumption) | exact e_i2 hok (show (a.getD 0 (0, 0)).1 = 4 by omega) (decide_eq_false (by assumption)) (decide_eq_true (by assumption)) | exact (e_i3 hok (show (a.getD 0 (0, 0)).1 = 4 by omega) (decide_eq_false (by assumption))).1 (by assumption) | exact (e_i3 hok (show (a.getD 0 (0, 0)).1 = 4 by omega) (decide_eq_false (by assumption))).2 (by assumption)) | (exfalso; omega)))
                · refine R.skp (decide ((((rig a).getD 0 (0, 0)).1) = 1)) true (by kernel_rfl) (dF c14) (by kernel_rfl) ?_
                  refine R.pick (decide ((((rig a).getD 0 (0, 0)).1) = 1)) false (by kernel_rfl) (dF c14) (by kernel_rfl) ?_
                  refine R.go 6 (R.idx eN (lef a) (0, 0) 0 0 (by kernel_rfl) rfl eN_len (by first | omega | (have hf := nf_facts2 hok (by omega) p; omega) | (have hf := nf_facts1 hok (by omega) p; omega) | (simp; omega)) (by kernel_rfl) ?_)
                  refine R.go 4 (R.want (decide ((((lef a).getD 0 (0, 0)).1) = 1)) true (by kernel_rfl) (dT c13) ?_)
                  refine R.go 1 (R.want (decide ((((lef a).getD 0 (0, 0)).1) = 1)) true (by kernel_rfl) (dT c13) ?_)
                  refine R.idx eN (rig a) (0, 0) 0 0 (by kernel_rfl) rfl eN_len (by first | omega | (have hf := nf_facts2 hok (by omega) p; omega) | (have hf := nf_facts1 hok (by omega) p; omega) | (simp; omega)) (by kernel_rfl) ?_
                  refine R.want (decide ((((lef a).getD 0 (0, 0)).1) = 1)) true (by kernel_rfl) (dT c13) ?_
                  refine R.go 1 (R.want (decide ((((lef a).getD 0 (0, 0)).1) = 1)) true (by kernel_rfl) (dT c13) ?_)
                  refine R.go 1 (R.want (decide ((((lef a).getD 0 (0, 0)).1) = 1)) true (by kernel_rfl) (dT c13) ?_)
                  refine R.go 1 (R.pick (decide ((((lef a).getD 0 (0, 0)).1) = 1)) true (by kernel_rfl) (dT c13) (by kernel_rfl) ?_)
                  refine R.go 2 (R.els (decide ((((rig a).getD 0 (0, 0)).1) = 1)) (by kernel_rfl) (dF c14) ?_)
                  refine R.go 3 (R.idx eN (rig a) (0, 0) 0 0 (by kernel_rfl) rfl eN_len (by first | omega | (have hf := nf_facts2 hok (by omega) p; omega) | (have hf := nf_facts1 hok (by omega) p; omega) | (simp; omega)) (by kernel_rfl) ?_)
                  refine R.go 5 (R.els (decide ((((rig a).getD 0 (0, 0)).1) = 1)) (by kernel_rfl) (dF c14) ?_)
                  refine R.go 5 (R.condB (p) (by kernel_rfl) (fun c16 => ?_) (fun c16 => ?_))
                  · refine R.go 3 (R.call true (ih ((lef a).length) (by first | omega | (have hf := nf_facts2 hok (by omega) p; omega) | (have hf := nf_facts1 hok (by omega) p; omega) | (simp; omega)) nv (lef a) false (by first | rfl | simp) (by first | assumption | exact okm_lef hok ((partsN_two _).2 (by omega)) | exact okm_rig hok ((partsN_two _).2 (by omega)) | exact okm_tail hok (partsN_1 (by omega)) | exact hq.1) (by first | omega | (have hf := nf_facts2 hok (by omega) p; omega) | (have hf := nf_facts1 hok (by omega) p; omega) | (simp; omega))) (by kernel_rfl) rfl (by kernel_rfl) ?_)
                    refine R.go 1 (R.call true (ih ((rig a).length) (by first | omega | (have hf := nf_facts2 hok (by omega) p; omega) | (have hf := nf_facts1 hok (by omega) p; omega) | (simp; omega)) nv (rig a) true (by first | rfl | simp) (by first | assumption | exact okm_lef hok ((partsN_two _).2 (by omega)) | exact okm_rig hok ((partsN_two _).2 (by omega)) | exact okm_tail hok (partsN_1 (by omega)) | exact hq.1) (by first | omega | (have hf := nf_facts2 hok (by omega) p; omega) | (have hf := nf_facts1 hok (by omega) p; omega) | (simp; omega))) (by kernel_rfl) rfl (by kernel_rfl) ?_)
                    refine R.call false (l02Pair_c 3 (nfA (lef a) false) (nfA (rig a) true) (by first | omega | (have hf := nf_facts2 hok (by omega) p; omega) | (have hf := nf_facts1 hok (by omega) p; omega) | (simp; omega)) (by first | omega | (have hf := nf_facts2 hok (by omega) p; omega) | (have hf := nf_facts1 hok (by omega) p; omega) | (simp; omega))) (by kernel_rfl) (ownA_closed eN_closed 89 2 ((3, 0) :: ((nfA (lef a) false) ++ (nfA (rig a) true)))) (by kernel_rfl) ?_
                    exact R.go 2 (R.retE (ownA eN 89 2 ((3, 0) :: ((nfA (lef a) false) ++ (nfA (rig a) true)))) (by kernel_rfl) (by kernel_rfl) (by first | (apply congrArg (ownA eN _ 2); first | exact e_varT hok (by assumption) (by assumption) | exact e_varF hok (by assumption) (by assumption) | exact (e_bot hok (by assumption)).1 (by assumption) | exact (e_bot hok (by assumption)).2 (by assumption) | exact e_oneT hok (partsN_1 (by omega)) (by assumption) | exact e_oneF hok (partsN_1 (by omega)) (by assumption) | exact e_twoT hok ((partsN_two _).2 (by omega)) (by omega) (by assumption) | exact e_twoF hok ((partsN_two _).2 (by omega)) (by omega) (by assumption) | exact (e_i1 hok (show (a.getD 0 (0, 0)).1 = 4 by omega) (decide_eq_true (by assumption)) (decide_eq_true (by assumption))).1 (by assumption) | exact (e_i1 hok (show (a.getD 0 (0, 0)).1 = 4 by omega) (decide_eq_true (by assumption)) (decide_eq_true (by assumption))).2 (by assumption) | exact e_i2 hok (show (a.getD 0 (0, 0)).1 = 4 by omega) (decide_eq_false (by assumption)) (decide_eq_true (by assumption)) | exact (e_i3 hok (show (a.getD 0 (0, 0)).1 = 4 by omega) (decide_eq_false (by assumption))).1 (by assumption) | exact (e_i3 hok (show (a.getD 0 (0, 0)).1 = 4 by omega) (decide_eq_false (by assumption))).2 (by assumption)) | (exfalso; omega)))
                  · refine R.go 5 (R.call true (ih ((lef a).length) (by first | omega | (have hf := nf_facts2 hok (by omega) p; omega) | (have hf := nf_facts1 hok (by omega) p; omega) | (simp; omega)) nv (lef a) true (by first | rfl | simp) (by first | assumption | exact okm_lef hok ((partsN_two _).2 (by omega)) | exact okm_rig hok ((partsN_two _).2 (by omega)) | exact okm_tail hok (partsN_1 (by omega)) | exact hq.1) (by first | omega | (have hf := nf_facts2 hok (by omega) p; omega) | (have hf := nf_facts1 hok (by omega) p; omega) | (simp; omega))) (by kernel_rfl) rfl (by kernel_rfl) ?_)
                    refine R.go 1 (R.call true (ih ((rig a).length) (by first | omega | (have hf := nf_facts2 hok (by omega) p; omega) | (have hf := nf_facts1 hok (by omega) p; omega) | (simp; omega)) nv (rig a) false (by first | rfl | simp) (by first | assumption | exact okm_lef hok ((partsN_two _).2 (by omega)) | exact okm_rig hok ((partsN_two _).2 (by omega)) | exact okm_tail hok (partsN_1 (by omega)) | exact hq.1) (by first | omega | (have hf := nf_facts2 hok (by omega) p; omega) | (have hf := nf_facts1 hok (by omega) p; omega) | (simp; omega))) (by kernel_rfl) rfl (by kernel_rfl) ?_)
                    refine R.call false (l02Pair_c 2 (nfA (lef a) true) (nfA (rig a) false) (by first | omega | (have hf := nf_facts2 hok (by omega) p; omega) | (have hf := nf_facts1 hok (by omega) p; omega) | (simp; omega)) (by first | omega | (have hf := nf_facts2 hok (by omega) p; omega) | (have hf := nf_facts1 hok (by omega) p; omega) | (simp; omega))) (by kernel_rfl) (ownA_closed eN_closed 89 2 ((2, 0) :: ((nfA (lef a) true) ++ (nfA (rig a) false)))) (by kernel_rfl) ?_
                    exact R.go 2 (R.retE (ownA eN 89 2 ((2, 0) :: ((nfA (lef a) true) ++ (nfA (rig a) false)))) (by kernel_rfl) (by kernel_rfl) (by first | (apply congrArg (ownA eN _ 2); first | exact e_varT hok (by assumption) (by assumption) | exact e_varF hok (by assumption) (by assumption) | exact (e_bot hok (by assumption)).1 (by assumption) | exact (e_bot hok (by assumption)).2 (by assumption) | exact e_oneT hok (partsN_1 (by omega)) (by assumption) | exact e_oneF hok (partsN_1 (by omega)) (by assumption) | exact e_twoT hok ((partsN_two _).2 (by omega)) (by omega) (by assumption) | exact e_twoF hok ((partsN_two _).2 (by omega)) (by omega) (by assumption) | exact (e_i1 hok (show (a.getD 0 (0, 0)).1 = 4 by omega) (decide_eq_true (by assumption)) (decide_eq_true (by assumption))).1 (by assumption) | exact (e_i1 hok (show (a.getD 0 (0, 0)).1 = 4 by omega) (decide_eq_true (by assumption)) (decide_eq_true (by assumption))).2 (by assumption) | exact e_i2 hok (show (a.getD 0 (0, 0)).1 = 4 by omega) (decide_eq_false (by assumption)) (decide_eq_true (by assumption)) | exact (e_i3 hok (show (a.getD 0 (0, 0)).1 = 4 by omega) (decide_eq_false (by assumption))).1 (by assumption) | exact (e_i3 hok (show (a.getD 0 (0, 0)).1 = 4 by omega) (decide_eq_false (by assumption))).2 (by assumption)) | (exfalso; omega)))
              · refine R.skp (decide ((((lef a).getD 0 (0, 0)).1) = 1)) true (by kernel_rfl) (dF c13) (by kernel_rfl) ?_
                refine R.skp (decide ((((lef a).getD 0 (0, 0)).1) = 1)) true (by kernel_rfl) (dF c13) (by kernel_rfl) ?_
                refine R.skp (decide ((((lef a).getD 0 (0, 0)).1) = 1)) true (by kernel_rfl) (dF c13) (by kernel_rfl) ?_
                refine R.skp (decide ((((lef a).getD 0 (0, 0)).1) = 1)) true (by kernel_rfl) (dF c13) (by kernel_rfl) ?_
                refine R.skp (decide ((((lef a).getD 0 (0, 0)).1) = 1)) true (by kernel_rfl) (dF c13) (by kernel_rfl) ?_
                refine R.pick (decide ((((lef a).getD 0 (0, 0)).1) = 1)) false (by kernel_rfl) (dF c13) (by kernel_rfl) ?_
                refine R.go 9 (R.idx eN (lef a) (0, 0) 0 0 (by kernel_rfl) rfl eN_len (by first | omega | (have hf := nf_facts2 hok (by omega) p; omega) | (have hf := nf_facts1 hok (by omega) p; omega) | (simp; omega)) (by kernel_rfl) ?_)
                refine R.go 4 (R.skp (decide ((((lef a).getD 0 (0, 0)).1) = 1)) true (by kernel_rfl) (dF c13) (by kernel_rfl) ?_)
                refine R.skp (decide ((((lef a).getD 0 (0, 0)).1) = 1)) true (by kernel_rfl) (dF c13) (by kernel_rfl) ?_
                refine R.skp (decide ((((lef a).getD 0 (0, 0)).1) = 1)) true (by kernel_rfl) (dF c13) (by kernel_rfl) ?_
                refine R.skp (decide ((((lef a).getD 0 (0, 0)).1) = 1)) true (by kernel_rfl) (dF c13) (by kernel_rfl) ?_
                refine R.skp (decide ((((lef a).getD 0 (0, 0)).1) = 1)) true (by kernel_rfl) (dF c13) (by kernel_rfl) ?_
                refine R.pick (decide ((((lef a).getD 0 (0, 0)).1) = 1)) false (by kernel_rfl) (dF c13) (by kernel_rfl) ?_
                refine R.go 6 (R.idx eN (rig a) (0, 0) 0 0 (by kernel_rfl) rfl eN_len (by first | omega | (have hf := nf_facts2 hok (by omega) p; omega) | (have hf := nf_facts1 hok (by omega) p; omega) | (simp; omega)) (by kernel_rfl) ?_)
                refine R.go 5 (R.cond ((((rig a).getD 0 (0, 0)).1) = 1) (by kernel_rfl) (fun c17 => ?_) (fun c17 => ?_))
                · refine R.go 5 (R.call true (ih ((lef a).length) (by first | omega | (have hf := nf_facts2 hok (by omega) p; omega) | (have hf := nf_facts1 hok (by omega) p; omega) | (simp; omega)) nv (lef a) (!p) (by first | rfl | simp) (by first | assumption | exact okm_lef hok ((partsN_two _).2 (by omega)) | exact okm_rig hok ((partsN_two _).2 (by omega)) | exact okm_tail hok (partsN_1 (by omega)) | exact hq.1) (by first | omega | (have hf := nf_facts2 hok (by omega) p; omega) | (have hf := nf_facts1 hok (by omega) p; omega) | (simp; omega))) (by kernel_rfl) rfl (by kernel_rfl) ?_)
                  exact R.go 2 (R.retE (ownA eN 89 2 (nfA (lef a) (!p))) (by kernel_rfl) (by kernel_rfl) (by first | (apply congrArg (ownA eN _ 2); first | exact e_varT hok (by assumption) (by assumption) | exact e_varF hok (by assumption) (by assumption) | exact (e_bot hok (by assumption)).1 (by assumption) | exact (e_bot hok (by assumption)).2 (by assumption) | exact e_oneT hok (partsN_1 (by omega)) (by assumption) | exact e_oneF hok (partsN_1 (by omega)) (by assumption) | exact e_twoT hok ((partsN_two _).2 (by omega)) (by omega) (by assumption) | exact e_twoF hok ((partsN_two _).2 (by omega)) (by omega) (by assumption) | exact (e_i1 hok (show (a.getD 0 (0, 0)).1 = 4 by omega) (decide_eq_true (by assumption)) (decide_eq_true (by assumption))).1 (by assumption) | exact (e_i1 hok (show (a.getD 0 (0, 0)).1 = 4 by omega) (decide_eq_true (by assumption)) (decide_eq_true (by assumption))).2 (by assumption) | exact e_i2 hok (show (a.getD 0 (0, 0)).1 = 4 by omega) (decide_eq_false (by assumption)) (decide_eq_true (by assumption)) | exact (e_i3 hok (show (a.getD 0 (0, 0)).1 = 4 by omega) (decide_eq_false (by assumption))).1 (by assumption) | exact (e_i3 hok (show (a.getD 0 (0, 0)).1 = 4 by omega) (decide_eq_false (by assumption))).2 (by assumption)) | (exfalso; omega)))
                · refine R.go 5 (R.condB (p) (by kernel_rfl) (fun c18 => ?_) (fun c18 => ?_))
                  · refine R.go 3 (R.call true (ih ((lef a).length) (by first | omega | (have hf := nf_facts2 hok (by omega) p; omega) | (have hf := nf_facts1 hok (by omega) p; omega) | (simp; omega)) nv (lef a) false (by first | rfl | simp) (by first | assumption | exact okm_lef hok ((partsN_two _).2 (by omega)) | exact okm_rig hok ((partsN_two _).2 (by omega)) | exact okm_tail hok (partsN_1 (by omega)) | exact hq.1) (by first | omega | (have hf := nf_facts2 hok (by omega) p; omega) | (have hf := nf_facts1 hok (by omega) p; omega) | (simp; omega))) (by kernel_rfl) rfl (by kernel_rfl) ?_)
                    refine R.go 1 (R.call true (ih ((rig a).length) (by first | omega | (have hf := nf_facts2 hok (by omega) p; omega) | (have hf := nf_facts1 hok (by omega) p; omega) | (simp; omega)) nv (rig a) true (by first | rfl | simp) (by first | assumption | exact okm_lef hok ((partsN_two _).2 (by omega)) | exact okm_rig hok ((partsN_two _).2 (by omega)) | exact okm_tail hok (partsN_1 (by omega)) | exact hq.1) (by first | omega | (have hf := nf_facts2 hok (by omega) p; omega) | (have hf := nf_facts1 hok (by omega) p; omega) | (simp; omega))) (by kernel_rfl) rfl (by kernel_rfl) ?_)
                    refine R.call false (l02Pair_c 3 (nfA (lef a) false) (nfA (rig a) true) (by first | omega | (have hf := nf_facts2 hok (by omega) p; omega) | (have hf := nf_facts1 hok (by omega) p; omega) | (simp; omega)) (by first | omega | (have hf := nf_facts2 hok (by omega) p; omega) | (have hf := nf_facts1 hok (by omega) p; omega) | (simp; omega))) (by kernel_rfl) (ownA_closed eN_closed 89 2 ((3, 0) :: ((nfA (lef a) false) ++ (nfA (rig a) true)))) (by kernel_rfl) ?_
                    exact R.go 2 (R.retE (ownA eN 89 2 ((3, 0) :: ((nfA (lef a) false) ++ (nfA (rig a) true)))) (by kernel_rfl) (by kernel_rfl) (by first | (apply congrArg (ownA eN _ 2); first | exact e_varT hok (by assumption) (by assumption) | exact e_varF hok (by assumption) (by assumption) | exact (e_bot hok (by assumption)).1 (by assumption) | exact (e_bot hok (by assumption)).2 (by assumption) | exact e_oneT hok (partsN_1 (by omega)) (by assumption) | exact e_oneF hok (partsN_1 (by omega)) (by assumption) | exact e_twoT hok ((partsN_two _).2 (by omega)) (by omega) (by assumption) | exact e_twoF hok ((partsN_two _).2 (by omega)) (by omega) (by assumption) | exact (e_i1 hok (show (a.getD 0 (0, 0)).1 = 4 by omega) (decide_eq_true (by assumption)) (decide_eq_true (by assumption))).1 (by assumption) | exact (e_i1 hok (show (a.getD 0 (0, 0)).1 = 4 by omega) (decide_eq_true (by assumption)) (decide_eq_true (by assumption))).2 (by assumption) | exact e_i2 hok (show (a.getD 0 (0, 0)).1 = 4 by omega) (decide_eq_false (by assumption)) (decide_eq_true (by assumption)) | exact (e_i3 hok (show (a.getD 0 (0, 0)).1 = 4 by omega) (decide_eq_false (by assumption))).1 (by assumption) | exact (e_i3 hok (show (a.getD 0 (0, 0)).1 = 4 by omega) (decide_eq_false (by assumption))).2 (by assumption)) | (exfalso; omega)))
                  · refine R.go 5 (R.call true (ih ((lef a).length) (by first | omega | (have hf := nf_facts2 hok (by omega) p; omega) | (have hf := nf_facts1 hok (by omega) p; omega) | (simp; omega)) nv (lef a) true (by first | rfl | simp) (by first | assumption | exact okm_lef hok ((partsN_two _).2 (by omega)) | exact okm_rig hok ((partsN_two _).2 (by omega)) | exact okm_tail hok (partsN_1 (by omega)) | exact hq.1) (by first | omega | (have hf := nf_facts2 hok (by omega) p; omega) | (have hf := nf_facts1 hok (by omega) p; omega) | (simp; omega))) (by kernel_rfl) rfl (by kernel_rfl) ?_)
                    refine R.go 1 (R.call true (ih ((rig a).length) (by first | omega | (have hf := nf_facts2 hok (by omega) p; omega) | (have hf := nf_facts1 hok (by omega) p; omega) | (simp; omega)) nv (rig a) false (by first | rfl | simp) (by first | assumption | exact okm_lef hok ((partsN_two _).2 (by omega)) | exact okm_rig hok ((partsN_two _).2 (by omega)) | exact okm_tail hok (partsN_1 (by omega)) | exact hq.1) (by first | omega | (have hf := nf_facts2 hok (by omega) p; omega) | (have hf := nf_facts1 hok (by omega) p; omega) | (simp; omega))) (by kernel_rfl) rfl (by kernel_rfl) ?_)
                    refine R.call false (l02Pair_c 2 (nfA (lef a) true) (nfA (rig a) false) (by first | omega | (have hf := nf_facts2 hok (by omega) p; omega) | (have hf := nf_facts1 hok (by omega) p; omega) | (simp; omega)) (by first | omega | (have hf := nf_facts2 hok (by omega) p; omega) | (have hf := nf_facts1 hok (by omega) p; omega) | (simp; omega))) (by kernel_rfl) (ownA_closed eN_closed 89 2 ((2, 0) :: ((nfA (lef a) true) ++ (nfA (rig a) false)))) (by kernel_rfl) ?_
                    exact R.go 2 (R.retE (ownA eN 89 2 ((2, 0) :: ((nfA (lef a) true) ++ (nfA (rig a) false)))) (by kernel_rfl) (by kernel_rfl) (by first | (apply congrArg (ownA eN _ 2); first | exact e_varT hok (by assumption) (by assumption) | exact e_varF hok (by assumption) (by assumption) | exact (e_bot hok (by assumption)).1 (by assumption) | exact (e_bot hok (by assumption)).2 (by assumption) | exact e_oneT hok (partsN_1 (by omega)) (by assumption) | exact e_oneF hok (partsN_1 (by omega)) (by assumption) | exact e_twoT hok ((partsN_two _).2 (by omega)) (by omega) (by assumption) | exact e_twoF hok ((partsN_two _).2 (by omega)) (by omega) (by assumption) | exact (e_i1 hok (show (a.getD 0 (0, 0)).1 = 4 by omega) (decide_eq_true (by assumption)) (decide_eq_true (by assumption))).1 (by assumption) | exact (e_i1 hok (show (a.getD 0 (0, 0)).1 = 4 by omega) (decide_eq_true (by assumption)) (decide_eq_true (by assumption))).2 (by assumption) | exact e_i2 hok (show (a.getD 0 (0, 0)).1 = 4 by omega) (decide_eq_false (by assumption)) (decide_eq_true (by assumption)) | exact (e_i3 hok (show (a.getD 0 (0, 0)).1 = 4 by omega) (decide_eq_false (by assumption))).1 (by assumption) | exact (e_i3 hok (show (a.getD 0 (0, 0)).1 = 4 by omega) (decide_eq_false (by assumption))).2 (by assumption)) | (exfalso; omega)))

theorem NN_impl (a : List (Int × Int)) (p : Bool) (hl : a.length ≤ 1000000) : CallA Try.prog 22 [LN a, .bool p] (.tup [ownA eN 89 2 (nnR a p), AI (nnC a p)]) := by
  refine CallA.of Try.func22 rfl (by kernel_rfl) ?_
  refine R.go 9 (R.call true (isFormula_c a (by first | omega | (simp <;> omega))) (by kernel_rfl) rfl (by kernel_rfl) ?_)
  refine R.go 2 (R.condM (isF a) (by kernel_rfl) (fun c1 => ?_) (fun c1 => ?_))
  · refine R.go 5 (R.nil 4 89 2 (by kernel_rfl) ?_)
    exact R.retE (.tup [ownA eN 89 2 [], AI 1]) (by kernel_rfl) (by kernel_rfl) (by first | (refine tupNI ?_ ?_ <;> first | (simp [nnR, nnC, *]; done) | (have hF : isF a = true := (by assumption); have h4 : ¬ (nfA a p).length > 40 := (by omega); rw [nnR, nnC, if_pos hF, if_neg h4, if_pos rfl]) | (have hF : isF a = true := (by assumption); have h4 : (nfA a p).length > 40 := (by omega); rw [nnR, nnC, if_pos hF, if_pos h4, if_neg (by decide)]) | (have hF : isF a = true := (by assumption); have h4 : (nfA a p).length > 40 := (by omega); rw [nnC, if_pos hF, if_pos h4]) | (have hF : isF a = true := (by assumption); have h4 : ¬ (nfA a p).length > 40 := (by omega); rw [nnC, if_pos hF, if_neg h4])) | (exfalso; omega))
  · have hF : isF a = true := by assumption
    have hA := isF_okm hF
    have hok : OKM 6 a := hA.1
    have hal := hA.2
    refine R.go 5 (R.call true (negNormal_c a.length 6 a p (by first | rfl | simp) hok (by first | omega | (simp <;> omega))) (by kernel_rfl) rfl (by kernel_rfl) ?_)
    refine R.enter (avs := [.ref 0]) Try.func54 rfl (by kernel_rfl) (by kernel_rfl) (by kernel_rfl) ?_
    intro us2
    refine R.go 12 (R.cond (((nfA a p).length : Int) > 40) (by kernel_rfl) (fun c3 => ?_) (fun c3 => ?_))
    · refine R.go 5 (R.back (.tup [.nil, AI 3]) (frm 15 [(0, LN a), (1, .bool p), (4, .nil), (5, AI 0), (6, LN a), (7, .bool (isF a)), (8, .bool (!(isF a))), (9, LN a), (10, .bool p), (11, .ref 0)]) (by kernel_rfl) (by kernel_rfl) (by kernel_rfl) ?_)
      refine R.go 5 (R.nil 4 89 2 (by kernel_rfl) ?_)
      exact R.retE (.tup [ownA eN 89 2 [], AI 3]) (by kernel_rfl) (by kernel_rfl) (by first | (refine tupNI ?_ ?_ <;> first | (simp [nnR, nnC, *]; done) | (have hF : isF a = true := (by assumption); have h4 : ¬ (nfA a p).length > 40 := (by omega); rw [nnR, nnC, if_pos hF, if_neg h4, if_pos rfl]) | (have hF : isF a = true := (by assumption); have h4 : (nfA a p).length > 40 := (by omega); rw [nnR, nnC, if_pos hF, if_pos h4, if_neg (by decide)]) | (have hF : isF a = true := (by assumption); have h4 : (nfA a p).length > 40 := (by omega); rw [nnC, if_pos hF, if_pos h4]) | (have hF : isF a = true := (by assumption); have h4 : ¬ (nfA a p).length > 40 := (by omega); rw [nnC, if_pos hF, if_neg h4])) | (exfalso; omega))
    · have hF : isF a = true := by assumption
      have hA := isF_okm hF
      have hok : OKM 6 a := hA.1
      have hal := hA.2
      refine R.go 7 (R.back (.tup [.ref 0, AI 0]) (frm 15 [(0, LN a), (1, .bool p), (4, .nil), (5, AI 0), (6, LN a), (7, .bool (isF a)), (8, .bool (!(isF a))), (9, LN a), (10, .bool p), (11, .ref 0)]) (by kernel_rfl) (by kernel_rfl) (by kernel_rfl) ?_)
      exact R.go 5 (R.retE (.tup [ownA eN 89 2 (nfA a p), AI 0]) (by kernel_rfl) (by kernel_rfl) (by first | (refine tupNI ?_ ?_ <;> first | (simp [nnR, nnC, *]; done) | (have hF : isF a = true := (by assumption); have h4 : ¬ (nfA a p).length > 40 := (by omega); rw [nnR, nnC, if_pos hF, if_neg h4, if_pos rfl]) | (have hF : isF a = true := (by assumption); have h4 : (nfA a p).length > 40 := (by omega); rw [nnR, nnC, if_pos hF, if_pos h4, if_neg (by decide)]) | (have hF : isF a = true := (by assumption); have h4 : (nfA a p).length > 40 := (by omega); rw [nnC, if_pos hF, if_pos h4]) | (have hF : isF a = true := (by assumption); have h4 : ¬ (nfA a p).length > 40 := (by omega); rw [nnC, if_pos hF, if_neg h4])) | (exfalso; omega)))

theorem NN_spec (a : List (Int × Int)) (p : Bool) (hl : a.length ≤ 1000000) : CallA Try.prog 23 [LN a, .bool p] (.tup [ownA eN 89 2 (nnR a p), AI (nnC a p)]) := by
  refine CallA.of Try.func23 rfl (by kernel_rfl) ?_
  refine R.go 9 (R.call true (l02Is_c a (by first | omega | (simp <;> omega))) (by kernel_rfl) rfl (by kernel_rfl) ?_)
  refine R.go 2 (R.condM (isF a) (by kernel_rfl) (fun c1 => ?_) (fun c1 => ?_))
  · refine R.go 5 (R.nil 4 89 2 (by kernel_rfl) ?_)
    exact R.retE (.tup [ownA eN 89 2 [], AI 1]) (by kernel_rfl) (by kernel_rfl) (by first | (refine tupNI ?_ ?_ <;> first | (simp [nnR, nnC, *]; done) | (have hF : isF a = true := (by assumption); have h4 : ¬ (nfA a p).length > 40 := (by omega); rw [nnR, nnC, if_pos hF, if_neg h4, if_pos rfl]) | (have hF : isF a = true := (by assumption); have h4 : (nfA a p).length > 40 := (by omega); rw [nnR, nnC, if_pos hF, if_pos h4, if_neg (by decide)]) | (have hF : isF a = true := (by assumption); have h4 : (nfA a p).length > 40 := (by omega); rw [nnC, if_pos hF, if_pos h4]) | (have hF : isF a = true := (by assumption); have h4 : ¬ (nfA a p).length > 40 := (by omega); rw [nnC, if_pos hF, if_neg h4])) | (exfalso; omega))
  · have hF : isF a = true := by assumption
    have hA := isF_okm hF
    have hok : OKM 6 a := hA.1
    have hal := hA.2
    refine R.go 5 (R.call true (l03Normal_c a.length 6 a p (by first | rfl | simp) hok (by first | omega | (simp <;> omega))) (by kernel_rfl) rfl (by kernel_rfl) ?_)
    refine R.enter (avs := [.ref 0]) Try.func67 rfl (by kernel_rfl) (by kernel_rfl) (by kernel_rfl) ?_
    intro us2
    refine R.go 12 (R.cond (((nfA a p).length : Int) > 40) (by kernel_rfl) (fun c3 => ?_) (fun c3 => ?_))
    · refine R.go 5 (R.back (.tup [.nil, AI 3]) (frm 20 [(0, LN a), (1, .bool p), (4, .nil), (5, AI 0), (8, LN a), (9, .bool (isF a)), (10, .bool (!(isF a))), (12, LN a), (13, .bool p), (14, .ref 0)]) (by kernel_rfl) (by kernel_rfl) (by kernel_rfl) ?_)
      refine R.go 13 (R.nil 4 89 2 (by kernel_rfl) ?_)
      exact R.retE (.tup [ownA eN 89 2 [], AI 3]) (by kernel_rfl) (by kernel_rfl) (by first | (refine tupNI ?_ ?_ <;> first | (simp [nnR, nnC, *]; done) | (have hF : isF a = true := (by assumption); have h4 : ¬ (nfA a p).length > 40 := (by omega); rw [nnR, nnC, if_pos hF, if_neg h4, if_pos rfl]) | (have hF : isF a = true := (by assumption); have h4 : (nfA a p).length > 40 := (by omega); rw [nnR, nnC, if_pos hF, if_pos h4, if_neg (by decide)]) | (have hF : isF a = true := (by assumption); have h4 : (nfA a p).length > 40 := (by omega); rw [nnC, if_pos hF, if_pos h4]) | (have hF : isF a = true := (by assumption); have h4 : ¬ (nfA a p).length > 40 := (by omega); rw [nnC, if_pos hF, if_neg h4])) | (exfalso; omega))
    · have hF : isF a = true := by assumption
      have hA := isF_okm hF
      have hok : OKM 6 a := hA.1
      have hal := hA.2
      refine R.go 7 (R.back (.tup [.ref 0, AI 0]) (frm 20 [(0, LN a), (1, .bool p), (4, .nil), (5, AI 0), (8, LN a), (9, .bool (isF a)), (10, .bool (!(isF a))), (12, LN a), (13, .bool p), (14, .ref 0)]) (by kernel_rfl) (by kernel_rfl) (by kernel_rfl) ?_)
      exact R.go 13 (R.retE (.tup [ownA eN 89 2 (nfA a p), AI 0]) (by kernel_rfl) (by kernel_rfl) (by first | (refine tupNI ?_ ?_ <;> first | (simp [nnR, nnC, *]; done) | (have hF : isF a = true := (by assumption); have h4 : ¬ (nfA a p).length > 40 := (by omega); rw [nnR, nnC, if_pos hF, if_neg h4, if_pos rfl]) | (have hF : isF a = true := (by assumption); have h4 : (nfA a p).length > 40 := (by omega); rw [nnR, nnC, if_pos hF, if_pos h4, if_neg (by decide)]) | (have hF : isF a = true := (by assumption); have h4 : (nfA a p).length > 40 := (by omega); rw [nnC, if_pos hF, if_pos h4]) | (have hF : isF a = true := (by assumption); have h4 : ¬ (nfA a p).length > 40 := (by omega); rw [nnC, if_pos hF, if_neg h4])) | (exfalso; omega)))

theorem same9_c (a : List (Int × Int)) (hl : a.length ≤ 1000000000) : CallA Try.prog 24 [LN a, LN a] (.bool true) := by
  refine CallA.of Try.func24 rfl (by kernel_rfl) ?_
  refine R.go 13 (R.els (!decide ((a.length : Int) = (a.length : Int))) (by kernel_rfl) (nF rfl) ?_)
  refine R.go 7 (R.loop (fun (i : Nat) => (⟨(frm 26 [(0, LN a), (1, LN a), (5, AI (i : Int))]), []⟩ : St)) (fun (i : Nat) => i ≤ a.length) (fun (i : Nat) => a.length - i) 0 [0, 1, 5] none (by kernel_rfl) (by kernel_rfl) (by kernel_rfl) (by omega) ?_)
  rintro i h3_1 R1 N2
  refine R.go 8 (R.cond ((i : Int) < (a.length : Int)) (by kernel_rfl) (fun c4 => ?_) (fun c4 => ?_))
  · refine R.go 4 (R.any (by decide +kernel) (by kernel_rfl) ?_)
    refine R.anyF 0 (by kernel_rfl) (np_ret _ _ _) ?_
    refine R.anyF 1 (by kernel_rfl) (np_ret _ _ _) ?_
    refine R.anyF 4 (by kernel_rfl) (np_ret _ _ _) ?_
    refine R.anyF 5 (by kernel_rfl) (np_ret _ _ _) ?_
    refine R.any2 2 6 (by kernel_rfl) (by kernel_rfl) ?_ ?_
    · refine R.idx eN a (0, 0) i (i : Int) (by kernel_rfl) rfl eN_len (by omega) (by kernel_rfl) ?_
      refine R.go 1 (R.any2 3 6 (by kernel_rfl) (by kernel_rfl) ?_ ?_)
      · refine R.go 2 (R.any1 6 (by kernel_rfl) (by kernel_rfl) ?_)
        refine R.idx eN a (0, 0) i (i : Int) (by kernel_rfl) rfl eN_len (by omega) (by kernel_rfl) ?_
        refine R.go 1 (R.any1 7 (by kernel_rfl) (by kernel_rfl) ?_)
        refine R.go 2 (R.any1 8 (by kernel_rfl) (by kernel_rfl) ?_)
        refine R.eqN false ((a.getD i (0, 0)).1) ((a.getD i (0, 0)).2) ((a.getD i (0, 0)).1) ((a.getD i (0, 0)).2) false (by kernel_rfl) (by kernel_rfl) (by simp) ?_
        refine R.go 1 (R.any0 (by kernel_rfl) ?_)
        refine R.go 5 (R.ar ((i : Int) + 1) (by kernel_rfl) (by omega) (by omega) (by kernel_rfl) ?_)
        exact R.go 2 (R.stop R1 (by kernel_rfl) (N2 (i + 1) [0, 1, 5] none _ (by kernel_rfl) (by kernel_rfl) (by omega) (by show (a.length - (i + 1)) < (a.length - i); omega)))
      · refine R.idx eN a (0, 0) i (i : Int) (by kernel_rfl) rfl eN_len (by omega) (by kernel_rfl) ?_
        refine R.go 1 (R.any2 3 7 (by kernel_rfl) (by kernel_rfl) ?_ ?_)
        · refine R.go 2 (R.any1 7 (by kernel_rfl) (by kernel_rfl) ?_)
          refine R.go 2 (R.any1 8 (by kernel_rfl) (by kernel_rfl) ?_)
          refine R.eqN false ((a.getD i (0, 0)).1) ((a.getD i (0, 0)).2) ((a.getD i (0, 0)).1) ((a.getD i (0, 0)).2) false (by kernel_rfl) (by kernel_rfl) (by simp) ?_
          refine R.go 1 (R.any0 (by kernel_rfl) ?_)
          refine R.go 5 (R.ar ((i : Int) + 1) (by kernel_rfl) (by omega) (by omega) (by kernel_rfl) ?_)
          exact R.go 2 (R.stop R1 (by kernel_rfl) (N2 (i + 1) [0, 1, 5] none _ (by kernel_rfl) (by kernel_rfl) (by omega) (by show (a.length - (i + 1)) < (a.length - i); omega)))
        · refine R.go 2 (R.any1 3 (by kernel_rfl) (by kernel_rfl) ?_)
          refine R.go 2 (R.any1 8 (by kernel_rfl) (by kernel_rfl) ?_)
          refine R.eqN false ((a.getD i (0, 0)).1) ((a.getD i (0, 0)).2) ((a.getD i (0, 0)).1) ((a.getD i (0, 0)).2) false (by kernel_rfl) (by kernel_rfl) (by simp) ?_
          refine R.go 1 (R.any0 (by kernel_rfl) ?_)
          refine R.go 5 (R.ar ((i : Int) + 1) (by kernel_rfl) (by omega) (by omega) (by kernel_rfl) ?_)
          exact R.go 2 (R.stop R1 (by kernel_rfl) (N2 (i + 1) [0, 1, 5] none _ (by kernel_rfl) (by kernel_rfl) (by omega) (by show (a.length - (i + 1)) < (a.length - i); omega)))
    · refine R.idx eN a (0, 0) i (i : Int) (by kernel_rfl) rfl eN_len (by omega) (by kernel_rfl) ?_
      refine R.go 1 (R.any2 2 7 (by kernel_rfl) (by kernel_rfl) ?_ ?_)
      · refine R.idx eN a (0, 0) i (i : Int) (by kernel_rfl) rfl eN_len (by omega) (by kernel_rfl) ?_
        refine R.go 1 (R.any2 3 7 (by kernel_rfl) (by kernel_rfl) ?_ ?_)
        · refine R.go 2 (R.any1 7 (by kernel_rfl) (by kernel_rfl) ?_)
          refine R.go 2 (R.any1 8 (by kernel_rfl) (by kernel_rfl) ?_)
          refine R.eqN false ((a.getD i (0, 0)).1) ((a.getD i (0, 0)).2) ((a.getD i (0, 0)).1) ((a.getD i (0, 0)).2) false (by kernel_rfl) (by kernel_rfl) (by simp) ?_
          refine R.go 1 (R.any0 (by kernel_rfl) ?_)
          refine R.go 5 (R.ar ((i : Int) + 1) (by kernel_rfl) (by omega) (by omega) (by kernel_rfl) ?_)
          exact R.go 2 (R.stop R1 (by kernel_rfl) (N2 (i + 1) [0, 1, 5] none _ (by kernel_rfl) (by kernel_rfl) (by omega) (by show (a.length - (i + 1)) < (a.length - i); omega)))
        · refine R.go 2 (R.any1 3 (by kernel_rfl) (by kernel_rfl) ?_)
          refine R.go 2 (R.any1 8 (by kernel_rfl) (by kernel_rfl) ?_)
          refine R.eqN false ((a.getD i (0, 0)).1) ((a.getD i (0, 0)).2) ((a.getD i (0, 0)).1) ((a.getD i (0, 0)).2) false (by kernel_rfl) (by kernel_rfl) (by simp) ?_
          refine R.go 1 (R.any0 (by kernel_rfl) ?_)
          refine R.go 5 (R.ar ((i : Int) + 1) (by kernel_rfl) (by omega) (by omega) (by kernel_rfl) ?_)
          exact R.go 2 (R.stop R1 (by kernel_rfl) (N2 (i + 1) [0, 1, 5] none _ (by kernel_rfl) (by kernel_rfl) (by omega) (by show (a.length - (i + 1)) < (a.length - i); omega)))
      · refine R.go 2 (R.any1 2 (by kernel_rfl) (by kernel_rfl) ?_)
        refine R.idx eN a (0, 0) i (i : Int) (by kernel_rfl) rfl eN_len (by omega) (by kernel_rfl) ?_
        refine R.go 1 (R.any1 3 (by kernel_rfl) (by kernel_rfl) ?_)
        refine R.go 2 (R.any1 8 (by kernel_rfl) (by kernel_rfl) ?_)
        refine R.eqN false ((a.getD i (0, 0)).1) ((a.getD i (0, 0)).2) ((a.getD i (0, 0)).1) ((a.getD i (0, 0)).2) false (by kernel_rfl) (by kernel_rfl) (by simp) ?_
        refine R.go 1 (R.any0 (by kernel_rfl) ?_)
        refine R.go 5 (R.ar ((i : Int) + 1) (by kernel_rfl) (by omega) (by omega) (by kernel_rfl) ?_)
        exact R.go 2 (R.stop R1 (by kernel_rfl) (N2 (i + 1) [0, 1, 5] none _ (by kernel_rfl) (by kernel_rfl) (by omega) (by show (a.length - (i + 1)) < (a.length - i); omega)))
  · exact R.go 5 (R.retE (.bool true) (by kernel_rfl) (by kernel_rfl) (by rfl))

theorem full9_c (n : Int) (h0 : 0 ≤ n) (h1 : n ≤ 60) : CallA Try.prog 25 [AI n] (AI ((shl64 1 n) - 1)) := by
  have hb : 1 ≤ shl64 1 n ∧ shl64 1 n ≤ 4611686018427387904 := shl_rng n h0 (by omega)
  refine CallA.of Try.func25 rfl (by kernel_rfl) ?_
  refine R.go 10 ?_
  by_cases c1 : n < 0
  · refine R.skp (decide (n < 0)) false (by kernel_rfl) (dT c1) (by kernel_rfl) ?_
    refine R.skp (decide (n < 0)) false (by kernel_rfl) (dT c1) (by kernel_rfl) ?_
    refine R.pick (decide (n < 0)) true (by kernel_rfl) (dT c1) (by kernel_rfl) ?_
    exact R.go 6 (R.retE (AI 0) (by kernel_rfl) (by kernel_rfl) (by first | (rfl) | (exfalso; omega)))
  · refine R.want (decide (n < 0)) false (by kernel_rfl) (dF c1) ?_
    refine R.go 1 (R.want (decide (n < 0)) false (by kernel_rfl) (dF c1) ?_)
    refine R.go 1 (R.pick (decide (n < 0)) false (by kernel_rfl) (dF c1) (by kernel_rfl) ?_)
    refine R.go 1 (R.cond (n > 60) (by kernel_rfl) (fun c2 => ?_) (fun c2 => ?_))
    · exact R.go 4 (R.retE (AI 0) (by kernel_rfl) (by kernel_rfl) (by first | (rfl) | (exfalso; omega)))
    · refine R.go 4 (R.cv .u64 n (by kernel_rfl) (u64_id (by omega) (by omega)) (by kernel_rfl) ?_)
      refine R.shl 1 n (by kernel_rfl) (by omega) (by kernel_rfl) ?_
      refine R.ar ((shl64 1 n) - 1) (by kernel_rfl) (by omega) (by omega) (by kernel_rfl) ?_
      exact R.go 2 (R.retE (AI ((shl64 1 n) - 1)) (by kernel_rfl) (by kernel_rfl) (by rfl))

end Go.Proofs.Ytejaikeemahobaa


/-! The law FnNormalForms. -/
namespace Go.Proofs.Ytejaikeemahobaa
open Go.RowKit Go.Abs

theorem big_c (c : List Int) : CallA Try.prog 8 [LB c] (.bool (decide ((c.length : Int) > 4096))) := by
  refine CallA.of Try.func8 rfl (by kernel_rfl) ?_
  exact R.go 11 (R.retE (.bool (decide ((c.length : Int) > 4096))) (by kernel_rfl) (by kernel_rfl) (by rfl))

theorem lawNF_c (c : List Int) (hcb : ∀ q : Nat, q < c.length → 0 ≤ c.getD q 0 ∧ c.getD q 0 ≤ 255) : CallA Try.prog 5 [LB c] (.bool true) := by
  refine CallA.of Try.func5 rfl (by kernel_rfl) ?_
  refine R.go 8 (R.call true (big_c c) (by kernel_rfl) rfl (by kernel_rfl) ?_)
  refine R.go 1 (R.cond ((c.length : Int) > 4096) (by kernel_rfl) (fun c1 => ?_) (fun c1 => ?_))
  · exact R.go 4 (R.retE (.bool true) (by kernel_rfl) (by kernel_rfl) (by rfl))
  · have hc : BY c := ⟨by omega, hcb⟩
    refine R.go 4 (R.callX (drTruth_c c hc) (by kernel_rfl) (by kernel_rfl) (by kernel_rfl) ?_)
    rintro _ _ ⟨n_2, xs_3, vs_4, a_5, f6, f7, f8, rfl, rfl⟩
    have hl1 := nn_len (a := a_5) true
    have hl2 := nn_len (a := a_5) false
    refine R.go 10 (R.call true (NN_impl a_5 true (by first | omega | (simp <;> omega))).frz (by kernel_rfl) rfl (by kernel_rfl) ?_)
    refine R.go 9 (R.call true (NN_impl a_5 false (by first | omega | (simp <;> omega))).frz (by kernel_rfl) rfl (by kernel_rfl) ?_)
    refine R.go 9 (R.call true (NN_spec a_5 true (by first | omega | (simp <;> omega))).frz (by kernel_rfl) rfl (by kernel_rfl) ?_)
    refine R.go 13 (R.want (!decide ((nnC a_5 true) = (nnC a_5 true))) false (by kernel_rfl) (nF rfl) ?_)
    refine R.go 1 (R.want (!decide ((nnC a_5 true) = (nnC a_5 true))) false (by kernel_rfl) (nF rfl) ?_)
    refine R.go 1 (R.want (!decide ((nnC a_5 true) = (nnC a_5 true))) false (by kernel_rfl) (nF rfl) ?_)
    refine R.call true (same9_c (nnR a_5 true) (by first | omega | (simp <;> omega))) (by kernel_rfl) rfl (by kernel_rfl) ?_
    refine R.want (!decide ((nnC a_5 true) = (nnC a_5 true))) false (by kernel_rfl) (nF rfl) ?_
    refine R.go 1 (R.pick (!decide ((nnC a_5 true) = (nnC a_5 true))) false (by kernel_rfl) (nF rfl) (by kernel_rfl) ?_)
    refine R.go 7 (R.call true (TS_impl n_2 xs_3 vs_4 a_5 (by first | omega | (simp <;> omega)) (by first | omega | (simp <;> omega)) (by first | omega | (simp <;> omega))) (by kernel_rfl) rfl (by kernel_rfl) ?_)
    refine R.go 12 (R.condN ((mcode n_2 xs_3 vs_4 a_5) = 0) (by kernel_rfl) (fun c9 => ?_) (fun c9 => ?_))
    · exact R.go 4 (R.retE (.bool true) (by kernel_rfl) (by kernel_rfl) (by rfl))
    · have hm : mcode n_2 xs_3 vs_4 a_5 = 0 := by first | assumption | omega
      have hmo := mcode_ok hm
      have hfr := okFr_rel (okMo_in hmo.1).1
      have hb0 : 0 ≤ n_2 ∧ n_2 ≤ 8 := ⟨hfr.1, hfr.2.1⟩
      have hts := nn_tset hm
      refine R.go 7 (R.cond ((nnC a_5 true) = 0) (by kernel_rfl) (fun c10 => ?_) (fun c10 => ?_))
      · refine R.go 4 (R.call true (TS_impl n_2 xs_3 vs_4 (nnR a_5 true) (by first | omega | (simp <;> omega)) (by first | omega | (simp <;> omega)) (by first | omega | (simp <;> omega))) (by kernel_rfl) rfl (by kernel_rfl) ?_)
        have hg1 : mcode n_2 xs_3 vs_4 (nnR a_5 true) = 0 := nn_good hm (by assumption)
        have ht1 := hts.1 (by assumption)
        refine R.go 11 ?_
        by_cases c11 : (mcode n_2 xs_3 vs_4 (nnR a_5 true)) = 0
        · refine R.want (!decide ((mcode n_2 xs_3 vs_4 (nnR a_5 true)) = 0)) false (by kernel_rfl) (nF c11) ?_
          refine R.go 1 (R.want (!decide ((mcode n_2 xs_3 vs_4 (nnR a_5 true)) = 0)) false (by kernel_rfl) (nF c11) ?_)
          refine R.go 1 (R.want (!decide ((mcode n_2 xs_3 vs_4 (nnR a_5 true)) = 0)) false (by kernel_rfl) (nF c11) ?_)
          refine R.go 1 (R.pick (!decide ((mcode n_2 xs_3 vs_4 (nnR a_5 true)) = 0)) false (by kernel_rfl) (nF c11) (by kernel_rfl) ?_)
          refine R.go 1 (R.condN ((tval n_2 xs_3 vs_4 (nnR a_5 true)) = (tval n_2 xs_3 vs_4 a_5)) (by kernel_rfl) (fun c12 => ?_) (fun c12 => ?_))
          · exact R.go 4 (R.retE (.bool false) (by kernel_rfl) (by kernel_rfl) (by first | (first | rfl | (exfalso; exact absurd ht1 (by assumption)) | (exfalso; exact absurd ht2 (by assumption)) | (exfalso; exact absurd hg1 (by assumption)) | (exfalso; exact absurd hg2 (by assumption))) | (exfalso; omega)))
          · refine R.go 7 (R.cond ((nnC a_5 false) = 0) (by kernel_rfl) (fun c13 => ?_) (fun c13 => ?_))
            · refine R.go 4 (R.call true (TS_impl n_2 xs_3 vs_4 (nnR a_5 false) (by first | omega | (simp <;> omega)) (by first | omega | (simp <;> omega)) (by first | omega | (simp <;> omega))) (by kernel_rfl) rfl (by kernel_rfl) ?_)
              have hg2 : mcode n_2 xs_3 vs_4 (nnR a_5 false) = 0 := nn_good hm (by assumption)
              have ht2 := hts.2 (by assumption)
              refine R.go 11 ?_
              by_cases c14 : (mcode n_2 xs_3 vs_4 (nnR a_5 false)) = 0
              · refine R.want (!decide ((mcode n_2 xs_3 vs_4 (nnR a_5 false)) = 0)) false (by kernel_rfl) (nF c14) ?_
                refine R.go 1 (R.want (!decide ((mcode n_2 xs_3 vs_4 (nnR a_5 false)) = 0)) false (by kernel_rfl) (nF c14) ?_)
                refine R.go 1 (R.want (!decide ((mcode n_2 xs_3 vs_4 (nnR a_5 false)) = 0)) false (by kernel_rfl) (nF c14) ?_)
                refine R.go 1 (R.want (!decide ((mcode n_2 xs_3 vs_4 (nnR a_5 false)) = 0)) false (by kernel_rfl) (nF c14) ?_)
                refine R.go 1 (R.want (!decide ((mcode n_2 xs_3 vs_4 (nnR a_5 false)) = 0)) false (by kernel_rfl) (nF c14) ?_)
                refine R.call true (full9_c n_2 (by omega) (by omega)) (by kernel_rfl) rfl (by kernel_rfl) ?_
                refine R.want (!decide ((mcode n_2 xs_3 vs_4 (nnR a_5 false)) = 0)) false (by kernel_rfl) (nF c14) ?_
                refine R.go 1 (R.want (!decide ((mcode n_2 xs_3 vs_4 (nnR a_5 false)) = 0)) false (by kernel_rfl) (nF c14) ?_)
                refine R.go 1 (R.want (!decide ((mcode n_2 xs_3 vs_4 (nnR a_5 false)) = 0)) false (by kernel_rfl) (nF c14) ?_)
                refine R.go 1 (R.pick (!decide ((mcode n_2 xs_3 vs_4 (nnR a_5 false)) = 0)) false (by kernel_rfl) (nF c14) (by kernel_rfl) ?_)
                refine R.go 1 (R.condN ((tval n_2 xs_3 vs_4 (nnR a_5 false)) = (bnot ((shl64 1 n_2) - 1) (tval n_2 xs_3 vs_4 a_5))) (by kernel_rfl) (fun c15 => ?_) (fun c15 => ?_))
                · exact R.go 4 (R.retE (.bool false) (by kernel_rfl) (by kernel_rfl) (by first | (first | rfl | (exfalso; exact absurd ht1 (by assumption)) | (exfalso; exact absurd ht2 (by assumption)) | (exfalso; exact absurd hg1 (by assumption)) | (exfalso; exact absurd hg2 (by assumption))) | (exfalso; omega)))
                · exact R.go 5 (R.retE (.bool true) (by kernel_rfl) (by kernel_rfl) (by rfl))
              · refine R.skp (!decide ((mcode n_2 xs_3 vs_4 (nnR a_5 false)) = 0)) false (by kernel_rfl) (nT c14) (by kernel_rfl) ?_
                refine R.skp (!decide ((mcode n_2 xs_3 vs_4 (nnR a_5 false)) = 0)) false (by kernel_rfl) (nT c14) (by kernel_rfl) ?_
                refine R.skp (!decide ((mcode n_2 xs_3 vs_4 (nnR a_5 false)) = 0)) false (by kernel_rfl) (nT c14) (by kernel_rfl) ?_
                refine R.skp (!decide ((mcode n_2 xs_3 vs_4 (nnR a_5 false)) = 0)) false (by kernel_rfl) (nT c14) (by kernel_rfl) ?_
                refine R.skp (!decide ((mcode n_2 xs_3 vs_4 (nnR a_5 false)) = 0)) false (by kernel_rfl) (nT c14) (by kernel_rfl) ?_
                refine R.skp (!decide ((mcode n_2 xs_3 vs_4 (nnR a_5 false)) = 0)) false (by kernel_rfl) (nT c14) (by kernel_rfl) ?_
                refine R.skp (!decide ((mcode n_2 xs_3 vs_4 (nnR a_5 false)) = 0)) false (by kernel_rfl) (nT c14) (by kernel_rfl) ?_
                refine R.skp (!decide ((mcode n_2 xs_3 vs_4 (nnR a_5 false)) = 0)) false (by kernel_rfl) (nT c14) (by kernel_rfl) ?_
                refine R.pick (!decide ((mcode n_2 xs_3 vs_4 (nnR a_5 false)) = 0)) true (by kernel_rfl) (nT c14) (by kernel_rfl) ?_
                exact R.go 6 (R.retE (.bool false) (by kernel_rfl) (by kernel_rfl) (by first | (first | rfl | (exfalso; exact absurd ht1 (by assumption)) | (exfalso; exact absurd ht2 (by assumption)) | (exfalso; exact absurd hg1 (by assumption)) | (exfalso; exact absurd hg2 (by assumption))) | (exfalso; omega)))
            · exact R.go 5 (R.retE (.bool true) (by kernel_rfl) (by kernel_rfl) (by rfl))
        · refine R.skp (!decide ((mcode n_2 xs_3 vs_4 (nnR a_5 true)) = 0)) false (by kernel_rfl) (nT c11) (by kernel_rfl) ?_
          refine R.skp (!decide ((mcode n_2 xs_3 vs_4 (nnR a_5 true)) = 0)) false (by kernel_rfl) (nT c11) (by kernel_rfl) ?_
          refine R.skp (!decide ((mcode n_2 xs_3 vs_4 (nnR a_5 true)) = 0)) false (by kernel_rfl) (nT c11) (by kernel_rfl) ?_
          refine R.pick (!decide ((mcode n_2 xs_3 vs_4 (nnR a_5 true)) = 0)) true (by kernel_rfl) (nT c11) (by kernel_rfl) ?_
          exact R.go 6 (R.retE (.bool false) (by kernel_rfl) (by kernel_rfl) (by first | (first | rfl | (exfalso; exact absurd ht1 (by assumption)) | (exfalso; exact absurd ht2 (by assumption)) | (exfalso; exact absurd hg1 (by assumption)) | (exfalso; exact absurd hg2 (by assumption))) | (exfalso; omega)))
      · refine R.go 7 (R.cond ((nnC a_5 false) = 0) (by kernel_rfl) (fun c16 => ?_) (fun c16 => ?_))
        · refine R.go 4 (R.call true (TS_impl n_2 xs_3 vs_4 (nnR a_5 false) (by first | omega | (simp <;> omega)) (by first | omega | (simp <;> omega)) (by first | omega | (simp <;> omega))) (by kernel_rfl) rfl (by kernel_rfl) ?_)
          have hg2 : mcode n_2 xs_3 vs_4 (nnR a_5 false) = 0 := nn_good hm (by assumption)
          have ht2 := hts.2 (by assumption)
          refine R.go 11 ?_
          by_cases c17 : (mcode n_2 xs_3 vs_4 (nnR a_5 false)) = 0
          · refine R.want (!decide ((mcode n_2 xs_3 vs_4 (nnR a_5 false)) = 0)) false (by kernel_rfl) (nF c17) ?_
            refine R.go 1 (R.want (!decide ((mcode n_2 xs_3 vs_4 (nnR a_5 false)) = 0)) false (by kernel_rfl) (nF c17) ?_)
            refine R.go 1 (R.want (!decide ((mcode n_2 xs_3 vs_4 (nnR a_5 false)) = 0)) false (by kernel_rfl) (nF c17) ?_)
            refine R.go 1 (R.want (!decide ((mcode n_2 xs_3 vs_4 (nnR a_5 false)) = 0)) false (by kernel_rfl) (nF c17) ?_)
            refine R.go 1 (R.want (!decide ((mcode n_2 xs_3 vs_4 (nnR a_5 false)) = 0)) false (by kernel_rfl) (nF c17) ?_)
            refine R.call true (full9_c n_2 (by omega) (by omega)) (by kernel_rfl) rfl (by kernel_rfl) ?_
            refine R.want (!decide ((mcode n_2 xs_3 vs_4 (nnR a_5 false)) = 0)) false (by kernel_rfl) (nF c17) ?_
            refine R.go 1 (R.want (!decide ((mcode n_2 xs_3 vs_4 (nnR a_5 false)) = 0)) false (by kernel_rfl) (nF c17) ?_)
            refine R.go 1 (R.want (!decide ((mcode n_2 xs_3 vs_4 (nnR a_5 false)) = 0)) false (by kernel_rfl) (nF c17) ?_)
            refine R.go 1 (R.pick (!decide ((mcode n_2 xs_3 vs_4 (nnR a_5 false)) = 0)) false (by kernel_rfl) (nF c17) (by kernel_rfl) ?_)
            refine R.go 1 (R.condN ((tval n_2 xs_3 vs_4 (nnR a_5 false)) = (bnot ((shl64 1 n_2) - 1) (tval n_2 xs_3 vs_4 a_5))) (by kernel_rfl) (fun c18 => ?_) (fun c18 => ?_))
            · exact R.go 4 (R.retE (.bool false) (by kernel_rfl) (by kernel_rfl) (by first | (first | rfl | (exfalso; exact absurd ht1 (by assumption)) | (exfalso; exact absurd ht2 (by assumption)) | (exfalso; exact absurd hg1 (by assumption)) | (exfalso; exact absurd hg2 (by assumption))) | (exfalso; omega)))
            · exact R.go 5 (R.retE (.bool true) (by kernel_rfl) (by kernel_rfl) (by rfl))
          · refine R.skp (!decide ((mcode n_2 xs_3 vs_4 (nnR a_5 false)) = 0)) false (by kernel_rfl) (nT c17) (by kernel_rfl) ?_
            refine R.skp (!decide ((mcode n_2 xs_3 vs_4 (nnR a_5 false)) = 0)) false (by kernel_rfl) (nT c17) (by kernel_rfl) ?_
            refine R.skp (!decide ((mcode n_2 xs_3 vs_4 (nnR a_5 false)) = 0)) false (by kernel_rfl) (nT c17) (by kernel_rfl) ?_
            refine R.skp (!decide ((mcode n_2 xs_3 vs_4 (nnR a_5 false)) = 0)) false (by kernel_rfl) (nT c17) (by kernel_rfl) ?_
            refine R.skp (!decide ((mcode n_2 xs_3 vs_4 (nnR a_5 false)) = 0)) false (by kernel_rfl) (nT c17) (by kernel_rfl) ?_
            refine R.skp (!decide ((mcode n_2 xs_3 vs_4 (nnR a_5 false)) = 0)) false (by kernel_rfl) (nT c17) (by kernel_rfl) ?_
            refine R.skp (!decide ((mcode n_2 xs_3 vs_4 (nnR a_5 false)) = 0)) false (by kernel_rfl) (nT c17) (by kernel_rfl) ?_
            refine R.skp (!decide ((mcode n_2 xs_3 vs_4 (nnR a_5 false)) = 0)) false (by kernel_rfl) (nT c17) (by kernel_rfl) ?_
            refine R.pick (!decide ((mcode n_2 xs_3 vs_4 (nnR a_5 false)) = 0)) true (by kernel_rfl) (nT c17) (by kernel_rfl) ?_
            exact R.go 6 (R.retE (.bool false) (by kernel_rfl) (by kernel_rfl) (by first | (first | rfl | (exfalso; exact absurd ht1 (by assumption)) | (exfalso; exact absurd ht2 (by assumption)) | (exfalso; exact absurd hg1 (by assumption)) | (exfalso; exact absurd hg2 (by assumption))) | (exfalso; omega)))
        · exact R.go 5 (R.retE (.bool true) (by kernel_rfl) (by kernel_rfl) (by rfl))

end Go.Proofs.Ytejaikeemahobaa
