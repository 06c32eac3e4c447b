/- Texts of the proof: C02B, S02, E02, E05. -/
import Derived.Test.YtgebepfdphmjcaaPartJ

/-! Depths of formulas; values pulled back along a map. -/
namespace Go.Proofs.Ytgebepfdphmjcaa
open Go.RowKit Go.Abs

theorem dep_0 {nv : Nat} {a : List (Int × Int)} (hok : OKM nv a) (h : (partsN (a.getD 0 (0, 0)).1 : Int) = 0) : hdp a = 0 ∧ mdp a = 0 := by
  rcases okm_cases hok with ⟨v, rfl, _, _⟩ | ⟨s, rfl⟩ | ⟨k, s, L, R, hk, rfl, _⟩ | ⟨k, s, L, hk, rfl, _⟩
  · exact ⟨rfl, rfl⟩
  · exact ⟨rfl, rfl⟩
  · exfalso
    have h1 : (partsN k : Int) = 0 := h
    rw [(partsN_two k).2 hk] at h1
    exact absurd h1 (by decide)
  · exfalso
    have h1 : (partsN k : Int) = 0 := h
    rw [partsN_1 hk] at h1
    exact absurd h1 (by decide)
theorem dep_1 {nv : Nat} {a : List (Int × Int)} (hok : OKM nv a) (h : (partsN (a.getD 0 (0, 0)).1 : Int) = 1) : hdp (a.drop 1) + 1 = hdp a ∧ mdp (a.drop 1) + 1 = mdp a ∧ OKM nv (a.drop 1) ∧ (a.drop 1).length < a.length := by
  rcases okm_cases hok with ⟨v, rfl, _, _⟩ | ⟨s, rfl⟩ | ⟨k, s, L, R, hk, rfl, _⟩ | ⟨k, s, L, hk, rfl, hL⟩
  · exact absurd (show (0 : Int) = 1 from h) (by decide)
  · exact absurd (show (0 : Int) = 1 from h) (by decide)
  · exfalso
    have h1 : (partsN k : Int) = 1 := h
    rw [(partsN_two k).2 hk] at h1
    exact absurd h1 (by decide)
  · rw [List.drop_succ_cons, List.drop_zero]
    unfold hdp mdp
    rw [gv_one1 _ _ _ hk hL, gv_one1 _ _ _ hk hL]
    exact ⟨rfl, rfl, hL, by simp⟩
theorem dep_2 {nv : Nat} {a : List (Int × Int)} (hok : OKM nv a) (h0 : ¬ (partsN (a.getD 0 (0, 0)).1 : Int) = 0) (h1 : ¬ (partsN (a.getD 0 (0, 0)).1 : Int) = 1) : (if hdp (rig a) > hdp (lef a) then hdp (rig a) else hdp (lef a)) + 1 = hdp a ∧ (if mdp (rig a) > mdp (lef a) then mdp (rig a) else mdp (lef a)) = mdp a ∧ OKM nv (lef a) ∧ OKM nv (rig a) ∧ (lef a).length < a.length ∧ (rig a).length < a.length ∧ partsN (a.getD 0 (0, 0)).1 = 2 := by
  rcases okm_cases hok with ⟨v, rfl, _, _⟩ | ⟨s, rfl⟩ | ⟨k, s, L, R, hk, rfl, hL, hR, el, er⟩ | ⟨k, s, L, hk, rfl, hL⟩
  · exact absurd (show (0 : Int) = 0 from rfl) h0
  · exact absurd (show (0 : Int) = 0 from rfl) h0
  · rw [el, er]
    unfold hdp mdp
    rw [gv_two1 _ _ _ hk hL hR, gv_two1 _ _ _ hk hL hR]
    exact ⟨rfl, rfl, hL, hR, by simp; omega, by simp; omega, (partsN_two k).2 hk⟩
  · exfalso
    have h1 : ¬ (partsN k : Int) = 1 := h1
    rw [partsN_1 hk] at h1
    exact h1 rfl
theorem tup2I {a b c d : Int} (h : a = c) (h' : b = d) : AV.tup [AI a, AI b] = AV.tup [AI c, AI d] := by rw [h, h']
def dpC (a : List (Int × Int)) : Int := if isF a = true then 0 else 1
def dpM (a : List (Int × Int)) : Int := if isF a = true then mdp a else 0
def dpH (a : List (Int × Int)) : Int := if isF a = true then hdp a else 0
theorem tup3II {a b c d e f : Int} (h : a = c) (h' : b = d) (h2 : e = f) : AV.tup [AI a, AI b, AI e] = AV.tup [AI c, AI d, AI f] := by rw [h, h', h2]

theorem l02Depths_c : ∀ (k : Nat) (nv : Nat) (a : List (Int × Int)) (hk : a.length = k) (hok : OKM nv a) (hl : a.length ≤ 300000), CallA Try.prog 74 [LN a] (.tup [AI (hdp a), AI (mdp a)]) := by
  intro k
  induction k using Nat.strongRecOn with
  | _ k ih =>
  intro nv a hk hok hl
  have hlen := okm_pos hok
  refine CallA.of Try.func74 rfl (by kernel_rfl) ?_
  refine R.go 9 (R.idx eN a (0, 0) 0 0 (by kernel_rfl) rfl eN_len (by first | omega | (split <;> omega)) (by kernel_rfl) ?_)
  refine R.go 2 (R.call true (l02Parts_c ((a.getD 0 (0, 0)).1)) (by kernel_rfl) rfl (by kernel_rfl) ?_)
  refine R.go 7 (R.cond ((partsN ((a.getD 0 (0, 0)).1) : Int) = 0) (by kernel_rfl) (fun c1 => ?_) (fun c1 => ?_))
  · exact R.go 5 (R.retE (.tup [AI 0, AI 0]) (by kernel_rfl) (by kernel_rfl) (by first | (refine tup2I ?_ ?_ <;> first | exact (dep_0 hok (by assumption)).1.symm | exact (dep_0 hok (by assumption)).2.symm | exact hd1.1 | exact hd1.2.1 | exact hd2.1 | exact hd2.2.1) | (exfalso; omega)))
  · refine R.go 5 (R.cond ((partsN ((a.getD 0 (0, 0)).1) : Int) = 1) (by kernel_rfl) (fun c2 => ?_) (fun c2 => ?_))
    · have hd1 := dep_1 hok (by assumption)
      have hmn1 := mdp_nn hd1.2.2.1
      have hml1 := hd1.2.2.2
      refine R.go 3 (R.slL eN a 1 1 (by kernel_rfl) rfl eN_len (by first | omega | (split <;> omega)) (by kernel_rfl) ?_)
      refine R.call true (ih ((a.drop 1).length) (by first | omega | (split <;> omega)) nv (a.drop 1) (by first | rfl | simp) (by first | assumption | exact hd1.2.2.1 | exact hd2.2.2.1 | exact hd2.2.2.2.1) (by first | omega | (have hq := hd1.2.2.2; omega) | (have hq := hd2.2.2.2.2.1; have hq2 := hd2.2.2.2.2.2.1; omega))) (by kernel_rfl) rfl (by kernel_rfl) ?_
      refine R.go 9 (R.ar ((hdp (a.drop 1)) + 1) (by kernel_rfl) (by first | omega | (split <;> omega)) (by first | omega | (split <;> omega)) (by kernel_rfl) ?_)
      refine R.go 1 (R.ar ((mdp (a.drop 1)) + 1) (by kernel_rfl) (by first | omega | (split <;> omega)) (by first | omega | (split <;> omega)) (by kernel_rfl) ?_)
      exact R.go 3 (R.retE (.tup [AI ((hdp (a.drop 1)) + 1), AI ((mdp (a.drop 1)) + 1)]) (by kernel_rfl) (by kernel_rfl) (by first | (refine tup2I ?_ ?_ <;> first | exact (dep_0 hok (by assumption)).1.symm | exact (dep_0 hok (by assumption)).2.symm | exact hd1.1 | exact hd1.2.1 | exact hd2.1 | exact hd2.2.1) | (exfalso; omega)))
    · have hd2 := dep_2 hok (by assumption) (by assumption)
      have hmn2 := mdp_nn hd2.2.2.1
      have hmn3 := mdp_nn hd2.2.2.2.1
      have hml2 := hd2.2.2.2.2.1
      have hml3 := hd2.2.2.2.2.2.1
      have hmp2 := hd2.2.2.2.2.2.2
      have hmk := (partsN_two _).1 hmp2
      refine R.go 5 (R.call true (l02Left_c nv a hok (by exact (partsN_two _).2 (by omega)) (by first | omega | (split <;> omega))) (by kernel_rfl) rfl (by kernel_rfl) ?_)
      refine R.call true (ih ((lef a).length) (by first | omega | (split <;> omega)) nv (lef a) (by first | rfl | simp) (by first | assumption | exact hd1.2.2.1 | exact hd2.2.2.1 | exact hd2.2.2.2.1) (by first | omega | (have hq := hd1.2.2.2; omega) | (have hq := hd2.2.2.2.2.1; have hq2 := hd2.2.2.2.2.2.1; omega))) (by kernel_rfl) rfl (by kernel_rfl) ?_
      refine R.go 9 (R.call true (l02Right_c nv a hok (by exact (partsN_two _).2 (by omega)) (by first | omega | (split <;> omega))) (by kernel_rfl) rfl (by kernel_rfl) ?_)
      refine R.call true (ih ((rig a).length) (by first | omega | (split <;> omega)) nv (rig a) (by first | rfl | simp) (by first | assumption | exact hd1.2.2.1 | exact hd2.2.2.1 | exact hd2.2.2.2.1) (by first | omega | (have hq := hd1.2.2.2; omega) | (have hq := hd2.2.2.2.2.1; have hq2 := hd2.2.2.2.2.2.1; omega))) (by kernel_rfl) rfl (by kernel_rfl) ?_
      refine R.go 11 (R.ar ((if (hdp (rig a)) > (hdp (lef a)) then (hdp (rig a)) else (hdp (lef a))) + 1) (by kernel_rfl) (by first | omega | (split <;> omega)) (by first | omega | (split <;> omega)) (by kernel_rfl) ?_)
      exact R.go 6 (R.retE (.tup [AI ((if (hdp (rig a)) > (hdp (lef a)) then (hdp (rig a)) else (hdp (lef a))) + 1), AI (if (mdp (rig a)) > (mdp (lef a)) then (mdp (rig a)) else (mdp (lef a)))]) (by kernel_rfl) (by kernel_rfl) (by first | (refine tup2I ?_ ?_ <;> first | exact (dep_0 hok (by assumption)).1.symm | exact (dep_0 hok (by assumption)).2.symm | exact hd1.1 | exact hd1.2.1 | exact hd2.1 | exact hd2.2.1) | (exfalso; omega)))

theorem DP_spec (a : List (Int × Int)) (hl : a.length ≤ 300000) : CallA Try.prog 23 [LN a] (.tup [AI (dpH a), AI (dpM a), AI (dpC a)]) := by
  refine CallA.of Try.func23 rfl (by kernel_rfl) ?_
  refine R.go 10 (R.call true (l02Is_c a (by first | omega | (simp <;> omega))) (by kernel_rfl) rfl (by kernel_rfl) ?_)
  refine R.go 2 (R.condM (isF a) (by kernel_rfl) (fun c1 => ?_) (fun c1 => ?_))
  · exact R.go 6 (R.retE (.tup [AI 0, AI 0, AI 1]) (by kernel_rfl) (by kernel_rfl) (by first | (refine tup3II ?_ ?_ ?_ <;> simp [dpH, dpM, dpC, *]) | (exfalso; omega)))
  · have hok : OKM 6 a := (isF_okm (by assumption)).1
    refine R.go 4 (R.call true (l02Depths_c a.length 6 a (by first | rfl | simp) hok hl) (by kernel_rfl) rfl (by kernel_rfl) ?_)
    exact R.go 14 (R.retE (.tup [AI (hdp a), AI (mdp a), AI 0]) (by kernel_rfl) (by kernel_rfl) (by first | (refine tup3II ?_ ?_ ?_ <;> simp [dpH, dpM, dpC, *]) | (exfalso; omega)))

def pvH (n : Int) (L vs : List Int) : Prop := (∀ j, j < L.length → 0 ≤ L.getD j 0 ∧ L.getD j 0 < n) ∧ ∀ j, j < vs.length → InM n.toNat (vs.getD j 0)
theorem anyI_all {p : Int → Bool} {l : List Int} (h : ∀ j, j < l.length → p (l.getD j 0) = false) : l.any p = false := by
  rw [List.any_eq_false]
  intro x hx
  obtain ⟨j, hj, rfl⟩ := List.getElem_of_mem hx
  have := h j hj
  rw [List.getD_eq_getElem?_getD, List.getElem?_eq_getElem hj] at this
  simpa using this
theorem outR_in {n m : Int} (h0 : 0 ≤ n) (h8 : n ≤ 8) (h : InM n.toNat m) : outR n m = false := by
  have := (full_rng (n := n.toNat) (by omega)).1 h
  rw [nn_eq h0] at this
  rw [outR, this, (inR_iff n 0 30).2 (by omega)]
  rfl
theorem pvH_map {n : Int} {L vs : List Int} (h : pvH n L vs) : (L.any fun y => !inR y 0 (n - 1)) = false := anyI_all fun j hj => by
  rw [(inR_iff _ _ _).2 (by have := h.1 j hj; omega)]; rfl
theorem pvH_val {n : Int} {L vs : List Int} (h0 : 0 ≤ n) (h8 : n ≤ 8) (h : pvH n L vs) : vs.any (outR n) = false := anyI_all fun j hj => outR_in h0 h8 (h.2 j hj)
theorem hasWorldG_c (m : Int) (ys : List Int) (y : Int) (h0 : 0 ≤ m) (h8 : m ≤ 8) : CallA Try.prog 58 [.agg [AI m, LI ys], AI y] (.bool (inR y 0 (m - 1))) := by
  refine CallA.of Try.func58 rfl (by kernel_rfl) ?_
  refine R.go 10 (R.ar (m - 1) (by kernel_rfl) (by omega) (by omega) (by kernel_rfl) ?_)
  refine R.call true (inRange_c y 0 (m - 1)) (by kernel_rfl) rfl (by kernel_rfl) ?_
  exact R.go 2 (R.retE (.bool (inR y 0 (m - 1))) (by kernel_rfl) (by kernel_rfl) (by rfl))

theorem isMap1_c (y : Int) (m : Int) (ys : List Int) (h0 : 0 ≤ m) (h8 : m ≤ 8) : CallA Try.prog 146 [AI y, .rptr [AI m, LI ys]] (.bool (!(inR y 0 (m - 1)))) := by
  refine CallA.of Try.func146 rfl (by kernel_rfl) ?_
  refine R.go 8 (R.call true (hasWorldG_c m ys y h0 h8) (by kernel_rfl) rfl (by kernel_rfl) ?_)
  exact R.go 3 (R.retE (.bool (!(inR y 0 (m - 1)))) (by kernel_rfl) (by kernel_rfl) (by rfl))

theorem indexMp_c (a : List Int) (m : Int) (ys : List Int) (hl : a.length ≤ 1000000000) (h0 : 0 ≤ m) (h8 : m ≤ 8) : CallA Try.prog 118 [LI a, .fn 146 [.rptr [AI m, LI ys]]] (AI (fidxI (fun y => !inR y 0 (m - 1)) a 0)) := by
  refine CallA.of Try.func118 rfl (by kernel_rfl) ?_
  refine R.go 12 (R.loop (fun (i : Nat) => (⟨(frm 19 [(0, LI a), (1, .fn 146 [.rptr [AI m, LI ys]]), (7, AI a.length), (8, AI (i : Int))]), []⟩ : St)) (fun (i : Nat) => (i ≤ a.length) ∧ (fidxI (fun y => !inR y 0 (m - 1)) a 0 = fidxI (fun y => !inR y 0 (m - 1)) (a.drop i) i)) (fun (i : Nat) => a.length - i) 0 [0, 1, 7, 8] none (by kernel_rfl) (by kernel_rfl) (by kernel_rfl) ⟨(by omega), (by rfl)⟩ ?_)
  rintro i ⟨h3_1, h3_2⟩ R1 N2
  refine R.go 5 (R.cond ((i : Int) < (a.length : Int)) (by kernel_rfl) (fun c4 => ?_) (fun c4 => ?_))
  · refine R.go 13 (R.idx eI a 0 i (i : Int) (by kernel_rfl) rfl eI_len (by omega) (by kernel_rfl) ?_)
    refine R.go 1 (R.call true (isMap1_c (a.getD i 0) m ys h0 h8) (by kernel_rfl) rfl (by kernel_rfl) ?_)
    refine R.go 1 (R.condM (inR (a.getD i 0) 0 (m - 1)) (by kernel_rfl) (fun c5 => ?_) (fun c5 => ?_))
    · exact R.go 5 (R.retE (AI (i : Int)) (by kernel_rfl) (by kernel_rfl) (by first | (apply congrArg AI; rw [‹fidxI _ a 0 = _›]; first | exact (fidxI_end (by omega)).symm | exact (fidxI_hit (by omega) (bnT (by assumption))).symm) | (exfalso; omega)))
    · refine R.go 3 (R.ar ((i : Int) + 1) (by kernel_rfl) (by omega) (by omega) (by kernel_rfl) ?_)
      exact R.go 2 (R.stop R1 (by kernel_rfl) (N2 (i + 1) [0, 1, 7, 8] none _ (by kernel_rfl) (by kernel_rfl) ⟨(by omega), (by rw [‹fidxI _ a 0 = _›]; exact fidxI_miss (by omega) (bnF (by assumption)))⟩ (by show (a.length - (i + 1)) < (a.length - i); omega)))
  · exact R.go 5 (R.retE (AI (-1)) (by kernel_rfl) (by kernel_rfl) (by first | (apply congrArg AI; rw [‹fidxI _ a 0 = _›]; first | exact (fidxI_end (by omega)).symm | exact (fidxI_hit (by omega) (bnT (by assumption))).symm) | (exfalso; omega)))

theorem containsMp_c (a : List Int) (m : Int) (ys : List Int) (hl : a.length ≤ 1000000000) (h0 : 0 ≤ m) (h8 : m ≤ 8) : CallA Try.prog 69 [LI a, .fn 146 [.rptr [AI m, LI ys]]] (.bool (a.any (fun y => !inR y 0 (m - 1)))) := by
  refine CallA.of Try.func69 rfl (by kernel_rfl) ?_
  refine R.go 8 (R.call true (indexMp_c a m ys hl h0 h8) (by kernel_rfl) rfl (by kernel_rfl) ?_)
  exact R.go 3 (R.retE (.bool (decide ((fidxI (fun y => !inR y 0 (m - 1)) a 0) ≥ 0))) (by kernel_rfl) (by kernel_rfl) (by first | (apply congrArg AV.bool; rw [Bool.eq_iff_iff, decide_eq_true_iff]; exact fidxI_any (Int.le_refl 0)) | (exfalso; omega)))

theorem pv1_c (y : Int) (m : Int) (ys : List Int) : CallA Try.prog 70 [AI y, .rptr [AI m, LI ys]] (.bool (outR m y)) := by
  refine CallA.of Try.func70 rfl (by kernel_rfl) ?_
  refine R.go 9 (R.call true (isMask_c m y) (by kernel_rfl) rfl (by kernel_rfl) ?_)
  exact R.go 3 (R.retE (.bool (!(!(outR m y)))) (by kernel_rfl) (by kernel_rfl) (by first | (apply congrArg AV.bool; simp) | (exfalso; omega)))

theorem indexPv_c (a : List Int) (m : Int) (ys : List Int) (hl : a.length ≤ 1000000000) : CallA Try.prog 118 [LI a, .fn 70 [.rptr [AI m, LI ys]]] (AI (fidxI (outR m) a 0)) := by
  refine CallA.of Try.func118 rfl (by kernel_rfl) ?_
  refine R.go 12 (R.loop (fun (i : Nat) => (⟨(frm 19 [(0, LI a), (1, .fn 70 [.rptr [AI m, LI ys]]), (7, AI a.length), (8, AI (i : Int))]), []⟩ : St)) (fun (i : Nat) => (i ≤ a.length) ∧ (fidxI (outR m) a 0 = fidxI (outR m) (a.drop i) i)) (fun (i : Nat) => a.length - i) 0 [0, 1, 7, 8] none (by kernel_rfl) (by kernel_rfl) (by kernel_rfl) ⟨(by omega), (by rfl)⟩ ?_)
  rintro i ⟨h3_1, h3_2⟩ R1 N2
  refine R.go 5 (R.cond ((i : Int) < (a.length : Int)) (by kernel_rfl) (fun c4 => ?_) (fun c4 => ?_))
  · refine R.go 13 (R.idx eI a 0 i (i : Int) (by kernel_rfl) rfl eI_len (by omega) (by kernel_rfl) ?_)
    refine R.go 1 (R.call true (pv1_c (a.getD i 0) m ys) (by kernel_rfl) rfl (by kernel_rfl) ?_)
    refine R.go 1 (R.condB (outR m (a.getD i 0)) (by kernel_rfl) (fun c5 => ?_) (fun c5 => ?_))
    · exact R.go 5 (R.retE (AI (i : Int)) (by kernel_rfl) (by kernel_rfl) (by first | (apply congrArg AI; rw [‹fidxI _ a 0 = _›]; first | exact (fidxI_end (by omega)).symm | exact (fidxI_hit (by omega) (by assumption)).symm) | (exfalso; omega)))
    · refine R.go 3 (R.ar ((i : Int) + 1) (by kernel_rfl) (by omega) (by omega) (by kernel_rfl) ?_)
      exact R.go 2 (R.stop R1 (by kernel_rfl) (N2 (i + 1) [0, 1, 7, 8] none _ (by kernel_rfl) (by kernel_rfl) ⟨(by omega), (by rw [‹fidxI _ a 0 = _›]; exact fidxI_miss (by omega) (by assumption))⟩ (by show (a.length - (i + 1)) < (a.length - i); omega)))
  · exact R.go 5 (R.retE (AI (-1)) (by kernel_rfl) (by kernel_rfl) (by first | (apply congrArg AI; rw [‹fidxI _ a 0 = _›]; first | exact (fidxI_end (by omega)).symm | exact (fidxI_hit (by omega) (by assumption)).symm) | (exfalso; omega)))

theorem containsPv_c (a : List Int) (m : Int) (ys : List Int) (hl : a.length ≤ 1000000000) : CallA Try.prog 69 [LI a, .fn 70 [.rptr [AI m, LI ys]]] (.bool (a.any (outR m))) := by
  refine CallA.of Try.func69 rfl (by kernel_rfl) ?_
  refine R.go 8 (R.call true (indexPv_c a m ys hl) (by kernel_rfl) rfl (by kernel_rfl) ?_)
  exact R.go 3 (R.retE (.bool (decide ((fidxI (outR m) a 0) ≥ 0))) (by kernel_rfl) (by kernel_rfl) (by first | (apply congrArg AV.bool; rw [Bool.eq_iff_iff, decide_eq_true_iff]; exact fidxI_any (Int.le_refl 0)) | (exfalso; omega)))

theorem isMapT_c (n : Int) (xs : List Int) (m : Int) (ys : List Int) (L : List Int) (hn : (L.length : Int) = n) (h0 : 0 ≤ m) (h8 : m ≤ 8) (hL : (L.any fun y => !inR y 0 (m - 1)) = false) (l3 : L.length ≤ 1000000000) : CallA Try.prog 117 [.agg [AI n, LI xs], .agg [AI m, LI ys], LI L] (.bool true) := by
  refine CallA.of Try.func117 rfl (by kernel_rfl) ?_
  refine R.go 7 (R.any (by decide +kernel) (by kernel_rfl) ?_)
  refine R.anyF 0 (by kernel_rfl) (np_ret _ _ _) ?_
  refine R.any2 1 2 (by kernel_rfl) (by kernel_rfl) ?_ ?_
  · refine R.call true (size_c L) (by kernel_rfl) rfl (by kernel_rfl) ?_
    refine R.go 1 (R.any1 2 (by kernel_rfl) (by kernel_rfl) ?_)
    refine R.go 2 (R.any1 3 (by kernel_rfl) (by kernel_rfl) ?_)
    refine R.go 2 (R.any1 4 (by kernel_rfl) (by kernel_rfl) ?_)
    refine R.go 2 (R.anyF 5 (by kernel_rfl) (np_ret _ _ _) ?_)
    refine R.any2 6 7 (by kernel_rfl) (by kernel_rfl) ?_ ?_
    · refine R.want (decide ((L.length : Int) = n)) true (by kernel_rfl) (dT hn) ?_
      refine R.go 2 (R.any1 7 (by kernel_rfl) (by kernel_rfl) ?_)
      refine R.want (decide ((L.length : Int) = n)) true (by kernel_rfl) (dT hn) ?_
      refine R.go 2 (R.any1 8 (by kernel_rfl) (by kernel_rfl) ?_)
      refine R.want (decide ((L.length : Int) = n)) true (by kernel_rfl) (dT hn) ?_
      refine R.call false (containsMp_c L m ys l3 h0 h8) (by kernel_rfl) rfl (by kernel_rfl) ?_
      refine R.go 1 (R.any1 9 (by kernel_rfl) (by kernel_rfl) ?_)
      refine R.want (decide ((L.length : Int) = n)) true (by kernel_rfl) (dT hn) ?_
      refine R.go 2 (R.any1 10 (by kernel_rfl) (by kernel_rfl) ?_)
      refine R.pick (decide ((L.length : Int) = n)) true (by kernel_rfl) (dT hn) (by kernel_rfl) ?_
      refine R.go 1 (R.any1 11 (by kernel_rfl) (by kernel_rfl) ?_)
      refine R.go 2 (R.any0 (by kernel_rfl) ?_)
      exact R.retE (.bool (!(L.any (fun y => !inR y 0 (m - 1))))) (by kernel_rfl) (by kernel_rfl) (by first | (simp [*]) | (exfalso; omega))
    · refine R.want (decide ((L.length : Int) = n)) true (by kernel_rfl) (dT hn) ?_
      refine R.go 2 (R.any1 6 (by kernel_rfl) (by kernel_rfl) ?_)
      refine R.want (decide ((L.length : Int) = n)) true (by kernel_rfl) (dT hn) ?_
      refine R.go 2 (R.any1 8 (by kernel_rfl) (by kernel_rfl) ?_)
      refine R.want (decide ((L.length : Int) = n)) true (by kernel_rfl) (dT hn) ?_
      refine R.call false (containsMp_c L m ys l3 h0 h8) (by kernel_rfl) rfl (by kernel_rfl) ?_
      refine R.go 1 (R.any1 9 (by kernel_rfl) (by kernel_rfl) ?_)
      refine R.want (decide ((L.length : Int) = n)) true (by kernel_rfl) (dT hn) ?_
      refine R.go 2 (R.any1 10 (by kernel_rfl) (by kernel_rfl) ?_)
      refine R.pick (decide ((L.length : Int) = n)) true (by kernel_rfl) (dT hn) (by kernel_rfl) ?_
      refine R.go 1 (R.any1 11 (by kernel_rfl) (by kernel_rfl) ?_)
      refine R.go 2 (R.any0 (by kernel_rfl) ?_)
      exact R.retE (.bool (!(L.any (fun y => !inR y 0 (m - 1))))) (by kernel_rfl) (by kernel_rfl) (by first | (simp [*]) | (exfalso; omega))
  · refine R.go 2 (R.any2 1 3 (by kernel_rfl) (by kernel_rfl) ?_ ?_)
    · refine R.call true (size_c L) (by kernel_rfl) rfl (by kernel_rfl) ?_
      refine R.go 1 (R.any1 3 (by kernel_rfl) (by kernel_rfl) ?_)
      refine R.go 2 (R.any1 4 (by kernel_rfl) (by kernel_rfl) ?_)
      refine R.go 2 (R.anyF 5 (by kernel_rfl) (np_ret _ _ _) ?_)
      refine R.any2 6 7 (by kernel_rfl) (by kernel_rfl) ?_ ?_
      · refine R.want (decide ((L.length : Int) = n)) true (by kernel_rfl) (dT hn) ?_
        refine R.go 2 (R.any1 7 (by kernel_rfl) (by kernel_rfl) ?_)
        refine R.want (decide ((L.length : Int) = n)) true (by kernel_rfl) (dT hn) ?_
        refine R.go 2 (R.any1 8 (by kernel_rfl) (by kernel_rfl) ?_)
        refine R.want (decide ((L.length : Int) = n)) true (by kernel_rfl) (dT hn) ?_
        refine R.call false (containsMp_c L m ys l3 h0 h8) (by kernel_rfl) rfl (by kernel_rfl) ?_
        refine R.go 1 (R.any1 9 (by kernel_rfl) (by kernel_rfl) ?_)
        refine R.want (decide ((L.length : Int) = n)) true (by kernel_rfl) (dT hn) ?_
        refine R.go 2 (R.any1 10 (by kernel_rfl) (by kernel_rfl) ?_)
        refine R.pick (decide ((L.length : Int) = n)) true (by kernel_rfl) (dT hn) (by kernel_rfl) ?_
        refine R.go 1 (R.any1 11 (by kernel_rfl) (by kernel_rfl) ?_)
        refine R.go 2 (R.any0 (by kernel_rfl) ?_)
        exact R.retE (.bool (!(L.any (fun y => !inR y 0 (m - 1))))) (by kernel_rfl) (by kernel_rfl) (by first | (simp [*]) | (exfalso; omega))
      · refine R.want (decide ((L.length : Int) = n)) true (by kernel_rfl) (dT hn) ?_
        refine R.go 2 (R.any1 6 (by kernel_rfl) (by kernel_rfl) ?_)
        refine R.want (decide ((L.length : Int) = n)) true (by kernel_rfl) (dT hn) ?_
        refine R.go 2 (R.any1 8 (by kernel_rfl) (by kernel_rfl) ?_)
        refine R.want (decide ((L.length : Int) = n)) true (by kernel_rfl) (dT hn) ?_
        refine R.call false (containsMp_c L m ys l3 h0 h8) (by kernel_rfl) rfl (by kernel_rfl) ?_
        refine R.go 1 (R.any1 9 (by kernel_rfl) (by kernel_rfl) ?_)
        refine R.want (decide ((L.length : Int) = n)) true (by kernel_rfl) (dT hn) ?_
        refine R.go 2 (R.any1 10 (by kernel_rfl) (by kernel_rfl) ?_)
        refine R.pick (decide ((L.length : Int) = n)) true (by kernel_rfl) (dT hn) (by kernel_rfl) ?_
        refine R.go 1 (R.any1 11 (by kernel_rfl) (by kernel_rfl) ?_)
        refine R.go 2 (R.any0 (by kernel_rfl) ?_)
        exact R.retE (.bool (!(L.any (fun y => !inR y 0 (m - 1))))) (by kernel_rfl) (by kernel_rfl) (by first | (simp [*]) | (exfalso; omega))
    · refine R.go 2 (R.any1 1 (by kernel_rfl) (by kernel_rfl) ?_)
      refine R.call true (size_c L) (by kernel_rfl) rfl (by kernel_rfl) ?_
      refine R.go 1 (R.any1 4 (by kernel_rfl) (by kernel_rfl) ?_)
      refine R.go 2 (R.anyF 5 (by kernel_rfl) (np_ret _ _ _) ?_)
      refine R.any2 6 7 (by kernel_rfl) (by kernel_rfl) ?_ ?_
      · refine R.want (decide ((L.length : Int) = n)) true (by kernel_rfl) (dT hn) ?_
        refine R.go 2 (R.any1 7 (by kernel_rfl) (by kernel_rfl) ?_)
        refine R.want (decide ((L.length : Int) = n)) true (by kernel_rfl) (dT hn) ?_
        refine R.go 2 (R.any1 8 (by kernel_rfl) (by kernel_rfl) ?_)
        refine R.want (decide ((L.length : Int) = n)) true (by kernel_rfl) (dT hn) ?_
        refine R.call false (containsMp_c L m ys l3 h0 h8) (by kernel_rfl) rfl (by kernel_rfl) ?_
        refine R.go 1 (R.any1 9 (by kernel_rfl) (by kernel_rfl) ?_)
        refine R.want (decide ((L.length : Int) = n)) true (by kernel_rfl) (dT hn) ?_
        refine R.go 2 (R.any1 10 (by kernel_rfl) (by kernel_rfl) ?_)
        refine R.pick (decide ((L.length : Int) = n)) true (by kernel_rfl) (dT hn) (by kernel_rfl) ?_
        refine R.go 1 (R.any1 11 (by kernel_rfl) (by kernel_rfl) ?_)
        refine R.go 2 (R.any0 (by kernel_rfl) ?_)
        exact R.retE (.bool (!(L.any (fun y => !inR y 0 (m - 1))))) (by kernel_rfl) (by kernel_rfl) (by first | (simp [*]) | (exfalso; omega))
      · refine R.want (decide ((L.length : Int) = n)) true (by kernel_rfl) (dT hn) ?_
        refine R.go 2 (R.any1 6 (by kernel_rfl) (by kernel_rfl) ?_)
        refine R.want (decide ((L.length : Int) = n)) true (by kernel_rfl) (dT hn) ?_
        refine R.go 2 (R.any1 8 (by kernel_rfl) (by kernel_rfl) ?_)
        refine R.want (decide ((L.length : Int) = n)) true (by kernel_rfl) (dT hn) ?_
        refine R.call false (containsMp_c L m ys l3 h0 h8) (by kernel_rfl) rfl (by kernel_rfl) ?_
        refine R.go 1 (R.any1 9 (by kernel_rfl) (by kernel_rfl) ?_)
        refine R.want (decide ((L.length : Int) = n)) true (by kernel_rfl) (dT hn) ?_
        refine R.go 2 (R.any1 10 (by kernel_rfl) (by kernel_rfl) ?_)
        refine R.pick (decide ((L.length : Int) = n)) true (by kernel_rfl) (dT hn) (by kernel_rfl) ?_
        refine R.go 1 (R.any1 11 (by kernel_rfl) (by kernel_rfl) ?_)
        refine R.go 2 (R.any0 (by kernel_rfl) ?_)
        exact R.retE (.bool (!(L.any (fun y => !inR y 0 (m - 1))))) (by kernel_rfl) (by kernel_rfl) (by first | (simp [*]) | (exfalso; omega))

theorem mapCodeT_c (n : Int) (xs : List Int) (m : Int) (ys : List Int) (L : List Int) (hF : okFr n xs = true) (hG : okFr m ys = true) (hn : (L.length : Int) = n) (hL : (L.any fun y => !inR y 0 (m - 1)) = false) (l1 : xs.length ≤ 1000000000) (l2 : ys.length ≤ 1000000000) (l3 : L.length ≤ 1000000000) : CallA Try.prog 68 [.agg [AI n, LI xs], .agg [AI m, LI ys], LI L] (AI 0) := by
  have hg := okFr_rel hG
  refine CallA.of Try.func68 rfl (by kernel_rfl) ?_
  refine R.go 10 (R.call true (isFrame_c n xs l1) (by kernel_rfl) rfl (by kernel_rfl) ?_)
  refine R.go 2 (R.want (!(okFr n xs)) false (by kernel_rfl) (bnF hF) ?_)
  refine R.go 1 (R.want (!(okFr n xs)) false (by kernel_rfl) (bnF hF) ?_)
  refine R.call true (isFrame_c m ys l2) (by kernel_rfl) rfl (by kernel_rfl) ?_
  refine R.want (!(okFr n xs)) false (by kernel_rfl) (bnF hF) ?_
  refine R.go 1 (R.pick (!(okFr n xs)) false (by kernel_rfl) (bnF hF) (by kernel_rfl) ?_)
  refine R.go 1 (R.want (!(okFr m ys)) false (by kernel_rfl) (bnF hG) ?_)
  refine R.go 1 (R.want (!(okFr m ys)) false (by kernel_rfl) (bnF hG) ?_)
  refine R.go 1 (R.want (!(okFr m ys)) false (by kernel_rfl) (bnF hG) ?_)
  refine R.go 1 (R.want (!(okFr m ys)) false (by kernel_rfl) (bnF hG) ?_)
  refine R.call true (isMapT_c n xs m ys L hn (by omega) (by omega) hL l3) (by kernel_rfl) rfl (by kernel_rfl) ?_
  refine R.want (!(okFr m ys)) false (by kernel_rfl) (bnF hG) ?_
  refine R.go 1 (R.pick (!(okFr m ys)) false (by kernel_rfl) (bnF hG) (by kernel_rfl) ?_)
  exact R.go 7 (R.retE (AI 0) (by kernel_rfl) (by kernel_rfl) (by rfl))

theorem pull_c (L : List Int) (v : Int) (hl : L.length ≤ 62) (hL : ∀ j, j < L.length → 0 ≤ L.getD j 0) : CallA Try.prog 72 [LI L, AI v] (AI (sqz L v L.length)) := by
  refine CallA.of Try.func72 rfl (by kernel_rfl) ?_
  refine R.go 16 (R.loop ((fun | (i, r) => (⟨(frm 24 [(1, AI v), (5, AI r), (8, LI L), (9, AI L.length), (10, AI (i : Int))]), []⟩ : St) : Nat × Int → St)) (fun | (i, r) => (i ≤ L.length) ∧ (r = sqz L v i)) (fun | (i, r) => L.length - i) (0, 0) [1, 5, 8, 9, 10] none (by kernel_rfl) (by kernel_rfl) (by kernel_rfl) ⟨(by omega), (by rfl)⟩ ?_)
  rintro ⟨i, r⟩ ⟨h4_1, rfl⟩ R1 N2
  refine R.go 5 (R.cond ((i : Int) < (L.length : Int)) (by kernel_rfl) (fun c5 => ?_) (fun c5 => ?_))
  · refine R.go 6 (R.idx eI L 0 i (i : Int) (by kernel_rfl) rfl eI_len (by omega) (by kernel_rfl) ?_)
    have hj := hL i (by omega)
    refine R.go 8 (R.call true (has_c v (L.getD i 0) (by omega)) (by kernel_rfl) rfl (by kernel_rfl) ?_)
    refine R.go 1 (R.cond (band (shr64 v (L.getD i 0)) 1 = 1) (by kernel_rfl) (fun c6 => ?_) (fun c6 => ?_))
    · refine R.go 3 (R.shl 1 (i : Int) (by kernel_rfl) (by omega) (by kernel_rfl) ?_)
      refine R.go 5 (R.ar ((i : Int) + 1) (by kernel_rfl) (by omega) (by omega) (by kernel_rfl) ?_)
      exact R.go 2 (R.stop R1 (by kernel_rfl) (N2 (i + 1, bor (sqz L v i) (shl64 1 (i : Int))) [1, 5, 8, 9, 10] none _ (by kernel_rfl) (by kernel_rfl) ⟨(by omega), (by first | exact sqz_yes (by assumption) | exact sqz_no (by assumption))⟩ (by show (L.length - (i + 1)) < (L.length - i); omega)))
    · refine R.go 3 (R.ar ((i : Int) + 1) (by kernel_rfl) (by omega) (by omega) (by kernel_rfl) ?_)
      exact R.go 2 (R.stop R1 (by kernel_rfl) (N2 (i + 1, sqz L v i) [1, 5, 8, 9, 10] none _ (by kernel_rfl) (by kernel_rfl) ⟨(by omega), (by first | exact sqz_yes (by assumption) | exact sqz_no (by assumption))⟩ (by show (L.length - (i + 1)) < (L.length - i); omega)))
  · exact R.go 6 (R.retE (AI (sqz L v i)) (by kernel_rfl) (by kernel_rfl) (by first | (rw [show i = L.length by omega]) | (exfalso; omega)))

theorem PV_impl (n : Int) (xs : List Int) (m : Int) (ys : List Int) (L : List Int) (vs : List Int) (hF : okFr n xs = true) (hG : okFr m ys = true) (hn : (L.length : Int) = n) (hp : pvH m L vs) (lv : vs.length ≤ 1000) : CallA Try.prog 21 [.agg [AI n, LI xs], .agg [AI m, LI ys], LI L, LI vs] (.tup [ownA eI 2 1 (pulV L vs), AI 0]) := by
  have hf := okFr_rel hF
  have hg := okFr_rel hG
  have hb : 0 ≤ n ∧ n ≤ 8 ∧ (xs.length : Int) = n := ⟨hf.1, hf.2.1, hf.2.2.1⟩
  have hb2 : 0 ≤ m ∧ m ≤ 8 ∧ (ys.length : Int) = m := ⟨hg.1, hg.2.1, hg.2.2.1⟩
  have hm1 : (L.any fun y => !inR y 0 (m - 1)) = false := pvH_map hp
  have hv1 : vs.any (outR m) = false := pvH_val hb2.1 hb2.2.1 hp
  have hL0 : ∀ j, j < L.length → 0 ≤ L.getD j 0 := fun j hj => (hp.1 j hj).1
  refine CallA.of Try.func21 rfl (by kernel_rfl) ?_
  refine R.go 13 (R.call true (mapCodeT_c n xs m ys L hF hG hn hm1 (by first | omega | (simp <;> omega)) (by first | omega | (simp <;> omega)) (by first | omega | (simp <;> omega))) (by kernel_rfl) rfl (by kernel_rfl) ?_)
  refine R.go 4 (R.call false (containsPv_c vs m ys (by first | omega | (simp <;> omega))) (by kernel_rfl) rfl (by kernel_rfl) ?_)
  refine R.go 2 (R.els (vs.any (outR m)) (by kernel_rfl) hv1 ?_)
  refine R.go 13 (R.nil 10 2 1 (by kernel_rfl) ?_)
  refine R.loop ((fun | (t, out) => (⟨(frm 37 [(2, LI L), (10, .ref 0), (23, LI vs), (24, AI vs.length), (25, AI (t : Int))]), [rowA eI 2 1 out]⟩ : St) : Nat × (List Int) → St)) (fun | (t, out) => (t ≤ vs.length) ∧ (out = (vs.take t).map fun v => sqz L v L.length)) (fun | (t, out) => vs.length - t) (0, []) [2, 10, 23, 24, 25] (some [2]) (by kernel_rfl) (by kernel_rfl) (by kernel_rfl) ⟨(by omega), (by rfl)⟩ ?_
  rintro ⟨t, out⟩ ⟨h4_1, rfl⟩ R1 N2
  have hol : ((vs.take t).map fun v => sqz L v L.length).length = t := by simp; omega
  refine R.go 5 (R.cond ((t : Int) < (vs.length : Int)) (by kernel_rfl) (fun c5 => ?_) (fun c5 => ?_))
  · refine R.go 5 (R.idx eI vs 0 t (t : Int) (by kernel_rfl) rfl eI_len (by omega) (by kernel_rfl) ?_)
    refine R.go 7 (R.call true (pull_c L (vs.getD t 0) (by first | omega | (simp <;> omega)) hL0) (by kernel_rfl) rfl (by kernel_rfl) ?_)
    refine R.go 1 (R.app eI ((vs.take t).map fun v => sqz L v L.length) [sqz L (vs.getD t 0) L.length] 0 2 1 8 (by kernel_rfl) eI_one (by decide) (by first | omega | (simp <;> omega)) (by kernel_rfl) ?_)
    refine R.go 4 (R.ar ((t : Int) + 1) (by kernel_rfl) (by omega) (by omega) (by kernel_rfl) ?_)
    exact R.go 2 (R.stop R1 (by kernel_rfl) (N2 (t + 1, ((vs.take t).map fun v => sqz L v L.length) ++ [sqz L (vs.getD t 0) L.length]) [2, 10, 23, 24, 25] (some [0]) _ (by kernel_rfl) (by kernel_rfl) ⟨(by omega), (by exact map_take (f := fun v => sqz L v L.length) (by omega))⟩ (by show (vs.length - (t + 1)) < (vs.length - t); omega)))
  · exact R.go 7 (R.retE (.tup [ownA eI 2 1 ((vs.take t).map fun v => sqz L v L.length), AI 0]) (by kernel_rfl) (by kernel_rfl) (by first | (rw [show t = vs.length by omega, List.take_length]; rfl) | (exfalso; omega)))

theorem likeIn_c (a : List Int) (hl : a.length ≤ 1000000000) : CallA Try.prog 20 [LI a, LI a] (.bool true) := by
  refine CallA.of Try.func20 rfl (by kernel_rfl) ?_
  refine R.go 13 (R.els (!decide ((a.length : Int) = (a.length : Int))) (by kernel_rfl) (nF rfl) ?_)
  refine R.go 7 (R.loop (fun (i : Nat) => (⟨(frm 26 [(0, LI a), (1, LI a), (5, AI (i : Int))]), []⟩ : St)) (fun (i : Nat) => i ≤ a.length) (fun (i : Nat) => a.length - i) 0 [0, 1, 5] none (by kernel_rfl) (by kernel_rfl) (by kernel_rfl) (by omega) ?_)
  rintro i h3_1 R1 N2
  refine R.go 8 (R.cond ((i : Int) < (a.length : Int)) (by kernel_rfl) (fun c4 => ?_) (fun c4 => ?_))
  · refine R.go 7 (R.idx eI a 0 i (i : Int) (by kernel_rfl) rfl eI_len (by omega) (by kernel_rfl) ?_)
    refine R.go 3 (R.idx eI a 0 i (i : Int) (by kernel_rfl) rfl eI_len (by omega) (by kernel_rfl) ?_)
    refine R.go 3 (R.els (!decide ((a.getD i 0) = (a.getD i 0))) (by kernel_rfl) (nF rfl) ?_)
    refine R.go 4 (R.ar ((i : Int) + 1) (by kernel_rfl) (by omega) (by omega) (by kernel_rfl) ?_)
    exact R.go 2 (R.stop R1 (by kernel_rfl) (N2 (i + 1) [0, 1, 5] none _ (by kernel_rfl) (by kernel_rfl) (by omega) (by show (a.length - (i + 1)) < (a.length - i); omega)))
  · exact R.go 5 (R.retE (.bool true) (by kernel_rfl) (by kernel_rfl) (by rfl))

theorem likeIn_nil : CallA Try.prog 20 [.nil, .nil] (.bool true) := by
  refine CallA.of Try.func20 rfl (by kernel_rfl) ?_
  refine R.go 21 (R.loop (fun (i : Nat) => (⟨(frm 26 [(0, .nil), (1, .nil), (5, AI (i : Int))]), []⟩ : St)) (fun (i : Nat) => i ≤ 0) (fun (i : Nat) => 0) 0 [0, 1, 5] none (by kernel_rfl) (by kernel_rfl) (by kernel_rfl) (by omega) ?_)
  rintro i h3_1 R1 N2
  refine R.go 8 (R.cond ((i : Int) < 0) (by kernel_rfl) (fun c4 => ?_) (fun c4 => ?_))
  · exfalso; omega -- indexAddr .nil AI (i : Int)
  · exact R.go 5 (R.retE (.bool true) (by kernel_rfl) (by kernel_rfl) (by rfl))

theorem likeFr_c (n : Int) (xs : List Int) (hl : xs.length ≤ 1000000000) : CallA Try.prog 19 [.agg [AI n, LI xs], .agg [AI n, LI xs]] (.bool true) := by
  refine CallA.of Try.func19 rfl (by kernel_rfl) ?_
  refine R.go 14 (R.want (decide (n = n)) true (by kernel_rfl) (dT rfl) ?_)
  refine R.go 1 (R.want (decide (n = n)) true (by kernel_rfl) (dT rfl) ?_)
  refine R.go 1 (R.want (decide (n = n)) true (by kernel_rfl) (dT rfl) ?_)
  refine R.go 1 (R.want (decide (n = n)) true (by kernel_rfl) (dT rfl) ?_)
  refine R.go 1 (R.want (decide (n = n)) true (by kernel_rfl) (dT rfl) ?_)
  refine R.call true (likeIn_c xs hl) (by kernel_rfl) rfl (by kernel_rfl) ?_
  refine R.pick (decide (n = n)) true (by kernel_rfl) (dT rfl) (by kernel_rfl) ?_
  exact R.go 2 (R.retE (.bool true) (by kernel_rfl) (by kernel_rfl) (by rfl))

theorem likeFr_nil (n : Int) : CallA Try.prog 19 [.agg [AI n, .nil], .agg [AI n, .nil]] (.bool true) := by
  refine CallA.of Try.func19 rfl (by kernel_rfl) ?_
  refine R.go 14 (R.want (decide (n = n)) true (by kernel_rfl) (dT rfl) ?_)
  refine R.go 1 (R.want (decide (n = n)) true (by kernel_rfl) (dT rfl) ?_)
  refine R.go 1 (R.want (decide (n = n)) true (by kernel_rfl) (dT rfl) ?_)
  refine R.go 1 (R.want (decide (n = n)) true (by kernel_rfl) (dT rfl) ?_)
  refine R.go 1 (R.want (decide (n = n)) true (by kernel_rfl) (dT rfl) ?_)
  refine R.call true (likeIn_nil) (by kernel_rfl) rfl (by kernel_rfl) ?_
  refine R.pick (decide (n = n)) true (by kernel_rfl) (dT rfl) (by kernel_rfl) ?_
  exact R.go 2 (R.retE (.bool true) (by kernel_rfl) (by kernel_rfl) (by rfl))

end Go.Proofs.Ytgebepfdphmjcaa


/-! Formulas as lists of nodes. -/
namespace Go.Proofs.Ytgebepfdphmjcaa
open Go.RowKit Go.Abs

theorem l02False_c : CallA Try.prog 130 [] (ownA eN 117 2 [(1, 0)]) := by
  refine CallA.of Try.func130 rfl (by kernel_rfl) ?_
  exact R.go 10 (R.retE (ownA eN 117 2 [(1, 0)]) (by kernel_rfl) (by kernel_rfl) (by rfl))

theorem l02Var_c (v : Int) : CallA Try.prog 131 [AI v] (ownA eN 117 2 [(0, v)]) := by
  refine CallA.of Try.func131 rfl (by kernel_rfl) ?_
  exact R.go 11 (R.retE (ownA eN 117 2 [(0, v)]) (by kernel_rfl) (by kernel_rfl) (by rfl))

theorem l02Pair_c (k : Int) (a : List (Int × Int)) (b : List (Int × Int)) (ha : a.length ≤ 1000000) (hb : b.length ≤ 1000000) : CallA Try.prog 99 [AI k, LN a, LN b] (ownA eN 117 2 ((k, 0) :: (a ++ b))) := by
  refine CallA.of Try.func99 rfl (by kernel_rfl) ?_
  refine R.go 10 (R.app eN [(k, 0)] a 0 117 2 16 (by kernel_rfl) eN_one (by decide) (by first | omega | (simp <;> omega)) (by kernel_rfl) ?_)
  refine R.go 1 (R.app eN ([(k, 0)] ++ a) b 0 117 2 16 (by kernel_rfl) eN_one (by decide) (by first | omega | (simp <;> omega)) (by kernel_rfl) ?_)
  exact R.go 2 (R.retE (ownA eN 117 2 ([(k, 0)] ++ a ++ b)) (by kernel_rfl) (by kernel_rfl) (by first | (rfl) | (exfalso; omega)))

theorem l02Not_c (a : List (Int × Int)) (ha : a.length ≤ 1000000) : CallA Try.prog 133 [LN a] (ownA eN 117 2 ((4, 0) :: (a ++ [(1, 0)]))) := by
  refine CallA.of Try.func133 rfl (by kernel_rfl) ?_
  refine R.go 7 (R.call true (l02False_c).frz (by kernel_rfl) rfl (by kernel_rfl) ?_)
  refine R.call true (l02Pair_c 4 a [(1, 0)] ha (by first | omega | (simp <;> omega))) (by kernel_rfl) rfl (by kernel_rfl) ?_
  exact R.go 2 (R.retE (ownA eN 117 2 ((4, 0) :: (a ++ [(1, 0)]))) (by kernel_rfl) (by kernel_rfl) (by rfl))

end Go.Proofs.Ytgebepfdphmjcaa


/-! Draws of formulas. -/
namespace Go.Proofs.Ytgebepfdphmjcaa
open Go.RowKit Go.Abs

theorem l02Pre_c (k : Int) (a : List (Int × Int)) (ha : a.length ≤ 1000000) : CallA Try.prog 132 [AI k, LN a] (ownA eN 117 2 ((k, 0) :: a)) := by
  refine CallA.of Try.func132 rfl (by kernel_rfl) ?_
  refine R.go 10 (R.app eN [(k, 0)] a 0 117 2 16 (by kernel_rfl) eN_one (by decide) (by first | omega | (simp <;> omega)) (by kernel_rfl) ?_)
  exact R.go 2 (R.retE (ownA eN 117 2 ([(k, 0)] ++ a)) (by kernel_rfl) (by kernel_rfl) (by first | (rfl) | (exfalso; omega)))

theorem drawX_c : ∀ (k : Nat) (c : List Int) (p : Nat) (h : Int) (size : Int) (vars : Int) (modal : Bool) (hk : size.toNat = k) (hc : BY c) (hs : size ≤ 1000), CallX Try.prog 97 [.ptr 0 0, AI size, AI vars, .bool modal] [.box 112 [LB c, AI (p : Int), .int .u64 h]] (fun (resX : AV) (objX : List AObj) => ∃ r : List (Int × Int), ∃ p1 : Nat, ∃ h1 : Int, (((r.length : Int) ≤ size ∨ r.length ≤ 1) ∧ 1 ≤ r.length) ∧ resX = LN r ∧ objX = [.box 112 [LB c, AI (p1 : Int), .int .u64 h1]]) := by
  intro k
  induction k using Nat.strongRecOn with
  | _ k ih =>
  intro c p h size vars modal hk hc hs
  refine CallX.dropE (CallX.ofF Try.func97 rfl (by kernel_rfl) ?_)
  intro usC frC hfC
  refine R.go 10 ?_
  by_cases c1 : size ≤ 2
  · refine R.skp (decide (size ≤ 2)) false (by kernel_rfl) (dT c1) (by kernel_rfl) ?_
    refine R.skp (decide (size ≤ 2)) false (by kernel_rfl) (dT c1) (by kernel_rfl) ?_
    refine R.skp (decide (size ≤ 2)) false (by kernel_rfl) (dT c1) (by kernel_rfl) ?_
    refine R.pick (decide (size ≤ 2)) true (by kernel_rfl) (dT c1) (by kernel_rfl) ?_
    refine R.go 6 (R.callX (CallX.inF 1 usC frC (nextX_c c p h 8 hc) (Nat.le_of_ble_eq_true (by kernel_rfl)) (by kernel_rfl) (by kernel_rfl) (by rintro _ _ ⟨_, _, _, _, rfl, rfl⟩; exact Nat.le_of_ble_eq_true (by kernel_rfl))) (by kernel_rfl) (by kernel_rfl) (by kernel_rfl) ?_)
    rintro _ _ ⟨_, _, ⟨v_2, p1_3, h1_4, f5, rfl, rfl⟩, rfl, rfl⟩
    refine R.go 2 (R.cond (v_2 = 0) (by kernel_rfl) (fun c6 => ?_) (fun c6 => ?_))
    · refine R.go 2 (R.call true (l02False_c).frz (by kernel_rfl) rfl (by kernel_rfl) ?_)
      exact R.go 2 (R.retX (res := LN [(1, 0)]) (hp' := [.box 112 [LB c, AI (p1_3 : Int), .int .u64 h1_4], .dead]) (by kernel_rfl) (by kernel_rfl) (by kernel_rfl) (by kernel_rfl) ⟨[0], by kernel_rfl, by decide, [(1, 0)], p1_3, h1_4, by first | (simp; done) | (simp only [List.length_cons, List.length_append, List.length_nil]; omega), by kernel_rfl, by kernel_rfl⟩)
    · refine R.go 5 (R.callX (CallX.inF 1 usC frC (nextX_c c p1_3 h1_4 vars hc) (Nat.le_of_ble_eq_true (by kernel_rfl)) (by kernel_rfl) (by kernel_rfl) (by rintro _ _ ⟨_, _, _, _, rfl, rfl⟩; exact Nat.le_of_ble_eq_true (by kernel_rfl))) (by kernel_rfl) (by kernel_rfl) (by kernel_rfl) ?_)
      rintro _ _ ⟨_, _, ⟨v_7, p1_8, h1_9, f10, rfl, rfl⟩, rfl, rfl⟩
      refine R.call true (l02Var_c v_7).frz (by kernel_rfl) rfl (by kernel_rfl) ?_
      exact R.go 2 (R.retX (res := LN [(0, v_7)]) (hp' := [.box 112 [LB c, AI (p1_8 : Int), .int .u64 h1_9], .dead]) (by kernel_rfl) (by kernel_rfl) (by kernel_rfl) (by kernel_rfl) ⟨[0], by kernel_rfl, by decide, [(0, v_7)], p1_8, h1_9, by first | (simp; done) | (simp only [List.length_cons, List.length_append, List.length_nil]; omega), by kernel_rfl, by kernel_rfl⟩)
  · refine R.want (decide (size ≤ 2)) false (by kernel_rfl) (dF c1) ?_
    refine R.go 1 (R.want (decide (size ≤ 2)) false (by kernel_rfl) (dF c1) ?_)
    refine R.callX (CallX.inF 1 usC frC (nextX_c c p h 9 hc) (Nat.le_of_ble_eq_true (by kernel_rfl)) (by kernel_rfl) (by kernel_rfl) (by rintro _ _ ⟨_, _, _, _, rfl, rfl⟩; exact Nat.le_of_ble_eq_true (by kernel_rfl))) (by kernel_rfl) (by kernel_rfl) (by kernel_rfl) ?_
    rintro _ _ ⟨_, _, ⟨v_11, p1_12, h1_13, f14, rfl, rfl⟩, rfl, rfl⟩
    refine R.want (decide (size ≤ 2)) false (by kernel_rfl) (dF c1) ?_
    refine R.go 1 (R.pick (decide (size ≤ 2)) false (by kernel_rfl) (dF c1) (by kernel_rfl) ?_)
    refine R.go 1 (R.cond (v_11 = 0) (by kernel_rfl) (fun c15 => ?_) (fun c15 => ?_))
    · refine R.go 4 (R.callX (CallX.inF 1 usC frC (nextX_c c p1_12 h1_13 8 hc) (Nat.le_of_ble_eq_true (by kernel_rfl)) (by kernel_rfl) (by kernel_rfl) (by rintro _ _ ⟨_, _, _, _, rfl, rfl⟩; exact Nat.le_of_ble_eq_true (by kernel_rfl))) (by kernel_rfl) (by kernel_rfl) (by kernel_rfl) ?_)
      rintro _ _ ⟨_, _, ⟨v_16, p1_17, h1_18, f19, rfl, rfl⟩, rfl, rfl⟩
      refine R.go 2 (R.cond (v_16 = 0) (by kernel_rfl) (fun c20 => ?_) (fun c20 => ?_))
      · refine R.go 2 (R.call true (l02False_c).frz (by kernel_rfl) rfl (by kernel_rfl) ?_)
        exact R.go 2 (R.retX (res := LN [(1, 0)]) (hp' := [.box 112 [LB c, AI (p1_17 : Int), .int .u64 h1_18], .dead]) (by kernel_rfl) (by kernel_rfl) (by kernel_rfl) (by kernel_rfl) ⟨[0], by kernel_rfl, by decide, [(1, 0)], p1_17, h1_18, by first | (simp; done) | (simp only [List.length_cons, List.length_append, List.length_nil]; omega), by kernel_rfl, by kernel_rfl⟩)
      · refine R.go 5 (R.callX (CallX.inF 1 usC frC (nextX_c c p1_17 h1_18 vars hc) (Nat.le_of_ble_eq_true (by kernel_rfl)) (by kernel_rfl) (by kernel_rfl) (by rintro _ _ ⟨_, _, _, _, rfl, rfl⟩; exact Nat.le_of_ble_eq_true (by kernel_rfl))) (by kernel_rfl) (by kernel_rfl) (by kernel_rfl) ?_)
        rintro _ _ ⟨_, _, ⟨v_21, p1_22, h1_23, f24, rfl, rfl⟩, rfl, rfl⟩
        refine R.call true (l02Var_c v_21).frz (by kernel_rfl) rfl (by kernel_rfl) ?_
        exact R.go 2 (R.retX (res := LN [(0, v_21)]) (hp' := [.box 112 [LB c, AI (p1_22 : Int), .int .u64 h1_23], .dead]) (by kernel_rfl) (by kernel_rfl) (by kernel_rfl) (by kernel_rfl) ⟨[0], by kernel_rfl, by decide, [(0, v_21)], p1_22, h1_23, by first | (simp; done) | (simp only [List.length_cons, List.length_append, List.length_nil]; omega), by kernel_rfl, by kernel_rfl⟩)
    · refine R.go 6 ?_
      refine (Bool.eq_false_or_eq_true (modal)).elim (fun c25 => ?_) (fun c25 => ?_)
      · refine R.want (modal) true (by kernel_rfl) c25 ?_
        refine R.go 1 (R.want (modal) true (by kernel_rfl) c25 ?_)
        refine R.callX (CallX.inF 1 usC frC (nextX_c c p1_12 h1_13 3 hc) (Nat.le_of_ble_eq_true (by kernel_rfl)) (by kernel_rfl) (by kernel_rfl) (by rintro _ _ ⟨_, _, _, _, rfl, rfl⟩; exact Nat.le_of_ble_eq_true (by kernel_rfl))) (by kernel_rfl) (by kernel_rfl) (by kernel_rfl) ?_
        rintro _ _ ⟨_, _, ⟨v_26, p1_27, h1_28, f29, rfl, rfl⟩, rfl, rfl⟩
        refine R.want (modal) true (by kernel_rfl) c25 ?_
        refine R.go 1 (R.pick (modal) true (by kernel_rfl) c25 (by kernel_rfl) ?_)
        refine R.go 1 (R.cond (v_26 = 0) (by kernel_rfl) (fun c30 => ?_) (fun c30 => ?_))
        · refine R.go 3 (R.callX (CallX.inF 1 usC frC (nextX_c c p1_27 h1_28 2 hc) (Nat.le_of_ble_eq_true (by kernel_rfl)) (by kernel_rfl) (by kernel_rfl) (by rintro _ _ ⟨_, _, _, _, rfl, rfl⟩; exact Nat.le_of_ble_eq_true (by kernel_rfl))) (by kernel_rfl) (by kernel_rfl) (by kernel_rfl) ?_)
          rintro _ _ ⟨_, _, ⟨v_31, p1_32, h1_33, f34, rfl, rfl⟩, rfl, rfl⟩
          refine R.ar (5 + v_31) (by kernel_rfl) (by omega) (by omega) (by kernel_rfl) ?_
          refine R.go 2 (R.ar (size - 1) (by kernel_rfl) (by omega) (by omega) (by kernel_rfl) ?_)
          refine R.go 2 (R.callX (CallX.inF 1 usC frC (ih (((size - 1) : Int).toNat) (by omega) c p1_32 h1_33 (size - 1) vars modal (by rfl) hc (by omega)) (Nat.le_of_ble_eq_true (by kernel_rfl)) (by kernel_rfl) (by kernel_rfl) (by rintro _ _ ⟨_, _, _, _, rfl, rfl⟩; exact Nat.le_of_ble_eq_true (by kernel_rfl))) (by kernel_rfl) (by kernel_rfl) (by kernel_rfl) ?_)
          rintro _ _ ⟨_, _, ⟨r_35, p1_36, h1_37, f38, rfl, rfl⟩, rfl, rfl⟩
          refine R.call true (l02Pre_c (5 + v_31) r_35 (by first | omega | (simp <;> omega))).frz (by kernel_rfl) rfl (by kernel_rfl) ?_
          exact R.go 2 (R.retX (res := LN (((5 + v_31), 0) :: r_35)) (hp' := [.box 112 [LB c, AI (p1_36 : Int), .int .u64 h1_37], .dead]) (by kernel_rfl) (by kernel_rfl) (by kernel_rfl) (by kernel_rfl) ⟨[0], by kernel_rfl, by decide, ((5 + v_31), 0) :: r_35, p1_36, h1_37, by first | (simp; done) | (simp only [List.length_cons, List.length_append, List.length_nil]; omega), by kernel_rfl, by kernel_rfl⟩)
        · refine R.go 5 (R.callX (CallX.inF 1 usC frC (nextX_c c p1_27 h1_28 6 hc) (Nat.le_of_ble_eq_true (by kernel_rfl)) (by kernel_rfl) (by kernel_rfl) (by rintro _ _ ⟨_, _, _, _, rfl, rfl⟩; exact Nat.le_of_ble_eq_true (by kernel_rfl))) (by kernel_rfl) (by kernel_rfl) (by kernel_rfl) ?_)
          rintro _ _ ⟨_, _, ⟨v_39, p1_40, h1_41, f42, rfl, rfl⟩, rfl, rfl⟩
          refine R.go 2 (R.cond (v_39 = 0) (by kernel_rfl) (fun c43 => ?_) (fun c43 => ?_))
          · refine R.go 4 (R.ar (size - 2) (by kernel_rfl) (by omega) (by omega) (by kernel_rfl) ?_)
            refine R.go 2 (R.callX (CallX.inF 1 usC frC (ih (((size - 2) : Int).toNat) (by omega) c p1_40 h1_41 (size - 2) vars modal (by rfl) hc (by omega)) (Nat.le_of_ble_eq_true (by kernel_rfl)) (by kernel_rfl) (by kernel_rfl) (by rintro _ _ ⟨_, _, _, _, rfl, rfl⟩; exact Nat.le_of_ble_eq_true (by kernel_rfl))) (by kernel_rfl) (by kernel_rfl) (by kernel_rfl) ?_)
            rintro _ _ ⟨_, _, ⟨r_44, p1_45, h1_46, f47, rfl, rfl⟩, rfl, rfl⟩
            refine R.call true (l02Not_c r_44 (by first | omega | (simp <;> omega))).frz (by kernel_rfl) rfl (by kernel_rfl) ?_
            exact R.go 2 (R.retX (res := LN ((4, 0) :: (r_44 ++ [(1, 0)]))) (hp' := [.box 112 [LB c, AI (p1_45 : Int), .int .u64 h1_46], .dead]) (by kernel_rfl) (by kernel_rfl) (by kernel_rfl) (by kernel_rfl) ⟨[0], by kernel_rfl, by decide, (4, 0) :: (r_44 ++ [(1, 0)]), p1_45, h1_46, by first | (simp; done) | (simp only [List.length_cons, List.length_append, List.length_nil]; omega), by kernel_rfl, by kernel_rfl⟩)
          · refine R.go 5 (R.ar (size - 2) (by kernel_rfl) (by omega) (by omega) (by kernel_rfl) ?_)
            refine R.callX (CallX.inF 1 usC frC (nextX_c c p1_40 h1_41 (size - 2) hc) (Nat.le_of_ble_eq_true (by kernel_rfl)) (by kernel_rfl) (by kernel_rfl) (by rintro _ _ ⟨_, _, _, _, rfl, rfl⟩; exact Nat.le_of_ble_eq_true (by kernel_rfl))) (by kernel_rfl) (by kernel_rfl) (by kernel_rfl) ?_
            rintro _ _ ⟨_, _, ⟨v_48, p1_49, h1_50, f51, rfl, rfl⟩, rfl, rfl⟩
            refine R.ar (1 + v_48) (by kernel_rfl) (by omega) (by omega) (by kernel_rfl) ?_
            refine R.go 8 (R.callX (CallX.inF 1 usC frC (ih (((1 + v_48) : Int).toNat) (by omega) c p1_49 h1_50 (1 + v_48) vars modal (by rfl) hc (by omega)) (Nat.le_of_ble_eq_true (by kernel_rfl)) (by kernel_rfl) (by kernel_rfl) (by rintro _ _ ⟨_, _, _, _, rfl, rfl⟩; exact Nat.le_of_ble_eq_true (by kernel_rfl))) (by kernel_rfl) (by kernel_rfl) (by kernel_rfl) ?_)
            rintro _ _ ⟨_, _, ⟨r_52, p1_53, h1_54, f55, rfl, rfl⟩, rfl, rfl⟩
            refine R.go 5 (R.callX (CallX.inF 1 usC frC (nextX_c c p1_53 h1_54 3 hc) (Nat.le_of_ble_eq_true (by kernel_rfl)) (by kernel_rfl) (by kernel_rfl) (by rintro _ _ ⟨_, _, _, _, rfl, rfl⟩; exact Nat.le_of_ble_eq_true (by kernel_rfl))) (by kernel_rfl) (by kernel_rfl) (by kernel_rfl) ?_)
            rintro _ _ ⟨_, _, ⟨v_56, p1_57, h1_58, f59, rfl, rfl⟩, rfl, rfl⟩
            refine R.ar (2 + v_56) (by kernel_rfl) (by omega) (by omega) (by kernel_rfl) ?_
            refine R.go 3 (R.ar (size - 1) (by kernel_rfl) (by omega) (by omega) (by kernel_rfl) ?_)
            refine R.go 1 (R.ar ((size - 1) - (1 + v_48)) (by kernel_rfl) (by omega) (by omega) (by kernel_rfl) ?_)
            refine R.go 2 (R.callX (CallX.inF 1 usC frC (ih ((((size - 1) - (1 + v_48)) : Int).toNat) (by omega) c p1_57 h1_58 ((size - 1) - (1 + v_48)) vars modal (by rfl) hc (by omega)) (Nat.le_of_ble_eq_true (by kernel_rfl)) (by kernel_rfl) (by kernel_rfl) (by rintro _ _ ⟨_, _, _, _, rfl, rfl⟩; exact Nat.le_of_ble_eq_true (by kernel_rfl))) (by kernel_rfl) (by kernel_rfl) (by kernel_rfl) ?_)
            rintro _ _ ⟨_, _, ⟨r_60, p1_61, h1_62, f63, rfl, rfl⟩, rfl, rfl⟩
            refine R.call true (l02Pair_c (2 + v_56) r_52 r_60 (by first | omega | (simp <;> omega)) (by first | omega | (simp <;> omega))).frz (by kernel_rfl) rfl (by kernel_rfl) ?_
            exact R.go 2 (R.retX (res := LN (((2 + v_56), 0) :: (r_52 ++ r_60))) (hp' := [.box 112 [LB c, AI (p1_61 : Int), .int .u64 h1_62], .dead]) (by kernel_rfl) (by kernel_rfl) (by kernel_rfl) (by kernel_rfl) ⟨[0], by kernel_rfl, by decide, ((2 + v_56), 0) :: (r_52 ++ r_60), p1_61, h1_62, by first | (simp; done) | (simp only [List.length_cons, List.length_append, List.length_nil]; omega), by kernel_rfl, by kernel_rfl⟩)
      · refine R.skp (modal) true (by kernel_rfl) c25 (by kernel_rfl) ?_
        refine R.skp (modal) true (by kernel_rfl) c25 (by kernel_rfl) ?_
        refine R.skp (modal) true (by kernel_rfl) c25 (by kernel_rfl) ?_
        refine R.pick (modal) false (by kernel_rfl) c25 (by kernel_rfl) ?_
        refine R.go 7 (R.callX (CallX.inF 1 usC frC (nextX_c c p1_12 h1_13 6 hc) (Nat.le_of_ble_eq_true (by kernel_rfl)) (by kernel_rfl) (by kernel_rfl) (by rintro _ _ ⟨_, _, _, _, rfl, rfl⟩; exact Nat.le_of_ble_eq_true (by kernel_rfl))) (by kernel_rfl) (by kernel_rfl) (by kernel_rfl) ?_)
        rintro _ _ ⟨_, _, ⟨v_64, p1_65, h1_66, f67, rfl, rfl⟩, rfl, rfl⟩
        refine R.go 2 (R.cond (v_64 = 0) (by kernel_rfl) (fun c68 => ?_) (fun c68 => ?_))
        · refine R.go 4 (R.ar (size - 2) (by kernel_rfl) (by omega) (by omega) (by kernel_rfl) ?_)
          refine R.go 2 (R.callX (CallX.inF 1 usC frC (ih (((size - 2) : Int).toNat) (by omega) c p1_65 h1_66 (size - 2) vars modal (by rfl) hc (by omega)) (Nat.le_of_ble_eq_true (by kernel_rfl)) (by kernel_rfl) (by kernel_rfl) (by rintro _ _ ⟨_, _, _, _, rfl, rfl⟩; exact Nat.le_of_ble_eq_true (by kernel_rfl))) (by kernel_rfl) (by kernel_rfl) (by kernel_rfl) ?_)
          rintro _ _ ⟨_, _, ⟨r_69, p1_70, h1_71, f72, rfl, rfl⟩, rfl, rfl⟩
          refine R.call true (l02Not_c r_69 (by first | omega | (simp <;> omega))).frz (by kernel_rfl) rfl (by kernel_rfl) ?_
          exact R.go 2 (R.retX (res := LN ((4, 0) :: (r_69 ++ [(1, 0)]))) (hp' := [.box 112 [LB c, AI (p1_70 : Int), .int .u64 h1_71], .dead]) (by kernel_rfl) (by kernel_rfl) (by kernel_rfl) (by kernel_rfl) ⟨[0], by kernel_rfl, by decide, (4, 0) :: (r_69 ++ [(1, 0)]), p1_70, h1_71, by first | (simp; done) | (simp only [List.length_cons, List.length_append, List.length_nil]; omega), by kernel_rfl, by kernel_rfl⟩)
        · refine R.go 5 (R.ar (size - 2) (by kernel_rfl) (by omega) (by omega) (by kernel_rfl) ?_)
          refine R.callX (CallX.inF 1 usC frC (nextX_c c p1_65 h1_66 (size - 2) hc) (Nat.le_of_ble_eq_true (by kernel_rfl)) (by kernel_rfl) (by kernel_rfl) (by rintro _ _ ⟨_, _, _, _, rfl, rfl⟩; exact Nat.le_of_ble_eq_true (by kernel_rfl))) (by kernel_rfl) (by kernel_rfl) (by kernel_rfl) ?_
          rintro _ _ ⟨_, _, ⟨v_73, p1_74, h1_75, f76, rfl, rfl⟩, rfl, rfl⟩
          refine R.ar (1 + v_73) (by kernel_rfl) (by omega) (by omega) (by kernel_rfl) ?_
          refine R.go 8 (R.callX (CallX.inF 1 usC frC (ih (((1 + v_73) : Int).toNat) (by omega) c p1_74 h1_75 (1 + v_73) vars modal (by rfl) hc (by omega)) (Nat.le_of_ble_eq_true (by kernel_rfl)) (by kernel_rfl) (by kernel_rfl) (by rintro _ _ ⟨_, _, _, _, rfl, rfl⟩; exact Nat.le_of_ble_eq_true (by kernel_rfl))) (by kernel_rfl) (by kernel_rfl) (by kernel_rfl) ?_)
          rintro _ _ ⟨_, _, ⟨r_77, p1_78, h1_79, f80, rfl, rfl⟩, rfl, rfl⟩
          refine R.go 5 (R.callX (CallX.inF 1 usC frC (nextX_c c p1_78 h1_79 3 hc) (Nat.le_of_ble_eq_true (by kernel_rfl)) (by kernel_rfl) (by kernel_rfl) (by rintro _ _ ⟨_, _, _, _, rfl, rfl⟩; exact Nat.le_of_ble_eq_true (by kernel_rfl))) (by kernel_rfl) (by kernel_rfl) (by kernel_rfl) ?_)
          rintro _ _ ⟨_, _, ⟨v_81, p1_82, h1_83, f84, rfl, rfl⟩, rfl, rfl⟩
          refine R.ar (2 + v_81) (by kernel_rfl) (by omega) (by omega) (by kernel_rfl) ?_
          refine R.go 3 (R.ar (size - 1) (by kernel_rfl) (by omega) (by omega) (by kernel_rfl) ?_)
          refine R.go 1 (R.ar ((size - 1) - (1 + v_73)) (by kernel_rfl) (by omega) (by omega) (by kernel_rfl) ?_)
          refine R.go 2 (R.callX (CallX.inF 1 usC frC (ih ((((size - 1) - (1 + v_73)) : Int).toNat) (by omega) c p1_82 h1_83 ((size - 1) - (1 + v_73)) vars modal (by rfl) hc (by omega)) (Nat.le_of_ble_eq_true (by kernel_rfl)) (by kernel_rfl) (by kernel_rfl) (by rintro _ _ ⟨_, _, _, _, rfl, rfl⟩; exact Nat.le_of_ble_eq_true (by kernel_rfl))) (by kernel_rfl) (by kernel_rfl) (by kernel_rfl) ?_)
          rintro _ _ ⟨_, _, ⟨r_85, p1_86, h1_87, f88, rfl, rfl⟩, rfl, rfl⟩
          refine R.call true (l02Pair_c (2 + v_81) r_77 r_85 (by first | omega | (simp <;> omega)) (by first | omega | (simp <;> omega))).frz (by kernel_rfl) rfl (by kernel_rfl) ?_
          exact R.go 2 (R.retX (res := LN (((2 + v_81), 0) :: (r_77 ++ r_85))) (hp' := [.box 112 [LB c, AI (p1_86 : Int), .int .u64 h1_87], .dead]) (by kernel_rfl) (by kernel_rfl) (by kernel_rfl) (by kernel_rfl) ⟨[0], by kernel_rfl, by decide, ((2 + v_81), 0) :: (r_77 ++ r_85), p1_86, h1_87, by first | (simp; done) | (simp only [List.length_cons, List.length_append, List.length_nil]; omega), by kernel_rfl, by kernel_rfl⟩)

end Go.Proofs.Ytgebepfdphmjcaa


/-! Draws of formulas, second part. -/
namespace Go.Proofs.Ytgebepfdphmjcaa
open Go.RowKit Go.Abs

theorem l02Own_c (xs : List (Int × Int)) (hl : xs.length ≤ 1000000000) : CallA Try.prog 134 [LN xs] (ownA eN 117 2 xs) := by
  refine CallA.of Try.func134 rfl (by kernel_rfl) ?_
  refine R.go 8 (R.app eN [] xs 0 117 2 16 (by kernel_rfl) eN_one (by decide) (by first | omega | (simp <;> omega)) (by kernel_rfl) ?_)
  exact R.go 2 (R.retE (ownA eN 117 2 ([] ++ xs)) (by kernel_rfl) (by kernel_rfl) (by first | (rfl) | (exfalso; omega)))

theorem bendX_c (c : List Int) (p : Nat) (h : Int) (a : List (Int × Int)) (hc : BY c) (ha : 1 ≤ a.length ∧ a.length ≤ 900) : CallX Try.prog 98 [.ptr 0 0, LN a] [.box 112 [LB c, AI (p : Int), .int .u64 h]] (fun (resX : AV) (objX : List AObj) => ∃ r : List (Int × Int), ∃ p1 : Nat, ∃ h1 : Int, (r.length ≤ 1000) ∧ resX = LN r ∧ objX = [.box 112 [LB c, AI (p1 : Int), .int .u64 h1]]) := by
  have hcl : c.length ≤ 4096 := hc.1
  have hcb := hc.2
  refine CallX.dropE (CallX.ofF Try.func98 rfl (by kernel_rfl) ?_)
  intro usC frC hfC
  refine R.go 7 (R.call true (l02Own_c a (by first | omega | (simp <;> omega))) (by kernel_rfl) rfl (by kernel_rfl) ?_)
  refine R.go 7 (R.callX (CallX.inF 1 usC frC (nextX_c_r1 c p h a.length 117 2 a.length (rows eN a) hc) (Nat.le_of_ble_eq_true (by kernel_rfl)) (by kernel_rfl) (by kernel_rfl) (by rintro _ _ ⟨_, _, _, _, rfl, rfl⟩; exact Nat.le_of_ble_eq_true (by kernel_rfl))) (by kernel_rfl) (by kernel_rfl) (by kernel_rfl) ?_)
  rintro _ _ ⟨_, _, ⟨v_1, p1_2, h1_3, f4, rfl, rfl⟩, rfl, rfl⟩
  refine R.go 6 (R.callX (CallX.inF 1 usC frC (nextX_c_r1 c p1_2 h1_3 5 117 2 a.length (rows eN a) hc) (Nat.le_of_ble_eq_true (by kernel_rfl)) (by kernel_rfl) (by kernel_rfl) (by rintro _ _ ⟨_, _, _, _, rfl, rfl⟩; exact Nat.le_of_ble_eq_true (by kernel_rfl))) (by kernel_rfl) (by kernel_rfl) (by kernel_rfl) ?_)
  rintro _ _ ⟨_, _, ⟨v_5, p1_6, h1_7, f8, rfl, rfl⟩, rfl, rfl⟩
  refine R.go 7 (R.cond (v_5 = 0) (by kernel_rfl) (fun c9 => ?_) (fun c9 => ?_))
  · refine R.go 4 (R.callX (CallX.inF 1 usC frC (nextX_c_r1 c p1_6 h1_7 9 117 2 a.length (rows eN a) hc) (Nat.le_of_ble_eq_true (by kernel_rfl)) (by kernel_rfl) (by kernel_rfl) (by rintro _ _ ⟨_, _, _, _, rfl, rfl⟩; exact Nat.le_of_ble_eq_true (by kernel_rfl))) (by kernel_rfl) (by kernel_rfl) (by kernel_rfl) ?_)
    rintro _ _ ⟨_, _, ⟨v_10, p1_11, h1_12, f13, rfl, rfl⟩, rfl, rfl⟩
    refine R.ar (v_10 - 1) (by kernel_rfl) (by omega) (by omega) (by kernel_rfl) ?_
    refine R.idxO 2 2 a.length ((v_1).toNat) v_1 (by kernel_rfl) (by omega) (by omega) (by kernel_rfl) ?_
    refine R.go 1 (R.stF eN 2 117 2 a (0, 0) ((v_1).toNat) 0 (AI (v_10 - 1)) (v_10 - 1, (a.getD ((v_1).toNat) (0, 0)).2) (by kernel_rfl) eN_len (by omega) (by decide) rfl (by kernel_rfl) ?_)
    refine R.go 7 (R.frz 2 (by kernel_rfl) ?_)
    refine R.kfix 1 (us := usC) (by kernel_rfl) (hfC.frz 2 (LN (a.set ((v_1).toNat) (v_10 - 1, (a.getD ((v_1).toNat) (0, 0)).2))) (Nat.le_of_ble_eq_true (by kernel_rfl))) ?_
    exact R.retX (res := LN (a.set ((v_1).toNat) (v_10 - 1, (a.getD ((v_1).toNat) (0, 0)).2))) (hp' := [.box 112 [LB c, AI (p1_11 : Int), .int .u64 h1_12], .dead, .dead]) (by kernel_rfl) (by kernel_rfl) (by kernel_rfl) (by kernel_rfl) ⟨[0], by kernel_rfl, by decide, a.set ((v_1).toNat) (v_10 - 1, (a.getD ((v_1).toNat) (0, 0)).2), p1_11, h1_12, by first | omega | (simp only [List.length_append, List.length_cons, List.length_nil, List.length_set, List.length_take, List.length_drop]; omega), by kernel_rfl, by kernel_rfl⟩
  · refine R.go 5 (R.cond (v_5 = 1) (by kernel_rfl) (fun c14 => ?_) (fun c14 => ?_))
    · refine R.go 4 (R.lit (s := 1) (n := 5) (cs := rows eI [(-1), 0, 1, 5, 6]) (by kernel_rfl) (by kernel_rfl) ?_)
      refine R.callX (CallX.inF 1 usC frC (pickX_c_r1 c p1_6 h1_7 [(-1), 0, 1, 5, 6] 117 2 a.length (rows eN a) hc (by simp)) (Nat.le_of_ble_eq_true (by kernel_rfl)) (by kernel_rfl) (by kernel_rfl) (by rintro _ _ ⟨_, _, _, rfl, rfl⟩; exact Nat.le_of_ble_eq_true (by kernel_rfl))) (by kernel_rfl) (by kernel_rfl) (by kernel_rfl) ?_
      rintro _ _ ⟨_, _, ⟨v_15, p1_16, h1_17, rfl, rfl⟩, rfl, rfl⟩
      refine R.idxO 2 2 a.length ((v_1).toNat) v_1 (by kernel_rfl) (by omega) (by omega) (by kernel_rfl) ?_
      refine R.go 1 (R.stF eN 2 117 2 a (0, 0) ((v_1).toNat) 1 (AI v_15) ((a.getD ((v_1).toNat) (0, 0)).1, v_15) (by kernel_rfl) eN_len (by omega) (by decide) rfl (by kernel_rfl) ?_)
      refine R.go 7 (R.frz 2 (by kernel_rfl) ?_)
      refine R.kfix 1 (us := usC) (by kernel_rfl) (hfC.frz 2 (LN (a.set ((v_1).toNat) ((a.getD ((v_1).toNat) (0, 0)).1, v_15))) (Nat.le_of_ble_eq_true (by kernel_rfl))) ?_
      exact R.retX (res := LN (a.set ((v_1).toNat) ((a.getD ((v_1).toNat) (0, 0)).1, v_15))) (hp' := [.box 112 [LB c, AI (p1_16 : Int), .int .u64 h1_17], .dead, .dead]) (by kernel_rfl) (by kernel_rfl) (by kernel_rfl) (by kernel_rfl) ⟨[0], by kernel_rfl, by decide, a.set ((v_1).toNat) ((a.getD ((v_1).toNat) (0, 0)).1, v_15), p1_16, h1_17, by first | omega | (simp only [List.length_append, List.length_cons, List.length_nil, List.length_set, List.length_take, List.length_drop]; omega), by kernel_rfl, by kernel_rfl⟩
    · refine R.go 5 (R.cond (v_5 = 2) (by kernel_rfl) (fun c18 => ?_) (fun c18 => ?_))
      · refine R.go 3 (R.callX (CallX.inF 1 usC frC (nextX_c_r1 c p1_6 h1_7 7 117 2 a.length (rows eN a) hc) (Nat.le_of_ble_eq_true (by kernel_rfl)) (by kernel_rfl) (by kernel_rfl) (by rintro _ _ ⟨_, _, _, _, rfl, rfl⟩; exact Nat.le_of_ble_eq_true (by kernel_rfl))) (by kernel_rfl) (by kernel_rfl) (by kernel_rfl) ?_)
        rintro _ _ ⟨_, _, ⟨v_19, p1_20, h1_21, f22, rfl, rfl⟩, rfl, rfl⟩
        refine R.go 2 (R.app eN a [(v_19, 0)] 2 117 2 16 (by kernel_rfl) eN_one (by decide) (by first | omega | (simp <;> omega)) (by kernel_rfl) ?_)
        refine R.kfix 1 (us := usC) (by kernel_rfl) (hfC.kill 2 (Nat.le_of_ble_eq_true (by kernel_rfl))) ?_
        refine R.go 8 (R.frz 2 (by kernel_rfl) ?_)
        refine R.kfix 1 (us := usC) (by kernel_rfl) (hfC.frz 2 (LN (a ++ [(v_19, 0)])) (Nat.le_of_ble_eq_true (by kernel_rfl))) ?_
        exact R.retX (res := LN (a ++ [(v_19, 0)])) (hp' := [.box 112 [LB c, AI (p1_20 : Int), .int .u64 h1_21], .dead, .dead, rowA eN 117 2 [(v_19, 0)]]) (by kernel_rfl) (by kernel_rfl) (by kernel_rfl) (by kernel_rfl) ⟨[0], by kernel_rfl, by decide, a ++ [(v_19, 0)], p1_20, h1_21, by first | omega | (simp only [List.length_append, List.length_cons, List.length_nil, List.length_set, List.length_take, List.length_drop]; omega), by kernel_rfl, by kernel_rfl⟩
      · refine R.go 5 (R.cond (v_5 = 3) (by kernel_rfl) (fun c23 => ?_) (fun c23 => ?_))
        · refine R.go 3 (R.cut eN a 2 117 ((v_1).toNat) v_1 (by kernel_rfl) (by omega) eN_len (by omega) (by kernel_rfl) ?_)
          refine R.kfix 1 (us := usC) (by kernel_rfl) (hfC.kill 2 (Nat.le_of_ble_eq_true (by kernel_rfl))) ?_
          refine R.go 8 (R.frz 2 (by kernel_rfl) ?_)
          refine R.kfix 1 (us := usC) (by kernel_rfl) (hfC.frz 2 (LN (a.take ((v_1).toNat))) (Nat.le_of_ble_eq_true (by kernel_rfl))) ?_
          exact R.retX (res := LN (a.take ((v_1).toNat))) (hp' := [.box 112 [LB c, AI (p1_6 : Int), .int .u64 h1_7], .dead, .dead]) (by kernel_rfl) (by kernel_rfl) (by kernel_rfl) (by kernel_rfl) ⟨[0], by kernel_rfl, by decide, a.take ((v_1).toNat), p1_6, h1_7, by first | omega | (simp only [List.length_append, List.length_cons, List.length_nil, List.length_set, List.length_take, List.length_drop]; omega), by kernel_rfl, by kernel_rfl⟩
        · refine R.go 5 (R.cond (v_5 = 4) (by kernel_rfl) (fun c24 => ?_) (fun c24 => ?_))
          · refine R.any (by decide +kernel) (by kernel_rfl) ?_
            refine R.anyF 0 (by kernel_rfl) (np_retX _ _ _ _ _ _) ?_
            refine R.anyF 1 (by kernel_rfl) (np_retX _ _ _ _ _ _) ?_
            refine R.anyF 3 (by kernel_rfl) (np_retX _ _ _ _ _ _) ?_
            refine R.anyF 4 (by kernel_rfl) (np_retX _ _ _ _ _ _) ?_
            refine R.anyI 5 (AI (IntKind.i64.wrap (v_1 + 1))) (by kernel_rfl) (np_retX _ _ _ _ _ _) ?_
            refine R.del eN a 2 6 7 2 117 16 ((v_1).toNat) v_1 (IntKind.i64.wrap (v_1 + 1)) (by kernel_rfl) (by omega) (by rw [wrap_id (by omega) (by omega)]; omega) eN_len eN_one (by omega) (by decide) (by omega) (np_retX _ _ _ _ _ _) ?_
            refine R.kfix 1 (us := usC) (by kernel_rfl) (hfC.kill 2 (Nat.le_of_ble_eq_true (by kernel_rfl))) ?_
            refine R.any1 8 (by kernel_rfl) (by kernel_rfl) ?_
            refine R.go 2 (R.any0 (by kernel_rfl) ?_)
            refine R.go 6 (R.frz 2 (by kernel_rfl) ?_)
            refine R.kfix 1 (us := usC) (by kernel_rfl) (hfC.frz 2 (LN (a.take ((v_1).toNat) ++ a.drop ((v_1).toNat + 1))) (Nat.le_of_ble_eq_true (by kernel_rfl))) ?_
            exact R.retX (res := LN (a.take ((v_1).toNat) ++ a.drop ((v_1).toNat + 1))) (hp' := [.box 112 [LB c, AI (p1_6 : Int), .int .u64 h1_7], .dead, .dead]) (by kernel_rfl) (by kernel_rfl) (by kernel_rfl) (by kernel_rfl) ⟨[0], by kernel_rfl, by decide, a.take ((v_1).toNat) ++ a.drop ((v_1).toNat + 1), p1_6, h1_7, by first | omega | (simp only [List.length_append, List.length_cons, List.length_nil, List.length_set, List.length_take, List.length_drop]; omega), by kernel_rfl, by kernel_rfl⟩
          · refine R.go 7 (R.frz 2 (by kernel_rfl) ?_)
            refine R.kfix 1 (us := usC) (by kernel_rfl) (hfC.frz 2 (LN a) (Nat.le_of_ble_eq_true (by kernel_rfl))) ?_
            exact R.retX (res := LN a) (hp' := [.box 112 [LB c, AI (p1_6 : Int), .int .u64 h1_7], .dead, .dead]) (by kernel_rfl) (by kernel_rfl) (by kernel_rfl) (by kernel_rfl) ⟨[0], by kernel_rfl, by decide, a, p1_6, h1_7, by first | omega | (simp only [List.length_append, List.length_cons, List.length_nil, List.length_set, List.length_take, List.length_drop]; omega), by kernel_rfl, by kernel_rfl⟩

theorem anyX_c (c : List Int) (p : Nat) (h : Int) (size : Int) (vars : Int) (modal : Bool) (hc : BY c) (hs : size ≤ 100) : CallX Try.prog 44 [.ptr 0 0, AI size, AI vars, .bool modal] [.box 112 [LB c, AI (p : Int), .int .u64 h]] (fun (resX : AV) (objX : List AObj) => ∃ r : List (Int × Int), ∃ p1 : Nat, ∃ h1 : Int, (r.length ≤ 1000) ∧ resX = LN r ∧ objX = [.box 112 [LB c, AI (p1 : Int), .int .u64 h1]]) := by
  have hcl : c.length ≤ 4096 := hc.1
  have hcb := hc.2
  refine CallX.dropE (CallX.ofF Try.func44 rfl (by kernel_rfl) ?_)
  intro usC frC hfC
  refine R.go 10 (R.callX (CallX.inF 1 usC frC (drawX_c ((size : Int).toNat) c p h size vars modal (by rfl) hc (by omega)) (Nat.le_of_ble_eq_true (by kernel_rfl)) (by kernel_rfl) (by kernel_rfl) (by rintro _ _ ⟨_, _, _, _, rfl, rfl⟩; exact Nat.le_of_ble_eq_true (by kernel_rfl))) (by kernel_rfl) (by kernel_rfl) (by kernel_rfl) ?_)
  rintro _ _ ⟨_, _, ⟨r_1, p1_2, h1_3, f4, rfl, rfl⟩, rfl, rfl⟩
  refine R.go 6 (R.callX (CallX.inF 1 usC frC (nextX_c c p1_2 h1_3 40 hc) (Nat.le_of_ble_eq_true (by kernel_rfl)) (by kernel_rfl) (by kernel_rfl) (by rintro _ _ ⟨_, _, _, _, rfl, rfl⟩; exact Nat.le_of_ble_eq_true (by kernel_rfl))) (by kernel_rfl) (by kernel_rfl) (by kernel_rfl) ?_)
  rintro _ _ ⟨_, _, ⟨v_5, p1_6, h1_7, f8, rfl, rfl⟩, rfl, rfl⟩
  refine R.go 7 (R.cond (v_5 = 0) (by kernel_rfl) (fun c9 => ?_) (fun c9 => ?_))
  · refine R.go 4 (R.callX (CallX.inF 1 usC frC (bendX_c c p1_6 h1_7 r_1 hc (by omega)) (Nat.le_of_ble_eq_true (by kernel_rfl)) (by kernel_rfl) (by kernel_rfl) (by rintro _ _ ⟨_, _, _, _, rfl, rfl⟩; exact Nat.le_of_ble_eq_true (by kernel_rfl))) (by kernel_rfl) (by kernel_rfl) (by kernel_rfl) ?_)
    rintro _ _ ⟨_, _, ⟨r_10, p1_11, h1_12, f13, rfl, rfl⟩, rfl, rfl⟩
    exact R.go 2 (R.retX (res := LN r_10) (hp' := [.box 112 [LB c, AI (p1_11 : Int), .int .u64 h1_12], .dead]) (by kernel_rfl) (by kernel_rfl) (by kernel_rfl) (by kernel_rfl) ⟨[0], by kernel_rfl, by decide, r_10, p1_11, h1_12, by first | assumption | omega, by kernel_rfl, by kernel_rfl⟩)
  · refine R.go 5 (R.cond (v_5 = 1) (by kernel_rfl) (fun c14 => ?_) (fun c14 => ?_))
    · refine R.go 1 (R.loop ((fun | (b, q, k) => (⟨(frm 42 [(0, .ptr 0 0), (2, AI vars), (3, .bool modal), (9, LN b)]), [.box 112 [LB c, AI (q : Int), .int .u64 k], .frame usC frC]⟩ : St) : (List (Int × Int)) × Nat × Int → St)) (fun | (b, q, k) => (1 ≤ b.length) ∧ (b.length ≤ 200)) (fun | (b, q, k) => 200 - b.length) (r_1, p1_6, h1_7) [0, 2, 3, 9] none (by kernel_rfl) (by kernel_rfl) (by kernel_rfl) ⟨(by omega), (by omega)⟩ ?_)
      rintro ⟨b, q, k⟩ ⟨h18_1, h18_2⟩ R15 N16
      refine R.go 7 ?_
      by_cases c19 : (b.length : Int) ≤ 40
      · refine R.want (decide ((b.length : Int) ≤ 40)) true (by kernel_rfl) (dT c19) ?_
        refine R.go 1 (R.want (decide ((b.length : Int) ≤ 40)) true (by kernel_rfl) (dT c19) ?_)
        refine R.callX (CallX.inF 1 usC frC (nextX_c c q k 60 hc) (Nat.le_of_ble_eq_true (by kernel_rfl)) (by kernel_rfl) (by kernel_rfl) (by rintro _ _ ⟨_, _, _, _, rfl, rfl⟩; exact Nat.le_of_ble_eq_true (by kernel_rfl))) (by kernel_rfl) (by kernel_rfl) (by kernel_rfl) ?_
        rintro _ _ ⟨_, _, ⟨v_20, p1_21, h1_22, f23, rfl, rfl⟩, rfl, rfl⟩
        refine R.want (decide ((b.length : Int) ≤ 40)) true (by kernel_rfl) (dT c19) ?_
        refine R.go 1 (R.pick (decide ((b.length : Int) ≤ 40)) true (by kernel_rfl) (dT c19) (by kernel_rfl) ?_)
        refine R.go 1 (R.cond (v_20 > 0) (by kernel_rfl) (fun c24 => ?_) (fun c24 => ?_))
        · refine R.go 4 (R.callX (CallX.inF 1 usC frC (nextX_c c p1_21 h1_22 3 hc) (Nat.le_of_ble_eq_true (by kernel_rfl)) (by kernel_rfl) (by kernel_rfl) (by rintro _ _ ⟨_, _, _, _, rfl, rfl⟩; exact Nat.le_of_ble_eq_true (by kernel_rfl))) (by kernel_rfl) (by kernel_rfl) (by kernel_rfl) ?_)
          rintro _ _ ⟨_, _, ⟨v_25, p1_26, h1_27, f28, rfl, rfl⟩, rfl, rfl⟩
          refine R.ar (2 + v_25) (by kernel_rfl) (by omega) (by omega) (by kernel_rfl) ?_
          refine R.go 4 (R.callX (CallX.inF 1 usC frC (drawX_c ((6 : Int).toNat) c p1_26 h1_27 6 vars modal (by rfl) hc (by omega)) (Nat.le_of_ble_eq_true (by kernel_rfl)) (by kernel_rfl) (by kernel_rfl) (by rintro _ _ ⟨_, _, _, _, rfl, rfl⟩; exact Nat.le_of_ble_eq_true (by kernel_rfl))) (by kernel_rfl) (by kernel_rfl) (by kernel_rfl) ?_)
          rintro _ _ ⟨_, _, ⟨r_29, p1_30, h1_31, f32, rfl, rfl⟩, rfl, rfl⟩
          refine R.call true (l02Pair_c (2 + v_25) b r_29 (by first | omega | (simp <;> omega)) (by first | omega | (simp <;> omega))).frz (by kernel_rfl) rfl (by kernel_rfl) ?_
          exact R.go 3 (R.stop R15 (by kernel_rfl) (N16 (((2 + v_25), 0) :: (b ++ r_29), p1_30, h1_31) [0, 2, 3, 9] none _ (by kernel_rfl) (by kernel_rfl) ⟨(by (simp only [List.length_cons, List.length_append]; omega)), (by (simp only [List.length_cons, List.length_append]; omega))⟩ (by show (200 - (((2 + v_25), 0) :: (b ++ r_29)).length) < (200 - b.length); (simp only [List.length_cons, List.length_append]; omega))))
        · exact R.go 7 (R.retX (res := LN b) (hp' := [.box 112 [LB c, AI (p1_21 : Int), .int .u64 h1_22], .dead]) (by kernel_rfl) (by kernel_rfl) (by kernel_rfl) (by kernel_rfl) ⟨[0], by kernel_rfl, by decide, b, p1_21, h1_22, by first | assumption | omega, by kernel_rfl, by kernel_rfl⟩)
      · refine R.skp (decide ((b.length : Int) ≤ 40)) true (by kernel_rfl) (dF c19) (by kernel_rfl) ?_
        refine R.skp (decide ((b.length : Int) ≤ 40)) true (by kernel_rfl) (dF c19) (by kernel_rfl) ?_
        refine R.skp (decide ((b.length : Int) ≤ 40)) true (by kernel_rfl) (dF c19) (by kernel_rfl) ?_
        refine R.pick (decide ((b.length : Int) ≤ 40)) false (by kernel_rfl) (dF c19) (by kernel_rfl) ?_
        exact R.go 9 (R.retX (res := LN b) (hp' := [.box 112 [LB c, AI (q : Int), .int .u64 k], .dead]) (by kernel_rfl) (by kernel_rfl) (by kernel_rfl) (by kernel_rfl) ⟨[0], by kernel_rfl, by decide, b, q, k, by first | assumption | omega, by kernel_rfl, by kernel_rfl⟩)
    · exact R.go 7 (R.retX (res := LN r_1) (hp' := [.box 112 [LB c, AI (p1_6 : Int), .int .u64 h1_7], .dead]) (by kernel_rfl) (by kernel_rfl) (by kernel_rfl) (by kernel_rfl) ⟨[0], by kernel_rfl, by decide, r_1, p1_6, h1_7, by first | assumption | omega, by kernel_rfl, by kernel_rfl⟩)

end Go.Proofs.Ytgebepfdphmjcaa
