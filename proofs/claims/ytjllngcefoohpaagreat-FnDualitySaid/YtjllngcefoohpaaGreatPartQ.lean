/- Texts of the proof: DM3. -/
import Derived.Test.YtjllngcefoohpaaGreatPartP

/-! The law FnDuality. -/
namespace Go.Proofs.YtjllngcefoohpaaGreat
open Go.RowKit Go.Abs
theorem iso_congr {xs ys : List Int} {f k : Nat → Nat} (h : Iso xs ys f) (e : ∀ x, x < xs.length → k x = f x) : Iso xs ys k := by
 refine ⟨h.len, fun x hx => by rw [e x hx]; exact h.lt x hx, fun x y hx hy q => h.inj x y hx hy (by rw [← e x hx, ← e y hy]; exact q), fun y hy => ?_, fun x y hx hy => by rw [e x hx, e y hy]; exact h.le x y hx hy⟩
 obtain ⟨x, hx, q⟩ := h.onto y hy
 exact ⟨x, hx, by rw [e x hx]; exact q⟩
theorem dd_i {A O J : List (List Int)} {bo t : Int} (h0 : duK A O J bo t = 0) : hyIs A O J bo t = true := by
 cases e : hyIs A O J bo t with
 | true => rfl
 | false =>
  have := (du_1 e).1
  omega
theorem dd_8 {A O J : List (List Int)} {bo t : Int} (h0 : duK A O J bo t = 0) : (irN (ordT A)).length ≤ 8 := Classical.byContradiction fun h => by
 have := (du_3 (dd_i h0) h).1
 omega
theorem dd_len (A O J : List (List Int)) (bo t : Int) : (duL A O J bo t).length ≤ 8 := by
 by_cases h : duK A O J bo t = 0
 ·rw [(du_0 (dd_i h) (dd_8 h)).2.2, dualL_len]; exact dd_8 h
 ·rw [duL, if_neg h]; simp
noncomputable def imI (xs : List Int) (x : Nat) : List Int := (List.range x).map fun k => (ixU xs k : Int)
noncomputable def imJ (xs : List Int) (x i : Nat) : List Int := imI xs x ++ (if ixU xs x < i then [(ixU xs x : Int)] else [])
theorem imI_len (xs : List Int) (x : Nat) : (imI xs x).length = x := by simp [imI]
theorem imJ_len (xs : List Int) (x i : Nat) : (imJ xs x i).length ≤ x + 1 := by
 rw [imJ, List.length_append, imI_len]
 split <;> simp
theorem im_0 (xs : List Int) (x : Nat) : imI xs x = imJ xs x 0 := by simp [imJ]
section
variable {A O J : List (List Int)} {bo t : Int} (h0 : duK A O J bo t = 0)
include h0
theorem dd_H : HyOK (ordT A) := (hyIs_hy (dd_i h0)).ok
theorem dd_e : duN A O J bo t = ((irN (ordT A)).length : Int) ∧ duL A O J bo t = dualL (ordT A) := (du_0 (dd_i h0) (dd_8 h0)).2
theorem dd_U : upL (duN A O J bo t) (duL A O J bo t) = duU (ordT A) := by
 obtain ⟨e1, e2⟩ := dd_e h0
 rw [e1, e2]; rfl
theorem dd_po : okPo (duN A O J bo t) (duL A O J bo t) = true := by
 obtain ⟨e1, e2⟩ := dd_e h0
 rw [e1, e2]; exact dual_po (dd_H h0) (dd_8 h0)
theorem dd_l : (duU (ordT A)).length = A.length := (duU_len (dd_H h0) (dd_8 h0)).trans (ordT_len A)
theorem dd_up : upR (duN A O J bo t) (duL A O J bo t) = duU (ordT A) := by rw [upR, if_pos (dd_po h0), dd_U h0]
theorem dd_hy : uaC (duN A O J bo t) (duL A O J bo t) = 0 ∧ IsHy (ordU (duU (ordT A))) (uaA (duN A O J bo t) (duL A O J bo t)) (uaO (duN A O J bo t) (duL A O J bo t)) (uaI (duN A O J bo t) (duL A O J bo t)) (uaB (duN A O J bo t) (duL A O J bo t)) (uaP (duN A O J bo t) (duL A O J bo t)) := by
 have hU := dd_U h0
 have h30 := (dd_H h0).n30
 have hl := dd_l h0
 rw [ordT_len] at h30
 obtain ⟨e1, e2, e3, e4, e5, e6⟩ := ua_ok (dd_po h0) (by rw [hU]; omega)
 rw [hU] at e2 e3 e4 e5 e6
 exact ⟨e1, duU_hy (dd_H h0) (dd_8 h0), e2, e3, e4, e5, e6⟩
theorem dd_pc : poC (duN A O J bo t) (duL A O J bo t) = 0 := by rw [poC, if_pos (dd_po h0)]
theorem dd_lk : (uaA (duN A O J bo t) (duL A O J bo t)).length = A.length := by rw [(dd_hy h0).2.is.2.2, ordU_len]; exact dd_l h0
theorem dd_lu : (upR (duN A O J bo t) (duL A O J bo t)).length = A.length := by rw [dd_up h0]; exact dd_l h0
theorem dd_x {x : Nat} (hx : x < A.length) : setX (ordT A) ((x : Int)).toNat ∈ upR (duN A O J bo t) (duL A O J bo t) ∧ ixU (ordT A) x < A.length := by
 have hx' : x < (ordT A).length := by rw [ordT_len]; exact hx
 rw [dd_up h0, Int.toNat_natCast]
 exact ⟨(duU_mem (dd_H h0) (dd_8 h0)).2 ⟨x, hx', rfl⟩, by have := (ixU_get (dd_H h0) (dd_8 h0) hx').1; have := dd_l h0; omega⟩
theorem dd_ix {x i : Nat} (hx : x < A.length) (hi : i < (upR (duN A O J bo t) (duL A O J bo t)).length) : (upR (duN A O J bo t) (duL A O J bo t)).getD i 0 = setX (ordT A) ((x : Int)).toNat ↔ i = ixU (ordT A) x := by
 rw [dd_up h0] at hi ⊢
 rw [Int.toNat_natCast]
 exact ixU_is (dd_H h0) (dd_8 h0) (by rw [ordT_len]; exact hx) hi
theorem im_yes {x i : Nat} (hx : x < A.length) (hi : i < (upR (duN A O J bo t) (duL A O J bo t)).length) (e : (upR (duN A O J bo t) (duL A O J bo t)).getD i 0 = setX (ordT A) ((x : Int)).toNat) : imJ (ordT A) x i ++ [(i : Int)] = imJ (ordT A) x (i + 1) := by
 have := (dd_ix h0 hx hi).1 e
 subst this
 simp [imJ]
theorem im_no {x i : Nat} (hx : x < A.length) (hi : i < (upR (duN A O J bo t) (duL A O J bo t)).length) (e : ¬ (upR (duN A O J bo t) (duL A O J bo t)).getD i 0 = setX (ordT A) ((x : Int)).toNat) : imJ (ordT A) x i = imJ (ordT A) x (i + 1) := by
 have h1 : ¬ i = ixU (ordT A) x := fun q => e ((dd_ix h0 hx hi).2 q)
 rw [imJ, imJ]
 by_cases h2 : ixU (ordT A) x < i
 ·rw [if_pos h2, if_pos (by omega)]
 ·rw [if_neg h2, if_neg (by omega)]
theorem im_e {x i : Nat} (hx : x < A.length) (hi : i = (upR (duN A O J bo t) (duL A O J bo t)).length) : imJ (ordT A) x i = imI (ordT A) (x + 1) := by
 have h1 := (dd_x h0 hx).2
 have h2 := dd_lu h0
 rw [imJ, if_pos (by omega), imI, imI, List.range_succ, List.map_append]
 rfl
theorem dd_K {x : Nat} (hx : x = A.length) : KP (ordT A) (ordT (uaA (duN A O J bo t) (duL A O J bo t))) (imI (ordT A) x) := by
 subst hx
 have hol := ordT_len A
 have ho2 := (dd_hy h0).2.is.2.1
 have hg : ∀ x, x < A.length → (imI (ordT A) A.length).getD x 0 = (ixU (ordT A) x : Int) := fun x hx => by simp [imI, List.getD_eq_getElem?_getD, List.getElem?_range hx]
 refine ⟨by rw [imI_len, hol], ?_, fun x hx => ?_⟩
 ·rw [ho2]
  exact iso_congr (duU_iso (dd_H h0) (dd_8 h0)) fun x hx => by rw [hg x (by omega), Int.toNat_natCast]
 ·rw [imI_len] at hx
  have h1 := (dd_x h0 hx).2
  have h2 := dd_l h0
  rw [hg x hx, ho2, ordU_len]; omega
theorem dd_j : hyIs (uaA (duN A O J bo t) (duL A O J bo t)) (uaO (duN A O J bo t) (duL A O J bo t)) (uaI (duN A O J bo t) (duL A O J bo t)) (uaB (duN A O J bo t) (duL A O J bo t)) (uaP (duN A O J bo t) (duL A O J bo t)) = true := (dd_hy h0).2.is.1
theorem dd_k2 : duK (uaA (duN A O J bo t) (duL A O J bo t)) (uaO (duN A O J bo t) (duL A O J bo t)) (uaI (duN A O J bo t) (duL A O J bo t)) (uaB (duN A O J bo t) (duL A O J bo t)) (uaP (duN A O J bo t) (duL A O J bo t)) = 0 := by
 refine (du_0 (dd_j h0) ?_).1
 rw [(dd_hy h0).2.is.2.1, iso_irN (duU_iso (dd_H h0) (dd_8 h0)) (dd_H h0) (duU_hy (dd_H h0) (dd_8 h0)).ord]
 exact dd_8 h0
theorem dd_n2 : duN (uaA (duN A O J bo t) (duL A O J bo t)) (uaO (duN A O J bo t) (duL A O J bo t)) (uaI (duN A O J bo t) (duL A O J bo t)) (uaB (duN A O J bo t) (duL A O J bo t)) (uaP (duN A O J bo t) (duL A O J bo t)) = duN A O J bo t := by
 rw [(dd_e (dd_k2 h0)).1, (dd_hy h0).2.is.2.1, iso_irN (duU_iso (dd_H h0) (dd_8 h0)) (dd_H h0) (duU_hy (dd_H h0) (dd_8 h0)).ord, (dd_e h0).1]
theorem dd_least {k1 k2 : Int} {r1 r2 : List Int} (h1 : k1 = duN A O J bo t ∧ LST (duN A O J bo t) (duL A O J bo t) [] (duL A O J bo t) r1 ∧ r1.length ≤ 1000)
  (h2 : k2 = duN (uaA (duN A O J bo t) (duL A O J bo t)) (uaO (duN A O J bo t) (duL A O J bo t)) (uaI (duN A O J bo t) (duL A O J bo t)) (uaB (duN A O J bo t) (duL A O J bo t)) (uaP (duN A O J bo t) (duL A O J bo t)) ∧ LST (duN (uaA (duN A O J bo t) (duL A O J bo t)) (uaO (duN A O J bo t) (duL A O J bo t)) (uaI (duN A O J bo t) (duL A O J bo t)) (uaB (duN A O J bo t) (duL A O J bo t)) (uaP (duN A O J bo t) (duL A O J bo t))) (duL (uaA (duN A O J bo t) (duL A O J bo t)) (uaO (duN A O J bo t) (duL A O J bo t)) (uaI (duN A O J bo t) (duL A O J bo t)) (uaB (duN A O J bo t) (duL A O J bo t)) (uaP (duN A O J bo t) (duL A O J bo t))) [] (duL (uaA (duN A O J bo t) (duL A O J bo t)) (uaO (duN A O J bo t) (duL A O J bo t)) (uaI (duN A O J bo t) (duL A O J bo t)) (uaB (duN A O J bo t) (duL A O J bo t)) (uaP (duN A O J bo t) (duL A O J bo t))) r2 ∧ r2.length ≤ 1000) : k1 = k2 ∧ r1 = r2 := by
 obtain ⟨rfl, h1, _⟩ := h1
 obtain ⟨rfl, h2, _⟩ := h2
 refine ⟨(dd_n2 h0).symm, ?_⟩
 rw [dd_n2 h0] at h2
 obtain ⟨o, ho, e⟩ := iso_dual (duU_iso (dd_H h0) (dd_8 h0)) (dd_H h0) (duU_hy (dd_H h0) (dd_8 h0)).ord (dd_8 h0)
 rw [← (dd_e h0).1] at ho
 refine ls_iso (dd_po h0) ho ?_ h1 h2
 rw [(dd_e (dd_k2 h0)).2, (dd_hy h0).2.is.2.1, (dd_e h0).2]; exact e
end
theorem ua_q (n : Int) (xs : List Int) : ((uaA n xs).length ≤ 1000000000 ∧ (uaO n xs).length ≤ 1000000000 ∧ (uaI n xs).length ≤ 1000000000) ∧ (∀ i0 : Nat, i0 < (uaA n xs).length → ((uaA n xs).getD i0 []).length ≤ 1000000000) ∧ (∀ i0 : Nat, i0 < (uaO n xs).length → ((uaO n xs).getD i0 []).length ≤ 1000000000) ∧ ∀ i0 : Nat, i0 < (uaI n xs).length → ((uaI n xs).getD i0 []).length ≤ 1000000000 := by
 have h1 : (uaA n xs).length ≤ 30 ∧ _ := uaT_len hyM n xs
 have h2 : (uaO n xs).length ≤ 30 ∧ _ := uaT_len hyJ n xs
 have h3 : (uaI n xs).length ≤ 30 ∧ _ := uaT_len hyI n xs
 exact ⟨⟨by omega, by omega, by omega⟩, fun i hi => Nat.le_trans (h1.2 i hi) (by decide), fun i hi => Nat.le_trans (h2.2 i hi) (by decide), fun i hi => Nat.le_trans (h3.2 i hi) (by decide)⟩
theorem big_c (c : List Int) : CallA Tryz.prog 8 [LB c] (.bool (decide ((c.length : Int) > 4096))) := by
 refine CallA.of Tryz.func8 rfl (by kernel_rfl) ?_
 exact R.go 11 (R.retE (.bool (decide ((c.length : Int) > 4096))) (by kernel_rfl) (by kernel_rfl) (by rfl))
set_option maxHeartbeats 4000000 in
theorem lawDu_c (c : List Int) (hcb : ∀ q : Nat, q < c.length → 0 ≤ c.getD q 0 ∧ c.getD q 0 ≤ 255) : CallA Tryz.prog 7 [LB c] (.bool true) := by
 refine CallA.of Tryz.func7 rfl (by kernel_rfl) (R.go 8 (k16 true (big_c c) (R.go 1 (k3 ((c.length : Int) > 4096) (fun c1 => ?_) (fun c1 => ?_)))))
 ·exact R.go 4 (k19 (.bool true) (by rfl))
 have hc : BY c := ⟨by omega, hcb⟩
 refine R.go 4 (k29 (drDu_c c hc) ?_)
 rintro _ _ ⟨A2_2, O2_3, J2_4, b2_5, t2_6, f7, f8, f9, rfl, rfl⟩
 have hzA : SZ A2_2 := by assumption
 have hmA : ∀ i0 : Nat, i0 < (A2_2).length → ((A2_2).getD i0 []).length ≤ 1000000000 := fun i0 h => Nat.le_trans (hzA.2 i0 h) (by decide)
 have hlA : (A2_2).length ≤ 1000000000 := Nat.le_trans hzA.1 (by decide)
 have hzO : SZ O2_3 := by assumption
 have hmO : ∀ i0 : Nat, i0 < (O2_3).length → ((O2_3).getD i0 []).length ≤ 1000000000 := fun i0 h => Nat.le_trans (hzO.2 i0 h) (by decide)
 have hlO : (O2_3).length ≤ 1000000000 := Nat.le_trans hzO.1 (by decide)
 have hzJ : SZ J2_4 := by assumption
 have hmJ : ∀ i0 : Nat, i0 < (J2_4).length → ((J2_4).getD i0 []).length ≤ 1000000000 := fun i0 h => Nat.le_trans (hzJ.2 i0 h) (by decide)
 have hlJ : (J2_4).length ≤ 1000000000 := Nat.le_trans hzJ.1 (by decide)
 have hla : (A2_2).length ≤ 1000000000 ∧ (O2_3).length ≤ 1000000000 ∧ (J2_4).length ≤ 1000000000 := ⟨hlA, hlO, hlJ⟩
 have hdl := dd_len A2_2 O2_3 J2_4 b2_5 t2_6
 refine R.go 6 (k16 true (dualOf_c A2_2 O2_3 J2_4 b2_5 t2_6 (by first | omega | (simp <;> omega)) (by assumption) (by assumption) (by assumption)).frz (R.go 10 (k16 true (dualOfS_c A2_2 O2_3 J2_4 b2_5 t2_6 (by first | omega | (simp <;> omega)) (by assumption) (by assumption) (by assumption)).frz ?_)))
 have hsm : ((duN A2_2 O2_3 J2_4 b2_5 t2_6) : Int) = (duN A2_2 O2_3 J2_4 b2_5 t2_6) ∧ ((duL A2_2 O2_3 J2_4 b2_5 t2_6) : List Int) = (duL A2_2 O2_3 J2_4 b2_5 t2_6) := ⟨rfl, rfl⟩
 refine R.go 14 (k6 false (nF rfl) ?_ (b := (!decide ((duK A2_2 O2_3 J2_4 b2_5 t2_6) = (duK A2_2 O2_3 J2_4 b2_5 t2_6)))))
 iterate 2 refine R.go 1 (k6 false (nF rfl) ?_ (b := (!decide ((duK A2_2 O2_3 J2_4 b2_5 t2_6) = (duK A2_2 O2_3 J2_4 b2_5 t2_6)))))
 refine k16 true (sameP_c (duN A2_2 O2_3 J2_4 b2_5 t2_6) (duL A2_2 O2_3 J2_4 b2_5 t2_6) (duN A2_2 O2_3 J2_4 b2_5 t2_6) (duL A2_2 O2_3 J2_4 b2_5 t2_6) (by first | omega | (simp <;> omega)) (by first | omega | (simp <;> omega))) (k6 false (nF rfl) ?_ (b := (!decide ((duK A2_2 O2_3 J2_4 b2_5 t2_6) = (duK A2_2 O2_3 J2_4 b2_5 t2_6)))))
 refine R.go 1 (k8 false (nF rfl) ?_ (b := (!decide ((duK A2_2 O2_3 J2_4 b2_5 t2_6) = (duK A2_2 O2_3 J2_4 b2_5 t2_6)))))
 refine R.go 1 (k5 (nF hsm) (R.go 7 (k4 ((duK A2_2 O2_3 J2_4 b2_5 t2_6) = 0) (fun c10 => ?_) (fun c10 => ?_))))
 ·exact R.go 4 (k19 (.bool true) (by rfl))
 have h0 : duK A2_2 O2_3 J2_4 b2_5 t2_6 = 0 := by assumption
 have hi1 : hyIs A2_2 O2_3 J2_4 b2_5 t2_6 = true := dd_i h0
 have hs0 := (isHy_sz (hyIs_hy hi1)).1
 have hua : uaC (duN A2_2 O2_3 J2_4 b2_5 t2_6) (duL A2_2 O2_3 J2_4 b2_5 t2_6) = 0 := (dd_hy h0).1
 have hpc : poC (duN A2_2 O2_3 J2_4 b2_5 t2_6) (duL A2_2 O2_3 J2_4 b2_5 t2_6) = 0 := dd_pc h0
 have hlk0 := dd_lk h0
 have hlu0 := dd_lu h0
 have hlk : ((uaA (duN A2_2 O2_3 J2_4 b2_5 t2_6) (duL A2_2 O2_3 J2_4 b2_5 t2_6)).length : Int) = (A2_2.length : Int) := by omega
 have hlu : ((upR (duN A2_2 O2_3 J2_4 b2_5 t2_6) (duL A2_2 O2_3 J2_4 b2_5 t2_6)).length : Int) = (A2_2.length : Int) := by omega
 have hpo : okPo (duN A2_2 O2_3 J2_4 b2_5 t2_6) (duL A2_2 O2_3 J2_4 b2_5 t2_6) = true := dd_po h0
 refine R.go 4 (k16 true (UpsetAlgebraF_c (duN A2_2 O2_3 J2_4 b2_5 t2_6) (duL A2_2 O2_3 J2_4 b2_5 t2_6) (by first | omega | (simp <;> omega))) (R.go 10 (k16 true (UP_impl (duN A2_2 O2_3 J2_4 b2_5 t2_6) (duL A2_2 O2_3 J2_4 b2_5 t2_6) (by first | omega | (simp <;> omega))).frz ?_)))
 have hz1 : ((uaC (duN A2_2 O2_3 J2_4 b2_5 t2_6) (duL A2_2 O2_3 J2_4 b2_5 t2_6)) + (poC (duN A2_2 O2_3 J2_4 b2_5 t2_6) (duL A2_2 O2_3 J2_4 b2_5 t2_6))) = 0 := by omega
 refine R.go 11 (k1 ((uaC (duN A2_2 O2_3 J2_4 b2_5 t2_6) (duL A2_2 O2_3 J2_4 b2_5 t2_6)) + (poC (duN A2_2 O2_3 J2_4 b2_5 t2_6) (duL A2_2 O2_3 J2_4 b2_5 t2_6))) (R.go 2 (k6 false (nF hz1) ?_)))
 iterate 6 refine R.go 1 (k6 false (nF hz1) ?_)
 refine R.go 1 (k8 false (nF hz1) ?_)
 iterate 6 refine R.go 1 (k6 false (nF hlk) ?_)
 refine R.go 1 (k8 false (nF hlk) (R.go 1 (k5 (nF hlu) (R.go 12 (k17 ((fun | (x, im) => (⟨(frm 174 [(3, .ptr 0 0), (4, .ptr 1 0), (8, .ptr 2 0), (10, LI (upR (duN A2_2 O2_3 J2_4 b2_5 t2_6) (duL A2_2 O2_3 J2_4 b2_5 t2_6))), (12, .ref 3), (13, AI (x : Int))]), [.box 26 [LLI A2_2, LLI O2_3, LLI J2_4, AI b2_5, AI t2_6], .box 35 [AI (duN A2_2 O2_3 J2_4 b2_5 t2_6), LI (duL A2_2 O2_3 J2_4 b2_5 t2_6)], .box 26 [LLI (uaA (duN A2_2 O2_3 J2_4 b2_5 t2_6) (duL A2_2 O2_3 J2_4 b2_5 t2_6)), LLI (uaO (duN A2_2 O2_3 J2_4 b2_5 t2_6) (duL A2_2 O2_3 J2_4 b2_5 t2_6)), LLI (uaI (duN A2_2 O2_3 J2_4 b2_5 t2_6) (duL A2_2 O2_3 J2_4 b2_5 t2_6)), AI (uaB (duN A2_2 O2_3 J2_4 b2_5 t2_6) (duL A2_2 O2_3 J2_4 b2_5 t2_6)), AI (uaP (duN A2_2 O2_3 J2_4 b2_5 t2_6) (duL A2_2 O2_3 J2_4 b2_5 t2_6))], rowA eI 2 1 im]⟩ : St) : Nat × (List Int) → St)) (fun | (x, im) => (x ≤ (A2_2).length) ∧ (im = imI (ordT A2_2) x)) (fun | (x, im) => (A2_2).length - x) (0, []) [3, 4, 8, 10, 12, 13] (some [0, 1, 3, 4]) ⟨(by omega), (by rfl)⟩ ?_)))))
 rintro ⟨x, im⟩ ⟨h14_1, rfl⟩ R11 N12
 have hil3 := imI_len (ordT A2_2) x
 refine R.go 9 (k3 ((x : Int) < (A2_2.length : Int)) (fun c15 => ?_) (fun c15 => ?_))
 ·refine R.go 7 (k16 true (SOE_c A2_2 O2_3 J2_4 b2_5 t2_6 (x : Int) hi1 (by first | omega | (simp <;> omega))) (R.go 10 (k16 true (EOS_c A2_2 O2_3 J2_4 b2_5 t2_6 (x : Int) (setX (ordT A2_2) ((x : Int)).toNat) hi1 (by first | omega | (simp <;> omega)) (by rfl)) ?_)))
  have hmx : (setX (ordT A2_2) ((x : Int)).toNat) ∈ (upR (duN A2_2 O2_3 J2_4 b2_5 t2_6) (duL A2_2 O2_3 J2_4 b2_5 t2_6)) := (dd_x h0 (by omega)).1
  refine R.go 19 (k6 false (nF rfl) ?_ (b := (!decide ((x : Int) = (x : Int)))))
  iterate 2 refine R.go 1 (k6 false (nF rfl) ?_ (b := (!decide ((x : Int) = (x : Int)))))
  refine k16 true (hasInt_c (upR (duN A2_2 O2_3 J2_4 b2_5 t2_6) (duL A2_2 O2_3 J2_4 b2_5 t2_6)) (setX (ordT A2_2) ((x : Int)).toNat) (by first | omega | (simp <;> omega))) (k6 false (nF rfl) ?_ (b := (!decide ((x : Int) = (x : Int)))))
  refine R.go 1 (k8 false (nF rfl) ?_ (b := (!decide ((x : Int) = (x : Int)))))
  refine R.go 1 (k5 (nF hmx) (R.go 6 (k17 ((fun | (i, im2) => (⟨(frm 174 [(3, .ptr 0 0), (4, .ptr 1 0), (8, .ptr 2 0), (10, LI (upR (duN A2_2 O2_3 J2_4 b2_5 t2_6) (duL A2_2 O2_3 J2_4 b2_5 t2_6))), (12, .ref 3), (13, AI (x : Int)), (14, AI (setX (ordT A2_2) ((x : Int)).toNat)), (18, AI (i : Int))]), [.box 26 [LLI A2_2, LLI O2_3, LLI J2_4, AI b2_5, AI t2_6], .box 35 [AI (duN A2_2 O2_3 J2_4 b2_5 t2_6), LI (duL A2_2 O2_3 J2_4 b2_5 t2_6)], .box 26 [LLI (uaA (duN A2_2 O2_3 J2_4 b2_5 t2_6) (duL A2_2 O2_3 J2_4 b2_5 t2_6)), LLI (uaO (duN A2_2 O2_3 J2_4 b2_5 t2_6) (duL A2_2 O2_3 J2_4 b2_5 t2_6)), LLI (uaI (duN A2_2 O2_3 J2_4 b2_5 t2_6) (duL A2_2 O2_3 J2_4 b2_5 t2_6)), AI (uaB (duN A2_2 O2_3 J2_4 b2_5 t2_6) (duL A2_2 O2_3 J2_4 b2_5 t2_6)), AI (uaP (duN A2_2 O2_3 J2_4 b2_5 t2_6) (duL A2_2 O2_3 J2_4 b2_5 t2_6))], rowA eI 2 1 im2]⟩ : St) : Nat × (List Int) → St)) (fun | (i, im2) => (i ≤ (upR (duN A2_2 O2_3 J2_4 b2_5 t2_6) (duL A2_2 O2_3 J2_4 b2_5 t2_6)).length) ∧ (im2 = imJ (ordT A2_2) x i)) (fun | (i, im2) => (upR (duN A2_2 O2_3 J2_4 b2_5 t2_6) (duL A2_2 O2_3 J2_4 b2_5 t2_6)).length - i) (0, (imI (ordT A2_2) x)) [3, 4, 8, 10, 12, 13, 14, 18] none ⟨(by omega), (by exact im_0 _ _)⟩ ?_)))
  rintro ⟨i, im2⟩ ⟨h19_1, rfl⟩ R16 N17
  have hil4 := imJ_len (ordT A2_2) x i
  refine R.go 8 (k3 ((i : Int) < ((upR (duN A2_2 O2_3 J2_4 b2_5 t2_6) (duL A2_2 O2_3 J2_4 b2_5 t2_6)).length : Int)) (fun c20 => ?_) (fun c20 => ?_))
  ·refine R.go 7 (k9 eI (upR (duN A2_2 O2_3 J2_4 b2_5 t2_6) (duL A2_2 O2_3 J2_4 b2_5 t2_6)) 0 i (i : Int) eI_len (R.go 4 (k3 (((upR (duN A2_2 O2_3 J2_4 b2_5 t2_6) (duL A2_2 O2_3 J2_4 b2_5 t2_6)).getD i 0) = (setX (ordT A2_2) ((x : Int)).toNat)) (fun c21 => ?_) (fun c21 => ?_))))
   ·refine R.go 4 (k14 eI (imJ (ordT A2_2) x i) [(i : Int)] 3 2 1 8 eI_one (R.go 5 (k1 ((i : Int) + 1) ?_)))
    exact R.go 2 (k18 R16 (N17 (i + 1, (imJ (ordT A2_2) x i) ++ [(i : Int)]) [3, 4, 8, 10, 12, 13, 14, 18] (some [0, 1, 2, 3]) _ (by kernel_rfl) (by kernel_rfl) ⟨(by omega), (by first | exact im_yes h0 (by omega) (by omega) (by assumption) | exact im_no h0 (by omega) (by omega) (by assumption))⟩ (by show ((upR (duN A2_2 O2_3 J2_4 b2_5 t2_6) (duL A2_2 O2_3 J2_4 b2_5 t2_6)).length - (i + 1)) < ((upR (duN A2_2 O2_3 J2_4 b2_5 t2_6) (duL A2_2 O2_3 J2_4 b2_5 t2_6)).length - i); omega)))
   refine R.go 4 (k1 ((i : Int) + 1) ?_)
   exact R.go 2 (k18 R16 (N17 (i + 1, imJ (ordT A2_2) x i) [3, 4, 8, 10, 12, 13, 14, 18] none _ (by kernel_rfl) (by kernel_rfl) ⟨(by omega), (by first | exact im_yes h0 (by omega) (by omega) (by assumption) | exact im_no h0 (by omega) (by omega) (by assumption))⟩ (by show ((upR (duN A2_2 O2_3 J2_4 b2_5 t2_6) (duL A2_2 O2_3 J2_4 b2_5 t2_6)).length - (i + 1)) < ((upR (duN A2_2 O2_3 J2_4 b2_5 t2_6) (duL A2_2 O2_3 J2_4 b2_5 t2_6)).length - i); omega)))
  refine R.go 4 (k1 ((x : Int) + 1) ?_)
  exact R.go 2 (k18 R11 (N12 (x + 1, imJ (ordT A2_2) x i) [3, 4, 8, 10, 12, 13] none _ (by kernel_rfl) (by kernel_rfl) ⟨(by omega), (by exact im_e h0 (by omega) (by omega))⟩ (by show ((A2_2).length - (x + 1)) < ((A2_2).length - x); omega)))
 have hK : KP (ordT A2_2) (ordT (uaA (duN A2_2 O2_3 J2_4 b2_5 t2_6) (duL A2_2 O2_3 J2_4 b2_5 t2_6))) (imI (ordT A2_2) x) := dd_K h0 (by omega)
 have hj1 : hyIs (uaA (duN A2_2 O2_3 J2_4 b2_5 t2_6) (duL A2_2 O2_3 J2_4 b2_5 t2_6)) (uaO (duN A2_2 O2_3 J2_4 b2_5 t2_6) (duL A2_2 O2_3 J2_4 b2_5 t2_6)) (uaI (duN A2_2 O2_3 J2_4 b2_5 t2_6) (duL A2_2 O2_3 J2_4 b2_5 t2_6)) (uaB (duN A2_2 O2_3 J2_4 b2_5 t2_6) (duL A2_2 O2_3 J2_4 b2_5 t2_6)) (uaP (duN A2_2 O2_3 J2_4 b2_5 t2_6) (duL A2_2 O2_3 J2_4 b2_5 t2_6)) = true := dd_j h0
 have hk2 : (duK (uaA (duN A2_2 O2_3 J2_4 b2_5 t2_6) (duL A2_2 O2_3 J2_4 b2_5 t2_6)) (uaO (duN A2_2 O2_3 J2_4 b2_5 t2_6) (duL A2_2 O2_3 J2_4 b2_5 t2_6)) (uaI (duN A2_2 O2_3 J2_4 b2_5 t2_6) (duL A2_2 O2_3 J2_4 b2_5 t2_6)) (uaB (duN A2_2 O2_3 J2_4 b2_5 t2_6) (duL A2_2 O2_3 J2_4 b2_5 t2_6)) (uaP (duN A2_2 O2_3 J2_4 b2_5 t2_6) (duL A2_2 O2_3 J2_4 b2_5 t2_6))) = 0 := dd_k2 h0
 have hn2 : duN (uaA (duN A2_2 O2_3 J2_4 b2_5 t2_6) (duL A2_2 O2_3 J2_4 b2_5 t2_6)) (uaO (duN A2_2 O2_3 J2_4 b2_5 t2_6) (duL A2_2 O2_3 J2_4 b2_5 t2_6)) (uaI (duN A2_2 O2_3 J2_4 b2_5 t2_6) (duL A2_2 O2_3 J2_4 b2_5 t2_6)) (uaB (duN A2_2 O2_3 J2_4 b2_5 t2_6) (duL A2_2 O2_3 J2_4 b2_5 t2_6)) (uaP (duN A2_2 O2_3 J2_4 b2_5 t2_6) (duL A2_2 O2_3 J2_4 b2_5 t2_6)) = duN A2_2 O2_3 J2_4 b2_5 t2_6 := dd_n2 h0
 have hpo2 : okPo (duN (uaA (duN A2_2 O2_3 J2_4 b2_5 t2_6) (duL A2_2 O2_3 J2_4 b2_5 t2_6)) (uaO (duN A2_2 O2_3 J2_4 b2_5 t2_6) (duL A2_2 O2_3 J2_4 b2_5 t2_6)) (uaI (duN A2_2 O2_3 J2_4 b2_5 t2_6) (duL A2_2 O2_3 J2_4 b2_5 t2_6)) (uaB (duN A2_2 O2_3 J2_4 b2_5 t2_6) (duL A2_2 O2_3 J2_4 b2_5 t2_6)) (uaP (duN A2_2 O2_3 J2_4 b2_5 t2_6) (duL A2_2 O2_3 J2_4 b2_5 t2_6))) (duL (uaA (duN A2_2 O2_3 J2_4 b2_5 t2_6) (duL A2_2 O2_3 J2_4 b2_5 t2_6)) (uaO (duN A2_2 O2_3 J2_4 b2_5 t2_6) (duL A2_2 O2_3 J2_4 b2_5 t2_6)) (uaI (duN A2_2 O2_3 J2_4 b2_5 t2_6) (duL A2_2 O2_3 J2_4 b2_5 t2_6)) (uaB (duN A2_2 O2_3 J2_4 b2_5 t2_6) (duL A2_2 O2_3 J2_4 b2_5 t2_6)) (uaP (duN A2_2 O2_3 J2_4 b2_5 t2_6) (duL A2_2 O2_3 J2_4 b2_5 t2_6))) = true := dd_po hk2
 have hdl2 := dd_len (uaA (duN A2_2 O2_3 J2_4 b2_5 t2_6) (duL A2_2 O2_3 J2_4 b2_5 t2_6)) (uaO (duN A2_2 O2_3 J2_4 b2_5 t2_6) (duL A2_2 O2_3 J2_4 b2_5 t2_6)) (uaI (duN A2_2 O2_3 J2_4 b2_5 t2_6) (duL A2_2 O2_3 J2_4 b2_5 t2_6)) (uaB (duN A2_2 O2_3 J2_4 b2_5 t2_6) (duL A2_2 O2_3 J2_4 b2_5 t2_6)) (uaP (duN A2_2 O2_3 J2_4 b2_5 t2_6) (duL A2_2 O2_3 J2_4 b2_5 t2_6))
 have hqq := ua_q (duN A2_2 O2_3 J2_4 b2_5 t2_6) (duL A2_2 O2_3 J2_4 b2_5 t2_6)
 have hq3 := hqq.1
 have hxA := hqq.2.1
 have hxO := hqq.2.2.1
 have hxI := hqq.2.2.2
 refine R.go 6 (k16 false (IsHM_c A2_2 O2_3 J2_4 (uaA (duN A2_2 O2_3 J2_4 b2_5 t2_6) (duL A2_2 O2_3 J2_4 b2_5 t2_6)) (uaO (duN A2_2 O2_3 J2_4 b2_5 t2_6) (duL A2_2 O2_3 J2_4 b2_5 t2_6)) (uaI (duN A2_2 O2_3 J2_4 b2_5 t2_6) (duL A2_2 O2_3 J2_4 b2_5 t2_6)) b2_5 t2_6 (uaB (duN A2_2 O2_3 J2_4 b2_5 t2_6) (duL A2_2 O2_3 J2_4 b2_5 t2_6)) (uaP (duN A2_2 O2_3 J2_4 b2_5 t2_6) (duL A2_2 O2_3 J2_4 b2_5 t2_6)) (imI (ordT A2_2) x) hi1 hj1 hK) ?_ (hr := by simp [AV.closed, closedL, AI]))
 refine R.go 9 (k16 true (dualOf_c (uaA (duN A2_2 O2_3 J2_4 b2_5 t2_6) (duL A2_2 O2_3 J2_4 b2_5 t2_6)) (uaO (duN A2_2 O2_3 J2_4 b2_5 t2_6) (duL A2_2 O2_3 J2_4 b2_5 t2_6)) (uaI (duN A2_2 O2_3 J2_4 b2_5 t2_6) (duL A2_2 O2_3 J2_4 b2_5 t2_6)) (uaB (duN A2_2 O2_3 J2_4 b2_5 t2_6) (duL A2_2 O2_3 J2_4 b2_5 t2_6)) (uaP (duN A2_2 O2_3 J2_4 b2_5 t2_6) (duL A2_2 O2_3 J2_4 b2_5 t2_6)) (by first | omega | (simp <;> omega)) (by assumption) (by assumption) (by assumption)).frz (R.go 21 (k5 (nF hk2) (R.go 3 ?_))))
 by_cases c22 : ((duN A2_2 O2_3 J2_4 b2_5 t2_6) : Int) > 6
 ·refine R.go 1 (k16 true (LP_big (duN A2_2 O2_3 J2_4 b2_5 t2_6) (duL A2_2 O2_3 J2_4 b2_5 t2_6) hpo c22) ?_)
  have hq6 : ((duN (uaA (duN A2_2 O2_3 J2_4 b2_5 t2_6) (duL A2_2 O2_3 J2_4 b2_5 t2_6)) (uaO (duN A2_2 O2_3 J2_4 b2_5 t2_6) (duL A2_2 O2_3 J2_4 b2_5 t2_6)) (uaI (duN A2_2 O2_3 J2_4 b2_5 t2_6) (duL A2_2 O2_3 J2_4 b2_5 t2_6)) (uaB (duN A2_2 O2_3 J2_4 b2_5 t2_6) (duL A2_2 O2_3 J2_4 b2_5 t2_6)) (uaP (duN A2_2 O2_3 J2_4 b2_5 t2_6) (duL A2_2 O2_3 J2_4 b2_5 t2_6))) : Int) > 6 := by omega
  refine R.go 10 (k16 true (LP_big (duN (uaA (duN A2_2 O2_3 J2_4 b2_5 t2_6) (duL A2_2 O2_3 J2_4 b2_5 t2_6)) (uaO (duN A2_2 O2_3 J2_4 b2_5 t2_6) (duL A2_2 O2_3 J2_4 b2_5 t2_6)) (uaI (duN A2_2 O2_3 J2_4 b2_5 t2_6) (duL A2_2 O2_3 J2_4 b2_5 t2_6)) (uaB (duN A2_2 O2_3 J2_4 b2_5 t2_6) (duL A2_2 O2_3 J2_4 b2_5 t2_6)) (uaP (duN A2_2 O2_3 J2_4 b2_5 t2_6) (duL A2_2 O2_3 J2_4 b2_5 t2_6))) (duL (uaA (duN A2_2 O2_3 J2_4 b2_5 t2_6) (duL A2_2 O2_3 J2_4 b2_5 t2_6)) (uaO (duN A2_2 O2_3 J2_4 b2_5 t2_6) (duL A2_2 O2_3 J2_4 b2_5 t2_6)) (uaI (duN A2_2 O2_3 J2_4 b2_5 t2_6) (duL A2_2 O2_3 J2_4 b2_5 t2_6)) (uaB (duN A2_2 O2_3 J2_4 b2_5 t2_6) (duL A2_2 O2_3 J2_4 b2_5 t2_6)) (uaP (duN A2_2 O2_3 J2_4 b2_5 t2_6) (duL A2_2 O2_3 J2_4 b2_5 t2_6))) hpo2 hq6) (R.go 9 (k21 5 1 2 1 (k21 6 1 2 1 (R.go 6 (k16 false (sameP_c 0 [] 0 [] (by first | omega | (simp <;> omega)) (by first | omega | (simp <;> omega))) ?_))))))
  exact R.go 3 (k19 (.bool (decide ((0 : Int) = 0 ∧ ([] : List Int) = []))) (by first | (first | rfl | (exfalso; omega) | exact congrArg AV.bool (decide_eq_true (And.intro rfl rfl)) | exact congrArg AV.bool (decide_eq_true (dd_least h0 (by assumption) (by assumption)))) | (exfalso; omega)))
 refine R.go 1 (k35a (LP_impl (duN A2_2 O2_3 J2_4 b2_5 t2_6) (duL A2_2 O2_3 J2_4 b2_5 t2_6) (by assumption) (by omega)) ?_ (h0 := by rintro _ _ ⟨_, _, _, rfl, rfl⟩; rfl))
 rintro _ ⟨k_23, r_24, f25, rfl, _⟩
 have hq6 : ¬ ((duN (uaA (duN A2_2 O2_3 J2_4 b2_5 t2_6) (duL A2_2 O2_3 J2_4 b2_5 t2_6)) (uaO (duN A2_2 O2_3 J2_4 b2_5 t2_6) (duL A2_2 O2_3 J2_4 b2_5 t2_6)) (uaI (duN A2_2 O2_3 J2_4 b2_5 t2_6) (duL A2_2 O2_3 J2_4 b2_5 t2_6)) (uaB (duN A2_2 O2_3 J2_4 b2_5 t2_6) (duL A2_2 O2_3 J2_4 b2_5 t2_6)) (uaP (duN A2_2 O2_3 J2_4 b2_5 t2_6) (duL A2_2 O2_3 J2_4 b2_5 t2_6))) : Int) > 6 := by omega
 refine R.go 10 (k35a (LP_impl (duN (uaA (duN A2_2 O2_3 J2_4 b2_5 t2_6) (duL A2_2 O2_3 J2_4 b2_5 t2_6)) (uaO (duN A2_2 O2_3 J2_4 b2_5 t2_6) (duL A2_2 O2_3 J2_4 b2_5 t2_6)) (uaI (duN A2_2 O2_3 J2_4 b2_5 t2_6) (duL A2_2 O2_3 J2_4 b2_5 t2_6)) (uaB (duN A2_2 O2_3 J2_4 b2_5 t2_6) (duL A2_2 O2_3 J2_4 b2_5 t2_6)) (uaP (duN A2_2 O2_3 J2_4 b2_5 t2_6) (duL A2_2 O2_3 J2_4 b2_5 t2_6))) (duL (uaA (duN A2_2 O2_3 J2_4 b2_5 t2_6) (duL A2_2 O2_3 J2_4 b2_5 t2_6)) (uaO (duN A2_2 O2_3 J2_4 b2_5 t2_6) (duL A2_2 O2_3 J2_4 b2_5 t2_6)) (uaI (duN A2_2 O2_3 J2_4 b2_5 t2_6) (duL A2_2 O2_3 J2_4 b2_5 t2_6)) (uaB (duN A2_2 O2_3 J2_4 b2_5 t2_6) (duL A2_2 O2_3 J2_4 b2_5 t2_6)) (uaP (duN A2_2 O2_3 J2_4 b2_5 t2_6) (duL A2_2 O2_3 J2_4 b2_5 t2_6))) (by assumption) (by omega)) ?_ (h0 := by rintro _ _ ⟨_, _, _, rfl, rfl⟩; rfl))
 rintro _ ⟨k_26, r_27, f28, rfl, _⟩
 refine R.go 15 (k16 true (sameP_c k_23 r_24 k_26 r_27 (by first | omega | (simp <;> omega)) (by first | omega | (simp <;> omega))) ?_)
 exact R.go 3 (k19 (.bool (decide ((k_23 : Int) = k_26 ∧ (r_24 : List Int) = r_27))) (by first | (first | rfl | (exfalso; omega) | exact congrArg AV.bool (decide_eq_true (And.intro rfl rfl)) | exact congrArg AV.bool (decide_eq_true (dd_least h0 (by assumption) (by assumption)))) | (exfalso; omega)))
end Go.Proofs.YtjllngcefoohpaaGreat
