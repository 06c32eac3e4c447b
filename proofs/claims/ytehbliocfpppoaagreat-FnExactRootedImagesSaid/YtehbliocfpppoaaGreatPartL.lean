/- Texts of the proof: RI8, RI9, RIX. -/
import Derived.Test.YtehbliocfpppoaaGreatPartK

/-! Rooted images by the program. -/
namespace Go.Proofs.YtehbliocfpppoaaGreat
open Go.RowKit Go.Abs
def rmC (n : Int) (xs : List Int) : Int := if okPo n xs = true then (if n > 5 then 3 else 0) else 1
noncomputable def rmR (n : Int) (xs : List Int) : List (Int × List Int) := if rmC n xs = 0 then frP (riR n xs) else []
theorem rm_bad {n : Int} {xs : List Int} (h : okPo n xs = false) : rmC n xs = 1 ∧ rmR n xs = [] := by
 have : rmC n xs = 1 := by rw [rmC, h]; rfl
 exact ⟨this, by rw [rmR, if_neg (by rw [this]; decide)]⟩
theorem rm_lim {n : Int} {xs : List Int} (h : okPo n xs = true) (h6 : n > 5) : rmC n xs = 3 ∧ rmR n xs = [] := by
 have : rmC n xs = 3 := by rw [rmC, if_pos h, if_pos h6]
 exact ⟨this, by rw [rmR, if_neg (by rw [this]; decide)]⟩
theorem rm_ok {n : Int} {xs : List Int} (h : okPo n xs = true) (h6 : ¬ n > 5) : rmC n xs = 0 ∧ rmR n xs = frP (riR n xs) := by
 have : rmC n xs = 0 := by rw [rmC, if_pos h, if_neg h6]
 exact ⟨this, by rw [rmR, if_pos this]⟩
theorem rm_0 {n : Int} {xs : List Int} (h : rmC n xs = 0) : okPo n xs = true ∧ ¬ n > 5 := by
 unfold rmC at h
 split at h
 ·rename_i hp
  split at h
  ·cases h
  ·rename_i hn; exact ⟨hp, hn⟩
 ·cases h
noncomputable def prgX (n : Int) (xs : List Int) (i j : Nat) : List (List Int) := ((upL n xs).take i).flatMap (qsU xs) ++ (((cgs (prt xs (mem ((upL n xs).getD i 0))) (mem ((upL n xs).getD i 0)).length [] 0).take j).filter (rtB xs ((upL n xs).getD i 0))).map (lfQ xs ((upL n xs).getD i 0))
theorem prgX_0 (n : Int) (xs : List Int) : prgX n xs 0 0 = [] := by simp [prgX]
theorem prgX_y {n : Int} {xs : List Int} {i j : Nat} {U : Int} {c : List Int} (hU : U = (upL n xs).getD i 0) (hj : j < (cgs (prt xs (mem U)) (mem U).length [] 0).length) (hc : c = (cgs (prt xs (mem U)) (mem U).length [] 0).getD j []) (h : rtB xs U c = true) : prgX n xs i (j + 1) = prgX n xs i j ++ [lfQ xs U c] := by
 subst hU hc
 rw [prgX, prgX, take_succ_getD _ [] hj, List.filter_append, List.filter_cons_of_pos h, List.map_append, ← List.append_assoc]; rfl
theorem prgX_n {n : Int} {xs : List Int} {i j : Nat} {U : Int} {c : List Int} (hU : U = (upL n xs).getD i 0) (hj : j < (cgs (prt xs (mem U)) (mem U).length [] 0).length) (hc : c = (cgs (prt xs (mem U)) (mem U).length [] 0).getD j []) (h : rtB xs U c = false) : prgX n xs i (j + 1) = prgX n xs i j := by
 subst hU hc
 rw [prgX, prgX, take_succ_getD _ [] hj, List.filter_append, List.filter_cons_of_neg (by rw [h]; exact Bool.false_ne_true)]; simp
theorem prgX_s {n : Int} {xs : List Int} {i j : Nat} (hi : i < (upL n xs).length) (hj : (cgs (prt xs (mem ((upL n xs).getD i 0))) (mem ((upL n xs).getD i 0)).length [] 0).length ≤ j) : prgX n xs i j = prgX n xs (i + 1) 0 := by
 rw [prgX, prgX, List.take_of_length_le hj, take_succ_getD _ 0 hi, List.flatMap_append, List.flatMap_singleton]
 simp [qsU]
theorem prgX_e {n : Int} {xs : List Int} {i : Nat} (h : i = (upL n xs).length) : prgX n xs i 0 = prgW n xs := by simp [prgX, prgW, h]
theorem cgs_5 {P : List Int} {d : Nat} (h : d ≤ 5) : (cgs P d [] 0).length ≤ 32768 := by
 have h1 := cgs_len P d [] 0 (by show (0 : Int).toNat + d ≤ 8; simp; omega)
 have h2 := pw8_le h
 have h3 : pw8 5 = 32768 := rfl
 omega
theorem up_in {n : Int} {xs : List Int} (hP : okPo n xs = true) {i : Nat} (hi : i < (upL n xs).length) : InM n.toNat ((upL n xs).getD i 0) := by
 have h := up_iff hP (m := (upL n xs).getD i 0)
 rw [upR, if_pos hP] at h
 exact (h.1 (ri_gt hi)).1
theorem upL_32 {n : Int} {xs : List Int} (hP : okPo n xs = true) (h5 : n ≤ 5) : (upL n xs).length ≤ 32 := by
 have hF := okFr_rel (okPo_fr hP)
 have h1 := upTo_len xs (shl64 1 n).toNat
 have key : ∀ k : Fin 6, (shl64 1 (k.val : Int)).toNat ≤ 32 := by decide +kernel
 have h2 := key ⟨n.toNat, by omega⟩
 rw [show ((n.toNat : Nat) : Int) = n by omega] at h2
 unfold upL
 omega
theorem prgX_len {n : Int} {xs : List Int} (hP : okPo n xs = true) (h5 : n ≤ 5) {i j : Nat} (hi : i ≤ (upL n xs).length) (hij : i < (upL n xs).length ∨ j = 0) : (prgX n xs i j).length ≤ 1100000 := by
 have hl := upL_32 hP h5
 have h0 := (okFr_rel (okPo_fr hP)).1
 have key : ∀ U : Int, U ∈ upL n xs → (cgs (prt xs (mem U)) (mem U).length [] 0).length ≤ 32768 := fun U hU => by
  obtain ⟨k, hk, rfl⟩ := List.getElem_of_mem hU
  have h := up_in hP hk
  rw [List.getD_eq_getElem?_getD, List.getElem?_eq_getElem hk] at h
  have := mem_lenN (N := n.toNat) (by omega) h
  exact cgs_5 (by simp only [Option.getD_some] at this; omega)
 have h1 := flatL_len (qsU xs) 32768 ((upL n xs).take i) fun U hU => by
  rw [qsU, List.length_map]
  exact Nat.le_trans (List.length_filter_le _ _) (key U (List.mem_of_mem_take hU))
 rw [List.length_take, Nat.min_eq_left hi] at h1
 rw [prgX, List.length_append, List.length_map]
 rcases hij with hij | rfl
 ·have h2 := key _ (ri_gt (d := 0) hij)
  have h3 := List.length_filter_le (rtB xs ((upL n xs).getD i 0)) ((cgs (prt xs (mem ((upL n xs).getD i 0))) (mem ((upL n xs).getD i 0)).length [] 0).take j)
  rw [List.length_take] at h3
  omega
 ·rw [List.take_zero]
  simp only [List.filter_nil, List.length_nil]
  omega
theorem quo_l {xs c : List Int} (hQ : QH xs c) : (((quoI xs c c.length).length : Nat) : Int) = nxt c c.length := by
 have := nxt_rng c c.length
 rw [quoI_len]; omega
theorem cg_al2 {n : Int} {xs : List Int} (hP : okPo n xs = true) {U : Int} (hU : InM n.toNat U) {j : Nat} {c : List Int} (hj : j < (cgs (prt xs (mem U)) (mem U).length [] 0).length) (hc : c = (cgs (prt xs (mem U)) (mem U).length [] 0).getD j []) :
  QH (prt xs (mem U)) c ∧ okFr (((quoI (prt xs (mem U)) c c.length).length : Nat) : Int) (quoI (prt xs (mem U)) c c.length) = true ∧ lfR (((quoI (prt xs (mem U)) c c.length).length : Nat) : Int) (quoI (prt xs (mem U)) c c.length) = lfQ xs U c ∧ rtB xs U c = decide (0 ≤ rootX (((quoI (prt xs (mem U)) c c.length).length : Nat) : Int) (quoI (prt xs (mem U)) c c.length)) := by
 subst hc
 obtain ⟨hQ, h3, h2, h1⟩ := cg_qh hP hU (ri_gt hj)
 have e := quo_l hQ
 refine ⟨hQ, ?_, ?_, ?_⟩
 ·rw [e]; exact ri_qfr hQ
 ·rw [e]; rfl
 ·rw [e]; rfl
theorem fq_snoc2 {F : List FQ} {R : List (List Int)} {a : Int} {v : Value} {q r : List Int} (h : fQ F = frP R) (hq : q = r) (ha : a = q.length) : fQ (F ++ [(a, v, q)]) = frP (R ++ [r]) := by
 rw [fQ_app, frP_app, h, ha, hq]; rfl
theorem nl_perm {b : Nat} {F G : List FQ} (h : NL b (nQ F)) (hp : G.Perm F) : NL b (nQ G) := by
 have h1 : (nQ G).Perm (nQ F) := hp.map _
 exact ⟨(h1.filterMap _).nodup_iff.2 h.nd, fun x hx => h.ge x (h1.subset hx)⟩
theorem nl_sub {b : Nat} {F G : List FQ} (h : NL b (nQ F)) (hp : G.Sublist F) : NL b (nQ G) := by
 have h1 : (nQ G).Sublist (nQ F) := hp.map _
 exact ⟨h.nd.sublist (h1.filterMap _), fun x hx => h.ge x (h1.subset hx)⟩
theorem cpQ_sub (L : List FQ) : (cpQ L).Sublist L := by
 have := cpT_sub (L := L) (k := L.length) (Nat.le_refl _)
 rwa [List.take_length] at this
def fr3 (x : FQ) : FQ := ((x.2.2.length : Int), x.2.1, x.2.2)
def outT (L : List FQ) (i : Nat) : List FQ := (L.take i).map fr3
theorem outT_s {L : List FQ} {i : Nat} (hi : i < L.length) : outT L i ++ [(((L.getD i dQ).2.2.length : Int), (L.getD i dQ).2.1, (L.getD i dQ).2.2)] = outT L (i + 1) := by
 rw [outT, outT, take_succ_getD _ dQ hi, List.map_append]; rfl
theorem outT_len {L : List FQ} {i : Nat} (h : i ≤ L.length) : (outT L i).length = i := by rw [outT, List.length_map, List.length_take]; omega
theorem nl_out {b : Nat} {F L2 L3 : List FQ} {i : Nat} (h : NL b (nQ F)) (hp : L2.Perm F) (h3 : L3 = cpQ L2) : NL b (nQ (outT L3 i)) := by
 have h1 := nl_sub (nl_sub (nl_perm h hp) (cpQ_sub L2)) (List.take_sublist i (cpQ L2))
 have e : nQ (outT L3 i) = nQ ((cpQ L2).take i) := by
  rw [h3, outT, nQ, nQ, List.map_map]; rfl
 rw [e]; exact h1
theorem ri_out {n : Int} {xs : List Int} (hP : okPo n xs = true) {F L2 L3 : List FQ} {i : Nat} (hF : fQ F = frP (prgW n xs)) (hp : L2.Perm F ∧ Go.Abs.SrtQ cmpX L2) (h3 : L3 = cpQ L2) (hi : i = L3.length) : fQ (outT L3 i) = frP (riR n xs) := by
 subst hi h3
 have hk : ∀ x ∈ F, x.1 = (x.2.2.length : Int) ∧ x.2.2 ∈ prgW n xs := fun x hx => by
  have h1 : (x.1, x.2.2) ∈ fQ F := List.mem_map.2 ⟨x, hx, rfl⟩
  rw [hF] at h1
  obtain ⟨r, hr, e⟩ := List.mem_map.1 h1
  obtain ⟨e1, e2⟩ := Prod.mk.inj e
  rw [← e1, ← e2]
  exact ⟨rfl, hr⟩
 have hk2 : ∀ r ∈ prgW n xs, ∃ x ∈ F, x.2.2 = r := fun r hr => by
  have h1 : ((r.length : Int), r) ∈ fQ F := by rw [hF]; exact List.mem_map.2 ⟨r, hr, rfl⟩
  obtain ⟨x, hx, e⟩ := List.mem_map.1 h1
  exact ⟨x, hx, (Prod.mk.inj e).2⟩
 have hsub := cpQ_sub L2
 have hm : ∀ x ∈ cpQ L2, x ∈ F := fun x hx => hp.1.subset (hsub.subset hx)
 have hsr : SR ((cpQ L2).map (·.2.2)) (refW n xs) := by
  refine ⟨?_, fun r => ?_⟩
  ·rw [List.pairwise_map]
   refine (cpT_srt hp.2 (k := L2.length) (Nat.le_refl _)).imp_of_mem fun {x y} hx hy h => ?_
   have h1 := (hk x (hm x hx)).1
   have h2 := (hk y (hm y hy)).1
   unfold kyQ at h
   rw [h1, h2, cmpX_F] at h
   exact h
  ·rw [← ri_same hP (fun m q h => lf_ex m q h) r]
   constructor
   ·intro hr
    obtain ⟨x, hx, rfl⟩ := List.mem_map.1 hr
    exact (hk x (hm x hx)).2
   ·intro hr
    obtain ⟨x, hx, rfl⟩ := hk2 r hr
    have hx2 : x ∈ L2.take L2.length := by rw [List.take_length]; exact hp.1.symm.subset hx
    obtain ⟨y, hy, e⟩ := cpT_mem (Nat.le_refl _) x hx2
    exact List.mem_map.2 ⟨y, hy, (congrArg Prod.snd e : (kyQ y).2 = (kyQ x).2)⟩
 rw [← riR_eq hsr, outT, List.take_length]
 simp [fQ, frP, fr3, List.map_map]
theorem fk_8 {F : List FQ} {n : Int} {xs : List Int} (h : ∀ x ∈ F, x.2.2.length ≤ 8) : ∀ x ∈ F, x.2.2.length ≤ 1000 := fun x hx => Nat.le_trans (h x hx) (by decide)
theorem fk_snoc {F : List FQ} {x : FQ} (h : ∀ x ∈ F, x.2.2.length ≤ 8) (hx : x.2.2.length ≤ 8) : ∀ y ∈ F ++ [x], y.2.2.length ≤ 8 := fun y hy => by
 rcases List.mem_append.1 hy with hy | hy
 ·exact h y hy
 ·have : y = x := by simpa using hy
  subst this; exact hx
theorem fk_perm {F G : List FQ} (h : ∀ x ∈ F, x.2.2.length ≤ 8) (hp : G.Perm F) : ∀ x ∈ G, x.2.2.length ≤ 1000 := fun x hx => Nat.le_trans (h x (hp.subset hx)) (by decide)
theorem congR_c (m : Nat) (xs : List Int) (hP : okPo (m : Int) xs = true) : CallA Tryz.prog 31 [.agg [AI (m : Int), LI xs]] (LLI (cgs xs m [] 0)) := by
 refine CallE.frzA (congruences_c (m : Int) xs hP) ?_
 rintro b r ⟨L2, rfl, _, h2⟩
 rw [Int.toNat_natCast] at h2
 exact FrzTo.ownV_eq h2
theorem rootF_c (n : Int) (xs : List Int) (hF : okFr n xs = true) : CallA Tryz.prog 35 [.agg [AI n, LI xs]] (AI (rootX n xs)) := by
 have hp1 := okFr_rel hF
 have hb0 : 0 ≤ n ∧ n ≤ 8 ∧ (xs.length : Int) = n := ⟨hp1.1, hp1.2.1, hp1.2.2.1⟩
 have hsh := shl_rng n hp1.1 (by omega)
 refine CallA.of Tryz.func35 rfl (by kernel_rfl) (R.go 10 (k20 true (pAll_c n xs (by omega) (by omega)) (k20 true (indexV_c n xs (by first | omega | (simp <;> omega))) ?_)))
 exact R.go 2 (k23 (AI (fidxI (fixP n) xs 0)) (by first | (rfl) | (exfalso; omega)))
set_option maxHeartbeats 8000000 in
theorem RootedImages_c (n : Int) (xs : List Int) (lx : xs.length ≤ 1048576) : CallE Tryz.prog 8 [.agg [AI n, LI xs]] (fun (b : Nat) (r : AV) => ∃ L : List FQ, r = .tup [ownA (eQ eI 2 1) 29 2 L, AI (rmC n xs)] ∧ (NL b (nQ L)) ∧ (fQ L = rmR n xs)) := by
 refine CallE.of Tryz.func8 rfl (by kernel_rfl) (fun b => (R.go 11 (k20 true (isPoset_c n xs (by first | omega | (simp <;> omega))) (R.go 3 (k25 (okPo n xs) (fun c1 => ?_) (fun c1 => ?_))))))
 ·have hP : okPo n xs = false := by assumption
  obtain ⟨hc1, hc2⟩ := rm_bad hP
  refine R.go 5 (R.nil 2 29 2 (by kernel_rfl) ?_)
  exact k32 (.tup [ownA (eQ eI 2 1) 29 2 [], AI 1]) ⟨[], by first | rfl | (rw [hc1]) | (exfalso; omega), by first | (first | exact NL.nil | exact nl_out (by assumption) hsq.1 (by assumption)) | (exfalso; omega), by first | (rw [hc2]; first | rfl | exact ri_out hP hFw hsq (by assumption) (by omega)) | (exfalso; omega)⟩
 refine R.go 7 (k9 (n > 5) (fun c2 => ?_) (fun c2 => ?_))
 ·have hP : okPo n xs = true := by assumption
  obtain ⟨hc1, hc2⟩ := rm_lim hP (by omega)
  refine R.go 5 (R.nil 2 29 2 (by kernel_rfl) ?_)
  exact k32 (.tup [ownA (eQ eI 2 1) 29 2 [], AI 3]) ⟨[], by first | rfl | (rw [hc1]) | (exfalso; omega), by first | (first | exact NL.nil | exact nl_out (by assumption) hsq.1 (by assumption)) | (exfalso; omega), by first | (rw [hc2]; first | rfl | exact ri_out hP hFw hsq (by assumption) (by omega)) | (exfalso; omega)⟩
 have hP : okPo n xs = true := by assumption
 obtain ⟨hc1, hc2⟩ := rm_ok hP (by omega)
 have hFr := okFr_rel (okPo_fr hP)
 have hn : (xs.length : Int) = n := hFr.2.2.1
 have hn0 := hFr.1
 have hul := upL_32 hP (by omega)
 refine R.go 10 (k20 true (upsets_c n xs hP).frz (R.go 4 (R.nil 4 46 2 (by kernel_rfl) (k21 ((fun | (i, F) => (⟨(frm 75 [(1, .ptr 1 0), (4, .ref 2), (23, LI (upL n xs)), (24, AI ((upL n xs).length)), (25, AI (i : Int))]), [.inert (.base b), .box 29 [AI n, LI xs], rowA (eQ eI 2 1) 46 2 F]⟩ : St) : Nat × (List FQ) → St)) (fun | (i, F) => (i ≤ (upL n xs).length) ∧ (NL b (nQ F)) ∧ (fQ F = frP (prgX n xs i 0)) ∧ (∀ x ∈ F, x.2.2.length ≤ 8)) (fun | (i, F) => (upL n xs).length - i) (0, []) [1, 4, 23, 24, 25] none ⟨(by omega), (by exact NL.nil), (by (rw [prgX_0]; rfl)), (by exact fun x hx => absurd hx List.not_mem_nil)⟩ ?_))))
 rintro ⟨i, F⟩ ⟨h6_1, h6_2, h6_3, h6_4⟩ R3 N4
 have hfl : F.length ≤ 1100000 := by have h9 := prgX_len hP (by omega) (i := i) (j := 0) (by omega) (.inr rfl); have h8 := congrArg List.length ‹fQ F = frP (prgX n xs i 0)›; rw [fQ_len, frP_len] at h8; omega
 refine R.go 5 (k9 ((i : Int) < ((upL n xs).length : Int)) (fun c7 => ?_) (fun c7 => ?_))
 ·refine R.go 5 (k15 eI (upL n xs) 0 i (i : Int) eI_len ?_)
  have hU1 := up_in hP (i := i) (by omega)
  have hml := mem_lenN (N := n.toNat) (by omega) hU1
  have hPa : okPo ((mem ((upL n xs).getD i 0)).length : Int) (prt xs (mem ((upL n xs).getD i 0))) = true := ri_part hP hU1
  have hpl0 := prt_len xs (mem ((upL n xs).getD i 0))
  have hcl := cgs_5 (P := prt xs (mem ((upL n xs).getD i 0))) (d := (mem ((upL n xs).getD i 0)).length) (by omega)
  refine R.go 7 (k20 true (pOn_c n xs ((upL n xs).getD i 0) (by first | assumption | exact okPo_fr (by assumption)) (by first | assumption | exact inM_out (by omega) (by omega) (by assumption))) (R.go 6 (k20 true (pFrame_c ((mem ((upL n xs).getD i 0)).length) (prt xs (mem ((upL n xs).getD i 0))) (by first | omega | (simp <;> omega))) (k20 true (congR_c ((mem ((upL n xs).getD i 0)).length) (prt xs (mem ((upL n xs).getD i 0))) (by assumption)) (R.go 4 (k21 ((fun | (j, G) => (⟨(frm 75 [(1, .ptr 1 0), (4, .ref 2), (7, .ptr 3 0), (23, LI (upL n xs)), (24, AI ((upL n xs).length)), (25, AI (i : Int)), (34, LLI (cgs (prt xs (mem ((upL n xs).getD i 0))) ((mem ((upL n xs).getD i 0)).length) [] 0)), (35, AI ((cgs (prt xs (mem ((upL n xs).getD i 0))) ((mem ((upL n xs).getD i 0)).length) [] 0).length)), (36, AI (j : Int))]), [.inert (.base b), .box 29 [AI n, LI xs], rowA (eQ eI 2 1) 46 2 G, .box 29 [AI ((mem ((upL n xs).getD i 0)).length), LI (prt xs (mem ((upL n xs).getD i 0)))]]⟩ : St) : Nat × (List FQ) → St)) (fun | (j, G) => (j ≤ (cgs (prt xs (mem ((upL n xs).getD i 0))) (mem ((upL n xs).getD i 0)).length [] 0).length) ∧ (NL b (nQ G)) ∧ (fQ G = frP (prgX n xs i j)) ∧ (∀ x ∈ G, x.2.2.length ≤ 8)) (fun | (j, G) => (cgs (prt xs (mem ((upL n xs).getD i 0))) (mem ((upL n xs).getD i 0)).length [] 0).length - j) (0, F) [1, 4, 7, 23, 24, 25, 34, 35, 36] none ⟨(by omega), (by assumption), (by assumption), (by assumption)⟩ ?_))))))
  rintro ⟨j, G⟩ ⟨h11_1, h11_2, h11_3, h11_4⟩ R8 N9
  have hgl : G.length ≤ 1100000 := by have h9 := prgX_len hP (by omega) (i := i) (j := j) (by omega) (.inl (by omega)); have h8 := congrArg List.length ‹fQ G = frP (prgX n xs i j)›; rw [fQ_len, frP_len] at h8; omega
  refine R.go 5 (k9 ((j : Int) < ((cgs (prt xs (mem ((upL n xs).getD i 0))) ((mem ((upL n xs).getD i 0)).length) [] 0).length : Int)) (fun c12 => ?_) (fun c12 => ?_))
  ·refine R.go 5 (k15 eLI (cgs (prt xs (mem ((upL n xs).getD i 0))) ((mem ((upL n xs).getD i 0)).length) [] 0) [] j (j : Int) eLI_len ?_ (hj := by first | omega | (simp only [List.length_set]; omega) | (simp <;> omega)))
   have hcg := cg_al2 hP hU1 (j := j) (by omega) rfl
   have hQ := hcg.1
   have hqf := hcg.2.1
   have hq8 := hQ.2.1
   have hpl := (okFr_rel (okPo_fr hPa)).2.2.1
   refine R.go 8 (k20 true (quotientRelation_c (prt xs (mem ((upL n xs).getD i 0))) ((cgs (prt xs (mem ((upL n xs).getD i 0))) ((mem ((upL n xs).getD i 0)).length) [] 0).getD j []) (by first | assumption | exact qh_of (by assumption) (par_ok (by assumption)).1 (par_ok (by assumption)).2)).frz (R.enter (avs := [LI (quoI (prt xs (mem ((upL n xs).getD i 0))) ((cgs (prt xs (mem ((upL n xs).getD i 0))) ((mem ((upL n xs).getD i 0)).length) [] 0).getD j []) ((cgs (prt xs (mem ((upL n xs).getD i 0))) ((mem ((upL n xs).getD i 0)).length) [] 0).getD j []).length)]) Tryz.func33 rfl (by kernel_rfl) (by kernel_rfl) (by kernel_rfl) ?_))
   intro us13
   refine R.go 7 (k20 true (size_c (quoI (prt xs (mem ((upL n xs).getD i 0))) ((cgs (prt xs (mem ((upL n xs).getD i 0))) ((mem ((upL n xs).getD i 0)).length) [] 0).getD j []) ((cgs (prt xs (mem ((upL n xs).getD i 0))) ((mem ((upL n xs).getD i 0)).length) [] 0).getD j []).length)) (R.go 4 (R.back (.agg [AI ((quoI (prt xs (mem ((upL n xs).getD i 0))) ((cgs (prt xs (mem ((upL n xs).getD i 0))) ((mem ((upL n xs).getD i 0)).length) [] 0).getD j []) ((cgs (prt xs (mem ((upL n xs).getD i 0))) ((mem ((upL n xs).getD i 0)).length) [] 0).getD j []).length).length), LI (quoI (prt xs (mem ((upL n xs).getD i 0))) ((cgs (prt xs (mem ((upL n xs).getD i 0))) ((mem ((upL n xs).getD i 0)).length) [] 0).getD j []) ((cgs (prt xs (mem ((upL n xs).getD i 0))) ((mem ((upL n xs).getD i 0)).length) [] 0).getD j []).length)]) (frm 75 [(1, .ptr 1 0), (4, .ref 2), (7, .ptr 3 0), (9, LI ((cgs (prt xs (mem ((upL n xs).getD i 0))) ((mem ((upL n xs).getD i 0)).length) [] 0).getD j [])), (23, LI (upL n xs)), (24, AI ((upL n xs).length)), (25, AI (i : Int)), (34, LLI (cgs (prt xs (mem ((upL n xs).getD i 0))) ((mem ((upL n xs).getD i 0)).length) [] 0)), (35, AI ((cgs (prt xs (mem ((upL n xs).getD i 0))) ((mem ((upL n xs).getD i 0)).length) [] 0).length)), (36, AI (j : Int)), (37, .bool (decide ((j : Int) < ((cgs (prt xs (mem ((upL n xs).getD i 0))) ((mem ((upL n xs).getD i 0)).length) [] 0).length : Int)))), (38, .rptr [LI ((cgs (prt xs (mem ((upL n xs).getD i 0))) ((mem ((upL n xs).getD i 0)).length) [] 0).getD j [])]), (39, LI ((cgs (prt xs (mem ((upL n xs).getD i 0))) ((mem ((upL n xs).getD i 0)).length) [] 0).getD j [])), (40, .ptr 3 1), (41, LI (prt xs (mem ((upL n xs).getD i 0)))), (42, LI ((cgs (prt xs (mem ((upL n xs).getD i 0))) ((mem ((upL n xs).getD i 0)).length) [] 0).getD j [])), (43, LI (quoI (prt xs (mem ((upL n xs).getD i 0))) ((cgs (prt xs (mem ((upL n xs).getD i 0))) ((mem ((upL n xs).getD i 0)).length) [] 0).getD j []) ((cgs (prt xs (mem ((upL n xs).getD i 0))) ((mem ((upL n xs).getD i 0)).length) [] 0).getD j []).length))]) (by kernel_rfl) (by kernel_rfl) (by kernel_rfl) (R.go 6 (k20 true (rootF_c ((quoI (prt xs (mem ((upL n xs).getD i 0))) ((cgs (prt xs (mem ((upL n xs).getD i 0))) ((mem ((upL n xs).getD i 0)).length) [] 0).getD j []) ((cgs (prt xs (mem ((upL n xs).getD i 0))) ((mem ((upL n xs).getD i 0)).length) [] 0).getD j []).length).length) (quoI (prt xs (mem ((upL n xs).getD i 0))) ((cgs (prt xs (mem ((upL n xs).getD i 0))) ((mem ((upL n xs).getD i 0)).length) [] 0).getD j []) ((cgs (prt xs (mem ((upL n xs).getD i 0))) ((mem ((upL n xs).getD i 0)).length) [] 0).getD j []).length) (by assumption)) (R.go 2 (k9 ((rootX ((quoI (prt xs (mem ((upL n xs).getD i 0))) ((cgs (prt xs (mem ((upL n xs).getD i 0))) ((mem ((upL n xs).getD i 0)).length) [] 0).getD j []) ((cgs (prt xs (mem ((upL n xs).getD i 0))) ((mem ((upL n xs).getD i 0)).length) [] 0).getD j []).length).length) (quoI (prt xs (mem ((upL n xs).getD i 0))) ((cgs (prt xs (mem ((upL n xs).getD i 0))) ((mem ((upL n xs).getD i 0)).length) [] 0).getD j []) ((cgs (prt xs (mem ((upL n xs).getD i 0))) ((mem ((upL n xs).getD i 0)).length) [] 0).getD j []).length)) ≥ 0) (fun c14 => ?_) (fun c14 => ?_))))))))
   ·refine R.go 4 (R.callE (avs0 := [LI (quoI (prt xs (mem ((upL n xs).getD i 0))) ((cgs (prt xs (mem ((upL n xs).getD i 0))) ((mem ((upL n xs).getD i 0)).length) [] 0).getD j []) ((cgs (prt xs (mem ((upL n xs).getD i 0))) ((mem ((upL n xs).getD i 0)).length) [] 0).getD j []).length)]) (leastRel_c (quoI (prt xs (mem ((upL n xs).getD i 0))) ((cgs (prt xs (mem ((upL n xs).getD i 0))) ((mem ((upL n xs).getD i 0)).length) [] 0).getD j []) ((cgs (prt xs (mem ((upL n xs).getD i 0))) ((mem ((upL n xs).getD i 0)).length) [] 0).getD j []).length) (by assumption)) (by kernel_rfl) (.cons (.leaf rfl) (.nil)) (leastRel_c_cl (quoI (prt xs (mem ((upL n xs).getD i 0))) ((cgs (prt xs (mem ((upL n xs).getD i 0))) ((mem ((upL n xs).getD i 0)).length) [] 0).getD j []) ((cgs (prt xs (mem ((upL n xs).getD i 0))) ((mem ((upL n xs).getD i 0)).length) [] 0).getD j []).length)) (by kernel_rfl) ?_)
    intro bE1 hbn15 hsn16 rn17 hrn18
    obtain ⟨vE1, qE1, rfl, heE1_1, heE1_2, heE1_3⟩ := hrn18
    have hbb19 : b ≤ bE1 := hbn15 0 b (by kernel_rfl)
    have hb20 : ∀ g, blk vE1 = some g → b ≤ g := fun g hg => Nat.le_trans hbb19 (heE1_1 g hg)
    have hr21 : ∀ u ∈ nQ G, ∀ g, blk vE1 = some g → blk u.1 ≠ some g := inS_rowQ (E := eI) (el := 2) (s := 1) (e := 46) (n := G.length) hsn16 2 G (by kernel_rfl) heE1_1
    clear hbn15 hsn16
    refine R.enter (avs := [.nam vE1 (some 2) 1 qE1.length (rows eI qE1)]) Tryz.func36 rfl (by kernel_rfl) (by kernel_rfl) (by kernel_rfl) ?_
    intro us22
    refine R.go 7 (R.callW (avs0 := [.nam vE1 (some 2) 1 qE1.length (rows eI qE1)]) (size_c qE1) (by kernel_rfl) (.cons (.wk (.leaf rfl) (fun w Z u h => fgt1 w Z u h)) (.nil)) rfl (by kernel_rfl) (R.go 4 (R.back (.agg [AI qE1.length, .nam vE1 (some 2) 1 qE1.length (rows eI qE1)]) (frm 75 [(1, .ptr 1 0), (4, .ref 2), (7, .ptr 3 0), (9, LI ((cgs (prt xs (mem ((upL n xs).getD i 0))) ((mem ((upL n xs).getD i 0)).length) [] 0).getD j [])), (10, .ptr 6 0), (23, LI (upL n xs)), (24, AI ((upL n xs).length)), (25, AI (i : Int)), (34, LLI (cgs (prt xs (mem ((upL n xs).getD i 0))) ((mem ((upL n xs).getD i 0)).length) [] 0)), (35, AI ((cgs (prt xs (mem ((upL n xs).getD i 0))) ((mem ((upL n xs).getD i 0)).length) [] 0).length)), (36, AI (j : Int)), (37, .bool (decide ((j : Int) < ((cgs (prt xs (mem ((upL n xs).getD i 0))) ((mem ((upL n xs).getD i 0)).length) [] 0).length : Int)))), (38, .rptr [LI ((cgs (prt xs (mem ((upL n xs).getD i 0))) ((mem ((upL n xs).getD i 0)).length) [] 0).getD j [])]), (39, LI ((cgs (prt xs (mem ((upL n xs).getD i 0))) ((mem ((upL n xs).getD i 0)).length) [] 0).getD j [])), (40, .ptr 3 1), (41, LI (prt xs (mem ((upL n xs).getD i 0)))), (42, LI ((cgs (prt xs (mem ((upL n xs).getD i 0))) ((mem ((upL n xs).getD i 0)).length) [] 0).getD j [])), (43, LI (quoI (prt xs (mem ((upL n xs).getD i 0))) ((cgs (prt xs (mem ((upL n xs).getD i 0))) ((mem ((upL n xs).getD i 0)).length) [] 0).getD j []) ((cgs (prt xs (mem ((upL n xs).getD i 0))) ((mem ((upL n xs).getD i 0)).length) [] 0).getD j []).length)), (44, .agg [AI ((quoI (prt xs (mem ((upL n xs).getD i 0))) ((cgs (prt xs (mem ((upL n xs).getD i 0))) ((mem ((upL n xs).getD i 0)).length) [] 0).getD j []) ((cgs (prt xs (mem ((upL n xs).getD i 0))) ((mem ((upL n xs).getD i 0)).length) [] 0).getD j []).length).length), LI (quoI (prt xs (mem ((upL n xs).getD i 0))) ((cgs (prt xs (mem ((upL n xs).getD i 0))) ((mem ((upL n xs).getD i 0)).length) [] 0).getD j []) ((cgs (prt xs (mem ((upL n xs).getD i 0))) ((mem ((upL n xs).getD i 0)).length) [] 0).getD j []).length)]), (45, .agg [AI ((quoI (prt xs (mem ((upL n xs).getD i 0))) ((cgs (prt xs (mem ((upL n xs).getD i 0))) ((mem ((upL n xs).getD i 0)).length) [] 0).getD j []) ((cgs (prt xs (mem ((upL n xs).getD i 0))) ((mem ((upL n xs).getD i 0)).length) [] 0).getD j []).length).length), LI (quoI (prt xs (mem ((upL n xs).getD i 0))) ((cgs (prt xs (mem ((upL n xs).getD i 0))) ((mem ((upL n xs).getD i 0)).length) [] 0).getD j []) ((cgs (prt xs (mem ((upL n xs).getD i 0))) ((mem ((upL n xs).getD i 0)).length) [] 0).getD j []).length)]), (46, AI (rootX ((quoI (prt xs (mem ((upL n xs).getD i 0))) ((cgs (prt xs (mem ((upL n xs).getD i 0))) ((mem ((upL n xs).getD i 0)).length) [] 0).getD j []) ((cgs (prt xs (mem ((upL n xs).getD i 0))) ((mem ((upL n xs).getD i 0)).length) [] 0).getD j []).length).length) (quoI (prt xs (mem ((upL n xs).getD i 0))) ((cgs (prt xs (mem ((upL n xs).getD i 0))) ((mem ((upL n xs).getD i 0)).length) [] 0).getD j []) ((cgs (prt xs (mem ((upL n xs).getD i 0))) ((mem ((upL n xs).getD i 0)).length) [] 0).getD j []).length))), (47, .bool (decide ((rootX ((quoI (prt xs (mem ((upL n xs).getD i 0))) ((cgs (prt xs (mem ((upL n xs).getD i 0))) ((mem ((upL n xs).getD i 0)).length) [] 0).getD j []) ((cgs (prt xs (mem ((upL n xs).getD i 0))) ((mem ((upL n xs).getD i 0)).length) [] 0).getD j []).length).length) (quoI (prt xs (mem ((upL n xs).getD i 0))) ((cgs (prt xs (mem ((upL n xs).getD i 0))) ((mem ((upL n xs).getD i 0)).length) [] 0).getD j []) ((cgs (prt xs (mem ((upL n xs).getD i 0))) ((mem ((upL n xs).getD i 0)).length) [] 0).getD j []).length)) ≥ 0))), (48, .ref 2), (49, .ptr 6 1), (50, LI (quoI (prt xs (mem ((upL n xs).getD i 0))) ((cgs (prt xs (mem ((upL n xs).getD i 0))) ((mem ((upL n xs).getD i 0)).length) [] 0).getD j []) ((cgs (prt xs (mem ((upL n xs).getD i 0))) ((mem ((upL n xs).getD i 0)).length) [] 0).getD j []).length)), (51, .nam vE1 (some 2) 1 qE1.length (rows eI qE1))]) (by kernel_rfl) (by kernel_rfl) (by kernel_rfl) (R.go 1 (k19 (eQ eI 2 1) G [((qE1.length : Int), vE1, qE1)] 2 46 2 32 eQ_one ?_ (hb := by first | omega | (simp only [List.length_cons, List.length_nil]; omega)))))))
    refine R.go 4 (k8 ((j : Int) + 1) ?_)
    exact R.go 2 (k22 R8 (N9 (j + 1, G ++ [((qE1.length : Int), vE1, qE1)]) [1, 4, 7, 23, 24, 25, 34, 35, 36] (some [0, 1, 2, 3]) _ (by kernel_rfl) (by kernel_rfl) ⟨(by omega), (by first | assumption | exact NL.app1 (by assumption) (by assumption) (by assumption)), (by first | (rw [prgX_n rfl (by omega) rfl (hcg.2.2.2.trans (decide_eq_false (by omega)))]; assumption) | (rw [prgX_y rfl (by omega) rfl (hcg.2.2.2.trans (decide_eq_true (by omega))), ← hcg.2.2.1]; exact fq_snoc2 (by assumption) (by assumption) rfl)), (by first | assumption | exact fk_snoc (by assumption) (by assumption))⟩ (by show ((cgs (prt xs (mem ((upL n xs).getD i 0))) (mem ((upL n xs).getD i 0)).length [] 0).length - (j + 1)) < ((cgs (prt xs (mem ((upL n xs).getD i 0))) (mem ((upL n xs).getD i 0)).length [] 0).length - j); omega)))
   refine R.go 3 (k8 ((j : Int) + 1) ?_)
   exact R.go 2 (k22 R8 (N9 (j + 1, G) [1, 4, 7, 23, 24, 25, 34, 35, 36] (some [0, 1, 2, 3]) _ (by kernel_rfl) (by kernel_rfl) ⟨(by omega), (by first | assumption | exact NL.app1 (by assumption) (by assumption) (by assumption)), (by first | (rw [prgX_n rfl (by omega) rfl (hcg.2.2.2.trans (decide_eq_false (by omega)))]; assumption) | (rw [prgX_y rfl (by omega) rfl (hcg.2.2.2.trans (decide_eq_true (by omega))), ← hcg.2.2.1]; exact fq_snoc2 (by assumption) (by assumption) rfl)), (by first | assumption | exact fk_snoc (by assumption) (by assumption))⟩ (by show ((cgs (prt xs (mem ((upL n xs).getD i 0))) (mem ((upL n xs).getD i 0)).length [] 0).length - (j + 1)) < ((cgs (prt xs (mem ((upL n xs).getD i 0))) (mem ((upL n xs).getD i 0)).length [] 0).length - j); omega)))
  refine R.go 3 (k8 ((i : Int) + 1) ?_)
  exact R.go 2 (k22 R3 (N4 (i + 1, G) [1, 4, 23, 24, 25] (some [0, 1, 2]) _ (by kernel_rfl) (by kernel_rfl) ⟨(by omega), (by assumption), (by (rw [← prgX_s (i := i) (j := j) (by omega) (by omega)]; assumption)), (by assumption)⟩ (by show ((upL n xs).length - (i + 1)) < ((upL n xs).length - i); omega)))
 have hKf := fk_8 (n := n) (xs := xs) ‹∀ x ∈ F, x.2.2.length ≤ 8›
 have hFw : fQ F = frP (prgW n xs) := by rw [← prgX_e (n := n) (xs := xs) (i := i) (by omega)]; assumption
 refine R.go 4 (R.callX (sortQ_c b n xs F (by assumption) (by omega)) (by kernel_rfl) (by kernel_rfl) (by kernel_rfl) ?_)
 rintro _ _ ⟨L2_23, f24, rfl, rfl⟩
 have hsq : (L2_23).Perm F ∧ Go.Abs.SrtQ cmpX (L2_23) := by assumption
 have hK2 : ∀ x ∈ (L2_23), x.2.2.length ≤ 1000 := fk_perm ‹∀ x ∈ F, x.2.2.length ≤ 8› hsq.1
 have hl2 : (L2_23).length ≤ 1100000 := by rw [hsq.1.length_eq]; exact hfl
 refine R.go 4 (R.callZ (compact_c b n xs L2_23 (by assumption) (by omega)) (by kernel_rfl) (by kernel_rfl) (by kernel_rfl) ?_)
 rintro _ _ ⟨L2_25, f26, rfl, rfl⟩
 have h3 := (by assumption : (L2_25) = cpQ _)
 have hl3 : (L2_25).length ≤ 1100000 := by rw [h3]; exact Nat.le_trans (cpQ_sub _).length_le hl2
 refine R.go 14 (R.nil 11 29 2 (by kernel_rfl) (k21 ((fun | (k, O) => (⟨(frm 75 [(11, .ref 1), (61, .ref 2), (62, AI L2_25.length), (63, AI (k : Int))]), [.inert (.base b), rowA (eQ eI 2 1) 29 2 O, rowA (eQ eI 2 1) 46 2 L2_25]⟩ : St) : Nat × (List FQ) → St)) (fun | (k, O) => (k ≤ (L2_25).length) ∧ (O = outT (L2_25) k)) (fun | (k, O) => (L2_25).length - k) (0, []) [11, 61, 62, 63] (some [0, 3, 2]) ⟨(by omega), (by rfl)⟩ ?_))
 rintro ⟨k, O⟩ ⟨h30_1, rfl⟩ R27 N28
 have hol := outT_len (L := (L2_25)) (i := k) (by omega)
 refine R.go 5 (k9 ((k : Int) < (L2_25.length : Int)) (fun c31 => ?_) (fun c31 => ?_))
 ·refine R.go 5 (k16 2 2 L2_25.length k (k : Int) (R.ldA (eQ eI 2 1) L2_25 (0, .bool false, []) k 2 (by kernel_rfl) eQ_len (by omega) (by kernel_rfl) (R.go 7 (R.enter (avs := [.nam ((L2_25.getD k (0, .bool false, [])).2.1) (some 2) 1 ((L2_25.getD k (0, .bool false, [])).2.2).length (rows eI ((L2_25.getD k (0, .bool false, [])).2.2))]) Tryz.func33 rfl (by kernel_rfl) (by kernel_rfl) (by kernel_rfl) ?_))))
  intro us32
  refine R.go 7 (R.callW (avs0 := [.nam ((L2_25.getD k (0, .bool false, [])).2.1) (some 2) 1 ((L2_25.getD k (0, .bool false, [])).2.2).length (rows eI ((L2_25.getD k (0, .bool false, [])).2.2))]) (size_c ((L2_25.getD k (0, .bool false, [])).2.2)) (by kernel_rfl) (.cons (.wk (.leaf rfl) (fun w Z u h => fgt1 w Z u h)) (.nil)) rfl (by kernel_rfl) (R.go 4 (R.back (.agg [AI (((L2_25.getD k (0, .bool false, [])).2.2).length), .nam ((L2_25.getD k (0, .bool false, [])).2.1) (some 2) 1 ((L2_25.getD k (0, .bool false, [])).2.2).length (rows eI ((L2_25.getD k (0, .bool false, [])).2.2))]) (frm 75 [(11, .ref 1), (13, .ptr 3 0), (61, .ref 2), (62, AI L2_25.length), (63, AI (k : Int)), (64, .bool (decide ((k : Int) < (L2_25.length : Int)))), (65, .ptr 2 (k * 2)), (66, .agg [AI ((L2_25.getD k (0, .bool false, [])).1), .nam ((L2_25.getD k (0, .bool false, [])).2.1) (some 2) 1 ((L2_25.getD k (0, .bool false, [])).2.2).length (rows eI ((L2_25.getD k (0, .bool false, [])).2.2))]), (67, .ref 1), (68, .ptr 3 1), (69, .nam ((L2_25.getD k (0, .bool false, [])).2.1) (some 2) 1 ((L2_25.getD k (0, .bool false, [])).2.2).length (rows eI ((L2_25.getD k (0, .bool false, [])).2.2)))]) (by kernel_rfl) (by kernel_rfl) (by kernel_rfl) (R.go 1 (k19 (eQ eI 2 1) (outT (L2_25) k) [((((L2_25.getD k (0, .bool false, [])).2.2).length : Int), (L2_25.getD k (0, .bool false, [])).2.1, (L2_25.getD k (0, .bool false, [])).2.2)] 1 29 2 32 eQ_one ?_ (hb := by first | omega | (simp only [List.length_cons, List.length_nil]; omega)))))))
  refine R.go 4 (k8 ((k : Int) + 1) ?_)
  exact R.go 2 (k22 R27 (N28 (k + 1, (outT (L2_25) k) ++ [((((L2_25.getD k (0, .bool false, [])).2.2).length : Int), (L2_25.getD k (0, .bool false, [])).2.1, (L2_25.getD k (0, .bool false, [])).2.2)]) [11, 61, 62, 63] (some [0, 1, 2]) _ (by kernel_rfl) (by kernel_rfl) ⟨(by omega), (by exact outT_s (by omega))⟩ (by show ((L2_25).length - (k + 1)) < ((L2_25).length - k); omega)))
 exact R.go 7 (k32 (.tup [ownA (eQ eI 2 1) 29 2 (outT (L2_25) k), AI 0]) ⟨outT (L2_25) k, by first | rfl | (rw [hc1]) | (exfalso; omega), by first | (first | exact NL.nil | exact nl_out (by assumption) hsq.1 (by assumption)) | (exfalso; omega), by first | (rw [hc2]; first | rfl | exact ri_out hP hFw hsq (by assumption) (by omega)) | (exfalso; omega)⟩)
theorem RootedImages_c_cl (n : Int) (xs : List Int) : ∀ (b : Nat) (r : AV), (fun (b : Nat) (r : AV) => ∃ L : List FQ, r = .tup [ownA (eQ eI 2 1) 29 2 L, AI (rmC n xs)] ∧ (NL b (nQ L)) ∧ (fQ L = rmR n xs)) b r → ClosedN b r := by
 rintro b r ⟨L, rfl, e0, e1⟩
 exact (closedN_tup (closedNL_cons (closedN_ownQ _ e0 eI_closed) (closedNL_cons closedN_int closedNL_nil)))
end Go.Proofs.YtehbliocfpppoaaGreat

/-! The law of RootedImages. -/
namespace Go.Proofs.YtehbliocfpppoaaGreat
open Go.RowKit Go.Abs
theorem nameable_LP (xs : List (Int × List Int)) : nameable (.lst 2 xs.length (rows eP xs)) = true := by
 simp only [nameable]
 exact nameableL_rows (fun x => by simp only [eP, nameableL, nameable_AI, nameable_LI, Bool.and_self]) xs
theorem lvl_52 : ∀ n : Nat, n ≤ 5 → (lvl n).length ≤ 52 := by
 have h : (List.range 6).all (fun n => Nat.ble (lvl n).length 52) = true := by decide +kernel
 intro n hn
 exact Nat.le_of_ble_eq_true (List.all_eq_true.1 h n (List.mem_range.2 (by omega)))
theorem refW_len {n : Int} {xs : List Int} (hP : okPo n xs = true) (h5 : n ≤ 5) : (refW n xs).length ≤ 260 ∧ ∀ r ∈ refW n xs, r.length ≤ 8 := by
 have h0 := (okFr_rel (okPo_fr hP)).1
 constructor
 ·have h1 := flatL_len (fun x : Nat => qsX xs (xs.getD x 0)) 52 (List.range n.toNat) fun x hx => by
   have hx := List.mem_range.1 hx
   rw [qsX_len, cgs, ← lvl_dfs]
   have := mem_lenN (N := n.toNat) (by omega) (ri_up hP hx).1
   exact Nat.le_trans (List.length_filter_le _ _) (lvl_52 _ (by omega))
  rw [List.length_range] at h1
  unfold refW
  omega
 ·intro r hr
  refine refX_el hP (x := n.toNat) (i := 0) (.inr ⟨Nat.le_refl _, rfl⟩) r ?_
  rw [refX_e (n := n) (xs := xs) rfl]; exact hr
theorem riR_ok {n : Int} {xs : List Int} (hE : ∃ R, SR R (refW n xs)) : SR (riR n xs) (refW n xs) := Classical.epsilon_spec (p := fun R => SR R (refW n xs)) hE
theorem sr_ex : ∀ W : List (List Int), ∃ R, SR R W
 | [] => ⟨[], sr_nil⟩
 | q :: W => by
  obtain ⟨R, h⟩ := sr_ex W
  have key : ∀ m : Nat, m ≤ R.length → (∃ k : Nat, k < m ∧ ¬ ltF (R.getD k []) q ∧ ∀ j : Nat, j < k → ltF (R.getD j []) q) ∨ ∀ j : Nat, j < m → ltF (R.getD j []) q := by
   intro m
   induction m with
   | zero => intro _; exact .inr fun j hj => absurd hj (Nat.not_lt_zero _)
   | succ m ih =>
    intro hm
    rcases ih (by omega) with ⟨k, a, b, c⟩ | h2
    ·exact .inl ⟨k, by omega, b, c⟩
    ·by_cases e : ltF (R.getD m []) q
     ·refine .inr fun j hj => ?_
      by_cases ej : j = m
      ·rw [ej]; exact e
      ·exact h2 j (by omega)
     ·exact .inl ⟨m, by omega, e, h2⟩
  have perm : ∀ V, SR V (W ++ [q]) → SR V (q :: W) := fun V hV => ⟨hV.1, fun r => by rw [hV.2 r]; simp [or_comm]⟩
  rcases key R.length (Nat.le_refl _) with ⟨k, a, b, c⟩ | h2
  ·by_cases e : ltF q (R.getD k [])
   ·exact ⟨_, perm _ (sr_ins h (by omega) c fun _ => e)⟩
   ·exact ⟨_, perm _ (sr_old h a b e)⟩
  ·exact ⟨_, perm _ (sr_ins h (Nat.le_refl _) h2 fun hl => absurd hl (by omega))⟩
def lenP (l : List (Int × List Int)) : Nat → Nat
 | 0 => 0
 | i + 1 => lenP l i + (1 + (l.getD i (0, [])).2.length)
theorem lenP_mono (l : List (Int × List Int)) {i j : Nat} (h : i ≤ j) : lenP l i ≤ lenP l j := by
 induction j with
 | zero => rw [Nat.le_zero.1 h]; exact Nat.le_refl _
 | succ j ih =>
  rcases Nat.lt_or_ge i (j + 1) with h1 | h1
  ·exact Nat.le_trans (ih (by omega)) (Nat.le_add_right _ _)
  ·rw [show i = j + 1 by omega]; exact Nat.le_refl _
theorem lenP_step (l : List (Int × List Int)) (i : Nat) (h : i < l.length) : lenP l i + (1 + (l.getD i (0, [])).2.length) ≤ lenP l l.length := lenP_mono l (i := i + 1) h
theorem lenP_eq {l m : List (Int × List Int)} (h : ∀ j, (l.getD j (0, [])).2.length = (m.getD j (0, [])).2.length) : ∀ i, lenP l i = lenP m i
 | 0 => rfl
 | i + 1 => by rw [lenP, lenP, lenP_eq h i, h i]
theorem lenP_le {l : List (Int × List Int)} {c : Nat} (h : ∀ j, j < l.length → (l.getD j (0, [])).2.length ≤ c) : ∀ i, i ≤ l.length → lenP l i ≤ (c + 1) * i
 | 0, _ => by simp [lenP]
 | i + 1, hi => by
  have h1 := lenP_le h i (by omega)
  have h2 := h i (by omega)
  rw [lenP, Nat.mul_add]; omega
theorem rmR_len {n : Int} {xs : List Int} : (rmR n xs).length ≤ 260 ∧ (∀ j : Nat, j < (rmR n xs).length → ((rmR n xs).getD j (0, [])).2.length ≤ 8) ∧ lenP (rmR n xs) (rmR n xs).length ≤ 2340 := by
 have h : (rmR n xs).length ≤ 260 ∧ (∀ j : Nat, j < (rmR n xs).length → ((rmR n xs).getD j (0, [])).2.length ≤ 8) := by
  by_cases h : rmC n xs = 0
  ·obtain ⟨hP, h5⟩ := rm_0 h
   obtain ⟨w1, w2⟩ := refW_len hP (by omega)
   have hs := riR_ok (sr_ex (refW n xs))
   have hl := sr_len hs
   rw [rmR, if_pos h, frP_len]
   refine ⟨by omega, fun j hj => ?_⟩
   rw [frP_get hj]
   exact w2 _ ((hs.2 _).1 (ri_gt hj))
  ·rw [rmR, if_neg h]
   exact ⟨by simp, fun j hj => by simp at hj⟩
 refine ⟨h.1, h.2, ?_⟩
 have := lenP_le h.2 _ (Nat.le_refl _)
 have := h.1
 omega
def MkP (k : Int) (l : List (Int × List Int)) (LM : List FQ) (i : Nat) : Prop :=
 LM.length = l.length ∧ ∀ j, j < l.length → kyQ (LM.getD j dQ) = if j < i then (k + (lenP l j : Int), markC (l.getD j (0, [])).2.length (k + (lenP l j : Int) + 1)) else l.getD j (0, [])
theorem fQ_at {L : List FQ} {i : Nat} (hi : i < L.length) : (fQ L).getD i (0, []) = kyQ (L.getD i dQ) := fQ_get (d := dQ) hi
theorem MkP.zero {k : Int} {l : List (Int × List Int)} {L : List FQ} (h : fQ L = l) : MkP k l L 0 := by
 have hl : L.length = l.length := by rw [← h, fQ_len]
 refine ⟨hl, fun j hj => ?_⟩
 rw [if_neg (by omega), ← h, fQ_at (by omega)]
theorem MkP.now {k : Int} {l : List (Int × List Int)} {LM : List FQ} {i : Nat} (h : MkP k l LM i) (hi : i < l.length) : (LM.getD i dQ).2.2 = (l.getD i (0, [])).2 := by
 have h1 := h.2 i hi
 rw [if_neg (by omega)] at h1
 exact congrArg Prod.snd h1
theorem set_at {LM : List FQ} {i : Nat} {x : FQ} (hi : i < LM.length) : (LM.set i x).getD i dQ = x := by simp [List.getD_eq_getElem?_getD, hi]
theorem MkP.set2 {k q : Int} {l : List (Int × List Int)} {LM : List FQ} {i : Nat} {v v2 : Value} {zs ys : List Int} (h : MkP k l LM i) (hi : i < l.length) (hq : q = k + (lenP l i : Int)) (hy : ys = markC (l.getD i (0, [])).2.length (q + 1)) : MkP k l ((LM.set i (q, v, zs)).set i (((LM.set i (q, v, zs)).getD i dQ).1, v2, ys)) (i + 1) := by
 have hil : i < LM.length := by rw [h.1]; exact hi
 rw [set_at hil, List.set_set]
 refine ⟨by rw [List.length_set]; exact h.1, fun j hj => ?_⟩
 by_cases hji : j = i
 ·subst hji
  rw [if_pos (by omega), set_at hil, kyQ, hy, hq]
 ·have h2 := h.2 j hj
  have e : (LM.set i (q, v2, ys)).getD j dQ = LM.getD j dQ := by
   simp [List.getD_eq_getElem?_getD, List.getElem?_set_ne (Ne.symm hji)]
  rw [e, h2]
  by_cases h3 : j < i
  ·rw [if_pos h3, if_pos (by omega)]
  ·rw [if_neg h3, if_neg (by omega)]
theorem nl_set {b : Nat} {LM : List FQ} {i : Nat} {q : Int} {zs : List Int} (h : NL b (nQ LM)) (hi : i < LM.length) : NL b (nQ (LM.set i (q, (LM.getD i dQ).2.1, zs))) := by
 have h1 := h.set i dQ.2 zs (by rw [nQ_len]; exact hi)
 rw [nQ_get hi] at h1
 rw [nQ_set]; exact h1
theorem nl_set2 {b : Nat} {LM : List FQ} {i : Nat} {q a : Int} {zs ys : List Int} (h : NL b (nQ LM)) (hi : i < LM.length) : NL b (nQ ((LM.set i (q, (LM.getD i dQ).2.1, zs)).set i (a, ((LM.set i (q, (LM.getD i dQ).2.1, zs)).getD i dQ).2.1, ys))) := nl_set (nl_set h hi) (by rw [List.length_set]; exact hi)
theorem now_set {k : Int} {l : List (Int × List Int)} {LM : List FQ} {i : Nat} {q : Int} {v : Value} (h : MkP k l LM i) (hi : i < l.length) : ((LM.set i (q, v, (LM.getD i dQ).2.2)).getD i dQ).2.2 = (l.getD i (0, [])).2 := by
 rw [set_at (by rw [h.1]; exact hi)]; exact h.now hi
theorem mkI_row {X Y : List Int} {k : Int} {i : Nat} (hX : X = Y) (hi : i = X.length) : markI X k i = markC Y.length k := by subst hX hi; exact markI_all _ _ _ rfl
def HdP (k : Int) (l : List (Int × List Int)) : Prop := ∀ j, j < l.length → l.getD j (0, []) = (k + (lenP l j : Int), markC (l.getD j (0, [])).2.length (k + (lenP l j : Int) + 1))
theorem MkP.all {k : Int} {l : List (Int × List Int)} {LM : List FQ} {i : Nat} (h : MkP k l LM i) (hi : l.length ≤ i) : HdP k (fQ LM) ∧ lenP (fQ LM) (fQ LM).length = lenP l l.length ∧ (fQ LM).length = l.length := by
 have hl : (fQ LM).length = l.length := by rw [fQ_len]; exact h.1
 have hg : ∀ j, j < l.length → (fQ LM).getD j (0, []) = (k + (lenP l j : Int), markC (l.getD j (0, [])).2.length (k + (lenP l j : Int) + 1)) := fun j hj => by
  rw [fQ_at (by rw [h.1]; exact hj), h.2 j hj, if_pos (by omega)]
 have hlen : ∀ j, ((fQ LM).getD j (0, [])).2.length = (l.getD j (0, [])).2.length := fun j => by
  rcases Nat.lt_or_ge j l.length with hj | hj
  ·rw [hg j hj]; exact markC_length _ _
  ·rw [List.getD_eq_getElem?_getD, List.getD_eq_getElem?_getD, List.getElem?_eq_none (by omega), List.getElem?_eq_none hj]
 have he := lenP_eq hlen
 refine ⟨fun j hj => ?_, by rw [hl, he], hl⟩
 rw [hl] at hj
 rw [hlen j, he j]
 exact hg j hj
theorem HdP.now {k : Int} {l : List (Int × List Int)} (h : HdP k l) {j : Nat} (hj : j < l.length) {q : Int} (hq : q = k + (lenP l j : Int)) : (l.getD j (0, [])).1 = q ∧ (l.getD j (0, [])).2 = markC (l.getD j (0, [])).2.length (q + 1) := by
 have h1 := h j hj
 rw [← hq] at h1
 exact ⟨congrArg Prod.fst h1, congrArg Prod.snd h1⟩
theorem rmF {n : Int} {xs : List Int} {L : List FQ} (h : fQ L = rmR n xs) : L.length = (rmR n xs).length ∧ (fQ L).length ≤ 1000000000 ∧ (∀ j : Nat, j < (fQ L).length → ((fQ L).getD j (0, [])).2.length ≤ 1000000000) := by
 have h1 := rmR_len (n := n) (xs := xs)
 have hl : L.length = (rmR n xs).length := by rw [← h, fQ_len]
 refine ⟨hl, by rw [h]; omega, fun j hj => ?_⟩
 rw [h] at hj ⊢
 have := h1.2.1 j hj
 omega
theorem pr_eq {x y : Int × List Int} (h1 : x.1 = y.1) (h2 : x.2 = y.2) : x = y := Prod.ext h1 h2
theorem RootedImages_s (n : Int) (xs : List Int) (lx : xs.length ≤ 1048576) : CallA Tryz.prog 6 [.agg [AI n, LI xs]] (.tup [ownA eP 29 2 (rmR n xs), AI (rmC n xs)]) := by
 refine CallA.of Tryz.func6 rfl (by kernel_rfl) (R.go 11 (k20 true (l16Is_c n xs (by first | omega | (simp <;> omega))) (R.go 3 (k25 (okPo n xs) (fun c1 => ?_) (fun c1 => ?_)))))
 ·have hP : okPo n xs = false := by assumption
  obtain ⟨hc1, hc2⟩ := rm_bad hP
  refine R.go 5 (R.nil 2 29 2 (by kernel_rfl) ?_)
  exact k23 (.tup [ownA eP 29 2 [], AI 1]) (by first | (rw [hc1, hc2]) | (exfalso; omega))
 refine R.go 7 (k9 (n > 5) (fun c2 => ?_) (fun c2 => ?_))
 ·have hP : okPo n xs = true := by assumption
  obtain ⟨hc1, hc2⟩ := rm_lim hP (by omega)
  refine R.go 5 (R.nil 2 29 2 (by kernel_rfl) ?_)
  exact k23 (.tup [ownA eP 29 2 [], AI 3]) (by first | (rw [hc1, hc2]) | (exfalso; omega))
 have hP : okPo n xs = true := by assumption
 obtain ⟨hc1, hc2⟩ := rm_ok hP (by omega)
 refine R.go 5 (k20 true (l21Rooted_c n xs hP) ?_)
 exact R.go 3 (k23 (.tup [ownA eP 29 2 (frP (riR n xs)), AI 0]) (by first | (rw [hc1, hc2]) | (exfalso; omega)))
theorem eqPosetB_c (n : Int) (xs : List Int) (m : Int) (ys : List Int) (la : xs.length ≤ 1000000000) : CallA Tryz.prog 10 [.agg [AI n, LI xs], .agg [AI m, LI ys]] (.bool (decide (n = m ∧ xs = ys))) := by
 refine CallA.of Tryz.func10 rfl (by kernel_rfl) (R.go 15 (k10 (n = m) (fun c1 => ?_) (fun c1 => ?_)))
 ·exact R.go 4 (k23 (.bool false) (by first | (apply congrArg AV.bool; symm; first | exact decide_eq_true ⟨by assumption, by assumption⟩ | exact decide_eq_false (fun h => (by assumption : ¬ n = m) h.1) | exact decide_eq_false (fun h => (by assumption : ¬ xs = ys) h.2)) | (exfalso; omega)))
 refine R.go 8 (k20 true (eqInt64S_c xs ys la) (R.go 2 (k10 (xs = ys) (fun c2 => ?_) (fun c2 => ?_))))
 ·exact R.go 4 (k23 (.bool false) (by first | (apply congrArg AV.bool; symm; first | exact decide_eq_true ⟨by assumption, by assumption⟩ | exact decide_eq_false (fun h => (by assumption : ¬ n = m) h.1) | exact decide_eq_false (fun h => (by assumption : ¬ xs = ys) h.2)) | (exfalso; omega)))
 exact R.go 5 (k23 (.bool true) (by first | (apply congrArg AV.bool; symm; first | exact decide_eq_true ⟨by assumption, by assumption⟩ | exact decide_eq_false (fun h => (by assumption : ¬ n = m) h.1) | exact decide_eq_false (fun h => (by assumption : ¬ xs = ys) h.2)) | (exfalso; omega)))
theorem eqPosetS_c (a b : List (Int × List Int)) (la : a.length ≤ 1000000000) (lb : ∀ j : Nat, j < a.length → (a.getD j (0, [])).2.length ≤ 1000000000) : CallA Tryz.prog 9 [lstA eP 2 a, lstA eP 2 b] (.bool (decide (a = b))) := by
 refine CallA.of Tryz.func9 rfl (by kernel_rfl) (R.go 13 (k10 ((a.length : Int) = (b.length : Int)) (fun c1 => ?_) (fun c1 => ?_)))
 ·exact R.go 4 (k23 (.bool false) (by first | (first | (rw [dF (fun h => by subst h; omega)]) | (rw [dT (take_all (i := i) (by omega) (by omega) (by assumption))]) | (rw [dF (fun h => by subst h; exact (by assumption : ¬ (_ ∧ _)) ⟨rfl, rfl⟩)])) | (exfalso; omega)))
 refine R.go 7 (k21 (fun (i : Nat) => (⟨(frm 27 [(0, lstA eP 2 a), (1, lstA eP 2 b), (5, AI (i : Int))]), []⟩ : St)) (fun (i : Nat) => (i ≤ a.length) ∧ (a.take i = b.take i)) (fun (i : Nat) => a.length - i) 0 [0, 1, 5] none ⟨(by omega), (by rfl)⟩ ?_)
 rintro i ⟨h4_1, h4_2⟩ R2 N3
 refine R.go 8 (k9 ((i : Int) < (a.length : Int)) (fun c5 => ?_) (fun c5 => ?_))
 ·have hgl := lb i (by omega)
  refine R.go 7 (k15 eP a (0, []) i (i : Int) eP_len (R.go 3 (k15 eP b (0, []) i (i : Int) eP_len (R.go 1 (k20 true (eqPosetB_c ((a.getD i (0, [])).1) ((a.getD i (0, [])).2) ((b.getD i (0, [])).1) ((b.getD i (0, [])).2) (by first | omega | (simp <;> omega))) (R.go 2 (k10 (((a.getD i (0, [])).1) = ((b.getD i (0, [])).1) ∧ ((a.getD i (0, [])).2) = ((b.getD i (0, [])).2)) (fun c6 => ?_) (fun c6 => ?_))))))))
  ·exact R.go 4 (k23 (.bool false) (by first | (first | (rw [dF (fun h => by subst h; omega)]) | (rw [dT (take_all (i := i) (by omega) (by omega) (by assumption))]) | (rw [dF (fun h => by subst h; exact (by assumption : ¬ (_ ∧ _)) ⟨rfl, rfl⟩)])) | (exfalso; omega)))
  refine R.go 4 (k8 ((i : Int) + 1) ?_)
  exact R.go 2 (k22 R2 (N3 (i + 1) [0, 1, 5] none _ (by kernel_rfl) (by kernel_rfl) ⟨(by omega), (by exact take_step a b (0, []) i (by omega) (by omega) (by assumption) (pr_eq (by assumption : _ ∧ _).1 (by assumption : _ ∧ _).2))⟩ (by show (a.length - (i + 1)) < (a.length - i); omega)))
 exact R.go 5 (k23 (.bool true) (by first | (first | (rw [dF (fun h => by subst h; omega)]) | (rw [dT (take_all (i := i) (by omega) (by omega) (by assumption))]) | (rw [dF (fun h => by subst h; exact (by assumption : ¬ (_ ∧ _)) ⟨rfl, rfl⟩)])) | (exfalso; omega)))
theorem heldPosetS_c (l : List (Int × List Int)) (k : Int) (lx : l.length ≤ 1000000) (hk : 0 ≤ k ∧ k + (lenP l l.length : Int) ≤ 900000) (hx : HdP k l) : CallA Tryz.prog 13 [lstA eP 2 l, AI k] (AI (k + (lenP l l.length : Int))) := by
 refine CallA.of Tryz.func13 rfl (by kernel_rfl) (R.go 10 (k21 ((fun | (i, q) => (⟨(frm 31 [(0, lstA eP 2 l), (1, AI q), (5, AI (i : Int))]), []⟩ : St) : Nat × Int → St)) (fun | (i, q) => (i ≤ l.length) ∧ (q = k + (lenP l i : Int))) (fun | (i, q) => l.length - i) (0, k) [0, 1, 5] none ⟨(by omega), (by simp [lenP])⟩ ?_))
 rintro ⟨i, q⟩ ⟨h4_1, rfl⟩ R1 N2
 refine R.go 8 (k9 ((i : Int) < (l.length : Int)) (fun c5 => ?_) (fun c5 => ?_))
 ·have hs := lenP_step l i (by omega)
  have he1 : (l.getD i (0, [])).1 = (k + (lenP l i : Int)) := (hx.now (j := i) (by omega) rfl).1
  have he2 := (hx.now (j := i) (by omega) rfl).2
  refine R.go 8 (k15 eP l (0, []) i (i : Int) eP_len (R.go 5 (k10 (((l.getD i (0, [])).1) = (k + (lenP l i : Int))) (fun c6 => ?_) (fun c6 => ?_))))
  ·exact R.go 4 (k23 (AI (-1)) (by first | (first | (rw [show i = l.length by omega]) | (exfalso; have := lenP_step l i (by omega); omega)) | (exfalso; omega)))
  refine R.go 4 (k8 ((k + (lenP l i : Int)) + 1) (R.go 6 (k15 eP l (0, []) i (i : Int) eP_len (R.go 3 (k20 true (heldInt64S_c ((l.getD i (0, [])).2) ((k + (lenP l i : Int)) + 1) (by first | omega | (simp <;> omega)) (by omega) (by assumption)) (R.go 7 (k9 ((((k + (lenP l i : Int)) + 1) + (((l.getD i (0, [])).2).length : Int)) < 0) (fun c7 => ?_) (fun c7 => ?_))))))))
  ·exact R.go 4 (k23 (AI (-1)) (by first | (first | (rw [show i = l.length by omega]) | (exfalso; have := lenP_step l i (by omega); omega)) | (exfalso; omega)))
  refine R.go 4 (k8 ((i : Int) + 1) ?_)
  exact R.go 2 (k22 R1 (N2 (i + 1, ((k + (lenP l i : Int)) + 1) + (((l.getD i (0, [])).2).length : Int)) [0, 1, 5] none _ (by kernel_rfl) (by kernel_rfl) ⟨(by omega), (by rw [lenP]; omega)⟩ (by show (l.length - (i + 1)) < (l.length - i); omega)))
 exact R.go 6 (k23 (AI (k + (lenP l i : Int))) (by first | (first | (rw [show i = l.length by omega]) | (exfalso; have := lenP_step l i (by omega); omega)) | (exfalso; omega)))
end Go.Proofs.YtehbliocfpppoaaGreat

/-! The law of RootedImages. -/
namespace Go.Proofs.YtehbliocfpppoaaGreat
open Go.RowKit Go.Abs
set_option maxHeartbeats 4000000 in
theorem lawRootedImages_inE (n : Int) (xs : List Int) (uo : Value) (co : List AV) (hco : ByN (.nam uo none 1 xs.length co) (LI xs)) (hl : xs.length ≤ 1048576) : CallE Tryz.prog 3 [.agg [AI n, .nam uo none 1 xs.length co]] (fun (b : Nat) (r : AV) => r = .bool true) := by
 have hrl := rmR_len (n := n) (xs := xs)
 have hrl1 := hrl.1
 have hrl3 := hrl.2.2
 refine CallE.of Tryz.func3 rfl (by kernel_rfl) (fun b => (R.go 13 (R.callW (avs0 := [.agg [AI n, .nam uo none 1 xs.length co], AI 1048576]) (szPoset_c n xs 1048576 (by omega) (by first | omega | (simp <;> omega))) (by kernel_rfl) (.cons (.agg (.cons (.leaf rfl) (.cons (.wk (.leaf hco.leafy) hco.fgt) (.nil)))) (.cons (.leaf rfl) (.nil))) rfl (by kernel_rfl) (R.go 8 (k9 (((1048576 : Int) - xs.length) < 0) (fun c1 => ?_) (fun c1 => ?_))))))
 ·exact R.go 4 (k32 (.bool true) (rfl))
 refine R.go 4 (R.callW (avs0 := [.agg [AI n, .nam uo none 1 xs.length co]]) (toPoset_c n xs hl) (by kernel_rfl) (.cons (.agg (.cons (.leaf rfl) (.cons (.wk (.leaf hco.leafy) hco.fgt) (.nil)))) (.nil)) (by simp [AV.closed, closedL, AI, ownA_closed eI_closed]) (by kernel_rfl) (k24 2 (k20 true (RootedImages_s n xs hl) (R.go 3 (k24 3 (R.go 5 (R.nameS 4 2 (rmR n xs).length (rows eP (rmR n xs)) (by kernel_rfl) (by kernel_rfl) (nameable_LP _) ?_)))))))
 intro uo2 co3 ho4
 refine R.go 1 (R.callW (avs0 := [.agg [AI n, .nam uo none 1 xs.length co]]) (toPoset_c n xs hl) (by kernel_rfl) (.cons (.agg (.cons (.leaf rfl) (.cons (.wk (.leaf hco.leafy) hco.fgt) (.nil)))) (.nil)) (by simp [AV.closed, closedL, AI, ownA_closed eI_closed]) (by kernel_rfl) (R.go 6 (R.callE (avs0 := [.agg [AI n, .ref 4]]) (RootedImages_c n xs hl) (by kernel_rfl) (.cons (.agg (.cons (.leaf rfl) (.cons (.ref (e := 2) (s := 1) (n := xs.length) (cs := rows eI xs) (by kernel_rfl)) (.nil)))) (.nil)) (RootedImages_c_cl n xs) (by kernel_rfl) ?_)))
 intro bE1 hbn5 hsn6 rn7 hrn8
 obtain ⟨LE1, rfl, heE1_1, heE1_2⟩ := hrn8
 have hbb9 : b ≤ bE1 := hbn5 0 b (by kernel_rfl)
 have hsf10 : ∀ v, (∀ g, blk v = some g → bE1 ≤ g) → Go.Abs.Safe v (.nam uo none 1 xs.length co) := fun v hv => safe_old hco (fun u hu => hsn6 u (inS_slot 0 (c := .agg [AI n, .nam uo none 1 xs.length co]) (by kernel_rfl) (by simp [InN, InNL] at hu ⊢; simp [hu]))) hv
 have hsf11 : ∀ v, (∀ g, blk v = some g → bE1 ≤ g) → Go.Abs.Safe v (.nam uo2 none 2 (rmR n xs).length co3) := fun v hv => safe_old ho4 (fun u hu => hsn6 u (inS_slot 4 (c := .nam uo2 none 2 (rmR n xs).length co3) (by kernel_rfl) hu)) hv
 clear hbn5 hsn6
 have hq1 : (fQ LE1) = (rmR n xs) := heE1_2
 have hv1 := rmF heE1_2
 have hv1a := hv1.2.1
 have hv1b : ∀ j : Nat, j < (fQ LE1).length → ((fQ LE1).getD j (0, [])).2.length ≤ 1000000000 := hv1.2.2
 refine R.go 11 (R.callW (avs0 := [.ref 6, .nam uo2 none 2 (rmR n xs).length co3]) (eqPosetS_c (fQ LE1) (rmR n xs) (by first | omega | (simp <;> omega)) hv1b) (by kernel_rfl) (.cons (.wk (.ref (e := 29) (s := 2) (n := LE1.length) (cs := rows (eQ eI 2 1) LE1) (by kernel_rfl)) (fgtQ (E' := eP) (fun _ => rfl) _)) (.cons (.wk (.leaf ho4.leafy) ho4.fgt) (.nil))) rfl (by kernel_rfl) (R.go 2 (k12 false (nF hq1) ?_)))
 iterate 2 refine R.go 1 (k12 false (nF hq1) ?_)
 refine R.go 1 (k14 false (nF hq1) (R.go 1 (k11 (nF rfl) ?_ (b := (!decide ((rmC n xs) = (rmC n xs)))))))
 refine R.go 3 (R.meet (⟨(frm 96 [(0, .agg [AI n, .nam uo none 1 xs.length co]), (1, .ptr 1 0), (2, .bool false), (3, AI ((1048576 : Int) - xs.length)), (4, .nam uo2 none 2 (rmR n xs).length co3), (5, AI (rmC n xs)), (6, .ptr 5 0), (7, .ref 6), (8, AI (rmC n xs)), (14, .agg [AI n, .nam uo none 1 xs.length co]), (15, AI 1048576), (16, AI ((1048576 : Int) - xs.length)), (17, AI ((1048576 : Int) - xs.length)), (18, .bool (decide (((1048576 : Int) - xs.length) < 0))), (19, .tup [lstA eP 2 (rmR n xs), AI (rmC n xs)]), (20, .agg [AI n, .nam uo none 1 xs.length co]), (21, .agg [AI n, LI xs]), (22, .tup [lstA eP 2 (rmR n xs), AI (rmC n xs)]), (23, lstA eP 2 (rmR n xs)), (24, AI (rmC n xs)), (25, .agg [AI n, .nam uo none 1 xs.length co]), (26, .agg [AI n, .ref 4]), (27, .tup [.ref 6, AI (rmC n xs)]), (28, .agg [AI n, .ref 4]), (29, .tup [.ref 6, AI (rmC n xs)]), (30, .ref 6), (31, AI (rmC n xs)), (32, .ref 6), (33, .nam uo2 none 2 (rmR n xs).length co3), (34, .bool (decide ((fQ LE1) = (rmR n xs)))), (35, .bool (!decide ((fQ LE1) = (rmR n xs)))), (36, .bool (!decide ((fQ LE1) = (rmR n xs)))), (37, AI (rmC n xs)), (38, AI (rmC n xs)), (39, .bool (!decide ((rmC n xs) = (rmC n xs)))), (40, .bool (!decide ((rmC n xs) = (rmC n xs)))), (41, .agg [AI n, .ref 4]), (42, .agg [AI n, .nam uo none 1 xs.length co]), (43, .agg [AI n, .ref 7]), (44, .bool true), (45, .bool false)]), [.inert (.base b), .box 24 [AI n, .nam uo none 1 xs.length co], .dead, .dead, rowA eI 2 1 xs, .box 29 [AI n, .ref 4], rowA (eQ eI 2 1) 29 2 LE1, rowA eI 2 1 xs]⟩ : St) (by kernel_rfl) ?_ ?_)
 ·refine R.any (by decide +kernel) (by kernel_rfl) (k28 0 1 ?_ ?_)
  ·refine R.go 2 (k27 1 (R.go 2 (k27 2 (R.callW (avs0 := [.agg [AI n, .nam uo none 1 xs.length co]]) (toPoset_c n xs hl) (by kernel_rfl) (.cons (.agg (.cons (.leaf rfl) (.cons (.wk (.leaf hco.leafy) hco.fgt) (.nil)))) (.nil)) (by simp [AV.closed, closedL, AI, ownA_closed eI_closed]) (by kernel_rfl) (R.go 1 (k27 3 (k20 false (eqPoset_c n xs (by first | omega | (simp <;> omega))) (R.go 1 (k27 4 (R.go 2 (k26 ?_)))))))))))
   exact k31
  refine R.go 2 (k28 0 2 ?_ ?_)
  ·refine R.go 2 (k27 2 (R.callW (avs0 := [.agg [AI n, .nam uo none 1 xs.length co]]) (toPoset_c n xs hl) (by kernel_rfl) (.cons (.agg (.cons (.leaf rfl) (.cons (.wk (.leaf hco.leafy) hco.fgt) (.nil)))) (.nil)) (by simp [AV.closed, closedL, AI, ownA_closed eI_closed]) (by kernel_rfl) (R.go 1 (k27 3 (k20 false (eqPoset_c n xs (by first | omega | (simp <;> omega))) (R.go 1 (k27 4 (R.go 2 (k26 ?_)))))))))
   exact k31
  refine R.callW (avs0 := [.agg [AI n, .nam uo none 1 xs.length co]]) (toPoset_c n xs hl) (by kernel_rfl) (.cons (.agg (.cons (.leaf rfl) (.cons (.wk (.leaf hco.leafy) hco.fgt) (.nil)))) (.nil)) (by simp [AV.closed, closedL, AI, ownA_closed eI_closed]) (by kernel_rfl) (R.go 1 (k27 0 (R.go 2 (k27 3 (k20 false (eqPoset_c n xs (by first | omega | (simp <;> omega))) (R.go 1 (k27 4 (R.go 2 (k26 ?_)))))))))
  exact k31
 refine R.go 10 (R.enter (avs := [.agg [AI n, .ref 4], AI 1]) Tryz.func11 rfl (by kernel_rfl) (by kernel_rfl) (by kernel_rfl) ?_)
 intro us12
 refine R.go 10 (R.enter (avs := [.ref 4, AI 1]) Tryz.func43 rfl (by kernel_rfl) (by kernel_rfl) (by kernel_rfl) ?_)
 intro us13
 refine R.go 10 (k21 ((fun | (i1, ys1, q1) => (⟨(frm 19 [(0, .ref 4), (1, AI q1), (5, AI (i1 : Int))]), [.inert (.base b), .box 24 [AI n, .nam uo none 1 xs.length co], .dead, .dead, rowA eI 2 1 ys1, .box 29 [AI n, .ref 4], rowA (eQ eI 2 1) 29 2 LE1, rowA eI 2 1 xs, .frame us12 (frm 96 [(0, .agg [AI n, .nam uo none 1 xs.length co]), (1, .ptr 1 0), (2, .bool false), (3, AI ((1048576 : Int) - xs.length)), (4, .nam uo2 none 2 (rmR n xs).length co3), (5, AI (rmC n xs)), (6, .ptr 5 0), (7, .ref 6), (8, AI (rmC n xs)), (9, AI 1), (14, .agg [AI n, .nam uo none 1 xs.length co]), (15, AI 1048576), (16, AI ((1048576 : Int) - xs.length)), (17, AI ((1048576 : Int) - xs.length)), (18, .bool (decide (((1048576 : Int) - xs.length) < 0))), (19, .tup [lstA eP 2 (rmR n xs), AI (rmC n xs)]), (20, .agg [AI n, .nam uo none 1 xs.length co]), (21, .agg [AI n, LI xs]), (22, .tup [lstA eP 2 (rmR n xs), AI (rmC n xs)]), (23, lstA eP 2 (rmR n xs)), (24, AI (rmC n xs)), (25, .agg [AI n, .nam uo none 1 xs.length co]), (26, .agg [AI n, .ref 4]), (27, .tup [.ref 6, AI (rmC n xs)]), (28, .agg [AI n, .ref 4]), (29, .tup [.ref 6, AI (rmC n xs)]), (30, .ref 6), (31, AI (rmC n xs)), (32, .ref 6), (33, .nam uo2 none 2 (rmR n xs).length co3), (34, .bool (decide ((fQ LE1) = (rmR n xs)))), (35, .bool (!decide ((fQ LE1) = (rmR n xs)))), (36, .bool (!decide ((fQ LE1) = (rmR n xs)))), (37, AI (rmC n xs)), (38, AI (rmC n xs)), (39, .bool (!decide ((rmC n xs) = (rmC n xs)))), (40, .bool (!decide ((rmC n xs) = (rmC n xs)))), (41, .agg [AI n, .ref 4]), (42, .agg [AI n, .nam uo none 1 xs.length co]), (43, .agg [AI n, .ref 7]), (44, .bool true), (45, .bool false), (46, .agg [AI n, .ref 4]), (47, AI 1)]), .box 29 [AI n, .ref 4], .frame us13 (frm 10 [(0, .agg [AI n, .ref 4]), (1, AI 1), (2, .ptr 9 0), (4, AI 0), (5, .ptr 9 1), (6, .ref 4), (7, AI 1)])]⟩ : St) : Nat × (List Int) × Int → St)) (fun | (i1, ys1, q1) => (i1 ≤ xs.length) ∧ (ys1 = markI xs 1 i1) ∧ (q1 = 1 + (i1 : Int))) (fun | (i1, ys1, q1) => xs.length - i1) (0, xs, 1) [0, 1, 5] none ⟨(by omega), (by exact markI_zero _ _), (by simp)⟩ ?_)
 rintro ⟨i1, ys1, q1⟩ ⟨h17_1, rfl, rfl⟩ R14 N15
 have hl1 : (markI xs 1 i1).length = xs.length := markI_length _ _ _ (by assumption)
 refine R.go 8 (k9 ((i1 : Int) < ((markI xs 1 i1).length : Int)) (fun c18 => ?_) (fun c18 => ?_))
 ·refine R.go 8 (k16 4 1 (markI xs 1 i1).length i1 (i1 : Int) (k18 4 2 (markI xs 1 i1) i1 (1 + (i1 : Int)) (R.go 3 (k8 ((1 + (i1 : Int)) + 1) (R.go 5 (k8 ((i1 : Int) + 1) ?_))))))
  exact R.go 2 (k22 R14 (N15 (i1 + 1, (markI xs 1 i1).set i1 (1 + (i1 : Int)), (1 + (i1 : Int)) + 1) [0, 1, 5] none _ (by kernel_rfl) (by kernel_rfl) ⟨(by omega), (by exact markI_set _ _ _ (by omega) _ (by omega)), (by omega)⟩ (by show (xs.length - (i1 + 1)) < (xs.length - i1); omega)))
 refine R.go 6 (R.back (AI (1 + (i1 : Int))) (frm 10 [(0, .agg [AI n, .ref 4]), (1, AI 1), (2, .ptr 9 0), (4, AI 0), (5, .ptr 9 1), (6, .ref 4), (7, AI 1)]) (by kernel_rfl) (by kernel_rfl) (by kernel_rfl) (R.go 7 (R.back (AI (1 + (i1 : Int))) (frm 96 [(0, .agg [AI n, .nam uo none 1 xs.length co]), (1, .ptr 1 0), (2, .bool false), (3, AI ((1048576 : Int) - xs.length)), (4, .nam uo2 none 2 (rmR n xs).length co3), (5, AI (rmC n xs)), (6, .ptr 5 0), (7, .ref 6), (8, AI (rmC n xs)), (9, AI 1), (14, .agg [AI n, .nam uo none 1 xs.length co]), (15, AI 1048576), (16, AI ((1048576 : Int) - xs.length)), (17, AI ((1048576 : Int) - xs.length)), (18, .bool (decide (((1048576 : Int) - xs.length) < 0))), (19, .tup [lstA eP 2 (rmR n xs), AI (rmC n xs)]), (20, .agg [AI n, .nam uo none 1 xs.length co]), (21, .agg [AI n, LI xs]), (22, .tup [lstA eP 2 (rmR n xs), AI (rmC n xs)]), (23, lstA eP 2 (rmR n xs)), (24, AI (rmC n xs)), (25, .agg [AI n, .nam uo none 1 xs.length co]), (26, .agg [AI n, .ref 4]), (27, .tup [.ref 6, AI (rmC n xs)]), (28, .agg [AI n, .ref 4]), (29, .tup [.ref 6, AI (rmC n xs)]), (30, .ref 6), (31, AI (rmC n xs)), (32, .ref 6), (33, .nam uo2 none 2 (rmR n xs).length co3), (34, .bool (decide ((fQ LE1) = (rmR n xs)))), (35, .bool (!decide ((fQ LE1) = (rmR n xs)))), (36, .bool (!decide ((fQ LE1) = (rmR n xs)))), (37, AI (rmC n xs)), (38, AI (rmC n xs)), (39, .bool (!decide ((rmC n xs) = (rmC n xs)))), (40, .bool (!decide ((rmC n xs) = (rmC n xs)))), (41, .agg [AI n, .ref 4]), (42, .agg [AI n, .nam uo none 1 xs.length co]), (43, .agg [AI n, .ref 7]), (44, .bool true), (45, .bool false), (46, .agg [AI n, .ref 4]), (47, AI 1)]) (by kernel_rfl) (by kernel_rfl) (by kernel_rfl) (R.go 8 ?_))))
 by_cases c19 : (1 + (i1 : Int)) < 0
 ·refine k13 false (dT c19) ?_
  iterate 3 refine k13 false (dT c19) ?_
  refine k14 true (dT c19) ?_
  exact R.go 11 (k32 (.bool false) (by first | rfl | (rfl) | (exfalso; omega)))
 refine k12 false (dF c19) ?_
 iterate 2 refine R.go 1 (k12 false (dF c19) ?_)
 refine R.callW (avs0 := [.ref 6, .nam uo2 none 2 (rmR n xs).length co3]) (eqPosetS_c (fQ LE1) (rmR n xs) (by first | omega | (simp <;> omega)) hv1b) (by kernel_rfl) (.cons (.wk (.ref (e := 29) (s := 2) (n := LE1.length) (cs := rows (eQ eI 2 1) LE1) (by kernel_rfl)) (fgtQ (E' := eP) (fun _ => rfl) _)) (.cons (.wk (.leaf ho4.leafy) ho4.fgt) (.nil))) rfl (by kernel_rfl) (k12 false (dF c19) (R.go 1 (k14 false (dF c19) ?_)))
 iterate 3 refine R.go 1 (k12 false (nF hq1) ?_)
 refine R.go 1 (k14 false (nF hq1) (R.go 1 (k11 (nF rfl) ?_ (b := (!decide ((rmC n xs) = (rmC n xs)))))))
 refine R.go 9 (R.keepS [1, 4, 5, 7, 10, 62, 63] (by kernel_rfl) (R.enter (avs := [.ref 6, AI 1]) Tryz.func12 rfl (by kernel_rfl) (by kernel_rfl) (by kernel_rfl) ?_))
 intro us20
 refine R.go 10 (k21 ((fun | (iv, LM, qv2) => (⟨(frm 27 [(0, .ref 6), (1, AI qv2), (5, AI (iv : Int))]), [.inert (.base b), .box 24 [AI n, .nam uo none 1 xs.length co], .dead, .dead, rowA eI 2 1 (markI xs 1 i1), .box 29 [AI n, .ref 4], rowA (eQ eI 2 1) 29 2 LM, rowA eI 2 1 xs, .dead, .box 29 [AI n, .ref 4], .dead, .frame us20 (frm 96 [(1, .ptr 1 0), (4, .nam uo2 none 2 (rmR n xs).length co3), (5, AI (rmC n xs)), (7, .ref 6), (10, AI 1), (62, .ref 6), (63, AI 1)])]⟩ : St) : Nat × (List FQ) × Int → St)) (fun | (iv, LM, qv2) => (iv ≤ (rmR n xs).length) ∧ (NL bE1 (nQ LM)) ∧ (MkP 1 (rmR n xs) LM iv) ∧ (qv2 = 1 + (lenP (rmR n xs) iv : Int))) (fun | (iv, LM, qv2) => (rmR n xs).length - iv) (0, LE1, 1) [0, 1, 5] none ⟨(by omega), (by assumption), (by exact MkP.zero (by assumption)), (by simp [lenP])⟩ ?_)
 rintro ⟨iv, LM, qv2⟩ ⟨h24_1, h24_2, h24_3, h24_4⟩ R21 N22
 have hml2 : LM.length = (rmR n xs).length := (‹MkP 1 (rmR n xs) LM iv›).1
 refine R.go 8 (k9 ((iv : Int) < (LM.length : Int)) (fun c25 => ?_) (fun c25 => ?_))
 ·have hst2 := lenP_step (rmR n xs) iv (by omega)
  refine R.go 8 (k16 6 2 LM.length iv (iv : Int) (R.go 1 (R.stF (eQ eI 2 1) 6 29 2 LM (0, .bool false, []) iv 0 (AI qv2) (qv2, (LM.getD iv (0, .bool false, [])).2.1, (LM.getD iv (0, .bool false, [])).2.2) (by kernel_rfl) eQ_len (by omega) (by decide) rfl (by kernel_rfl) (R.go 4 (k8 (qv2 + 1) ?_)))))
  have hnow2 : ((LM.set iv (qv2, (LM.getD iv (0, .bool false, [])).2.1, (LM.getD iv (0, .bool false, [])).2.2)).getD iv (0, .bool false, [])).2.2 = ((rmR n xs).getD iv (0, [])).2 := now_set (‹MkP 1 (rmR n xs) LM iv›) (by omega)
  have hxl2 : ((LM.set iv (qv2, (LM.getD iv (0, .bool false, [])).2.1, (LM.getD iv (0, .bool false, [])).2.2)).getD iv (0, .bool false, [])).2.2.length = ((rmR n xs).getD iv (0, [])).2.length := by rw [hnow2]
  have hls2 : (LM.set iv (qv2, (LM.getD iv (0, .bool false, [])).2.1, (LM.getD iv (0, .bool false, [])).2.2)).length = LM.length := List.length_set
  have hnl : NL bE1 (nQ (LM.set iv (qv2, (LM.getD iv (0, .bool false, [])).2.1, (LM.getD iv (0, .bool false, [])).2.2))) := nl_set (by assumption) (by omega)
  refine R.go 5 (k16 6 2 (LM.set iv (qv2, (LM.getD iv (0, .bool false, [])).2.1, (LM.getD iv (0, .bool false, [])).2.2)).length iv (iv : Int) ?_ (hj := by first | omega | (simp only [List.length_set]; omega) | (simp <;> omega)))
  refine R.go 1 (R.ldE (eQ eI 2 1) 2 1 (LM.set iv (qv2, (LM.getD iv (0, .bool false, [])).2.1, (LM.getD iv (0, .bool false, [])).2.2)) (0, .bool false, []) iv (.nam (((LM.set iv (qv2, (LM.getD iv (0, .bool false, [])).2.1, (LM.getD iv (0, .bool false, [])).2.2)).getD iv (0, .bool false, [])).2.1) (some 2) 1 (((LM.set iv (qv2, (LM.getD iv (0, .bool false, [])).2.1, (LM.getD iv (0, .bool false, [])).2.2)).getD iv (0, .bool false, [])).2.2).length (rows eI (((LM.set iv (qv2, (LM.getD iv (0, .bool false, [])).2.1, (LM.getD iv (0, .bool false, [])).2.2)).getD iv (0, .bool false, [])).2.2))) (by kernel_rfl) eQ_len (by first | omega | (simp only [List.length_set]; omega) | (simp <;> omega)) rfl (by kernel_rfl) (R.go 1 (R.keepS [0, 1, 5, 23, 24] (by kernel_rfl) ?_)))
  have hg26 : ∀ g, blk ((LM.set iv (qv2, (LM.getD iv (0, .bool false, [])).2.1, (LM.getD iv (0, .bool false, [])).2.2)).getD iv (0, .bool false, [])).2.1 = some g → bE1 ≤ g := by have h9 := hnl.at (.bool false, []) (i := iv) (by rw [nQ_len]; omega); rwa [nQ_get (d := (0, .bool false, [])) (by omega)] at h9
  refine R.thawQ eI 2 1 29 (LM.set iv (qv2, (LM.getD iv (0, .bool false, [])).2.1, (LM.getD iv (0, .bool false, [])).2.2)) iv (0, .bool false, []) 6 23 0 b (frm 27 [(0, .ref 6), (1, AI (qv2 + 1)), (5, AI (iv : Int)), (24, AI (qv2 + 1))]) [.inert (.base b), .box 24 [AI n, .nam uo none 1 xs.length co], .dead, .dead, rowA eI 2 1 (markI xs 1 i1), .box 29 [AI n, .ref 4], .dead, rowA eI 2 1 xs, .dead, .box 29 [AI n, .ref 4], .dead, .frame us20 (frm 96 [(1, .ptr 1 0), (4, .nam uo2 none 2 (rmR n xs).length co3), (5, AI (rmC n xs)), (7, .ref 6), (10, AI 1), (62, .ref 6), (63, AI 1)])] (by kernel_rfl) (by kernel_rfl) (by omega) (hnl.mono hbb9) eI_closed (by kernel_rfl) (by kernel_rfl) (by kernel_rfl) (by kernel_rfl) (safe_frm (List.forall_mem_cons.2 ⟨safe_ref, (List.forall_mem_cons.2 ⟨safe_int, (List.forall_mem_cons.2 ⟨safe_int, (List.forall_mem_cons.2 ⟨safe_int, (fun x h => absurd h (List.not_mem_nil))⟩)⟩)⟩)⟩)) (List.forall_mem_cons.2 ⟨trivial, (List.forall_mem_cons.2 ⟨(safeL_cons.2 ⟨safe_int, (safeL_cons.2 ⟨(hsf10 _ hg26), safeL_nil⟩)⟩), (List.forall_mem_cons.2 ⟨trivial, (List.forall_mem_cons.2 ⟨trivial, (List.forall_mem_cons.2 ⟨(safe_rows eI_closed _), (List.forall_mem_cons.2 ⟨(safeL_cons.2 ⟨safe_int, (safeL_cons.2 ⟨safe_ref, safeL_nil⟩)⟩), (List.forall_mem_cons.2 ⟨trivial, (List.forall_mem_cons.2 ⟨(safe_rows eI_closed _), (List.forall_mem_cons.2 ⟨trivial, (List.forall_mem_cons.2 ⟨(safeL_cons.2 ⟨safe_int, (safeL_cons.2 ⟨safe_ref, safeL_nil⟩)⟩), (List.forall_mem_cons.2 ⟨trivial, (List.forall_mem_cons.2 ⟨(safe_frm (List.forall_mem_cons.2 ⟨safe_ptr, (List.forall_mem_cons.2 ⟨(hsf11 _ hg26), (List.forall_mem_cons.2 ⟨safe_int, (List.forall_mem_cons.2 ⟨safe_ref, (List.forall_mem_cons.2 ⟨safe_int, (List.forall_mem_cons.2 ⟨safe_ref, (List.forall_mem_cons.2 ⟨safe_int, (fun x h => absurd h (List.not_mem_nil))⟩)⟩)⟩)⟩)⟩)⟩)⟩)), (fun x h => absurd h (List.not_mem_nil))⟩)⟩)⟩)⟩)⟩)⟩)⟩)⟩)⟩)⟩)⟩)⟩) (R.enter (avs := [.ref 12, AI (qv2 + 1)]) Tryz.func43 rfl (by kernel_rfl) (by kernel_rfl) (by kernel_rfl) ?_)
  intro us27
  refine R.go 10 (k21 ((fun | (i2, ys2, q2) => (⟨(frm 19 [(0, .ref 12), (1, AI q2), (5, AI (i2 : Int))]), [.inert (.base b), .box 24 [AI n, .nam uo none 1 xs.length co], .dead, .dead, rowA eI 2 1 (markI xs 1 i1), .box 29 [AI n, .ref 4], weakRowQ eI 2 1 29 (LM.set iv (qv2, (LM.getD iv (0, .bool false, [])).2.1, (LM.getD iv (0, .bool false, [])).2.2)) iv (0, .bool false, []), rowA eI 2 1 xs, .dead, .box 29 [AI n, .ref 4], .dead, .frame us20 (frm 96 [(1, .ptr 1 0), (4, .nam uo2 none 2 (rmR n xs).length co3), (5, AI (rmC n xs)), (7, .ref 6), (10, AI 1), (62, .ref 6), (63, AI 1)]), rowA eI 2 1 ys2, .frame [((LM.set iv (qv2, (LM.getD iv (0, .bool false, [])).2.1, (LM.getD iv (0, .bool false, [])).2.2)).getD iv (0, .bool false, [])).2.1] [.ref 12], .frame us27 (frm 27 [(0, .ref 6), (1, AI (qv2 + 1)), (5, AI (iv : Int)), (23, .ref 12), (24, AI (qv2 + 1))])]⟩ : St) : Nat × (List Int) × Int → St)) (fun | (i2, ys2, q2) => (i2 ≤ (((LM.set iv (qv2, (LM.getD iv (0, .bool false, [])).2.1, (LM.getD iv (0, .bool false, [])).2.2)).getD iv (0, .bool false, [])).2.2).length) ∧ (ys2 = markI (((LM.set iv (qv2, (LM.getD iv (0, .bool false, [])).2.1, (LM.getD iv (0, .bool false, [])).2.2)).getD iv (0, .bool false, [])).2.2) (qv2 + 1) i2) ∧ (q2 = qv2 + 1 + (i2 : Int))) (fun | (i2, ys2, q2) => (((LM.set iv (qv2, (LM.getD iv (0, .bool false, [])).2.1, (LM.getD iv (0, .bool false, [])).2.2)).getD iv (0, .bool false, [])).2.2).length - i2) (0, (((LM.set iv (qv2, (LM.getD iv (0, .bool false, [])).2.1, (LM.getD iv (0, .bool false, [])).2.2)).getD iv (0, .bool false, [])).2.2), (qv2 + 1)) [0, 1, 5] none ⟨(by omega), (by exact markI_zero _ _), (by simp)⟩ ?_)
  rintro ⟨i2, ys2, q2⟩ ⟨h31_1, rfl, rfl⟩ R28 N29
  have hl2 : (markI (((LM.set iv (qv2, (LM.getD iv (0, .bool false, [])).2.1, (LM.getD iv (0, .bool false, [])).2.2)).getD iv (0, .bool false, [])).2.2) (qv2 + 1) i2).length = (((LM.set iv (qv2, (LM.getD iv (0, .bool false, [])).2.1, (LM.getD iv (0, .bool false, [])).2.2)).getD iv (0, .bool false, [])).2.2).length := markI_length _ _ _ (by assumption)
  refine R.go 8 (k9 ((i2 : Int) < ((markI (((LM.set iv (qv2, (LM.getD iv (0, .bool false, [])).2.1, (LM.getD iv (0, .bool false, [])).2.2)).getD iv (0, .bool false, [])).2.2) (qv2 + 1) i2).length : Int)) (fun c32 => ?_) (fun c32 => ?_))
  ·refine R.go 8 (k16 12 1 (markI (((LM.set iv (qv2, (LM.getD iv (0, .bool false, [])).2.1, (LM.getD iv (0, .bool false, [])).2.2)).getD iv (0, .bool false, [])).2.2) (qv2 + 1) i2).length i2 (i2 : Int) ?_ (hj := by first | omega | (simp only [List.length_set]; omega) | (simp <;> omega)))
   refine k18 12 2 (markI (((LM.set iv (qv2, (LM.getD iv (0, .bool false, [])).2.1, (LM.getD iv (0, .bool false, [])).2.2)).getD iv (0, .bool false, [])).2.2) (qv2 + 1) i2) i2 (qv2 + 1 + (i2 : Int)) ?_ (hj := by first | omega | (simp only [List.length_set]; omega) | (simp <;> omega))
   refine R.go 3 (k8 ((qv2 + 1 + (i2 : Int)) + 1) (R.go 5 (k8 ((i2 : Int) + 1) ?_)))
   exact R.go 2 (k22 R28 (N29 (i2 + 1, (markI (((LM.set iv (qv2, (LM.getD iv (0, .bool false, [])).2.1, (LM.getD iv (0, .bool false, [])).2.2)).getD iv (0, .bool false, [])).2.2) (qv2 + 1) i2).set i2 (qv2 + 1 + (i2 : Int)), (qv2 + 1 + (i2 : Int)) + 1) [0, 1, 5] none _ (by kernel_rfl) (by kernel_rfl) ⟨(by omega), (by exact markI_set _ _ _ (by omega) _ (by omega)), (by omega)⟩ (by show ((((LM.set iv (qv2, (LM.getD iv (0, .bool false, [])).2.1, (LM.getD iv (0, .bool false, [])).2.2)).getD iv (0, .bool false, [])).2.2).length - (i2 + 1)) < ((((LM.set iv (qv2, (LM.getD iv (0, .bool false, [])).2.1, (LM.getD iv (0, .bool false, [])).2.2)).getD iv (0, .bool false, [])).2.2).length - i2); omega)))
  refine R.go 6 (R.back (AI (qv2 + 1 + (i2 : Int))) (frm 27 [(0, .ref 6), (1, AI (qv2 + 1)), (5, AI (iv : Int)), (23, .ref 12), (24, AI (qv2 + 1))]) (by kernel_rfl) (by kernel_rfl) (by kernel_rfl) (R.repinQ eI 2 1 29 (LM.set iv (qv2, (LM.getD iv (0, .bool false, [])).2.1, (LM.getD iv (0, .bool false, [])).2.2)) iv (0, .bool false, []) 6 12 (markI (((LM.set iv (qv2, (LM.getD iv (0, .bool false, [])).2.1, (LM.getD iv (0, .bool false, [])).2.2)).getD iv (0, .bool false, [])).2.2) (qv2 + 1) i2) (by kernel_rfl) (by kernel_rfl) (by omega) (by kernel_rfl) (by kernel_rfl) rfl (R.go 5 (k8 ((iv : Int) + 1) ?_))))
  exact R.go 2 (k22 R21 (N22 (iv + 1, (LM.set iv (qv2, (LM.getD iv (0, .bool false, [])).2.1, (LM.getD iv (0, .bool false, [])).2.2)).set iv (((LM.set iv (qv2, (LM.getD iv (0, .bool false, [])).2.1, (LM.getD iv (0, .bool false, [])).2.2)).getD iv (0, .bool false, [])).1, ((LM.set iv (qv2, (LM.getD iv (0, .bool false, [])).2.1, (LM.getD iv (0, .bool false, [])).2.2)).getD iv (0, .bool false, [])).2.1, markI (((LM.set iv (qv2, (LM.getD iv (0, .bool false, [])).2.1, (LM.getD iv (0, .bool false, [])).2.2)).getD iv (0, .bool false, [])).2.2) (qv2 + 1) i2), qv2 + 1 + (i2 : Int)) [0, 1, 5] (some [0, 1, 2, 3, 4, 5, 6, 7, 8, 9, 10, 11]) _ (by kernel_rfl) (by kernel_rfl) ⟨(by omega), (by exact nl_set2 (by assumption) (by omega)), (by exact MkP.set2 (by assumption) (by omega) (by assumption) (mkI_row hnow2 (by omega))), (by rw [lenP]; omega)⟩ (by show ((rmR n xs).length - (iv + 1)) < ((rmR n xs).length - iv); omega)))
 refine R.go 6 (R.back (AI qv2) (frm 96 [(1, .ptr 1 0), (4, .nam uo2 none 2 (rmR n xs).length co3), (5, AI (rmC n xs)), (7, .ref 6), (10, AI 1), (62, .ref 6), (63, AI 1)]) (by kernel_rfl) (by kernel_rfl) (by kernel_rfl) ?_)
 have hie : iv = (rmR n xs).length := by omega
 have hall := MkP.all (‹MkP 1 (rmR n xs) LM iv›) (by omega)
 have hx1 : HdP 1 (fQ LM) := hall.1
 have hx2 := hall.2.1
 have hx3 := hall.2.2
 have hq3 : lenP (rmR n xs) iv = lenP (rmR n xs) (rmR n xs).length := by rw [hie]
 refine R.go 10 (R.callW (avs0 := [.ref 6, AI 1]) (heldPosetS_c (fQ LM) 1 (by first | omega | (simp <;> omega)) (by first | omega | (simp <;> omega)) hx1) (by kernel_rfl) (.cons (.wk (.ref (e := 29) (s := 2) (n := LM.length) (cs := rows (eQ eI 2 1) LM) (by kernel_rfl)) (fgtQ (E' := eP) (fun _ => rfl) _)) (.cons (.leaf rfl) (.nil))) rfl (by kernel_rfl) (R.go 8 (k9 ((1 + (lenP (fQ LM) (fQ LM).length : Int)) < 0) (fun c33 => ?_) (fun c33 => ?_))))
 ·exact R.go 4 (k32 (.bool false) (by first | rfl | (rfl) | (exfalso; omega)))
 refine R.go 8 (k10 ((1 + (lenP (fQ LM) (fQ LM).length : Int)) = qv2) (fun c34 => ?_) (fun c34 => ?_))
 ·exact R.go 4 (k32 (.bool false) (by first | rfl | (rfl) | (exfalso; omega)))
 refine R.go 4 (R.callW (avs0 := [.agg [AI n, .nam uo none 1 xs.length co]]) (toPoset_c n xs hl) (by kernel_rfl) (.cons (.agg (.cons (.leaf rfl) (.cons (.wk (.leaf hco.leafy) hco.fgt) (.nil)))) (.nil)) (by simp [AV.closed, closedL, AI, ownA_closed eI_closed]) (by kernel_rfl) (R.callE (avs0 := [.agg [AI n, .ref 12]]) (RootedImages_c n xs hl) (by kernel_rfl) (.cons (.agg (.cons (.leaf rfl) (.cons (.ref (e := 2) (s := 1) (n := xs.length) (cs := rows eI xs) (by kernel_rfl)) (.nil)))) (.nil)) (RootedImages_c_cl n xs) (by kernel_rfl) ?_))
 intro bE2 hbn35 hsn36 rn37 hrn38
 obtain ⟨LE2, rfl, heE2_1, heE2_2⟩ := hrn38
 have hbb39 : b ≤ bE2 := hbn35 0 b (by kernel_rfl)
 clear hbn35 hsn36
 have hq2 : (fQ LE2) = (rmR n xs) := heE2_2
 have hv2 := rmF heE2_2
 have hv2a := hv2.2.1
 have hv2b : ∀ j : Nat, j < (fQ LE2).length → ((fQ LE2).getD j (0, [])).2.length ≤ 1000000000 := hv2.2.2
 refine R.go 11 (R.callW (avs0 := [.ref 13, .nam uo2 none 2 (rmR n xs).length co3]) (eqPosetS_c (fQ LE2) (rmR n xs) (by first | omega | (simp <;> omega)) hv2b) (by kernel_rfl) (.cons (.wk (.ref (e := 29) (s := 2) (n := LE2.length) (cs := rows (eQ eI 2 1) LE2) (by kernel_rfl)) (fgtQ (E' := eP) (fun _ => rfl) _)) (.cons (.wk (.leaf ho4.leafy) ho4.fgt) (.nil))) rfl (by kernel_rfl) (R.go 2 (k12 false (nF hq2) ?_)))
 iterate 2 refine R.go 1 (k12 false (nF hq2) ?_)
 refine R.go 1 (k14 false (nF hq2) (R.go 1 (k11 (nF rfl) ?_ (b := (!decide ((rmC n xs) = (rmC n xs)))))))
 refine R.go 9 (R.callW (avs0 := [.ref 6, AI 1]) (heldPosetS_c (fQ LM) 1 (by first | omega | (simp <;> omega)) (by first | omega | (simp <;> omega)) hx1) (by kernel_rfl) (.cons (.wk (.ref (e := 29) (s := 2) (n := LM.length) (cs := rows (eQ eI 2 1) LM) (by kernel_rfl)) (fgtQ (E' := eP) (fun _ => rfl) _)) (.cons (.leaf rfl) (.nil))) rfl (by kernel_rfl) (R.go 8 (k11 (dF c33) (R.go 8 (k11 (nF c34) ?_)))))
 exact R.go 5 (k32 (.bool true) (rfl))
theorem lawRootedImages_in (n : Int) (xs : List Int) (hl : xs.length ≤ 1048576) : CallA Tryz.prog 3 [.agg [AI n, LI xs]] (.bool true) :=
 CallA.nameP (enters_of Tryz.func3 (by kernel_rfl) rfl) (nameable_LI xs) fun uo co hco => CallE.toA (lawRootedImages_inE n xs uo co hco hl)
theorem lawRootedImages_1 (n : Int) (xs : List Int) (hx : 1048576 < xs.length) (hb : xs.length ≤ 9223372036854775807) : CallA Tryz.prog 3 [.agg [AI n, LI xs]] (.bool true) := by
 refine CallA.of Tryz.func3 rfl (by kernel_rfl) (R.go 13 (k20 true (szPoset_no n xs 1048576 (by omega) (by first | omega | (simp <;> omega)) hb) ?_))
 exact R.go 13 (k23 (.bool true) (by rfl))
theorem lawRootedImages (n : Int) (xs : List Int) (m0 : xs.length ≤ maxLen) : CallA Tryz.prog 3 [.agg [AI n, LI xs]] (.bool true) := by
 have hm : maxLen ≤ 9223372036854775807 := by decide
 rcases Nat.lt_or_ge 1048576 (xs.length) with h0 | h0
 ·exact lawRootedImages_1 n xs h0 (by omega)
 exact lawRootedImages_in n xs h0
end Go.Proofs.YtehbliocfpppoaaGreat
