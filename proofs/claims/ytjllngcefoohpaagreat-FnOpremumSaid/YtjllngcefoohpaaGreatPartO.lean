/- Texts of the proof: HP2. -/
import Derived.Test.YtjllngcefoohpaaGreatPartN

/-! Draws of Heyting algebras. -/
namespace Go.Proofs.YtjllngcefoohpaaGreat
open Go.RowKit Go.Abs

theorem own2E_c (Q : List (List Int)) (hq : Q.length ≤ 1048576) (hq2 : ∀ j : Nat, j < Q.length → (Q.getD j []).length ≤ 1048576) : CallE Tryz.prog 234 [LLI Q] (fun (b : Nat) (r : AV) => ∃ L : List (Value × List Int), r = ownA (eV eI 2 1) 30 1 L ∧ (NL b L) ∧ (L.map Prod.snd = Q)) := by
 refine CallE.of Tryz.func234 rfl (by kernel_rfl) (fun b => ?_)
 refine R.go 15 (k16 ((fun | (i, L) => (⟨(frm 21 [(0, LLI Q), (3, .ref 1), (4, AI (i : Int))]), [.inert (.base b), rowA (eV eI 2 1) 30 1 L]⟩ : St) : Nat × (List (Value × List Int)) → St)) (fun | (i, L) => (i ≤ Q.length) ∧ (L.length = i) ∧ (NL b L) ∧ (L.map Prod.snd = Q.take i)) (fun | (i, L) => Q.length - i) (0, []) [0, 3, 4] none ⟨(by omega), (by rfl), (by exact NL.nil), (by rfl)⟩ ?_)
 rintro ⟨i, L⟩ ⟨h4_1, h4_2, h4_3, h4_4⟩ R1 N2
 refine R.go 8 (k3 ((i : Int) < (Q.length : Int)) (fun c5 => ?_) (fun c5 => ?_))
 ·have hgl := hq2 i (by omega)
  refine R.go 7 (k8 eLI Q [] i (i : Int) rfl eLI_len ?_)
  refine R.go 1 (k15 true (l01Own_c (Q.getD i []) (by first | omega | (simp <;> omega))) rfl ?_)
  refine R.pin 2 2 1 (Q.getD i []).length (rows eI (Q.getD i [])) (by kernel_rfl) (by kernel_rfl) ?_
  intro v6 hn7
  have hb8 : ∀ g, blk v6 = some g → b ≤ g := newN_base hn7 0 (by kernel_rfl)
  have hr9 : ∀ u ∈ L, ∀ g, blk v6 = some g → blk u.1 ≠ some g := newN_row (E := eI) (el := 2) (s := 1) (e := 30) (n := L.length) hn7 1 L (by kernel_rfl)
  clear hn7
  refine R.go 1 (k13 (eV eI 2 1) L [(v6, Q.getD i [])] 1 30 1 24 eV_one ?_)
  refine R.go 5 (k1 ((i : Int) + 1) ?_)
  exact R.go 2 (k17 R1 (N2 (i + 1, L ++ [(v6, Q.getD i [])]) [0, 3, 4] (some [0, 1]) _ (by kernel_rfl) (by kernel_rfl) ⟨(by omega), (by (simp <;> omega)), (by exact NL.snoc ‹NL b L› (by assumption) (by assumption)), (by (rw [List.map_append, ‹L.map Prod.snd = _›, own2_s (by omega)]; rfl))⟩ (by show (Q.length - (i + 1)) < (Q.length - i); omega)))
 ·exact R.go 6 (k28 (ownA (eV eI 2 1) 30 1 L) ⟨L, rfl, by first | (assumption) | (exfalso; omega), by first | (rw [‹L.map Prod.snd = _›, List.take_of_length_le (by omega)]) | (exfalso; omega)⟩)
theorem chainX_c (n : Int) (hn : 1 ≤ n ∧ n ≤ 14) : CallX Tryz.prog 124 [AI n] [] (fun (resX : AV) (objX : List AObj) => ∃ A2 : List (List Int), ∃ O2 : List (List Int), ∃ J2 : List (List Int), ∃ b2 : Int, ∃ t2 : Int, (IsHy (ordT A2) A2 O2 J2 b2 t2) ∧ ((A2.length : Int) = n) ∧ resX = .agg [LLI A2, LLI O2, LLI J2, AI b2, AI t2] ∧ objX = []) := by
 refine CallX.dropE (CallX.ofF Tryz.func124 rfl (by kernel_rfl) ?_)
 intro usC frC hfC
 refine R.go 15 (k16 ((fun | (x, L) => (⟨(frm 27 [(0, AI n), (2, .ptr 1 0), (3, .ref 2), (4, AI (x : Int))]), [.frame usC frC, .box 26 [.nil, .nil, .nil, AI 0, AI 0], rowA eI 2 1 L]⟩ : St) : Nat × (List Int) → St)) (fun | (x, L) => ((x : Int) ≤ n) ∧ (L = chnR n x)) (fun | (x, L) => (n - x).toNat) (0, []) [0, 2, 3, 4] none ⟨(by omega), (by rfl)⟩ ?_)
 rintro ⟨x, L⟩ ⟨h4_1, rfl⟩ R1 N2
 have hcl := chnR_len n x
 refine R.go 7 (k3 ((x : Int) < n) (fun c5 => ?_) (fun c5 => ?_))
 ·refine R.go 6 (k15 true (l01Full_c n (by omega) (by omega)) rfl ?_)
  refine R.go 1 (k15 true (l01Full_c (x : Int) (by omega) (by omega)) rfl ?_)
  refine R.go 2 (k13 eI (chnR n x) [bnot ((shl64 1 n) - 1) ((shl64 1 (x : Int)) - 1)] 2 2 1 8 eI_one ?_)
  refine R.kfix 0 (us := usC) (by kernel_rfl) (hfC.kill 2 (Nat.le_of_ble_eq_true (by kernel_rfl))) ?_
  refine R.go 5 (k1 ((x : Int) + 1) ?_)
  exact R.go 2 (k17 R1 (N2 (x + 1, (chnR n x) ++ [bnot ((shl64 1 n) - 1) ((shl64 1 (x : Int)) - 1)]) [0, 2, 3, 4] (some [0, 1, 2]) _ (by kernel_rfl) (canonF (fr := frC) (fun (frX : List AV) => (⟨(frm 27 [(0, AI n), (2, .ptr 1 0), (3, .ref 2), (4, AI ((x : Int) + 1))]), [.frame usC frX, .box 26 [.nil, .nil, .nil, AI 0, AI 0], rowA eI 2 1 ((chnR n x) ++ [bnot ((shl64 1 n) - 1) ((shl64 1 (x : Int)) - 1)])]⟩ : St)) (hfC.ren _ (by kernel_rfl)) (by kernel_rfl) (by kernel_rfl)) ⟨(by omega), (by exact chnR_s n x)⟩ (by show ((n - (x + 1)).toNat) < ((n - x).toNat); omega)))
 ·have hH : HyOK (chnR n x) := chn_hy (by omega) (by omega) (by omega)
  refine R.go 4 (k19 2 ?_)
  refine R.kfix 0 (us := usC) (by kernel_rfl) (hfC.frz 2 (LI (chnR n x)) (Nat.le_of_ble_eq_true (by kernel_rfl))) ?_
  refine k15 true (l18Build_c (chnR n x) hH).frz rfl ?_
  exact R.go 12 (R.retX (res := .agg [LLI (tabR (hyM (chnR n x)) (chnR n x).length (chnR n x).length), LLI (tabR (hyJ (chnR n x)) (chnR n x).length (chnR n x).length), LLI (tabR (hyI (chnR n x)) (chnR n x).length (chnR n x).length), AI (lowF (chnR n x) (fullM (chnR n x).length)), AI (lowF (invA (chnR n x) (chnR n x).length) (fullM (chnR n x).length))]) (hp' := [.dead, .box 26 [LLI (tabR (hyM (chnR n x)) (chnR n x).length (chnR n x).length), LLI (tabR (hyJ (chnR n x)) (chnR n x).length (chnR n x).length), LLI (tabR (hyI (chnR n x)) (chnR n x).length (chnR n x).length), AI (lowF (chnR n x) (fullM (chnR n x).length)), AI (lowF (invA (chnR n x) (chnR n x).length) (fullM (chnR n x).length))], .dead, .box 26 [LLI (tabR (hyM (chnR n x)) (chnR n x).length (chnR n x).length), LLI (tabR (hyJ (chnR n x)) (chnR n x).length (chnR n x).length), LLI (tabR (hyI (chnR n x)) (chnR n x).length (chnR n x).length), AI (lowF (chnR n x) (fullM (chnR n x).length)), AI (lowF (invA (chnR n x) (chnR n x).length) (fullM (chnR n x).length))]]) (by kernel_rfl) (by kernel_rfl) (by kernel_rfl) (by kernel_rfl) ⟨[], by kernel_rfl, by decide, tabR (hyM (chnR n x)) (chnR n x).length (chnR n x).length, tabR (hyJ (chnR n x)) (chnR n x).length (chnR n x).length, tabR (hyI (chnR n x)) (chnR n x).length (chnR n x).length, lowF (chnR n x) (fullM (chnR n x).length), lowF (invA (chnR n x) (chnR n x).length) (fullM (chnR n x).length), by first | exact mkHy hH | (rw [tabR_len, chnR_len]; omega), by first | exact mkHy hH | (rw [tabR_len, chnR_len]; omega), by kernel_rfl, by kernel_rfl⟩)

theorem shufP_c_r8 (c : List Int) (p : Nat) (h : Int) (n : Int) (eo1 : Nat) (so1 : Nat) (no1 : Nat) (co1 : List AV) (eo2 : Nat) (so2 : Nat) (no2 : Nat) (co2 : List AV) (eo3 : Nat) (so3 : Nat) (no3 : Nat) (co3 : List AV) (eo4 : Nat) (so4 : Nat) (no4 : Nat) (co4 : List AV) (eo5 : Nat) (so5 : Nat) (no5 : Nat) (co5 : List AV) (eo6 : Nat) (so6 : Nat) (no6 : Nat) (co6 : List AV) (eo7 : Nat) (so7 : Nat) (no7 : Nat) (co7 : List AV) (eo8 : Nat) (so8 : Nat) (no8 : Nat) (co8 : List AV) (hc : BY c) (hn : 0 ≤ n ∧ n ≤ 60) : CallX Tryz.prog 322 [.ptr 0 0, AI n] [.box 157 [LB c, AI (p : Int), .int .u64 h], .list eo1 so1 no1 co1, .list eo2 so2 no2 co2, .list eo3 so3 no3 co3, .list eo4 so4 no4 co4, .list eo5 so5 no5 co5, .list eo6 so6 no6 co6, .list eo7 so7 no7 co7, .list eo8 so8 no8 co8] (fun (resX : AV) (objX : List AObj) => ∃ r : List Int, ∃ p1 : Nat, ∃ h1 : Int, (PMX n r) ∧ resX = LI r ∧ objX = [.box 157 [LB c, AI (p1 : Int), .int .u64 h1], .list eo1 so1 no1 co1, .list eo2 so2 no2 co2, .list eo3 so3 no3 co3, .list eo4 so4 no4 co4, .list eo5 so5 no5 co5, .list eo6 so6 no6 co6, .list eo7 so7 no7 co7, .list eo8 so8 no8 co8]) := by
 have hcl : c.length ≤ 4096 := hc.1
 have hcb := hc.2
 refine CallX.dropE (CallX.ofF Tryz.func322 rfl (by kernel_rfl) ?_)
 intro usC frC hfC
 refine R.go 15 (k16 ((fun | (i, o) => (⟨(frm 46 [(0, .ptr 0 0), (1, AI n), (5, .ref 10), (6, AI (i : Int))]), [.box 157 [LB c, AI (p : Int), .int .u64 h], .list eo1 so1 no1 co1, .list eo2 so2 no2 co2, .list eo3 so3 no3 co3, .list eo4 so4 no4 co4, .list eo5 so5 no5 co5, .list eo6 so6 no6 co6, .list eo7 so7 no7 co7, .list eo8 so8 no8 co8, .frame usC frC, rowA eI 2 1 o]⟩ : St) : Nat × (List Int) → St)) (fun | (i, o) => ((i : Int) ≤ n) ∧ (o.length = i) ∧ (∀ j : Nat, j < i → o.getD j 0 = (j : Int))) (fun | (i, o) => (n - i).toNat) (0, []) [0, 1, 5, 6] none ⟨(by omega), (by rfl), (by exact fun j hj => absurd hj (by simp))⟩ ?_)
 rintro ⟨i, o⟩ ⟨h4_1, h4_2, h4_3⟩ R1 N2
 refine R.go 7 (k3 ((i : Int) < n) (fun c5 => ?_) (fun c5 => ?_))
 ·refine R.go 7 (k13 eI o [(i : Int)] 10 2 1 8 eI_one ?_)
  refine R.kfix 9 (us := usC) (by kernel_rfl) (hfC.kill 10 (Nat.le_of_ble_eq_true (by kernel_rfl))) ?_
  refine R.go 5 (k1 ((i : Int) + 1) ?_)
  exact R.go 2 (k17 R1 (N2 (i + 1, o ++ [(i : Int)]) [0, 1, 5, 6] (some [0, 1, 2, 3, 4, 5, 6, 7, 8, 9, 10]) _ (by kernel_rfl) (canonF (fr := frC) (fun (frX : List AV) => (⟨(frm 46 [(0, .ptr 0 0), (1, AI n), (5, .ref 10), (6, AI ((i : Int) + 1))]), [.box 157 [LB c, AI (p : Int), .int .u64 h], .list eo1 so1 no1 co1, .list eo2 so2 no2 co2, .list eo3 so3 no3 co3, .list eo4 so4 no4 co4, .list eo5 so5 no5 co5, .list eo6 so6 no6 co6, .list eo7 so7 no7 co7, .list eo8 so8 no8 co8, .frame usC frX, rowA eI 2 1 (o ++ [(i : Int)])]⟩ : St)) (hfC.ren _ (by kernel_rfl)) (by kernel_rfl) (by kernel_rfl)) ⟨(by omega), (by (simp <;> omega)), (by exact idr_snoc (by omega) (by assumption))⟩ (by show ((n - (i + 1)).toNat) < ((n - i).toNat); omega)))
 ·refine R.go 5 (k1 (n - 1) ?_)
  refine R.go 3 (k16 ((fun | (k, o, q, hq) => (⟨(frm 46 [(0, .ptr 0 0), (5, .ref 10), (7, AI k)]), [.box 157 [LB c, AI (q : Int), .int .u64 hq], .list eo1 so1 no1 co1, .list eo2 so2 no2 co2, .list eo3 so3 no3 co3, .list eo4 so4 no4 co4, .list eo5 so5 no5 co5, .list eo6 so6 no6 co6, .list eo7 so7 no7 co7, .list eo8 so8 no8 co8, .frame usC frC, rowA eI 2 1 o]⟩ : St) : Int × (List Int) × Nat × Int → St)) (fun | (k, o, q, hq) => (-1 ≤ k ∧ k < n) ∧ (PMX n o)) (fun | (k, o, q, hq) => (k + 1).toNat) ((n - 1), o, p, h) [0, 5, 7] none ⟨(by omega), (by exact pmx_id (by omega) (fun j hj => (‹∀ j : Nat, j < i → o.getD j 0 = (j : Int)›) j (by omega)))⟩ ?_)
  rintro ⟨k, o, q, hq⟩ ⟨h9_1, h9_2⟩ R6 N7
  have hPM := (by assumption : PMX n o)
  have hRG := hPM.2.1
  have hgl := hPM.1
  have hgk := fun h : 0 < k => hRG k.toNat (by omega)
  refine R.go 6 (k3 (k > 0) (fun c10 => ?_) (fun c10 => ?_))
  ·refine R.go 7 (k1 (k + 1) ?_)
   refine k27 (k29e 9 usC frC (nextX_c_r9 c q hq (k + 1) eo1 so1 no1 co1 eo2 so2 no2 co2 eo3 so3 no3 co3 eo4 so4 no4 co4 eo5 so5 no5 co5 eo6 so6 no6 co6 eo7 so7 no7 co7 eo8 so8 no8 co8 2 1 o.length (rows eI o) hc)) ?_
   rintro _ _ ⟨_, _, ⟨v_11, p1_12, h1_13, f14, rfl, rfl⟩, rfl, rfl⟩
   refine R.go 6 (k9 10 1 o.length ((k).toNat) k ?_)
   refine k11 o ((k).toNat) ?_
   have hg7 := hgk (by omega)
   have hg8 := hRG (v_11).toNat (by omega)
   refine R.go 8 (k9 10 1 o.length ((v_11).toNat) v_11 ?_)
   refine k11 o ((v_11).toNat) ?_
   refine k9 10 1 o.length ((k).toNat) k ?_
   refine k12 10 2 o ((k).toNat) (o.getD ((v_11).toNat) 0) ?_
   refine R.go 5 (k9 10 1 (o.set ((k).toNat) (o.getD ((v_11).toNat) 0)).length ((v_11).toNat) v_11 ?_ (hj := by first | omega | (simp only [List.length_set]; omega) | (simp <;> omega)))
   refine k12 10 2 (o.set ((k).toNat) (o.getD ((v_11).toNat) 0)) ((v_11).toNat) (o.getD ((k).toNat) 0) ?_ (hj := by first | omega | (simp only [List.length_set]; omega) | (simp <;> omega))
   refine R.go 4 (k1 (k - 1) ?_)
   exact R.go 2 (k17 R6 (N7 (k - 1, (o.set ((k).toNat) (o.getD ((v_11).toNat) 0)).set ((v_11).toNat) (o.getD ((k).toNat) 0), p1_12, h1_13) [0, 5, 7] none _ (by kernel_rfl) (by kernel_rfl) ⟨(by omega), (by exact pmx_swap (by assumption) (by omega) (by omega))⟩ (by show (((k - 1) + 1).toNat) < ((k + 1).toNat); omega)))
  ·refine R.go 6 (k19 10 ?_)
   refine R.kfix 9 (us := usC) (by kernel_rfl) (hfC.frz 10 (LI o) (Nat.le_of_ble_eq_true (by kernel_rfl))) ?_
   exact R.retX (res := LI o) (hp' := [.box 157 [LB c, AI (q : Int), .int .u64 hq], .list eo1 so1 no1 co1, .list eo2 so2 no2 co2, .list eo3 so3 no3 co3, .list eo4 so4 no4 co4, .list eo5 so5 no5 co5, .list eo6 so6 no6 co6, .list eo7 so7 no7 co7, .list eo8 so8 no8 co8, .dead, .dead]) (by kernel_rfl) (by kernel_rfl) (by kernel_rfl) (by kernel_rfl) ⟨[0, 1, 2, 3, 4, 5, 6, 7, 8], by kernel_rfl, by decide, o, q, hq, by assumption, by kernel_rfl, by kernel_rfl⟩

set_option maxHeartbeats 1000000 in
theorem mixX_c_r5 (c : List Int) (p : Nat) (h : Int) (A : List (List Int)) (O : List (List Int)) (J : List (List Int)) (bo : Int) (t : Int) (eo1 : Nat) (so1 : Nat) (no1 : Nat) (co1 : List AV) (eo2 : Nat) (so2 : Nat) (no2 : Nat) (co2 : List AV) (eo3 : Nat) (so3 : Nat) (no3 : Nat) (co3 : List AV) (eo4 : Nat) (so4 : Nat) (no4 : Nat) (co4 : List AV) (eo5 : Nat) (so5 : Nat) (no5 : Nat) (co5 : List AV) (hc : BY c) (hIH : IsHy (ordT A) A O J bo t) : CallX Tryz.prog 233 [.ptr 0 0, .agg [LLI A, LLI O, LLI J, AI bo, AI t]] [.box 157 [LB c, AI (p : Int), .int .u64 h], .list eo1 so1 no1 co1, .list eo2 so2 no2 co2, .list eo3 so3 no3 co3, .list eo4 so4 no4 co4, .list eo5 so5 no5 co5] (fun (resX : AV) (objX : List AObj) => ∃ A2 : List (List Int), ∃ O2 : List (List Int), ∃ J2 : List (List Int), ∃ b2 : Int, ∃ t2 : Int, ∃ p1 : Nat, ∃ h1 : Int, (IsHy (ordT A2) A2 O2 J2 b2 t2) ∧ (A2.length = A.length) ∧ resX = .agg [LLI A2, LLI O2, LLI J2, AI b2, AI t2] ∧ objX = [.box 157 [LB c, AI (p1 : Int), .int .u64 h1], .list eo1 so1 no1 co1, .list eo2 so2 no2 co2, .list eo3 so3 no3 co3, .list eo4 so4 no4 co4, .list eo5 so5 no5 co5]) := by
 have hcl : c.length ≤ 4096 := hc.1
 have hcb := hc.2
 have hsz := isHy_sz hIH
 obtain ⟨hs0, hsA, hsO, hsJ⟩ := hsz
 have hT : tabB A.length A = true := (hyIs_parts.1 hIH.is.1).2.1
 have hol := ordT_len A
 have hRl : RelOK (ordT A).length (ordT A) := ordT_rel (by omega)
 refine CallX.dropE (CallX.ofF Tryz.func233 rfl (by kernel_rfl) ?_)
 intro usC frC hfC
 refine R.go 6 (R.meetF (α := (List Int) × Nat × Int) (fun | (r_1, p1_2, h1_3) => (PMX A.length r_1)) (fun | (r_1, p1_2, h1_3) => (⟨(frm 19 [(0, .ptr 0 0), (1, .agg [LLI A, LLI O, LLI J, AI bo, AI t]), (3, .ptr 7 0), (4, .ptr 8 0), (5, .ptr 9 0), (6, .bool true), (7, .tup [.agg [LLI (tabR (hyM (prt (ordT A) r_1)) (prt (ordT A) r_1).length (prt (ordT A) r_1).length), LLI (tabR (hyJ (prt (ordT A) r_1)) (prt (ordT A) r_1).length (prt (ordT A) r_1).length), LLI (tabR (hyI (prt (ordT A) r_1)) (prt (ordT A) r_1).length (prt (ordT A) r_1).length), AI (lowF (prt (ordT A) r_1) (fullM (prt (ordT A) r_1).length)), AI (lowF (invA (prt (ordT A) r_1) (prt (ordT A) r_1).length) (fullM (prt (ordT A) r_1).length))], .bool true]), (8, .agg [LLI A, LLI O, LLI J, AI bo, AI t]), (9, LI (ordT A)), (10, .ptr 0 0), (11, .agg [LLI A, LLI O, LLI J, AI bo, AI t]), (12, AI A.length), (13, LI r_1), (14, LI (prt (ordT A) r_1)), (15, .tup [.agg [LLI (tabR (hyM (prt (ordT A) r_1)) (prt (ordT A) r_1).length (prt (ordT A) r_1).length), LLI (tabR (hyJ (prt (ordT A) r_1)) (prt (ordT A) r_1).length (prt (ordT A) r_1).length), LLI (tabR (hyI (prt (ordT A) r_1)) (prt (ordT A) r_1).length (prt (ordT A) r_1).length), AI (lowF (prt (ordT A) r_1) (fullM (prt (ordT A) r_1).length)), AI (lowF (invA (prt (ordT A) r_1) (prt (ordT A) r_1).length) (fullM (prt (ordT A) r_1).length))], .bool true]), (16, .agg [LLI (tabR (hyM (prt (ordT A) r_1)) (prt (ordT A) r_1).length (prt (ordT A) r_1).length), LLI (tabR (hyJ (prt (ordT A) r_1)) (prt (ordT A) r_1).length (prt (ordT A) r_1).length), LLI (tabR (hyI (prt (ordT A) r_1)) (prt (ordT A) r_1).length (prt (ordT A) r_1).length), AI (lowF (prt (ordT A) r_1) (fullM (prt (ordT A) r_1).length)), AI (lowF (invA (prt (ordT A) r_1) (prt (ordT A) r_1).length) (fullM (prt (ordT A) r_1).length))]), (17, .bool true)]), [.box 157 [LB c, AI (p1_2 : Int), .int .u64 h1_3], .list eo1 so1 no1 co1, .list eo2 so2 no2 co2, .list eo3 so3 no3 co3, .list eo4 so4 no4 co4, .list eo5 so5 no5 co5, .frame usC frC, .box 26 [LLI A, LLI O, LLI J, AI bo, AI t], .box 26 [.nil, .nil, .nil, AI 0, AI 0], .box 26 [LLI (tabR (hyM (prt (ordT A) r_1)) (prt (ordT A) r_1).length (prt (ordT A) r_1).length), LLI (tabR (hyJ (prt (ordT A) r_1)) (prt (ordT A) r_1).length (prt (ordT A) r_1).length), LLI (tabR (hyI (prt (ordT A) r_1)) (prt (ordT A) r_1).length (prt (ordT A) r_1).length), AI (lowF (prt (ordT A) r_1) (fullM (prt (ordT A) r_1).length)), AI (lowF (invA (prt (ordT A) r_1) (prt (ordT A) r_1).length) (fullM (prt (ordT A) r_1).length))]]⟩ : St)) (by kernel_rfl) ?_ ?_)
 ·refine R.any (by decide +kernel) (by kernel_rfl) ?_
  refine k25 2 (np_meetF _ _) ?_
  refine k24 0 3 11 ?_ ?_ ?_
  ·refine R.go 2 (k24 1 3 11 ?_ ?_ ?_)
   ·refine k15 true (l18Order_c A O J bo t hT (by first | omega | (simp <;> omega))).frz rfl ?_
    refine R.go 1 (k23 3 11 ?_ ?_)
    ·refine R.go 2 (k23 4 11 ?_ ?_)
     ·refine k15 true (l18Size_c A O J bo t) rfl ?_
      refine R.go 1 (k23 5 11 ?_ ?_)
      ·refine k27 (k29b 6 usC frC (k30b 7 26 [.nil, .nil, .nil, AI 0, AI 0] (k30a 6 26 [LLI A, LLI O, LLI J, AI bo, AI t] (shufP_c_r7 c p h A.length eo1 so1 no1 co1 eo2 so2 no2 co2 eo3 so3 no3 co3 eo4 so4 no4 co4 eo5 so5 no5 co5 26 5 1 [LLI A, LLI O, LLI J, AI bo, AI t] 26 5 1 [.nil, .nil, .nil, AI 0, AI 0] hc (by omega))))) ?_
       rintro _ _ ⟨_, _, ⟨_, ⟨_, ⟨r_1, p1_2, h1_3, f4, rfl, rfl⟩, rfl⟩, rfl⟩, rfl, rfl⟩
       refine R.go 1 (k23 6 11 ?_ ?_)
       ·have hPM : PMX ((ordT A).length : Int) r_1 := by rw [ordT_len]; assumption
        have hPH := prt_hy hIH.ok hPM
        refine k15 true (renP_c (ordT A) r_1 hPM hRl (by first | omega | (simp <;> omega))).frz rfl ?_
        refine R.go 1 (k23 7 11 ?_ ?_)
        ·refine k15 true (l18Build_c (prt (ordT A) r_1) (by assumption)).frz rfl ?_
         refine R.go 1 (k25 8 (np_meetF _ _) ?_)
         refine R.anyX 9 (.agg [LLI (tabR (hyM (prt (ordT A) r_1)) (prt (ordT A) r_1).length (prt (ordT A) r_1).length), LLI (tabR (hyJ (prt (ordT A) r_1)) (prt (ordT A) r_1).length (prt (ordT A) r_1).length), LLI (tabR (hyI (prt (ordT A) r_1)) (prt (ordT A) r_1).length (prt (ordT A) r_1).length), AI (lowF (prt (ordT A) r_1) (fullM (prt (ordT A) r_1).length)), AI (lowF (invA (prt (ordT A) r_1) (prt (ordT A) r_1).length) (fullM (prt (ordT A) r_1).length))]) (by kernel_rfl) (np_meetF _ _) ?_
         refine R.anyX 10 (.bool true) (by kernel_rfl) (np_meetF _ _) ?_
         refine k22 11 ?_
         refine R.go 2 (k22 12 ?_)
         refine R.go 2 (k22 13 ?_)
         refine R.go 2 (k21 ?_)
         exact k33 (r_1, p1_2, h1_3) (by first | assumption | omega)
        ·refine R.go 2 (k22 7 ?_)
         refine k15 true (l18Build_c (prt (ordT A) r_1) (by assumption)).frz rfl ?_
         refine R.go 1 (k25 8 (np_meetF _ _) ?_)
         refine R.anyX 9 (.agg [LLI (tabR (hyM (prt (ordT A) r_1)) (prt (ordT A) r_1).length (prt (ordT A) r_1).length), LLI (tabR (hyJ (prt (ordT A) r_1)) (prt (ordT A) r_1).length (prt (ordT A) r_1).length), LLI (tabR (hyI (prt (ordT A) r_1)) (prt (ordT A) r_1).length (prt (ordT A) r_1).length), AI (lowF (prt (ordT A) r_1) (fullM (prt (ordT A) r_1).length)), AI (lowF (invA (prt (ordT A) r_1) (prt (ordT A) r_1).length) (fullM (prt (ordT A) r_1).length))]) (by kernel_rfl) (np_meetF _ _) ?_
         refine R.anyX 10 (.bool true) (by kernel_rfl) (np_meetF _ _) ?_
         refine k22 12 ?_
         refine R.go 2 (k22 13 ?_)
         refine R.go 2 (k21 ?_)
         exact k33 (r_1, p1_2, h1_3) (by first | assumption | omega)
       ·refine R.go 2 (k22 6 ?_)
        have hPM : PMX ((ordT A).length : Int) r_1 := by rw [ordT_len]; assumption
        have hPH := prt_hy hIH.ok hPM
        refine k15 true (renP_c (ordT A) r_1 hPM hRl (by first | omega | (simp <;> omega))).frz rfl ?_
        refine R.go 1 (k22 7 ?_)
        refine k15 true (l18Build_c (prt (ordT A) r_1) (by assumption)).frz rfl ?_
        refine R.go 1 (k25 8 (np_meetF _ _) ?_)
        refine R.anyX 9 (.agg [LLI (tabR (hyM (prt (ordT A) r_1)) (prt (ordT A) r_1).length (prt (ordT A) r_1).length), LLI (tabR (hyJ (prt (ordT A) r_1)) (prt (ordT A) r_1).length (prt (ordT A) r_1).length), LLI (tabR (hyI (prt (ordT A) r_1)) (prt (ordT A) r_1).length (prt (ordT A) r_1).length), AI (lowF (prt (ordT A) r_1) (fullM (prt (ordT A) r_1).length)), AI (lowF (invA (prt (ordT A) r_1) (prt (ordT A) r_1).length) (fullM (prt (ordT A) r_1).length))]) (by kernel_rfl) (np_meetF _ _) ?_
        refine R.anyX 10 (.bool true) (by kernel_rfl) (np_meetF _ _) ?_
        refine k22 12 ?_
        refine R.go 2 (k22 13 ?_)
        refine R.go 2 (k21 ?_)
        exact k33 (r_1, p1_2, h1_3) (by first | assumption | omega)
      ·refine R.go 2 (k22 5 ?_)
       refine k27 (k29a 6 usC frC (k30c 8 26 [.nil, .nil, .nil, AI 0, AI 0] (k30b 7 26 [.nil, .nil, .nil, AI 0, AI 0] (k30a 6 26 [LLI A, LLI O, LLI J, AI bo, AI t] (shufP_c_r8 c p h A.length eo1 so1 no1 co1 eo2 so2 no2 co2 eo3 so3 no3 co3 eo4 so4 no4 co4 eo5 so5 no5 co5 26 5 1 [LLI A, LLI O, LLI J, AI bo, AI t] 26 5 1 [.nil, .nil, .nil, AI 0, AI 0] 26 5 1 [.nil, .nil, .nil, AI 0, AI 0] hc (by omega)))))) ?_
       rintro _ _ ⟨_, _, ⟨_, ⟨_, ⟨_, ⟨r_5, p1_6, h1_7, f8, rfl, rfl⟩, rfl⟩, rfl⟩, rfl⟩, rfl, rfl⟩
       refine R.go 1 (k22 6 ?_)
       have hPM : PMX ((ordT A).length : Int) r_5 := by rw [ordT_len]; assumption
       have hPH := prt_hy hIH.ok hPM
       refine k15 true (renP_c (ordT A) r_5 hPM hRl (by first | omega | (simp <;> omega))).frz rfl ?_
       refine R.go 1 (k22 7 ?_)
       refine k15 true (l18Build_c (prt (ordT A) r_5) (by assumption)).frz rfl ?_
       refine R.go 1 (k25 8 (np_meetF _ _) ?_)
       refine R.anyX 9 (.agg [LLI (tabR (hyM (prt (ordT A) r_5)) (prt (ordT A) r_5).length (prt (ordT A) r_5).length), LLI (tabR (hyJ (prt (ordT A) r_5)) (prt (ordT A) r_5).length (prt (ordT A) r_5).length), LLI (tabR (hyI (prt (ordT A) r_5)) (prt (ordT A) r_5).length (prt (ordT A) r_5).length), AI (lowF (prt (ordT A) r_5) (fullM (prt (ordT A) r_5).length)), AI (lowF (invA (prt (ordT A) r_5) (prt (ordT A) r_5).length) (fullM (prt (ordT A) r_5).length))]) (by kernel_rfl) (np_meetF _ _) ?_
       refine R.anyX 10 (.bool true) (by kernel_rfl) (np_meetF _ _) ?_
       refine k22 12 ?_
       refine R.go 2 (k22 13 ?_)
       refine R.go 2 (k21 ?_)
       exact k33 (r_5, p1_6, h1_7) (by first | assumption | omega)
     ·refine R.go 2 (k22 4 ?_)
      refine k15 true (l18Size_c A O J bo t) rfl ?_
      refine R.go 1 (k22 5 ?_)
      refine k27 (k29a 6 usC frC (k30c 8 26 [.nil, .nil, .nil, AI 0, AI 0] (k30b 7 26 [.nil, .nil, .nil, AI 0, AI 0] (k30a 6 26 [LLI A, LLI O, LLI J, AI bo, AI t] (shufP_c_r8 c p h A.length eo1 so1 no1 co1 eo2 so2 no2 co2 eo3 so3 no3 co3 eo4 so4 no4 co4 eo5 so5 no5 co5 26 5 1 [LLI A, LLI O, LLI J, AI bo, AI t] 26 5 1 [.nil, .nil, .nil, AI 0, AI 0] 26 5 1 [.nil, .nil, .nil, AI 0, AI 0] hc (by omega)))))) ?_
      rintro _ _ ⟨_, _, ⟨_, ⟨_, ⟨_, ⟨r_9, p1_10, h1_11, f12, rfl, rfl⟩, rfl⟩, rfl⟩, rfl⟩, rfl, rfl⟩
      refine R.go 1 (k22 6 ?_)
      have hPM : PMX ((ordT A).length : Int) r_9 := by rw [ordT_len]; assumption
      have hPH := prt_hy hIH.ok hPM
      refine k15 true (renP_c (ordT A) r_9 hPM hRl (by first | omega | (simp <;> omega))).frz rfl ?_
      refine R.go 1 (k22 7 ?_)
      refine k15 true (l18Build_c (prt (ordT A) r_9) (by assumption)).frz rfl ?_
      refine R.go 1 (k25 8 (np_meetF _ _) ?_)
      refine R.anyX 9 (.agg [LLI (tabR (hyM (prt (ordT A) r_9)) (prt (ordT A) r_9).length (prt (ordT A) r_9).length), LLI (tabR (hyJ (prt (ordT A) r_9)) (prt (ordT A) r_9).length (prt (ordT A) r_9).length), LLI (tabR (hyI (prt (ordT A) r_9)) (prt (ordT A) r_9).length (prt (ordT A) r_9).length), AI (lowF (prt (ordT A) r_9) (fullM (prt (ordT A) r_9).length)), AI (lowF (invA (prt (ordT A) r_9) (prt (ordT A) r_9).length) (fullM (prt (ordT A) r_9).length))]) (by kernel_rfl) (np_meetF _ _) ?_
      refine R.anyX 10 (.bool true) (by kernel_rfl) (np_meetF _ _) ?_
      refine k22 12 ?_
      refine R.go 2 (k22 13 ?_)
      refine R.go 2 (k21 ?_)
      exact k33 (r_9, p1_10, h1_11) (by first | assumption | omega)
    ·refine R.go 2 (k22 3 ?_)
     refine R.go 2 (k22 4 ?_)
     refine k15 true (l18Size_c A O J bo t) rfl ?_
     refine R.go 1 (k22 5 ?_)
     refine k27 (k29a 6 usC frC (k30c 8 26 [.nil, .nil, .nil, AI 0, AI 0] (k30b 7 26 [.nil, .nil, .nil, AI 0, AI 0] (k30a 6 26 [LLI A, LLI O, LLI J, AI bo, AI t] (shufP_c_r8 c p h A.length eo1 so1 no1 co1 eo2 so2 no2 co2 eo3 so3 no3 co3 eo4 so4 no4 co4 eo5 so5 no5 co5 26 5 1 [LLI A, LLI O, LLI J, AI bo, AI t] 26 5 1 [.nil, .nil, .nil, AI 0, AI 0] 26 5 1 [.nil, .nil, .nil, AI 0, AI 0] hc (by omega)))))) ?_
     rintro _ _ ⟨_, _, ⟨_, ⟨_, ⟨_, ⟨r_13, p1_14, h1_15, f16, rfl, rfl⟩, rfl⟩, rfl⟩, rfl⟩, rfl, rfl⟩
     refine R.go 1 (k22 6 ?_)
     have hPM : PMX ((ordT A).length : Int) r_13 := by rw [ordT_len]; assumption
     have hPH := prt_hy hIH.ok hPM
     refine k15 true (renP_c (ordT A) r_13 hPM hRl (by first | omega | (simp <;> omega))).frz rfl ?_
     refine R.go 1 (k22 7 ?_)
     refine k15 true (l18Build_c (prt (ordT A) r_13) (by assumption)).frz rfl ?_
     refine R.go 1 (k25 8 (np_meetF _ _) ?_)
     refine R.anyX 9 (.agg [LLI (tabR (hyM (prt (ordT A) r_13)) (prt (ordT A) r_13).length (prt (ordT A) r_13).length), LLI (tabR (hyJ (prt (ordT A) r_13)) (prt (ordT A) r_13).length (prt (ordT A) r_13).length), LLI (tabR (hyI (prt (ordT A) r_13)) (prt (ordT A) r_13).length (prt (ordT A) r_13).length), AI (lowF (prt (ordT A) r_13) (fullM (prt (ordT A) r_13).length)), AI (lowF (invA (prt (ordT A) r_13) (prt (ordT A) r_13).length) (fullM (prt (ordT A) r_13).length))]) (by kernel_rfl) (np_meetF _ _) ?_
     refine R.anyX 10 (.bool true) (by kernel_rfl) (np_meetF _ _) ?_
     refine k22 12 ?_
     refine R.go 2 (k22 13 ?_)
     refine R.go 2 (k21 ?_)
     exact k33 (r_13, p1_14, h1_15) (by first | assumption | omega)
   ·refine R.go 2 (k23 1 11 ?_ ?_)
    ·refine k15 true (l18Order_c A O J bo t hT (by first | omega | (simp <;> omega))).frz rfl ?_
     refine R.go 1 (k23 4 11 ?_ ?_)
     ·refine k15 true (l18Size_c A O J bo t) rfl ?_
      refine R.go 1 (k23 5 11 ?_ ?_)
      ·refine k27 (k29b 6 usC frC (k30b 7 26 [.nil, .nil, .nil, AI 0, AI 0] (k30a 6 26 [LLI A, LLI O, LLI J, AI bo, AI t] (shufP_c_r7 c p h A.length eo1 so1 no1 co1 eo2 so2 no2 co2 eo3 so3 no3 co3 eo4 so4 no4 co4 eo5 so5 no5 co5 26 5 1 [LLI A, LLI O, LLI J, AI bo, AI t] 26 5 1 [.nil, .nil, .nil, AI 0, AI 0] hc (by omega))))) ?_
       rintro _ _ ⟨_, _, ⟨_, ⟨_, ⟨r_17, p1_18, h1_19, f20, rfl, rfl⟩, rfl⟩, rfl⟩, rfl, rfl⟩
       refine R.go 1 (k23 6 11 ?_ ?_)
       ·have hPM : PMX ((ordT A).length : Int) r_17 := by rw [ordT_len]; assumption
        have hPH := prt_hy hIH.ok hPM
        refine k15 true (renP_c (ordT A) r_17 hPM hRl (by first | omega | (simp <;> omega))).frz rfl ?_
        refine R.go 1 (k23 7 11 ?_ ?_)
        ·refine k15 true (l18Build_c (prt (ordT A) r_17) (by assumption)).frz rfl ?_
         refine R.go 1 (k25 8 (np_meetF _ _) ?_)
         refine R.anyX 9 (.agg [LLI (tabR (hyM (prt (ordT A) r_17)) (prt (ordT A) r_17).length (prt (ordT A) r_17).length), LLI (tabR (hyJ (prt (ordT A) r_17)) (prt (ordT A) r_17).length (prt (ordT A) r_17).length), LLI (tabR (hyI (prt (ordT A) r_17)) (prt (ordT A) r_17).length (prt (ordT A) r_17).length), AI (lowF (prt (ordT A) r_17) (fullM (prt (ordT A) r_17).length)), AI (lowF (invA (prt (ordT A) r_17) (prt (ordT A) r_17).length) (fullM (prt (ordT A) r_17).length))]) (by kernel_rfl) (np_meetF _ _) ?_
         refine R.anyX 10 (.bool true) (by kernel_rfl) (np_meetF _ _) ?_
         refine k22 11 ?_
         refine R.go 2 (k22 12 ?_)
         refine R.go 2 (k22 13 ?_)
         refine R.go 2 (k21 ?_)
         exact k33 (r_17, p1_18, h1_19) (by first | assumption | omega)
        ·refine R.go 2 (k22 7 ?_)
         refine k15 true (l18Build_c (prt (ordT A) r_17) (by assumption)).frz rfl ?_
         refine R.go 1 (k25 8 (np_meetF _ _) ?_)
         refine R.anyX 9 (.agg [LLI (tabR (hyM (prt (ordT A) r_17)) (prt (ordT A) r_17).length (prt (ordT A) r_17).length), LLI (tabR (hyJ (prt (ordT A) r_17)) (prt (ordT A) r_17).length (prt (ordT A) r_17).length), LLI (tabR (hyI (prt (ordT A) r_17)) (prt (ordT A) r_17).length (prt (ordT A) r_17).length), AI (lowF (prt (ordT A) r_17) (fullM (prt (ordT A) r_17).length)), AI (lowF (invA (prt (ordT A) r_17) (prt (ordT A) r_17).length) (fullM (prt (ordT A) r_17).length))]) (by kernel_rfl) (np_meetF _ _) ?_
         refine R.anyX 10 (.bool true) (by kernel_rfl) (np_meetF _ _) ?_
         refine k22 12 ?_
         refine R.go 2 (k22 13 ?_)
         refine R.go 2 (k21 ?_)
         exact k33 (r_17, p1_18, h1_19) (by first | assumption | omega)
       ·refine R.go 2 (k22 6 ?_)
        have hPM : PMX ((ordT A).length : Int) r_17 := by rw [ordT_len]; assumption
        have hPH := prt_hy hIH.ok hPM
        refine k15 true (renP_c (ordT A) r_17 hPM hRl (by first | omega | (simp <;> omega))).frz rfl ?_
        refine R.go 1 (k22 7 ?_)
        refine k15 true (l18Build_c (prt (ordT A) r_17) (by assumption)).frz rfl ?_
        refine R.go 1 (k25 8 (np_meetF _ _) ?_)
        refine R.anyX 9 (.agg [LLI (tabR (hyM (prt (ordT A) r_17)) (prt (ordT A) r_17).length (prt (ordT A) r_17).length), LLI (tabR (hyJ (prt (ordT A) r_17)) (prt (ordT A) r_17).length (prt (ordT A) r_17).length), LLI (tabR (hyI (prt (ordT A) r_17)) (prt (ordT A) r_17).length (prt (ordT A) r_17).length), AI (lowF (prt (ordT A) r_17) (fullM (prt (ordT A) r_17).length)), AI (lowF (invA (prt (ordT A) r_17) (prt (ordT A) r_17).length) (fullM (prt (ordT A) r_17).length))]) (by kernel_rfl) (np_meetF _ _) ?_
        refine R.anyX 10 (.bool true) (by kernel_rfl) (np_meetF _ _) ?_
        refine k22 12 ?_
        refine R.go 2 (k22 13 ?_)
        refine R.go 2 (k21 ?_)
        exact k33 (r_17, p1_18, h1_19) (by first | assumption | omega)
      ·refine R.go 2 (k22 5 ?_)
       refine k27 (k29a 6 usC frC (k30c 8 26 [.nil, .nil, .nil, AI 0, AI 0] (k30b 7 26 [.nil, .nil, .nil, AI 0, AI 0] (k30a 6 26 [LLI A, LLI O, LLI J, AI bo, AI t] (shufP_c_r8 c p h A.length eo1 so1 no1 co1 eo2 so2 no2 co2 eo3 so3 no3 co3 eo4 so4 no4 co4 eo5 so5 no5 co5 26 5 1 [LLI A, LLI O, LLI J, AI bo, AI t] 26 5 1 [.nil, .nil, .nil, AI 0, AI 0] 26 5 1 [.nil, .nil, .nil, AI 0, AI 0] hc (by omega)))))) ?_
       rintro _ _ ⟨_, _, ⟨_, ⟨_, ⟨_, ⟨r_21, p1_22, h1_23, f24, rfl, rfl⟩, rfl⟩, rfl⟩, rfl⟩, rfl, rfl⟩
       refine R.go 1 (k22 6 ?_)
       have hPM : PMX ((ordT A).length : Int) r_21 := by rw [ordT_len]; assumption
       have hPH := prt_hy hIH.ok hPM
       refine k15 true (renP_c (ordT A) r_21 hPM hRl (by first | omega | (simp <;> omega))).frz rfl ?_
       refine R.go 1 (k22 7 ?_)
       refine k15 true (l18Build_c (prt (ordT A) r_21) (by assumption)).frz rfl ?_
       refine R.go 1 (k25 8 (np_meetF _ _) ?_)
       refine R.anyX 9 (.agg [LLI (tabR (hyM (prt (ordT A) r_21)) (prt (ordT A) r_21).length (prt (ordT A) r_21).length), LLI (tabR (hyJ (prt (ordT A) r_21)) (prt (ordT A) r_21).length (prt (ordT A) r_21).length), LLI (tabR (hyI (prt (ordT A) r_21)) (prt (ordT A) r_21).length (prt (ordT A) r_21).length), AI (lowF (prt (ordT A) r_21) (fullM (prt (ordT A) r_21).length)), AI (lowF (invA (prt (ordT A) r_21) (prt (ordT A) r_21).length) (fullM (prt (ordT A) r_21).length))]) (by kernel_rfl) (np_meetF _ _) ?_
       refine R.anyX 10 (.bool true) (by kernel_rfl) (np_meetF _ _) ?_
       refine k22 12 ?_
       refine R.go 2 (k22 13 ?_)
       refine R.go 2 (k21 ?_)
       exact k33 (r_21, p1_22, h1_23) (by first | assumption | omega)
     ·refine R.go 2 (k22 4 ?_)
      refine k15 true (l18Size_c A O J bo t) rfl ?_
      refine R.go 1 (k22 5 ?_)
      refine k27 (k29a 6 usC frC (k30c 8 26 [.nil, .nil, .nil, AI 0, AI 0] (k30b 7 26 [.nil, .nil, .nil, AI 0, AI 0] (k30a 6 26 [LLI A, LLI O, LLI J, AI bo, AI t] (shufP_c_r8 c p h A.length eo1 so1 no1 co1 eo2 so2 no2 co2 eo3 so3 no3 co3 eo4 so4 no4 co4 eo5 so5 no5 co5 26 5 1 [LLI A, LLI O, LLI J, AI bo, AI t] 26 5 1 [.nil, .nil, .nil, AI 0, AI 0] 26 5 1 [.nil, .nil, .nil, AI 0, AI 0] hc (by omega)))))) ?_
      rintro _ _ ⟨_, _, ⟨_, ⟨_, ⟨_, ⟨r_25, p1_26, h1_27, f28, rfl, rfl⟩, rfl⟩, rfl⟩, rfl⟩, rfl, rfl⟩
      refine R.go 1 (k22 6 ?_)
      have hPM : PMX ((ordT A).length : Int) r_25 := by rw [ordT_len]; assumption
      have hPH := prt_hy hIH.ok hPM
      refine k15 true (renP_c (ordT A) r_25 hPM hRl (by first | omega | (simp <;> omega))).frz rfl ?_
      refine R.go 1 (k22 7 ?_)
      refine k15 true (l18Build_c (prt (ordT A) r_25) (by assumption)).frz rfl ?_
      refine R.go 1 (k25 8 (np_meetF _ _) ?_)
      refine R.anyX 9 (.agg [LLI (tabR (hyM (prt (ordT A) r_25)) (prt (ordT A) r_25).length (prt (ordT A) r_25).length), LLI (tabR (hyJ (prt (ordT A) r_25)) (prt (ordT A) r_25).length (prt (ordT A) r_25).length), LLI (tabR (hyI (prt (ordT A) r_25)) (prt (ordT A) r_25).length (prt (ordT A) r_25).length), AI (lowF (prt (ordT A) r_25) (fullM (prt (ordT A) r_25).length)), AI (lowF (invA (prt (ordT A) r_25) (prt (ordT A) r_25).length) (fullM (prt (ordT A) r_25).length))]) (by kernel_rfl) (np_meetF _ _) ?_
      refine R.anyX 10 (.bool true) (by kernel_rfl) (np_meetF _ _) ?_
      refine k22 12 ?_
      refine R.go 2 (k22 13 ?_)
      refine R.go 2 (k21 ?_)
      exact k33 (r_25, p1_26, h1_27) (by first | assumption | omega)
    ·refine R.go 2 (k22 1 ?_)
     refine k15 true (l18Order_c A O J bo t hT (by first | omega | (simp <;> omega))).frz rfl ?_
     refine R.go 1 (k22 4 ?_)
     refine k15 true (l18Size_c A O J bo t) rfl ?_
     refine R.go 1 (k22 5 ?_)
     refine k27 (k29a 6 usC frC (k30c 8 26 [.nil, .nil, .nil, AI 0, AI 0] (k30b 7 26 [.nil, .nil, .nil, AI 0, AI 0] (k30a 6 26 [LLI A, LLI O, LLI J, AI bo, AI t] (shufP_c_r8 c p h A.length eo1 so1 no1 co1 eo2 so2 no2 co2 eo3 so3 no3 co3 eo4 so4 no4 co4 eo5 so5 no5 co5 26 5 1 [LLI A, LLI O, LLI J, AI bo, AI t] 26 5 1 [.nil, .nil, .nil, AI 0, AI 0] 26 5 1 [.nil, .nil, .nil, AI 0, AI 0] hc (by omega)))))) ?_
     rintro _ _ ⟨_, _, ⟨_, ⟨_, ⟨_, ⟨r_29, p1_30, h1_31, f32, rfl, rfl⟩, rfl⟩, rfl⟩, rfl⟩, rfl, rfl⟩
     refine R.go 1 (k22 6 ?_)
     have hPM : PMX ((ordT A).length : Int) r_29 := by rw [ordT_len]; assumption
     have hPH := prt_hy hIH.ok hPM
     refine k15 true (renP_c (ordT A) r_29 hPM hRl (by first | omega | (simp <;> omega))).frz rfl ?_
     refine R.go 1 (k22 7 ?_)
     refine k15 true (l18Build_c (prt (ordT A) r_29) (by assumption)).frz rfl ?_
     refine R.go 1 (k25 8 (np_meetF _ _) ?_)
     refine R.anyX 9 (.agg [LLI (tabR (hyM (prt (ordT A) r_29)) (prt (ordT A) r_29).length (prt (ordT A) r_29).length), LLI (tabR (hyJ (prt (ordT A) r_29)) (prt (ordT A) r_29).length (prt (ordT A) r_29).length), LLI (tabR (hyI (prt (ordT A) r_29)) (prt (ordT A) r_29).length (prt (ordT A) r_29).length), AI (lowF (prt (ordT A) r_29) (fullM (prt (ordT A) r_29).length)), AI (lowF (invA (prt (ordT A) r_29) (prt (ordT A) r_29).length) (fullM (prt (ordT A) r_29).length))]) (by kernel_rfl) (np_meetF _ _) ?_
     refine R.anyX 10 (.bool true) (by kernel_rfl) (np_meetF _ _) ?_
     refine k22 12 ?_
     refine R.go 2 (k22 13 ?_)
     refine R.go 2 (k21 ?_)
     exact k33 (r_29, p1_30, h1_31) (by first | assumption | omega)
   ·refine R.go 2 (k23 1 3 ?_ ?_)
    ·refine k15 true (l18Order_c A O J bo t hT (by first | omega | (simp <;> omega))).frz rfl ?_
     refine R.go 1 (k22 3 ?_)
     refine R.go 2 (k22 4 ?_)
     refine k15 true (l18Size_c A O J bo t) rfl ?_
     refine R.go 1 (k22 5 ?_)
     refine k27 (k29a 6 usC frC (k30c 8 26 [.nil, .nil, .nil, AI 0, AI 0] (k30b 7 26 [.nil, .nil, .nil, AI 0, AI 0] (k30a 6 26 [LLI A, LLI O, LLI J, AI bo, AI t] (shufP_c_r8 c p h A.length eo1 so1 no1 co1 eo2 so2 no2 co2 eo3 so3 no3 co3 eo4 so4 no4 co4 eo5 so5 no5 co5 26 5 1 [LLI A, LLI O, LLI J, AI bo, AI t] 26 5 1 [.nil, .nil, .nil, AI 0, AI 0] 26 5 1 [.nil, .nil, .nil, AI 0, AI 0] hc (by omega)))))) ?_
     rintro _ _ ⟨_, _, ⟨_, ⟨_, ⟨_, ⟨r_33, p1_34, h1_35, f36, rfl, rfl⟩, rfl⟩, rfl⟩, rfl⟩, rfl, rfl⟩
     refine R.go 1 (k22 6 ?_)
     have hPM : PMX ((ordT A).length : Int) r_33 := by rw [ordT_len]; assumption
     have hPH := prt_hy hIH.ok hPM
     refine k15 true (renP_c (ordT A) r_33 hPM hRl (by first | omega | (simp <;> omega))).frz rfl ?_
     refine R.go 1 (k22 7 ?_)
     refine k15 true (l18Build_c (prt (ordT A) r_33) (by assumption)).frz rfl ?_
     refine R.go 1 (k25 8 (np_meetF _ _) ?_)
     refine R.anyX 9 (.agg [LLI (tabR (hyM (prt (ordT A) r_33)) (prt (ordT A) r_33).length (prt (ordT A) r_33).length), LLI (tabR (hyJ (prt (ordT A) r_33)) (prt (ordT A) r_33).length (prt (ordT A) r_33).length), LLI (tabR (hyI (prt (ordT A) r_33)) (prt (ordT A) r_33).length (prt (ordT A) r_33).length), AI (lowF (prt (ordT A) r_33) (fullM (prt (ordT A) r_33).length)), AI (lowF (invA (prt (ordT A) r_33) (prt (ordT A) r_33).length) (fullM (prt (ordT A) r_33).length))]) (by kernel_rfl) (np_meetF _ _) ?_
     refine R.anyX 10 (.bool true) (by kernel_rfl) (np_meetF _ _) ?_
     refine k22 12 ?_
     refine R.go 2 (k22 13 ?_)
     refine R.go 2 (k21 ?_)
     exact k33 (r_33, p1_34, h1_35) (by first | assumption | omega)
    ·refine R.go 2 (k22 1 ?_)
     refine k15 true (l18Order_c A O J bo t hT (by first | omega | (simp <;> omega))).frz rfl ?_
     refine R.go 1 (k22 4 ?_)
     refine k15 true (l18Size_c A O J bo t) rfl ?_
     refine R.go 1 (k22 5 ?_)
     refine k27 (k29a 6 usC frC (k30c 8 26 [.nil, .nil, .nil, AI 0, AI 0] (k30b 7 26 [.nil, .nil, .nil, AI 0, AI 0] (k30a 6 26 [LLI A, LLI O, LLI J, AI bo, AI t] (shufP_c_r8 c p h A.length eo1 so1 no1 co1 eo2 so2 no2 co2 eo3 so3 no3 co3 eo4 so4 no4 co4 eo5 so5 no5 co5 26 5 1 [LLI A, LLI O, LLI J, AI bo, AI t] 26 5 1 [.nil, .nil, .nil, AI 0, AI 0] 26 5 1 [.nil, .nil, .nil, AI 0, AI 0] hc (by omega)))))) ?_
     rintro _ _ ⟨_, _, ⟨_, ⟨_, ⟨_, ⟨r_37, p1_38, h1_39, f40, rfl, rfl⟩, rfl⟩, rfl⟩, rfl⟩, rfl, rfl⟩
     refine R.go 1 (k22 6 ?_)
     have hPM : PMX ((ordT A).length : Int) r_37 := by rw [ordT_len]; assumption
     have hPH := prt_hy hIH.ok hPM
     refine k15 true (renP_c (ordT A) r_37 hPM hRl (by first | omega | (simp <;> omega))).frz rfl ?_
     refine R.go 1 (k22 7 ?_)
     refine k15 true (l18Build_c (prt (ordT A) r_37) (by assumption)).frz rfl ?_
     refine R.go 1 (k25 8 (np_meetF _ _) ?_)
     refine R.anyX 9 (.agg [LLI (tabR (hyM (prt (ordT A) r_37)) (prt (ordT A) r_37).length (prt (ordT A) r_37).length), LLI (tabR (hyJ (prt (ordT A) r_37)) (prt (ordT A) r_37).length (prt (ordT A) r_37).length), LLI (tabR (hyI (prt (ordT A) r_37)) (prt (ordT A) r_37).length (prt (ordT A) r_37).length), AI (lowF (prt (ordT A) r_37) (fullM (prt (ordT A) r_37).length)), AI (lowF (invA (prt (ordT A) r_37) (prt (ordT A) r_37).length) (fullM (prt (ordT A) r_37).length))]) (by kernel_rfl) (np_meetF _ _) ?_
     refine R.anyX 10 (.bool true) (by kernel_rfl) (np_meetF _ _) ?_
     refine k22 12 ?_
     refine R.go 2 (k22 13 ?_)
     refine R.go 2 (k21 ?_)
     exact k33 (r_37, p1_38, h1_39) (by first | assumption | omega)
  ·refine R.go 2 (k23 0 11 ?_ ?_)
   ·refine R.go 2 (k23 1 11 ?_ ?_)
    ·refine k15 true (l18Order_c A O J bo t hT (by first | omega | (simp <;> omega))).frz rfl ?_
     refine R.go 1 (k23 4 11 ?_ ?_)
     ·refine k15 true (l18Size_c A O J bo t) rfl ?_
      refine R.go 1 (k23 5 11 ?_ ?_)
      ·refine k27 (k29b 6 usC frC (k30b 7 26 [.nil, .nil, .nil, AI 0, AI 0] (k30a 6 26 [LLI A, LLI O, LLI J, AI bo, AI t] (shufP_c_r7 c p h A.length eo1 so1 no1 co1 eo2 so2 no2 co2 eo3 so3 no3 co3 eo4 so4 no4 co4 eo5 so5 no5 co5 26 5 1 [LLI A, LLI O, LLI J, AI bo, AI t] 26 5 1 [.nil, .nil, .nil, AI 0, AI 0] hc (by omega))))) ?_
       rintro _ _ ⟨_, _, ⟨_, ⟨_, ⟨r_41, p1_42, h1_43, f44, rfl, rfl⟩, rfl⟩, rfl⟩, rfl, rfl⟩
       refine R.go 1 (k23 6 11 ?_ ?_)
       ·have hPM : PMX ((ordT A).length : Int) r_41 := by rw [ordT_len]; assumption
        have hPH := prt_hy hIH.ok hPM
        refine k15 true (renP_c (ordT A) r_41 hPM hRl (by first | omega | (simp <;> omega))).frz rfl ?_
        refine R.go 1 (k23 7 11 ?_ ?_)
        ·refine k15 true (l18Build_c (prt (ordT A) r_41) (by assumption)).frz rfl ?_
         refine R.go 1 (k25 8 (np_meetF _ _) ?_)
         refine R.anyX 9 (.agg [LLI (tabR (hyM (prt (ordT A) r_41)) (prt (ordT A) r_41).length (prt (ordT A) r_41).length), LLI (tabR (hyJ (prt (ordT A) r_41)) (prt (ordT A) r_41).length (prt (ordT A) r_41).length), LLI (tabR (hyI (prt (ordT A) r_41)) (prt (ordT A) r_41).length (prt (ordT A) r_41).length), AI (lowF (prt (ordT A) r_41) (fullM (prt (ordT A) r_41).length)), AI (lowF (invA (prt (ordT A) r_41) (prt (ordT A) r_41).length) (fullM (prt (ordT A) r_41).length))]) (by kernel_rfl) (np_meetF _ _) ?_
         refine R.anyX 10 (.bool true) (by kernel_rfl) (np_meetF _ _) ?_
         refine k22 11 ?_
         refine R.go 2 (k22 12 ?_)
         refine R.go 2 (k22 13 ?_)
         refine R.go 2 (k21 ?_)
         exact k33 (r_41, p1_42, h1_43) (by first | assumption | omega)
        ·refine R.go 2 (k22 7 ?_)
         refine k15 true (l18Build_c (prt (ordT A) r_41) (by assumption)).frz rfl ?_
         refine R.go 1 (k25 8 (np_meetF _ _) ?_)
         refine R.anyX 9 (.agg [LLI (tabR (hyM (prt (ordT A) r_41)) (prt (ordT A) r_41).length (prt (ordT A) r_41).length), LLI (tabR (hyJ (prt (ordT A) r_41)) (prt (ordT A) r_41).length (prt (ordT A) r_41).length), LLI (tabR (hyI (prt (ordT A) r_41)) (prt (ordT A) r_41).length (prt (ordT A) r_41).length), AI (lowF (prt (ordT A) r_41) (fullM (prt (ordT A) r_41).length)), AI (lowF (invA (prt (ordT A) r_41) (prt (ordT A) r_41).length) (fullM (prt (ordT A) r_41).length))]) (by kernel_rfl) (np_meetF _ _) ?_
         refine R.anyX 10 (.bool true) (by kernel_rfl) (np_meetF _ _) ?_
         refine k22 12 ?_
         refine R.go 2 (k22 13 ?_)
         refine R.go 2 (k21 ?_)
         exact k33 (r_41, p1_42, h1_43) (by first | assumption | omega)
       ·refine R.go 2 (k22 6 ?_)
        have hPM : PMX ((ordT A).length : Int) r_41 := by rw [ordT_len]; assumption
        have hPH := prt_hy hIH.ok hPM
        refine k15 true (renP_c (ordT A) r_41 hPM hRl (by first | omega | (simp <;> omega))).frz rfl ?_
        refine R.go 1 (k22 7 ?_)
        refine k15 true (l18Build_c (prt (ordT A) r_41) (by assumption)).frz rfl ?_
        refine R.go 1 (k25 8 (np_meetF _ _) ?_)
        refine R.anyX 9 (.agg [LLI (tabR (hyM (prt (ordT A) r_41)) (prt (ordT A) r_41).length (prt (ordT A) r_41).length), LLI (tabR (hyJ (prt (ordT A) r_41)) (prt (ordT A) r_41).length (prt (ordT A) r_41).length), LLI (tabR (hyI (prt (ordT A) r_41)) (prt (ordT A) r_41).length (prt (ordT A) r_41).length), AI (lowF (prt (ordT A) r_41) (fullM (prt (ordT A) r_41).length)), AI (lowF (invA (prt (ordT A) r_41) (prt (ordT A) r_41).length) (fullM (prt (ordT A) r_41).length))]) (by kernel_rfl) (np_meetF _ _) ?_
        refine R.anyX 10 (.bool true) (by kernel_rfl) (np_meetF _ _) ?_
        refine k22 12 ?_
        refine R.go 2 (k22 13 ?_)
        refine R.go 2 (k21 ?_)
        exact k33 (r_41, p1_42, h1_43) (by first | assumption | omega)
      ·refine R.go 2 (k22 5 ?_)
       refine k27 (k29a 6 usC frC (k30c 8 26 [.nil, .nil, .nil, AI 0, AI 0] (k30b 7 26 [.nil, .nil, .nil, AI 0, AI 0] (k30a 6 26 [LLI A, LLI O, LLI J, AI bo, AI t] (shufP_c_r8 c p h A.length eo1 so1 no1 co1 eo2 so2 no2 co2 eo3 so3 no3 co3 eo4 so4 no4 co4 eo5 so5 no5 co5 26 5 1 [LLI A, LLI O, LLI J, AI bo, AI t] 26 5 1 [.nil, .nil, .nil, AI 0, AI 0] 26 5 1 [.nil, .nil, .nil, AI 0, AI 0] hc (by omega)))))) ?_
       rintro _ _ ⟨_, _, ⟨_, ⟨_, ⟨_, ⟨r_45, p1_46, h1_47, f48, rfl, rfl⟩, rfl⟩, rfl⟩, rfl⟩, rfl, rfl⟩
       refine R.go 1 (k22 6 ?_)
       have hPM : PMX ((ordT A).length : Int) r_45 := by rw [ordT_len]; assumption
       have hPH := prt_hy hIH.ok hPM
       refine k15 true (renP_c (ordT A) r_45 hPM hRl (by first | omega | (simp <;> omega))).frz rfl ?_
       refine R.go 1 (k22 7 ?_)
       refine k15 true (l18Build_c (prt (ordT A) r_45) (by assumption)).frz rfl ?_
       refine R.go 1 (k25 8 (np_meetF _ _) ?_)
       refine R.anyX 9 (.agg [LLI (tabR (hyM (prt (ordT A) r_45)) (prt (ordT A) r_45).length (prt (ordT A) r_45).length), LLI (tabR (hyJ (prt (ordT A) r_45)) (prt (ordT A) r_45).length (prt (ordT A) r_45).length), LLI (tabR (hyI (prt (ordT A) r_45)) (prt (ordT A) r_45).length (prt (ordT A) r_45).length), AI (lowF (prt (ordT A) r_45) (fullM (prt (ordT A) r_45).length)), AI (lowF (invA (prt (ordT A) r_45) (prt (ordT A) r_45).length) (fullM (prt (ordT A) r_45).length))]) (by kernel_rfl) (np_meetF _ _) ?_
       refine R.anyX 10 (.bool true) (by kernel_rfl) (np_meetF _ _) ?_
       refine k22 12 ?_
       refine R.go 2 (k22 13 ?_)
       refine R.go 2 (k21 ?_)
       exact k33 (r_45, p1_46, h1_47) (by first | assumption | omega)
     ·refine R.go 2 (k22 4 ?_)
      refine k15 true (l18Size_c A O J bo t) rfl ?_
      refine R.go 1 (k22 5 ?_)
      refine k27 (k29a 6 usC frC (k30c 8 26 [.nil, .nil, .nil, AI 0, AI 0] (k30b 7 26 [.nil, .nil, .nil, AI 0, AI 0] (k30a 6 26 [LLI A, LLI O, LLI J, AI bo, AI t] (shufP_c_r8 c p h A.length eo1 so1 no1 co1 eo2 so2 no2 co2 eo3 so3 no3 co3 eo4 so4 no4 co4 eo5 so5 no5 co5 26 5 1 [LLI A, LLI O, LLI J, AI bo, AI t] 26 5 1 [.nil, .nil, .nil, AI 0, AI 0] 26 5 1 [.nil, .nil, .nil, AI 0, AI 0] hc (by omega)))))) ?_
      rintro _ _ ⟨_, _, ⟨_, ⟨_, ⟨_, ⟨r_49, p1_50, h1_51, f52, rfl, rfl⟩, rfl⟩, rfl⟩, rfl⟩, rfl, rfl⟩
      refine R.go 1 (k22 6 ?_)
      have hPM : PMX ((ordT A).length : Int) r_49 := by rw [ordT_len]; assumption
      have hPH := prt_hy hIH.ok hPM
      refine k15 true (renP_c (ordT A) r_49 hPM hRl (by first | omega | (simp <;> omega))).frz rfl ?_
      refine R.go 1 (k22 7 ?_)
      refine k15 true (l18Build_c (prt (ordT A) r_49) (by assumption)).frz rfl ?_
      refine R.go 1 (k25 8 (np_meetF _ _) ?_)
      refine R.anyX 9 (.agg [LLI (tabR (hyM (prt (ordT A) r_49)) (prt (ordT A) r_49).length (prt (ordT A) r_49).length), LLI (tabR (hyJ (prt (ordT A) r_49)) (prt (ordT A) r_49).length (prt (ordT A) r_49).length), LLI (tabR (hyI (prt (ordT A) r_49)) (prt (ordT A) r_49).length (prt (ordT A) r_49).length), AI (lowF (prt (ordT A) r_49) (fullM (prt (ordT A) r_49).length)), AI (lowF (invA (prt (ordT A) r_49) (prt (ordT A) r_49).length) (fullM (prt (ordT A) r_49).length))]) (by kernel_rfl) (np_meetF _ _) ?_
      refine R.anyX 10 (.bool true) (by kernel_rfl) (np_meetF _ _) ?_
      refine k22 12 ?_
      refine R.go 2 (k22 13 ?_)
      refine R.go 2 (k21 ?_)
      exact k33 (r_49, p1_50, h1_51) (by first | assumption | omega)
    ·refine R.go 2 (k22 1 ?_)
     refine k15 true (l18Order_c A O J bo t hT (by first | omega | (simp <;> omega))).frz rfl ?_
     refine R.go 1 (k22 4 ?_)
     refine k15 true (l18Size_c A O J bo t) rfl ?_
     refine R.go 1 (k22 5 ?_)
     refine k27 (k29a 6 usC frC (k30c 8 26 [.nil, .nil, .nil, AI 0, AI 0] (k30b 7 26 [.nil, .nil, .nil, AI 0, AI 0] (k30a 6 26 [LLI A, LLI O, LLI J, AI bo, AI t] (shufP_c_r8 c p h A.length eo1 so1 no1 co1 eo2 so2 no2 co2 eo3 so3 no3 co3 eo4 so4 no4 co4 eo5 so5 no5 co5 26 5 1 [LLI A, LLI O, LLI J, AI bo, AI t] 26 5 1 [.nil, .nil, .nil, AI 0, AI 0] 26 5 1 [.nil, .nil, .nil, AI 0, AI 0] hc (by omega)))))) ?_
     rintro _ _ ⟨_, _, ⟨_, ⟨_, ⟨_, ⟨r_53, p1_54, h1_55, f56, rfl, rfl⟩, rfl⟩, rfl⟩, rfl⟩, rfl, rfl⟩
     refine R.go 1 (k22 6 ?_)
     have hPM : PMX ((ordT A).length : Int) r_53 := by rw [ordT_len]; assumption
     have hPH := prt_hy hIH.ok hPM
     refine k15 true (renP_c (ordT A) r_53 hPM hRl (by first | omega | (simp <;> omega))).frz rfl ?_
     refine R.go 1 (k22 7 ?_)
     refine k15 true (l18Build_c (prt (ordT A) r_53) (by assumption)).frz rfl ?_
     refine R.go 1 (k25 8 (np_meetF _ _) ?_)
     refine R.anyX 9 (.agg [LLI (tabR (hyM (prt (ordT A) r_53)) (prt (ordT A) r_53).length (prt (ordT A) r_53).length), LLI (tabR (hyJ (prt (ordT A) r_53)) (prt (ordT A) r_53).length (prt (ordT A) r_53).length), LLI (tabR (hyI (prt (ordT A) r_53)) (prt (ordT A) r_53).length (prt (ordT A) r_53).length), AI (lowF (prt (ordT A) r_53) (fullM (prt (ordT A) r_53).length)), AI (lowF (invA (prt (ordT A) r_53) (prt (ordT A) r_53).length) (fullM (prt (ordT A) r_53).length))]) (by kernel_rfl) (np_meetF _ _) ?_
     refine R.anyX 10 (.bool true) (by kernel_rfl) (np_meetF _ _) ?_
     refine k22 12 ?_
     refine R.go 2 (k22 13 ?_)
     refine R.go 2 (k21 ?_)
     exact k33 (r_53, p1_54, h1_55) (by first | assumption | omega)
   ·refine R.go 2 (k22 0 ?_)
    refine R.go 2 (k22 1 ?_)
    refine k15 true (l18Order_c A O J bo t hT (by first | omega | (simp <;> omega))).frz rfl ?_
    refine R.go 1 (k22 4 ?_)
    refine k15 true (l18Size_c A O J bo t) rfl ?_
    refine R.go 1 (k22 5 ?_)
    refine k27 (k29a 6 usC frC (k30c 8 26 [.nil, .nil, .nil, AI 0, AI 0] (k30b 7 26 [.nil, .nil, .nil, AI 0, AI 0] (k30a 6 26 [LLI A, LLI O, LLI J, AI bo, AI t] (shufP_c_r8 c p h A.length eo1 so1 no1 co1 eo2 so2 no2 co2 eo3 so3 no3 co3 eo4 so4 no4 co4 eo5 so5 no5 co5 26 5 1 [LLI A, LLI O, LLI J, AI bo, AI t] 26 5 1 [.nil, .nil, .nil, AI 0, AI 0] 26 5 1 [.nil, .nil, .nil, AI 0, AI 0] hc (by omega)))))) ?_
    rintro _ _ ⟨_, _, ⟨_, ⟨_, ⟨_, ⟨r_57, p1_58, h1_59, f60, rfl, rfl⟩, rfl⟩, rfl⟩, rfl⟩, rfl, rfl⟩
    refine R.go 1 (k22 6 ?_)
    have hPM : PMX ((ordT A).length : Int) r_57 := by rw [ordT_len]; assumption
    have hPH := prt_hy hIH.ok hPM
    refine k15 true (renP_c (ordT A) r_57 hPM hRl (by first | omega | (simp <;> omega))).frz rfl ?_
    refine R.go 1 (k22 7 ?_)
    refine k15 true (l18Build_c (prt (ordT A) r_57) (by assumption)).frz rfl ?_
    refine R.go 1 (k25 8 (np_meetF _ _) ?_)
    refine R.anyX 9 (.agg [LLI (tabR (hyM (prt (ordT A) r_57)) (prt (ordT A) r_57).length (prt (ordT A) r_57).length), LLI (tabR (hyJ (prt (ordT A) r_57)) (prt (ordT A) r_57).length (prt (ordT A) r_57).length), LLI (tabR (hyI (prt (ordT A) r_57)) (prt (ordT A) r_57).length (prt (ordT A) r_57).length), AI (lowF (prt (ordT A) r_57) (fullM (prt (ordT A) r_57).length)), AI (lowF (invA (prt (ordT A) r_57) (prt (ordT A) r_57).length) (fullM (prt (ordT A) r_57).length))]) (by kernel_rfl) (np_meetF _ _) ?_
    refine R.anyX 10 (.bool true) (by kernel_rfl) (np_meetF _ _) ?_
    refine k22 12 ?_
    refine R.go 2 (k22 13 ?_)
    refine R.go 2 (k21 ?_)
    exact k33 (r_57, p1_58, h1_59) (by first | assumption | omega)
  ·refine R.go 2 (k23 0 3 ?_ ?_)
   ·refine R.go 2 (k23 1 3 ?_ ?_)
    ·refine k15 true (l18Order_c A O J bo t hT (by first | omega | (simp <;> omega))).frz rfl ?_
     refine R.go 1 (k22 3 ?_)
     refine R.go 2 (k22 4 ?_)
     refine k15 true (l18Size_c A O J bo t) rfl ?_
     refine R.go 1 (k22 5 ?_)
     refine k27 (k29a 6 usC frC (k30c 8 26 [.nil, .nil, .nil, AI 0, AI 0] (k30b 7 26 [.nil, .nil, .nil, AI 0, AI 0] (k30a 6 26 [LLI A, LLI O, LLI J, AI bo, AI t] (shufP_c_r8 c p h A.length eo1 so1 no1 co1 eo2 so2 no2 co2 eo3 so3 no3 co3 eo4 so4 no4 co4 eo5 so5 no5 co5 26 5 1 [LLI A, LLI O, LLI J, AI bo, AI t] 26 5 1 [.nil, .nil, .nil, AI 0, AI 0] 26 5 1 [.nil, .nil, .nil, AI 0, AI 0] hc (by omega)))))) ?_
     rintro _ _ ⟨_, _, ⟨_, ⟨_, ⟨_, ⟨r_61, p1_62, h1_63, f64, rfl, rfl⟩, rfl⟩, rfl⟩, rfl⟩, rfl, rfl⟩
     refine R.go 1 (k22 6 ?_)
     have hPM : PMX ((ordT A).length : Int) r_61 := by rw [ordT_len]; assumption
     have hPH := prt_hy hIH.ok hPM
     refine k15 true (renP_c (ordT A) r_61 hPM hRl (by first | omega | (simp <;> omega))).frz rfl ?_
     refine R.go 1 (k22 7 ?_)
     refine k15 true (l18Build_c (prt (ordT A) r_61) (by assumption)).frz rfl ?_
     refine R.go 1 (k25 8 (np_meetF _ _) ?_)
     refine R.anyX 9 (.agg [LLI (tabR (hyM (prt (ordT A) r_61)) (prt (ordT A) r_61).length (prt (ordT A) r_61).length), LLI (tabR (hyJ (prt (ordT A) r_61)) (prt (ordT A) r_61).length (prt (ordT A) r_61).length), LLI (tabR (hyI (prt (ordT A) r_61)) (prt (ordT A) r_61).length (prt (ordT A) r_61).length), AI (lowF (prt (ordT A) r_61) (fullM (prt (ordT A) r_61).length)), AI (lowF (invA (prt (ordT A) r_61) (prt (ordT A) r_61).length) (fullM (prt (ordT A) r_61).length))]) (by kernel_rfl) (np_meetF _ _) ?_
     refine R.anyX 10 (.bool true) (by kernel_rfl) (np_meetF _ _) ?_
     refine k22 12 ?_
     refine R.go 2 (k22 13 ?_)
     refine R.go 2 (k21 ?_)
     exact k33 (r_61, p1_62, h1_63) (by first | assumption | omega)
    ·refine R.go 2 (k22 1 ?_)
     refine k15 true (l18Order_c A O J bo t hT (by first | omega | (simp <;> omega))).frz rfl ?_
     refine R.go 1 (k22 4 ?_)
     refine k15 true (l18Size_c A O J bo t) rfl ?_
     refine R.go 1 (k22 5 ?_)
     refine k27 (k29a 6 usC frC (k30c 8 26 [.nil, .nil, .nil, AI 0, AI 0] (k30b 7 26 [.nil, .nil, .nil, AI 0, AI 0] (k30a 6 26 [LLI A, LLI O, LLI J, AI bo, AI t] (shufP_c_r8 c p h A.length eo1 so1 no1 co1 eo2 so2 no2 co2 eo3 so3 no3 co3 eo4 so4 no4 co4 eo5 so5 no5 co5 26 5 1 [LLI A, LLI O, LLI J, AI bo, AI t] 26 5 1 [.nil, .nil, .nil, AI 0, AI 0] 26 5 1 [.nil, .nil, .nil, AI 0, AI 0] hc (by omega)))))) ?_
     rintro _ _ ⟨_, _, ⟨_, ⟨_, ⟨_, ⟨r_65, p1_66, h1_67, f68, rfl, rfl⟩, rfl⟩, rfl⟩, rfl⟩, rfl, rfl⟩
     refine R.go 1 (k22 6 ?_)
     have hPM : PMX ((ordT A).length : Int) r_65 := by rw [ordT_len]; assumption
     have hPH := prt_hy hIH.ok hPM
     refine k15 true (renP_c (ordT A) r_65 hPM hRl (by first | omega | (simp <;> omega))).frz rfl ?_
     refine R.go 1 (k22 7 ?_)
     refine k15 true (l18Build_c (prt (ordT A) r_65) (by assumption)).frz rfl ?_
     refine R.go 1 (k25 8 (np_meetF _ _) ?_)
     refine R.anyX 9 (.agg [LLI (tabR (hyM (prt (ordT A) r_65)) (prt (ordT A) r_65).length (prt (ordT A) r_65).length), LLI (tabR (hyJ (prt (ordT A) r_65)) (prt (ordT A) r_65).length (prt (ordT A) r_65).length), LLI (tabR (hyI (prt (ordT A) r_65)) (prt (ordT A) r_65).length (prt (ordT A) r_65).length), AI (lowF (prt (ordT A) r_65) (fullM (prt (ordT A) r_65).length)), AI (lowF (invA (prt (ordT A) r_65) (prt (ordT A) r_65).length) (fullM (prt (ordT A) r_65).length))]) (by kernel_rfl) (np_meetF _ _) ?_
     refine R.anyX 10 (.bool true) (by kernel_rfl) (np_meetF _ _) ?_
     refine k22 12 ?_
     refine R.go 2 (k22 13 ?_)
     refine R.go 2 (k21 ?_)
     exact k33 (r_65, p1_66, h1_67) (by first | assumption | omega)
   ·refine R.go 2 (k22 0 ?_)
    refine R.go 2 (k22 1 ?_)
    refine k15 true (l18Order_c A O J bo t hT (by first | omega | (simp <;> omega))).frz rfl ?_
    refine R.go 1 (k22 4 ?_)
    refine k15 true (l18Size_c A O J bo t) rfl ?_
    refine R.go 1 (k22 5 ?_)
    refine k27 (k29a 6 usC frC (k30c 8 26 [.nil, .nil, .nil, AI 0, AI 0] (k30b 7 26 [.nil, .nil, .nil, AI 0, AI 0] (k30a 6 26 [LLI A, LLI O, LLI J, AI bo, AI t] (shufP_c_r8 c p h A.length eo1 so1 no1 co1 eo2 so2 no2 co2 eo3 so3 no3 co3 eo4 so4 no4 co4 eo5 so5 no5 co5 26 5 1 [LLI A, LLI O, LLI J, AI bo, AI t] 26 5 1 [.nil, .nil, .nil, AI 0, AI 0] 26 5 1 [.nil, .nil, .nil, AI 0, AI 0] hc (by omega)))))) ?_
    rintro _ _ ⟨_, _, ⟨_, ⟨_, ⟨_, ⟨r_69, p1_70, h1_71, f72, rfl, rfl⟩, rfl⟩, rfl⟩, rfl⟩, rfl, rfl⟩
    refine R.go 1 (k22 6 ?_)
    have hPM : PMX ((ordT A).length : Int) r_69 := by rw [ordT_len]; assumption
    have hPH := prt_hy hIH.ok hPM
    refine k15 true (renP_c (ordT A) r_69 hPM hRl (by first | omega | (simp <;> omega))).frz rfl ?_
    refine R.go 1 (k22 7 ?_)
    refine k15 true (l18Build_c (prt (ordT A) r_69) (by assumption)).frz rfl ?_
    refine R.go 1 (k25 8 (np_meetF _ _) ?_)
    refine R.anyX 9 (.agg [LLI (tabR (hyM (prt (ordT A) r_69)) (prt (ordT A) r_69).length (prt (ordT A) r_69).length), LLI (tabR (hyJ (prt (ordT A) r_69)) (prt (ordT A) r_69).length (prt (ordT A) r_69).length), LLI (tabR (hyI (prt (ordT A) r_69)) (prt (ordT A) r_69).length (prt (ordT A) r_69).length), AI (lowF (prt (ordT A) r_69) (fullM (prt (ordT A) r_69).length)), AI (lowF (invA (prt (ordT A) r_69) (prt (ordT A) r_69).length) (fullM (prt (ordT A) r_69).length))]) (by kernel_rfl) (np_meetF _ _) ?_
    refine R.anyX 10 (.bool true) (by kernel_rfl) (np_meetF _ _) ?_
    refine k22 12 ?_
    refine R.go 2 (k22 13 ?_)
    refine R.go 2 (k21 ?_)
    exact k33 (r_69, p1_70, h1_71) (by first | assumption | omega)
 ·rintro ⟨r_1, p1_2, h1_3⟩ f4
  exact R.go 5 (R.retX (res := .agg [LLI (tabR (hyM (prt (ordT A) r_1)) (prt (ordT A) r_1).length (prt (ordT A) r_1).length), LLI (tabR (hyJ (prt (ordT A) r_1)) (prt (ordT A) r_1).length (prt (ordT A) r_1).length), LLI (tabR (hyI (prt (ordT A) r_1)) (prt (ordT A) r_1).length (prt (ordT A) r_1).length), AI (lowF (prt (ordT A) r_1) (fullM (prt (ordT A) r_1).length)), AI (lowF (invA (prt (ordT A) r_1) (prt (ordT A) r_1).length) (fullM (prt (ordT A) r_1).length))]) (hp' := [.box 157 [LB c, AI (p1_2 : Int), .int .u64 h1_3], .list eo1 so1 no1 co1, .list eo2 so2 no2 co2, .list eo3 so3 no3 co3, .list eo4 so4 no4 co4, .list eo5 so5 no5 co5, .dead, .box 26 [LLI A, LLI O, LLI J, AI bo, AI t], .box 26 [LLI (tabR (hyM (prt (ordT A) r_1)) (prt (ordT A) r_1).length (prt (ordT A) r_1).length), LLI (tabR (hyJ (prt (ordT A) r_1)) (prt (ordT A) r_1).length (prt (ordT A) r_1).length), LLI (tabR (hyI (prt (ordT A) r_1)) (prt (ordT A) r_1).length (prt (ordT A) r_1).length), AI (lowF (prt (ordT A) r_1) (fullM (prt (ordT A) r_1).length)), AI (lowF (invA (prt (ordT A) r_1) (prt (ordT A) r_1).length) (fullM (prt (ordT A) r_1).length))], .box 26 [LLI (tabR (hyM (prt (ordT A) r_1)) (prt (ordT A) r_1).length (prt (ordT A) r_1).length), LLI (tabR (hyJ (prt (ordT A) r_1)) (prt (ordT A) r_1).length (prt (ordT A) r_1).length), LLI (tabR (hyI (prt (ordT A) r_1)) (prt (ordT A) r_1).length (prt (ordT A) r_1).length), AI (lowF (prt (ordT A) r_1) (fullM (prt (ordT A) r_1).length)), AI (lowF (invA (prt (ordT A) r_1) (prt (ordT A) r_1).length) (fullM (prt (ordT A) r_1).length))]]) (by kernel_rfl) (by kernel_rfl) (by kernel_rfl) (by kernel_rfl) ⟨[0, 1, 2, 3, 4, 5], by kernel_rfl, by decide, tabR (hyM (prt (ordT A) r_1)) (prt (ordT A) r_1).length (prt (ordT A) r_1).length, tabR (hyJ (prt (ordT A) r_1)) (prt (ordT A) r_1).length (prt (ordT A) r_1).length, tabR (hyI (prt (ordT A) r_1)) (prt (ordT A) r_1).length (prt (ordT A) r_1).length, lowF (prt (ordT A) r_1) (fullM (prt (ordT A) r_1).length), lowF (invA (prt (ordT A) r_1) (prt (ordT A) r_1).length) (fullM (prt (ordT A) r_1).length), p1_2, h1_3, by first | exact mkHy (prt_hy hIH.ok (by rw [ordT_len]; assumption)) | (rw [tabR_len, prt_len]; have hq8 := (by assumption : PMX (A.length : Int) _).1; omega), by first | exact mkHy (prt_hy hIH.ok (by rw [ordT_len]; assumption)) | (rw [tabR_len, prt_len]; have hq8 := (by assumption : PMX (A.length : Int) _).1; omega), by kernel_rfl, by kernel_rfl⟩)

set_option maxHeartbeats 1000000 in
theorem someH_c_r2 (c : List Int) (p : Nat) (h : Int) (most : Int) (eo1 : Nat) (so1 : Nat) (no1 : Nat) (co1 : List AV) (eo2 : Nat) (so2 : Nat) (no2 : Nat) (co2 : List AV) (hc : BY c) (hm : 1 ≤ most ∧ most ≤ 14) : CallX Tryz.prog 130 [.ptr 0 0, AI most] [.box 157 [LB c, AI (p : Int), .int .u64 h], .list eo1 so1 no1 co1, .list eo2 so2 no2 co2] (fun (resX : AV) (objX : List AObj) => ∃ A2 : List (List Int), ∃ O2 : List (List Int), ∃ J2 : List (List Int), ∃ b2 : Int, ∃ t2 : Int, ∃ p1 : Nat, ∃ h1 : Int, (IsHy (ordT A2) A2 O2 J2 b2 t2) ∧ ((A2.length : Int) ≤ most) ∧ resX = .agg [LLI A2, LLI O2, LLI J2, AI b2, AI t2] ∧ objX = [.box 157 [LB c, AI (p1 : Int), .int .u64 h1], .list eo1 so1 no1 co1, .list eo2 so2 no2 co2]) := by
 have hcl : c.length ≤ 4096 := hc.1
 have hcb := hc.2
 refine CallX.dropE (CallX.ofF Tryz.func130 rfl (by kernel_rfl) ?_)
 intro usC frC hfC
 refine R.go 10 (k16 ((fun | (k, q, hq) => (⟨(frm 38 [(0, .ptr 0 0), (1, AI most), (4, .ptr 4 0), (5, AI (k : Int))]), [.box 157 [LB c, AI (q : Int), .int .u64 hq], .list eo1 so1 no1 co1, .list eo2 so2 no2 co2, .frame usC frC, .box 26 [.nil, .nil, .nil, AI 0, AI 0]]⟩ : St) : Nat × Nat × Int → St)) (fun | (k, q, hq) => k ≤ 8) (fun | (k, q, hq) => 8 - k) (0, p, h) [0, 1, 4, 5] none (by omega) ?_)
 rintro ⟨k, q, hq⟩ h4_1 R1 N2
 refine R.go 6 (k3 ((k : Int) < 8) (fun c5 => ?_) (fun c5 => ?_))
 ·refine R.go 6 (k27 (k29h 3 usC frC (k30d 3 26 [.nil, .nil, .nil, AI 0, AI 0] (somePo_c_r3 c q hq 5 eo1 so1 no1 co1 eo2 so2 no2 co2 26 5 1 [.nil, .nil, .nil, AI 0, AI 0] hc (by omega)))) ?_)
  rintro _ _ ⟨_, _, ⟨_, ⟨n_6, xs_7, p1_8, h1_9, f10, f11, rfl, rfl⟩, rfl⟩, rfl, rfl⟩
  refine k19 5 ?_
  refine R.kfix 3 (us := usC) (by kernel_rfl) (hfC.frz 5 (LI xs_7) (Nat.le_of_ble_eq_true (by kernel_rfl))) ?_
  refine R.go 7 (R.deadF 5 (by kernel_rfl) (by kernel_rfl) ?_)
  refine k27 (k29d 3 usC frC (k29b 4 [] [] (k30b 4 35 [AI n_6, LI xs_7] (k30a 3 26 [.nil, .nil, .nil, AI 0, AI 0] (nextX_c_r4 c p1_8 h1_9 2 eo1 so1 no1 co1 eo2 so2 no2 co2 26 5 1 [.nil, .nil, .nil, AI 0, AI 0] 35 2 1 [AI n_6, LI xs_7] hc))))) ?_
  rintro _ _ ⟨_, _, ⟨_, _, ⟨_, ⟨_, ⟨v_12, p1_13, h1_14, f15, rfl, rfl⟩, rfl⟩, rfl⟩, rfl, rfl⟩, rfl, rfl⟩
  refine R.go 2 (k3 (v_12 = 0) (fun c16 => ?_) (fun c16 => ?_))
  ·refine R.go 2 (k27 (k29a 3 usC frC (k29a 4 [] [] (k30i 4 35 [AI n_6, LI xs_7] (k30d 3 26 [.nil, .nil, .nil, AI 0, AI 0] (rootPo_c_r4 c p1_13 h1_14 5 eo1 so1 no1 co1 eo2 so2 no2 co2 26 5 1 [.nil, .nil, .nil, AI 0, AI 0] 35 2 1 [AI n_6, LI xs_7] hc (by omega)))) (h3 := by rintro _ _ ⟨_, ⟨_, ⟨_, _, _, _, _, _, rfl, rfl⟩, rfl⟩, rfl⟩; exact Nat.le_of_ble_eq_true (by kernel_rfl))) (h3 := by rintro _ _ ⟨_, _, ⟨_, ⟨_, ⟨_, _, _, _, _, _, rfl, rfl⟩, rfl⟩, rfl⟩, rfl, rfl⟩; exact Nat.le_of_ble_eq_true (by kernel_rfl))) ?_)
   rintro _ _ ⟨_, _, ⟨_, _, ⟨_, ⟨_, ⟨n_17, xs_18, p1_19, h1_20, f21, f22, rfl, rfl⟩, rfl⟩, rfl⟩, rfl, rfl⟩, rfl, rfl⟩
   refine k19 7 ?_
   refine R.kfix 3 (us := usC) (by kernel_rfl) (hfC.frz 7 (LI xs_18) (Nat.le_of_ble_eq_true (by kernel_rfl))) ?_
   have hpl := po_len (by assumption : okPo n_17 xs_18 = true)
   have hpl1 := hpl.1
   have hpl2 := hpl.2.1
   have hpl3 := hpl.2.2.1
   refine R.go 5 (k15 true (l16Upsets_c n_17 xs_18 f22).frz rfl ?_)
   refine R.go 4 (k3 (((upL n_17 xs_18).length : Int) ≤ most) (fun c23 => ?_) (fun c23 => ?_))
   ·refine R.go 3 (k15 true (l18Of_c n_17 xs_18 f22 (by first | omega | (simp <;> omega))).frz rfl ?_)
    have hUH : HyOK (ordU (upL n_17 xs_18)) := up_hy (by assumption) (by omega)
    have hol := ordU_len (upL n_17 xs_18)
    refine R.go 7 (R.deadF 7 (by kernel_rfl) (by kernel_rfl) ?_)
    refine k27 (k29a 3 usC frC (k29i 4 [] [] (k29a 5 [] [] (k30c 5 26 [LLI (tabR (hyM (ordU (upL n_17 xs_18))) (ordU (upL n_17 xs_18)).length (ordU (upL n_17 xs_18)).length), LLI (tabR (hyJ (ordU (upL n_17 xs_18))) (ordU (upL n_17 xs_18)).length (ordU (upL n_17 xs_18)).length), LLI (tabR (hyI (ordU (upL n_17 xs_18))) (ordU (upL n_17 xs_18)).length (ordU (upL n_17 xs_18)).length), AI (lowF (ordU (upL n_17 xs_18)) (fullM (ordU (upL n_17 xs_18)).length)), AI (lowF (invA (ordU (upL n_17 xs_18)) (ordU (upL n_17 xs_18)).length) (fullM (ordU (upL n_17 xs_18)).length))] (k30b 4 35 [AI n_17, LI xs_18] (k30a 3 26 [.nil, .nil, .nil, AI 0, AI 0] (nextX_c_r5 c p1_19 h1_20 3 eo1 so1 no1 co1 eo2 so2 no2 co2 26 5 1 [.nil, .nil, .nil, AI 0, AI 0] 35 2 1 [AI n_17, LI xs_18] 26 5 1 [LLI (tabR (hyM (ordU (upL n_17 xs_18))) (ordU (upL n_17 xs_18)).length (ordU (upL n_17 xs_18)).length), LLI (tabR (hyJ (ordU (upL n_17 xs_18))) (ordU (upL n_17 xs_18)).length (ordU (upL n_17 xs_18)).length), LLI (tabR (hyI (ordU (upL n_17 xs_18))) (ordU (upL n_17 xs_18)).length (ordU (upL n_17 xs_18)).length), AI (lowF (ordU (upL n_17 xs_18)) (fullM (ordU (upL n_17 xs_18)).length)), AI (lowF (invA (ordU (upL n_17 xs_18)) (ordU (upL n_17 xs_18)).length) (fullM (ordU (upL n_17 xs_18)).length))] hc)))))) (h3 := by rintro _ _ ⟨_, _, ⟨_, _, ⟨_, ⟨_, ⟨_, ⟨_, _, _, _, rfl, rfl⟩, rfl⟩, rfl⟩, rfl⟩, rfl, rfl⟩, rfl, rfl⟩; exact Nat.le_of_ble_eq_true (by kernel_rfl))) ?_
    rintro _ _ ⟨_, _, ⟨_, _, ⟨_, _, ⟨_, ⟨_, ⟨_, ⟨v_24, p1_25, h1_26, f27, rfl, rfl⟩, rfl⟩, rfl⟩, rfl⟩, rfl, rfl⟩, rfl, rfl⟩, rfl, rfl⟩
    refine R.go 2 (k3 (v_24 = 0) (fun c28 => ?_) (fun c28 => ?_))
    ·refine R.go 4 (k27 (k29a 3 usC frC (k29j 4 [] [] (k29k 5 [] [] (k30g 5 26 [LLI (tabR (hyM (ordU (upL n_17 xs_18))) (ordU (upL n_17 xs_18)).length (ordU (upL n_17 xs_18)).length), LLI (tabR (hyJ (ordU (upL n_17 xs_18))) (ordU (upL n_17 xs_18)).length (ordU (upL n_17 xs_18)).length), LLI (tabR (hyI (ordU (upL n_17 xs_18))) (ordU (upL n_17 xs_18)).length (ordU (upL n_17 xs_18)).length), AI (lowF (ordU (upL n_17 xs_18)) (fullM (ordU (upL n_17 xs_18)).length)), AI (lowF (invA (ordU (upL n_17 xs_18)) (ordU (upL n_17 xs_18)).length) (fullM (ordU (upL n_17 xs_18)).length))] (k30h 4 35 [AI n_17, LI xs_18] (k30e 3 26 [.nil, .nil, .nil, AI 0, AI 0] (mixX_c_r5 c p1_25 h1_26 (tabR (hyM (ordU (upL n_17 xs_18))) (ordU (upL n_17 xs_18)).length (ordU (upL n_17 xs_18)).length) (tabR (hyJ (ordU (upL n_17 xs_18))) (ordU (upL n_17 xs_18)).length (ordU (upL n_17 xs_18)).length) (tabR (hyI (ordU (upL n_17 xs_18))) (ordU (upL n_17 xs_18)).length (ordU (upL n_17 xs_18)).length) (lowF (ordU (upL n_17 xs_18)) (fullM (ordU (upL n_17 xs_18)).length)) (lowF (invA (ordU (upL n_17 xs_18)) (ordU (upL n_17 xs_18)).length) (fullM (ordU (upL n_17 xs_18)).length)) eo1 so1 no1 co1 eo2 so2 no2 co2 26 5 1 [.nil, .nil, .nil, AI 0, AI 0] 35 2 1 [AI n_17, LI xs_18] 26 5 1 [LLI (tabR (hyM (ordU (upL n_17 xs_18))) (ordU (upL n_17 xs_18)).length (ordU (upL n_17 xs_18)).length), LLI (tabR (hyJ (ordU (upL n_17 xs_18))) (ordU (upL n_17 xs_18)).length (ordU (upL n_17 xs_18)).length), LLI (tabR (hyI (ordU (upL n_17 xs_18))) (ordU (upL n_17 xs_18)).length (ordU (upL n_17 xs_18)).length), AI (lowF (ordU (upL n_17 xs_18)) (fullM (ordU (upL n_17 xs_18)).length)), AI (lowF (invA (ordU (upL n_17 xs_18)) (ordU (upL n_17 xs_18)).length) (fullM (ordU (upL n_17 xs_18)).length))] hc (by first | assumption | exact mkHy (by assumption)))))))) (h3 := by rintro _ _ ⟨_, _, ⟨_, _, ⟨_, ⟨_, ⟨_, ⟨_, _, _, _, _, _, _, _, _, rfl, rfl⟩, rfl⟩, rfl⟩, rfl⟩, rfl, rfl⟩, rfl, rfl⟩; exact Nat.le_of_ble_eq_true (by kernel_rfl))) ?_)
     rintro _ _ ⟨_, _, ⟨_, _, ⟨_, _, ⟨_, ⟨_, ⟨_, ⟨A2_29, O2_30, J2_31, b2_32, t2_33, p1_34, h1_35, f36, f37, rfl, rfl⟩, rfl⟩, rfl⟩, rfl⟩, rfl, rfl⟩, rfl, rfl⟩, rfl, rfl⟩
     have hml : (A2_29).length = (upL n_17 xs_18).length := by rw [(by assumption : (A2_29).length = _), tabR_len, ordU_len]
     exact R.go 2 (R.retX (res := .agg [LLI A2_29, LLI O2_30, LLI J2_31, AI b2_32, AI t2_33]) (hp' := [.box 157 [LB c, AI (p1_34 : Int), .int .u64 h1_35], .list eo1 so1 no1 co1, .list eo2 so2 no2 co2, .dead, .box 26 [LLI A2_29, LLI O2_30, LLI J2_31, AI b2_32, AI t2_33], .frame [] [], .box 35 [AI n_17, LI xs_18], .frame [] [], .box 26 [LLI (tabR (hyM (ordU (upL n_17 xs_18))) (ordU (upL n_17 xs_18)).length (ordU (upL n_17 xs_18)).length), LLI (tabR (hyJ (ordU (upL n_17 xs_18))) (ordU (upL n_17 xs_18)).length (ordU (upL n_17 xs_18)).length), LLI (tabR (hyI (ordU (upL n_17 xs_18))) (ordU (upL n_17 xs_18)).length (ordU (upL n_17 xs_18)).length), AI (lowF (ordU (upL n_17 xs_18)) (fullM (ordU (upL n_17 xs_18)).length)), AI (lowF (invA (ordU (upL n_17 xs_18)) (ordU (upL n_17 xs_18)).length) (fullM (ordU (upL n_17 xs_18)).length))]]) (by kernel_rfl) (by kernel_rfl) (by kernel_rfl) (by kernel_rfl) ⟨[0, 1, 2], by kernel_rfl, by decide, A2_29, O2_30, J2_31, b2_32, t2_33, p1_34, h1_35, by first | assumption | exact mkHy (by assumption) | omega | (rw [tabR_len, ordU_len]; omega), by first | assumption | exact mkHy (by assumption) | omega | (rw [tabR_len, ordU_len]; omega), by kernel_rfl, by kernel_rfl⟩)
    ·exact R.go 6 (R.retX (res := .agg [LLI (tabR (hyM (ordU (upL n_17 xs_18))) (ordU (upL n_17 xs_18)).length (ordU (upL n_17 xs_18)).length), LLI (tabR (hyJ (ordU (upL n_17 xs_18))) (ordU (upL n_17 xs_18)).length (ordU (upL n_17 xs_18)).length), LLI (tabR (hyI (ordU (upL n_17 xs_18))) (ordU (upL n_17 xs_18)).length (ordU (upL n_17 xs_18)).length), AI (lowF (ordU (upL n_17 xs_18)) (fullM (ordU (upL n_17 xs_18)).length)), AI (lowF (invA (ordU (upL n_17 xs_18)) (ordU (upL n_17 xs_18)).length) (fullM (ordU (upL n_17 xs_18)).length))]) (hp' := [.box 157 [LB c, AI (p1_25 : Int), .int .u64 h1_26], .list eo1 so1 no1 co1, .list eo2 so2 no2 co2, .dead, .box 26 [LLI (tabR (hyM (ordU (upL n_17 xs_18))) (ordU (upL n_17 xs_18)).length (ordU (upL n_17 xs_18)).length), LLI (tabR (hyJ (ordU (upL n_17 xs_18))) (ordU (upL n_17 xs_18)).length (ordU (upL n_17 xs_18)).length), LLI (tabR (hyI (ordU (upL n_17 xs_18))) (ordU (upL n_17 xs_18)).length (ordU (upL n_17 xs_18)).length), AI (lowF (ordU (upL n_17 xs_18)) (fullM (ordU (upL n_17 xs_18)).length)), AI (lowF (invA (ordU (upL n_17 xs_18)) (ordU (upL n_17 xs_18)).length) (fullM (ordU (upL n_17 xs_18)).length))], .frame [] [], .box 35 [AI n_17, LI xs_18], .frame [] [], .box 26 [LLI (tabR (hyM (ordU (upL n_17 xs_18))) (ordU (upL n_17 xs_18)).length (ordU (upL n_17 xs_18)).length), LLI (tabR (hyJ (ordU (upL n_17 xs_18))) (ordU (upL n_17 xs_18)).length (ordU (upL n_17 xs_18)).length), LLI (tabR (hyI (ordU (upL n_17 xs_18))) (ordU (upL n_17 xs_18)).length (ordU (upL n_17 xs_18)).length), AI (lowF (ordU (upL n_17 xs_18)) (fullM (ordU (upL n_17 xs_18)).length)), AI (lowF (invA (ordU (upL n_17 xs_18)) (ordU (upL n_17 xs_18)).length) (fullM (ordU (upL n_17 xs_18)).length))]]) (by kernel_rfl) (by kernel_rfl) (by kernel_rfl) (by kernel_rfl) ⟨[0, 1, 2], by kernel_rfl, by decide, tabR (hyM (ordU (upL n_17 xs_18))) (ordU (upL n_17 xs_18)).length (ordU (upL n_17 xs_18)).length, tabR (hyJ (ordU (upL n_17 xs_18))) (ordU (upL n_17 xs_18)).length (ordU (upL n_17 xs_18)).length, tabR (hyI (ordU (upL n_17 xs_18))) (ordU (upL n_17 xs_18)).length (ordU (upL n_17 xs_18)).length, lowF (ordU (upL n_17 xs_18)) (fullM (ordU (upL n_17 xs_18)).length), lowF (invA (ordU (upL n_17 xs_18)) (ordU (upL n_17 xs_18)).length) (fullM (ordU (upL n_17 xs_18)).length), p1_25, h1_26, by first | assumption | exact mkHy (by assumption) | omega | (rw [tabR_len, ordU_len]; omega), by first | assumption | exact mkHy (by assumption) | omega | (rw [tabR_len, ordU_len]; omega), by kernel_rfl, by kernel_rfl⟩)
   ·refine R.go 4 (k1 ((k : Int) + 1) ?_)
    exact R.go 2 (k17 R1 (N2 (k + 1, p1_19, h1_20) [0, 1, 4, 5] (some [0, 1, 2, 3, 4]) _ (by kernel_rfl) (canonF (fr := frC) (fun (frX : List AV) => (⟨(frm 38 [(0, .ptr 0 0), (1, AI most), (4, .ptr 4 0), (5, AI ((k : Int) + 1))]), [.box 157 [LB c, AI (p1_19 : Int), .int .u64 h1_20], .list eo1 so1 no1 co1, .list eo2 so2 no2 co2, .frame usC frX, .box 26 [.nil, .nil, .nil, AI 0, AI 0]]⟩ : St)) (hfC.ren _ (by kernel_rfl)) (by kernel_rfl) (by kernel_rfl)) (by omega) (by show (8 - (k + 1)) < (8 - k); omega)))
  ·have hpl := po_len (by assumption : okPo n_6 xs_7 = true)
   have hpl1 := hpl.1
   have hpl2 := hpl.2.1
   have hpl3 := hpl.2.2.1
   refine R.go 4 (k15 true (l16Upsets_c n_6 xs_7 f11).frz rfl ?_)
   refine R.go 4 (k3 (((upL n_6 xs_7).length : Int) ≤ most) (fun c38 => ?_) (fun c38 => ?_))
   ·refine R.go 3 (k15 true (l18Of_c n_6 xs_7 f11 (by first | omega | (simp <;> omega))).frz rfl ?_)
    have hUH : HyOK (ordU (upL n_6 xs_7)) := up_hy (by assumption) (by omega)
    have hol := ordU_len (upL n_6 xs_7)
    refine R.go 7 (k27 (k29i 3 usC frC (k29a 4 [] [] (k30c 5 26 [LLI (tabR (hyM (ordU (upL n_6 xs_7))) (ordU (upL n_6 xs_7)).length (ordU (upL n_6 xs_7)).length), LLI (tabR (hyJ (ordU (upL n_6 xs_7))) (ordU (upL n_6 xs_7)).length (ordU (upL n_6 xs_7)).length), LLI (tabR (hyI (ordU (upL n_6 xs_7))) (ordU (upL n_6 xs_7)).length (ordU (upL n_6 xs_7)).length), AI (lowF (ordU (upL n_6 xs_7)) (fullM (ordU (upL n_6 xs_7)).length)), AI (lowF (invA (ordU (upL n_6 xs_7)) (ordU (upL n_6 xs_7)).length) (fullM (ordU (upL n_6 xs_7)).length))] (k30b 4 35 [AI n_6, LI xs_7] (k30a 3 26 [.nil, .nil, .nil, AI 0, AI 0] (nextX_c_r5 c p1_13 h1_14 3 eo1 so1 no1 co1 eo2 so2 no2 co2 26 5 1 [.nil, .nil, .nil, AI 0, AI 0] 35 2 1 [AI n_6, LI xs_7] 26 5 1 [LLI (tabR (hyM (ordU (upL n_6 xs_7))) (ordU (upL n_6 xs_7)).length (ordU (upL n_6 xs_7)).length), LLI (tabR (hyJ (ordU (upL n_6 xs_7))) (ordU (upL n_6 xs_7)).length (ordU (upL n_6 xs_7)).length), LLI (tabR (hyI (ordU (upL n_6 xs_7))) (ordU (upL n_6 xs_7)).length (ordU (upL n_6 xs_7)).length), AI (lowF (ordU (upL n_6 xs_7)) (fullM (ordU (upL n_6 xs_7)).length)), AI (lowF (invA (ordU (upL n_6 xs_7)) (ordU (upL n_6 xs_7)).length) (fullM (ordU (upL n_6 xs_7)).length))] hc)))))) ?_)
    rintro _ _ ⟨_, _, ⟨_, _, ⟨_, ⟨_, ⟨_, ⟨v_39, p1_40, h1_41, f42, rfl, rfl⟩, rfl⟩, rfl⟩, rfl⟩, rfl, rfl⟩, rfl, rfl⟩
    refine R.go 2 (k3 (v_39 = 0) (fun c43 => ?_) (fun c43 => ?_))
    ·refine R.go 4 (k27 (k29j 3 usC frC (k29k 4 [] [] (k30g 5 26 [LLI (tabR (hyM (ordU (upL n_6 xs_7))) (ordU (upL n_6 xs_7)).length (ordU (upL n_6 xs_7)).length), LLI (tabR (hyJ (ordU (upL n_6 xs_7))) (ordU (upL n_6 xs_7)).length (ordU (upL n_6 xs_7)).length), LLI (tabR (hyI (ordU (upL n_6 xs_7))) (ordU (upL n_6 xs_7)).length (ordU (upL n_6 xs_7)).length), AI (lowF (ordU (upL n_6 xs_7)) (fullM (ordU (upL n_6 xs_7)).length)), AI (lowF (invA (ordU (upL n_6 xs_7)) (ordU (upL n_6 xs_7)).length) (fullM (ordU (upL n_6 xs_7)).length))] (k30h 4 35 [AI n_6, LI xs_7] (k30e 3 26 [.nil, .nil, .nil, AI 0, AI 0] (mixX_c_r5 c p1_40 h1_41 (tabR (hyM (ordU (upL n_6 xs_7))) (ordU (upL n_6 xs_7)).length (ordU (upL n_6 xs_7)).length) (tabR (hyJ (ordU (upL n_6 xs_7))) (ordU (upL n_6 xs_7)).length (ordU (upL n_6 xs_7)).length) (tabR (hyI (ordU (upL n_6 xs_7))) (ordU (upL n_6 xs_7)).length (ordU (upL n_6 xs_7)).length) (lowF (ordU (upL n_6 xs_7)) (fullM (ordU (upL n_6 xs_7)).length)) (lowF (invA (ordU (upL n_6 xs_7)) (ordU (upL n_6 xs_7)).length) (fullM (ordU (upL n_6 xs_7)).length)) eo1 so1 no1 co1 eo2 so2 no2 co2 26 5 1 [.nil, .nil, .nil, AI 0, AI 0] 35 2 1 [AI n_6, LI xs_7] 26 5 1 [LLI (tabR (hyM (ordU (upL n_6 xs_7))) (ordU (upL n_6 xs_7)).length (ordU (upL n_6 xs_7)).length), LLI (tabR (hyJ (ordU (upL n_6 xs_7))) (ordU (upL n_6 xs_7)).length (ordU (upL n_6 xs_7)).length), LLI (tabR (hyI (ordU (upL n_6 xs_7))) (ordU (upL n_6 xs_7)).length (ordU (upL n_6 xs_7)).length), AI (lowF (ordU (upL n_6 xs_7)) (fullM (ordU (upL n_6 xs_7)).length)), AI (lowF (invA (ordU (upL n_6 xs_7)) (ordU (upL n_6 xs_7)).length) (fullM (ordU (upL n_6 xs_7)).length))] hc (by first | assumption | exact mkHy (by assumption)))))))) ?_)
     rintro _ _ ⟨_, _, ⟨_, _, ⟨_, ⟨_, ⟨_, ⟨A2_44, O2_45, J2_46, b2_47, t2_48, p1_49, h1_50, f51, f52, rfl, rfl⟩, rfl⟩, rfl⟩, rfl⟩, rfl, rfl⟩, rfl, rfl⟩
     have hml : (A2_44).length = (upL n_6 xs_7).length := by rw [(by assumption : (A2_44).length = _), tabR_len, ordU_len]
     exact R.go 2 (R.retX (res := .agg [LLI A2_44, LLI O2_45, LLI J2_46, AI b2_47, AI t2_48]) (hp' := [.box 157 [LB c, AI (p1_49 : Int), .int .u64 h1_50], .list eo1 so1 no1 co1, .list eo2 so2 no2 co2, .dead, .box 26 [LLI A2_44, LLI O2_45, LLI J2_46, AI b2_47, AI t2_48], .frame [] [], .box 35 [AI n_6, LI xs_7], .box 26 [LLI (tabR (hyM (ordU (upL n_6 xs_7))) (ordU (upL n_6 xs_7)).length (ordU (upL n_6 xs_7)).length), LLI (tabR (hyJ (ordU (upL n_6 xs_7))) (ordU (upL n_6 xs_7)).length (ordU (upL n_6 xs_7)).length), LLI (tabR (hyI (ordU (upL n_6 xs_7))) (ordU (upL n_6 xs_7)).length (ordU (upL n_6 xs_7)).length), AI (lowF (ordU (upL n_6 xs_7)) (fullM (ordU (upL n_6 xs_7)).length)), AI (lowF (invA (ordU (upL n_6 xs_7)) (ordU (upL n_6 xs_7)).length) (fullM (ordU (upL n_6 xs_7)).length))]]) (by kernel_rfl) (by kernel_rfl) (by kernel_rfl) (by kernel_rfl) ⟨[0, 1, 2], by kernel_rfl, by decide, A2_44, O2_45, J2_46, b2_47, t2_48, p1_49, h1_50, by first | assumption | exact mkHy (by assumption) | omega | (rw [tabR_len, ordU_len]; omega), by first | assumption | exact mkHy (by assumption) | omega | (rw [tabR_len, ordU_len]; omega), by kernel_rfl, by kernel_rfl⟩)
    ·exact R.go 6 (R.retX (res := .agg [LLI (tabR (hyM (ordU (upL n_6 xs_7))) (ordU (upL n_6 xs_7)).length (ordU (upL n_6 xs_7)).length), LLI (tabR (hyJ (ordU (upL n_6 xs_7))) (ordU (upL n_6 xs_7)).length (ordU (upL n_6 xs_7)).length), LLI (tabR (hyI (ordU (upL n_6 xs_7))) (ordU (upL n_6 xs_7)).length (ordU (upL n_6 xs_7)).length), AI (lowF (ordU (upL n_6 xs_7)) (fullM (ordU (upL n_6 xs_7)).length)), AI (lowF (invA (ordU (upL n_6 xs_7)) (ordU (upL n_6 xs_7)).length) (fullM (ordU (upL n_6 xs_7)).length))]) (hp' := [.box 157 [LB c, AI (p1_40 : Int), .int .u64 h1_41], .list eo1 so1 no1 co1, .list eo2 so2 no2 co2, .dead, .box 26 [LLI (tabR (hyM (ordU (upL n_6 xs_7))) (ordU (upL n_6 xs_7)).length (ordU (upL n_6 xs_7)).length), LLI (tabR (hyJ (ordU (upL n_6 xs_7))) (ordU (upL n_6 xs_7)).length (ordU (upL n_6 xs_7)).length), LLI (tabR (hyI (ordU (upL n_6 xs_7))) (ordU (upL n_6 xs_7)).length (ordU (upL n_6 xs_7)).length), AI (lowF (ordU (upL n_6 xs_7)) (fullM (ordU (upL n_6 xs_7)).length)), AI (lowF (invA (ordU (upL n_6 xs_7)) (ordU (upL n_6 xs_7)).length) (fullM (ordU (upL n_6 xs_7)).length))], .frame [] [], .box 35 [AI n_6, LI xs_7], .box 26 [LLI (tabR (hyM (ordU (upL n_6 xs_7))) (ordU (upL n_6 xs_7)).length (ordU (upL n_6 xs_7)).length), LLI (tabR (hyJ (ordU (upL n_6 xs_7))) (ordU (upL n_6 xs_7)).length (ordU (upL n_6 xs_7)).length), LLI (tabR (hyI (ordU (upL n_6 xs_7))) (ordU (upL n_6 xs_7)).length (ordU (upL n_6 xs_7)).length), AI (lowF (ordU (upL n_6 xs_7)) (fullM (ordU (upL n_6 xs_7)).length)), AI (lowF (invA (ordU (upL n_6 xs_7)) (ordU (upL n_6 xs_7)).length) (fullM (ordU (upL n_6 xs_7)).length))]]) (by kernel_rfl) (by kernel_rfl) (by kernel_rfl) (by kernel_rfl) ⟨[0, 1, 2], by kernel_rfl, by decide, tabR (hyM (ordU (upL n_6 xs_7))) (ordU (upL n_6 xs_7)).length (ordU (upL n_6 xs_7)).length, tabR (hyJ (ordU (upL n_6 xs_7))) (ordU (upL n_6 xs_7)).length (ordU (upL n_6 xs_7)).length, tabR (hyI (ordU (upL n_6 xs_7))) (ordU (upL n_6 xs_7)).length (ordU (upL n_6 xs_7)).length, lowF (ordU (upL n_6 xs_7)) (fullM (ordU (upL n_6 xs_7)).length), lowF (invA (ordU (upL n_6 xs_7)) (ordU (upL n_6 xs_7)).length) (fullM (ordU (upL n_6 xs_7)).length), p1_40, h1_41, by first | assumption | exact mkHy (by assumption) | omega | (rw [tabR_len, ordU_len]; omega), by first | assumption | exact mkHy (by assumption) | omega | (rw [tabR_len, ordU_len]; omega), by kernel_rfl, by kernel_rfl⟩)
   ·refine R.go 4 (k1 ((k : Int) + 1) ?_)
    exact R.go 2 (k17 R1 (N2 (k + 1, p1_13, h1_14) [0, 1, 4, 5] (some [0, 1, 2, 3, 4]) _ (by kernel_rfl) (canonF (fr := frC) (fun (frX : List AV) => (⟨(frm 38 [(0, .ptr 0 0), (1, AI most), (4, .ptr 4 0), (5, AI ((k : Int) + 1))]), [.box 157 [LB c, AI (p1_13 : Int), .int .u64 h1_14], .list eo1 so1 no1 co1, .list eo2 so2 no2 co2, .frame usC frX, .box 26 [.nil, .nil, .nil, AI 0, AI 0]]⟩ : St)) (hfC.ren _ (by kernel_rfl)) (by kernel_rfl) (by kernel_rfl)) (by omega) (by show (8 - (k + 1)) < (8 - k); omega)))
 ·refine R.go 5 (k27 (k29c 3 usC frC (k30a 3 26 [.nil, .nil, .nil, AI 0, AI 0] (nextX_c_r3 c q hq most eo1 so1 no1 co1 eo2 so2 no2 co2 26 5 1 [.nil, .nil, .nil, AI 0, AI 0] hc))) ?_)
  rintro _ _ ⟨_, _, ⟨_, ⟨v_53, p1_54, h1_55, f56, rfl, rfl⟩, rfl⟩, rfl, rfl⟩
  refine k1 (1 + v_53) ?_
  refine R.callX0 (chainX_c (1 + v_53) (by omega)) (by kernel_rfl) (by rintro _ _ ⟨_, _, _, _, _, _, _, rfl, rfl⟩; rfl) (by kernel_rfl) (by kernel_rfl) ?_
  rintro _ ⟨A2_57, O2_58, J2_59, b2_60, t2_61, f62, f63, rfl, _⟩
  exact R.go 2 (R.retX (res := .agg [LLI A2_57, LLI O2_58, LLI J2_59, AI b2_60, AI t2_61]) (hp' := [.box 157 [LB c, AI (p1_54 : Int), .int .u64 h1_55], .list eo1 so1 no1 co1, .list eo2 so2 no2 co2, .dead, .box 26 [LLI A2_57, LLI O2_58, LLI J2_59, AI b2_60, AI t2_61]]) (by kernel_rfl) (by kernel_rfl) (by kernel_rfl) (by kernel_rfl) ⟨[0, 1, 2], by kernel_rfl, by decide, A2_57, O2_58, J2_59, b2_60, t2_61, p1_54, h1_55, by first | assumption | exact mkHy (by assumption) | omega | (rw [tabR_len, ordU_len]; omega), by first | assumption | exact mkHy (by assumption) | omega | (rw [tabR_len, ordU_len]; omega), by kernel_rfl, by kernel_rfl⟩)

set_option maxHeartbeats 2000000 in
theorem bendH_c_r3 (c : List Int) (p : Nat) (h : Int) (A : List (List Int)) (O : List (List Int)) (J : List (List Int)) (bo : Int) (t : Int) (eo1 : Nat) (so1 : Nat) (no1 : Nat) (co1 : List AV) (eo2 : Nat) (so2 : Nat) (no2 : Nat) (co2 : List AV) (eo3 : Nat) (so3 : Nat) (no3 : Nat) (co3 : List AV) (hc : BY c) (hIH : IsHy (ordT A) A O J bo t) : CallX Tryz.prog 131 [.ptr 0 0, .agg [LLI A, LLI O, LLI J, AI bo, AI t]] [.box 157 [LB c, AI (p : Int), .int .u64 h], .list eo1 so1 no1 co1, .list eo2 so2 no2 co2, .list eo3 so3 no3 co3] (fun (resX : AV) (objX : List AObj) => ∃ A2 : List (List Int), ∃ O2 : List (List Int), ∃ J2 : List (List Int), ∃ b2 : Int, ∃ t2 : Int, ∃ p1 : Nat, ∃ h1 : Int, (SZ A2) ∧ (SZ O2) ∧ (SZ J2) ∧ resX = .agg [LLI A2, LLI O2, LLI J2, AI b2, AI t2] ∧ objX = [.box 157 [LB c, AI (p1 : Int), .int .u64 h1], .list eo1 so1 no1 co1, .list eo2 so2 no2 co2, .list eo3 so3 no3 co3]) := by
 have hcl : c.length ≤ 4096 := hc.1
 have hcb := hc.2
 have hsz := isHy_sz hIH
 obtain ⟨hs0, hsA, hsO, hsJ⟩ := hsz
 have hT : tabB A.length A = true := (hyIs_parts.1 hIH.is.1).2.1
 have hol := ordT_len A
 have hRl : RelOK (ordT A).length (ordT A) := ordT_rel (by omega)
 have hqA : ∀ j : Nat, j < A.length → (A.getD j []).length ≤ 1048576 := fun j hj => by have := hsA j hj; omega
 have hzA : SZ A := sz_of (n := (ordT A).length) (by omega) (by omega) hsA
 have hqO : ∀ j : Nat, j < O.length → (O.getD j []).length ≤ 1048576 := fun j hj => by have := hsO j hj; omega
 have hzO : SZ O := sz_of (n := (ordT A).length) (by omega) (by omega) hsO
 have hqJ : ∀ j : Nat, j < J.length → (J.getD j []).length ≤ 1048576 := fun j hj => by have := hsJ j hj; omega
 have hzJ : SZ J := sz_of (n := (ordT A).length) (by omega) (by omega) hsJ
 refine CallX.dropE (CallX.ofF Tryz.func131 rfl (by kernel_rfl) ?_)
 intro usC frC hfC
 refine R.go 8 (k15 true (l18Size_c A O J bo t) rfl ?_)
 refine R.go 6 (k27 (k29b 4 usC frC (k30b 5 26 [.nil, .nil, .nil, AI 0, AI 0] (k30a 4 26 [LLI A, LLI O, LLI J, AI bo, AI t] (nextX_c_r5 c p h A.length eo1 so1 no1 co1 eo2 so2 no2 co2 eo3 so3 no3 co3 26 5 1 [LLI A, LLI O, LLI J, AI bo, AI t] 26 5 1 [.nil, .nil, .nil, AI 0, AI 0] hc)))) ?_)
 rintro _ _ ⟨_, _, ⟨_, ⟨_, ⟨v_1, p1_2, h1_3, f4, rfl, rfl⟩, rfl⟩, rfl⟩, rfl, rfl⟩
 refine R.go 2 (k27 (k29b 4 usC frC (k30b 5 26 [.nil, .nil, .nil, AI 0, AI 0] (k30a 4 26 [LLI A, LLI O, LLI J, AI bo, AI t] (nextX_c_r5 c p1_2 h1_3 A.length eo1 so1 no1 co1 eo2 so2 no2 co2 eo3 so3 no3 co3 26 5 1 [LLI A, LLI O, LLI J, AI bo, AI t] 26 5 1 [.nil, .nil, .nil, AI 0, AI 0] hc)))) ?_)
 rintro _ _ ⟨_, _, ⟨_, ⟨_, ⟨v_5, p1_6, h1_7, f8, rfl, rfl⟩, rfl⟩, rfl⟩, rfl, rfl⟩
 refine R.go 7 (R.callT (avs0 := [LLI J]) (E := eI) (Ψ := fun L => L.map Prod.snd = J) (v_1).toNat 2 1 30 (.bool false, []) (own2E_c J (by first | omega | (simp <;> omega)) hqJ) (by kernel_rfl) (.cons (.leaf rfl) (.nil)) eI_closed (fun L hL => by have h9 := congrArg List.length hL; rw [List.length_map] at h9; omega) (by kernel_rfl) ?_)
 intro LT9 hT10
 have hT10_l : LT9.length = J.length := by have h9 := congrArg List.length hT10; rwa [List.length_map] at h9
 refine R.go 6 (k27 (k29d 4 usC frC (k29b 8 [(LT9.getD (v_1).toNat (.bool false, [])).1] (frm 1 [(0, .ref 7)]) (k30b 5 26 [.nil, .nil, .nil, AI 0, AI 0] (k30a 4 26 [LLI A, LLI O, LLI J, AI bo, AI t] (nextX_c_r7 c p1_6 h1_7 6 eo1 so1 no1 co1 eo2 so2 no2 co2 eo3 so3 no3 co3 26 5 1 [LLI A, LLI O, LLI J, AI bo, AI t] 26 5 1 [.nil, .nil, .nil, AI 0, AI 0] 30 1 LT9.length ((rows (eV eI 2 1) LT9).set (v_1).toNat (weakN (LT9.getD (v_1).toNat (.bool false, [])).1 (LT9.getD (v_1).toNat (.bool false, [])).2.length)) 2 1 (((LT9.getD (v_1).toNat (.bool false, [])).2).length) (rows eI ((LT9.getD (v_1).toNat (.bool false, [])).2)) hc))))) ?_)
 rintro _ _ ⟨_, _, ⟨_, _, ⟨_, ⟨_, ⟨v_11, p1_12, h1_13, f14, rfl, rfl⟩, rfl⟩, rfl⟩, rfl, rfl⟩, rfl, rfl⟩
 refine R.go 7 (k3 (v_11 = 0) (fun c15 => ?_) (fun c15 => ?_))
 ·refine R.go 3 (k1 ((A.length : Int) + 2) ?_)
  refine k27 (k29d 4 usC frC (k29b 8 [(LT9.getD (v_1).toNat (.bool false, [])).1] (frm 1 [(0, .ref 7)]) (k30b 5 26 [.nil, .nil, .nil, AI 0, AI 0] (k30a 4 26 [LLI A, LLI O, LLI J, AI bo, AI t] (nextX_c_r7 c p1_12 h1_13 ((A.length : Int) + 2) eo1 so1 no1 co1 eo2 so2 no2 co2 eo3 so3 no3 co3 26 5 1 [LLI A, LLI O, LLI J, AI bo, AI t] 26 5 1 [.nil, .nil, .nil, AI 0, AI 0] 30 1 LT9.length ((rows (eV eI 2 1) LT9).set (v_1).toNat (weakN (LT9.getD (v_1).toNat (.bool false, [])).1 (LT9.getD (v_1).toNat (.bool false, [])).2.length)) 2 1 (((LT9.getD (v_1).toNat (.bool false, [])).2).length) (rows eI ((LT9.getD (v_1).toNat (.bool false, [])).2)) hc))))) ?_
  rintro _ _ ⟨_, _, ⟨_, _, ⟨_, ⟨_, ⟨v_16, p1_17, h1_18, f19, rfl, rfl⟩, rfl⟩, rfl⟩, rfl, rfl⟩, rfl, rfl⟩
  refine k1 (v_16 - 1) ?_
  exact R.go 9 (R.retX (res := .agg [LLI A, LLI O, LLI J, AI (v_16 - 1), AI t]) (hp' := [.box 157 [LB c, AI (p1_17 : Int), .int .u64 h1_18], .list eo1 so1 no1 co1, .list eo2 so2 no2 co2, .list eo3 so3 no3 co3, .dead, .box 26 [LLI A, LLI O, LLI J, AI (v_16 - 1), AI t], .box 26 [LLI A, LLI O, LLI J, AI (v_16 - 1), AI t], weakRow eI 2 1 30 LT9 (v_1).toNat (.bool false, []), rowA eI 2 1 ((LT9.getD (v_1).toNat (.bool false, [])).2), .frame [(LT9.getD (v_1).toNat (.bool false, [])).1] (frm 1 [(0, .ref 8)])]) (by kernel_rfl) (by kernel_rfl) (by kernel_rfl) (by kernel_rfl) ⟨[0, 1, 2, 3], by kernel_rfl, by decide, A, O, J, v_16 - 1, t, p1_17, h1_18, by first | assumption | exact sz_drop (by assumption) | exact sz_set (by assumption) (by assumption) (by rw [List.length_set]; omega), by first | assumption | exact sz_drop (by assumption) | exact sz_set (by assumption) (by assumption) (by rw [List.length_set]; omega), by first | assumption | exact sz_drop (by assumption) | exact sz_set (by assumption) (by assumption) (by rw [List.length_set]; omega), by kernel_rfl, by kernel_rfl⟩)
 ·refine R.go 5 (k3 (v_11 = 1) (fun c20 => ?_) (fun c20 => ?_))
  ·refine R.go 3 (k1 ((A.length : Int) + 2) ?_)
   refine k27 (k29d 4 usC frC (k29b 8 [(LT9.getD (v_1).toNat (.bool false, [])).1] (frm 1 [(0, .ref 7)]) (k30b 5 26 [.nil, .nil, .nil, AI 0, AI 0] (k30a 4 26 [LLI A, LLI O, LLI J, AI bo, AI t] (nextX_c_r7 c p1_12 h1_13 ((A.length : Int) + 2) eo1 so1 no1 co1 eo2 so2 no2 co2 eo3 so3 no3 co3 26 5 1 [LLI A, LLI O, LLI J, AI bo, AI t] 26 5 1 [.nil, .nil, .nil, AI 0, AI 0] 30 1 LT9.length ((rows (eV eI 2 1) LT9).set (v_1).toNat (weakN (LT9.getD (v_1).toNat (.bool false, [])).1 (LT9.getD (v_1).toNat (.bool false, [])).2.length)) 2 1 (((LT9.getD (v_1).toNat (.bool false, [])).2).length) (rows eI ((LT9.getD (v_1).toNat (.bool false, [])).2)) hc))))) ?_
   rintro _ _ ⟨_, _, ⟨_, _, ⟨_, ⟨_, ⟨v_21, p1_22, h1_23, f24, rfl, rfl⟩, rfl⟩, rfl⟩, rfl, rfl⟩, rfl, rfl⟩
   refine k1 (v_21 - 1) ?_
   exact R.go 9 (R.retX (res := .agg [LLI A, LLI O, LLI J, AI bo, AI (v_21 - 1)]) (hp' := [.box 157 [LB c, AI (p1_22 : Int), .int .u64 h1_23], .list eo1 so1 no1 co1, .list eo2 so2 no2 co2, .list eo3 so3 no3 co3, .dead, .box 26 [LLI A, LLI O, LLI J, AI bo, AI (v_21 - 1)], .box 26 [LLI A, LLI O, LLI J, AI bo, AI (v_21 - 1)], weakRow eI 2 1 30 LT9 (v_1).toNat (.bool false, []), rowA eI 2 1 ((LT9.getD (v_1).toNat (.bool false, [])).2), .frame [(LT9.getD (v_1).toNat (.bool false, [])).1] (frm 1 [(0, .ref 8)])]) (by kernel_rfl) (by kernel_rfl) (by kernel_rfl) (by kernel_rfl) ⟨[0, 1, 2, 3], by kernel_rfl, by decide, A, O, J, bo, v_21 - 1, p1_22, h1_23, by first | assumption | exact sz_drop (by assumption) | exact sz_set (by assumption) (by assumption) (by rw [List.length_set]; omega), by first | assumption | exact sz_drop (by assumption) | exact sz_set (by assumption) (by assumption) (by rw [List.length_set]; omega), by first | assumption | exact sz_drop (by assumption) | exact sz_set (by assumption) (by assumption) (by rw [List.length_set]; omega), by kernel_rfl, by kernel_rfl⟩)
  ·refine R.go 5 (k3 (v_11 = 2) (fun c25 => ?_) (fun c25 => ?_))
   ·refine R.go 1 ?_
    have hil : ((LT9).getD (v_1).toNat (.bool false, [])).2.length = (ordT A).length := by rw [map_at (Q := J) (by assumption) (by omega)]; exact hsJ _ (by omega)
    refine R.meetF (α := Int × Nat × Int) (fun | (v_26, p1_27, h1_28) => ((((A.length : Int) + 2) < 1 → v_26 = 0) ∧ (1 ≤ ((A.length : Int) + 2) → 0 ≤ v_26 ∧ v_26 < ((A.length : Int) + 2)))) (fun | (v_26, p1_27, h1_28) => (⟨(frm 96 [(0, .ptr 0 0), (1, .agg [LLI A, LLI O, LLI J, AI bo, AI t]), (3, .ptr 5 0), (4, .ptr 6 0), (5, AI A.length), (6, AI v_1), (7, AI v_5), (8, .ref 7), (9, .agg [LLI A, LLI O, LLI J, AI bo, AI t]), (10, AI A.length), (11, .ptr 0 0), (12, AI A.length), (13, AI v_1), (14, .ptr 0 0), (15, AI A.length), (16, AI v_5), (17, .ptr 5 2), (18, LLI J), (19, .ref 7), (20, .ptr 0 0), (21, AI v_11), (22, .bool (decide (v_11 = 0))), (23, .bool (decide (v_11 = 0))), (30, .bool (decide (v_11 = 1))), (31, .bool (decide (v_11 = 1))), (38, .bool (decide (v_11 = 2))), (39, .bool (decide (v_11 = 2))), (40, .ref 7), (41, AI v_1), (42, .ptr 7 (((v_1).toNat) * 1)), (43, .ref 8), (44, AI v_5), (45, .ptr 0 0), (46, AI A.length), (47, AI ((A.length : Int) + 2)), (48, AI v_26), (49, AI (v_26 - 1)), (50, .ptr 8 (((v_5).toNat) * 1))]), [.box 157 [LB c, AI (p1_27 : Int), .int .u64 h1_28], .list eo1 so1 no1 co1, .list eo2 so2 no2 co2, .list eo3 so3 no3 co3, .frame usC frC, .box 26 [LLI A, LLI O, LLI J, AI bo, AI t], .box 26 [.nil, .nil, .nil, AI 0, AI 0], weakRow eI 2 1 30 LT9 (v_1).toNat (.bool false, []), rowA eI 2 1 (((LT9.getD (v_1).toNat (.bool false, [])).2).set ((v_5).toNat) (v_26 - 1)), .frame [(LT9.getD (v_1).toNat (.bool false, [])).1] (frm 1 [(0, .ref 8)])]⟩ : St)) (by kernel_rfl) ?_ ?_
    ·refine R.any (by decide +kernel) (by kernel_rfl) ?_
     refine k25 0 (np_meetF _ _) ?_
     refine k25 1 (np_meetF _ _) ?_
     refine k25 4 (np_meetF _ _) ?_
     refine k25 5 (np_meetF _ _) ?_
     refine k25 6 (np_meetF _ _) ?_
     refine R.anyIn 7 (.int .i64 (IntKind.i64.wrap ((A.length : Int) + 2))) ((A.length : Int) + 2) (by kernel_rfl) (congrArg (AV.int .i64) (wrap_id (by omega) (by omega))) (np_meetF _ _) ?_
     refine k34 2 7 1 LT9.length ((v_1).toNat) v_1 (np_meetF _ _) ?_
     refine k23 3 8 ?_ ?_
     ·refine k10 ((rows (eV eI 2 1) LT9).set (v_1).toNat (weakN (LT9.getD (v_1).toNat (.bool false, [])).1 (LT9.getD (v_1).toNat (.bool false, [])).2.length)) (((v_1).toNat) * 1) (weakN ((LT9.getD (v_1).toNat (.bool false, [])).1) ((LT9.getD (v_1).toNat (.bool false, [])).2.length)) (weak_at (by omega) rfl) ?_
      refine R.go 1 (k22 8 ?_)
      refine R.untag 43 9 8 0 ((LT9.getD (v_1).toNat (.bool false, [])).2.length) ((LT9.getD (v_1).toNat (.bool false, [])).1) [] (by kernel_rfl) (by kernel_rfl) (by kernel_rfl) ?_
      refine k27 (k29d 4 usC frC (k29b 8 [(LT9.getD (v_1).toNat (.bool false, [])).1] (frm 1 [(0, .ref 7)]) (k30b 5 26 [.nil, .nil, .nil, AI 0, AI 0] (k30a 4 26 [LLI A, LLI O, LLI J, AI bo, AI t] (nextX_c_r7 c p1_12 h1_13 ((A.length : Int) + 2) eo1 so1 no1 co1 eo2 so2 no2 co2 eo3 so3 no3 co3 26 5 1 [LLI A, LLI O, LLI J, AI bo, AI t] 26 5 1 [.nil, .nil, .nil, AI 0, AI 0] 30 1 LT9.length ((rows (eV eI 2 1) LT9).set (v_1).toNat (weakN (LT9.getD (v_1).toNat (.bool false, [])).1 (LT9.getD (v_1).toNat (.bool false, [])).2.length)) 2 1 (((LT9.getD (v_1).toNat (.bool false, [])).2).length) (rows eI ((LT9.getD (v_1).toNat (.bool false, [])).2)) hc))))) ?_
      rintro _ _ ⟨_, _, ⟨_, _, ⟨_, ⟨_, ⟨v_26, p1_27, h1_28, f29, rfl, rfl⟩, rfl⟩, rfl⟩, rfl, rfl⟩, rfl, rfl⟩
      refine R.go 1 (R.anyJn 9 (.int .i64 (IntKind.i64.wrap (v_26 - 1))) (v_26 - 1) (by kernel_rfl) (congrArg (AV.int .i64) (wrap_id (by omega) (by omega))) (np_meetF _ _) ?_)
      refine k34 10 8 1 ((LT9.getD (v_1).toNat (.bool false, [])).2).length ((v_5).toNat) v_5 (np_meetF _ _) ?_ (hj := by first | omega | (simp only [List.length_set]; omega) | (simp <;> omega))
      refine k22 11 ?_
      refine k12 8 2 ((LT9.getD (v_1).toNat (.bool false, [])).2) ((v_5).toNat) (v_26 - 1) ?_ (hj := by first | omega | (simp only [List.length_set]; omega) | (simp <;> omega))
      refine R.go 1 (k21 ?_)
      exact k33 (v_26, p1_27, h1_28) (by first | assumption | omega)
     ·refine k27 (k29d 4 usC frC (k29b 8 [(LT9.getD (v_1).toNat (.bool false, [])).1] (frm 1 [(0, .ref 7)]) (k30b 5 26 [.nil, .nil, .nil, AI 0, AI 0] (k30a 4 26 [LLI A, LLI O, LLI J, AI bo, AI t] (nextX_c_r7 c p1_12 h1_13 ((A.length : Int) + 2) eo1 so1 no1 co1 eo2 so2 no2 co2 eo3 so3 no3 co3 26 5 1 [LLI A, LLI O, LLI J, AI bo, AI t] 26 5 1 [.nil, .nil, .nil, AI 0, AI 0] 30 1 LT9.length ((rows (eV eI 2 1) LT9).set (v_1).toNat (weakN (LT9.getD (v_1).toNat (.bool false, [])).1 (LT9.getD (v_1).toNat (.bool false, [])).2.length)) 2 1 (((LT9.getD (v_1).toNat (.bool false, [])).2).length) (rows eI ((LT9.getD (v_1).toNat (.bool false, [])).2)) hc))))) ?_
      rintro _ _ ⟨_, _, ⟨_, _, ⟨_, ⟨_, ⟨v_30, p1_31, h1_32, f33, rfl, rfl⟩, rfl⟩, rfl⟩, rfl, rfl⟩, rfl, rfl⟩
      refine R.go 1 (R.anyJn 9 (.int .i64 (IntKind.i64.wrap (v_30 - 1))) (v_30 - 1) (by kernel_rfl) (congrArg (AV.int .i64) (wrap_id (by omega) (by omega))) (np_meetF _ _) ?_)
      refine k22 3 ?_
      refine k10 ((rows (eV eI 2 1) LT9).set (v_1).toNat (weakN (LT9.getD (v_1).toNat (.bool false, [])).1 (LT9.getD (v_1).toNat (.bool false, [])).2.length)) (((v_1).toNat) * 1) (weakN ((LT9.getD (v_1).toNat (.bool false, [])).1) ((LT9.getD (v_1).toNat (.bool false, [])).2.length)) (weak_at (by omega) rfl) ?_
      refine R.go 1 (k22 10 ?_)
      refine R.untag 43 9 8 0 ((LT9.getD (v_1).toNat (.bool false, [])).2.length) ((LT9.getD (v_1).toNat (.bool false, [])).1) [] (by kernel_rfl) (by kernel_rfl) (by kernel_rfl) ?_
      refine k9 8 1 ((LT9.getD (v_1).toNat (.bool false, [])).2).length ((v_5).toNat) v_5 ?_ (hj := by first | omega | (simp only [List.length_set]; omega) | (simp <;> omega))
      refine R.go 1 (k22 11 ?_)
      refine k12 8 2 ((LT9.getD (v_1).toNat (.bool false, [])).2) ((v_5).toNat) (v_30 - 1) ?_ (hj := by first | omega | (simp only [List.length_set]; omega) | (simp <;> omega))
      refine R.go 1 (k21 ?_)
      exact k33 (v_30, p1_31, h1_32) (by first | assumption | omega)
    ·rintro ⟨v_26, p1_27, h1_28⟩ f29
     refine R.go 1 (R.repinV eI 2 1 30 LT9 (v_1).toNat (.bool false, []) 7 8 (((LT9.getD (v_1).toNat (.bool false, [])).2).set ((v_5).toNat) (v_26 - 1)) (by kernel_rfl) (by kernel_rfl) (by omega) (by kernel_rfl) (by kernel_rfl) rfl ?_)
     refine R.kfix 4 (us := usC) (by kernel_rfl) (hfC.frz 8 (.nam ((LT9.getD (v_1).toNat (.bool false, [])).1) (some 2) 1 (((LT9.getD (v_1).toNat (.bool false, [])).2).set ((v_5).toNat) (v_26 - 1)).length (rows eI (((LT9.getD (v_1).toNat (.bool false, [])).2).set ((v_5).toNat) (v_26 - 1)))) (Nat.le_of_ble_eq_true (by kernel_rfl))) ?_
     refine R.unV 7 30 2 (LT9.set (v_1).toNat ((LT9.getD (v_1).toNat (.bool false, [])).1, ((LT9.getD (v_1).toNat (.bool false, [])).2).set ((v_5).toNat) (v_26 - 1))) (by kernel_rfl) (by kernel_rfl) ?_
     refine k19 7 ?_
     refine R.kfix 4 (us := usC) (by kernel_rfl) (hfC.frz 7 (LLI ((LT9.set (v_1).toNat ((LT9.getD (v_1).toNat (.bool false, [])).1, ((LT9.getD (v_1).toNat (.bool false, [])).2).set ((v_5).toNat) (v_26 - 1))).map Prod.snd)) (Nat.le_of_ble_eq_true (by kernel_rfl))) ?_
     exact R.go 10 (R.retX (res := .agg [LLI A, LLI O, LLI ((LT9.set (v_1).toNat ((LT9.getD (v_1).toNat (.bool false, [])).1, ((LT9.getD (v_1).toNat (.bool false, [])).2).set ((v_5).toNat) (v_26 - 1))).map Prod.snd), AI bo, AI t]) (hp' := [.box 157 [LB c, AI (p1_27 : Int), .int .u64 h1_28], .list eo1 so1 no1 co1, .list eo2 so2 no2 co2, .list eo3 so3 no3 co3, .dead, .box 26 [LLI A, LLI O, LLI ((LT9.set (v_1).toNat ((LT9.getD (v_1).toNat (.bool false, [])).1, ((LT9.getD (v_1).toNat (.bool false, [])).2).set ((v_5).toNat) (v_26 - 1))).map Prod.snd), AI bo, AI t], .box 26 [LLI A, LLI O, LLI ((LT9.set (v_1).toNat ((LT9.getD (v_1).toNat (.bool false, [])).1, ((LT9.getD (v_1).toNat (.bool false, [])).2).set ((v_5).toNat) (v_26 - 1))).map Prod.snd), AI bo, AI t], .dead, .dead, .dead]) (by kernel_rfl) (by kernel_rfl) (by kernel_rfl) (by kernel_rfl) ⟨[0, 1, 2, 3], by kernel_rfl, by decide, A, O, (LT9.set (v_1).toNat ((LT9.getD (v_1).toNat (.bool false, [])).1, ((LT9.getD (v_1).toNat (.bool false, [])).2).set ((v_5).toNat) (v_26 - 1))).map Prod.snd, bo, t, p1_27, h1_28, by first | assumption | exact sz_drop (by assumption) | exact sz_set (by assumption) (by assumption) (by rw [List.length_set]; omega), by first | assumption | exact sz_drop (by assumption) | exact sz_set (by assumption) (by assumption) (by rw [List.length_set]; omega), by first | assumption | exact sz_drop (by assumption) | exact sz_set (by assumption) (by assumption) (by rw [List.length_set]; omega), by kernel_rfl, by kernel_rfl⟩)
   ·refine R.go 5 (k3 (v_11 = 3) (fun c34 => ?_) (fun c34 => ?_))
    ·refine R.go 4 (R.callT (avs0 := [LLI A]) (E := eI) (Ψ := fun L => L.map Prod.snd = A) (v_1).toNat 2 1 30 (.bool false, []) (own2E_c A (by first | omega | (simp <;> omega)) hqA) (by kernel_rfl) (.cons (.leaf rfl) (.nil)) eI_closed (fun L hL => by have h9 := congrArg List.length hL; rw [List.length_map] at h9; omega) (by kernel_rfl) ?_)
     intro LT35 hT36
     have hT36_l : LT35.length = A.length := by have h9 := congrArg List.length hT36; rwa [List.length_map] at h9
     refine R.go 3 ?_
     have hil : ((LT35).getD (v_1).toNat (.bool false, [])).2.length = (ordT A).length := by rw [map_at (Q := A) (by assumption) (by omega)]; exact hsA _ (by omega)
     refine R.meetF (α := Int × Nat × Int) (fun | (v_37, p1_38, h1_39) => ((((A.length : Int) + 2) < 1 → v_37 = 0) ∧ (1 ≤ ((A.length : Int) + 2) → 0 ≤ v_37 ∧ v_37 < ((A.length : Int) + 2)))) (fun | (v_37, p1_38, h1_39) => (⟨(frm 96 [(0, .ptr 0 0), (1, .agg [LLI A, LLI O, LLI J, AI bo, AI t]), (3, .ptr 5 0), (4, .ptr 6 0), (5, AI A.length), (6, AI v_1), (7, AI v_5), (8, .ref 10), (9, .agg [LLI A, LLI O, LLI J, AI bo, AI t]), (10, AI A.length), (11, .ptr 0 0), (12, AI A.length), (13, AI v_1), (14, .ptr 0 0), (15, AI A.length), (16, AI v_5), (17, .ptr 5 2), (18, LLI J), (19, .ref 7), (20, .ptr 0 0), (21, AI v_11), (22, .bool (decide (v_11 = 0))), (23, .bool (decide (v_11 = 0))), (30, .bool (decide (v_11 = 1))), (31, .bool (decide (v_11 = 1))), (38, .bool (decide (v_11 = 2))), (39, .bool (decide (v_11 = 2))), (53, .bool (decide (v_11 = 3))), (54, .bool (decide (v_11 = 3))), (55, .ptr 5 0), (56, LLI A), (57, .ref 10), (58, .ref 10), (59, AI v_1), (60, .ptr 10 (((v_1).toNat) * 1)), (61, .ref 11), (62, AI v_5), (63, .ptr 0 0), (64, AI A.length), (65, AI ((A.length : Int) + 2)), (66, AI v_37), (67, AI (v_37 - 1)), (68, .ptr 11 (((v_5).toNat) * 1))]), [.box 157 [LB c, AI (p1_38 : Int), .int .u64 h1_39], .list eo1 so1 no1 co1, .list eo2 so2 no2 co2, .list eo3 so3 no3 co3, .frame usC frC, .box 26 [LLI A, LLI O, LLI J, AI bo, AI t], .box 26 [.nil, .nil, .nil, AI 0, AI 0], weakRow eI 2 1 30 LT9 (v_1).toNat (.bool false, []), rowA eI 2 1 ((LT9.getD (v_1).toNat (.bool false, [])).2), .frame [(LT9.getD (v_1).toNat (.bool false, [])).1] (frm 1 [(0, .ref 8)]), weakRow eI 2 1 30 LT35 (v_1).toNat (.bool false, []), rowA eI 2 1 (((LT35.getD (v_1).toNat (.bool false, [])).2).set ((v_5).toNat) (v_37 - 1)), .frame [(LT35.getD (v_1).toNat (.bool false, [])).1] (frm 1 [(0, .ref 11)])]⟩ : St)) (by kernel_rfl) ?_ ?_
     ·refine R.any (by decide +kernel) (by kernel_rfl) ?_
      refine k25 0 (np_meetF _ _) ?_
      refine k25 1 (np_meetF _ _) ?_
      refine k25 4 (np_meetF _ _) ?_
      refine k25 5 (np_meetF _ _) ?_
      refine k25 6 (np_meetF _ _) ?_
      refine R.anyIn 7 (.int .i64 (IntKind.i64.wrap ((A.length : Int) + 2))) ((A.length : Int) + 2) (by kernel_rfl) (congrArg (AV.int .i64) (wrap_id (by omega) (by omega))) (np_meetF _ _) ?_
      refine k34 2 10 1 LT35.length ((v_1).toNat) v_1 (np_meetF _ _) ?_
      refine k23 3 8 ?_ ?_
      ·refine k10 ((rows (eV eI 2 1) LT35).set (v_1).toNat (weakN (LT35.getD (v_1).toNat (.bool false, [])).1 (LT35.getD (v_1).toNat (.bool false, [])).2.length)) (((v_1).toNat) * 1) (weakN ((LT35.getD (v_1).toNat (.bool false, [])).1) ((LT35.getD (v_1).toNat (.bool false, [])).2.length)) (weak_at (by omega) rfl) ?_
       refine R.go 1 (k22 8 ?_)
       refine R.untag 61 12 11 0 ((LT35.getD (v_1).toNat (.bool false, [])).2.length) ((LT35.getD (v_1).toNat (.bool false, [])).1) [] (by kernel_rfl) (by kernel_rfl) (by kernel_rfl) ?_
       refine k27 (k29g 4 usC frC (k29d 8 [(LT9.getD (v_1).toNat (.bool false, [])).1] (frm 1 [(0, .ref 7)]) (k29b 10 [(LT35.getD (v_1).toNat (.bool false, [])).1] (frm 1 [(0, .ref 9)]) (k30b 5 26 [.nil, .nil, .nil, AI 0, AI 0] (k30a 4 26 [LLI A, LLI O, LLI J, AI bo, AI t] (nextX_c_r9 c p1_12 h1_13 ((A.length : Int) + 2) eo1 so1 no1 co1 eo2 so2 no2 co2 eo3 so3 no3 co3 26 5 1 [LLI A, LLI O, LLI J, AI bo, AI t] 26 5 1 [.nil, .nil, .nil, AI 0, AI 0] 30 1 LT9.length ((rows (eV eI 2 1) LT9).set (v_1).toNat (weakN (LT9.getD (v_1).toNat (.bool false, [])).1 (LT9.getD (v_1).toNat (.bool false, [])).2.length)) 2 1 (((LT9.getD (v_1).toNat (.bool false, [])).2).length) (rows eI ((LT9.getD (v_1).toNat (.bool false, [])).2)) 30 1 LT35.length ((rows (eV eI 2 1) LT35).set (v_1).toNat (weakN (LT35.getD (v_1).toNat (.bool false, [])).1 (LT35.getD (v_1).toNat (.bool false, [])).2.length)) 2 1 (((LT35.getD (v_1).toNat (.bool false, [])).2).length) (rows eI ((LT35.getD (v_1).toNat (.bool false, [])).2)) hc)))))) ?_
       rintro _ _ ⟨_, _, ⟨_, _, ⟨_, _, ⟨_, ⟨_, ⟨v_37, p1_38, h1_39, f40, rfl, rfl⟩, rfl⟩, rfl⟩, rfl, rfl⟩, rfl, rfl⟩, rfl, rfl⟩
       refine R.go 1 (R.anyJn 9 (.int .i64 (IntKind.i64.wrap (v_37 - 1))) (v_37 - 1) (by kernel_rfl) (congrArg (AV.int .i64) (wrap_id (by omega) (by omega))) (np_meetF _ _) ?_)
       refine k34 10 11 1 ((LT35.getD (v_1).toNat (.bool false, [])).2).length ((v_5).toNat) v_5 (np_meetF _ _) ?_ (hj := by first | omega | (simp only [List.length_set]; omega) | (simp <;> omega))
       refine k22 11 ?_
       refine k12 11 2 ((LT35.getD (v_1).toNat (.bool false, [])).2) ((v_5).toNat) (v_37 - 1) ?_ (hj := by first | omega | (simp only [List.length_set]; omega) | (simp <;> omega))
       refine R.go 1 (k21 ?_)
       exact k33 (v_37, p1_38, h1_39) (by first | assumption | omega)
      ·refine k27 (k29g 4 usC frC (k29d 8 [(LT9.getD (v_1).toNat (.bool false, [])).1] (frm 1 [(0, .ref 7)]) (k29b 10 [(LT35.getD (v_1).toNat (.bool false, [])).1] (frm 1 [(0, .ref 9)]) (k30b 5 26 [.nil, .nil, .nil, AI 0, AI 0] (k30a 4 26 [LLI A, LLI O, LLI J, AI bo, AI t] (nextX_c_r9 c p1_12 h1_13 ((A.length : Int) + 2) eo1 so1 no1 co1 eo2 so2 no2 co2 eo3 so3 no3 co3 26 5 1 [LLI A, LLI O, LLI J, AI bo, AI t] 26 5 1 [.nil, .nil, .nil, AI 0, AI 0] 30 1 LT9.length ((rows (eV eI 2 1) LT9).set (v_1).toNat (weakN (LT9.getD (v_1).toNat (.bool false, [])).1 (LT9.getD (v_1).toNat (.bool false, [])).2.length)) 2 1 (((LT9.getD (v_1).toNat (.bool false, [])).2).length) (rows eI ((LT9.getD (v_1).toNat (.bool false, [])).2)) 30 1 LT35.length ((rows (eV eI 2 1) LT35).set (v_1).toNat (weakN (LT35.getD (v_1).toNat (.bool false, [])).1 (LT35.getD (v_1).toNat (.bool false, [])).2.length)) 2 1 (((LT35.getD (v_1).toNat (.bool false, [])).2).length) (rows eI ((LT35.getD (v_1).toNat (.bool false, [])).2)) hc)))))) ?_
       rintro _ _ ⟨_, _, ⟨_, _, ⟨_, _, ⟨_, ⟨_, ⟨v_41, p1_42, h1_43, f44, rfl, rfl⟩, rfl⟩, rfl⟩, rfl, rfl⟩, rfl, rfl⟩, rfl, rfl⟩
       refine R.go 1 (R.anyJn 9 (.int .i64 (IntKind.i64.wrap (v_41 - 1))) (v_41 - 1) (by kernel_rfl) (congrArg (AV.int .i64) (wrap_id (by omega) (by omega))) (np_meetF _ _) ?_)
       refine k22 3 ?_
       refine k10 ((rows (eV eI 2 1) LT35).set (v_1).toNat (weakN (LT35.getD (v_1).toNat (.bool false, [])).1 (LT35.getD (v_1).toNat (.bool false, [])).2.length)) (((v_1).toNat) * 1) (weakN ((LT35.getD (v_1).toNat (.bool false, [])).1) ((LT35.getD (v_1).toNat (.bool false, [])).2.length)) (weak_at (by omega) rfl) ?_
       refine R.go 1 (k22 10 ?_)
       refine R.untag 61 12 11 0 ((LT35.getD (v_1).toNat (.bool false, [])).2.length) ((LT35.getD (v_1).toNat (.bool false, [])).1) [] (by kernel_rfl) (by kernel_rfl) (by kernel_rfl) ?_
       refine k9 11 1 ((LT35.getD (v_1).toNat (.bool false, [])).2).length ((v_5).toNat) v_5 ?_ (hj := by first | omega | (simp only [List.length_set]; omega) | (simp <;> omega))
       refine R.go 1 (k22 11 ?_)
       refine k12 11 2 ((LT35.getD (v_1).toNat (.bool false, [])).2) ((v_5).toNat) (v_41 - 1) ?_ (hj := by first | omega | (simp only [List.length_set]; omega) | (simp <;> omega))
       refine R.go 1 (k21 ?_)
       exact k33 (v_41, p1_42, h1_43) (by first | assumption | omega)
     ·rintro ⟨v_37, p1_38, h1_39⟩ f40
      refine R.go 1 (R.repinV eI 2 1 30 LT35 (v_1).toNat (.bool false, []) 10 11 (((LT35.getD (v_1).toNat (.bool false, [])).2).set ((v_5).toNat) (v_37 - 1)) (by kernel_rfl) (by kernel_rfl) (by omega) (by kernel_rfl) (by kernel_rfl) rfl ?_)
      refine R.kfix 4 (us := usC) (by kernel_rfl) (hfC.frz 11 (.nam ((LT35.getD (v_1).toNat (.bool false, [])).1) (some 2) 1 (((LT35.getD (v_1).toNat (.bool false, [])).2).set ((v_5).toNat) (v_37 - 1)).length (rows eI (((LT35.getD (v_1).toNat (.bool false, [])).2).set ((v_5).toNat) (v_37 - 1)))) (Nat.le_of_ble_eq_true (by kernel_rfl))) ?_
      refine R.unV 10 30 2 (LT35.set (v_1).toNat ((LT35.getD (v_1).toNat (.bool false, [])).1, ((LT35.getD (v_1).toNat (.bool false, [])).2).set ((v_5).toNat) (v_37 - 1))) (by kernel_rfl) (by kernel_rfl) ?_
      refine k19 10 ?_
      refine R.kfix 4 (us := usC) (by kernel_rfl) (hfC.frz 10 (LLI ((LT35.set (v_1).toNat ((LT35.getD (v_1).toNat (.bool false, [])).1, ((LT35.getD (v_1).toNat (.bool false, [])).2).set ((v_5).toNat) (v_37 - 1))).map Prod.snd)) (Nat.le_of_ble_eq_true (by kernel_rfl))) ?_
      exact R.go 10 (R.retX (res := .agg [LLI ((LT35.set (v_1).toNat ((LT35.getD (v_1).toNat (.bool false, [])).1, ((LT35.getD (v_1).toNat (.bool false, [])).2).set ((v_5).toNat) (v_37 - 1))).map Prod.snd), LLI O, LLI J, AI bo, AI t]) (hp' := [.box 157 [LB c, AI (p1_38 : Int), .int .u64 h1_39], .list eo1 so1 no1 co1, .list eo2 so2 no2 co2, .list eo3 so3 no3 co3, .dead, .box 26 [LLI ((LT35.set (v_1).toNat ((LT35.getD (v_1).toNat (.bool false, [])).1, ((LT35.getD (v_1).toNat (.bool false, [])).2).set ((v_5).toNat) (v_37 - 1))).map Prod.snd), LLI O, LLI J, AI bo, AI t], .box 26 [LLI ((LT35.set (v_1).toNat ((LT35.getD (v_1).toNat (.bool false, [])).1, ((LT35.getD (v_1).toNat (.bool false, [])).2).set ((v_5).toNat) (v_37 - 1))).map Prod.snd), LLI O, LLI J, AI bo, AI t], weakRow eI 2 1 30 LT9 (v_1).toNat (.bool false, []), rowA eI 2 1 ((LT9.getD (v_1).toNat (.bool false, [])).2), .frame [(LT9.getD (v_1).toNat (.bool false, [])).1] (frm 1 [(0, .ref 8)]), .dead, .dead, .dead]) (by kernel_rfl) (by kernel_rfl) (by kernel_rfl) (by kernel_rfl) ⟨[0, 1, 2, 3], by kernel_rfl, by decide, (LT35.set (v_1).toNat ((LT35.getD (v_1).toNat (.bool false, [])).1, ((LT35.getD (v_1).toNat (.bool false, [])).2).set ((v_5).toNat) (v_37 - 1))).map Prod.snd, O, J, bo, t, p1_38, h1_39, by first | assumption | exact sz_drop (by assumption) | exact sz_set (by assumption) (by assumption) (by rw [List.length_set]; omega), by first | assumption | exact sz_drop (by assumption) | exact sz_set (by assumption) (by assumption) (by rw [List.length_set]; omega), by first | assumption | exact sz_drop (by assumption) | exact sz_set (by assumption) (by assumption) (by rw [List.length_set]; omega), by kernel_rfl, by kernel_rfl⟩)
    ·refine R.go 5 (k3 (v_11 = 4) (fun c45 => ?_) (fun c45 => ?_))
     ·refine R.go 4 (R.callT (avs0 := [LLI O]) (E := eI) (Ψ := fun L => L.map Prod.snd = O) (v_1).toNat 2 1 30 (.bool false, []) (own2E_c O (by first | omega | (simp <;> omega)) hqO) (by kernel_rfl) (.cons (.leaf rfl) (.nil)) eI_closed (fun L hL => by have h9 := congrArg List.length hL; rw [List.length_map] at h9; omega) (by kernel_rfl) ?_)
      intro LT46 hT47
      have hT47_l : LT46.length = O.length := by have h9 := congrArg List.length hT47; rwa [List.length_map] at h9
      refine R.go 3 ?_
      have hil : ((LT46).getD (v_1).toNat (.bool false, [])).2.length = (ordT A).length := by rw [map_at (Q := O) (by assumption) (by omega)]; exact hsO _ (by omega)
      refine R.meetF (α := Int × Nat × Int) (fun | (v_48, p1_49, h1_50) => ((((A.length : Int) + 2) < 1 → v_48 = 0) ∧ (1 ≤ ((A.length : Int) + 2) → 0 ≤ v_48 ∧ v_48 < ((A.length : Int) + 2)))) (fun | (v_48, p1_49, h1_50) => (⟨(frm 96 [(0, .ptr 0 0), (1, .agg [LLI A, LLI O, LLI J, AI bo, AI t]), (3, .ptr 5 0), (4, .ptr 6 0), (5, AI A.length), (6, AI v_1), (7, AI v_5), (8, .ref 10), (9, .agg [LLI A, LLI O, LLI J, AI bo, AI t]), (10, AI A.length), (11, .ptr 0 0), (12, AI A.length), (13, AI v_1), (14, .ptr 0 0), (15, AI A.length), (16, AI v_5), (17, .ptr 5 2), (18, LLI J), (19, .ref 7), (20, .ptr 0 0), (21, AI v_11), (22, .bool (decide (v_11 = 0))), (23, .bool (decide (v_11 = 0))), (30, .bool (decide (v_11 = 1))), (31, .bool (decide (v_11 = 1))), (38, .bool (decide (v_11 = 2))), (39, .bool (decide (v_11 = 2))), (53, .bool (decide (v_11 = 3))), (54, .bool (decide (v_11 = 3))), (71, .bool (decide (v_11 = 4))), (72, .bool (decide (v_11 = 4))), (73, .ptr 5 1), (74, LLI O), (75, .ref 10), (76, .ref 10), (77, AI v_1), (78, .ptr 10 (((v_1).toNat) * 1)), (79, .ref 11), (80, AI v_5), (81, .ptr 0 0), (82, AI A.length), (83, AI ((A.length : Int) + 2)), (84, AI v_48), (85, AI (v_48 - 1)), (86, .ptr 11 (((v_5).toNat) * 1))]), [.box 157 [LB c, AI (p1_49 : Int), .int .u64 h1_50], .list eo1 so1 no1 co1, .list eo2 so2 no2 co2, .list eo3 so3 no3 co3, .frame usC frC, .box 26 [LLI A, LLI O, LLI J, AI bo, AI t], .box 26 [.nil, .nil, .nil, AI 0, AI 0], weakRow eI 2 1 30 LT9 (v_1).toNat (.bool false, []), rowA eI 2 1 ((LT9.getD (v_1).toNat (.bool false, [])).2), .frame [(LT9.getD (v_1).toNat (.bool false, [])).1] (frm 1 [(0, .ref 8)]), weakRow eI 2 1 30 LT46 (v_1).toNat (.bool false, []), rowA eI 2 1 (((LT46.getD (v_1).toNat (.bool false, [])).2).set ((v_5).toNat) (v_48 - 1)), .frame [(LT46.getD (v_1).toNat (.bool false, [])).1] (frm 1 [(0, .ref 11)])]⟩ : St)) (by kernel_rfl) ?_ ?_
      ·refine R.any (by decide +kernel) (by kernel_rfl) ?_
       refine k25 0 (np_meetF _ _) ?_
       refine k25 1 (np_meetF _ _) ?_
       refine k25 4 (np_meetF _ _) ?_
       refine k25 5 (np_meetF _ _) ?_
       refine k25 6 (np_meetF _ _) ?_
       refine R.anyIn 7 (.int .i64 (IntKind.i64.wrap ((A.length : Int) + 2))) ((A.length : Int) + 2) (by kernel_rfl) (congrArg (AV.int .i64) (wrap_id (by omega) (by omega))) (np_meetF _ _) ?_
       refine k34 2 10 1 LT46.length ((v_1).toNat) v_1 (np_meetF _ _) ?_
       refine k23 3 8 ?_ ?_
       ·refine k10 ((rows (eV eI 2 1) LT46).set (v_1).toNat (weakN (LT46.getD (v_1).toNat (.bool false, [])).1 (LT46.getD (v_1).toNat (.bool false, [])).2.length)) (((v_1).toNat) * 1) (weakN ((LT46.getD (v_1).toNat (.bool false, [])).1) ((LT46.getD (v_1).toNat (.bool false, [])).2.length)) (weak_at (by omega) rfl) ?_
        refine R.go 1 (k22 8 ?_)
        refine R.untag 79 12 11 0 ((LT46.getD (v_1).toNat (.bool false, [])).2.length) ((LT46.getD (v_1).toNat (.bool false, [])).1) [] (by kernel_rfl) (by kernel_rfl) (by kernel_rfl) ?_
        refine k27 (k29g 4 usC frC (k29d 8 [(LT9.getD (v_1).toNat (.bool false, [])).1] (frm 1 [(0, .ref 7)]) (k29b 10 [(LT46.getD (v_1).toNat (.bool false, [])).1] (frm 1 [(0, .ref 9)]) (k30b 5 26 [.nil, .nil, .nil, AI 0, AI 0] (k30a 4 26 [LLI A, LLI O, LLI J, AI bo, AI t] (nextX_c_r9 c p1_12 h1_13 ((A.length : Int) + 2) eo1 so1 no1 co1 eo2 so2 no2 co2 eo3 so3 no3 co3 26 5 1 [LLI A, LLI O, LLI J, AI bo, AI t] 26 5 1 [.nil, .nil, .nil, AI 0, AI 0] 30 1 LT9.length ((rows (eV eI 2 1) LT9).set (v_1).toNat (weakN (LT9.getD (v_1).toNat (.bool false, [])).1 (LT9.getD (v_1).toNat (.bool false, [])).2.length)) 2 1 (((LT9.getD (v_1).toNat (.bool false, [])).2).length) (rows eI ((LT9.getD (v_1).toNat (.bool false, [])).2)) 30 1 LT46.length ((rows (eV eI 2 1) LT46).set (v_1).toNat (weakN (LT46.getD (v_1).toNat (.bool false, [])).1 (LT46.getD (v_1).toNat (.bool false, [])).2.length)) 2 1 (((LT46.getD (v_1).toNat (.bool false, [])).2).length) (rows eI ((LT46.getD (v_1).toNat (.bool false, [])).2)) hc)))))) ?_
        rintro _ _ ⟨_, _, ⟨_, _, ⟨_, _, ⟨_, ⟨_, ⟨v_48, p1_49, h1_50, f51, rfl, rfl⟩, rfl⟩, rfl⟩, rfl, rfl⟩, rfl, rfl⟩, rfl, rfl⟩
        refine R.go 1 (R.anyJn 9 (.int .i64 (IntKind.i64.wrap (v_48 - 1))) (v_48 - 1) (by kernel_rfl) (congrArg (AV.int .i64) (wrap_id (by omega) (by omega))) (np_meetF _ _) ?_)
        refine k34 10 11 1 ((LT46.getD (v_1).toNat (.bool false, [])).2).length ((v_5).toNat) v_5 (np_meetF _ _) ?_ (hj := by first | omega | (simp only [List.length_set]; omega) | (simp <;> omega))
        refine k22 11 ?_
        refine k12 11 2 ((LT46.getD (v_1).toNat (.bool false, [])).2) ((v_5).toNat) (v_48 - 1) ?_ (hj := by first | omega | (simp only [List.length_set]; omega) | (simp <;> omega))
        refine R.go 1 (k21 ?_)
        exact k33 (v_48, p1_49, h1_50) (by first | assumption | omega)
       ·refine k27 (k29g 4 usC frC (k29d 8 [(LT9.getD (v_1).toNat (.bool false, [])).1] (frm 1 [(0, .ref 7)]) (k29b 10 [(LT46.getD (v_1).toNat (.bool false, [])).1] (frm 1 [(0, .ref 9)]) (k30b 5 26 [.nil, .nil, .nil, AI 0, AI 0] (k30a 4 26 [LLI A, LLI O, LLI J, AI bo, AI t] (nextX_c_r9 c p1_12 h1_13 ((A.length : Int) + 2) eo1 so1 no1 co1 eo2 so2 no2 co2 eo3 so3 no3 co3 26 5 1 [LLI A, LLI O, LLI J, AI bo, AI t] 26 5 1 [.nil, .nil, .nil, AI 0, AI 0] 30 1 LT9.length ((rows (eV eI 2 1) LT9).set (v_1).toNat (weakN (LT9.getD (v_1).toNat (.bool false, [])).1 (LT9.getD (v_1).toNat (.bool false, [])).2.length)) 2 1 (((LT9.getD (v_1).toNat (.bool false, [])).2).length) (rows eI ((LT9.getD (v_1).toNat (.bool false, [])).2)) 30 1 LT46.length ((rows (eV eI 2 1) LT46).set (v_1).toNat (weakN (LT46.getD (v_1).toNat (.bool false, [])).1 (LT46.getD (v_1).toNat (.bool false, [])).2.length)) 2 1 (((LT46.getD (v_1).toNat (.bool false, [])).2).length) (rows eI ((LT46.getD (v_1).toNat (.bool false, [])).2)) hc)))))) ?_
        rintro _ _ ⟨_, _, ⟨_, _, ⟨_, _, ⟨_, ⟨_, ⟨v_52, p1_53, h1_54, f55, rfl, rfl⟩, rfl⟩, rfl⟩, rfl, rfl⟩, rfl, rfl⟩, rfl, rfl⟩
        refine R.go 1 (R.anyJn 9 (.int .i64 (IntKind.i64.wrap (v_52 - 1))) (v_52 - 1) (by kernel_rfl) (congrArg (AV.int .i64) (wrap_id (by omega) (by omega))) (np_meetF _ _) ?_)
        refine k22 3 ?_
        refine k10 ((rows (eV eI 2 1) LT46).set (v_1).toNat (weakN (LT46.getD (v_1).toNat (.bool false, [])).1 (LT46.getD (v_1).toNat (.bool false, [])).2.length)) (((v_1).toNat) * 1) (weakN ((LT46.getD (v_1).toNat (.bool false, [])).1) ((LT46.getD (v_1).toNat (.bool false, [])).2.length)) (weak_at (by omega) rfl) ?_
        refine R.go 1 (k22 10 ?_)
        refine R.untag 79 12 11 0 ((LT46.getD (v_1).toNat (.bool false, [])).2.length) ((LT46.getD (v_1).toNat (.bool false, [])).1) [] (by kernel_rfl) (by kernel_rfl) (by kernel_rfl) ?_
        refine k9 11 1 ((LT46.getD (v_1).toNat (.bool false, [])).2).length ((v_5).toNat) v_5 ?_ (hj := by first | omega | (simp only [List.length_set]; omega) | (simp <;> omega))
        refine R.go 1 (k22 11 ?_)
        refine k12 11 2 ((LT46.getD (v_1).toNat (.bool false, [])).2) ((v_5).toNat) (v_52 - 1) ?_ (hj := by first | omega | (simp only [List.length_set]; omega) | (simp <;> omega))
        refine R.go 1 (k21 ?_)
        exact k33 (v_52, p1_53, h1_54) (by first | assumption | omega)
      ·rintro ⟨v_48, p1_49, h1_50⟩ f51
       refine R.go 1 (R.repinV eI 2 1 30 LT46 (v_1).toNat (.bool false, []) 10 11 (((LT46.getD (v_1).toNat (.bool false, [])).2).set ((v_5).toNat) (v_48 - 1)) (by kernel_rfl) (by kernel_rfl) (by omega) (by kernel_rfl) (by kernel_rfl) rfl ?_)
       refine R.kfix 4 (us := usC) (by kernel_rfl) (hfC.frz 11 (.nam ((LT46.getD (v_1).toNat (.bool false, [])).1) (some 2) 1 (((LT46.getD (v_1).toNat (.bool false, [])).2).set ((v_5).toNat) (v_48 - 1)).length (rows eI (((LT46.getD (v_1).toNat (.bool false, [])).2).set ((v_5).toNat) (v_48 - 1)))) (Nat.le_of_ble_eq_true (by kernel_rfl))) ?_
       refine R.unV 10 30 2 (LT46.set (v_1).toNat ((LT46.getD (v_1).toNat (.bool false, [])).1, ((LT46.getD (v_1).toNat (.bool false, [])).2).set ((v_5).toNat) (v_48 - 1))) (by kernel_rfl) (by kernel_rfl) ?_
       refine k19 10 ?_
       refine R.kfix 4 (us := usC) (by kernel_rfl) (hfC.frz 10 (LLI ((LT46.set (v_1).toNat ((LT46.getD (v_1).toNat (.bool false, [])).1, ((LT46.getD (v_1).toNat (.bool false, [])).2).set ((v_5).toNat) (v_48 - 1))).map Prod.snd)) (Nat.le_of_ble_eq_true (by kernel_rfl))) ?_
       exact R.go 10 (R.retX (res := .agg [LLI A, LLI ((LT46.set (v_1).toNat ((LT46.getD (v_1).toNat (.bool false, [])).1, ((LT46.getD (v_1).toNat (.bool false, [])).2).set ((v_5).toNat) (v_48 - 1))).map Prod.snd), LLI J, AI bo, AI t]) (hp' := [.box 157 [LB c, AI (p1_49 : Int), .int .u64 h1_50], .list eo1 so1 no1 co1, .list eo2 so2 no2 co2, .list eo3 so3 no3 co3, .dead, .box 26 [LLI A, LLI ((LT46.set (v_1).toNat ((LT46.getD (v_1).toNat (.bool false, [])).1, ((LT46.getD (v_1).toNat (.bool false, [])).2).set ((v_5).toNat) (v_48 - 1))).map Prod.snd), LLI J, AI bo, AI t], .box 26 [LLI A, LLI ((LT46.set (v_1).toNat ((LT46.getD (v_1).toNat (.bool false, [])).1, ((LT46.getD (v_1).toNat (.bool false, [])).2).set ((v_5).toNat) (v_48 - 1))).map Prod.snd), LLI J, AI bo, AI t], weakRow eI 2 1 30 LT9 (v_1).toNat (.bool false, []), rowA eI 2 1 ((LT9.getD (v_1).toNat (.bool false, [])).2), .frame [(LT9.getD (v_1).toNat (.bool false, [])).1] (frm 1 [(0, .ref 8)]), .dead, .dead, .dead]) (by kernel_rfl) (by kernel_rfl) (by kernel_rfl) (by kernel_rfl) ⟨[0, 1, 2, 3], by kernel_rfl, by decide, A, (LT46.set (v_1).toNat ((LT46.getD (v_1).toNat (.bool false, [])).1, ((LT46.getD (v_1).toNat (.bool false, [])).2).set ((v_5).toNat) (v_48 - 1))).map Prod.snd, J, bo, t, p1_49, h1_50, by first | assumption | exact sz_drop (by assumption) | exact sz_set (by assumption) (by assumption) (by rw [List.length_set]; omega), by first | assumption | exact sz_drop (by assumption) | exact sz_set (by assumption) (by assumption) (by rw [List.length_set]; omega), by first | assumption | exact sz_drop (by assumption) | exact sz_set (by assumption) (by assumption) (by rw [List.length_set]; omega), by kernel_rfl, by kernel_rfl⟩)
     ·refine R.go 5 (k3 (v_11 = 5) (fun c56 => ?_) (fun c56 => ?_))
      ·refine R.go 3 (R.slL eLI O 1 1 (by kernel_rfl) rfl eLI_len (by omega) (by kernel_rfl) ?_)
       exact R.go 9 (R.retX (res := .agg [LLI A, LLI (O.drop 1), LLI J, AI bo, AI t]) (hp' := [.box 157 [LB c, AI (p1_12 : Int), .int .u64 h1_13], .list eo1 so1 no1 co1, .list eo2 so2 no2 co2, .list eo3 so3 no3 co3, .dead, .box 26 [LLI A, LLI (O.drop 1), LLI J, AI bo, AI t], .box 26 [LLI A, LLI (O.drop 1), LLI J, AI bo, AI t], weakRow eI 2 1 30 LT9 (v_1).toNat (.bool false, []), rowA eI 2 1 ((LT9.getD (v_1).toNat (.bool false, [])).2), .frame [(LT9.getD (v_1).toNat (.bool false, [])).1] (frm 1 [(0, .ref 8)])]) (by kernel_rfl) (by kernel_rfl) (by kernel_rfl) (by kernel_rfl) ⟨[0, 1, 2, 3], by kernel_rfl, by decide, A, O.drop 1, J, bo, t, p1_12, h1_13, by first | assumption | exact sz_drop (by assumption) | exact sz_set (by assumption) (by assumption) (by rw [List.length_set]; omega), by first | assumption | exact sz_drop (by assumption) | exact sz_set (by assumption) (by assumption) (by rw [List.length_set]; omega), by first | assumption | exact sz_drop (by assumption) | exact sz_set (by assumption) (by assumption) (by rw [List.length_set]; omega), by kernel_rfl, by kernel_rfl⟩)
      ·exact R.go 7 (R.retX (res := .agg [LLI A, LLI O, LLI J, AI bo, AI t]) (hp' := [.box 157 [LB c, AI (p1_12 : Int), .int .u64 h1_13], .list eo1 so1 no1 co1, .list eo2 so2 no2 co2, .list eo3 so3 no3 co3, .dead, .box 26 [LLI A, LLI O, LLI J, AI bo, AI t], .box 26 [LLI A, LLI O, LLI J, AI bo, AI t], weakRow eI 2 1 30 LT9 (v_1).toNat (.bool false, []), rowA eI 2 1 ((LT9.getD (v_1).toNat (.bool false, [])).2), .frame [(LT9.getD (v_1).toNat (.bool false, [])).1] (frm 1 [(0, .ref 8)])]) (by kernel_rfl) (by kernel_rfl) (by kernel_rfl) (by kernel_rfl) ⟨[0, 1, 2, 3], by kernel_rfl, by decide, A, O, J, bo, t, p1_12, h1_13, by first | assumption | exact sz_drop (by assumption) | exact sz_set (by assumption) (by assumption) (by rw [List.length_set]; omega), by first | assumption | exact sz_drop (by assumption) | exact sz_set (by assumption) (by assumption) (by rw [List.length_set]; omega), by first | assumption | exact sz_drop (by assumption) | exact sz_set (by assumption) (by assumption) (by rw [List.length_set]; omega), by kernel_rfl, by kernel_rfl⟩)

theorem drawH_c_r1 (c : List Int) (p : Nat) (h : Int) (most : Int) (eo1 : Nat) (so1 : Nat) (no1 : Nat) (co1 : List AV) (hc : BY c) (hm : 1 ≤ most ∧ most ≤ 14) : CallX Tryz.prog 51 [.ptr 0 0, AI most] [.box 157 [LB c, AI (p : Int), .int .u64 h], .list eo1 so1 no1 co1] (fun (resX : AV) (objX : List AObj) => ∃ A2 : List (List Int), ∃ O2 : List (List Int), ∃ J2 : List (List Int), ∃ b2 : Int, ∃ t2 : Int, ∃ p1 : Nat, ∃ h1 : Int, (SZ A2) ∧ (SZ O2) ∧ (SZ J2) ∧ resX = .agg [LLI A2, LLI O2, LLI J2, AI b2, AI t2] ∧ objX = [.box 157 [LB c, AI (p1 : Int), .int .u64 h1], .list eo1 so1 no1 co1]) := by
 have hcl : c.length ≤ 4096 := hc.1
 have hcb := hc.2
 refine CallX.dropE (CallX.ofF Tryz.func51 rfl (by kernel_rfl) ?_)
 intro usC frC hfC
 refine R.go 8 (k27 (k29a 2 usC frC (k30e 2 26 [.nil, .nil, .nil, AI 0, AI 0] (someH_c_r2 c p h most eo1 so1 no1 co1 26 5 1 [.nil, .nil, .nil, AI 0, AI 0] hc hm)) (h3 := by rintro _ _ ⟨_, ⟨_, _, _, _, _, _, _, _, _, rfl, rfl⟩, rfl⟩; exact Nat.le_of_ble_eq_true (by kernel_rfl))) ?_)
 rintro _ _ ⟨_, _, ⟨_, ⟨A2_1, O2_2, J2_3, b2_4, t2_5, p1_6, h1_7, f8, f9, rfl, rfl⟩, rfl⟩, rfl, rfl⟩
 have hsz := isHy_sz (by assumption : IsHy (ordT A2_1) A2_1 O2_2 J2_3 b2_4 t2_5)
 obtain ⟨hs0, hsA, hsO, hsJ⟩ := hsz
 refine R.go 7 (k27 (k29b 2 usC frC (k30b 3 26 [LLI A2_1, LLI O2_2, LLI J2_3, AI b2_4, AI t2_5] (k30a 2 26 [.nil, .nil, .nil, AI 0, AI 0] (nextX_c_r3 c p1_6 h1_7 24 eo1 so1 no1 co1 26 5 1 [.nil, .nil, .nil, AI 0, AI 0] 26 5 1 [LLI A2_1, LLI O2_2, LLI J2_3, AI b2_4, AI t2_5] hc)))) ?_)
 rintro _ _ ⟨_, _, ⟨_, ⟨_, ⟨v_10, p1_11, h1_12, f13, rfl, rfl⟩, rfl⟩, rfl⟩, rfl, rfl⟩
 refine R.go 2 (k3 (v_10 = 0) (fun c14 => ?_) (fun c14 => ?_))
 ·refine R.go 4 (k27 (k29a 2 usC frC (k30j 3 26 [LLI A2_1, LLI O2_2, LLI J2_3, AI b2_4, AI t2_5] (k30f 2 26 [.nil, .nil, .nil, AI 0, AI 0] (bendH_c_r3 c p1_11 h1_12 A2_1 O2_2 J2_3 b2_4 t2_5 eo1 so1 no1 co1 26 5 1 [.nil, .nil, .nil, AI 0, AI 0] 26 5 1 [LLI A2_1, LLI O2_2, LLI J2_3, AI b2_4, AI t2_5] hc f8))) (h3 := by rintro _ _ ⟨_, ⟨_, ⟨_, _, _, _, _, _, _, _, _, _, rfl, rfl⟩, rfl⟩, rfl⟩; exact Nat.le_of_ble_eq_true (by kernel_rfl))) ?_)
  rintro _ _ ⟨_, _, ⟨_, ⟨_, ⟨A2_15, O2_16, J2_17, b2_18, t2_19, p1_20, h1_21, f22, f23, f24, rfl, rfl⟩, rfl⟩, rfl⟩, rfl, rfl⟩
  exact R.go 2 (R.retX (res := .agg [LLI A2_15, LLI O2_16, LLI J2_17, AI b2_18, AI t2_19]) (hp' := [.box 157 [LB c, AI (p1_20 : Int), .int .u64 h1_21], .list eo1 so1 no1 co1, .dead, .box 26 [LLI A2_15, LLI O2_16, LLI J2_17, AI b2_18, AI t2_19], .box 26 [LLI A2_1, LLI O2_2, LLI J2_3, AI b2_4, AI t2_5]]) (by kernel_rfl) (by kernel_rfl) (by kernel_rfl) (by kernel_rfl) ⟨[0, 1], by kernel_rfl, by decide, A2_15, O2_16, J2_17, b2_18, t2_19, p1_20, h1_21, by first | assumption | exact sz_of (by omega) (by omega) hsA | exact sz_of (by omega) (by omega) hsO | exact sz_of (by omega) (by omega) hsJ, by first | assumption | exact sz_of (by omega) (by omega) hsA | exact sz_of (by omega) (by omega) hsO | exact sz_of (by omega) (by omega) hsJ, by first | assumption | exact sz_of (by omega) (by omega) hsA | exact sz_of (by omega) (by omega) hsO | exact sz_of (by omega) (by omega) hsJ, by kernel_rfl, by kernel_rfl⟩)
 ·exact R.go 6 (R.retX (res := .agg [LLI A2_1, LLI O2_2, LLI J2_3, AI b2_4, AI t2_5]) (hp' := [.box 157 [LB c, AI (p1_11 : Int), .int .u64 h1_12], .list eo1 so1 no1 co1, .dead, .box 26 [LLI A2_1, LLI O2_2, LLI J2_3, AI b2_4, AI t2_5], .box 26 [LLI A2_1, LLI O2_2, LLI J2_3, AI b2_4, AI t2_5]]) (by kernel_rfl) (by kernel_rfl) (by kernel_rfl) (by kernel_rfl) ⟨[0, 1], by kernel_rfl, by decide, A2_1, O2_2, J2_3, b2_4, t2_5, p1_11, h1_12, by first | assumption | exact sz_of (by omega) (by omega) hsA | exact sz_of (by omega) (by omega) hsO | exact sz_of (by omega) (by omega) hsJ, by first | assumption | exact sz_of (by omega) (by omega) hsA | exact sz_of (by omega) (by omega) hsO | exact sz_of (by omega) (by omega) hsJ, by first | assumption | exact sz_of (by omega) (by omega) hsA | exact sz_of (by omega) (by omega) hsO | exact sz_of (by omega) (by omega) hsJ, by kernel_rfl, by kernel_rfl⟩)

theorem drOp_c (c : List Int) (hc : BY c) : CallX Tryz.prog 9 [LB c] [] (fun (resX : AV) (objX : List AObj) => ∃ A2 : List (List Int), ∃ O2 : List (List Int), ∃ J2 : List (List Int), ∃ b2 : Int, ∃ t2 : Int, (SZ A2) ∧ (SZ O2) ∧ (SZ J2) ∧ resX = .agg [LLI A2, LLI O2, LLI J2, AI b2, AI t2] ∧ objX = []) := by
 have hcl : c.length ≤ 4096 := hc.1
 have hcb := hc.2
 refine CallX.dropE (CallX.ofF Tryz.func9 rfl (by kernel_rfl) ?_)
 intro usC frC hfC
 refine R.go 7 (R.enter (avs := [LB c]) Tryz.func52 rfl (by kernel_rfl) (by kernel_rfl) (by kernel_rfl) ?_)
 intro us1
 refine R.go 9 (k2 .u64 (c.length : Int) (u64_id (by omega) (by omega)) ?_)
 refine R.go 11 (k16 ((fun | (i, hh) => (⟨(frm 38 [(0, LB c), (3, .ptr 3 0), (4, AI (i : Int))]), [.frame usC frC, .box 26 [.nil, .nil, .nil, AI 0, AI 0], .frame us1 (frm 6 [(0, LB c), (2, .ptr 1 0), (3, LB c)]), .box 157 [LB c, AI 0, .int .u64 hh]]⟩ : St) : Nat × Int → St)) (fun | (i, hh) => i ≤ c.length) (fun | (i, hh) => c.length - i) (0, (IntKind.u64.wrap (7129 + (c.length : Int)))) [0, 3, 4] none (by omega) ?_)
 rintro ⟨i, hh⟩ h5_1 R2 N3
 refine R.go 8 ?_
 by_cases c6 : (i : Int) < (c.length : Int)
 ·refine k5 (decide ((i : Int) < (c.length : Int))) true (dT c6) ?_
  refine R.go 1 (k5 (decide ((i : Int) < (c.length : Int))) true (dT c6) ?_)
  refine R.go 1 (k7 (decide ((i : Int) < (c.length : Int))) true (dT c6) ?_)
  refine R.go 1 (k3 ((i : Int) < 4096) (fun c7 => ?_) (fun c7 => ?_))
  ·have hbi := hcb i (by omega)
   refine R.go 12 (k8 eB c 0 i (i : Int) rfl eB_len ?_)
   refine R.go 1 (k2 .u64 (c.getD i 0) (u64_id (by omega) (by omega)) ?_)
   refine R.go 9 (k1 ((i : Int) + 1) ?_)
   exact R.go 2 (k17 R2 (N3 (i + 1, IntKind.u64.wrap ((IntKind.u64.wrap ((IntKind.u64.wrap (hh * 1099511628211)) + (c.getD i 0))) + 11)) [0, 3, 4] none _ (by kernel_rfl) (by kernel_rfl) (by omega) (by show (c.length - (i + 1)) < (c.length - i); omega)))
  ·refine R.go 6 (R.back (.ptr 3 0) (frm 6 [(0, LB c), (2, .ptr 1 0), (3, LB c)]) (by kernel_rfl) (by kernel_rfl) (by kernel_rfl) ?_)
   refine R.deadF 2 (by kernel_rfl) (by kernel_rfl) ?_
   refine k27 (k29l 0 usC frC (k29a 1 [] [] (CallX.perm [1, 0] [1, 0] (k30f 1 26 [.nil, .nil, .nil, AI 0, AI 0] (drawH_c_r1 c 0 hh 14 26 5 1 [.nil, .nil, .nil, AI 0, AI 0] hc (by omega))) (by kernel_rfl) (by kernel_rfl) (by kernel_rfl) (by rintro _ _ ⟨_, ⟨_, _, _, _, _, _, _, _, _, _, rfl, rfl⟩, rfl⟩; exact Nat.le_of_ble_eq_true (by kernel_rfl))) (h3 := by rintro _ _ ⟨_, _, ⟨_, ⟨_, _, _, _, _, _, _, _, _, _, rfl, rfl⟩, rfl⟩, rfl, rfl⟩; exact Nat.le_of_ble_eq_true (by kernel_rfl)))) ?_
   rintro _ _ ⟨_, _, ⟨_, _, ⟨_, _, ⟨_, ⟨A2_8, O2_9, J2_10, b2_11, t2_12, p1_13, h1_14, f15, f16, f17, rfl, rfl⟩, rfl⟩, rfl, rfl⟩, rfl, rfl⟩, rfl, rfl⟩
   exact R.go 2 (R.retX (res := .agg [LLI A2_8, LLI O2_9, LLI J2_10, AI b2_11, AI t2_12]) (hp' := [.dead, .box 26 [LLI A2_8, LLI O2_9, LLI J2_10, AI b2_11, AI t2_12], .frame [] [], .box 157 [LB c, AI (p1_13 : Int), .int .u64 h1_14]]) (by kernel_rfl) (by kernel_rfl) (by kernel_rfl) (by kernel_rfl) ⟨[], by kernel_rfl, by decide, A2_8, O2_9, J2_10, b2_11, t2_12, by first | assumption | omega, by first | assumption | omega, by first | assumption | omega, by kernel_rfl, by kernel_rfl⟩)
 ·refine k6 (decide ((i : Int) < (c.length : Int))) true (dF c6) ?_
  refine k6 (decide ((i : Int) < (c.length : Int))) true (dF c6) ?_
  refine k7 (decide ((i : Int) < (c.length : Int))) false (dF c6) ?_
  refine R.go 8 (R.back (.ptr 3 0) (frm 6 [(0, LB c), (2, .ptr 1 0), (3, LB c)]) (by kernel_rfl) (by kernel_rfl) (by kernel_rfl) ?_)
  refine R.deadF 2 (by kernel_rfl) (by kernel_rfl) ?_
  refine k27 (k29l 0 usC frC (k29a 1 [] [] (CallX.perm [1, 0] [1, 0] (k30f 1 26 [.nil, .nil, .nil, AI 0, AI 0] (drawH_c_r1 c 0 hh 14 26 5 1 [.nil, .nil, .nil, AI 0, AI 0] hc (by omega))) (by kernel_rfl) (by kernel_rfl) (by kernel_rfl) (by rintro _ _ ⟨_, ⟨_, _, _, _, _, _, _, _, _, _, rfl, rfl⟩, rfl⟩; exact Nat.le_of_ble_eq_true (by kernel_rfl))) (h3 := by rintro _ _ ⟨_, _, ⟨_, ⟨_, _, _, _, _, _, _, _, _, _, rfl, rfl⟩, rfl⟩, rfl, rfl⟩; exact Nat.le_of_ble_eq_true (by kernel_rfl)))) ?_
  rintro _ _ ⟨_, _, ⟨_, _, ⟨_, _, ⟨_, ⟨A2_18, O2_19, J2_20, b2_21, t2_22, p1_23, h1_24, f25, f26, f27, rfl, rfl⟩, rfl⟩, rfl, rfl⟩, rfl, rfl⟩, rfl, rfl⟩
  exact R.go 2 (R.retX (res := .agg [LLI A2_18, LLI O2_19, LLI J2_20, AI b2_21, AI t2_22]) (hp' := [.dead, .box 26 [LLI A2_18, LLI O2_19, LLI J2_20, AI b2_21, AI t2_22], .frame [] [], .box 157 [LB c, AI (p1_23 : Int), .int .u64 h1_24]]) (by kernel_rfl) (by kernel_rfl) (by kernel_rfl) (by kernel_rfl) ⟨[], by kernel_rfl, by decide, A2_18, O2_19, J2_20, b2_21, t2_22, by first | assumption | omega, by first | assumption | omega, by first | assumption | omega, by kernel_rfl, by kernel_rfl⟩)

end Go.Proofs.YtjllngcefoohpaaGreat
