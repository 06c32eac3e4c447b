/- Texts of the proof: HE2, HE3, Sym6. -/
import Derived.Test.YtjllngcefoohpaaGreatPartK

/-! Orders of which there is no algebra: both programs say so. -/
namespace Go.Proofs.YtjllngcefoohpaaGreat
open Go.RowKit Go.Abs
theorem inv_relN {xs : List Int} (h30 : xs.length ≤ 30) (hr : RelOK xs.length xs) : RelOK xs.length (invA xs xs.length) ∧ ∀ j : Nat, j < xs.length → ∀ k, tb ((invA xs xs.length).getD j 0) k = true ↔ k < xs.length ∧ tb (xs.getD k 0) j = true := invA_ok hr h30 _ (Nat.le_refl _)
theorem hyM_rngN {xs : List Int} {x y : Nat} (h : 0 ≤ hyM xs x y) : 0 ≤ hyM xs x y ∧ hyM xs x y < (xs.length : Int) := by
 have h1 := lowF_rng (invA xs xs.length) (band ((invA xs xs.length).getD x 0) ((invA xs xs.length).getD y 0))
 rw [invA_len] at h1
 exact ⟨h, h1.2⟩
theorem hyC_inN {xs : List Int} (h30 : xs.length ≤ 30) (x y : Nat) {z : Nat} (hz : z ≤ xs.length) : InM xs.length (hyC xs x y z) := (mkB_ok _ (by omega) z hz).1
theorem hyC_yesN {xs : List Int} (h30 : xs.length ≤ 30) (hr : RelOK xs.length xs) {x y z : Nat} {a : Int} (hm : 0 ≤ hyM xs z x) (hy : y < xs.length) (ha : a = hyM xs z x) (hb : band (shr64 ((invA xs xs.length).getD y 0) a) 1 = 1) : bor (hyC xs x y z) (shl64 1 (z : Int)) = hyC xs x y (z + 1) := by
 have h1 := hyM_rngN hm
 have h2 := (inv_relN h30 hr).1.2 y hy
 rw [hyC, hyC]
 refine mkB_yes (P := fun z => tb ((invA xs xs.length).getD y 0) (hyM xs z x).toNat) ?_
 have h3 := has_tb (n := xs.length) (i := (hyM xs z x).toNat) (by omega) h2 (by omega)
 rw [show (((hyM xs z x).toNat : Nat) : Int) = hyM xs z x by omega] at h3
 rw [ha] at hb
 exact h3.1 hb
theorem hyC_noN {xs : List Int} (h30 : xs.length ≤ 30) (hr : RelOK xs.length xs) {x y z : Nat} {a : Int} (hm : 0 ≤ hyM xs z x) (hy : y < xs.length) (ha : a = hyM xs z x) (hb : ¬ band (shr64 ((invA xs xs.length).getD y 0) a) 1 = 1) : hyC xs x y z = hyC xs x y (z + 1) := by
 have h1 := hyM_rngN hm
 have h2 := (inv_relN h30 hr).1.2 y hy
 rw [hyC, hyC]
 refine mkB_no (P := fun z => tb ((invA xs xs.length).getD y 0) (hyM xs z x).toNat) ?_
 have h3 := has_tb (n := xs.length) (i := (hyM xs z x).toNat) (by omega) h2 (by omega)
 rw [show (((hyM xs z x).toNat : Nat) : Int) = hyM xs z x by omega] at h3
 rw [ha] at hb
 cases e : tb ((invA xs xs.length).getD y 0) (hyM xs z x).toNat with
 | false => rfl
 | true => exact absurd (h3.2 e) hb
theorem spec_bitN {xs : List Int} (hn : xs.length ≤ 30) (hr : RelOK xs.length xs) {y : Nat} {a : Int} (hy : y < xs.length) (h0 : 0 ≤ a) (h1 : a < (xs.length : Int)) : band (shr64 (xs.getD a.toNat 0) (y : Int)) 1 = 1 ↔ band (shr64 ((invA xs xs.length).getD y 0) a) 1 = 1 := by
 have hi := inv_relN hn hr
 have k1 := has_tb (n := xs.length) (i := y) (by omega) (hr.2 a.toNat (by omega)) (by omega)
 have k2 := has_tb (n := xs.length) (i := a.toNat) (by omega) (hi.1.2 y hy) (by omega)
 rw [show ((a.toNat : Nat) : Int) = a by omega] at k2
 rw [k1, k2, hi.2 y hy]
 exact ⟨fun e => ⟨by omega, e⟩, fun e => e.2⟩
theorem lowB_to {bl : List Int} {m : Int} (h : lowB bl m = true) : 0 ≤ lowF bl m := of_decide_eq_true h
def MJ (xs : List Int) (x q : Nat) : Prop := 0 ≤ hyM xs x q ∧ 0 ≤ hyJ xs x q
theorem mj_step {xs : List Int} {x y : Nat} (h : ∀ q : Nat, q < y → MJ xs x q) (h1 : 0 ≤ hyM xs x y) (h2 : 0 ≤ hyJ xs x y) : ∀ q : Nat, q < y + 1 → MJ xs x q := fun q hq => by
 by_cases e : q = y
 ·subst e; exact ⟨h1, h2⟩
 ·exact h q (by omega)
theorem rw_step {P : Nat → Nat → Prop} {N x y : Nat} (h : ∀ p : Nat, p < x → ∀ q : Nat, q < N → P p q) (h1 : ∀ q : Nat, q < y → P x q) (hy : y = N) : ∀ p : Nat, p < x + 1 → ∀ q : Nat, q < N → P p q := fun p hp q hq => by
 by_cases e : p = x
 ·subst e; exact h1 q (by omega)
 ·exact h p (by omega) q hq
theorem hyN_end {xs : List Int} (hN : hyB xs = false) (h0 : 0 < xs.length) (hp : paB xs.length xs = true) (h1 : ∀ p : Nat, p < xs.length → ∀ q : Nat, q < xs.length → MJ xs p q) (h2 : ∀ p : Nat, p < xs.length → ∀ q : Nat, q < xs.length → 0 ≤ hyI xs p q) : False := by
 have : hyB xs = true := hyB_parts.2 ⟨h0, hp, fun x hx y hy => ⟨(h1 x hx y hy).1, (h1 x hx y hy).2, h2 x hx y hy⟩⟩
 rw [hN] at this; cases this
theorem paB_of {xs : List Int} (h1 : rB (xs.length : Int).toNat xs = true) (h2 : tB (xs.length : Int).toNat xs = true) (h3 : aB (xs.length : Int).toNat xs = true) : paB xs.length xs = true := by
 rw [Int.toNat_natCast] at h1 h2 h3
 rw [paB, h1, h2, h3]; rfl
set_option maxHeartbeats 2000000 in
theorem heytingNE_c (xs : List Int) (h30 : xs.length ≤ 30) (hR : RelOK xs.length xs) (hN : hyB xs = false) : CallE Tryz.prog 134 [LI xs] (fun (b : Nat) (r : AV) => r = .tup [.agg [.nil, .nil, .nil, AI 0, AI 0], .bool false]) := by
 have hil := invA_len xs xs.length
 have hir := (inv_relN h30 hR).1
 have hxi := fun (i : Nat) (hi : i < xs.length) => hR.2 i hi
 have hbi := fun (i : Nat) (hi : i < xs.length) => hir.2 i hi
 have hrl : okRl (xs.length : Int) xs := okRl_of h30 hR
 have hfl : InM xs.length (fullM xs.length) := inM_full (by omega)
 have hsh : 1 ≤ shl64 1 (xs.length : Int) ∧ shl64 1 (xs.length : Int) ≤ 4611686018427387904 := shl_rng _ (by omega) (by omega)
 refine CallE.of Tryz.func134 rfl (by kernel_rfl) (fun b => (R.go 8 (k16 true (size_c xs) (R.go 5 (k16 true (frameOf2_c xs) (R.go 9 ?_))))))
 by_cases c1 : (xs.length : Int) = 0
 ·refine k7 false (dT c1) ?_
  iterate 2 refine k7 false (dT c1) ?_
  refine k8 true (dT c1) ?_
  exact R.go 18 (k30 (.tup [.agg [.nil, .nil, .nil, AI 0, AI 0], .bool false]) (rfl))
 refine k6 false (dF c1) (R.go 1 (k6 false (dF c1) (k16 true (hasFlagR2_c (xs.length : Int) xs hrl) (k6 false (dF c1) (R.go 1 (k8 false (dF c1) (R.go 1 ((Bool.eq_false_or_eq_true (rB (xs.length : Int).toNat xs)).elim (fun c2 => ?_) (fun c2 => ?_)))))))))
 ·refine k6 false (bnF c2) (R.go 1 (k6 false (bnF c2) (k16 true (hasFlagT2_c (xs.length : Int) xs hrl) (k6 false (bnF c2) (R.go 1 (k8 false (bnF c2) (R.go 1 ((Bool.eq_false_or_eq_true (tB (xs.length : Int).toNat xs)).elim (fun c3 => ?_) (fun c3 => ?_)))))))))
  ·refine k6 false (bnF c3) (R.go 1 (k6 false (bnF c3) (k16 true (hasFlagA2_c (xs.length : Int) xs hrl) (k6 false (bnF c3) (R.go 1 (k8 false (bnF c3) (R.go 1 (k22 (aB (xs.length : Int).toNat xs) (fun c4 => ?_) (fun c4 => ?_)))))))))
   ·exact R.go 6 (k30 (.tup [.agg [.nil, .nil, .nil, AI 0, AI 0], .bool false]) (rfl))
   refine R.go 4 (k16 true (inverse2G_c (xs.length : Int) xs (invA xs xs.length) hrl (by first | rfl | assumption)) (R.go 13 (k21 4 0 30 1 (k21 4 1 30 1 (k17 ((fun | (x, LA, LO) => (⟨(frm 184 [(0, LI xs), (2, .ptr 1 0), (4, AI xs.length), (6, .ref 2), (7, .ptr 3 0), (45, AI xs.length), (46, AI (x : Int))]), [.inert (.base b), .box 26 [.nil, .nil, .nil, AI 0, AI 0], rowA eI 2 1 (invA xs xs.length), .box 26 [.ref 4, .ref 5, .nil, AI 0, AI 0], rowA (eV eI 2 1) 30 1 LA, rowA (eV eI 2 1) 30 1 LO]⟩ : St) : Nat × (List (Value × List Int)) × (List (Value × List Int)) → St)) (fun | (x, LA, LO) => (x ≤ xs.length) ∧ (NL b LA) ∧ (NL b LO) ∧ (NX LA LO) ∧ (LA.map Prod.snd = tabR (hyM xs) xs.length x) ∧ (LO.map Prod.snd = tabR (hyJ xs) xs.length x) ∧ (∀ p : Nat, p < x → ∀ q : Nat, q < xs.length → MJ xs p q)) (fun | (x, LA, LO) => xs.length - x) (0, [], []) [0, 2, 4, 6, 7, 45, 46] (some [0, 1, 3, 4, 5, 6]) ⟨(by omega), (by exact NL.nil), (by exact NL.nil), (by exact NX.nil), (by rfl), (by rfl), (by exact fun p hp => absurd hp (by omega))⟩ ?_)))))
   rintro ⟨x, LA, LO⟩ ⟨h8_1, h8_2, h8_3, h8_4, h8_5, h8_6, h8_7⟩ R5 N6
   have hla := tabV_len ‹LA.map Prod.snd = _›
   have hlo := tabV_len ‹LO.map Prod.snd = _›
   refine R.go 5 (k3 ((x : Int) < (xs.length : Int)) (fun c9 => ?_) (fun c9 => ?_))
   ·refine R.go 9 (R.meetJ (⟨(frm 184 [(0, LI xs), (2, .ptr 1 0), (4, AI xs.length), (6, .ref 2), (7, .ptr 3 0), (8, AI (x : Int)), (9, .ref 6), (10, .ref 7), (45, AI xs.length), (46, AI (x : Int)), (47, .bool (decide ((x : Int) < (xs.length : Int)))), (48, AI (x : Int)), (49, AI xs.length), (50, .ref 6), (51, AI xs.length), (52, .ref 7)]), [.inert (.base b), .box 26 [.nil, .nil, .nil, AI 0, AI 0], rowA eI 2 1 (invA xs xs.length), .box 26 [.ref 4, .ref 5, .nil, AI 0, AI 0], rowA (eV eI 2 1) 30 1 LA, rowA (eV eI 2 1) 30 1 LO, rowA eI 2 1 (List.replicate xs.length 0), rowA eI 2 1 (List.replicate xs.length 0)]⟩ : St) (by kernel_rfl) ?_ ?_)
    ·refine R.any (by decide +kernel) (by kernel_rfl) (k27 0 ?_ (np := np_meetJ _))
     refine k27 2 ?_ (np := np_meetJ _)
     refine k25 1 3 ?_ ?_
     ·refine k15 eI 0 2 8 xs.length xs.length (R.go 1 (k25 3 4 ?_ ?_))
      ·refine k15 eI 0 2 8 xs.length xs.length (R.go 1 (k24 4 (R.go 2 (k24 5 (R.go 2 (k23 ?_))))))
       exact R.metJ [0, 1, 2, 3, 4, 5, 6, 7] (by kernel_rfl) (by kernel_rfl) (by kernel_rfl)
      refine R.go 2 (k24 3 (k15 eI 0 2 8 xs.length xs.length (R.go 1 (k24 5 (R.go 2 (k23 ?_))))))
      exact R.metJ [0, 1, 2, 3, 4, 5, 6, 7] (by kernel_rfl) (by kernel_rfl) (by kernel_rfl)
     refine k15 eI 0 2 8 xs.length xs.length (R.go 1 (k24 1 (k15 eI 0 2 8 xs.length xs.length (R.go 1 (k24 4 (R.go 2 (k24 5 (R.go 2 (k23 ?_)))))))))
     exact R.metJ [0, 1, 2, 3, 4, 5, 7, 6] (by kernel_rfl) (by kernel_rfl) (by kernel_rfl)
    refine R.go 7 (k17 ((fun | (y, A, O) => (⟨(frm 184 [(0, LI xs), (2, .ptr 1 0), (4, AI xs.length), (6, .ref 2), (7, .ptr 3 0), (8, AI (x : Int)), (9, .ref 6), (10, .ref 7), (45, AI xs.length), (46, AI (x : Int)), (53, AI xs.length), (54, AI (y : Int))]), [.inert (.base b), .box 26 [.nil, .nil, .nil, AI 0, AI 0], rowA eI 2 1 (invA xs xs.length), .box 26 [.ref 4, .ref 5, .nil, AI 0, AI 0], rowA (eV eI 2 1) 30 1 LA, rowA (eV eI 2 1) 30 1 LO, rowA eI 2 1 A, rowA eI 2 1 O]⟩ : St) : Nat × (List Int) × (List Int) → St)) (fun | (y, A, O) => (y ≤ xs.length) ∧ (∀ q : Nat, q < y → MJ xs x q) ∧ (A = rowT (hyM xs x) xs.length y) ∧ (O = rowT (hyJ xs x) xs.length y)) (fun | (y, A, O) => xs.length - y) (0, (List.replicate xs.length 0), (List.replicate xs.length 0)) [0, 2, 4, 6, 7, 8, 9, 10, 45, 46, 53, 54] none ⟨(by omega), (by exact fun p hp => absurd hp (by omega)), (by exact rowT_zero), (by exact rowT_zero)⟩ ?_)
    rintro ⟨y, A, O⟩ ⟨h13_1, h13_2, rfl, rfl⟩ R10 N11
    have hAl := rowT_len (hyM xs x) xs.length y
    have hOl := rowT_len (hyJ xs x) xs.length y
    refine R.go 5 (k3 ((y : Int) < (xs.length : Int)) (fun c14 => ?_) (fun c14 => ?_))
    ·refine R.go 14 ?_
     have hbx := hbi x (by omega)
     have hby := hbi y (by omega)
     have hmm := inM_band (n := xs.length) (by omega) hbx hby
     have hxx := hxi x (by omega)
     have hxy := hxi y (by omega)
     have hjj := inM_band (n := xs.length) (by omega) hxx hxy
     have hmm' : InM (invA xs xs.length).length (band ((invA xs xs.length).getD x 0) ((invA xs xs.length).getD y 0)) := by rw [hil]; exact hmm
     refine R.meet (⟨(frm 184 [(0, LI xs), (2, .ptr 1 0), (4, AI xs.length), (6, .ref 2), (7, .ptr 3 0), (8, AI (x : Int)), (9, .ref 6), (10, .ref 7), (11, AI (y : Int)), (12, .bool (lowB (invA xs xs.length) (band ((invA xs xs.length).getD x 0) ((invA xs xs.length).getD y 0)))), (13, .bool false), (45, AI xs.length), (46, AI (x : Int)), (53, AI xs.length), (54, AI (y : Int)), (55, .bool (decide ((y : Int) < (xs.length : Int)))), (56, AI (y : Int)), (57, .tup [AI (lowV (invA xs xs.length) (band ((invA xs xs.length).getD x 0) ((invA xs xs.length).getD y 0))), .bool (lowB (invA xs xs.length) (band ((invA xs xs.length).getD x 0) ((invA xs xs.length).getD y 0)))]), (58, .ref 6), (59, AI (y : Int)), (60, .ref 2), (61, AI (x : Int)), (62, .ptr 2 (x * 1)), (63, AI ((invA xs xs.length).getD x 0)), (64, .ref 2), (65, AI (y : Int)), (66, .ptr 2 (y * 1)), (67, AI ((invA xs xs.length).getD y 0)), (68, AI (band ((invA xs xs.length).getD x 0) ((invA xs xs.length).getD y 0))), (69, .ref 2), (70, .tup [AI (lowV (invA xs xs.length) (band ((invA xs xs.length).getD x 0) ((invA xs xs.length).getD y 0))), .bool (lowB (invA xs xs.length) (band ((invA xs xs.length).getD x 0) ((invA xs xs.length).getD y 0)))]), (71, AI (lowV (invA xs xs.length) (band ((invA xs xs.length).getD x 0) ((invA xs xs.length).getD y 0)))), (72, .bool (lowB (invA xs xs.length) (band ((invA xs xs.length).getD x 0) ((invA xs xs.length).getD y 0)))), (73, .ptr 6 (y * 1))]), [.inert (.base b), .box 26 [.nil, .nil, .nil, AI 0, AI 0], rowA eI 2 1 (invA xs xs.length), .box 26 [.ref 4, .ref 5, .nil, AI 0, AI 0], rowA (eV eI 2 1) 30 1 LA, rowA (eV eI 2 1) 30 1 LO, rowA eI 2 1 ((rowT (hyM xs x) xs.length y).set y (lowV (invA xs xs.length) (band ((invA xs xs.length).getD x 0) ((invA xs xs.length).getD y 0)))), rowA eI 2 1 (rowT (hyJ xs x) xs.length y)]⟩ : St) (by kernel_rfl) ?_ ?_
     ·refine R.any (by decide +kernel) (by kernel_rfl) (k27 0 (k27 1 (k27 2 (k27 3 (k27 6 (k27 7 (k27 11 (k37 4 2 1 (invA xs xs.length).length x (x : Int) (k37 8 2 1 (invA xs xs.length).length y (y : Int) ?_)))))))))
      refine k25 5 9 ?_ ?_
      ·refine k12 (invA xs xs.length) x (R.go 1 (k24 9 (k12 (invA xs xs.length) y (R.go 1 (k24 10 (R.go 2 (k24 12 (k16 false (greatest_c (band ((invA xs xs.length).getD x 0) ((invA xs xs.length).getD y 0)) (invA xs xs.length) (by first | omega | (simp <;> omega)) (by assumption)) ?_ (hr := by simp [AV.closed, closedL, AI])))))))))
       refine R.go 1 (k27 13 (R.anyX 14 (AI (lowV (invA xs xs.length) (band ((invA xs xs.length).getD x 0) ((invA xs xs.length).getD y 0)))) (by kernel_rfl) (np_meet _) (R.anyX 15 (.bool (lowB (invA xs xs.length) (band ((invA xs xs.length).getD x 0) ((invA xs xs.length).getD y 0)))) (by kernel_rfl) (np_meet _) (k37 16 6 1 (rowT (hyM xs x) xs.length y).length y (y : Int) (k24 17 (k13 6 2 (rowT (hyM xs x) xs.length y) y (lowV (invA xs xs.length) (band ((invA xs xs.length).getD x 0) ((invA xs xs.length).getD y 0))) (R.go 1 (k24 18 (R.go 2 (k23 ?_))))))))))
       exact k28
      refine k12 (invA xs xs.length) y (R.go 1 (k24 5 (k12 (invA xs xs.length) x (R.go 1 (k24 10 (R.go 2 (k24 12 (k16 false (greatest_c (band ((invA xs xs.length).getD x 0) ((invA xs xs.length).getD y 0)) (invA xs xs.length) (by first | omega | (simp <;> omega)) (by assumption)) ?_ (hr := by simp [AV.closed, closedL, AI])))))))))
      refine R.go 1 (k27 13 (R.anyX 14 (AI (lowV (invA xs xs.length) (band ((invA xs xs.length).getD x 0) ((invA xs xs.length).getD y 0)))) (by kernel_rfl) (np_meet _) (R.anyX 15 (.bool (lowB (invA xs xs.length) (band ((invA xs xs.length).getD x 0) ((invA xs xs.length).getD y 0)))) (by kernel_rfl) (np_meet _) (k37 16 6 1 (rowT (hyM xs x) xs.length y).length y (y : Int) (k24 17 (k13 6 2 (rowT (hyM xs x) xs.length y) y (lowV (invA xs xs.length) (band ((invA xs xs.length).getD x 0) ((invA xs xs.length).getD y 0))) (R.go 1 (k24 18 (R.go 2 (k23 ?_))))))))))
      exact k28
     refine R.go 1 (R.meet (⟨(frm 184 [(0, LI xs), (2, .ptr 1 0), (4, AI xs.length), (6, .ref 2), (7, .ptr 3 0), (8, AI (x : Int)), (9, .ref 6), (10, .ref 7), (11, AI (y : Int)), (12, .bool (lowB (invA xs xs.length) (band ((invA xs xs.length).getD x 0) ((invA xs xs.length).getD y 0)))), (13, .bool (lowB xs (band (xs.getD x 0) (xs.getD y 0)))), (45, AI xs.length), (46, AI (x : Int)), (53, AI xs.length), (54, AI (y : Int)), (55, .bool (decide ((y : Int) < (xs.length : Int)))), (56, AI (y : Int)), (57, .tup [AI (lowV (invA xs xs.length) (band ((invA xs xs.length).getD x 0) ((invA xs xs.length).getD y 0))), .bool (lowB (invA xs xs.length) (band ((invA xs xs.length).getD x 0) ((invA xs xs.length).getD y 0)))]), (58, .ref 6), (59, AI (y : Int)), (60, .ref 2), (61, AI (x : Int)), (62, .ptr 2 (x * 1)), (63, AI ((invA xs xs.length).getD x 0)), (64, .ref 2), (65, AI (y : Int)), (66, .ptr 2 (y * 1)), (67, AI ((invA xs xs.length).getD y 0)), (68, AI (band ((invA xs xs.length).getD x 0) ((invA xs xs.length).getD y 0))), (69, .ref 2), (70, .tup [AI (lowV (invA xs xs.length) (band ((invA xs xs.length).getD x 0) ((invA xs xs.length).getD y 0))), .bool (lowB (invA xs xs.length) (band ((invA xs xs.length).getD x 0) ((invA xs xs.length).getD y 0)))]), (71, AI (lowV (invA xs xs.length) (band ((invA xs xs.length).getD x 0) ((invA xs xs.length).getD y 0)))), (72, .bool (lowB (invA xs xs.length) (band ((invA xs xs.length).getD x 0) ((invA xs xs.length).getD y 0)))), (73, .ptr 6 (y * 1)), (74, .tup [AI (lowV xs (band (xs.getD x 0) (xs.getD y 0))), .bool (lowB xs (band (xs.getD x 0) (xs.getD y 0)))]), (75, .ref 7), (76, AI (y : Int)), (77, LI xs), (78, AI (x : Int)), (79, .rptr [AI (xs.getD x 0)]), (80, AI (xs.getD x 0)), (81, LI xs), (82, AI (y : Int)), (83, .rptr [AI (xs.getD y 0)]), (84, AI (xs.getD y 0)), (85, AI (band (xs.getD x 0) (xs.getD y 0))), (86, LI xs), (87, .tup [AI (lowV xs (band (xs.getD x 0) (xs.getD y 0))), .bool (lowB xs (band (xs.getD x 0) (xs.getD y 0)))]), (88, AI (lowV xs (band (xs.getD x 0) (xs.getD y 0)))), (89, .bool (lowB xs (band (xs.getD x 0) (xs.getD y 0)))), (90, .ptr 7 (y * 1))]), [.inert (.base b), .box 26 [.nil, .nil, .nil, AI 0, AI 0], rowA eI 2 1 (invA xs xs.length), .box 26 [.ref 4, .ref 5, .nil, AI 0, AI 0], rowA (eV eI 2 1) 30 1 LA, rowA (eV eI 2 1) 30 1 LO, rowA eI 2 1 ((rowT (hyM xs x) xs.length y).set y (lowV (invA xs xs.length) (band ((invA xs xs.length).getD x 0) ((invA xs xs.length).getD y 0)))), rowA eI 2 1 ((rowT (hyJ xs x) xs.length y).set y (lowV xs (band (xs.getD x 0) (xs.getD y 0))))]⟩ : St) (by kernel_rfl) ?_ ?_)
     ·refine R.any (by decide +kernel) (by kernel_rfl) (k27 0 (k27 1 (k27 2 (k27 3 (k27 6 (k27 7 (k27 11 (k34 4 eI xs 0 x (x : Int) eI_len (k34 8 eI xs 0 y (y : Int) eI_len ?_)))))))))
      refine k25 5 9 ?_ ?_
      ·refine R.go 2 (k24 9 (R.go 2 (k24 10 (R.go 2 (k24 12 (k16 true (greatest_c (band (xs.getD x 0) (xs.getD y 0)) xs h30 (by assumption)) (R.go 1 (k27 13 (R.anyX 14 (AI (lowV xs (band (xs.getD x 0) (xs.getD y 0)))) (by kernel_rfl) (np_meet _) (R.anyX 15 (.bool (lowB xs (band (xs.getD x 0) (xs.getD y 0)))) (by kernel_rfl) (np_meet _) (k37 16 7 1 (rowT (hyJ xs x) xs.length y).length y (y : Int) (k24 17 (k13 7 2 (rowT (hyJ xs x) xs.length y) y (lowV xs (band (xs.getD x 0) (xs.getD y 0))) ?_)))))))))))))
       refine R.go 1 (k24 18 (R.go 2 (k23 ?_)))
       exact k28
      refine R.go 2 (k24 5 (R.go 2 (k24 10 (R.go 2 (k24 12 (k16 true (greatest_c (band (xs.getD x 0) (xs.getD y 0)) xs h30 (by assumption)) (R.go 1 (k27 13 (R.anyX 14 (AI (lowV xs (band (xs.getD x 0) (xs.getD y 0)))) (by kernel_rfl) (np_meet _) (R.anyX 15 (.bool (lowB xs (band (xs.getD x 0) (xs.getD y 0)))) (by kernel_rfl) (np_meet _) (k37 16 7 1 (rowT (hyJ xs x) xs.length y).length y (y : Int) (k24 17 (k13 7 2 (rowT (hyJ xs x) xs.length y) y (lowV xs (band (xs.getD x 0) (xs.getD y 0))) ?_)))))))))))))
      refine R.go 1 (k24 18 (R.go 2 (k23 ?_)))
      exact k28
     refine R.go 5 ((Bool.eq_false_or_eq_true (lowB (invA xs xs.length) (band ((invA xs xs.length).getD x 0) ((invA xs xs.length).getD y 0)))).elim (fun c15 => ?_) (fun c15 => ?_))
     ·refine k6 false (bnF c15) (R.go 1 (k6 false (bnF c15) (R.go 1 (k8 false (bnF c15) (R.go 1 (k22 (lowB xs (band (xs.getD x 0) (xs.getD y 0))) (fun c16 => ?_) (fun c16 => ?_)))))))
      ·exact R.go 6 (k30 (.tup [.agg [.nil, .nil, .nil, AI 0, AI 0], .bool false]) (rfl))
      refine R.go 3 (k1 ((y : Int) + 1) ?_)
      exact R.go 2 (k18 R10 (N11 (y + 1, (rowT (hyM xs x) xs.length y).set y (lowV (invA xs xs.length) (band ((invA xs xs.length).getD x 0) ((invA xs xs.length).getD y 0))), (rowT (hyJ xs x) xs.length y).set y (lowV xs (band (xs.getD x 0) (xs.getD y 0)))) [0, 2, 4, 6, 7, 8, 9, 10, 45, 46, 53, 54] none _ (by kernel_rfl) (by kernel_rfl) ⟨(by omega), (by exact mj_step (by assumption) (lowB_to (by assumption)) (lowB_to (by assumption))), (by exact rowT_set (by omega) (lowV_of (lowB_to (by assumption)))), (by exact rowT_set (by omega) (lowV_of (lowB_to (by assumption))))⟩ (by show (xs.length - (y + 1)) < (xs.length - y); omega)))
     iterate 2 refine k7 false (bnT c15) ?_
     refine k8 true (bnT c15) ?_
     exact R.go 8 (k30 (.tup [.agg [.nil, .nil, .nil, AI 0, AI 0], .bool false]) (rfl))
    refine R.go 1 (R.pin 6 2 1 (rowT (hyM xs x) xs.length y).length (rows eI (rowT (hyM xs x) xs.length y)) (by kernel_rfl) (by kernel_rfl) ?_)
    intro v17 hn18
    have hb19 : ∀ g, blk v17 = some g → b ≤ g := newN_base hn18 0 (by kernel_rfl)
    have hr20 : ∀ u ∈ LA, ∀ g, blk v17 = some g → blk u.1 ≠ some g := newN_row (E := eI) (el := 2) (s := 1) (e := 30) (n := LA.length) hn18 4 LA (by kernel_rfl)
    have hr21 : ∀ u ∈ LO, ∀ g, blk v17 = some g → blk u.1 ≠ some g := newN_row (E := eI) (el := 2) (s := 1) (e := 30) (n := LO.length) hn18 5 LO (by kernel_rfl)
    clear hn18
    refine R.pin 7 2 1 (rowT (hyJ xs x) xs.length y).length (rows eI (rowT (hyJ xs x) xs.length y)) (by kernel_rfl) (by kernel_rfl) ?_
    intro v22 hn23
    have hb24 : ∀ g, blk v22 = some g → b ≤ g := newN_base hn23 0 (by kernel_rfl)
    have hr25 : ∀ u ∈ LA, ∀ g, blk v22 = some g → blk u.1 ≠ some g := newN_row (E := eI) (el := 2) (s := 1) (e := 30) (n := LA.length) hn23 4 LA (by kernel_rfl)
    have hr26 : ∀ u ∈ LO, ∀ g, blk v22 = some g → blk u.1 ≠ some g := newN_row (E := eI) (el := 2) (s := 1) (e := 30) (n := LO.length) hn23 5 LO (by kernel_rfl)
    have hs27 : ∀ g, blk v22 = some g → blk v17 ≠ some g := newN_slot (e := 2) (s := 1) (n := (rowT (hyM xs x) xs.length y).length) (cs := rows eI (rowT (hyM xs x) xs.length y)) hn23 9 (by kernel_rfl)
    clear hn23
    refine R.meet (⟨(frm 184 [(0, LI xs), (2, .ptr 1 0), (4, AI xs.length), (6, .ref 2), (7, .ptr 3 0), (8, AI (x : Int)), (9, .nam v17 (some 2) 1 (rowT (hyM xs x) xs.length y).length (rows eI (rowT (hyM xs x) xs.length y))), (10, .nam v22 (some 2) 1 (rowT (hyJ xs x) xs.length y).length (rows eI (rowT (hyJ xs x) xs.length y))), (45, AI xs.length), (46, AI (x : Int)), (53, AI xs.length), (54, AI (y : Int)), (55, .bool (decide ((y : Int) < (xs.length : Int)))), (99, .ptr 3 0), (101, .nam v17 (some 2) 1 (rowT (hyM xs x) xs.length y).length (rows eI (rowT (hyM xs x) xs.length y))), (102, lstA (eV eI 2 1) 1 [(v17, rowT (hyM xs x) xs.length y)]), (103, .ref 4), (104, .ptr 3 1), (106, .nam v22 (some 2) 1 (rowT (hyJ xs x) xs.length y).length (rows eI (rowT (hyJ xs x) xs.length y))), (107, lstA (eV eI 2 1) 1 [(v22, rowT (hyJ xs x) xs.length y)]), (108, .ref 5), (109, .ptr 3 0), (110, .ptr 3 1)]), [.inert (.base b), .box 26 [.nil, .nil, .nil, AI 0, AI 0], rowA eI 2 1 (invA xs xs.length), .box 26 [.ref 4, .ref 5, .nil, AI 0, AI 0], rowA (eV eI 2 1) 30 1 (LA ++ [(v17, rowT (hyM xs x) xs.length y)]), rowA (eV eI 2 1) 30 1 (LO ++ [(v22, rowT (hyJ xs x) xs.length y)]), .dead, .dead]⟩ : St) (by kernel_rfl) ?_ ?_
    ·refine R.any (by decide +kernel) (by kernel_rfl) (k27 2 (k27 7 (k33 0 (.ptr 3 0) (k33 5 (.ptr 3 1) (R.any4 1 3 6 8 (by kernel_rfl) (by kernel_rfl) ?_ ?_ ?_ ?_)))))
     ·refine R.go 2 (k26 3 6 8 ?_ ?_ ?_)
      ·refine R.lit (s := 1) (n := 1) (cs := rows (eV eI 2 1) [(v17, rowT (hyM xs x) xs.length y)]) (by kernel_rfl) (by kernel_rfl) (R.go 1 (k26 4 6 8 ?_ ?_ ?_))
       ·refine k14 (eV eI 2 1) LA [(v17, rowT (hyM xs x) xs.length y)] 4 30 1 24 eV_one (R.go 1 (k25 6 8 ?_ ?_))
        ·refine R.go 2 (k33 10 (.ptr 3 0) (k24 8 (R.lit (s := 1) (n := 1) (cs := rows (eV eI 2 1) [(v22, rowT (hyJ xs x) xs.length y)]) (by kernel_rfl) (by kernel_rfl) (R.go 1 (k24 9 (k14 (eV eI 2 1) LO [(v22, rowT (hyJ xs x) xs.length y)] 5 30 1 24 eV_one (R.go 1 (k24 11 (R.go 2 (k33 12 (.ptr 3 1) (k24 13 (R.go 2 (k23 ?_)))))))))))))
         exact k28
        refine R.lit (s := 1) (n := 1) (cs := rows (eV eI 2 1) [(v22, rowT (hyJ xs x) xs.length y)]) (by kernel_rfl) (by kernel_rfl) (R.go 1 (k24 6 (R.go 2 (k33 10 (.ptr 3 0) (k24 9 (k14 (eV eI 2 1) LO [(v22, rowT (hyJ xs x) xs.length y)] 5 30 1 24 eV_one (R.go 1 (k24 11 (R.go 2 (k33 12 (.ptr 3 1) (k24 13 (R.go 2 (k23 ?_)))))))))))))
        exact k28
       ·refine R.go 2 (k25 4 8 ?_ ?_)
        ·refine k14 (eV eI 2 1) LA [(v17, rowT (hyM xs x) xs.length y)] 4 30 1 24 eV_one (R.go 1 (k33 10 (.ptr 3 0) (k24 8 (R.lit (s := 1) (n := 1) (cs := rows (eV eI 2 1) [(v22, rowT (hyJ xs x) xs.length y)]) (by kernel_rfl) (by kernel_rfl) (R.go 1 (k24 9 (k14 (eV eI 2 1) LO [(v22, rowT (hyJ xs x) xs.length y)] 5 30 1 24 eV_one (R.go 1 (k24 11 (R.go 2 (k33 12 (.ptr 3 1) (k24 13 (R.go 2 (k23 ?_))))))))))))))
         exact k28
        refine R.lit (s := 1) (n := 1) (cs := rows (eV eI 2 1) [(v22, rowT (hyJ xs x) xs.length y)]) (by kernel_rfl) (by kernel_rfl) (R.go 1 (k24 4 (k14 (eV eI 2 1) LA [(v17, rowT (hyM xs x) xs.length y)] 4 30 1 24 eV_one (R.go 1 (k33 10 (.ptr 3 0) (k24 9 (k14 (eV eI 2 1) LO [(v22, rowT (hyJ xs x) xs.length y)] 5 30 1 24 eV_one (R.go 1 (k24 11 (R.go 2 (k33 12 (.ptr 3 1) (k24 13 (R.go 2 (k23 ?_))))))))))))))
        exact k28
       refine R.lit (s := 1) (n := 1) (cs := rows (eV eI 2 1) [(v22, rowT (hyJ xs x) xs.length y)]) (by kernel_rfl) (by kernel_rfl) (R.go 1 (k25 4 6 ?_ ?_))
       ·refine k14 (eV eI 2 1) LA [(v17, rowT (hyM xs x) xs.length y)] 4 30 1 24 eV_one (R.go 1 (k24 6 (R.go 2 (k33 10 (.ptr 3 0) (k24 9 (k14 (eV eI 2 1) LO [(v22, rowT (hyJ xs x) xs.length y)] 5 30 1 24 eV_one (R.go 1 (k24 11 (R.go 2 (k33 12 (.ptr 3 1) (k24 13 (R.go 2 (k23 ?_)))))))))))))
        exact k28
       refine R.go 2 (k24 4 (k14 (eV eI 2 1) LA [(v17, rowT (hyM xs x) xs.length y)] 4 30 1 24 eV_one (R.go 1 (k33 10 (.ptr 3 0) (k24 9 (k14 (eV eI 2 1) LO [(v22, rowT (hyJ xs x) xs.length y)] 5 30 1 24 eV_one (R.go 1 (k24 11 (R.go 2 (k33 12 (.ptr 3 1) (k24 13 (R.go 2 (k23 ?_)))))))))))))
       exact k28
      ·refine R.go 2 (k25 3 8 ?_ ?_)
       ·refine R.lit (s := 1) (n := 1) (cs := rows (eV eI 2 1) [(v17, rowT (hyM xs x) xs.length y)]) (by kernel_rfl) (by kernel_rfl) (R.go 1 (k25 4 8 ?_ ?_))
        ·refine k14 (eV eI 2 1) LA [(v17, rowT (hyM xs x) xs.length y)] 4 30 1 24 eV_one (R.go 1 (k33 10 (.ptr 3 0) (k24 8 (R.lit (s := 1) (n := 1) (cs := rows (eV eI 2 1) [(v22, rowT (hyJ xs x) xs.length y)]) (by kernel_rfl) (by kernel_rfl) (R.go 1 (k24 9 (k14 (eV eI 2 1) LO [(v22, rowT (hyJ xs x) xs.length y)] 5 30 1 24 eV_one (R.go 1 (k24 11 (R.go 2 (k33 12 (.ptr 3 1) (k24 13 (R.go 2 (k23 ?_))))))))))))))
         exact k28
        refine R.lit (s := 1) (n := 1) (cs := rows (eV eI 2 1) [(v22, rowT (hyJ xs x) xs.length y)]) (by kernel_rfl) (by kernel_rfl) (R.go 1 (k24 4 (k14 (eV eI 2 1) LA [(v17, rowT (hyM xs x) xs.length y)] 4 30 1 24 eV_one (R.go 1 (k33 10 (.ptr 3 0) (k24 9 (k14 (eV eI 2 1) LO [(v22, rowT (hyJ xs x) xs.length y)] 5 30 1 24 eV_one (R.go 1 (k24 11 (R.go 2 (k33 12 (.ptr 3 1) (k24 13 (R.go 2 (k23 ?_))))))))))))))
        exact k28
       refine R.lit (s := 1) (n := 1) (cs := rows (eV eI 2 1) [(v22, rowT (hyJ xs x) xs.length y)]) (by kernel_rfl) (by kernel_rfl) (R.go 1 (k24 3 (R.lit (s := 1) (n := 1) (cs := rows (eV eI 2 1) [(v17, rowT (hyM xs x) xs.length y)]) (by kernel_rfl) (by kernel_rfl) (R.go 1 (k24 4 (k14 (eV eI 2 1) LA [(v17, rowT (hyM xs x) xs.length y)] 4 30 1 24 eV_one (R.go 1 (k33 10 (.ptr 3 0) (k24 9 (k14 (eV eI 2 1) LO [(v22, rowT (hyJ xs x) xs.length y)] 5 30 1 24 eV_one (R.go 1 (k24 11 (R.go 2 (k33 12 (.ptr 3 1) ?_))))))))))))))
       refine k24 13 (R.go 2 (k23 ?_))
       exact k28
      refine R.lit (s := 1) (n := 1) (cs := rows (eV eI 2 1) [(v22, rowT (hyJ xs x) xs.length y)]) (by kernel_rfl) (by kernel_rfl) (R.go 1 (k25 3 6 ?_ ?_))
      ·refine R.lit (s := 1) (n := 1) (cs := rows (eV eI 2 1) [(v17, rowT (hyM xs x) xs.length y)]) (by kernel_rfl) (by kernel_rfl) (R.go 1 (k25 4 6 ?_ ?_))
       ·refine k14 (eV eI 2 1) LA [(v17, rowT (hyM xs x) xs.length y)] 4 30 1 24 eV_one (R.go 1 (k24 6 (R.go 2 (k33 10 (.ptr 3 0) (k24 9 (k14 (eV eI 2 1) LO [(v22, rowT (hyJ xs x) xs.length y)] 5 30 1 24 eV_one (R.go 1 (k24 11 (R.go 2 (k33 12 (.ptr 3 1) (k24 13 (R.go 2 (k23 ?_)))))))))))))
        exact k28
       refine R.go 2 (k24 4 (k14 (eV eI 2 1) LA [(v17, rowT (hyM xs x) xs.length y)] 4 30 1 24 eV_one (R.go 1 (k33 10 (.ptr 3 0) (k24 9 (k14 (eV eI 2 1) LO [(v22, rowT (hyJ xs x) xs.length y)] 5 30 1 24 eV_one (R.go 1 (k24 11 (R.go 2 (k33 12 (.ptr 3 1) (k24 13 (R.go 2 (k23 ?_)))))))))))))
       exact k28
      refine R.go 2 (k24 3 (R.lit (s := 1) (n := 1) (cs := rows (eV eI 2 1) [(v17, rowT (hyM xs x) xs.length y)]) (by kernel_rfl) (by kernel_rfl) (R.go 1 (k24 4 (k14 (eV eI 2 1) LA [(v17, rowT (hyM xs x) xs.length y)] 4 30 1 24 eV_one (R.go 1 (k33 10 (.ptr 3 0) (k24 9 (k14 (eV eI 2 1) LO [(v22, rowT (hyJ xs x) xs.length y)] 5 30 1 24 eV_one (R.go 1 (k24 11 (R.go 2 (k33 12 (.ptr 3 1) (k24 13 ?_))))))))))))))
      refine R.go 2 (k23 ?_)
      exact k28
     ·refine R.lit (s := 1) (n := 1) (cs := rows (eV eI 2 1) [(v17, rowT (hyM xs x) xs.length y)]) (by kernel_rfl) (by kernel_rfl) (R.go 1 (k26 1 6 8 ?_ ?_ ?_))
      ·refine R.go 2 (k26 4 6 8 ?_ ?_ ?_)
       ·refine k14 (eV eI 2 1) LA [(v17, rowT (hyM xs x) xs.length y)] 4 30 1 24 eV_one (R.go 1 (k25 6 8 ?_ ?_))
        ·refine R.go 2 (k33 10 (.ptr 3 0) (k24 8 (R.lit (s := 1) (n := 1) (cs := rows (eV eI 2 1) [(v22, rowT (hyJ xs x) xs.length y)]) (by kernel_rfl) (by kernel_rfl) (R.go 1 (k24 9 (k14 (eV eI 2 1) LO [(v22, rowT (hyJ xs x) xs.length y)] 5 30 1 24 eV_one (R.go 1 (k24 11 (R.go 2 (k33 12 (.ptr 3 1) (k24 13 (R.go 2 (k23 ?_)))))))))))))
         exact k28
        refine R.lit (s := 1) (n := 1) (cs := rows (eV eI 2 1) [(v22, rowT (hyJ xs x) xs.length y)]) (by kernel_rfl) (by kernel_rfl) (R.go 1 (k24 6 (R.go 2 (k33 10 (.ptr 3 0) (k24 9 (k14 (eV eI 2 1) LO [(v22, rowT (hyJ xs x) xs.length y)] 5 30 1 24 eV_one (R.go 1 (k24 11 (R.go 2 (k33 12 (.ptr 3 1) (k24 13 (R.go 2 (k23 ?_)))))))))))))
        exact k28
       ·refine R.go 2 (k25 4 8 ?_ ?_)
        ·refine k14 (eV eI 2 1) LA [(v17, rowT (hyM xs x) xs.length y)] 4 30 1 24 eV_one (R.go 1 (k33 10 (.ptr 3 0) (k24 8 (R.lit (s := 1) (n := 1) (cs := rows (eV eI 2 1) [(v22, rowT (hyJ xs x) xs.length y)]) (by kernel_rfl) (by kernel_rfl) (R.go 1 (k24 9 (k14 (eV eI 2 1) LO [(v22, rowT (hyJ xs x) xs.length y)] 5 30 1 24 eV_one (R.go 1 (k24 11 (R.go 2 (k33 12 (.ptr 3 1) (k24 13 (R.go 2 (k23 ?_))))))))))))))
         exact k28
        refine R.lit (s := 1) (n := 1) (cs := rows (eV eI 2 1) [(v22, rowT (hyJ xs x) xs.length y)]) (by kernel_rfl) (by kernel_rfl) (R.go 1 (k24 4 (k14 (eV eI 2 1) LA [(v17, rowT (hyM xs x) xs.length y)] 4 30 1 24 eV_one (R.go 1 (k33 10 (.ptr 3 0) (k24 9 (k14 (eV eI 2 1) LO [(v22, rowT (hyJ xs x) xs.length y)] 5 30 1 24 eV_one (R.go 1 (k24 11 (R.go 2 (k33 12 (.ptr 3 1) (k24 13 (R.go 2 (k23 ?_))))))))))))))
        exact k28
       refine R.lit (s := 1) (n := 1) (cs := rows (eV eI 2 1) [(v22, rowT (hyJ xs x) xs.length y)]) (by kernel_rfl) (by kernel_rfl) (R.go 1 (k25 4 6 ?_ ?_))
       ·refine k14 (eV eI 2 1) LA [(v17, rowT (hyM xs x) xs.length y)] 4 30 1 24 eV_one (R.go 1 (k24 6 (R.go 2 (k33 10 (.ptr 3 0) (k24 9 (k14 (eV eI 2 1) LO [(v22, rowT (hyJ xs x) xs.length y)] 5 30 1 24 eV_one (R.go 1 (k24 11 (R.go 2 (k33 12 (.ptr 3 1) (k24 13 (R.go 2 (k23 ?_)))))))))))))
        exact k28
       refine R.go 2 (k24 4 (k14 (eV eI 2 1) LA [(v17, rowT (hyM xs x) xs.length y)] 4 30 1 24 eV_one (R.go 1 (k33 10 (.ptr 3 0) (k24 9 (k14 (eV eI 2 1) LO [(v22, rowT (hyJ xs x) xs.length y)] 5 30 1 24 eV_one (R.go 1 (k24 11 (R.go 2 (k33 12 (.ptr 3 1) (k24 13 (R.go 2 (k23 ?_)))))))))))))
       exact k28
      ·refine R.go 2 (k25 1 8 ?_ ?_)
       ·refine R.go 2 (k25 4 8 ?_ ?_)
        ·refine k14 (eV eI 2 1) LA [(v17, rowT (hyM xs x) xs.length y)] 4 30 1 24 eV_one (R.go 1 (k33 10 (.ptr 3 0) (k24 8 (R.lit (s := 1) (n := 1) (cs := rows (eV eI 2 1) [(v22, rowT (hyJ xs x) xs.length y)]) (by kernel_rfl) (by kernel_rfl) (R.go 1 (k24 9 (k14 (eV eI 2 1) LO [(v22, rowT (hyJ xs x) xs.length y)] 5 30 1 24 eV_one (R.go 1 (k24 11 (R.go 2 (k33 12 (.ptr 3 1) (k24 13 (R.go 2 (k23 ?_))))))))))))))
         exact k28
        refine R.lit (s := 1) (n := 1) (cs := rows (eV eI 2 1) [(v22, rowT (hyJ xs x) xs.length y)]) (by kernel_rfl) (by kernel_rfl) (R.go 1 (k24 4 (k14 (eV eI 2 1) LA [(v17, rowT (hyM xs x) xs.length y)] 4 30 1 24 eV_one (R.go 1 (k33 10 (.ptr 3 0) (k24 9 (k14 (eV eI 2 1) LO [(v22, rowT (hyJ xs x) xs.length y)] 5 30 1 24 eV_one (R.go 1 (k24 11 (R.go 2 (k33 12 (.ptr 3 1) (k24 13 (R.go 2 (k23 ?_))))))))))))))
        exact k28
       refine R.lit (s := 1) (n := 1) (cs := rows (eV eI 2 1) [(v22, rowT (hyJ xs x) xs.length y)]) (by kernel_rfl) (by kernel_rfl) (R.go 1 (k24 1 (R.go 2 (k24 4 (k14 (eV eI 2 1) LA [(v17, rowT (hyM xs x) xs.length y)] 4 30 1 24 eV_one (R.go 1 (k33 10 (.ptr 3 0) (k24 9 (k14 (eV eI 2 1) LO [(v22, rowT (hyJ xs x) xs.length y)] 5 30 1 24 eV_one (R.go 1 (k24 11 (R.go 2 (k33 12 (.ptr 3 1) (k24 13 ?_))))))))))))))
       refine R.go 2 (k23 ?_)
       exact k28
      refine R.lit (s := 1) (n := 1) (cs := rows (eV eI 2 1) [(v22, rowT (hyJ xs x) xs.length y)]) (by kernel_rfl) (by kernel_rfl) (R.go 1 (k25 1 6 ?_ ?_))
      ·refine R.go 2 (k25 4 6 ?_ ?_)
       ·refine k14 (eV eI 2 1) LA [(v17, rowT (hyM xs x) xs.length y)] 4 30 1 24 eV_one (R.go 1 (k24 6 (R.go 2 (k33 10 (.ptr 3 0) (k24 9 (k14 (eV eI 2 1) LO [(v22, rowT (hyJ xs x) xs.length y)] 5 30 1 24 eV_one (R.go 1 (k24 11 (R.go 2 (k33 12 (.ptr 3 1) (k24 13 (R.go 2 (k23 ?_)))))))))))))
        exact k28
       refine R.go 2 (k24 4 (k14 (eV eI 2 1) LA [(v17, rowT (hyM xs x) xs.length y)] 4 30 1 24 eV_one (R.go 1 (k33 10 (.ptr 3 0) (k24 9 (k14 (eV eI 2 1) LO [(v22, rowT (hyJ xs x) xs.length y)] 5 30 1 24 eV_one (R.go 1 (k24 11 (R.go 2 (k33 12 (.ptr 3 1) (k24 13 (R.go 2 (k23 ?_)))))))))))))
       exact k28
      refine R.go 2 (k24 1 (R.go 2 (k24 4 (k14 (eV eI 2 1) LA [(v17, rowT (hyM xs x) xs.length y)] 4 30 1 24 eV_one (R.go 1 (k33 10 (.ptr 3 0) (k24 9 (k14 (eV eI 2 1) LO [(v22, rowT (hyJ xs x) xs.length y)] 5 30 1 24 eV_one (R.go 1 (k24 11 (R.go 2 (k33 12 (.ptr 3 1) (k24 13 (R.go 2 (k23 ?_)))))))))))))))
      exact k28
     ·refine R.go 2 (k26 1 3 8 ?_ ?_ ?_)
      ·refine R.go 2 (k25 3 8 ?_ ?_)
       ·refine R.lit (s := 1) (n := 1) (cs := rows (eV eI 2 1) [(v17, rowT (hyM xs x) xs.length y)]) (by kernel_rfl) (by kernel_rfl) (R.go 1 (k25 4 8 ?_ ?_))
        ·refine k14 (eV eI 2 1) LA [(v17, rowT (hyM xs x) xs.length y)] 4 30 1 24 eV_one (R.go 1 (k33 10 (.ptr 3 0) (k24 8 (R.lit (s := 1) (n := 1) (cs := rows (eV eI 2 1) [(v22, rowT (hyJ xs x) xs.length y)]) (by kernel_rfl) (by kernel_rfl) (R.go 1 (k24 9 (k14 (eV eI 2 1) LO [(v22, rowT (hyJ xs x) xs.length y)] 5 30 1 24 eV_one (R.go 1 (k24 11 (R.go 2 (k33 12 (.ptr 3 1) (k24 13 (R.go 2 (k23 ?_))))))))))))))
         exact k28
        refine R.lit (s := 1) (n := 1) (cs := rows (eV eI 2 1) [(v22, rowT (hyJ xs x) xs.length y)]) (by kernel_rfl) (by kernel_rfl) (R.go 1 (k24 4 (k14 (eV eI 2 1) LA [(v17, rowT (hyM xs x) xs.length y)] 4 30 1 24 eV_one (R.go 1 (k33 10 (.ptr 3 0) (k24 9 (k14 (eV eI 2 1) LO [(v22, rowT (hyJ xs x) xs.length y)] 5 30 1 24 eV_one (R.go 1 (k24 11 (R.go 2 (k33 12 (.ptr 3 1) (k24 13 (R.go 2 (k23 ?_))))))))))))))
        exact k28
       refine R.lit (s := 1) (n := 1) (cs := rows (eV eI 2 1) [(v22, rowT (hyJ xs x) xs.length y)]) (by kernel_rfl) (by kernel_rfl) (R.go 1 (k24 3 (R.lit (s := 1) (n := 1) (cs := rows (eV eI 2 1) [(v17, rowT (hyM xs x) xs.length y)]) (by kernel_rfl) (by kernel_rfl) (R.go 1 (k24 4 (k14 (eV eI 2 1) LA [(v17, rowT (hyM xs x) xs.length y)] 4 30 1 24 eV_one (R.go 1 (k33 10 (.ptr 3 0) (k24 9 (k14 (eV eI 2 1) LO [(v22, rowT (hyJ xs x) xs.length y)] 5 30 1 24 eV_one (R.go 1 (k24 11 (R.go 2 (k33 12 (.ptr 3 1) ?_))))))))))))))
       refine k24 13 (R.go 2 (k23 ?_))
       exact k28
      ·refine R.lit (s := 1) (n := 1) (cs := rows (eV eI 2 1) [(v17, rowT (hyM xs x) xs.length y)]) (by kernel_rfl) (by kernel_rfl) (R.go 1 (k25 1 8 ?_ ?_))
       ·refine R.go 2 (k25 4 8 ?_ ?_)
        ·refine k14 (eV eI 2 1) LA [(v17, rowT (hyM xs x) xs.length y)] 4 30 1 24 eV_one (R.go 1 (k33 10 (.ptr 3 0) (k24 8 (R.lit (s := 1) (n := 1) (cs := rows (eV eI 2 1) [(v22, rowT (hyJ xs x) xs.length y)]) (by kernel_rfl) (by kernel_rfl) (R.go 1 (k24 9 (k14 (eV eI 2 1) LO [(v22, rowT (hyJ xs x) xs.length y)] 5 30 1 24 eV_one (R.go 1 (k24 11 (R.go 2 (k33 12 (.ptr 3 1) (k24 13 (R.go 2 (k23 ?_))))))))))))))
         exact k28
        refine R.lit (s := 1) (n := 1) (cs := rows (eV eI 2 1) [(v22, rowT (hyJ xs x) xs.length y)]) (by kernel_rfl) (by kernel_rfl) (R.go 1 (k24 4 (k14 (eV eI 2 1) LA [(v17, rowT (hyM xs x) xs.length y)] 4 30 1 24 eV_one (R.go 1 (k33 10 (.ptr 3 0) (k24 9 (k14 (eV eI 2 1) LO [(v22, rowT (hyJ xs x) xs.length y)] 5 30 1 24 eV_one (R.go 1 (k24 11 (R.go 2 (k33 12 (.ptr 3 1) (k24 13 (R.go 2 (k23 ?_))))))))))))))
        exact k28
       refine R.lit (s := 1) (n := 1) (cs := rows (eV eI 2 1) [(v22, rowT (hyJ xs x) xs.length y)]) (by kernel_rfl) (by kernel_rfl) (R.go 1 (k24 1 (R.go 2 (k24 4 (k14 (eV eI 2 1) LA [(v17, rowT (hyM xs x) xs.length y)] 4 30 1 24 eV_one (R.go 1 (k33 10 (.ptr 3 0) (k24 9 (k14 (eV eI 2 1) LO [(v22, rowT (hyJ xs x) xs.length y)] 5 30 1 24 eV_one (R.go 1 (k24 11 (R.go 2 (k33 12 (.ptr 3 1) (k24 13 ?_))))))))))))))
       refine R.go 2 (k23 ?_)
       exact k28
      refine R.lit (s := 1) (n := 1) (cs := rows (eV eI 2 1) [(v22, rowT (hyJ xs x) xs.length y)]) (by kernel_rfl) (by kernel_rfl) (R.go 1 (k25 1 3 ?_ ?_))
      ·refine R.go 2 (k24 3 (R.lit (s := 1) (n := 1) (cs := rows (eV eI 2 1) [(v17, rowT (hyM xs x) xs.length y)]) (by kernel_rfl) (by kernel_rfl) (R.go 1 (k24 4 (k14 (eV eI 2 1) LA [(v17, rowT (hyM xs x) xs.length y)] 4 30 1 24 eV_one (R.go 1 (k33 10 (.ptr 3 0) (k24 9 (k14 (eV eI 2 1) LO [(v22, rowT (hyJ xs x) xs.length y)] 5 30 1 24 eV_one (R.go 1 (k24 11 (R.go 2 (k33 12 (.ptr 3 1) (k24 13 ?_))))))))))))))
       refine R.go 2 (k23 ?_)
       exact k28
      refine R.lit (s := 1) (n := 1) (cs := rows (eV eI 2 1) [(v17, rowT (hyM xs x) xs.length y)]) (by kernel_rfl) (by kernel_rfl) (R.go 1 (k24 1 (R.go 2 (k24 4 (k14 (eV eI 2 1) LA [(v17, rowT (hyM xs x) xs.length y)] 4 30 1 24 eV_one (R.go 1 (k33 10 (.ptr 3 0) (k24 9 (k14 (eV eI 2 1) LO [(v22, rowT (hyJ xs x) xs.length y)] 5 30 1 24 eV_one (R.go 1 (k24 11 (R.go 2 (k33 12 (.ptr 3 1) (k24 13 ?_))))))))))))))
      refine R.go 2 (k23 ?_)
      exact k28
     refine R.lit (s := 1) (n := 1) (cs := rows (eV eI 2 1) [(v22, rowT (hyJ xs x) xs.length y)]) (by kernel_rfl) (by kernel_rfl) (R.go 1 (k26 1 3 6 ?_ ?_ ?_))
     ·refine R.go 2 (k25 3 6 ?_ ?_)
      ·refine R.lit (s := 1) (n := 1) (cs := rows (eV eI 2 1) [(v17, rowT (hyM xs x) xs.length y)]) (by kernel_rfl) (by kernel_rfl) (R.go 1 (k25 4 6 ?_ ?_))
       ·refine k14 (eV eI 2 1) LA [(v17, rowT (hyM xs x) xs.length y)] 4 30 1 24 eV_one (R.go 1 (k24 6 (R.go 2 (k33 10 (.ptr 3 0) (k24 9 (k14 (eV eI 2 1) LO [(v22, rowT (hyJ xs x) xs.length y)] 5 30 1 24 eV_one (R.go 1 (k24 11 (R.go 2 (k33 12 (.ptr 3 1) (k24 13 (R.go 2 (k23 ?_)))))))))))))
        exact k28
       refine R.go 2 (k24 4 (k14 (eV eI 2 1) LA [(v17, rowT (hyM xs x) xs.length y)] 4 30 1 24 eV_one (R.go 1 (k33 10 (.ptr 3 0) (k24 9 (k14 (eV eI 2 1) LO [(v22, rowT (hyJ xs x) xs.length y)] 5 30 1 24 eV_one (R.go 1 (k24 11 (R.go 2 (k33 12 (.ptr 3 1) (k24 13 (R.go 2 (k23 ?_)))))))))))))
       exact k28
      refine R.go 2 (k24 3 (R.lit (s := 1) (n := 1) (cs := rows (eV eI 2 1) [(v17, rowT (hyM xs x) xs.length y)]) (by kernel_rfl) (by kernel_rfl) (R.go 1 (k24 4 (k14 (eV eI 2 1) LA [(v17, rowT (hyM xs x) xs.length y)] 4 30 1 24 eV_one (R.go 1 (k33 10 (.ptr 3 0) (k24 9 (k14 (eV eI 2 1) LO [(v22, rowT (hyJ xs x) xs.length y)] 5 30 1 24 eV_one (R.go 1 (k24 11 (R.go 2 (k33 12 (.ptr 3 1) (k24 13 ?_))))))))))))))
      refine R.go 2 (k23 ?_)
      exact k28
     ·refine R.lit (s := 1) (n := 1) (cs := rows (eV eI 2 1) [(v17, rowT (hyM xs x) xs.length y)]) (by kernel_rfl) (by kernel_rfl) (R.go 1 (k25 1 6 ?_ ?_))
      ·refine R.go 2 (k25 4 6 ?_ ?_)
       ·refine k14 (eV eI 2 1) LA [(v17, rowT (hyM xs x) xs.length y)] 4 30 1 24 eV_one (R.go 1 (k24 6 (R.go 2 (k33 10 (.ptr 3 0) (k24 9 (k14 (eV eI 2 1) LO [(v22, rowT (hyJ xs x) xs.length y)] 5 30 1 24 eV_one (R.go 1 (k24 11 (R.go 2 (k33 12 (.ptr 3 1) (k24 13 (R.go 2 (k23 ?_)))))))))))))
        exact k28
       refine R.go 2 (k24 4 (k14 (eV eI 2 1) LA [(v17, rowT (hyM xs x) xs.length y)] 4 30 1 24 eV_one (R.go 1 (k33 10 (.ptr 3 0) (k24 9 (k14 (eV eI 2 1) LO [(v22, rowT (hyJ xs x) xs.length y)] 5 30 1 24 eV_one (R.go 1 (k24 11 (R.go 2 (k33 12 (.ptr 3 1) (k24 13 (R.go 2 (k23 ?_)))))))))))))
       exact k28
      refine R.go 2 (k24 1 (R.go 2 (k24 4 (k14 (eV eI 2 1) LA [(v17, rowT (hyM xs x) xs.length y)] 4 30 1 24 eV_one (R.go 1 (k33 10 (.ptr 3 0) (k24 9 (k14 (eV eI 2 1) LO [(v22, rowT (hyJ xs x) xs.length y)] 5 30 1 24 eV_one (R.go 1 (k24 11 (R.go 2 (k33 12 (.ptr 3 1) (k24 13 (R.go 2 (k23 ?_)))))))))))))))
      exact k28
     refine R.go 2 (k25 1 3 ?_ ?_)
     ·refine R.go 2 (k24 3 (R.lit (s := 1) (n := 1) (cs := rows (eV eI 2 1) [(v17, rowT (hyM xs x) xs.length y)]) (by kernel_rfl) (by kernel_rfl) (R.go 1 (k24 4 (k14 (eV eI 2 1) LA [(v17, rowT (hyM xs x) xs.length y)] 4 30 1 24 eV_one (R.go 1 (k33 10 (.ptr 3 0) (k24 9 (k14 (eV eI 2 1) LO [(v22, rowT (hyJ xs x) xs.length y)] 5 30 1 24 eV_one (R.go 1 (k24 11 (R.go 2 (k33 12 (.ptr 3 1) (k24 13 ?_))))))))))))))
      refine R.go 2 (k23 ?_)
      exact k28
     refine R.lit (s := 1) (n := 1) (cs := rows (eV eI 2 1) [(v17, rowT (hyM xs x) xs.length y)]) (by kernel_rfl) (by kernel_rfl) (R.go 1 (k24 1 (R.go 2 (k24 4 (k14 (eV eI 2 1) LA [(v17, rowT (hyM xs x) xs.length y)] 4 30 1 24 eV_one (R.go 1 (k33 10 (.ptr 3 0) (k24 9 (k14 (eV eI 2 1) LO [(v22, rowT (hyJ xs x) xs.length y)] 5 30 1 24 eV_one (R.go 1 (k24 11 (R.go 2 (k33 12 (.ptr 3 1) (k24 13 ?_))))))))))))))
     refine R.go 2 (k23 ?_)
     exact k28
    refine R.go 2 (k1 ((x : Int) + 1) ?_)
    exact R.go 2 (k18 R5 (N6 (x + 1, LA ++ [(v17, rowT (hyM xs x) xs.length y)], LO ++ [(v22, rowT (hyJ xs x) xs.length y)]) [0, 2, 4, 6, 7, 45, 46] (some [0, 1, 2, 3, 4, 5]) _ (by kernel_rfl) (by kernel_rfl) ⟨(by omega), (by exact NL.snoc (by assumption) (by assumption) (by assumption)), (by exact NL.snoc (by assumption) (by assumption) (by assumption)), (by exact NX.snoc (by assumption) (by assumption) (by assumption) (by assumption)), (by rw [map1V ‹LA.map Prod.snd = _›, rowT_end (by omega)]; exact tabR_snoc), (by rw [map1V ‹LO.map Prod.snd = _›, rowT_end (by omega)]; exact tabR_snoc), (by exact rw_step (P := MJ xs) (by assumption) (‹∀ q : Nat, q < y → MJ xs x q›) (by omega))⟩ (by show (xs.length - (x + 1)) < (xs.length - x); omega)))
   refine R.go 8 (k21 3 2 30 1 (k17 ((fun | (u, LJ) => (⟨(frm 184 [(0, LI xs), (2, .ptr 1 0), (4, AI xs.length), (6, .ref 2), (7, .ptr 3 0), (112, AI xs.length), (113, AI (u : Int))]), [.inert (.base b), .box 26 [.nil, .nil, .nil, AI 0, AI 0], rowA eI 2 1 (invA xs xs.length), .box 26 [.ref 4, .ref 5, .ref 6, AI 0, AI 0], rowA (eV eI 2 1) 30 1 LA, rowA (eV eI 2 1) 30 1 LO, rowA (eV eI 2 1) 30 1 LJ]⟩ : St) : Nat × (List (Value × List Int)) → St)) (fun | (u, LJ) => (u ≤ xs.length) ∧ (NL b LJ) ∧ (NX LA LJ) ∧ (NX LO LJ) ∧ (LJ.map Prod.snd = tabR (hyI xs) xs.length u) ∧ (∀ p : Nat, p < u → ∀ q : Nat, q < xs.length → 0 ≤ hyI xs p q)) (fun | (u, LJ) => xs.length - u) (0, []) [0, 2, 4, 6, 7, 112, 113] none ⟨(by omega), (by exact NL.nil), (by exact NX.nil'), (by exact NX.nil'), (by rfl), (by exact fun p hp => absurd hp (by omega))⟩ ?_))
   rintro ⟨u, LJ⟩ ⟨h31_1, h31_2, h31_3, h31_4, h31_5, h31_6⟩ R28 N29
   have hlj := tabV_len ‹LJ.map Prod.snd = _›
   have hF : ¬ (u : Int) < (xs.length : Int) → (1 : Int) ≤ 0 := fun hu9 => False.elim (hyN_end hN (by omega) (paB_of (by assumption) (by assumption) (by assumption)) (fun p hp => (‹∀ p : Nat, p < x → ∀ q : Nat, q < xs.length → MJ xs p q›) p (by omega)) (fun p hp => (‹∀ p : Nat, p < u → ∀ q : Nat, q < xs.length → 0 ≤ hyI xs p q›) p (by omega)))
   refine R.go 5 (k3 ((u : Int) < (xs.length : Int)) (fun c32 => ?_) (fun c32 => ?_))
   ·refine R.go 11 (k15 eI 0 2 8 xs.length xs.length (R.go 9 (k17 ((fun | (w, C) => (⟨(frm 184 [(0, LI xs), (2, .ptr 1 0), (4, AI xs.length), (6, .ref 2), (7, .ptr 3 0), (14, AI (u : Int)), (15, .ref 7), (112, AI xs.length), (113, AI (u : Int)), (118, AI xs.length), (119, AI (w : Int))]), [.inert (.base b), .box 26 [.nil, .nil, .nil, AI 0, AI 0], rowA eI 2 1 (invA xs xs.length), .box 26 [.ref 4, .ref 5, .ref 6, AI 0, AI 0], rowA (eV eI 2 1) 30 1 LA, rowA (eV eI 2 1) 30 1 LO, rowA (eV eI 2 1) 30 1 LJ, rowA eI 2 1 C]⟩ : St) : Nat × (List Int) → St)) (fun | (w, C) => (w ≤ xs.length) ∧ (∀ q : Nat, q < w → 0 ≤ hyI xs u q) ∧ (C = rowT (hyI xs u) xs.length w)) (fun | (w, C) => xs.length - w) (0, (List.replicate xs.length 0)) [0, 2, 4, 6, 7, 14, 15, 112, 113, 118, 119] none ⟨(by omega), (by exact fun p hp => absurd hp (by omega)), (by exact rowT_zero)⟩ ?_)))
    rintro ⟨w, C⟩ ⟨h36_1, h36_2, rfl⟩ R33 N34
    have hCl := rowT_len (hyI xs u) xs.length w
    refine R.go 5 (k3 ((w : Int) < (xs.length : Int)) (fun c37 => ?_) (fun c37 => ?_))
    ·refine R.go 19 (k17 ((fun | (z, cm) => (⟨(frm 184 [(0, LI xs), (2, .ptr 1 0), (4, AI xs.length), (6, .ref 2), (7, .ptr 3 0), (14, AI (u : Int)), (15, .ref 7), (16, AI (w : Int)), (17, AI cm), (112, AI xs.length), (113, AI (u : Int)), (118, AI xs.length), (119, AI (w : Int)), (122, AI xs.length), (123, AI (z : Int))]), [.inert (.base b), .box 26 [.nil, .nil, .nil, AI 0, AI 0], rowA eI 2 1 (invA xs xs.length), .box 26 [.ref 4, .ref 5, .ref 6, AI 0, AI 0], rowA (eV eI 2 1) 30 1 LA, rowA (eV eI 2 1) 30 1 LO, rowA (eV eI 2 1) 30 1 LJ, rowA eI 2 1 (rowT (hyI xs u) xs.length w)]⟩ : St) : Nat × Int → St)) (fun | (z, cm) => (z ≤ xs.length) ∧ (cm = hyC xs u w z)) (fun | (z, cm) => xs.length - z) (0, 0) [0, 2, 4, 6, 7, 14, 15, 16, 17, 112, 113, 118, 119, 122, 123] none ⟨(by omega), (by rfl)⟩ ?_)
     rintro ⟨z, cm⟩ ⟨h41_1, rfl⟩ R38 N39
     refine R.go 5 (k3 ((z : Int) < (xs.length : Int)) (fun c42 => ?_) (fun c42 => ?_))
     ·have hzx : x = xs.length := by omega
      have hat := tabV_at (i := z) (j := u) ‹LA.map Prod.snd = _› (by omega) (by omega)
      have hva := hat.1
      have hvl := hat.2
      have hvm : 0 ≤ hyM xs z u := ((‹∀ p : Nat, p < x → ∀ q : Nat, q < xs.length → MJ xs p q›) z (by omega) u (by omega)).1
      have hvr := hyM_rngN hvm
      have hbw := hbi w (by omega)
      refine R.go 12 (k10 2 1 (invA xs xs.length).length w (w : Int) (k12 (invA xs xs.length) w (R.go 3 (k10 4 1 LA.length z (z : Int) (R.ldE (eV eI 2 1) 1 0 LA (.bool false, []) z (.nam ((LA.getD z (.bool false, [])).1) (some 2) 1 ((LA.getD z (.bool false, [])).2).length (rows eI ((LA.getD z (.bool false, [])).2))) (by kernel_rfl) eV_len (by omega) rfl (by kernel_rfl) (R.go 1 (R.idxV eI ((LA.getD z (.bool false, [])).2) 0 u (u : Int) (by kernel_rfl) rfl eI_len (by first | omega | (simp only [List.length_set]; omega) | (simp <;> omega)) (by kernel_rfl) (R.go 1 (k16 true (has_c ((invA xs xs.length).getD w 0) (((LA.getD z (.bool false, [])).2).getD u 0) (by omega)) (R.go 1 (k3 (band (shr64 ((invA xs xs.length).getD w 0) (((LA.getD z (.bool false, [])).2).getD u 0)) 1 = 1) (fun c43 => ?_) (fun c43 => ?_))))))))))))
      ·refine R.go 3 (R.shl 1 (z : Int) (by kernel_rfl) (by omega) (by kernel_rfl) (R.go 5 (k1 ((z : Int) + 1) ?_)))
       exact R.go 2 (k18 R38 (N39 (z + 1, bor (hyC xs u w z) (shl64 1 (z : Int))) [0, 2, 4, 6, 7, 14, 15, 16, 17, 112, 113, 118, 119, 122, 123] none _ (by kernel_rfl) (by kernel_rfl) ⟨(by omega), (by first | exact hyC_yesN h30 hR hvm (by omega) hva (by assumption) | exact hyC_noN h30 hR hvm (by omega) hva (by assumption))⟩ (by show (xs.length - (z + 1)) < (xs.length - z); omega)))
      refine R.go 3 (k1 ((z : Int) + 1) ?_)
      exact R.go 2 (k18 R38 (N39 (z + 1, hyC xs u w z) [0, 2, 4, 6, 7, 14, 15, 16, 17, 112, 113, 118, 119, 122, 123] none _ (by kernel_rfl) (by kernel_rfl) ⟨(by omega), (by first | exact hyC_yesN h30 hR hvm (by omega) hva (by assumption) | exact hyC_noN h30 hR hvm (by omega) hva (by assumption))⟩ (by show (xs.length - (z + 1)) < (xs.length - z); omega)))
     have hcz := hyC_inN h30 u w (z := z) (by omega)
     have hcz' : InM (invA xs xs.length).length (hyC xs u w z) := by rw [hil]; exact hcz
     refine R.go 5 (k16 false (greatest_c (hyC xs u w z) (invA xs xs.length) (by first | omega | (simp <;> omega)) (by assumption)) ?_ (hr := by simp [AV.closed, closedL, AI]))
     refine R.go 12 (k22 (lowB (invA xs xs.length) (hyC xs u w z)) (fun c44 => ?_) (fun c44 => ?_))
     ·exact R.go 6 (k30 (.tup [.agg [.nil, .nil, .nil, AI 0, AI 0], .bool false]) (rfl))
     have hcl : 0 ≤ hyI xs u w := by have := lowB_to (by assumption : lowB (invA xs xs.length) (hyC xs u w z) = true); rwa [show z = xs.length by omega] at this
     refine R.go 5 (k10 7 1 (rowT (hyI xs u) xs.length w).length w (w : Int) (k13 7 2 (rowT (hyI xs u) xs.length w) w (lowV (invA xs xs.length) (hyC xs u w z)) (R.go 3 (k1 ((w : Int) + 1) ?_))))
     exact R.go 2 (k18 R33 (N34 (w + 1, (rowT (hyI xs u) xs.length w).set w (lowV (invA xs xs.length) (hyC xs u w z))) [0, 2, 4, 6, 7, 14, 15, 112, 113, 118, 119] none _ (by kernel_rfl) (by kernel_rfl) ⟨(by omega), (by exact below1 (by assumption) hcl), (by exact rowT_set (by omega) (by rw [show z = xs.length by omega]; exact lowV_of hcl))⟩ (by show (xs.length - (w + 1)) < (xs.length - w); omega)))
    refine R.go 5 (R.pin 7 2 1 (rowT (hyI xs u) xs.length w).length (rows eI (rowT (hyI xs u) xs.length w)) (by kernel_rfl) (by kernel_rfl) ?_)
    intro v45 hn46
    have hb47 : ∀ g, blk v45 = some g → b ≤ g := newN_base hn46 0 (by kernel_rfl)
    have hr48 : ∀ u ∈ LA, ∀ g, blk v45 = some g → blk u.1 ≠ some g := newN_row (E := eI) (el := 2) (s := 1) (e := 30) (n := LA.length) hn46 4 LA (by kernel_rfl)
    have hr49 : ∀ u ∈ LO, ∀ g, blk v45 = some g → blk u.1 ≠ some g := newN_row (E := eI) (el := 2) (s := 1) (e := 30) (n := LO.length) hn46 5 LO (by kernel_rfl)
    have hr50 : ∀ u ∈ LJ, ∀ g, blk v45 = some g → blk u.1 ≠ some g := newN_row (E := eI) (el := 2) (s := 1) (e := 30) (n := LJ.length) hn46 6 LJ (by kernel_rfl)
    clear hn46
    refine R.go 1 (k14 (eV eI 2 1) LJ [(v45, rowT (hyI xs u) xs.length w)] 6 30 1 24 eV_one (R.go 5 (k1 ((u : Int) + 1) ?_)))
    exact R.go 2 (k18 R28 (N29 (u + 1, LJ ++ [(v45, rowT (hyI xs u) xs.length w)]) [0, 2, 4, 6, 7, 112, 113] (some [0, 1, 2, 3, 4, 5, 6]) _ (by kernel_rfl) (by kernel_rfl) ⟨(by omega), (by exact NL.snoc (by assumption) (by assumption) (by assumption)), (by exact NX.snocR (by assumption) (by assumption)), (by exact NX.snocR (by assumption) (by assumption)), (by rw [map1V ‹LJ.map Prod.snd = _›, rowT_end (by omega)]; exact tabR_snoc), (by exact rw_step (P := fun p q => 0 ≤ hyI xs p q) (by assumption) (‹∀ q : Nat, q < w → 0 ≤ hyI xs u q›) (by omega))⟩ (by show (xs.length - (u + 1)) < (xs.length - u); omega)))
   exfalso; omega -- end .tup [.agg [ownA (eV eI 2 1) 30 1 LA, ownA (eV eI 2 1) 30 1 LO, ownA (eV eI 2 1) 30 1 LJ, AI (lo
  iterate 3 refine k7 false (bnT c3) ?_
  refine k8 true (bnT c3) ?_
  exact R.go 8 (k30 (.tup [.agg [.nil, .nil, .nil, AI 0, AI 0], .bool false]) (rfl))
 iterate 3 refine k7 false (bnT c2) ?_
 refine k8 true (bnT c2) ?_
 exact R.go 13 (k30 (.tup [.agg [.nil, .nil, .nil, AI 0, AI 0], .bool false]) (rfl))
theorem heytingN_c (xs : List Int) (h30 : xs.length ≤ 30) (hR : RelOK xs.length xs) (hN : hyB xs = false) : CallA Tryz.prog 134 [LI xs] (.tup [.agg [.nil, .nil, .nil, AI 0, AI 0], .bool false]) := CallE.toA (heytingNE_c xs h30 hR hN)
set_option maxHeartbeats 2000000 in
theorem l18BuildN_c (xs : List Int) (h30 : xs.length ≤ 30) (hR : RelOK xs.length xs) (hN : hyB xs = false) : CallA Tryz.prog 141 [LI xs] (.tup [.agg [.nil, .nil, .nil, AI 0, AI 0], .bool false]) := by
 have hil := invA_len xs xs.length
 have hir := (inv_relN h30 hR).1
 have hxi := fun (i : Nat) (hi : i < xs.length) => hR.2 i hi
 have hbi := fun (i : Nat) (hi : i < xs.length) => hir.2 i hi
 have hrl : okRl (xs.length : Int) xs := okRl_of h30 hR
 have hfl : InM xs.length (fullM xs.length) := inM_full (by omega)
 have hsh : 1 ≤ shl64 1 (xs.length : Int) ∧ shl64 1 (xs.length : Int) ≤ 4611686018427387904 := shl_rng _ (by omega) (by omega)
 have hfl61 := inM_mono (n' := 61) (by omega) hfl
 have hfm : InM 61 ((shl64 1 (xs.length : Int)) - 1) := hfl61
 refine CallA.of Tryz.func141 rfl (by kernel_rfl) (R.go 17 ?_)
 by_cases c1 : (xs.length : Int) = 0
 ·refine k7 false (dT c1) ?_
  iterate 2 refine k7 false (dT c1) ?_
  refine k8 true (dT c1) ?_
  exact R.go 8 (k19 (.tup [.agg [.nil, .nil, .nil, AI 0, AI 0], .bool false]) (by rfl))
 refine k6 false (dF c1) (R.go 1 (k6 false (dF c1) (k16 true (l18Partial_c xs h30 hR) (k6 false (dF c1) (R.go 1 (k8 false (dF c1) (R.go 1 (k22 (paB xs.length xs) (fun c2 => ?_) (fun c2 => ?_)))))))))
 ·exact R.go 6 (k19 (.tup [.agg [.nil, .nil, .nil, AI 0, AI 0], .bool false]) (by rfl))
 refine R.go 4 (k16 true (l01Inverse_c xs h30 hR) (R.go 6 (k16 true (l01Full_c xs.length (by first | omega | (simp <;> omega)) (by first | omega | (simp <;> omega))) (k16 true (l18Low_c xs ((shl64 1 xs.length) - 1) (by first | omega | (simp <;> omega)) (by first | assumption | exact inM_mono (by omega) (by assumption))) (R.go 2 (k16 true (l01Full_c xs.length (by first | omega | (simp <;> omega)) (by first | omega | (simp <;> omega))) (k16 false (l18Low_c (invA xs xs.length) ((shl64 1 xs.length) - 1) (by first | omega | (simp <;> omega)) (by first | assumption | exact inM_mono (by omega) (by assumption))) (R.go 7 (k20 1 (R.go 4 ?_))))))))))
 by_cases c3 : (lowF xs ((shl64 1 xs.length) - 1)) < 0
 ·refine k7 false (dT c3) ?_
  iterate 2 refine k7 false (dT c3) ?_
  refine k8 true (dT c3) ?_
  exact R.go 8 (k19 (.tup [.agg [.nil, .nil, .nil, AI 0, AI 0], .bool false]) (by rfl))
 refine k6 false (dF c3) ?_
 iterate 2 refine R.go 1 (k6 false (dF c3) ?_)
 refine R.go 1 (k8 false (dF c3) (R.go 1 (k3 ((lowF (invA xs xs.length) ((shl64 1 xs.length) - 1)) < 0) (fun c4 => ?_) (fun c4 => ?_))))
 ·exact R.go 6 (k19 (.tup [.agg [.nil, .nil, .nil, AI 0, AI 0], .bool false]) (by rfl))
 refine R.go 7 (k21 2 0 30 1 (k21 2 1 30 1 (k17 ((fun | (x, A, O) => (⟨(frm 168 [(0, LI xs), (2, .ptr 0 0), (4, AI xs.length), (5, LI (invA xs xs.length)), (6, .ptr 1 0), (7, AI (x : Int))]), [.box 26 [.nil, .nil, .nil, AI 0, AI 0], .box 26 [.ref 2, .ref 3, .nil, AI (lowF xs ((shl64 1 xs.length) - 1)), AI (lowF (invA xs xs.length) ((shl64 1 xs.length) - 1))], rowA eLI 30 1 A, rowA eLI 30 1 O]⟩ : St) : Nat × (List (List Int)) × (List (List Int)) → St)) (fun | (x, A, O) => (x ≤ xs.length) ∧ (∀ p : Nat, p < x → ∀ q : Nat, q < xs.length → MJ xs p q) ∧ (A = tabR (hyM xs) xs.length x) ∧ (O = tabR (hyJ xs) xs.length x)) (fun | (x, A, O) => xs.length - x) (0, [], []) [0, 2, 4, 5, 6, 7] (some [0, 2, 3, 4]) ⟨(by omega), (by exact fun p hp => absurd hp (by omega)), (by rfl), (by rfl)⟩ ?_)))
 rintro ⟨x, A, O⟩ ⟨h8_1, h8_2, rfl, rfl⟩ R5 N6
 have hal := tabR_len (hyM xs) xs.length x
 have hol := tabR_len (hyJ xs) xs.length x
 refine R.go 7 (k3 ((x : Int) < (xs.length : Int)) (fun c9 => ?_) (fun c9 => ?_))
 ·refine R.go 16 (k17 ((fun | (y, a, o) => (⟨(frm 168 [(0, LI xs), (2, .ptr 0 0), (4, AI xs.length), (5, LI (invA xs xs.length)), (6, .ptr 1 0), (7, AI (x : Int)), (8, .ref 4), (9, .ref 5), (10, AI (y : Int))]), [.box 26 [.nil, .nil, .nil, AI 0, AI 0], .box 26 [.ref 2, .ref 3, .nil, AI (lowF xs ((shl64 1 xs.length) - 1)), AI (lowF (invA xs xs.length) ((shl64 1 xs.length) - 1))], rowA eLI 30 1 (tabR (hyM xs) xs.length x), rowA eLI 30 1 (tabR (hyJ xs) xs.length x), rowA eI 2 1 a, rowA eI 2 1 o]⟩ : St) : Nat × (List Int) × (List Int) → St)) (fun | (y, a, o) => (y ≤ xs.length) ∧ (∀ q : Nat, q < y → MJ xs x q) ∧ (a = rowR (hyM xs x) y) ∧ (o = rowR (hyJ xs x) y)) (fun | (y, a, o) => xs.length - y) (0, [], []) [0, 2, 4, 5, 6, 7, 8, 9, 10] none ⟨(by omega), (by exact fun p hp => absurd hp (by omega)), (by rfl), (by rfl)⟩ ?_)
  rintro ⟨y, a, o⟩ ⟨h13_1, h13_2, rfl, rfl⟩ R10 N11
  have har := rowR_len (hyM xs x) y
  have hor := rowR_len (hyJ xs x) y
  refine R.go 7 (k3 ((y : Int) < (xs.length : Int)) (fun c14 => ?_) (fun c14 => ?_))
  ·refine R.go 4 ?_
   have hbx := hbi x (by omega)
   have hby := hbi y (by omega)
   have hmm := inM_band (n := xs.length) (by omega) hbx hby
   have hxx := hxi x (by omega)
   have hxy := hxi y (by omega)
   have hjj := inM_band (n := xs.length) (by omega) hxx hxy
   have hmm61 := inM_mono (n' := 61) (by omega) hmm
   have hjj61 := inM_mono (n' := 61) (by omega) hjj
   refine R.meet (⟨(frm 168 [(0, LI xs), (2, .ptr 0 0), (4, AI xs.length), (5, LI (invA xs xs.length)), (6, .ptr 1 0), (7, AI (x : Int)), (8, .ref 4), (9, .ref 5), (10, AI (y : Int)), (54, AI (y : Int)), (55, AI xs.length), (56, .bool (decide ((y : Int) < (xs.length : Int)))), (60, LI (invA xs xs.length)), (61, LI (invA xs xs.length)), (62, AI (x : Int)), (63, .rptr [AI ((invA xs xs.length).getD x 0)]), (64, AI ((invA xs xs.length).getD x 0)), (65, LI (invA xs xs.length)), (66, AI (y : Int)), (67, .rptr [AI ((invA xs xs.length).getD y 0)]), (68, AI ((invA xs xs.length).getD y 0)), (69, AI (band ((invA xs xs.length).getD x 0) ((invA xs xs.length).getD y 0))), (70, AI (lowF (invA xs xs.length) (band ((invA xs xs.length).getD x 0) ((invA xs xs.length).getD y 0)))), (71, LI [lowF (invA xs xs.length) (band ((invA xs xs.length).getD x 0) ((invA xs xs.length).getD y 0))]), (72, .ref 4)]), [.box 26 [.nil, .nil, .nil, AI 0, AI 0], .box 26 [.ref 2, .ref 3, .nil, AI (lowF xs ((shl64 1 xs.length) - 1)), AI (lowF (invA xs xs.length) ((shl64 1 xs.length) - 1))], rowA eLI 30 1 (tabR (hyM xs) xs.length x), rowA eLI 30 1 (tabR (hyJ xs) xs.length x), rowA eI 2 1 ((rowR (hyM xs x) y) ++ [lowF (invA xs xs.length) (band ((invA xs xs.length).getD x 0) ((invA xs xs.length).getD y 0))]), rowA eI 2 1 (rowR (hyJ xs x) y)]⟩ : St) (by kernel_rfl) ?_ ?_
   ·refine R.any (by decide +kernel) (by kernel_rfl) (k27 0 (k27 1 (k27 2 (k27 3 (k27 6 (k27 7 (k34 4 eI (invA xs xs.length) 0 x (x : Int) eI_len (k34 8 eI (invA xs xs.length) 0 y (y : Int) eI_len (k25 5 9 ?_ ?_)))))))))
    ·refine R.go 2 (k24 9 (R.go 2 (k24 10 (R.go 2 (k24 11 (k16 true (l18Low_c (invA xs xs.length) (band ((invA xs xs.length).getD x 0) ((invA xs xs.length).getD y 0)) (by first | omega | (simp <;> omega)) (by first | assumption | exact inM_mono (by omega) (by assumption))) (R.go 1 (k24 12 (R.lit (s := 1) (n := 1) (cs := rows eI [lowF (invA xs xs.length) (band ((invA xs xs.length).getD x 0) ((invA xs xs.length).getD y 0))]) (by kernel_rfl) (by kernel_rfl) (R.go 1 (k24 13 (k14 eI (rowR (hyM xs x) y) [lowF (invA xs xs.length) (band ((invA xs xs.length).getD x 0) ((invA xs xs.length).getD y 0))] 4 2 1 8 eI_one (R.go 1 (k24 14 (R.go 2 (k23 ?_))))))))))))))))
     exact k28
    refine R.go 2 (k24 5 (R.go 2 (k24 10 (R.go 2 (k24 11 (k16 true (l18Low_c (invA xs xs.length) (band ((invA xs xs.length).getD x 0) ((invA xs xs.length).getD y 0)) (by first | omega | (simp <;> omega)) (by first | assumption | exact inM_mono (by omega) (by assumption))) (R.go 1 (k24 12 (R.lit (s := 1) (n := 1) (cs := rows eI [lowF (invA xs xs.length) (band ((invA xs xs.length).getD x 0) ((invA xs xs.length).getD y 0))]) (by kernel_rfl) (by kernel_rfl) (R.go 1 (k24 13 (k14 eI (rowR (hyM xs x) y) [lowF (invA xs xs.length) (band ((invA xs xs.length).getD x 0) ((invA xs xs.length).getD y 0))] 4 2 1 8 eI_one (R.go 1 (k24 14 (R.go 2 (k23 ?_))))))))))))))))
    exact k28
   refine R.go 1 (R.meet (⟨(frm 168 [(0, LI xs), (2, .ptr 0 0), (4, AI xs.length), (5, LI (invA xs xs.length)), (6, .ptr 1 0), (7, AI (x : Int)), (8, .ref 4), (9, .ref 5), (10, AI (y : Int)), (54, AI (y : Int)), (55, AI xs.length), (56, .bool (decide ((y : Int) < (xs.length : Int)))), (60, LI (invA xs xs.length)), (61, LI (invA xs xs.length)), (62, AI (x : Int)), (63, .rptr [AI ((invA xs xs.length).getD x 0)]), (64, AI ((invA xs xs.length).getD x 0)), (65, LI (invA xs xs.length)), (66, AI (y : Int)), (67, .rptr [AI ((invA xs xs.length).getD y 0)]), (68, AI ((invA xs xs.length).getD y 0)), (69, AI (band ((invA xs xs.length).getD x 0) ((invA xs xs.length).getD y 0))), (70, AI (lowF (invA xs xs.length) (band ((invA xs xs.length).getD x 0) ((invA xs xs.length).getD y 0)))), (71, LI [lowF (invA xs xs.length) (band ((invA xs xs.length).getD x 0) ((invA xs xs.length).getD y 0))]), (72, .ref 4), (74, LI xs), (75, LI xs), (76, AI (x : Int)), (77, .rptr [AI (xs.getD x 0)]), (78, AI (xs.getD x 0)), (79, LI xs), (80, AI (y : Int)), (81, .rptr [AI (xs.getD y 0)]), (82, AI (xs.getD y 0)), (83, AI (band (xs.getD x 0) (xs.getD y 0))), (84, AI (lowF xs (band (xs.getD x 0) (xs.getD y 0)))), (85, LI [lowF xs (band (xs.getD x 0) (xs.getD y 0))]), (86, .ref 5)]), [.box 26 [.nil, .nil, .nil, AI 0, AI 0], .box 26 [.ref 2, .ref 3, .nil, AI (lowF xs ((shl64 1 xs.length) - 1)), AI (lowF (invA xs xs.length) ((shl64 1 xs.length) - 1))], rowA eLI 30 1 (tabR (hyM xs) xs.length x), rowA eLI 30 1 (tabR (hyJ xs) xs.length x), rowA eI 2 1 ((rowR (hyM xs x) y) ++ [lowF (invA xs xs.length) (band ((invA xs xs.length).getD x 0) ((invA xs xs.length).getD y 0))]), rowA eI 2 1 ((rowR (hyJ xs x) y) ++ [lowF xs (band (xs.getD x 0) (xs.getD y 0))])]⟩ : St) (by kernel_rfl) ?_ ?_)
   ·refine R.any (by decide +kernel) (by kernel_rfl) (k27 0 (k27 1 (k27 2 (k27 3 (k27 6 (k27 7 (k34 4 eI xs 0 x (x : Int) eI_len (k34 8 eI xs 0 y (y : Int) eI_len (k25 5 9 ?_ ?_)))))))))
    ·refine R.go 2 (k24 9 (R.go 2 (k24 10 (R.go 2 (k24 11 (k16 true (l18Low_c xs (band (xs.getD x 0) (xs.getD y 0)) (by first | omega | (simp <;> omega)) (by first | assumption | exact inM_mono (by omega) (by assumption))) (R.go 1 (k24 12 (R.lit (s := 1) (n := 1) (cs := rows eI [lowF xs (band (xs.getD x 0) (xs.getD y 0))]) (by kernel_rfl) (by kernel_rfl) (R.go 1 (k24 13 (k14 eI (rowR (hyJ xs x) y) [lowF xs (band (xs.getD x 0) (xs.getD y 0))] 5 2 1 8 eI_one (R.go 1 (k24 14 (R.go 2 (k23 ?_))))))))))))))))
     exact k28
    refine R.go 2 (k24 5 (R.go 2 (k24 10 (R.go 2 (k24 11 (k16 true (l18Low_c xs (band (xs.getD x 0) (xs.getD y 0)) (by first | omega | (simp <;> omega)) (by first | assumption | exact inM_mono (by omega) (by assumption))) (R.go 1 (k24 12 (R.lit (s := 1) (n := 1) (cs := rows eI [lowF xs (band (xs.getD x 0) (xs.getD y 0))]) (by kernel_rfl) (by kernel_rfl) (R.go 1 (k24 13 (k14 eI (rowR (hyJ xs x) y) [lowF xs (band (xs.getD x 0) (xs.getD y 0))] 5 2 1 8 eI_one (R.go 1 (k24 14 (R.go 2 (k23 ?_))))))))))))))))
    exact k28
   have hg1 : (((rowR (hyM xs x) y) ++ [lowF (invA xs xs.length) (band ((invA xs xs.length).getD x 0) ((invA xs xs.length).getD y 0))])).getD y 0 = hyM xs x y := rowR_last (f := hyM xs x) rfl
   have hg2 : (((rowR (hyJ xs x) y) ++ [lowF xs (band (xs.getD x 0) (xs.getD y 0))])).getD y 0 = hyJ xs x y := rowR_last (f := hyJ xs x) rfl
   have hg3 : (((rowR (hyM xs x) y) ++ [lowF (invA xs xs.length) (band ((invA xs xs.length).getD x 0) ((invA xs xs.length).getD y 0))])).length = y + 1 := rowR_lenS
   have hg4 : (((rowR (hyJ xs x) y) ++ [lowF xs (band (xs.getD x 0) (xs.getD y 0))])).length = y + 1 := rowR_lenS
   refine R.go 4 (k10 4 1 ((rowR (hyM xs x) y) ++ [lowF (invA xs xs.length) (band ((invA xs xs.length).getD x 0) ((invA xs xs.length).getD y 0))]).length y (y : Int) ?_ (hj := by first | omega | (simp only [List.length_set]; omega) | (simp <;> omega)))
   refine k12 ((rowR (hyM xs x) y) ++ [lowF (invA xs xs.length) (band ((invA xs xs.length).getD x 0) ((invA xs xs.length).getD y 0))]) y ?_ (hj := by first | omega | (simp only [List.length_set]; omega) | (simp <;> omega))
   refine R.go 2 ?_
   by_cases c15 : (((rowR (hyM xs x) y) ++ [lowF (invA xs xs.length) (band ((invA xs xs.length).getD x 0) ((invA xs xs.length).getD y 0))]).getD y 0) < 0
   ·refine k7 false (dT c15) ?_
    iterate 4 refine k7 false (dT c15) ?_
    refine k8 true (dT c15) ?_
    exact R.go 8 (k19 (.tup [.agg [.nil, .nil, .nil, AI 0, AI 0], .bool false]) (by rfl))
   refine k6 false (dF c15) ?_
   iterate 2 refine R.go 1 (k6 false (dF c15) ?_)
   refine k10 5 1 ((rowR (hyJ xs x) y) ++ [lowF xs (band (xs.getD x 0) (xs.getD y 0))]).length y (y : Int) ?_ (hj := by first | omega | (simp only [List.length_set]; omega) | (simp <;> omega))
   refine k6 false (dF c15) (k12 ((rowR (hyJ xs x) y) ++ [lowF xs (band (xs.getD x 0) (xs.getD y 0))]) y ?_ (hj := by first | omega | (simp only [List.length_set]; omega) | (simp <;> omega)))
   refine k6 false (dF c15) (R.go 1 (k8 false (dF c15) (R.go 1 (k3 ((((rowR (hyJ xs x) y) ++ [lowF xs (band (xs.getD x 0) (xs.getD y 0))]).getD y 0) < 0) (fun c16 => ?_) (fun c16 => ?_)))))
   ·exact R.go 6 (k19 (.tup [.agg [.nil, .nil, .nil, AI 0, AI 0], .bool false]) (by rfl))
   refine R.go 4 (k1 ((y : Int) + 1) ?_)
   exact R.go 2 (k18 R10 (N11 (y + 1, (rowR (hyM xs x) y) ++ [lowF (invA xs xs.length) (band ((invA xs xs.length).getD x 0) ((invA xs xs.length).getD y 0))], (rowR (hyJ xs x) y) ++ [lowF xs (band (xs.getD x 0) (xs.getD y 0))]) [0, 2, 4, 5, 6, 7, 8, 9, 10] none _ (by kernel_rfl) (by kernel_rfl) ⟨(by omega), (by exact mj_step (by assumption) (by omega) (by omega)), (by exact rowR_snoc), (by exact rowR_snoc)⟩ (by show (xs.length - (y + 1)) < (xs.length - y); omega)))
  refine R.go 6 (k14 eLI [] (tabR (hyM xs) xs.length x) 6 30 1 24 eLI_one (R.go 1 (k20 4 (R.go 1 (k14 eLI ([] ++ (tabR (hyM xs) xs.length x)) [rowR (hyM xs x) y] 6 30 1 24 eLI_one (R.go 7 (k14 eLI [] (tabR (hyJ xs) xs.length x) 8 30 1 24 eLI_one (R.go 1 (k20 5 (R.go 1 (k14 eLI ([] ++ (tabR (hyJ xs) xs.length x)) [rowR (hyJ xs x) y] 8 30 1 24 eLI_one (R.go 6 (k1 ((x : Int) + 1) ?_)))))))))))))
  exact R.go 2 (k18 R5 (N6 (x + 1, [] ++ (tabR (hyM xs) xs.length x) ++ [rowR (hyM xs x) y], [] ++ (tabR (hyJ xs) xs.length x) ++ [rowR (hyJ xs x) y]) [0, 2, 4, 5, 6, 7] (some [0, 1, 6, 8]) _ (by kernel_rfl) (by kernel_rfl) ⟨(by omega), (by exact rw_step (P := MJ xs) (by assumption) (‹∀ q : Nat, q < y → MJ xs x q›) (by omega)), (by rw [show y = xs.length by omega]; exact tabR_snoc), (by rw [show y = xs.length by omega]; exact tabR_snoc)⟩ (by show (xs.length - (x + 1)) < (xs.length - x); omega)))
 refine R.go 7 (k21 1 2 30 1 (k17 ((fun | (u, LJ) => (⟨(frm 168 [(0, LI xs), (2, .ptr 0 0), (4, AI xs.length), (5, LI (invA xs xs.length)), (6, .ptr 1 0), (11, AI (u : Int))]), [.box 26 [.nil, .nil, .nil, AI 0, AI 0], .box 26 [.ref 2, .ref 3, .ref 4, AI (lowF xs ((shl64 1 xs.length) - 1)), AI (lowF (invA xs xs.length) ((shl64 1 xs.length) - 1))], rowA eLI 30 1 (tabR (hyM xs) xs.length x), rowA eLI 30 1 (tabR (hyJ xs) xs.length x), rowA eLI 30 1 LJ]⟩ : St) : Nat × (List (List Int)) → St)) (fun | (u, LJ) => (u ≤ xs.length) ∧ (∀ p : Nat, p < u → ∀ q : Nat, q < xs.length → 0 ≤ hyI xs p q) ∧ (LJ = tabR (hyI xs) xs.length u)) (fun | (u, LJ) => xs.length - u) (0, []) [0, 2, 4, 5, 6, 11] none ⟨(by omega), (by exact fun p hp => absurd hp (by omega)), (by rfl)⟩ ?_))
 rintro ⟨u, LJ⟩ ⟨h20_1, h20_2, rfl⟩ R17 N18
 have hjl := tabR_len (hyI xs) xs.length u
 have hF : ¬ (u : Int) < (xs.length : Int) → (1 : Int) ≤ 0 := fun hu9 => False.elim (hyN_end hN (by omega) (by assumption) (fun p hp => (‹∀ p : Nat, p < x → ∀ q : Nat, q < xs.length → MJ xs p q›) p (by omega)) (fun p hp => (‹∀ p : Nat, p < u → ∀ q : Nat, q < xs.length → 0 ≤ hyI xs p q›) p (by omega)))
 refine R.go 7 (k3 ((u : Int) < (xs.length : Int)) (fun c21 => ?_) (fun c21 => ?_))
 ·refine R.go 14 (k17 ((fun | (w, C) => (⟨(frm 168 [(0, LI xs), (2, .ptr 0 0), (4, AI xs.length), (5, LI (invA xs xs.length)), (6, .ptr 1 0), (11, AI (u : Int)), (12, .ref 5), (13, AI (w : Int))]), [.box 26 [.nil, .nil, .nil, AI 0, AI 0], .box 26 [.ref 2, .ref 3, .ref 4, AI (lowF xs ((shl64 1 xs.length) - 1)), AI (lowF (invA xs xs.length) ((shl64 1 xs.length) - 1))], rowA eLI 30 1 (tabR (hyM xs) xs.length x), rowA eLI 30 1 (tabR (hyJ xs) xs.length x), rowA eLI 30 1 (tabR (hyI xs) xs.length u), rowA eI 2 1 C]⟩ : St) : Nat × (List Int) → St)) (fun | (w, C) => (w ≤ xs.length) ∧ (∀ q : Nat, q < w → 0 ≤ hyI xs u q) ∧ (C = rowR (hyI xs u) w)) (fun | (w, C) => xs.length - w) (0, []) [0, 2, 4, 5, 6, 11, 12, 13] none ⟨(by omega), (by exact fun p hp => absurd hp (by omega)), (by rfl)⟩ ?_)
  rintro ⟨w, C⟩ ⟨h25_1, h25_2, rfl⟩ R22 N23
  have hcr := rowR_len (hyI xs u) w
  refine R.go 7 (k3 ((w : Int) < (xs.length : Int)) (fun c26 => ?_) (fun c26 => ?_))
  ·refine R.go 13 (k17 ((fun | (z, cm) => (⟨(frm 168 [(0, LI xs), (2, .ptr 0 0), (4, AI xs.length), (5, LI (invA xs xs.length)), (6, .ptr 1 0), (11, AI (u : Int)), (12, .ref 5), (13, AI (w : Int)), (14, AI cm), (15, AI (z : Int))]), [.box 26 [.nil, .nil, .nil, AI 0, AI 0], .box 26 [.ref 2, .ref 3, .ref 4, AI (lowF xs ((shl64 1 xs.length) - 1)), AI (lowF (invA xs xs.length) ((shl64 1 xs.length) - 1))], rowA eLI 30 1 (tabR (hyM xs) xs.length x), rowA eLI 30 1 (tabR (hyJ xs) xs.length x), rowA eLI 30 1 (tabR (hyI xs) xs.length u), rowA eI 2 1 (rowR (hyI xs u) w)]⟩ : St) : Nat × Int → St)) (fun | (z, cm) => (z ≤ xs.length) ∧ (cm = hyC xs u w z)) (fun | (z, cm) => xs.length - z) (0, 0) [0, 2, 4, 5, 6, 11, 12, 13, 14, 15] none ⟨(by omega), (by rfl)⟩ ?_)
   rintro ⟨z, cm⟩ ⟨h30_1, rfl⟩ R27 N28
   refine R.go 7 (k3 ((z : Int) < (xs.length : Int)) (fun c31 => ?_) (fun c31 => ?_))
   ·have hzx : x = xs.length := by omega
    have hat := tabL_at (f := hyM xs) (N := xs.length) (x := x) (i := z) (j := u) (by omega) (by omega)
    have hva := hat.1
    have hvl := hat.2
    have hvm : 0 ≤ hyM xs z u := ((‹∀ p : Nat, p < x → ∀ q : Nat, q < xs.length → MJ xs p q›) z (by omega) u (by omega)).1
    have hvr := hyM_rngN hvm
    have hvx := hxi ((((tabR (hyM xs) xs.length x).getD z []).getD u 0).toNat) (by omega)
    refine R.go 9 (k10 2 1 (tabR (hyM xs) xs.length x).length z (z : Int) (R.ldE eLI 1 0 (tabR (hyM xs) xs.length x) [] z (LI ((tabR (hyM xs) xs.length x).getD z [])) (by kernel_rfl) eLI_len (by omega) rfl (by kernel_rfl) (R.go 1 (k9 eI ((tabR (hyM xs) xs.length x).getD z []) 0 u (u : Int) eI_len ?_ (hj := by first | omega | (simp only [List.length_set]; omega) | (simp <;> omega))))))
    refine R.go 1 (k9 eI xs 0 (((((tabR (hyM xs) xs.length x).getD z []).getD u 0)).toNat) (((tabR (hyM xs) xs.length x).getD z []).getD u 0) eI_len ?_ (hji := by omega))
    refine R.go 2 (k16 true (l01Bit_c (xs.getD (((((tabR (hyM xs) xs.length x).getD z []).getD u 0)).toNat) 0) (w : Int) (by omega) (by omega)) (R.go 1 (k3 (band (shr64 (xs.getD (((((tabR (hyM xs) xs.length x).getD z []).getD u 0)).toNat) 0) (w : Int)) 1 = 1) (fun c32 => ?_) (fun c32 => ?_))))
    ·refine R.go 3 (k16 true (l01One_c (z : Int) (by omega) (by omega)) (R.go 6 (k1 ((z : Int) + 1) ?_)))
     exact R.go 2 (k18 R27 (N28 (z + 1, bor (hyC xs u w z) (shl64 1 (z : Int))) [0, 2, 4, 5, 6, 11, 12, 13, 14, 15] none _ (by kernel_rfl) (by kernel_rfl) ⟨(by omega), (by first | exact hyC_yesN h30 hR hvm (by omega) hva ((spec_bitN h30 hR (by omega) (by omega) (by omega)).1 (by assumption)) | exact hyC_noN h30 hR hvm (by omega) hva (fun q => absurd ((spec_bitN h30 hR (by omega) (by omega) (by omega)).2 q) (by assumption)))⟩ (by show (xs.length - (z + 1)) < (xs.length - z); omega)))
    refine R.go 4 (k1 ((z : Int) + 1) ?_)
    exact R.go 2 (k18 R27 (N28 (z + 1, hyC xs u w z) [0, 2, 4, 5, 6, 11, 12, 13, 14, 15] none _ (by kernel_rfl) (by kernel_rfl) ⟨(by omega), (by first | exact hyC_yesN h30 hR hvm (by omega) hva ((spec_bitN h30 hR (by omega) (by omega) (by omega)).1 (by assumption)) | exact hyC_noN h30 hR hvm (by omega) hva (fun q => absurd ((spec_bitN h30 hR (by omega) (by omega) (by omega)).2 q) (by assumption)))⟩ (by show (xs.length - (z + 1)) < (xs.length - z); omega)))
   have hcz := inM_mono (n' := 61) (by omega) (hyC_inN h30 u w (z := z) (by omega))
   refine R.go 5 (k16 true (l18Low_c (invA xs xs.length) (hyC xs u w z) (by first | omega | (simp <;> omega)) (by first | assumption | exact inM_mono (by omega) (by assumption))) (R.go 8 (k3 ((lowF (invA xs xs.length) (hyC xs u w z)) < 0) (fun c33 => ?_) (fun c33 => ?_))))
   ·exact R.go 6 (k19 (.tup [.agg [.nil, .nil, .nil, AI 0, AI 0], .bool false]) (by rfl))
   have hcl : 0 ≤ hyI xs u w := by have h9 : 0 ≤ lowF (invA xs xs.length) (hyC xs u w z) := (by omega); rwa [show z = xs.length by omega] at h9
   refine R.go 5 (k14 eI (rowR (hyI xs u) w) [lowF (invA xs xs.length) (hyC xs u w z)] 5 2 1 8 eI_one (R.go 5 (k1 ((w : Int) + 1) ?_)))
   exact R.go 2 (k18 R22 (N23 (w + 1, (rowR (hyI xs u) w) ++ [lowF (invA xs xs.length) (hyC xs u w z)]) [0, 2, 4, 5, 6, 11, 12, 13] (some [0, 1, 2, 3, 4, 5]) _ (by kernel_rfl) (by kernel_rfl) ⟨(by omega), (by exact below1 (by assumption) hcl), (by rw [show z = xs.length by omega]; exact rowR_snoc)⟩ (by show (xs.length - (w + 1)) < (xs.length - w); omega)))
  refine R.go 5 (k14 eLI [] (tabR (hyI xs) xs.length u) 6 30 1 24 eLI_one (R.go 1 (k20 5 (R.go 1 (k14 eLI ([] ++ (tabR (hyI xs) xs.length u)) [rowR (hyI xs u) w] 6 30 1 24 eLI_one (R.go 6 (k1 ((u : Int) + 1) ?_)))))))
  exact R.go 2 (k18 R17 (N18 (u + 1, [] ++ (tabR (hyI xs) xs.length u) ++ [rowR (hyI xs u) w]) [0, 2, 4, 5, 6, 11] (some [0, 1, 2, 3, 6]) _ (by kernel_rfl) (by kernel_rfl) ⟨(by omega), (by exact rw_step (P := fun p q => 0 ≤ hyI xs p q) (by assumption) (‹∀ q : Nat, q < w → 0 ≤ hyI xs u q›) (by omega)), (by rw [show w = xs.length by omega]; exact tabR_snoc)⟩ (by show (xs.length - (u + 1)) < (xs.length - u); omega)))
 exact R.go 7 (k19 (.tup [.agg [ownA eLI 30 1 (tabR (hyM xs) xs.length x), ownA eLI 30 1 (tabR (hyJ xs) xs.length x), ownA eLI 30 1 (tabR (hyI xs) xs.length u), AI (lowF xs ((shl64 1 xs.length) - 1)), AI (lowF (invA xs xs.length) ((shl64 1 xs.length) - 1))], .bool true]) (by first | (first | rfl | (exfalso; exact hyN_end hN (by omega) (by assumption) (fun p hp => (‹∀ p : Nat, p < x → ∀ q : Nat, q < xs.length → MJ xs p q›) p (by omega)) (fun p hp => (‹∀ p : Nat, p < u → ∀ q : Nat, q < xs.length → 0 ≤ hyI xs p q›) p (by omega)))) | (exfalso; omega)))
end Go.Proofs.YtjllngcefoohpaaGreat

/-! Both packages tell a Heyting algebra. -/
namespace Go.Proofs.YtjllngcefoohpaaGreat
open Go.RowKit Go.Abs
theorem ntF {b : Bool} (h : b = false) : ¬ b = true := by rw [h]; decide
theorem ok_ordT {A : List (List Int)} (h30 : A.length ≤ 30) (hB : hyB (ordT A) = true) : HyOK (ordT A) := hyB_ok (by rw [ordT_len]; exact h30) (ordT_rel (by omega)) hB
theorem isHeytingYE (A O J : List (List Int)) (bo t : Int) (la : A.length ≤ 1000000000 ∧ O.length ≤ 1000000000 ∧ J.length ≤ 1000000000) (mA : ∀ i0 : Nat, i0 < A.length → (A.getD i0 []).length ≤ 1000000000) (mO : ∀ i0 : Nat, i0 < O.length → (O.getD i0 []).length ≤ 1000000000) (mJ : ∀ i0 : Nat, i0 < J.length → (J.getD i0 []).length ≤ 1000000000) (hB : hyB (ordT A) = true) : CallE Tryz.prog 53 [.agg [LLI A, LLI O, LLI J, AI bo, AI t]] (fun (b : Nat) (r : AV) => r = .bool (hyIs A O J bo t)) := by
 refine CallE.of Tryz.func53 rfl (by kernel_rfl) (fun b => (R.go 9 (k16 true (hsize_c A O J bo t) (k16 true (inRange_c A.length 1 30) (R.go 2 ((Bool.eq_false_or_eq_true (inR A.length 1 30)).elim (fun c1 => ?_) (fun c1 => ?_)))))))
 ·refine k6 false (bnF c1) ?_
  iterate 3 refine R.go 1 (k6 false (bnF c1) ?_)
  refine k16 true (isTable_c A O J bo t A (by first | omega | (simp <;> omega)) (by first | omega | (simp <;> omega)) mA) (k6 false (bnF c1) (R.go 1 (k8 false (bnF c1) (R.go 1 ((Bool.eq_false_or_eq_true (tabB A.length A)).elim (fun c2 => ?_) (fun c2 => ?_))))))
  ·refine k6 false (bnF c2) ?_
   iterate 3 refine R.go 1 (k6 false (bnF c2) ?_)
   refine k16 true (isTable_c A O J bo t O (by first | omega | (simp <;> omega)) (by first | omega | (simp <;> omega)) mO) (k6 false (bnF c2) (R.go 1 (k8 false (bnF c2) (R.go 1 ((Bool.eq_false_or_eq_true (tabB A.length O)).elim (fun c3 => ?_) (fun c3 => ?_))))))
   ·refine k6 false (bnF c3) ?_
    iterate 3 refine R.go 1 (k6 false (bnF c3) ?_)
    refine k16 true (isTable_c A O J bo t J (by first | omega | (simp <;> omega)) (by first | omega | (simp <;> omega)) mJ) (k6 false (bnF c3) (R.go 1 (k8 false (bnF c3) (R.go 1 (k22 (tabB A.length J) (fun c4 => ?_) (fun c4 => ?_))))))
    ·exact R.go 4 (k30 (.bool false) (by first | rfl | (apply congrArg AV.bool; first | exact hyIs_1 (by have h9 := (inR_not _ _ _).1 (by assumption : inR (A.length : Int) 1 30 = false); omega) | exact hyIs_2 (ntF (by assumption)) | exact hyIs_3 (ntF (by assumption)) | exact hyIs_4 (ntF (by assumption)) | (rw [heE1_7, heE1_8, heE1_9, ordT_len]; exact hyIs_6 (by omega) (by assumption) (by assumption) (by assumption) hB)) | (exfalso; omega)))
    have hr30 := (inR_iff _ _ _).1 (by assumption : inR (A.length : Int) 1 30 = true)
    have hol := ordT_len A
    have hO : HyOK (ordT A) := ok_ordT (by omega) hB
    refine R.go 4 (k16 true (order_c A O J bo t c2 (by first | omega | (simp <;> omega))) (R.callE (avs0 := [.ref 2]) (heytingOf_c (ordT A) hO) (by kernel_rfl) (.cons (.ref (e := 2) (s := 1) (n := (ordT A).length) (cs := rows eI (ordT A)) (by kernel_rfl)) (.nil)) (heytingOf_c_cl (ordT A)) (by kernel_rfl) ?_))
    intro bE1 hbn5 hsn6 rn7 hrn8
    obtain ⟨LAE1, LOE1, LJE1, rfl, heE1_1, heE1_2, heE1_3, heE1_4, heE1_5, heE1_6, heE1_7, heE1_8, heE1_9⟩ := hrn8
    have hbb9 : b ≤ bE1 := hbn5 0 b (by kernel_rfl)
    clear hbn5 hsn6
    refine R.go 13 (R.callW (avs0 := [.agg [LLI A, LLI O, LLI J, AI bo, AI t], .agg [.ref 3, .ref 4, .ref 5, AI (lowF (ordT A) (fullM (ordT A).length)), AI (lowF (invA (ordT A) (ordT A).length) (fullM (ordT A).length))]]) (sameHey_c A O J (LAE1.map Prod.snd) (LOE1.map Prod.snd) (LJE1.map Prod.snd) bo t (lowF (ordT A) (fullM (ordT A).length)) (lowF (invA (ordT A) (ordT A).length) (fullM (ordT A).length)) la mA mO mJ) (by kernel_rfl) (.cons (.agg (.cons (.leaf rfl) (.cons (.leaf rfl) (.cons (.leaf rfl) (.cons (.leaf rfl) (.cons (.leaf rfl) (.nil))))))) (.cons (.agg (.cons (.wk (.ref (e := 30) (s := 1) (n := LAE1.length) (cs := rows (eV eI 2 1) LAE1) (by kernel_rfl)) (fgtV (fun _ => rfl) _)) (.cons (.wk (.ref (e := 30) (s := 1) (n := LOE1.length) (cs := rows (eV eI 2 1) LOE1) (by kernel_rfl)) (fgtV (fun _ => rfl) _)) (.cons (.wk (.ref (e := 30) (s := 1) (n := LJE1.length) (cs := rows (eV eI 2 1) LJE1) (by kernel_rfl)) (fgtV (fun _ => rfl) _)) (.cons (.leaf rfl) (.cons (.leaf rfl) (.nil))))))) (.nil))) rfl (by kernel_rfl) ?_)
    exact R.go 3 (k30 (.bool (decide (bo = (lowF (ordT A) (fullM (ordT A).length)) ∧ t = (lowF (invA (ordT A) (ordT A).length) (fullM (ordT A).length)) ∧ A = (LAE1.map Prod.snd) ∧ O = (LOE1.map Prod.snd) ∧ J = (LJE1.map Prod.snd)))) (by first | rfl | (apply congrArg AV.bool; first | exact hyIs_1 (by have h9 := (inR_not _ _ _).1 (by assumption : inR (A.length : Int) 1 30 = false); omega) | exact hyIs_2 (ntF (by assumption)) | exact hyIs_3 (ntF (by assumption)) | exact hyIs_4 (ntF (by assumption)) | (rw [heE1_7, heE1_8, heE1_9, ordT_len]; exact hyIs_6 (by omega) (by assumption) (by assumption) (by assumption) hB)) | (exfalso; omega)))
   iterate 5 refine k7 false (bnT c3) ?_
   refine k8 true (bnT c3) ?_
   exact R.go 6 (k30 (.bool false) (by first | rfl | (apply congrArg AV.bool; first | exact hyIs_1 (by have h9 := (inR_not _ _ _).1 (by assumption : inR (A.length : Int) 1 30 = false); omega) | exact hyIs_2 (ntF (by assumption)) | exact hyIs_3 (ntF (by assumption)) | exact hyIs_4 (ntF (by assumption)) | (rw [heE1_7, heE1_8, heE1_9, ordT_len]; exact hyIs_6 (by omega) (by assumption) (by assumption) (by assumption) hB)) | (exfalso; omega)))
  iterate 5 refine k7 false (bnT c2) ?_
  refine k8 true (bnT c2) ?_
  exact R.go 13 (k30 (.bool false) (by first | rfl | (apply congrArg AV.bool; first | exact hyIs_1 (by have h9 := (inR_not _ _ _).1 (by assumption : inR (A.length : Int) 1 30 = false); omega) | exact hyIs_2 (ntF (by assumption)) | exact hyIs_3 (ntF (by assumption)) | exact hyIs_4 (ntF (by assumption)) | (rw [heE1_7, heE1_8, heE1_9, ordT_len]; exact hyIs_6 (by omega) (by assumption) (by assumption) (by assumption) hB)) | (exfalso; omega)))
 iterate 5 refine k7 false (bnT c1) ?_
 refine k8 true (bnT c1) ?_
 exact R.go 20 (k30 (.bool false) (by first | rfl | (apply congrArg AV.bool; first | exact hyIs_1 (by have h9 := (inR_not _ _ _).1 (by assumption : inR (A.length : Int) 1 30 = false); omega) | exact hyIs_2 (ntF (by assumption)) | exact hyIs_3 (ntF (by assumption)) | exact hyIs_4 (ntF (by assumption)) | (rw [heE1_7, heE1_8, heE1_9, ordT_len]; exact hyIs_6 (by omega) (by assumption) (by assumption) (by assumption) hB)) | (exfalso; omega)))
theorem isHeytingNE (A O J : List (List Int)) (bo t : Int) (la : A.length ≤ 1000000000 ∧ O.length ≤ 1000000000 ∧ J.length ≤ 1000000000) (mA : ∀ i0 : Nat, i0 < A.length → (A.getD i0 []).length ≤ 1000000000) (mO : ∀ i0 : Nat, i0 < O.length → (O.getD i0 []).length ≤ 1000000000) (mJ : ∀ i0 : Nat, i0 < J.length → (J.getD i0 []).length ≤ 1000000000) (hB : hyB (ordT A) = false) : CallE Tryz.prog 53 [.agg [LLI A, LLI O, LLI J, AI bo, AI t]] (fun (b : Nat) (r : AV) => r = .bool (hyIs A O J bo t)) := by
 refine CallE.of Tryz.func53 rfl (by kernel_rfl) (fun b => (R.go 9 (k16 true (hsize_c A O J bo t) (k16 true (inRange_c A.length 1 30) (R.go 2 ((Bool.eq_false_or_eq_true (inR A.length 1 30)).elim (fun c1 => ?_) (fun c1 => ?_)))))))
 ·refine k6 false (bnF c1) ?_
  iterate 3 refine R.go 1 (k6 false (bnF c1) ?_)
  refine k16 true (isTable_c A O J bo t A (by first | omega | (simp <;> omega)) (by first | omega | (simp <;> omega)) mA) (k6 false (bnF c1) (R.go 1 (k8 false (bnF c1) (R.go 1 ((Bool.eq_false_or_eq_true (tabB A.length A)).elim (fun c2 => ?_) (fun c2 => ?_))))))
  ·refine k6 false (bnF c2) ?_
   iterate 3 refine R.go 1 (k6 false (bnF c2) ?_)
   refine k16 true (isTable_c A O J bo t O (by first | omega | (simp <;> omega)) (by first | omega | (simp <;> omega)) mO) (k6 false (bnF c2) (R.go 1 (k8 false (bnF c2) (R.go 1 ((Bool.eq_false_or_eq_true (tabB A.length O)).elim (fun c3 => ?_) (fun c3 => ?_))))))
   ·refine k6 false (bnF c3) ?_
    iterate 3 refine R.go 1 (k6 false (bnF c3) ?_)
    refine k16 true (isTable_c A O J bo t J (by first | omega | (simp <;> omega)) (by first | omega | (simp <;> omega)) mJ) (k6 false (bnF c3) (R.go 1 (k8 false (bnF c3) (R.go 1 (k22 (tabB A.length J) (fun c4 => ?_) (fun c4 => ?_))))))
    ·exact R.go 4 (k30 (.bool false) (by first | rfl | (apply congrArg AV.bool; first | exact hyIs_1 (by have h9 := (inR_not _ _ _).1 (by assumption : inR (A.length : Int) 1 30 = false); omega) | exact hyIs_2 (ntF (by assumption)) | exact hyIs_3 (ntF (by assumption)) | exact hyIs_4 (ntF (by assumption)) | exact hyIs_5 hB) | (exfalso; omega)))
    have hr30 := (inR_iff _ _ _).1 (by assumption : inR (A.length : Int) 1 30 = true)
    have hol := ordT_len A
    have hRl : RelOK (ordT A).length (ordT A) := ordT_rel (by omega)
    refine R.go 4 (k16 true (order_c A O J bo t c2 (by first | omega | (simp <;> omega))) (k16 false (heytingN_c (ordT A) (by first | omega | (simp <;> omega)) hRl hB) ?_ (hr := by simp [AV.closed, closedL, AI])))
    exact R.go 17 (k30 (.bool false) (by first | rfl | (apply congrArg AV.bool; first | exact hyIs_1 (by have h9 := (inR_not _ _ _).1 (by assumption : inR (A.length : Int) 1 30 = false); omega) | exact hyIs_2 (ntF (by assumption)) | exact hyIs_3 (ntF (by assumption)) | exact hyIs_4 (ntF (by assumption)) | exact hyIs_5 hB) | (exfalso; omega)))
   iterate 5 refine k7 false (bnT c3) ?_
   refine k8 true (bnT c3) ?_
   exact R.go 6 (k30 (.bool false) (by first | rfl | (apply congrArg AV.bool; first | exact hyIs_1 (by have h9 := (inR_not _ _ _).1 (by assumption : inR (A.length : Int) 1 30 = false); omega) | exact hyIs_2 (ntF (by assumption)) | exact hyIs_3 (ntF (by assumption)) | exact hyIs_4 (ntF (by assumption)) | exact hyIs_5 hB) | (exfalso; omega)))
  iterate 5 refine k7 false (bnT c2) ?_
  refine k8 true (bnT c2) ?_
  exact R.go 13 (k30 (.bool false) (by first | rfl | (apply congrArg AV.bool; first | exact hyIs_1 (by have h9 := (inR_not _ _ _).1 (by assumption : inR (A.length : Int) 1 30 = false); omega) | exact hyIs_2 (ntF (by assumption)) | exact hyIs_3 (ntF (by assumption)) | exact hyIs_4 (ntF (by assumption)) | exact hyIs_5 hB) | (exfalso; omega)))
 iterate 5 refine k7 false (bnT c1) ?_
 refine k8 true (bnT c1) ?_
 exact R.go 20 (k30 (.bool false) (by first | rfl | (apply congrArg AV.bool; first | exact hyIs_1 (by have h9 := (inR_not _ _ _).1 (by assumption : inR (A.length : Int) 1 30 = false); omega) | exact hyIs_2 (ntF (by assumption)) | exact hyIs_3 (ntF (by assumption)) | exact hyIs_4 (ntF (by assumption)) | exact hyIs_5 hB) | (exfalso; omega)))
theorem isHeyting_c (A O J : List (List Int)) (bo t : Int) (la : A.length ≤ 1000000000 ∧ O.length ≤ 1000000000 ∧ J.length ≤ 1000000000) (mA : ∀ i0 : Nat, i0 < A.length → (A.getD i0 []).length ≤ 1000000000) (mO : ∀ i0 : Nat, i0 < O.length → (O.getD i0 []).length ≤ 1000000000) (mJ : ∀ i0 : Nat, i0 < J.length → (J.getD i0 []).length ≤ 1000000000) : CallA Tryz.prog 53 [.agg [LLI A, LLI O, LLI J, AI bo, AI t]] (.bool (hyIs A O J bo t)) := by
 cases e : hyB (ordT A) with
 | true => exact CallE.toA (isHeytingYE A O J bo t la mA mO mJ e)
 | false => exact CallE.toA (isHeytingNE A O J bo t la mA mO mJ e)
theorem l18IsYE (A O J : List (List Int)) (bo t : Int) (la : A.length ≤ 1000000000 ∧ O.length ≤ 1000000000 ∧ J.length ≤ 1000000000) (mA : ∀ i0 : Nat, i0 < A.length → (A.getD i0 []).length ≤ 1000000000) (mO : ∀ i0 : Nat, i0 < O.length → (O.getD i0 []).length ≤ 1000000000) (mJ : ∀ i0 : Nat, i0 < J.length → (J.getD i0 []).length ≤ 1000000000) (hB : hyB (ordT A) = true) : CallE Tryz.prog 58 [.agg [LLI A, LLI O, LLI J, AI bo, AI t]] (fun (b : Nat) (r : AV) => r = .bool (hyIs A O J bo t)) := by
 refine CallE.of Tryz.func58 rfl (by kernel_rfl) (fun b => (R.go 8 (k16 true (l18Size_c A O J bo t) (R.go 6 (k16 true (l01In_c A.length 1 30) (R.go 2 ((Bool.eq_false_or_eq_true (inR A.length 1 30)).elim (fun c1 => ?_) (fun c1 => ?_))))))))
 ·refine k6 false (bnF c1) ?_
  iterate 3 refine R.go 1 (k6 false (bnF c1) ?_)
  refine k16 true (l18Table_c A A.length (by first | omega | (simp <;> omega)) (by first | omega | (simp <;> omega)) mA) (k6 false (bnF c1) (R.go 1 (k8 false (bnF c1) (R.go 1 ((Bool.eq_false_or_eq_true (tabB A.length A)).elim (fun c2 => ?_) (fun c2 => ?_))))))
  ·refine k6 false (bnF c2) ?_
   iterate 3 refine R.go 1 (k6 false (bnF c2) ?_)
   refine k16 true (l18Table_c O A.length (by first | omega | (simp <;> omega)) (by first | omega | (simp <;> omega)) mO) (k6 false (bnF c2) (R.go 1 (k8 false (bnF c2) (R.go 1 ((Bool.eq_false_or_eq_true (tabB A.length O)).elim (fun c3 => ?_) (fun c3 => ?_))))))
   ·refine k6 false (bnF c3) ?_
    iterate 3 refine R.go 1 (k6 false (bnF c3) ?_)
    refine k16 true (l18Table_c J A.length (by first | omega | (simp <;> omega)) (by first | omega | (simp <;> omega)) mJ) (k6 false (bnF c3) (R.go 1 (k8 false (bnF c3) (R.go 1 (k22 (tabB A.length J) (fun c4 => ?_) (fun c4 => ?_))))))
    ·exact R.go 4 (k30 (.bool false) (by first | rfl | (apply congrArg AV.bool; first | exact hyIs_1 (by have h9 := (inR_not _ _ _).1 (by assumption : inR (A.length : Int) 1 30 = false); omega) | exact hyIs_2 (ntF (by assumption)) | exact hyIs_3 (ntF (by assumption)) | exact hyIs_4 (ntF (by assumption)) | (rw [ordT_len]; exact hyIs_6 (by omega) (by assumption) (by assumption) (by assumption) hB)) | (exfalso; omega)))
    have hr30 := (inR_iff _ _ _).1 (by assumption : inR (A.length : Int) 1 30 = true)
    have hol := ordT_len A
    have hO : HyOK (ordT A) := ok_ordT (by omega) hB
    refine R.go 4 (k16 true (l18Order_c A O J bo t c2 (by first | omega | (simp <;> omega))) (k20 2 (k16 true (l18Build_c (ordT A) hO) (R.go 13 (k16 false (l18Same_c A O J (tabR (hyM (ordT A)) (ordT A).length (ordT A).length) (tabR (hyJ (ordT A)) (ordT A).length (ordT A).length) (tabR (hyI (ordT A)) (ordT A).length (ordT A).length) bo t (lowF (ordT A) (fullM (ordT A).length)) (lowF (invA (ordT A) (ordT A).length) (fullM (ordT A).length)) la mA mO mJ) ?_)))))
    exact R.go 3 (k30 (.bool (decide (bo = (lowF (ordT A) (fullM (ordT A).length)) ∧ t = (lowF (invA (ordT A) (ordT A).length) (fullM (ordT A).length)) ∧ A = (tabR (hyM (ordT A)) (ordT A).length (ordT A).length) ∧ O = (tabR (hyJ (ordT A)) (ordT A).length (ordT A).length) ∧ J = (tabR (hyI (ordT A)) (ordT A).length (ordT A).length)))) (by first | rfl | (apply congrArg AV.bool; first | exact hyIs_1 (by have h9 := (inR_not _ _ _).1 (by assumption : inR (A.length : Int) 1 30 = false); omega) | exact hyIs_2 (ntF (by assumption)) | exact hyIs_3 (ntF (by assumption)) | exact hyIs_4 (ntF (by assumption)) | (rw [ordT_len]; exact hyIs_6 (by omega) (by assumption) (by assumption) (by assumption) hB)) | (exfalso; omega)))
   iterate 5 refine k7 false (bnT c3) ?_
   refine k8 true (bnT c3) ?_
   exact R.go 6 (k30 (.bool false) (by first | rfl | (apply congrArg AV.bool; first | exact hyIs_1 (by have h9 := (inR_not _ _ _).1 (by assumption : inR (A.length : Int) 1 30 = false); omega) | exact hyIs_2 (ntF (by assumption)) | exact hyIs_3 (ntF (by assumption)) | exact hyIs_4 (ntF (by assumption)) | (rw [ordT_len]; exact hyIs_6 (by omega) (by assumption) (by assumption) (by assumption) hB)) | (exfalso; omega)))
  iterate 5 refine k7 false (bnT c2) ?_
  refine k8 true (bnT c2) ?_
  exact R.go 13 (k30 (.bool false) (by first | rfl | (apply congrArg AV.bool; first | exact hyIs_1 (by have h9 := (inR_not _ _ _).1 (by assumption : inR (A.length : Int) 1 30 = false); omega) | exact hyIs_2 (ntF (by assumption)) | exact hyIs_3 (ntF (by assumption)) | exact hyIs_4 (ntF (by assumption)) | (rw [ordT_len]; exact hyIs_6 (by omega) (by assumption) (by assumption) (by assumption) hB)) | (exfalso; omega)))
 iterate 5 refine k7 false (bnT c1) ?_
 refine k8 true (bnT c1) ?_
 exact R.go 20 (k30 (.bool false) (by first | rfl | (apply congrArg AV.bool; first | exact hyIs_1 (by have h9 := (inR_not _ _ _).1 (by assumption : inR (A.length : Int) 1 30 = false); omega) | exact hyIs_2 (ntF (by assumption)) | exact hyIs_3 (ntF (by assumption)) | exact hyIs_4 (ntF (by assumption)) | (rw [ordT_len]; exact hyIs_6 (by omega) (by assumption) (by assumption) (by assumption) hB)) | (exfalso; omega)))
theorem l18IsNE (A O J : List (List Int)) (bo t : Int) (la : A.length ≤ 1000000000 ∧ O.length ≤ 1000000000 ∧ J.length ≤ 1000000000) (mA : ∀ i0 : Nat, i0 < A.length → (A.getD i0 []).length ≤ 1000000000) (mO : ∀ i0 : Nat, i0 < O.length → (O.getD i0 []).length ≤ 1000000000) (mJ : ∀ i0 : Nat, i0 < J.length → (J.getD i0 []).length ≤ 1000000000) (hB : hyB (ordT A) = false) : CallE Tryz.prog 58 [.agg [LLI A, LLI O, LLI J, AI bo, AI t]] (fun (b : Nat) (r : AV) => r = .bool (hyIs A O J bo t)) := by
 refine CallE.of Tryz.func58 rfl (by kernel_rfl) (fun b => (R.go 8 (k16 true (l18Size_c A O J bo t) (R.go 6 (k16 true (l01In_c A.length 1 30) (R.go 2 ((Bool.eq_false_or_eq_true (inR A.length 1 30)).elim (fun c1 => ?_) (fun c1 => ?_))))))))
 ·refine k6 false (bnF c1) ?_
  iterate 3 refine R.go 1 (k6 false (bnF c1) ?_)
  refine k16 true (l18Table_c A A.length (by first | omega | (simp <;> omega)) (by first | omega | (simp <;> omega)) mA) (k6 false (bnF c1) (R.go 1 (k8 false (bnF c1) (R.go 1 ((Bool.eq_false_or_eq_true (tabB A.length A)).elim (fun c2 => ?_) (fun c2 => ?_))))))
  ·refine k6 false (bnF c2) ?_
   iterate 3 refine R.go 1 (k6 false (bnF c2) ?_)
   refine k16 true (l18Table_c O A.length (by first | omega | (simp <;> omega)) (by first | omega | (simp <;> omega)) mO) (k6 false (bnF c2) (R.go 1 (k8 false (bnF c2) (R.go 1 ((Bool.eq_false_or_eq_true (tabB A.length O)).elim (fun c3 => ?_) (fun c3 => ?_))))))
   ·refine k6 false (bnF c3) ?_
    iterate 3 refine R.go 1 (k6 false (bnF c3) ?_)
    refine k16 true (l18Table_c J A.length (by first | omega | (simp <;> omega)) (by first | omega | (simp <;> omega)) mJ) (k6 false (bnF c3) (R.go 1 (k8 false (bnF c3) (R.go 1 (k22 (tabB A.length J) (fun c4 => ?_) (fun c4 => ?_))))))
    ·exact R.go 4 (k30 (.bool false) (by first | rfl | (apply congrArg AV.bool; first | exact hyIs_1 (by have h9 := (inR_not _ _ _).1 (by assumption : inR (A.length : Int) 1 30 = false); omega) | exact hyIs_2 (ntF (by assumption)) | exact hyIs_3 (ntF (by assumption)) | exact hyIs_4 (ntF (by assumption)) | exact hyIs_5 hB) | (exfalso; omega)))
    have hr30 := (inR_iff _ _ _).1 (by assumption : inR (A.length : Int) 1 30 = true)
    have hol := ordT_len A
    have hRl : RelOK (ordT A).length (ordT A) := ordT_rel (by omega)
    refine R.go 4 (k16 true (l18Order_c A O J bo t c2 (by first | omega | (simp <;> omega))) (k16 false (l18BuildN_c (ordT A) (by first | omega | (simp <;> omega)) hRl hB) ?_ (hr := by simp [AV.closed, closedL, AI])))
    exact R.go 17 (k30 (.bool false) (by first | rfl | (apply congrArg AV.bool; first | exact hyIs_1 (by have h9 := (inR_not _ _ _).1 (by assumption : inR (A.length : Int) 1 30 = false); omega) | exact hyIs_2 (ntF (by assumption)) | exact hyIs_3 (ntF (by assumption)) | exact hyIs_4 (ntF (by assumption)) | exact hyIs_5 hB) | (exfalso; omega)))
   iterate 5 refine k7 false (bnT c3) ?_
   refine k8 true (bnT c3) ?_
   exact R.go 6 (k30 (.bool false) (by first | rfl | (apply congrArg AV.bool; first | exact hyIs_1 (by have h9 := (inR_not _ _ _).1 (by assumption : inR (A.length : Int) 1 30 = false); omega) | exact hyIs_2 (ntF (by assumption)) | exact hyIs_3 (ntF (by assumption)) | exact hyIs_4 (ntF (by assumption)) | exact hyIs_5 hB) | (exfalso; omega)))
  iterate 5 refine k7 false (bnT c2) ?_
  refine k8 true (bnT c2) ?_
  exact R.go 13 (k30 (.bool false) (by first | rfl | (apply congrArg AV.bool; first | exact hyIs_1 (by have h9 := (inR_not _ _ _).1 (by assumption : inR (A.length : Int) 1 30 = false); omega) | exact hyIs_2 (ntF (by assumption)) | exact hyIs_3 (ntF (by assumption)) | exact hyIs_4 (ntF (by assumption)) | exact hyIs_5 hB) | (exfalso; omega)))
 iterate 5 refine k7 false (bnT c1) ?_
 refine k8 true (bnT c1) ?_
 exact R.go 20 (k30 (.bool false) (by first | rfl | (apply congrArg AV.bool; first | exact hyIs_1 (by have h9 := (inR_not _ _ _).1 (by assumption : inR (A.length : Int) 1 30 = false); omega) | exact hyIs_2 (ntF (by assumption)) | exact hyIs_3 (ntF (by assumption)) | exact hyIs_4 (ntF (by assumption)) | exact hyIs_5 hB) | (exfalso; omega)))
theorem l18Is_c (A O J : List (List Int)) (bo t : Int) (la : A.length ≤ 1000000000 ∧ O.length ≤ 1000000000 ∧ J.length ≤ 1000000000) (mA : ∀ i0 : Nat, i0 < A.length → (A.getD i0 []).length ≤ 1000000000) (mO : ∀ i0 : Nat, i0 < O.length → (O.getD i0 []).length ≤ 1000000000) (mJ : ∀ i0 : Nat, i0 < J.length → (J.getD i0 []).length ≤ 1000000000) : CallA Tryz.prog 58 [.agg [LLI A, LLI O, LLI J, AI bo, AI t]] (.bool (hyIs A O J bo t)) := by
 cases e : hyB (ordT A) with
 | true => exact CallE.toA (l18IsYE A O J bo t la mA mO mJ e)
 | false => exact CallE.toA (l18IsNE A O J bo t la mA mO mJ e)
end Go.Proofs.YtjllngcefoohpaaGreat

/-! Calls by reference whose caller's frame does not name one object (a row that the call may move). -/
namespace Go.Abs
open Go.RowKit Go.ChangeShapes Go.WideShapes Go.Deep
mutual
theorem AV.kill_ren {js : List Nat} {q q2 : Nat} (h : ∀ i, js.contains i = true → js.idxOf i = q → i = q2) : ∀ c : AV, c.kill q2 = c → (c.ren js).kill q = c.ren js
 | .int _ _, _ => rfl
 | .bool _, _ => rfl
 | .str _, _ => rfl
 | .nil, _ => rfl
 | .top, _ => rfl
 | .own _ _ _ _, _ => rfl
 | .lst _ _ _, _ => rfl
 | .clp _ _ _, _ => rfl
 | .nam _ _ _ _ _, _ => rfl
 | .rptr _, _ => rfl
 | .ref i, hk => by
  simp only [AV.kill, AV.ren] at hk ⊢
  split at hk
  ·cases hk
  ·rename_i hne
   cases hc : js.contains i with
   | true =>
    simp only [if_true, AV.kill]
    rw [if_neg fun e => hne (h i hc e)]
   | false => simp [AV.kill]
 | .ptr i o, hk => by
  simp only [AV.kill, AV.ren] at hk ⊢
  split at hk
  ·cases hk
  ·rename_i hne
   cases hc : js.contains i with
   | true =>
    simp only [if_true, AV.kill]
    rw [if_neg fun e => hne (h i hc e)]
   | false => simp [AV.kill]
 | .agg cs, hk => by
  simp only [AV.kill, AV.agg.injEq] at hk
  simp only [AV.ren, AV.kill, killL_ren h cs hk]
 | .tup cs, hk => by
  simp only [AV.kill, AV.tup.injEq] at hk
  simp only [AV.ren, AV.kill, killL_ren h cs hk]
 | .fn f cs, hk => by
  simp only [AV.kill, AV.fn.injEq, true_and] at hk
  simp only [AV.ren, AV.kill, killL_ren h cs hk]
theorem killL_ren {js : List Nat} {q q2 : Nat} (h : ∀ i, js.contains i = true → js.idxOf i = q → i = q2) : ∀ cs : List AV, killL q2 cs = cs → killL q (renL js cs) = renL js cs
 | [], _ => rfl
 | c :: cs, hk => by
  simp only [killL, List.cons.injEq] at hk
  simp only [renL, killL, AV.kill_ren h c hk.1, killL_ren h cs hk.2]
end
theorem killL_app (q : Nat) : ∀ xs ys : List AV, killL q (xs ++ ys) = killL q xs ++ killL q ys
 | [], _ => rfl
 | x :: xs, ys => by simp [killL, killL_app q xs ys]
theorem insI_kill {k n q : Nat} (hk : k ≤ n) : ∀ i, (insI k n).contains i = true → (insI k n).idxOf i = q → i = (if q < k then q else q + 1) := fun i hi hq => by
 obtain ⟨_, g2⟩ := insI_idx hk hi
 rw [hq] at g2
 exact g2
def CallY (P : Program) (q : Nat) (f : FuncId) (args : List AV) (hp : List AObj) (Φ : AV → List AObj → Prop) : Prop :=
 Enters P f ∧ ∀ (Z0 F : Nat → Prop) (w0 w : World) (μ vs us : List Value) (fr : List AV), (∀ b, F b → w0.heap.size ≤ b ∧ b < w.heap.size) → HRel w (Zone Z0 F w0.heap.size) w0.heap.size μ hp → RelL w (Zone Z0 F w0.heap.size) μ args vs → RelL w (Zone Z0 F w0.heap.size) μ fr us → Below w0.heap.size w0 w → killL q fr = fr →
  Calls P f vs.toArray w fun e w' => ∃ v μ' F' res hp', Φ res hp' ∧ e = .returned v ∧ (∀ b, F' b → w0.heap.size ≤ b ∧ b < w'.heap.size) ∧ HRel w' (Zone Z0 F' w0.heap.size) w0.heap.size μ' hp' ∧ Rel w' (Zone Z0 F' w0.heap.size) μ' res v ∧ RelL w' (Zone Z0 F' w0.heap.size) μ' fr us ∧ Below w0.heap.size w0 w'
section
variable {rd : Option Nat} {P : Program} {m : M} {Q : Exit → St → Prop}
theorem CallY.ofF {q : Nat} {f : FuncId} {fn : Func} {c : Code} {args : List AV} {hp : List AObj} {Φ : AV → List AObj → Prop} (hf : P.funcs[f]? = some fn) (hb : fn.body = some c) (hnm : (fn.name == "runtime.NumGoroutine") = false)
  (h : ∀ us fr, Fits hp.length fr → killL q fr = fr → Runs none P ⟨[.code c], ⟨frameOf fn.ntmps args, hp ++ [.frame us fr]⟩⟩ (retX P fn hp.length us fr Φ)) : CallY P q f args hp Φ := by
 refine ⟨enters_of hf hnm (by rw [hb]; rfl), ?_⟩
 intro Z0 F w0 w μ vs us fr hFb hH hvs hus hbel hkq
 have hml := hH.len
 have hfit : Fits hp.length fr := ⟨fun js hjs => RelL.fitR (by rw [hml]; exact hjs) hus, fun i hi => RelL.fitK (by rw [hml]; exact hi) hus, fun i r hi => RelL.fitF (by rw [hml]; exact hi) hus⟩
 ·have hlen := hvs.length
  refine calls_of_wpIn hf hb ?_
  have hS : Sim Z0 w0 ⟨frameOf fn.ntmps args, hp ++ [.frame us fr]⟩ { tmps := vs.toArray ++ Array.replicate (fn.ntmps - vs.toArray.size) undef, defers := [] } w := by
   refine ⟨μ ++ [.bool false], F, hFb, hH.extend1 (zone_new hbel.size hFb) (Below.refl _ _) ?_ (fun g hg => by simp [blk] at hg) rfl, ?_, .inl rfl, hbel⟩
   ·exact RelL.keep (w := w) (fun _ _ _ => rfl) (fun i u hu => append_old i u hu) hus
   ·simp only [Array.toList_append, Array.toList_replicate, List.size_toArray, hlen, frameOf]
    refine RelL.append (RelL.keep (w := w) (fun _ _ _ => rfl) (fun i u hu => append_old i u hu) hvs) ?_
    generalize fn.ntmps - args.length = n
    induction n with
    | zero => exact RelL.nil
    | succ n ih => exact RelL.cons (by simp [Rel]) ih
  have hrun2 := h us fr hfit hkq
  simp only [runs_iff] at hrun2
  simp only [RunsK] at hrun2
  refine wpIn_mono (hrun2 Z0 w0 _ w hS) ?_
  have fin : ∀ (e : Exit) (st' : St) (a' : Act) (w' : World), retX P fn hp.length us fr Φ e st' → Sim Z0 w0 st' a' w' → a'.defers = [] ∧ ∃ v, (results fn a'.tmps).run P w' = .ok v w' ∧ ∃ v' μ' F' res hp', Φ res hp' ∧ Ending.returned v = .returned v' ∧ (∀ b, F' b → w0.heap.size ≤ b ∧ b < w'.heap.size) ∧ HRel w' (Zone Z0 F' w0.heap.size) w0.heap.size μ' hp' ∧ Rel w' (Zone Z0 F' w0.heap.size) μ' res v' ∧ RelL w' (Zone Z0 F' w0.heap.size) μ' fr us ∧ Below w0.heap.size w0 w' := by
   rintro e st' a' w' ⟨res, hp', hΦ, _, hres, hfr, hh⟩ ⟨μ', F', hFb', hH', hF', hd', hbel'⟩
   obtain ⟨x, h1, h2⟩ := resIn_run hH' hF' hres
   unfold frameAt at hfr
   split at hfr
   ·rename_i us2 fr2 hi
    cases hfr
    have hil : hp.length < μ'.length := by rw [hH'.len]; exact (List.getElem?_eq_some_iff.1 hi).1
    have hfrr : RelL w' (Zone Z0 F' w0.heap.size) μ' fr us := hH'.obj _ _ _ hi (List.getElem?_eq_getElem hil)
    exact ⟨hd'.none (resIn_mark hres), x, h1, x, μ', F', res, hp', hΦ, rfl, hFb', hh ▸ hH'.bury _, h2, hfrr, hbel'⟩
   ·cases hfr
  rintro e a' w' ⟨st', hq, hS'⟩
  cases e with
  | normal => exact fin _ st' a' w' hq hS'
  | ret => exact fin _ st' a' w' hq hS'
  | exit id => (obtain ⟨_, _, _, hq, _⟩ := hq; exact absurd hq (by simp))
  | goto l => (obtain ⟨_, _, _, hq, _⟩ := hq; exact absurd hq (by simp))
  | panic ch => (obtain ⟨_, _, _, hq, _⟩ := hq; exact absurd hq (by simp))
  | outgrown => (obtain ⟨_, _, _, hq, _⟩ := hq; exact absurd hq (by simp))
end
section
variable {P : Program}
theorem CallY.dropE {P : Program} {q : Nat} {f : FuncId} {args : List AV} {hp : List AObj} {Φ : AV → List AObj → Prop} (hc : CallY P q f args hp fun r h => ∃ js : List Nat, js.take hp.length = List.range hp.length ∧ js.Nodup ∧ Φ (r.ren js) (renH js h)) :
  CallY P q f args hp Φ := by
 obtain ⟨hen, hc⟩ := hc
 refine ⟨hen, ?_⟩
 intro Z0 F w0 w μ vs us fr hFb hH hvs hus hbel hkq
 refine (hc Z0 F w0 w μ vs us fr hFb hH hvs hus hbel hkq).mono ?_
 rintro e w' ⟨v, μ1, F1, res, hp', ⟨js, h1, h2, hΦ⟩, rfl, hF1, hH1, hres, hfr1, hb1⟩
 have hm1 := hH1.len
 have hjs : ∀ i, i < hp.length → js[i]? = some i := by
  intro i hi
  have := congrArg (fun l : List Nat => l[i]?) h1
  simp only [List.getElem?_take, if_pos hi] at this
  rw [this]
  simp [hi]
 refine ⟨v, _, F1, _, _, hΦ, rfl, hF1, hH1.ren js h2, Rel.ren js hres, ?_, hb1⟩
 refine RelL.mix (n := hp.length) ?_ ?_ hus (hfr1.ren (List.range hp.length))
 ·intro i x hi hx
  rw [List.getElem?_map, hjs i hi]
  rw [List.getElem?_map] at hx
  simpa [hi] using hx
 ·intro i x hi hx
  have h4 := (List.getElem?_eq_some_iff.1 hx).1
  have h5 := hH.len
  omega
theorem CallY.inF {q : Nat} {f : FuncId} {args : List AV} {hp : List AObj} {Φ : AV → List AObj → Prop} (k : Nat) (us2 : List Value) (fr2 : List AV) (hc : CallY P q f args hp Φ) (hk : k ≤ hp.length)
  (h1 : renH (insI k hp.length) (insF k us2 fr2 hp) = hp) (h2 : renL (insI k hp.length) (renL (insJ k hp.length) args) = args) (h3 : ∀ r h', Φ r h' → hp.length ≤ h'.length) (q2 : Nat) (hq2 : q2 = if q < k then q else q + 1) (hkf : killL q2 fr2 = fr2) :
  CallY P q2 f (renL (insJ k hp.length) args) (insF k us2 fr2 hp) fun r h => ∃ res hp', Φ res hp' ∧ r = res.ren (insJ k hp'.length) ∧ h = insF k us2 fr2 hp' := by
 obtain ⟨hen, hc⟩ := hc
 refine ⟨hen, ?_⟩
 intro Z0 F w0 w μ vs us fr hFb hH hvs hus hbel hkq
 have hHl : (insF k us2 fr2 hp).length = hp.length + 1 := by
  unfold insF renH insJ
  simp
  omega
 have hml : μ.length = hp.length + 1 := by rw [hH.len, hHl]
 have hH0 := hH.ren (insI k hp.length) (insI_nodup hk)
 have e0 : ((insI k hp.length).map fun i => ((insF k us2 fr2 hp).getD i .dead).ren (insI k hp.length)) = hp := h1
 rw [e0] at hH0
 have hvs0 := hvs.ren (insI k hp.length)
 rw [h2] at hvs0
 have hn2 : (insF k us2 fr2 hp)[k]? = some (.frame us2 fr2) := by
  unfold insF
  rw [List.getElem?_set_self]
  have : (renH (insJ k hp.length) (hp ++ [.dead])).length = hp.length + 1 := by unfold renH insJ; simp; omega
  omega
 obtain ⟨u, hu⟩ : ∃ u, μ[k]? = some u := ⟨_, List.getElem?_eq_getElem (by omega)⟩
 have hf2 : RelL w (Zone Z0 F w0.heap.size) μ fr2 us2 := hH.obj _ _ u hn2 hu
 have hus0 := (hus.append hf2).ren (insI k hp.length)
 refine (hc Z0 F w0 w _ vs (us ++ us2) _ hFb hH0 hvs0 hus0 hbel (killL_ren (q2 := q2) (fun i hi e => by rw [hq2]; exact insI_kill hk i hi e) _ (by rw [killL_app, hkq, hkf]))).mono ?_
 rintro e w' ⟨v, μ1, F1, res, hp', hΦ, rfl, hF1, hH1, hres, hfr1, hb1⟩
 have h3 := h3 _ _ hΦ
 have hm1 := hH1.len
 have hHd := hH1.addDead u (hH.one _ u hu)
 have hH2 := hHd.ren (insJ k hp'.length) (insJ_nodup (by omega))
 obtain ⟨μ2, hμ2⟩ : ∃ μ2, μ2 = ((insJ k hp'.length).map fun i => (μ1 ++ [u]).getD i (.bool false)) := ⟨_, rfl⟩
 have hA : ∀ (i : Nat) x, (insI k hp.length).contains i = true → μ1[(insI k hp.length).idxOf i]? = some x → μ2[i]? = some x := by
  intro i x hi hx
  obtain ⟨g1, g2⟩ := insI_idx hk hi
  generalize (insI k hp.length).idxOf i = j at g1 g2 hx
  have hj : (insJ k hp'.length)[i]? = some j := by
   split at g2
   ·rw [g2]; exact insJ_lo (by assumption)
   ·rw [g2]; exact insJ_hi (by omega) (by omega)
  rw [hμ2, List.getElem?_map, hj]
  simp only [Option.map_some, List.getD_eq_getElem?_getD]
  rw [List.getElem?_append_left (List.getElem?_eq_some_iff.1 hx).1, hx]
  rfl
 have hB : ∀ (i : Nat) x, (insI k hp.length).contains i = false → μ[i]? = some x → μ2[i]? = some x := by
  intro i x hi hx
  have hlt := (List.getElem?_eq_some_iff.1 hx).1
  have hin : i = k := by
   refine Classical.byContradiction fun hne => ?_
   have := insI_mem hk (i := i) (by omega) hne
   rw [this] at hi
   cases hi
  subst hin
  rw [hu] at hx
  rw [hμ2, List.getElem?_map, insJ_at]
  simp only [Option.map_some, List.getD_eq_getElem?_getD]
  rw [List.getElem?_append_right (by omega), hm1]
  simpa using hx
 rw [← hμ2] at hH2
 have hall := RelL.mixJ hA hB (hus.append hf2) hfr1
 have hul := hus.length
 have hfr : RelL w' (Zone Z0 F1 w0.heap.size) μ2 fr us := by
  have := hall.take fr.length
  rwa [List.take_left, ← hul, List.take_left] at this
 have hfr2 : RelL w' (Zone Z0 F1 w0.heap.size) μ2 fr2 us2 := by
  have := hall.drop fr.length
  rwa [List.drop_left, ← hul, List.drop_left] at this
 refine ⟨v, μ2, F1, _, _, ⟨res, hp', hΦ, rfl, rfl⟩, rfl, hF1, ?_, ?_, hfr, hb1⟩
 ·refine hH2.frameAt ?_ hfr2
  rw [List.getElem?_map, insJ_at]
  simp [AObj.ren]
 ·rw [hμ2]
  exact Rel.ren _ (Rel.keep (w := w') (fun _ _ _ => rfl) (fun i u hu => append_old i u hu) hres)
end
end Go.Abs
